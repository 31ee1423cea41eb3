/- The law's example; short, few. -/
import Derived.Test.YthhklbjhlfejfaaHistO
namespace Go.Proofs.Ythhklbjhlfejfaa.Hi
open Go.RowKit
set_option maxRecDepth 20000
theorem reads_blk {w : World} {g : Nat} {t : TypeId} {cs : Array Value} (h : Blk w g t cs) (n size : Nat) (hn : cs.size = n * size) (xs : List Value) (hx : cs.toList = xs) : Reads w (g + 1) size (some ⟨g, 0, none⟩) n xs := by
  subst hx
  exact ⟨by rw [Array.length_toList]; exact hn, fun _ => ⟨g, 0, rfl, by omega, fun j u hu => by rw [Nat.zero_add, h.cell j]; simpa using hu⟩⟩
theorem own_reads {w : World} {base : Nat} {v : Value} {l : List Bk} (h : OwnB w base v l) : ∃ A c, v = .slice A l.length c ∧ Reads w w.heap.size 2 A l.length (bkC l) := own_shape h

set_option maxHeartbeats 3200000 in
theorem awake_any (w : World) : Calls Try.prog 11 #[] w fun e w' => e = .returned (.bool true) ∧ Below w.heap.size w w' := by
  have r0 := reads_blk (Blk.new w 3 #[.int .i64 (-1), .int .i64 0, .int .i64 9, .int .i64 10]) 4 1 rfl ([-1, 0, 9, 10].map (Value.int .i64)) rfl
  have c0 := of_any (some ⟨w.heap.size, 0, none⟩) 4 (w.heap.size + 1) 10 [-1, 0, 9, 10] _ r0 (by rw [World.size_alloc]; omega) (by decide) (by omega) (by intro t ht; simp at ht; omega)
  have e0 : ofF 10 [-1, 0, 9, 10] = [(-1, 1), (0, 2), (1, 1)] := by decide
  have n1 : ¬ (10 : Int) < 1 := by decide
  unfold OfPost at c0
  simp only [if_neg n1, e0] at c0
  clear r0 e0 n1
  go_enter Try.func11, Try.ntmps11
  go_wp2_with fail
  refine c0.mono ?_
  rintro e w1 ⟨v, rfl, hv⟩
  obtain ⟨A, c, rfl, hA⟩ := own_reads hv.own
  have hb1 := ((Below.refl _ _).alloc (Nat.le_refl _) _).trans (hv.bel.mono (show w.heap.size ≤ _ by rw [World.size_alloc]; omega))
  have Hb1 := Lib.hid hb1
  clear c0 hv hb1
  have c1 := key_any (-1) 10 w1 (by decide) (by decide)
  rw [if_neg (by decide)] at c1
  have r2 := reads_blk (Blk.new w1 48 #[.int .i64 (-1), .int .i64 1, .int .i64 0, .int .i64 2, .int .i64 1, .int .i64 1]) 3 2 rfl (bkC [(-1, 1), (0, 2), (1, 1)]) rfl
  have hs : ∀ o : Obj, w1.heap.size ≤ (w1.alloc o).heap.size := fun o => by rw [World.size_alloc]; omega
  obtain ⟨W2, hW2⟩ : ∃ W2, W2 = w1.alloc (.cells #[.int .i64 (-1), .int .i64 1, .int .i64 0, .int .i64 2, .int .i64 1, .int .i64 1] 48) := ⟨_, rfl⟩
  have hA2 := hA.alloc (Nat.le_refl _) (.cells #[.int .i64 (-1), .int .i64 1, .int .i64 0, .int .i64 2, .int .i64 1, .int .i64 1] 48)
  have hb2 : Below w1.heap.size w1 W2 := by rw [hW2]; exact (Below.refl _ _).alloc (Nat.le_refl _) _
  have hs2 := hb2.size
  rw [← hW2] at r2 hA2
  have c2 := rsame_any A (some ⟨w1.heap.size, 0, none⟩) c 3 w1.heap.size (w1.heap.size + 1) [(-1, 1), (0, 2), (1, 1)] [(-1, 1), (0, 2), (1, 1)] W2 hA2 r2 (by decide) (by decide)
  rw [decide_eq_true rfl] at c2
  have Hb2 := Lib.hid (Hb1.out.trans (hb2.mono Hb1.out.size))
  have HA2 := Lib.hid hA2
  have e4 : totF [(-1, 1), (0, 2), (1, 1)] = 4 := by simp [totF, wrap64]
  have c3 : ∀ w3, Below W2.heap.size W2 w3 → Calls Try.prog 20 #[.slice A 3 c] w3 (fun e w' => e = .returned (.int .i64 4) ∧ Below w3.heap.size w3 w') := fun w3 h => by
    rw [← e4]
    exact total_any A c w1.heap.size [(-1, 1), (0, 2), (1, 1)] w3 (HA2.out.below (h.mono hs2)) (Nat.le_trans hs2 h.size) (by decide)
  clear hA hA2 hb2 r2 hs e4
  go_wp2_with fail
  refine c1.mono ?_
  rintro e w2 ⟨rfl, rfl⟩
  subst hW2
  go_wp2_with fail
  refine c2.mono ?_
  rintro e w3 ⟨rfl, hb3⟩
  have c4 := c3 w3 hb3
  have Hb3 := Lib.hid (Hb2.out.trans (hb3.mono Hb2.out.size))
  clear hb3 c3
  go_wp2_with fail
  refine c4.mono ?_
  rintro e w4 ⟨rfl, hb4⟩
  have Hb4 := Lib.hid (Hb3.out.trans (hb4.mono Hb3.out.size))
  clear hb4 c4
  go_wp2
  go_ret
  exact ⟨rfl, Hb4.out⟩
end Go.Proofs.Ythhklbjhlfejfaa.Hi
