/- The walks of the document's filters: New, Add. -/
import Derived.Test.YtambdddahbgelaaBloomS
namespace Go.Proofs.Ytambdddahbgelaa.Bl
open Go.RowKit

def bv (bs : List Nat) : List Value := bs.map bc
theorem bv_len (bs : List Nat) : (bv bs).length = bs.length := by simp [bv]
theorem bv_one (bs : List Nat) : ∀ u ∈ bv bs, u.oneCell' = true := by
  intro u hu
  obtain ⟨b, _, rfl⟩ := List.mem_map.1 hu
  rfl
theorem bv_set (bs : List Nat) (i b : Nat) : (bv bs).set i (.int .u8 (b : Int)) = bv (bs.set i b) := by unfold bv; rw [List.map_set]; rfl
theorem bv_get (bs : List Nat) (i : Nat) (h : i < bs.length) : (bv bs)[i]? = some (.int .u8 (bs.getD i 0 : Nat)) := by
  simp [bv, List.getElem?_eq_getElem h, bc]
/-- A filter of the document's: a row of the call's own. -/
def Own (w : World) (base : Nat) (v : Value) (bs : List Nat) : Prop := w.ownsRow base 5 1 v bs.length (bv bs) ∧ Bytes bs
theorem Own.rd {w : World} {base : Nat} {A : Option Addr} {c : Nat} {bs : List Nat} (h : Own w base (.slice A bs.length c) bs) : RD w w.heap.size A bs := ⟨Reads.of_own h.1, h.2⟩
theorem Own.kept {w w' : World} {base : Nat} {v : Value} {bs : List Nat} (h : Own w base v bs) (hb : Below w.heap.size w w') : Own w' base v bs :=
  ⟨h.1.kept (grow_of_below hb none) (by cases hv : v.ownBlock <;> simp), h.2⟩
theorem Own.far {w w' : World} {base : Nat} {v : Value} {bs : List Nat} (h : Own w base v bs) {g : Nat} (hb : w.grownBy w' (some g)) (hne : v.ownBlock ≠ some g) : Own w' base v bs :=
  ⟨h.1.kept hb (.inr hne), h.2⟩

set_option maxHeartbeats 400000 in
theorem newr_bad (n : Int) (w : World) (h : n < 0 ∨ 262144 < n) :
    Calls Try.prog 16 #[.int .i64 n] w fun e w' => e = .returned (.tuple #[.agg #[.slice none 0 0], .int .i64 90]) ∧ Below w.heap.size w w' := by
  rcases h with h | h
  · go_enter Try.func16, Try.ntmps16
    go_wp2
    refine bodyPost_ret (v := .tuple #[.agg #[.slice none 0 0], .int .i64 90]) (by simp [results, Try.results16, go_sem]) rfl ⟨rfl, ?_⟩
    exact (Below.refl _ _).alloc (Nat.le_refl _) _
  · have h' : ¬ n < 0 := by omega
    go_enter Try.func16, Try.ntmps16
    go_wp2
    refine bodyPost_ret (v := .tuple #[.agg #[.slice none 0 0], .int .i64 90]) (by simp [results, Try.results16, go_sem]) rfl ⟨rfl, ?_⟩
    exact (Below.refl _ _).alloc (Nat.le_refl _) _

theorem bytesFor_ref (n : Nat) (w : World) (h : n ≤ 262144) :
    Calls Try.prog 49 #[.int .i64 (n : Int)] w fun e w' => e = .returned (.int .i64 (nby n : Nat)) ∧ w = w' := by
  have h0 : ¬ (n : Int) < 0 := by omega
  by_cases ha : 10 * n < 64
  · have e : nby n = 8 := by unfold nby; omega
    have ha' : (10 : Int) * n < 64 := by omega
    rw [e]
    clear e
    go_enter Try.func49, Try.ntmps49
    go_wp2
    go_ret
    exact ⟨rfl, rfl⟩
  · by_cases hb : 10 * n ≤ 1048576
    · have ha' : (64 : Int) ≤ 10 * n := by omega
      have hb' : (10 : Int) * n ≤ 1048576 := by omega
      have Fin : Hid ((10 * (n : Int) + 7) / 8 = nby n) := Lib.hid (by unfold nby; omega)
      go_enter Try.func49, Try.ntmps49
      go_wp2
      go_ret
      exact ⟨by rw [← Fin.out]; rfl, rfl⟩
    · have e : nby n = 131072 := by unfold nby; omega
      have ha' : (64 : Int) ≤ 10 * n := by omega
      have hb' : (1048576 : Int) < 10 * n := by omega
      rw [e]
      clear e
      go_enter Try.func49, Try.ntmps49
      go_wp2
      go_ret
      exact ⟨rfl, rfl⟩

/-- A filter of the document's, told with a number. -/
def FilN (w : World) (bs : List Nat) (n : Int) (e : Ending) (w' : World) : Prop :=
  ∃ g cap, e = .returned (.tuple #[.agg #[.slice (some ⟨g, 0, none⟩) bs.length cap], .int .i64 n]) ∧ Own w' w.heap.size (.slice (some ⟨g, 0, none⟩) bs.length cap) bs ∧ Below w.heap.size w w'

theorem zs_own (w : World) (base n : Nat) (hn : n ≤ 131072) (hb : base ≤ w.heap.size) : Own (w.alloc (.cells (bcs (zs n)) 5)) base (.slice (some ⟨w.heap.size, 0, none⟩) (zs n).length (zs n).length) (zs n) := by
  refine ⟨⟨by simp [bv], .inr ⟨w.heap.size, _, bcs (zs n), rfl, hb, heap_alloc_new w _, Nat.le_refl _, by rw [zs_len]; unfold maxLen; omega, by simp [bcs], ?_⟩⟩, ?_⟩
  · simp only [bcs, bv, Nat.mul_one]
    rw [List.take_of_length_le (by simp)]
  · intro b hb
    rw [List.eq_of_mem_replicate hb]
    decide

set_option maxHeartbeats 400000 in
theorem newr_ok (n : Nat) (w : World) (h : n ≤ 262144) :
    Calls Try.prog 16 #[.int .i64 (n : Int)] w (FilN w (zs (nby n)) 0) := by
  have c0 := fun wx => bytesFor_ref n wx h
  have hbd := nby_bd n
  have hmk := run_mk (nby n) hbd.2
  have fin := fun X => zs_own (w.alloc (.cells #[X] 34)) w.heap.size (nby n) hbd.2 (by simp)
  have Fin := Lib.hid fin
  have Len := Lib.hid (zs_len (nby n))
  have C0 := Lib.hid c0
  clear fin c0 hbd
  have h0 : ¬ (n : Int) < 0 := by omega
  have h00 : ¬ (262144 : Int) < n := by omega
  generalize zs (nby n) = bs at *
  generalize nby n = m at *
  go_enter Try.func16, Try.ntmps16
  go_wp2_with (go_at_call 49; refine (C0.out _).mono ?_; rintro e w' ⟨rfl, rfl⟩)
  have e1 : ∀ X, (w.alloc (.cells #[X] 34)).heap.size = w.heap.size + 1 := fun X => by simp
  have l := Len.out
  have f := Fin.out (.slice (some ⟨w.heap.size + 1, 0, none⟩) m m)
  rw [e1, l] at f
  refine bodyPost_ret (v := .tuple #[.agg #[.slice (some ⟨w.heap.size + 1, 0, none⟩) m m], .int .i64 0]) (by simp [results, Try.results16, go_sem]) rfl ?_
  refine ⟨w.heap.size + 1, m, by rw [l], ?_, ((Below.refl _ _).alloc (Nat.le_refl _) _).alloc (by simp) _⟩
  rw [l]
  exact f
end Go.Proofs.Ytambdddahbgelaa.Bl
