/- The reference's Runes, put, Encode, Fold, Valid, SameInts. -/
import Derived.Test.YtjfconddkfihcaaUtfS
import Derived.Test.YtjfconddkfihcaaUtfRw
namespace Go.Proofs.Ytjfconddkfihcaa.Ut
open Go.RowKit
set_option maxRecDepth 20000

set_option maxHeartbeats 800000 in
theorem runes_ref (s : ByteArray) (w : World) (hs : s.size ≤ 4398046511104) :
    Calls Try.prog 77 #[.string s] w fun e w' => ∃ v, e = .returned v ∧ w'.ownsRow w.heap.size 3 1 v (runes s.data.toList).length (rv (runes s.data.toList)) ∧ Below w.heap.size w w' := by
  obtain ⟨i0, hi0, hz0, hz1, hz2⟩ := info_parts int_info
  go_enter Try.func77, Try.ntmps77
  go_wp2
  go_loopw [3, 4] (fun v i wr => ∃ (k : Nat) (l : List Nat), k ≤ s.size ∧ i = .int .i64 k ∧ l.length ≤ k ∧ runes s.data.toList = l ++ runes (s.data.toList.drop k) ∧ wr.ownsRow w.heap.size 3 1 v l.length (rv l) ∧ Below w.heap.size w wr)
    (fun _ i _ => s.size - (intOf i).toNat)
  case atStart => exact ⟨0, [], Nat.zero_le _, rfl, by simp, rfl, World.ownsRow_nil _ _ _ _, Below.refl _ _⟩
  case round =>
    obtain ⟨k, l, hk, rfl, hlk, hru, hown, hb⟩ := hrel
    by_cases hlt : k < s.size
    · have hne : s.data.toList.drop k ≠ [] := by rw [drop_cons s k hlt]; simp
      have hsz := dec_size _ hne
      rw [List.length_drop, bsize] at hsz
      have hrc := runes_cons _ hne
      rw [hrc, List.drop_drop] at hru
      have c := decr_any s (k : Int) wr (by omega)
      rw [decAt_nat] at c
      have Hru := Lib.hid hru
      clear hrc hru hne
      generalize dec (s.data.toList.drop k) = d at *
      have hd1 := hsz.1
      have hd2 := hsz.2.1
      have hd4 := hsz.2.2
      clear hsz
      go_wp2_with fail
      refine c.mono ?_
      rintro e wr ⟨rfl, rfl⟩
      have hbw := hb
      have hown2 := hown
      have hsz2 := hbw.size
      go_wp2_with (at_builtin; refine wpList_append_own _ rfl _ _ 111 rfl w.heap.size 3 i0 (.int .i64 0) 1 8 Try.underlying111 hi0 hz0 hz1 hz2 rfl (by decide) _ _ _ rfl (hown2.alloc _) ⟨wr.heap.size, 0, none⟩ 1 1 [.int .i64 (d.1 : Int)] rfl rfl ?c1 ?c2 ?c3 ?c4 ?c5 ?_)
      case c1 => exact World.news_of_block (cs := #[.int .i64 (d.1 : Int)]) (t := 3) (fr := (0, 0)) (heap_alloc_new wr _)
      case c2 => intro u hu; simp at hu; subst hu; rfl
      case c3 => unfold maxLen; omega
      case c4 => omega
      case c5 => simp; omega
      intro v' w3 hown3 hg3 _
      have hb3 : Below w.heap.size w w3 := (hbw.alloc hsz2 _).grown hg3 (by simp; omega) (fun j hj => (hown2.lt _ hj).1)
      have Hb3 := Lib.hid hb3
      have Hown3 := Lib.hid hown3
      clear hb3 hown3 hg3 hown2 hbw hown hb
      go_wp2
      go_roundw
      case rel => exact ⟨k + d.2, l ++ [d.1], by omega, by go_num, by rw [List.length_append]; simp; omega, by rw [Hru.out]; simp, by
          rw [List.length_append]
          have := Hown3.out
          simpa [rv] using this, Hb3.out⟩
      case measure => simp [intOf]; omega
    · have hd0 : s.data.toList.drop k = [] := drop_out s k (by omega)
      rw [hd0, runes_nil, List.append_nil] at hru
      have Hru := Lib.hid hru
      clear hru hd0
      go_wp2
      go_ret
      exact ⟨_, rfl, by rw [Hru.out]; exact hown, hb⟩
end Go.Proofs.Ytjfconddkfihcaa.Ut
