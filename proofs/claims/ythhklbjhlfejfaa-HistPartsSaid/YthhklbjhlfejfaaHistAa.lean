/- slices.Clone of buckets; the reference's With at a row that came in. -/
import Derived.Test.YthhklbjhlfejfaaHistY
namespace Go.Proofs.Ythhklbjhlfejfaa.Hi
open Go.RowKit
set_option maxRecDepth 20000
set_option maxHeartbeats 800000 in
theorem clone_any (A : Option Addr) (c : Nat) (l : List Bk) (w : World) (hR : Reads w w.heap.size 2 A l.length (bkC l)) (hl : l.length ≤ 1000000) :
    Calls Try.prog 31 #[.slice A l.length c] w fun e w' => ∃ v', e = .returned v' ∧ Row w.heap.size w w' v' l := by
  obtain ⟨inf, hi0, hz0, hz1, hz2⟩ := info_parts bk_info
  have R0 := Lib.hid (Row.empty w)
  have hnil := fun W : World => Lib.run_eql_slice_nil (P := Try.prog) W _ _ A l.length c 0 0 Try.underlying29
  rcases A with _ | a
  · have h0 : l.length = 0 := by
      rcases Nat.eq_zero_or_pos l.length with h | h
      · exact h
      · obtain ⟨b, o, e, _⟩ := hR.2 h; cases e
    have : l = [] := List.eq_nil_of_length_eq_zero h0
    subst this
    have hn0 := fun W : World => Lib.run_eql_slice_nil (P := Try.prog) W _ _ none 0 c 0 0 Try.underlying29
    clear hR h0 hnil
    go_enter Try.func31, Try.ntmps31
    go_wp2
    go_ret
    exact ⟨.slice none 0 0, rfl, Row.start _ _ _ (Below.refl _ _)⟩
  · rcases Nat.eq_zero_or_pos l.length with h0 | h0
    · have : l = [] := List.eq_nil_of_length_eq_zero h0
      subst this
      have hn0 := fun W : World => Lib.run_eql_slice_nil (P := Try.prog) W _ _ (some a) 0 c 0 0 Try.underlying29
      clear hR h0 hnil
      go_enter Try.func31, Try.ntmps31
      go_wp2
      go_ret
      exact ⟨_, rfl, R0.out⟩
    · obtain ⟨b, o, e, hb⟩ := hR.2 h0
      cases e
      have HR := Lib.hid hR
      have L1 := Lib.hid (bkC_len l)
      clear hR hb
      go_enter Try.func31, Try.ntmps31
      go_wp2_with (at_builtin; refine wpList_append_own _ rfl _ _ 29 rfl w.heap.size 48 inf _ 2 16 Try.underlying29 hi0 hz0 hz1 hz2 rfl (by decide) (.slice (some ⟨w.heap.size, 0, none⟩) 0 0) 0 (bkC []) rfl R0.out.own ⟨b, o, none⟩ l.length c (bkC l) rfl L1.out ?a1 (bkC_one _) ?a3 ?a4 ?a5 ?_)
      case a1 =>
        intro i u hu
        obtain ⟨h1, h2⟩ := reads_cell HR.out i u hu
        rw [add_lit, World.cell?_alloc_lt _ _ _ h1]
        exact h2
      case a3 => unfold maxLen; omega
      case a4 => omega
      case a5 => rw [World.size_alloc]; omega
      intro v1 w1 ho1 hg1 _
      have R1 : Hid (Row w.heap.size w w1 v1 l) := Lib.hid (R0.out.app (by rw [World.size_alloc]; omega) rfl (by rw [List.length_nil, Nat.zero_add]; simpa using ho1) hg1)
      clear ho1 hg1
      go_wp2
      go_ret
      exact ⟨v1, rfl, R1.out⟩

set_option maxHeartbeats 1600000 in
theorem with_empty (a : Addr) (c : Nat) (k n : Int) (w : World) : Calls Try.prog 29 #[.slice (some a) 0 c, .int .i64 k, .int .i64 n] w (WithPost w [] k n) := by
  obtain ⟨inf, hi0, hz0, hz1, hz2⟩ := info_parts bk_info
  have R0 := Lib.hid (Row.empty w)
  have F : Hid (putF [] k n = ([(k, n)], decide (n ≤ mostN))) := Lib.hid rfl
  unfold WithPost
  by_cases hc : c = 0
  all_goals
    (try subst hc)
    go_enter Try.func29, Try.ntmps29
    go_wp2
    go_loopw [8] (fun i wr => i = .int .i64 0 ∧ wr = w) (fun i _ => 0)
    case atStart => exact ⟨rfl, rfl⟩
    case round =>
      obtain ⟨rfl, rfl⟩ := hrel
      go_wp2_with (at_builtin; refine wpList_append_own _ rfl _ _ 29 rfl wr.heap.size 48 inf _ 2 16 Try.underlying29 hi0 hz0 hz1 hz2 rfl (by decide) (.slice (some ⟨wr.heap.size, 0, none⟩) 0 0) 0 (bkC []) rfl (R0.out.more (by rw [World.size_alloc]; omega) _).own ⟨wr.heap.size + 1, 0, none⟩ 1 1 (bkC [(k, n)]) rfl rfl ?a1 (bkC_one _) ?a3 ?a4 ?a5 ?_)
      case a1 =>
        have := news_one (w := wr.alloc (.cells #[] 48)) k n
        rw [World.size_alloc] at this
        exact this
      case a3 => decide
      case a4 => omega
      case a5 => simp; omega
      intro v2 w2 ho2 hg2 _
      have R2 : Hid (Row wr.heap.size wr w2 v2 [(k, n)]) := Lib.hid ((R0.out.more (by rw [World.size_alloc]; omega) _).app (by simp; omega) rfl ho2 hg2)
      clear ho2 hg2
      go_wp2_with (at_builtin; refine wpList_append_own _ rfl _ _ 29 rfl wr.heap.size 48 inf _ 2 16 Try.underlying29 hi0 hz0 hz1 hz2 rfl (by decide) v2 1 (bkC [(k, n)]) rfl R2.out.own _ 0 _ (bkC []) rfl rfl ?b1 (bkC_one _) ?b3 ?b4 ?b5 ?_)
      case b1 => intro j u hu; cases hu
      case b3 => decide
      case b4 => omega
      case b5 => exact R2.out.bel.size
      intro v3 w3 ho3 hg3 _
      have R3 : Hid (Row wr.heap.size wr w3 v3 [(k, n)]) := Lib.hid (R2.out.app (X := []) (m := 0) R2.out.bel.size rfl ho3 hg3)
      clear ho3 hg3
      go_wp2
      go_ret2
      exact ⟨v3, by rw [F.out]; rfl, by rw [F.out]; exact R3.out⟩
end Go.Proofs.Ythhklbjhlfejfaa.Hi
