/- The reference's Is. -/
import Derived.Test.YthhklbjhlfejfaaHistT
namespace Go.Proofs.Ythhklbjhlfejfaa.Hi
open Go.RowKit
set_option maxRecDepth 20000
set_option maxHeartbeats 1600000 in
theorem is_any (A : Option Addr) (c B : Nat) (l : List Bk) (w : World) (hR : Reads w B 2 A l.length (bkC l)) (hB : B ≤ w.heap.size) (hl : l.length ≤ 1000000000) :
    Calls Try.prog 19 #[.slice A l.length c] w fun e w' => e = .returned (.bool (fineB l)) ∧ Below w.heap.size w w' := by
  have HR := Lib.hid hR
  clear hR
  go_enter Try.func19, Try.ntmps19
  go_wp2
  go_loopw [3] (fun i wr => ∃ k : Nat, k ≤ l.length ∧ i = .int .i64 k ∧ Fine (l.take k) ∧ Below w.heap.size w wr) (fun i _ => l.length - (intOf i).toNat)
  case atStart => exact ⟨0, Nat.zero_le _, rfl, Fine.nil, Below.refl _ _⟩
  case round =>
    obtain ⟨k, hk, rfl, hF, hb⟩ := hrel
    by_cases hlt : k < l.length
    · obtain ⟨bb, o, rfl, hbb, hc1, hc2⟩ := bks_at HR.out rfl hlt
      have d1 := (hb.cell (p := ⟨bb, o + k * 2, none⟩) (Nat.lt_of_lt_of_le hbb hB)).trans hc1
      have d2 := (hb.cell (p := ⟨bb, o + k * 2 + 1, none⟩) (Nat.lt_of_lt_of_le hbb hB)).trans hc2
      have Hb := Lib.hid hb
      have N1 := Lib.hid (fine_not1 (l := l) (k := k) hlt)
      have FN := Lib.hid (fine_next hF hlt)
      clear hc1 hc2 hb hF
      by_cases hy : l[k].2 < 1
      · have V := Lib.hid (fineB_f (N1.out hy))
        clear FN N1
        generalize l[k].1 = x at *
        generalize l[k].2 = y at *
        go_wp2
        go_quiet (fail)
        go_wp2
        go_ret
        exact ⟨by rw [V.out]; rfl, below_drewN Hb.out _⟩
      · rcases Nat.eq_zero_or_pos k with rfl | hkp
        · have F1 := Lib.hid (FN.out (by omega) (fun j hj => by omega))
          clear FN N1
          rw [Nat.zero_mul, Nat.add_zero] at d1 d2
          generalize l[0].1 = x at *
          generalize l[0].2 = y at *
          go_wp2
          have hyd : decide (y < 1) = false := decide_eq_false (by omega)
          go_quiet (fail)
          go_wp2
          go_roundw
          case rel => exact ⟨1, by omega, by go_num, F1.out, below_drewN Hb.out _⟩
          case measure => simp [intOf]; omega
        · obtain ⟨j, hj⟩ : ∃ j, j + 1 = k := ⟨k - 1, by omega⟩
          have hjl : j < l.length := by omega
          obtain ⟨bb', o', e', hbb', hc1', hc2'⟩ := bks_at HR.out rfl hjl
          cases e'
          have d3 := ((Hb.out.cell (p := ⟨bb, o + j * 2, none⟩) (Nat.lt_of_lt_of_le hbb hB)).trans hc1')
          have F1 : Hid (l[j].1 < l[k].1 → Fine (l.take (k + 1))) := Lib.hid (fun h => FN.out (by omega) (fun i hi => by
            obtain rfl : i = j := by omega
            exact h))
          have N2 : Hid (l[k].1 ≤ l[j].1 → ¬ Fine l) := Lib.hid (fine_not2 hj hlt)
          have hkp' : (0 : Int) < (k : Int) := by omega
          have hw1 : IntKind.i64.wrap ((k : Int) - 1) = (j : Int) := by rw [IntWalk.i64_in _ (by omega)]; omega
          have hw2 : wrap64 ((k : Int) - 1) = (j : Int) := by rw [IntWalk.wrap64_in _ (by omega)]; omega
          clear FN N1 hc1' hc2' hj
          generalize l[k].1 = x at *
          generalize l[k].2 = y at *
          generalize l[j].1 = z at *
          by_cases hz : x ≤ z
          · have V := Lib.hid (fineB_f (N2.out hz))
            go_wp2
            have hyd : decide (y < 1) = false := decide_eq_false (by omega)
            have hkd : decide ((0 : Int) < (k : Int)) = true := decide_eq_true (by omega)
            have hkd' : decide (0 < k) = true := decide_eq_true (by omega)
            go_quiet (fail)
            go_wp2
            go_ret
            exact ⟨by rw [V.out]; rfl, below_drewN Hb.out _⟩
          · have F2 := Lib.hid (F1.out (by omega))
            go_wp2
            have hyd : decide (y < 1) = false := decide_eq_false (by omega)
            have hkd : decide ((0 : Int) < (k : Int)) = true := decide_eq_true (by omega)
            have hkd' : decide (0 < k) = true := decide_eq_true (by omega)
            go_quiet (fail)
            go_wp2
            go_roundw
            case rel => exact ⟨k + 1, by omega, by go_num, F2.out, below_drewN Hb.out _⟩
            case measure => simp [intOf]; omega
    · have hall : l.take k = l := List.take_of_length_le (by omega)
      rw [hall] at hF
      have Hb := Lib.hid hb
      have V := Lib.hid (fineB_t hF)
      clear hb hF
      go_wp2
      go_ret
      exact ⟨by rw [V.out]; rfl, Hb.out⟩

theorem reads_cell {w : World} {B size n : Nat} {b o : Nat} {xs : List Value} (h : Reads w B size (some ⟨b, o, none⟩) n xs) : ∀ j u, xs[j]? = some u → b < B ∧ w.cell? ⟨b, o + j, none⟩ = some u := by
  intro j u hu
  rcases Nat.eq_zero_or_pos n with rfl | hn
  · have h1 := h.1
    rw [Nat.zero_mul] at h1
    have := List.eq_nil_of_length_eq_zero h1
    subst this
    simp at hu
  · obtain ⟨b', o', e, hb, hc⟩ := h.2 hn
    cases e
    exact ⟨hb, hc j u hu⟩
theorem reads_addr {w : World} {B size n : Nat} {A : Option Addr} {xs : List Value} (h : Reads w B size A n xs) (hn : 0 < n) : ∃ b o, A = some ⟨b, o, none⟩ := by
  obtain ⟨b, o, e, _⟩ := h.2 hn
  exact ⟨b, o, e⟩
/-- Behind an append to a row of the call's own. -/
theorem Row.app {B : Nat} {w wr w5 : World} {v v5 : Value} {l X : List Bk} {m : Nat} (h : Row B w wr v l) (hB : B ≤ wr.heap.size) (hX : X.length = m) (ho : w5.ownsRow B 48 2 v5 (l.length + m) (bkC l ++ bkC X)) (hg : wr.grownBy w5 v.ownBlock) : Row B w w5 v5 (l ++ X) := by
  subst hX
  refine ⟨?_, h.bel.trans (below_grown h.own hg hB)⟩
  unfold OwnB
  rw [List.length_append, bkC_app]
  exact ho
theorem Row.more {B : Nat} {w wr : World} {v : Value} {l : List Bk} (h : Row B w wr v l) (hB : B ≤ wr.heap.size) (o : Obj) : Row B w (wr.alloc o) v l := h.below hB ((Below.refl _ _).alloc (Nat.le_refl _) _)
/-- A row that is empty, in a block of the call's own. -/
theorem Row.empty (w : World) : Row w.heap.size w (w.alloc (.cells #[] 48)) (.slice (some ⟨w.heap.size, 0, none⟩) 0 0) [] :=
  ⟨World.ownsRow_lit (base := w.heap.size) (e := 48) (size := 2) w #[] 0 (by simp) (by unfold maxLen; omega) rfl, (Below.refl _ _).alloc (Nat.le_refl _) _⟩
end Go.Proofs.Ythhklbjhlfejfaa.Hi
