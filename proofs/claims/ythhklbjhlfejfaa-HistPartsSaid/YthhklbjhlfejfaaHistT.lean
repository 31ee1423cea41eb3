/- hist.Check; the reference's Is. -/
import Derived.Test.YthhklbjhlfejfaaHistS
import Derived.Deep.QuietTactic
import Derived.BigQuiet
namespace Go.Proofs.Ythhklbjhlfejfaa.Hi
open Go.RowKit
set_option maxRecDepth 20000
theorem below_drewN {B : Nat} {a w : World} (h : Below B a w) (n : Nat) : Below B a (w.drewN n) := ⟨h.os, h.tape, h.output, h.size, h.block⟩
set_option maxHeartbeats 1600000 in
theorem check_any (A : Option Addr) (c B : Nat) (l : List Bk) (w : World) (hR : Reads w B 2 A l.length (bkC l)) (hB : B ≤ w.heap.size) (hl : l.length ≤ 1000000000) :
    Calls Try.prog 18 #[.slice A l.length c] w fun e w' => e = .returned (.int .i64 (errF (fineB l))) ∧ Below w.heap.size w w' := by
  have HR := Lib.hid hR
  clear hR
  go_enter Try.func18, Try.ntmps18
  go_wp2
  go_loopw [7] (fun i wr => ∃ k : Nat, k ≤ l.length ∧ i = .int .i64 k ∧ Fine (l.take k) ∧ Below w.heap.size w wr) (fun i _ => l.length - (intOf i).toNat)
  case atStart => exact ⟨0, Nat.zero_le _, rfl, Fine.nil, Below.refl _ _⟩
  case round =>
    obtain ⟨k, hk, rfl, hF, hb⟩ := hrel
    by_cases hlt : k < l.length
    · obtain ⟨bb, o, rfl, hbb, hc1, hc2⟩ := bks_at HR.out rfl hlt
      have d1 := (hb.cell (p := ⟨bb, o + k * 2, none⟩) (Nat.lt_of_lt_of_le hbb hB)).trans hc1
      have d2 := (hb.cell (p := ⟨bb, o + k * 2 + 1, none⟩) (Nat.lt_of_lt_of_le hbb hB)).trans hc2
      have hs := hb.size
      have Hb := Lib.hid ((hb.trans ((Below.refl _ _).alloc hs (.cells #[.int .i64 l[k].1, .int .i64 l[k].2] 48))))
      have hbw := Lib.hid hb
      have N1 := Lib.hid (fine_not1 (l := l) (k := k) hlt)
      have FN := Lib.hid (fine_next hF hlt)
      clear hc1 hc2 hb hF
      by_cases hy : l[k].2 < 1
      · have V := Lib.hid (fineB_f (N1.out hy))
        clear FN N1 hbw
        generalize l[k].1 = x at *
        generalize l[k].2 = y at *
        go_wp2
        go_quiet (fail)
        go_wp2
        go_ret
        exact ⟨by rw [V.out]; rfl, below_drewN Hb.out _⟩
      · rcases Nat.eq_zero_or_pos k with rfl | hkp
        · have F1 := Lib.hid (FN.out (by omega) (fun j hj => by omega))
          clear FN N1 hbw
          rw [Nat.zero_mul, Nat.add_zero] at d1 d2
          generalize l[0].1 = x at *
          generalize l[0].2 = y at *
          go_wp2
          have hyd : decide (y < 1) = false := decide_eq_false (by omega)
          go_quiet (fail)
          go_wp2
          go_roundw
          case rel => exact ⟨1, by omega, by go_num, F1.out, below_drewN Hb.out _⟩
          case measure => simp [intOf]; omega
        · obtain ⟨j, hj⟩ : ∃ j, j + 1 = k := ⟨k - 1, by omega⟩
          have hjl : j < l.length := by omega
          obtain ⟨bb', o', e', hbb', hc1', hc2'⟩ := bks_at HR.out rfl hjl
          cases e'
          have d3 := ((hbw.out.cell (p := ⟨bb, o + j * 2, none⟩) (Nat.lt_of_lt_of_le hbb hB)).trans hc1')
          have hne : ¬ bb = wr.heap.size := by omega
          have hlt2 : bb < wr.heap.size := by omega
          have d4 : (wr.alloc (.cells #[.int .i64 l[k].1, .int .i64 l[k].2] 48)).cell? ⟨bb, o + j * 2, none⟩ = some (.int .i64 l[j].1) := (World.cell?_alloc_lt wr _ ⟨bb, o + j * 2, none⟩ hlt2).trans d3
          have F1 : Hid (l[j].1 < l[k].1 → Fine (l.take (k + 1))) := Lib.hid (fun h => FN.out (by omega) (fun i hi => by
            obtain rfl : i = j := by omega
            exact h))
          have N2 : Hid (l[k].1 ≤ l[j].1 → ¬ Fine l) := Lib.hid (fine_not2 hj hlt)
          have hkp' : (0 : Int) < (k : Int) := by omega
          have hw1 : IntKind.i64.wrap ((k : Int) - 1) = (j : Int) := by rw [IntWalk.i64_in _ (by omega)]; omega
          have hw2 : wrap64 ((k : Int) - 1) = (j : Int) := by rw [IntWalk.wrap64_in _ (by omega)]; omega
          clear FN N1 hc1' hc2' hbw hj
          generalize l[k].1 = x at *
          generalize l[k].2 = y at *
          generalize l[j].1 = z at *
          by_cases hz : x ≤ z
          · have V := Lib.hid (fineB_f (N2.out hz))
            go_wp2
            have hyd : decide (y < 1) = false := decide_eq_false (by omega)
            have hkd : decide ((0 : Int) < (k : Int)) = true := decide_eq_true (by omega)
            have hkd' : decide (0 < k) = true := decide_eq_true (by omega)
            go_quiet (fail)
            go_wp2
            go_ret
            exact ⟨by rw [V.out]; rfl, below_drewN Hb.out _⟩
          · have F2 := Lib.hid (F1.out (by omega))
            go_wp2
            have hyd : decide (y < 1) = false := decide_eq_false (by omega)
            have hkd : decide ((0 : Int) < (k : Int)) = true := decide_eq_true (by omega)
            have hkd' : decide (0 < k) = true := decide_eq_true (by omega)
            go_quiet (fail)
            go_wp2
            go_roundw
            case rel => exact ⟨k + 1, by omega, by go_num, F2.out, below_drewN Hb.out _⟩
            case measure => simp [intOf]; omega
    · have hall : l.take k = l := List.take_of_length_le (by omega)
      rw [hall] at hF
      have Hb := Lib.hid hb
      have V := Lib.hid (fineB_t hF)
      clear hb hF
      go_wp2
      go_ret
      exact ⟨by rw [V.out]; rfl, Hb.out⟩
end Go.Proofs.Ythhklbjhlfejfaa.Hi
