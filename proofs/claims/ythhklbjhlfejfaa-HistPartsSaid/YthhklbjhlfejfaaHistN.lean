/- hist.Total, the reference's Total and Same. -/
import Derived.Test.YthhklbjhlfejfaaHistM
import Derived.BigRegion
import Derived.RegionTactic
import Derived.ChangeAlike
namespace Go.Proofs.Ythhklbjhlfejfaa.Hi
open Go.RowKit
set_option maxRecDepth 20000
def totF (l : List Bk) : Int := l.foldl (fun a b => wrap64 (a + b.2)) 0
theorem totF_take (l : List Bk) (k : Nat) (h : k < l.length) : totF (l.take (k + 1)) = wrap64 (totF (l.take k) + l[k].2) := by
  rw [List.take_succ_eq_append_getElem h]
  unfold totF
  rw [List.foldl_append]
  rfl

set_option maxHeartbeats 1600000 in
theorem total_any (A : Option Addr) (c B : Nat) (l : List Bk) (w : World) (hR : Reads w B 2 A l.length (bkC l)) (hB : B ≤ w.heap.size) (hl : l.length ≤ 1000000000) :
    Calls Try.prog 20 #[.slice A l.length c] w fun e w' => e = .returned (.int .i64 (totF l)) ∧ Below w.heap.size w w' := by
  have HR := Lib.hid hR
  clear hR
  go_enter Try.func20, Try.ntmps20
  go_wp2
  go_loopw [3, 8] (fun v i wr => ∃ k : Nat, k ≤ l.length ∧ i = .int .i64 k ∧ v = .int .i64 (totF (l.take k)) ∧ Below w.heap.size w wr) (fun _ i _ => l.length - (intOf i).toNat)
  case atStart => exact ⟨0, Nat.zero_le _, rfl, rfl, Below.refl _ _⟩
  case round =>
    obtain ⟨k, hk, rfl, rfl, hb⟩ := hrel
    by_cases hlt : k < l.length
    · obtain ⟨bb, o, rfl, hbb, hc1, hc2⟩ := bks_at HR.out rfl hlt
      have d1 := (hb.cell (p := ⟨bb, o + k * 2, none⟩) (Nat.lt_of_lt_of_le hbb hB)).trans hc1
      have d2 := (hb.cell (p := ⟨bb, o + k * 2 + 1, none⟩) (Nat.lt_of_lt_of_le hbb hB)).trans hc2
      have T := Lib.hid (totF_take l k hlt)
      have Hb := Lib.hid hb
      clear hc1 hc2 hb
      generalize l[k].1 = x at *
      generalize l[k].2 = y at *
      generalize totF (l.take k) = t at *
      go_wp2
      go_roundw
      case rel => exact ⟨k + 1, by omega, by go_num, by rw [T.out], Hb.out.trans ((Below.refl _ _).alloc Hb.out.size _)⟩
      case measure => simp [intOf]; omega
    · have hall : l.take k = l := List.take_of_length_le (by omega)
      rw [hall]
      have Hb := Lib.hid hb
      clear hb
      go_wp2
      go_ret
      exact ⟨rfl, Hb.out⟩

set_option maxHeartbeats 1600000 in
theorem rtotal_any (A : Option Addr) (c B : Nat) (l : List Bk) (w : World) (hR : Reads w B 2 A l.length (bkC l)) (hl : l.length ≤ 1000000000) :
    Calls Try.prog 21 #[.slice A l.length c] w fun e w' => e = .returned (.int .i64 (totF l)) ∧ Below w.heap.size w w' := by
  have HR := Lib.hid hR
  clear hR
  go_enter Try.func21, Try.ntmps21
  go_wp2
  go_loopw [3, 4] (fun v i wr => ∃ k : Nat, k ≤ l.length ∧ i = .int .i64 k ∧ v = .int .i64 (totF (l.take k)) ∧ wr = w) (fun _ i _ => l.length - (intOf i).toNat)
  case atStart => exact ⟨0, Nat.zero_le _, rfl, rfl, rfl⟩
  case round =>
    obtain ⟨k, hk, rfl, rfl, rfl⟩ := hrel
    by_cases hlt : k < l.length
    · obtain ⟨bb, o, rfl, hbb, d1, d2⟩ := bks_at HR.out rfl hlt
      have T := Lib.hid (totF_take l k hlt)
      generalize l[k].1 = x at *
      generalize l[k].2 = y at *
      generalize totF (l.take k) = t at *
      go_wp2
      go_roundw
      case rel => exact ⟨k + 1, by omega, by go_num, by rw [T.out], trivial⟩
      case measure => simp [intOf]; omega
    · have hall : l.take k = l := List.take_of_length_le (by omega)
      rw [hall]
      go_wp2
      go_ret
      exact ⟨rfl, Below.refl _ _⟩
theorem take_same {α : Type} {l m : List α} {k : Nat} (h : l.take k = m.take k) (hl : k < l.length) (hm : k < m.length) (he : l[k] = m[k]) : l.take (k + 1) = m.take (k + 1) := by
  rw [List.take_succ_eq_append_getElem hl, List.take_succ_eq_append_getElem hm, h, he]
set_option maxHeartbeats 3200000 in
theorem rsame_any (A A' : Option Addr) (c c' B B' : Nat) (l m : List Bk) (w : World) (hR : Reads w B 2 A l.length (bkC l)) (hR' : Reads w B' 2 A' m.length (bkC m)) (hl : l.length ≤ 1000000000) (hm : m.length ≤ 1000000000) :
    Calls Try.prog 17 #[.slice A l.length c, .slice A' m.length c'] w fun e w' => e = .returned (.bool (decide (l = m))) ∧ Below w.heap.size w w' := by
  have HR := Lib.hid hR
  have HR' := Lib.hid hR'
  clear hR hR'
  by_cases hlen : l.length = m.length
  · go_enter Try.func17, Try.ntmps17
    go_wp2
    go_loopw [5] (fun i wr => ∃ k : Nat, k ≤ l.length ∧ i = .int .i64 k ∧ Hid (l.take k = m.take k) ∧ Below w.heap.size w wr ∧ (∀ p, wr.cell? p = w.cell? p)) (fun i _ => l.length - (intOf i).toNat)
    case atStart => exact ⟨0, Nat.zero_le _, rfl, Lib.hid rfl, Below.refl _ _, fun _ => rfl⟩
    case round =>
      obtain ⟨k, hk, rfl, hT, hb, hcells⟩ := hrel
      by_cases hlt : k < l.length
      · have hltm : k < m.length := by omega
        obtain ⟨bb, o, rfl, hbb, d1, d2⟩ := bks_at HR.out rfl hlt
        obtain ⟨bb', o', rfl, hbb', d1', d2'⟩ := bks_at HR'.out rfl hltm
        rw [← hcells] at d1 d2 d1' d2'
        have T := Lib.hid (take_same hT.out hlt hltm)
        have hb' := Lib.hid hb
        have Hc := Lib.hid hcells
        have hpe : (l[k] = m[k]) ↔ (l[k].1 = m[k].1 ∧ l[k].2 = m[k].2) := Prod.ext_iff
        have Nk : Hid (¬ (l[k] = m[k]) → ¬ l = m) := Lib.hid (fun h e => h (by subst e; rfl))
        rw [hpe] at T Nk
        clear hb hcells hpe
        generalize l[k].1 = x at *
        generalize l[k].2 = y at *
        generalize m[k].1 = x' at *
        generalize m[k].2 = y' at *
        by_cases e1 : x = x'
        · by_cases e2 : y = y'
          · go_wp2
            go_region
            go_wp2
            go_roundw
            case rel => exact ⟨k + 1, by omega, by go_num, Lib.hid (T.out ⟨e1, e2⟩), hb'.out.drew, Hc.out⟩
            case measure => simp [intOf]; omega
          · go_wp2
            go_region
            go_wp2
            go_ret
            exact ⟨by rw [decide_eq_false (Nk.out fun h => e2 h.2)]; rfl, hb'.out.drew⟩
        · go_wp2
          go_region
          go_wp2
          go_ret
          exact ⟨by rw [decide_eq_false (Nk.out fun h => e1 h.1)]; rfl, hb'.out.drew⟩
      · have hall : l = m := by
          have h1 : l.take k = l := List.take_of_length_le (by omega)
          have h2 : m.take k = m := List.take_of_length_le (by omega)
          rw [← h1, ← h2, hT.out]
        have hb' := Lib.hid hb
        clear hb hcells hT
        go_wp2
        go_ret
        exact ⟨by rw [decide_eq_true hall]; rfl, hb'.out⟩
  · have : ¬ l = m := fun e => hlen (by rw [e])
    rw [decide_eq_false this]
    go_enter Try.func17, Try.ntmps17
    go_wp2
    go_ret
    exact ⟨rfl, Below.refl _ _⟩
end Go.Proofs.Ythhklbjhlfejfaa.Hi
