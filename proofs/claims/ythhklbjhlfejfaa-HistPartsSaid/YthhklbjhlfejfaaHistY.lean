/- The law's short and few. -/
import Derived.Test.YthhklbjhlfejfaaHistX
namespace Go.Proofs.Ythhklbjhlfejfaa.Hi
open Go.RowKit
set_option maxRecDepth 20000
theorem reads_take {w : World} {B size n m : Nat} {A : Option Addr} {xs : List Value} (h : Reads w B size A n xs) (hm : m ≤ n) : Reads w B size A m (xs.take (m * size)) := by
  refine ⟨by rw [List.length_take, h.1]; exact Nat.min_eq_left (Nat.mul_le_mul_right _ hm), fun h0 => ?_⟩
  obtain ⟨b, o, e, hb, hc⟩ := h.2 (by omega)
  refine ⟨b, o, e, hb, fun j u hu => ?_⟩
  rw [List.getElem?_take] at hu
  split at hu
  · exact hc j u hu
  · cases hu
set_option maxHeartbeats 800000 in
theorem few_any (A : Option Addr) (c B : Nat) (ts : List Bk) (w : World) (hc : ts.length ≤ c) (hR : Reads w B 2 A ts.length (bkC ts)) :
    Calls Try.prog 14 #[.slice A ts.length c] w fun e w' => (e = .returned (.slice A (ts.take 60).length c) ∧ Reads w B 2 A (ts.take 60).length (bkC (ts.take 60))) ∧ w = w' := by
  by_cases h6 : 60 < ts.length
  · have hc6 : 60 ≤ c := by omega
    have hlen : (ts.take 60).length = 60 := by rw [List.length_take]; omega
    obtain ⟨b, o, rfl, _⟩ := hR.2 (by omega)
    have F : Hid (Reads w B 2 (some ⟨b, o, none⟩) (ts.take 60).length (bkC (ts.take 60))) := Lib.hid (by rw [hlen, bkC_take]; exact reads_take (m := 60) hR (by omega))
    have h6' : (60 : Int) < (ts.length : Int) := by omega
    have hc6' : (60 : Int) ≤ (c : Int) := by omega
    have Hlen := Lib.hid hlen
    clear hR hlen hc
    go_enter Try.func14, Try.ntmps14
    go_wp2
    go_ret
    exact ⟨⟨by rw [Hlen.out]; rfl, F.out⟩, rfl⟩
  · have e : ts.take 60 = ts := List.take_of_length_le (by omega)
    rw [e]
    have F := Lib.hid hR
    have h6' : ¬ (60 : Int) < (ts.length : Int) := by omega
    clear hR hc e
    go_enter Try.func14, Try.ntmps14
    go_wp2
    go_ret
    exact ⟨⟨rfl, F.out⟩, rfl⟩
set_option maxHeartbeats 800000 in
theorem short_any (A : Option Addr) (c B : Nat) (ts : List Int) (w : World) (hc : ts.length ≤ c) (hR : Reads w B 1 A ts.length (ts.map (Value.int .i64))) :
    Calls Try.prog 13 #[.slice A ts.length c] w fun e w' => (e = .returned (.slice A (ts.take 60).length c) ∧ Reads w B 1 A (ts.take 60).length ((ts.take 60).map (Value.int .i64))) ∧ w = w' := by
  by_cases h6 : 60 < ts.length
  · have hc6 : 60 ≤ c := by omega
    have hlen : (ts.take 60).length = 60 := by rw [List.length_take]; omega
    obtain ⟨b, o, rfl, _⟩ := hR.2 (by omega)
    have F : Hid (Reads w B 1 (some ⟨b, o, none⟩) (ts.take 60).length ((ts.take 60).map (Value.int .i64))) := Lib.hid (by rw [hlen, List.map_take]; exact reads_take (m := 60) hR (by omega))
    have h6' : (60 : Int) < (ts.length : Int) := by omega
    have hc6' : (60 : Int) ≤ (c : Int) := by omega
    have Hlen := Lib.hid hlen
    clear hR hlen hc
    go_enter Try.func13, Try.ntmps13
    go_wp2
    go_ret
    exact ⟨⟨by rw [Hlen.out]; rfl, F.out⟩, rfl⟩
  · have e : ts.take 60 = ts := List.take_of_length_le (by omega)
    rw [e]
    have F := Lib.hid hR
    have h6' : ¬ (60 : Int) < (ts.length : Int) := by omega
    clear hR hc e
    go_enter Try.func13, Try.ntmps13
    go_wp2
    go_ret
    exact ⟨⟨rfl, F.out⟩, rfl⟩
end Go.Proofs.Ythhklbjhlfejfaa.Hi
