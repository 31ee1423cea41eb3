/- loggiaref07: SameWords, Same at equal rows; the law's cut. -/
import Derived.Test.YtjfconddkfihcaaTokI
import Derived.Laws.StructEq
import Derived.RegionTactic
import Derived.ChangeAlike
import Derived.BigRegion
namespace Go.Proofs.Ytjfconddkfihcaa.Tk
open Go.RowKit Go.Proofs.Ytjfconddkfihcaa.Ut
set_option maxRecDepth 20000

theorem sv_get (ws : List (List UInt8)) (k : Nat) (h : k < ws.length) : (sv ws)[k]? = some (.string (str ws[k])) := by simp [sv, List.getElem?_eq_getElem h]
set_option maxHeartbeats 400000 in
theorem sameWords_eq (A A' : Option Addr) (c c' B : Nat) (ws : List (List UInt8)) (w : World) (h : Reads w B 1 A ws.length (sv ws)) (h' : Reads w B 1 A' ws.length (sv ws)) (hB : B ≤ w.heap.size) (hl : ws.length ≤ 8796093021952) :
    Calls Try.prog 34 #[.slice A ws.length c, .slice A' ws.length c'] w fun e w' => e = .returned (.bool true) ∧ Below w.heap.size w w' := by
  have H := Lib.hid h
  have H' := Lib.hid h'
  clear h h'
  go_enter Try.func34, Try.ntmps34
  go_wp2
  go_loopw [5] (fun i wr => ∃ k : Nat, k ≤ ws.length ∧ i = .int .i64 k ∧ Below w.heap.size w wr) (fun i _ => ws.length - (intOf i).toNat)
  case atStart => exact ⟨0, Nat.zero_le _, rfl, Below.refl _ _⟩
  case round =>
    obtain ⟨k, hk, rfl, hb⟩ := hrel
    by_cases hlt : k < ws.length
    · obtain ⟨b, o, u, rfl, hbb, hu, hcw⟩ := H.out.at_ hlt
      obtain ⟨b', o', u', rfl, hbb', hu', hcw'⟩ := H'.out.at_ hlt
      rw [sv_get ws k hlt] at hu hu'
      injection hu with hu
      injection hu' with hu'
      subst hu hu'
      have d1 := (hb.cell (p := ⟨b, o + k, none⟩) (Nat.lt_of_lt_of_le hbb hB)).trans hcw
      have d2 := (hb.cell (p := ⟨b', o' + k, none⟩) (Nat.lt_of_lt_of_le hbb' hB)).trans hcw'
      have Hb := Lib.hid hb
      clear hcw hcw' hb
      generalize str ws[k] = s at *
      go_wp2
      go_region
      go_wp2
      go_roundw
      case rel => exact ⟨k + 1, by omega, by go_num, Hb.out.drew⟩
      case measure => simp [intOf]; omega
    · have Hb := Lib.hid hb
      clear hb
      go_wp2
      go_ret
      exact ⟨rfl, Hb.out⟩

theorem tok_self (s : ByteArray) (n : Int) (w : World) : (binOp .neq 74 (.agg #[.string s, .int .i64 n]) (.agg #[.string s, .int .i64 n])).run Try.prog w = .ok (.bool false) w := by
  have u1 := Try.underlying9
  have u3 := Try.underlying3
  have a1 := Try.isAgg9
  have z1 := Try.sizeOf9
  have a3 := Try.isAgg3
  have z3 := Try.sizeOf3
  have hS : Try.prog.underlying 74 = some (.struct (Try.prog.fieldsOf 74)) := by kernel_rfl
  have hp : Try.prog.stoodInHeld 74 = false := by kernel_rfl
  rw [run_neq_struct, show (10000 : Nat) = 9999 + 1 from rfl, run_equalIn_agg w 9999 74 _ _ hS hp]
  simp only [Program.fieldsOf, Try.underlying74]
  go_simp

set_option maxHeartbeats 400000 in
theorem same_eq (A A' : Option Addr) (c c' B : Nat) (ws : List (List UInt8)) (w : World) (h : Reads w B 2 A ws.length (tokC (placed ws))) (h' : Reads w B 2 A' ws.length (tokC (placed ws))) (hB : B ≤ w.heap.size) (hl : ws.length ≤ 8796093021952) :
    Calls Try.prog 37 #[.slice A ws.length c, .slice A' ws.length c'] w fun e w' => e = .returned (.bool true) ∧ Below w.heap.size w w' := by
  have H := Lib.hid h
  have H' := Lib.hid h'
  clear h h'
  go_enter Try.func37, Try.ntmps37
  go_wp2
  go_loopw [5] (fun i wr => ∃ k : Nat, k ≤ ws.length ∧ i = .int .i64 k ∧ Below w.heap.size w wr) (fun i _ => ws.length - (intOf i).toNat)
  case atStart => exact ⟨0, Nat.zero_le _, rfl, Below.refl _ _⟩
  case round =>
    obtain ⟨k, hk, rfl, hb⟩ := hrel
    by_cases hlt : k < ws.length
    · obtain ⟨b, o, rfl, hbb, hc1, hc2⟩ := toks_at H.out rfl hlt
      obtain ⟨b', o', rfl, hbb', hc1', hc2'⟩ := toks_at H'.out rfl hlt
      have d1 := (hb.cell (p := ⟨b, o + k * 2, none⟩) (Nat.lt_of_lt_of_le hbb hB)).trans hc1
      have d2 := (hb.cell (p := ⟨b, o + k * 2 + 1, none⟩) (Nat.lt_of_lt_of_le hbb hB)).trans hc2
      have d3 := (hb.cell (p := ⟨b', o' + k * 2, none⟩) (Nat.lt_of_lt_of_le hbb' hB)).trans hc1'
      have d4 := (hb.cell (p := ⟨b', o' + k * 2 + 1, none⟩) (Nat.lt_of_lt_of_le hbb' hB)).trans hc2'
      have hself := fun W => tok_self (str ws[k]) (k : Int) W
      have Hb := Lib.hid hb
      clear hc1 hc2 hc1' hc2' hb
      generalize str ws[k] = s at *
      go_wp2
      go_region
      go_wp2
      go_roundw
      case rel => exact ⟨k + 1, by omega, by go_num, Hb.out.drew⟩
      case measure => simp [intOf]; omega
    · have Hb := Lib.hid hb
      clear hb
      go_wp2
      go_ret
      exact ⟨rfl, Hb.out⟩

/-- A text's first bytes. -/
def ct (n : Nat) (s : ByteArray) : ByteArray := s.extract 0 (min s.size n)
theorem ct_size (n : Nat) (s : ByteArray) : (ct n s).size ≤ n := by unfold ct; rw [ByteArray.size_extract]; omega
theorem lcut_any (s : ByteArray) (w : World) (hs : s.size ≤ 140737488351232) : Calls Try.prog 36 #[.string s] w fun e w' => e = .returned (.string (ct 1500 s)) ∧ w = w' := by
  have F : Hid (ct 1500 s = s.extract 0 (min s.size 1500)) := rfl
  generalize ct 1500 s = r at *
  have hm : (min (s.size : Int) 1500).toNat = min s.size 1500 := by omega
  have Hm := Lib.hid hm
  clear hm
  by_cases h : s.size ≤ 1500
  · have h' : (s.size : Int) ≤ 1500 := by omega
    clear h
    go_enter Try.func36, Try.ntmps36
    go_wp2
    go_ret
    rw [F.out, ← Hm.out]
    exact ⟨rfl, rfl⟩
  · have h' : (1500 : Int) < (s.size : Int) := by omega
    clear h
    go_enter Try.func36, Try.ntmps36
    go_wp2
    go_ret
    rw [F.out, ← Hm.out]
    exact ⟨rfl, rfl⟩
end Go.Proofs.Ytjfconddkfihcaa.Tk
