/- slices.Equal on counts, group.Same; loggiaref30.Same; loggialaw30.same (printed by gen_grc.py). -/
import Derived.Laws.StructEq
import Derived.BigRegion
import Derived.RegionTactic
import Derived.ChangeAlike
import Derived.Test.YtfegkchajkpgfaaGrBPk
namespace Go.Proofs.Ytfegkchajkpgfaa.Gr
open Go.RowKit Go.Proofs.Ytfegkchajkpgfaa Go.Proofs.Ytfegkchajkpgfaa.Ut Go.Proofs.Ytfegkchajkpgfaa.Tk
set_option maxRecDepth 20000
set_option linter.unusedSimpArgs false
set_option linter.unusedVariables false

theorem list_beq (s t : ByteArray) : (s.toList == t.toList) = decide (s = t) := by
  rw [tl, tl]
  by_cases h : s = t
  · subst h; simp
  · have : ¬ s.data.toList = t.data.toList := fun e => h (by rw [← of_str s, ← of_str t, e])
    rw [decide_eq_false h, beq_eq_false_iff_ne]
    exact this
theorem take_same {l m : List Ct} {k : Nat} (h : l.take k = m.take k) (h1 : k < l.length) (h2 : k < m.length) (e : l[k] = m[k]) : l.take (k + 1) = m.take (k + 1) := by
  rw [List.take_succ_eq_append_getElem h1, List.take_succ_eq_append_getElem h2, h, e]

theorem gneq (s t : ByteArray) (n m : Int) (w : World) : (binOp .neq 81 (.agg #[.string s, .int .i64 n]) (.agg #[.string t, .int .i64 m])).run Try.prog w = .ok (.bool (!decide ((s, n) = (t, m)))) w := by
  have u1 := Try.underlying9
  have u3 := Try.underlying3
  have a1 := Try.isAgg9
  have z1 := Try.sizeOf9
  have a3 := Try.isAgg3
  have z3 := Try.sizeOf3
  have hS : Try.prog.underlying 81 = some (.struct (Try.prog.fieldsOf 81)) := by kernel_rfl
  have hp : Try.prog.stoodInHeld 81 = false := by kernel_rfl
  have hl := list_beq s t
  rw [run_neq_struct, show (10000 : Nat) = 9999 + 1 from rfl, run_equalIn_agg w 9999 81 _ _ hS hp]
  simp only [Program.fieldsOf, Try.underlying81]
  by_cases e1 : s = t
  · by_cases e2 : n = m
    · have hd : decide ((s, n) = (t, m)) = true := decide_eq_true (by rw [e1, e2])
      rw [hd]
      subst e1 e2
      go_simp
    · have hd : decide ((s, n) = (t, m)) = false := decide_eq_false (fun e => e2 (Prod.ext_iff.1 e).2)
      rw [hd]
      subst e1
      have e3 : (n == m) = false := by rw [beq_eq_false_iff_ne]; exact e2
      go_simp
  · have hd : decide ((s, n) = (t, m)) = false := decide_eq_false (fun e => e1 (Prod.ext_iff.1 e).1)
    rw [decide_eq_false e1] at hl
    rw [hd]
    go_simp

theorem rneq (s t : ByteArray) (n m : Int) (w : World) : (binOp .neq 119 (.agg #[.string s, .int .i64 n]) (.agg #[.string t, .int .i64 m])).run Try.prog w = .ok (.bool (!decide ((s, n) = (t, m)))) w := by
  have u1 := Try.underlying9
  have u3 := Try.underlying3
  have a1 := Try.isAgg9
  have z1 := Try.sizeOf9
  have a3 := Try.isAgg3
  have z3 := Try.sizeOf3
  have hS : Try.prog.underlying 119 = some (.struct (Try.prog.fieldsOf 119)) := by kernel_rfl
  have hp : Try.prog.stoodInHeld 119 = false := by kernel_rfl
  have hl := list_beq s t
  rw [run_neq_struct, show (10000 : Nat) = 9999 + 1 from rfl, run_equalIn_agg w 9999 119 _ _ hS hp]
  simp only [Program.fieldsOf, Try.underlying119]
  by_cases e1 : s = t
  · by_cases e2 : n = m
    · have hd : decide ((s, n) = (t, m)) = true := decide_eq_true (by rw [e1, e2])
      rw [hd]
      subst e1 e2
      go_simp
    · have hd : decide ((s, n) = (t, m)) = false := decide_eq_false (fun e => e2 (Prod.ext_iff.1 e).2)
      rw [hd]
      subst e1
      have e3 : (n == m) = false := by rw [beq_eq_false_iff_ne]; exact e2
      go_simp
  · have hd : decide ((s, n) = (t, m)) = false := decide_eq_false (fun e => e1 (Prod.ext_iff.1 e).1)
    rw [decide_eq_false e1] at hl
    rw [hd]
    go_simp


set_option maxHeartbeats 3200000 in
theorem equal_any (A A' : Option Addr) (c c' B B' : Nat) (l m : List Ct) (w : World) (hR : Reads w B 2 A l.length (ctC l)) (hR' : Reads w B' 2 A' m.length (ctC m)) (hl : l.length ≤ 1048576) (hm : m.length ≤ 1048576) :
    Calls Try.prog 66 #[.slice A l.length c, .slice A' m.length c'] w fun e w' => e = .returned (.bool (decide (l = m))) ∧ Below w.heap.size w w' := by
  have HR := Lib.hid hR
  have HR' := Lib.hid hR'
  clear hR hR'
  by_cases hlen : l.length = m.length
  · have hlen' : (l.length : Int) = (m.length : Int) := by omega
    go_enter Try.func66, Try.ntmps66
    go_wp2
    go_loopw [13] (fun i wr => ∃ k : Nat, k ≤ l.length ∧ i = .int .i64 (k : Nat) ∧ Hid (l.take k = m.take k) ∧ Below w.heap.size w wr ∧ (∀ p, wr.cell? p = w.cell? p)) (fun i _ => l.length - (intOf i).toNat)
    case atStart => exact ⟨0, Nat.zero_le _, rfl, Lib.hid rfl, Below.refl _ _, fun _ => rfl⟩
    case round =>
      obtain ⟨k, hk, rfl, hT, hb, hcells⟩ := hrel
      by_cases hlt : k < l.length
      · have hltm : k < m.length := by omega
        obtain ⟨bb, o, rfl, hbb, d1, d2⟩ := cts_at HR.out hlt
        obtain ⟨bb', o', rfl, hbb', d1', d2'⟩ := cts_at HR'.out hltm
        rw [← hcells] at d1 d2 d1' d2'
        have T := Lib.hid (take_same hT.out hlt hltm)
        have hb' := Lib.hid hb
        have Hc := Lib.hid hcells
        have Nk : Hid (¬ (l[k] = m[k]) → ¬ l = m) := Lib.hid (fun h e => h (by subst e; rfl))
        have hki : (k : Int) < (l.length : Int) := by omega
        have hki' : (k : Int) < (m.length : Int) := by omega
        have hki0 : (0 : Int) ≤ (k : Int) := by omega
        clear hb hcells hT
        generalize hx : l[k] = xx at *
        generalize hy : m[k] = yy at *
        clear hx hy
        obtain ⟨x, y⟩ := xx
        obtain ⟨x', y'⟩ := yy
        simp only at d1 d2 d1' d2'
        have hne := fun W => gneq x x' y y' W
        by_cases e : ((x, y) : Ct) = (x', y')
        · rw [decide_eq_true e] at hne
          have T2 := Lib.hid (T.out e)
          clear T Nk e
          go_wp2
          go_region
          go_wp2
          go_roundw
          case rel => exact ⟨k + 1, by omega, by go_num, T2, hb'.out.drew, Hc.out⟩
          case measure => simp [intOf]; omega
        · rw [decide_eq_false e] at hne
          have N2 := Lib.hid (Nk.out e)
          clear T Nk e
          go_wp2
          go_region
          go_wp2
          go_ret
          exact ⟨by rw [decide_eq_false N2.out]; rfl, hb'.out.drew⟩
      · have hall : l = m := by
          have h1 : l.take k = l := List.take_of_length_le (by omega)
          have h2 : m.take k = m := List.take_of_length_le (by omega)
          rw [← h1, ← h2, hT.out]
        have hb' := Lib.hid hb
        have hki : (l.length : Int) ≤ (k : Int) := by omega
        clear hb hcells hT
        go_wp2
        go_ret
        exact ⟨by rw [decide_eq_true hall]; rfl, hb'.out⟩
  · have : ¬ l = m := fun e => hlen (by rw [e])
    have hlen' : ((l.length : Int) == (m.length : Int)) = false := by rw [beq_eq_false_iff_ne]; omega
    rw [decide_eq_false this]
    go_enter Try.func66, Try.ntmps66
    go_wp2
    go_ret
    exact ⟨rfl, Below.refl _ _⟩

theorem gsame_any (A A' : Option Addr) (c c' B B' : Nat) (l m : List Ct) (w : World) (hR : Reads w B 2 A l.length (ctC l)) (hR' : Reads w B' 2 A' m.length (ctC m)) (hl : l.length ≤ 1048576) (hm : m.length ≤ 1048576) :
    Calls Try.prog 30 #[.slice A l.length c, .slice A' m.length c'] w fun e w' => e = .returned (.bool (decide (l = m))) ∧ Below w.heap.size w w' := by
  have c0 := equal_any A A' c c' B B' l m w hR hR' hl hm
  clear hR hR'
  go_enter Try.func30, Try.ntmps30
  go_wp2_with fail
  refine c0.mono ?_
  rintro e w2 ⟨rfl, hb2⟩
  go_wp2
  go_ret
  exact ⟨rfl, hb2⟩

set_option maxHeartbeats 3200000 in
theorem rsame_any (A A' : Option Addr) (c c' B B' : Nat) (l m : List Ct) (w : World) (hR : Reads w B 2 A l.length (ctC l)) (hR' : Reads w B' 2 A' m.length (ctC m)) (hl : l.length ≤ 1048576) (hm : m.length ≤ 1048576) :
    Calls Try.prog 31 #[.slice A l.length c, .slice A' m.length c'] w fun e w' => e = .returned (.bool (decide (l = m))) ∧ Below w.heap.size w w' := by
  have HR := Lib.hid hR
  have HR' := Lib.hid hR'
  clear hR hR'
  by_cases hlen : l.length = m.length
  · have hlen' : (l.length : Int) = (m.length : Int) := by omega
    go_enter Try.func31, Try.ntmps31
    go_wp2
    go_loopw [5] (fun i wr => ∃ k : Nat, k ≤ l.length ∧ i = .int .i64 (k : Nat) ∧ Hid (l.take k = m.take k) ∧ Below w.heap.size w wr ∧ (∀ p, wr.cell? p = w.cell? p)) (fun i _ => l.length - (intOf i).toNat)
    case atStart => exact ⟨0, Nat.zero_le _, rfl, Lib.hid rfl, Below.refl _ _, fun _ => rfl⟩
    case round =>
      obtain ⟨k, hk, rfl, hT, hb, hcells⟩ := hrel
      by_cases hlt : k < l.length
      · have hltm : k < m.length := by omega
        obtain ⟨bb, o, rfl, hbb, d1, d2⟩ := cts_at HR.out hlt
        obtain ⟨bb', o', rfl, hbb', d1', d2'⟩ := cts_at HR'.out hltm
        rw [← hcells] at d1 d2 d1' d2'
        have T := Lib.hid (take_same hT.out hlt hltm)
        have hb' := Lib.hid hb
        have Hc := Lib.hid hcells
        have Nk : Hid (¬ (l[k] = m[k]) → ¬ l = m) := Lib.hid (fun h e => h (by subst e; rfl))
        have hki : (k : Int) < (l.length : Int) := by omega
        have hki' : (k : Int) < (m.length : Int) := by omega
        have hki0 : (0 : Int) ≤ (k : Int) := by omega
        clear hb hcells hT
        generalize hx : l[k] = xx at *
        generalize hy : m[k] = yy at *
        clear hx hy
        obtain ⟨x, y⟩ := xx
        obtain ⟨x', y'⟩ := yy
        simp only at d1 d2 d1' d2'
        have hne := fun W => rneq x x' y y' W
        by_cases e : ((x, y) : Ct) = (x', y')
        · rw [decide_eq_true e] at hne
          have T2 := Lib.hid (T.out e)
          clear T Nk e
          go_wp2
          go_region
          go_wp2
          go_roundw
          case rel => exact ⟨k + 1, by omega, by go_num, T2, hb'.out.drew, Hc.out⟩
          case measure => simp [intOf]; omega
        · rw [decide_eq_false e] at hne
          have N2 := Lib.hid (Nk.out e)
          clear T Nk e
          go_wp2
          go_region
          go_wp2
          go_ret
          exact ⟨by rw [decide_eq_false N2.out]; rfl, hb'.out.drew⟩
      · have hall : l = m := by
          have h1 : l.take k = l := List.take_of_length_le (by omega)
          have h2 : m.take k = m := List.take_of_length_le (by omega)
          rw [← h1, ← h2, hT.out]
        have hb' := Lib.hid hb
        have hki : (l.length : Int) ≤ (k : Int) := by omega
        clear hb hcells hT
        go_wp2
        go_ret
        exact ⟨by rw [decide_eq_true hall]; rfl, hb'.out⟩
  · have : ¬ l = m := fun e => hlen (by rw [e])
    have hlen' : ((l.length : Int) == (m.length : Int)) = false := by rw [beq_eq_false_iff_ne]; omega
    rw [decide_eq_false this]
    go_enter Try.func31, Try.ntmps31
    go_wp2
    go_ret
    exact ⟨rfl, Below.refl _ _⟩

set_option maxHeartbeats 3200000 in
theorem lsame_any (A A' : Option Addr) (c c' B B' : Nat) (l m : List Ct) (w : World) (hR : Reads w B 2 A l.length (ctC l)) (hR' : Reads w B' 2 A' m.length (ctC m)) (hl : l.length ≤ 1048576) (hm : m.length ≤ 1048576) :
    Calls Try.prog 32 #[.slice A l.length c, .slice A' m.length c'] w fun e w' => e = .returned (.bool (decide (l = m))) ∧ Below w.heap.size w w' := by
  have HR := Lib.hid hR
  have HR' := Lib.hid hR'
  clear hR hR'
  by_cases hlen : l.length = m.length
  · have hlen' : (l.length : Int) = (m.length : Int) := by omega
    go_enter Try.func32, Try.ntmps32
    go_wp2
    go_loopw [5] (fun i wr => ∃ k : Nat, k ≤ l.length ∧ i = .int .i64 (k : Nat) ∧ Hid (l.take k = m.take k) ∧ Below w.heap.size w wr ∧ (∀ p, wr.cell? p = w.cell? p)) (fun i _ => l.length - (intOf i).toNat)
    case atStart => exact ⟨0, Nat.zero_le _, rfl, Lib.hid rfl, Below.refl _ _, fun _ => rfl⟩
    case round =>
      obtain ⟨k, hk, rfl, hT, hb, hcells⟩ := hrel
      by_cases hlt : k < l.length
      · have hltm : k < m.length := by omega
        obtain ⟨bb, o, rfl, hbb, d1, d2⟩ := cts_at HR.out hlt
        obtain ⟨bb', o', rfl, hbb', d1', d2'⟩ := cts_at HR'.out hltm
        rw [← hcells] at d1 d2 d1' d2'
        have T := Lib.hid (take_same hT.out hlt hltm)
        have hb' := Lib.hid hb
        have Hc := Lib.hid hcells
        have Nk : Hid (¬ (l[k] = m[k]) → ¬ l = m) := Lib.hid (fun h e => h (by subst e; rfl))
        have hki : (k : Int) < (l.length : Int) := by omega
        have hki' : (k : Int) < (m.length : Int) := by omega
        have hki0 : (0 : Int) ≤ (k : Int) := by omega
        clear hb hcells hT
        generalize hx : l[k] = xx at *
        generalize hy : m[k] = yy at *
        clear hx hy
        obtain ⟨x, y⟩ := xx
        obtain ⟨x', y'⟩ := yy
        simp only at d1 d2 d1' d2'
        have hl := list_beq x x'
        by_cases e1 : x = x'
        · rw [decide_eq_true e1] at hl
          by_cases e2 : y = y'
          · have T2 := Lib.hid (T.out (by rw [e1, e2]))
            have hy : (y == y') = true := by rw [beq_iff_eq]; exact e2
            clear T Nk e1
            subst e2
            go_wp2
            go_quiet (fail)
            go_wp2
            go_roundw
            case rel => exact ⟨k + 1, by omega, by go_num, T2, hb'.out.trans ⟨rfl, rfl, rfl, Nat.le_refl _, fun _ _ => rfl⟩, Hc.out⟩
            case measure => simp [intOf]; omega
          · have N2 := Lib.hid (Nk.out (fun h => e2 (Prod.ext_iff.1 h).2))
            have hy : (y == y') = false := by rw [beq_eq_false_iff_ne]; exact e2
            clear T Nk e1
            go_wp2
            go_quiet (fail)
            go_wp2
            go_ret
            exact ⟨by rw [decide_eq_false N2.out]; rfl, hb'.out.trans ⟨rfl, rfl, rfl, Nat.le_refl _, fun _ _ => rfl⟩⟩
        · rw [decide_eq_false e1] at hl
          have N2 := Lib.hid (Nk.out (fun h => e1 (Prod.ext_iff.1 h).1))
          clear T Nk e1
          go_wp2
          go_quiet (fail)
          go_wp2
          go_ret
          exact ⟨by rw [decide_eq_false N2.out]; rfl, hb'.out.trans ⟨rfl, rfl, rfl, Nat.le_refl _, fun _ _ => rfl⟩⟩
      · have hall : l = m := by
          have h1 : l.take k = l := List.take_of_length_le (by omega)
          have h2 : m.take k = m := List.take_of_length_le (by omega)
          rw [← h1, ← h2, hT.out]
        have hb' := Lib.hid hb
        have hki : (l.length : Int) ≤ (k : Int) := by omega
        clear hb hcells hT
        go_wp2
        go_ret
        exact ⟨by rw [decide_eq_true hall]; rfl, hb'.out⟩
  · have : ¬ l = m := fun e => hlen (by rw [e])
    have hlen' : ((l.length : Int) == (m.length : Int)) = false := by rw [beq_eq_false_iff_ne]; omega
    rw [decide_eq_false this]
    go_enter Try.func32, Try.ntmps32
    go_wp2
    go_ret
    exact ⟨rfl, Below.refl _ _⟩
end Go.Proofs.Ytfegkchajkpgfaa.Gr
