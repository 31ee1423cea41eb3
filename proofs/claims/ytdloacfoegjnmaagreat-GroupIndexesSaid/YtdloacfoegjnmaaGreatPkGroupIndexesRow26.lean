/- SLICED by slice.py -/
import Derived.Laws.StructEq
import Derived.BigRegion
import Derived.RegionTactic
import Derived.ChangeAlike
import Derived.Test.YtdloacfoegjnmaaGreatPkGroupIndexesRow25
section
/- slices.Equal on counts, group.Same; loggiaref30.Same; loggialaw30.same (printed by gen_grc.py). -/
namespace Go.Proofs.YtdloacfoegjnmaaGreat.Gr
open Go.RowKit Go.Proofs.YtdloacfoegjnmaaGreat Go.Proofs.YtdloacfoegjnmaaGreat.Ut Go.Proofs.YtdloacfoegjnmaaGreat.Tk
set_option maxRecDepth 20000
set_option linter.unusedSimpArgs false
set_option linter.unusedVariables false

theorem list_beq (s t : ByteArray) : (s.toList == t.toList) = decide (s = t) := by
  rw [tl, tl]
  by_cases h : s = t
  · subst h; simp
  · have : ¬ s.data.toList = t.data.toList := fun e => h (by rw [← of_str s, ← of_str t, e])
    rw [decide_eq_false h, beq_eq_false_iff_ne]
    exact this
theorem take_same {l m : List Ct} {k : Nat} (h : l.take k = m.take k) (h1 : k < l.length) (h2 : k < m.length) (e : l[k] = m[k]) : l.take (k + 1) = m.take (k + 1) := by
  rw [List.take_succ_eq_append_getElem h1, List.take_succ_eq_append_getElem h2, h, e]

theorem gneq (s t : ByteArray) (n m : Int) (w : World) : (binOp .neq 62 (.agg #[.string s, .int .i64 n]) (.agg #[.string t, .int .i64 m])).run Tryz.prog w = .ok (.bool (!decide ((s, n) = (t, m)))) w := by
  have u1 := Tryz.underlying9
  have u3 := Tryz.underlying3
  have a1 := Tryz.isAgg9
  have z1 := Tryz.sizeOf9
  have a3 := Tryz.isAgg3
  have z3 := Tryz.sizeOf3
  have hS : Tryz.prog.underlying 62 = some (.struct (Tryz.prog.fieldsOf 62)) := by kernel_rfl
  have hp : Tryz.prog.stoodInHeld 62 = false := by kernel_rfl
  have hl := list_beq s t
  rw [run_neq_struct, show (10000 : Nat) = 9999 + 1 from rfl, run_equalIn_agg w 9999 62 _ _ hS hp]
  simp only [Program.fieldsOf, Tryz.underlying62]
  by_cases e1 : s = t
  · by_cases e2 : n = m
    · have hd : decide ((s, n) = (t, m)) = true := decide_eq_true (by rw [e1, e2])
      rw [hd]
      subst e1 e2
      go_simp
    · have hd : decide ((s, n) = (t, m)) = false := decide_eq_false (fun e => e2 (Prod.ext_iff.1 e).2)
      rw [hd]
      subst e1
      have e3 : (n == m) = false := by rw [beq_eq_false_iff_ne]; exact e2
      go_simp
  · have hd : decide ((s, n) = (t, m)) = false := decide_eq_false (fun e => e1 (Prod.ext_iff.1 e).1)
    rw [decide_eq_false e1] at hl
    rw [hd]
    go_simp

theorem rneq (s t : ByteArray) (n m : Int) (w : World) : (binOp .neq 87 (.agg #[.string s, .int .i64 n]) (.agg #[.string t, .int .i64 m])).run Tryz.prog w = .ok (.bool (!decide ((s, n) = (t, m)))) w := by
  have u1 := Tryz.underlying9
  have u3 := Tryz.underlying3
  have a1 := Tryz.isAgg9
  have z1 := Tryz.sizeOf9
  have a3 := Tryz.isAgg3
  have z3 := Tryz.sizeOf3
  have hS : Tryz.prog.underlying 87 = some (.struct (Tryz.prog.fieldsOf 87)) := by kernel_rfl
  have hp : Tryz.prog.stoodInHeld 87 = false := by kernel_rfl
  have hl := list_beq s t
  rw [run_neq_struct, show (10000 : Nat) = 9999 + 1 from rfl, run_equalIn_agg w 9999 87 _ _ hS hp]
  simp only [Program.fieldsOf, Tryz.underlying87]
  by_cases e1 : s = t
  · by_cases e2 : n = m
    · have hd : decide ((s, n) = (t, m)) = true := decide_eq_true (by rw [e1, e2])
      rw [hd]
      subst e1 e2
      go_simp
    · have hd : decide ((s, n) = (t, m)) = false := decide_eq_false (fun e => e2 (Prod.ext_iff.1 e).2)
      rw [hd]
      subst e1
      have e3 : (n == m) = false := by rw [beq_eq_false_iff_ne]; exact e2
      go_simp
  · have hd : decide ((s, n) = (t, m)) = false := decide_eq_false (fun e => e1 (Prod.ext_iff.1 e).1)
    rw [decide_eq_false e1] at hl
    rw [hd]
    go_simp


set_option maxHeartbeats 3200000 in
theorem equal_any (A A' : Option Addr) (c c' B B' : Nat) (l m : List Ct) (w : World) (hR : Reads w B 2 A l.length (ctC l)) (hR' : Reads w B' 2 A' m.length (ctC m)) (hl : l.length ≤ 1048576) (hm : m.length ≤ 1048576) :
    Calls Tryz.prog 41 #[.slice A l.length c, .slice A' m.length c'] w fun e w' => e = .returned (.bool (decide (l = m))) ∧ Below w.heap.size w w' := by
  have HR := Lib.hid hR
  have HR' := Lib.hid hR'
  clear hR hR'
  by_cases hlen : l.length = m.length
  · have hlen' : (l.length : Int) = (m.length : Int) := by omega
    go_enter Tryz.func41, Tryz.ntmps41
    go_wp2
    go_loopw [13] (fun i wr => ∃ k : Nat, k ≤ l.length ∧ i = .int .i64 (k : Nat) ∧ Hid (l.take k = m.take k) ∧ Below w.heap.size w wr ∧ (∀ p, wr.cell? p = w.cell? p)) (fun i _ => l.length - (intOf i).toNat)
    case atStart => exact ⟨0, Nat.zero_le _, rfl, Lib.hid rfl, Below.refl _ _, fun _ => rfl⟩
    case round =>
      obtain ⟨k, hk, rfl, hT, hb, hcells⟩ := hrel
      by_cases hlt : k < l.length
      · have hltm : k < m.length := by omega
        obtain ⟨bb, o, rfl, hbb, d1, d2⟩ := cts_at HR.out hlt
        obtain ⟨bb', o', rfl, hbb', d1', d2'⟩ := cts_at HR'.out hltm
        rw [← hcells] at d1 d2 d1' d2'
        have T := Lib.hid (take_same hT.out hlt hltm)
        have hb' := Lib.hid hb
        have Hc := Lib.hid hcells
        have Nk : Hid (¬ (l[k] = m[k]) → ¬ l = m) := Lib.hid (fun h e => h (by subst e; rfl))
        have hki : (k : Int) < (l.length : Int) := by omega
        have hki' : (k : Int) < (m.length : Int) := by omega
        have hki0 : (0 : Int) ≤ (k : Int) := by omega
        clear hb hcells hT
        generalize hx : l[k] = xx at *
        generalize hy : m[k] = yy at *
        clear hx hy
        obtain ⟨x, y⟩ := xx
        obtain ⟨x', y'⟩ := yy
        simp only at d1 d2 d1' d2'
        have hne := fun W => gneq x x' y y' W
        by_cases e : ((x, y) : Ct) = (x', y')
        · rw [decide_eq_true e] at hne
          have T2 := Lib.hid (T.out e)
          clear T Nk e
          go_wp2
          go_region
          go_wp2
          go_roundw
          case rel => exact ⟨k + 1, by omega, by go_num, T2, hb'.out.drew, Hc.out⟩
          case measure => simp [intOf]; omega
        · rw [decide_eq_false e] at hne
          have N2 := Lib.hid (Nk.out e)
          clear T Nk e
          go_wp2
          go_region
          go_wp2
          go_ret
          exact ⟨by rw [decide_eq_false N2.out]; rfl, hb'.out.drew⟩
      · have hall : l = m := by
          have h1 : l.take k = l := List.take_of_length_le (by omega)
          have h2 : m.take k = m := List.take_of_length_le (by omega)
          rw [← h1, ← h2, hT.out]
        have hb' := Lib.hid hb
        have hki : (l.length : Int) ≤ (k : Int) := by omega
        clear hb hcells hT
        go_wp2
        go_ret
        exact ⟨by rw [decide_eq_true hall]; rfl, hb'.out⟩
  · have : ¬ l = m := fun e => hlen (by rw [e])
    have hlen' : ((l.length : Int) == (m.length : Int)) = false := by rw [beq_eq_false_iff_ne]; omega
    rw [decide_eq_false this]
    go_enter Tryz.func41, Tryz.ntmps41
    go_wp2
    go_ret
    exact ⟨rfl, Below.refl _ _⟩

theorem gsame_any (A A' : Option Addr) (c c' B B' : Nat) (l m : List Ct) (w : World) (hR : Reads w B 2 A l.length (ctC l)) (hR' : Reads w B' 2 A' m.length (ctC m)) (hl : l.length ≤ 1048576) (hm : m.length ≤ 1048576) :
    Calls Tryz.prog 16 #[.slice A l.length c, .slice A' m.length c'] w fun e w' => e = .returned (.bool (decide (l = m))) ∧ Below w.heap.size w w' := by
  have c0 := equal_any A A' c c' B B' l m w hR hR' hl hm
  clear hR hR'
  go_enter Tryz.func16, Tryz.ntmps16
  go_wp2_with fail
  refine c0.mono ?_
  rintro e w2 ⟨rfl, hb2⟩
  go_wp2
  go_ret
  exact ⟨rfl, hb2⟩

set_option maxHeartbeats 3200000 in
theorem lsame_any (A A' : Option Addr) (c c' B B' : Nat) (l m : List Ct) (w : World) (hR : Reads w B 2 A l.length (ctC l)) (hR' : Reads w B' 2 A' m.length (ctC m)) (hl : l.length ≤ 1048576) (hm : m.length ≤ 1048576) :
    Calls Tryz.prog 11 #[.slice A l.length c, .slice A' m.length c'] w fun e w' => e = .returned (.bool (decide (l = m))) ∧ Below w.heap.size w w' := by
  have HR := Lib.hid hR
  have HR' := Lib.hid hR'
  clear hR hR'
  by_cases hlen : l.length = m.length
  · have hlen' : (l.length : Int) = (m.length : Int) := by omega
    go_enter Tryz.func11, Tryz.ntmps11
    go_wp2
    go_loopw [5] (fun i wr => ∃ k : Nat, k ≤ l.length ∧ i = .int .i64 (k : Nat) ∧ Hid (l.take k = m.take k) ∧ Below w.heap.size w wr ∧ (∀ p, wr.cell? p = w.cell? p)) (fun i _ => l.length - (intOf i).toNat)
    case atStart => exact ⟨0, Nat.zero_le _, rfl, Lib.hid rfl, Below.refl _ _, fun _ => rfl⟩
    case round =>
      obtain ⟨k, hk, rfl, hT, hb, hcells⟩ := hrel
      by_cases hlt : k < l.length
      · have hltm : k < m.length := by omega
        obtain ⟨bb, o, rfl, hbb, d1, d2⟩ := cts_at HR.out hlt
        obtain ⟨bb', o', rfl, hbb', d1', d2'⟩ := cts_at HR'.out hltm
        rw [← hcells] at d1 d2 d1' d2'
        have T := Lib.hid (take_same hT.out hlt hltm)
        have hb' := Lib.hid hb
        have Hc := Lib.hid hcells
        have Nk : Hid (¬ (l[k] = m[k]) → ¬ l = m) := Lib.hid (fun h e => h (by subst e; rfl))
        have hki : (k : Int) < (l.length : Int) := by omega
        have hki' : (k : Int) < (m.length : Int) := by omega
        have hki0 : (0 : Int) ≤ (k : Int) := by omega
        clear hb hcells hT
        generalize hx : l[k] = xx at *
        generalize hy : m[k] = yy at *
        clear hx hy
        obtain ⟨x, y⟩ := xx
        obtain ⟨x', y'⟩ := yy
        simp only at d1 d2 d1' d2'
        have hl := list_beq x x'
        by_cases e1 : x = x'
        · rw [decide_eq_true e1] at hl
          by_cases e2 : y = y'
          · have T2 := Lib.hid (T.out (by rw [e1, e2]))
            have hy : (y == y') = true := by rw [beq_iff_eq]; exact e2
            clear T Nk e1
            subst e2
            go_wp2
            go_quiet (fail)
            go_wp2
            go_roundw
            case rel => exact ⟨k + 1, by omega, by go_num, T2, hb'.out.trans ⟨rfl, rfl, rfl, Nat.le_refl _, fun _ _ => rfl⟩, Hc.out⟩
            case measure => simp [intOf]; omega
          · have N2 := Lib.hid (Nk.out (fun h => e2 (Prod.ext_iff.1 h).2))
            have hy : (y == y') = false := by rw [beq_eq_false_iff_ne]; exact e2
            clear T Nk e1
            go_wp2
            go_quiet (fail)
            go_wp2
            go_ret
            exact ⟨by rw [decide_eq_false N2.out]; rfl, hb'.out.trans ⟨rfl, rfl, rfl, Nat.le_refl _, fun _ _ => rfl⟩⟩
        · rw [decide_eq_false e1] at hl
          have N2 := Lib.hid (Nk.out (fun h => e1 (Prod.ext_iff.1 h).1))
          clear T Nk e1
          go_wp2
          go_quiet (fail)
          go_wp2
          go_ret
          exact ⟨by rw [decide_eq_false N2.out]; rfl, hb'.out.trans ⟨rfl, rfl, rfl, Nat.le_refl _, fun _ _ => rfl⟩⟩
      · have hall : l = m := by
          have h1 : l.take k = l := List.take_of_length_le (by omega)
          have h2 : m.take k = m := List.take_of_length_le (by omega)
          rw [← h1, ← h2, hT.out]
        have hb' := Lib.hid hb
        have hki : (l.length : Int) ≤ (k : Int) := by omega
        clear hb hcells hT
        go_wp2
        go_ret
        exact ⟨by rw [decide_eq_true hall]; rfl, hb'.out⟩
  · have : ¬ l = m := fun e => hlen (by rw [e])
    have hlen' : ((l.length : Int) == (m.length : Int)) = false := by rw [beq_eq_false_iff_ne]; omega
    rw [decide_eq_false this]
    go_enter Tryz.func11, Tryz.ntmps11
    go_wp2
    go_ret
    exact ⟨rfl, Below.refl _ _⟩
end Go.Proofs.YtdloacfoegjnmaaGreat.Gr
end

section
/- loggiaref30.less: the walk; how bytes stand in order: plain. -/
namespace Go.Proofs.YtdloacfoegjnmaaGreat.Gr
open Go.RowKit Go.Proofs.YtdloacfoegjnmaaGreat Go.Proofs.YtdloacfoegjnmaaGreat.Ut Go.Proofs.YtdloacfoegjnmaaGreat.Tk
set_option maxRecDepth 20000
set_option linter.unusedSimpArgs false
set_option linter.unusedVariables false

theorem bl_irrefl : ∀ x : List UInt8, Op.bytesLess x x = false
  | [] => by simp [Op.bytesLess]
  | a :: x => by simp [Op.bytesLess, bl_irrefl x]
theorem bl_trans : ∀ x y z : List UInt8, Op.bytesLess x y = true → Op.bytesLess y z = true → Op.bytesLess x z = true
  | [], [], _, h, _ => by simp [Op.bytesLess] at h
  | [], b :: y, [], _, h => by simp [Op.bytesLess] at h
  | [], b :: y, c :: z, _, _ => by simp [Op.bytesLess]
  | a :: x, [], _, h, _ => by simp [Op.bytesLess] at h
  | a :: x, b :: y, [], _, h => by simp [Op.bytesLess] at h
  | a :: x, b :: y, c :: z, h1, h2 => by
    simp only [Op.bytesLess, Bool.or_eq_true, Bool.and_eq_true, decide_eq_true_eq, beq_iff_eq] at h1 h2 ⊢
    rcases h1 with h1 | ⟨rfl, h1⟩
    · rcases h2 with h2 | ⟨rfl, h2⟩
      · exact .inl (UInt8.lt_trans h1 h2)
      · exact .inl h1
    · rcases h2 with h2 | ⟨rfl, h2⟩
      · exact .inl h2
      · exact .inr ⟨rfl, bl_trans x y z h1 h2⟩
theorem bl_total : ∀ x y : List UInt8, Op.bytesLess x y = true ∨ x = y ∨ Op.bytesLess y x = true
  | [], [] => .inr (.inl rfl)
  | [], b :: y => .inl (by simp [Op.bytesLess])
  | a :: x, [] => .inr (.inr (by simp [Op.bytesLess]))
  | a :: x, b :: y => by
    simp only [Op.bytesLess, Bool.or_eq_true, Bool.and_eq_true, decide_eq_true_eq, beq_iff_eq, List.cons.injEq]
    rcases UInt8.lt_or_lt_of_ne (a := a) (b := b) |> fun f => Classical.em (a = b) |>.elim (fun e => Or.inr e) (fun e => Or.inl (f e)) with h | rfl
    · rcases h with h | h
      · exact .inl (.inl h)
      · exact .inr (.inr (.inl h))
    · rcases bl_total x y with h | rfl | h
      · exact .inl (.inr ⟨rfl, h⟩)
      · exact .inr (.inl ⟨rfl, rfl⟩)
      · exact .inr (.inr (.inr ⟨rfl, h⟩))
theorem bl_cons (x y : UInt8) (a b : List UInt8) (h : x ≠ y) : Op.bytesLess (x :: a) (y :: b) = decide (x.toNat < y.toNat) := by
  have h2 : (x == y) = false := by simpa using h
  simp only [Op.bytesLess, h2, Bool.false_and, Bool.or_false]
  rfl
theorem bl_same (x : UInt8) (a b : List UInt8) : Op.bytesLess (x :: a) (x :: b) = Op.bytesLess a b := by
  simp [Op.bytesLess]

set_option maxHeartbeats 1600000 in
theorem less_any (a b : ByteArray) (w : World) (ha : a.size ≤ 140737488351232) (hb6 : b.size ≤ 140737488351232) :
    Calls Tryz.prog 61 #[.string a, .string b] w fun e w' => e = .returned (.bool (ltS a b)) ∧ Below w.heap.size w w' := by
  have hst : Hid (ltS a b = Op.bytesLess (a.data.toList.drop 0) (b.data.toList.drop 0)) := Lib.hid (by unfold ltS; rw [tl, tl, List.drop_zero, List.drop_zero])
  generalize ltS a b = r at *
  go_enter Tryz.func61, Tryz.ntmps61
  go_wp2_with fail
  go_loopw [5] (fun i wr => ∃ k : Nat, k ≤ a.size ∧ k ≤ b.size ∧ i = .int .i64 (k : Nat) ∧ Hid (r = Op.bytesLess (a.data.toList.drop k) (b.data.toList.drop k)) ∧ Below w.heap.size w wr) (fun i _ => a.size - (intOf i).toNat)
  case atStart => exact ⟨0, Nat.zero_le _, Nat.zero_le _, rfl, hst, Below.refl _ _⟩
  case round =>
    obtain ⟨k, hka, hkb, rfl, hS, hb⟩ := hrel
    have Hb := Lib.hid hb
    clear hb hst
    by_cases hlt : k < a.size ∧ k < b.size
    · obtain ⟨h1, h2⟩ := hlt
      have hk0 : (0 : Int) ≤ (k : Int) := by omega
      have hk1 : (k : Int) < (a.size : Int) := by omega
      have hk2 : (k : Int) < (b.size : Int) := by omega
      have da : a.data.toList.drop k = a[k] :: a.data.toList.drop (k + 1) := List.drop_eq_getElem_cons (by rw [bsize]; exact h1)
      have db : b.data.toList.drop k = b[k] :: b.data.toList.drop (k + 1) := List.drop_eq_getElem_cons (by rw [bsize]; exact h2)
      have hS2 := hS.out
      rw [da, db] at hS2
      have hx := (a[k]).toNat_lt
      have hy := (b[k]).toNat_lt
      by_cases e : a[k] = b[k]
      · have hS3 : Hid (r = Op.bytesLess (a.data.toList.drop (k + 1)) (b.data.toList.drop (k + 1))) := Lib.hid (by rw [hS2, e, bl_same])
        have hne : (((a[k]).toNat : Int) != ((b[k]).toNat : Int)) = false := by rw [e]; simp
        clear hS hS2 da db
        go_wp2
        go_region
        go_wp2
        go_roundw
        case rel => exact ⟨k + 1, by omega, by omega, by go_num, hS3, Hb.out.drew⟩
        case measure => simp [intOf]; omega
      · have hS3 : Hid (r = decide ((a[k]).toNat < (b[k]).toNat)) := Lib.hid (by rw [hS2, bl_cons _ _ _ _ e])
        have hne : (((a[k]).toNat : Int) != ((b[k]).toNat : Int)) = true := by
          rw [bne_iff_ne]
          intro h
          exact e (UInt8.toNat_inj.1 (by omega))
        clear hS hS2 da db e
        go_wp2
        go_region
        go_wp2
        go_region
        go_wp2
        go_ret
        exact ⟨by rw [hS3.out]; simp, Hb.out.drew.drew⟩
    · have hS3 : Hid (r = decide (a.size < b.size)) := Lib.hid (by
        rw [hS.out]
        by_cases h1 : k < a.size
        · have e : k = b.size := by omega
          have eb : b.data.toList.drop k = [] := List.drop_eq_nil_of_le (by rw [bsize]; omega)
          rw [eb, List.drop_eq_getElem_cons (by rw [bsize]; exact h1), decide_eq_false (by omega)]
          simp [Op.bytesLess]
        · have ea : a.data.toList.drop k = [] := List.drop_eq_nil_of_le (by rw [bsize]; omega)
          rw [ea]
          by_cases h2 : k < b.size
          · rw [List.drop_eq_getElem_cons (by rw [bsize]; exact h2), decide_eq_true (by omega)]
            simp [Op.bytesLess]
          · have eb : b.data.toList.drop k = [] := List.drop_eq_nil_of_le (by rw [bsize]; omega)
            rw [eb, decide_eq_false (by omega)]
            simp [Op.bytesLess])
      clear hS
      by_cases h1 : k < a.size
      · have hk1 : (k : Int) < (a.size : Int) := by omega
        have hk2 : (b.size : Int) ≤ (k : Int) := by omega
        go_wp2
        go_ret
        exact ⟨by rw [hS3.out]; simp, Hb.out⟩
      · have hk1 : (a.size : Int) ≤ (k : Int) := by omega
        go_wp2
        go_ret
        exact ⟨by rw [hS3.out]; simp, Hb.out⟩
end Go.Proofs.YtdloacfoegjnmaaGreat.Gr
end
