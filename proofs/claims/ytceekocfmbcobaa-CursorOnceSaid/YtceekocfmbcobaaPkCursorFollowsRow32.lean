/- loggiaref17.Parse: the walk (printed by gen_qpv.py). -/
import Derived.Test.YtceekocfmbcobaaQpRdPk
import Derived.Test.YtceekocfmbcobaaPkCursorFollowsRow31
import Derived.Test.YtceekocfmbcobaaPkCursorFollowsRow26
import Derived.Test.YtceekocfmbcobaaPkCursorFollowsRow27
section
namespace Go.Proofs.Ytceekocfmbcobaa.Qp
open Go.RowKit Go.Proofs.Ytceekocfmbcobaa Go.Proofs.Ytceekocfmbcobaa.Ut Go.Proofs.Ytceekocfmbcobaa.Tk Go.Proofs.Ytceekocfmbcobaa.Qy
set_option maxRecDepth 20000
set_option linter.unusedSimpArgs false

theorem all_rf (L : List P) (hL : L.length ≤ 1048576) (hpc : PcAll L) : ∀ (n p : Nat), L.length - p ≤ n → p ≤ L.length → PartRf L p ∧ AndRf L p ∧ OrRf L p := by
  have pend : PartRf L L.length := part_end L _ (Nat.le_refl _)
  intro n
  induction n with
  | zero =>
    intro p h1 h2
    obtain rfl : p = L.length := by omega
    have ps : ∀ k, L.length ≤ k → k ≤ L.length → PartRf L k := fun k a b => by
      obtain rfl : k = L.length := by omega
      exact pend
    have ha := and_rf L _ hL (Nat.le_refl _) ps
    exact ⟨pend, ha, or_rf L _ hL (Nat.le_refl _) fun k a b => by
      obtain rfl : k = L.length := by omega
      exact ha⟩
  | succ n ih =>
    intro p h1 h2
    by_cases hp : p < L.length
    · have it := ih (p + 1) (by omega) (by omega)
      have hx := hpc L[p] (List.getElem_mem hp)
      have part : PartRf L p := by
        by_cases e1 : L[p] = NOT
        · exact partr_not L p hp hL e1 it.1
        by_cases e2 : L[p] = LP
        · exact partr_lp L p hp hL e2 it.2.2
        by_cases e3 : L[p] = RP
        · exact partr_RP L p hp hL e3
        by_cases e4 : L[p] = AND
        · exact partr_AND L p hp hL e4
        by_cases e5 : L[p] = OR
        · exact partr_OR L p hp hL e5
        exact partr_leaf L p hp hL (by unfold word1; simp [e1, e2, e3, e4, e5]) hx.1 hx.2
      have ps : ∀ k, p ≤ k → k ≤ L.length → PartRf L k := fun k a b => by
        by_cases hk : k = p
        · subst hk; exact part
        · exact (ih k (by omega) b).1
      have ha := and_rf L p hL h2 ps
      exact ⟨part, ha, or_rf L p hL h2 fun k a b => by
        by_cases hk : k = p
        · subst hk; exact ha
        · exact (ih k (by omega) b).2.1⟩
    · exact ih p (by omega) h2
set_option maxHeartbeats 6400000 in
theorem parse_rf (s : ByteArray) (w : World) : Calls Try.prog 15 #[.string s] w (ParPost w s.data.toList) := by
  by_cases hs : 1024 < s.size
  · have hs' : (1024 : Int) < (s.size : Int) := by omega
    have HP := Lib.hid (PrsR.long (s := s.data.toList) (by rw [bsize]; exact hs))
    have hB := Blk.new w 29 #[.int .i64 0, .string ⟨#[]⟩, .slice none 0 0, .slice none 0 0]
    have hbl := Lib.hid ((Below.refl w.heap.size w).alloc (Nat.le_refl _) (.cells #[.int .i64 0, .string ⟨#[]⟩, .slice none 0 0, .slice none 0 0] 29))
    clear hs
    go_enter Try.func15, Try.ntmps15
    go_wp2_with fail
    exact bodyPost_ret (cs_results rfl rfl rfl hB) rfl ⟨2, none, _, _, _, _, HP.out, rfl, noQ_at _ _, hbl.out⟩
  have hs' : (s.size : Int) ≤ 1024 := by omega
  have hs1 : s.data.toList.length ≤ 1024 := by rw [bsize]; omega
  have c0 := pieces_ref s (w.alloc (.cells #[.int .i64 0, .string ByteArray.empty, .slice none 0 0, .slice none 0 0] 29)) (by omega)
  have hpc := pieces_pc s.data.toList.length s.data.toList
  have hpm := pieces_many s.data.toList.length s.data.toList
  have B1 := Lib.hid (Blk.new w 29 #[.int .i64 0, .string ByteArray.empty, .slice none 0 0, .slice none 0 0])
  have Hb := Lib.hid ((Below.refl w.heap.size w).alloc (Nat.le_refl _) (.cells #[.int .i64 0, .string ByteArray.empty, .slice none 0 0, .slice none 0 0] 29))
  have Hz := Lib.hid (show (w.alloc (.cells #[.int .i64 0, .string ByteArray.empty, .slice none 0 0, .slice none 0 0] 29)).heap.size = w.heap.size + 1 by simp)
  have Hs1 := Lib.hid hs1
  clear hs hs1
  -- whatever pieces there are
  obtain ⟨L, okp, hL, hall, hokp⟩ : ∃ (L : List P) (okp : Bool), L.length ≤ 1024 ∧ PcAll L ∧ ((okp = true ∧ pieces s.data.toList = some L) ∨ (okp = false ∧ L = [] ∧ pieces s.data.toList = none)) := by
    cases h : pieces s.data.toList with
    | none => exact ⟨[], false, by simp, (fun x hx => by cases hx), .inr ⟨rfl, rfl, rfl⟩⟩
    | some l => exact ⟨l, true, by have := hpm l (Nat.le_refl _) h; have := Hs1.out; omega, (fun x hx => by have := hpc l (Nat.le_refl _) h x hx; exact ⟨this.1, by have := this.2; have := Hs1.out; omega⟩), .inl ⟨rfl, rfl⟩⟩
  have c0' : Calls Try.prog 13 #[.string s] (w.alloc (.cells #[.int .i64 0, .string ByteArray.empty, .slice none 0 0, .slice none 0 0] 29)) fun e w3 => ∃ A c, e = .returned (.tuple #[.slice A L.length c, .bool okp]) ∧ Reads w3 w3.heap.size 1 A L.length (sv L) ∧ Below (w.alloc (.cells #[.int .i64 0, .string ByteArray.empty, .slice none 0 0, .slice none 0 0] 29)).heap.size (w.alloc (.cells #[.int .i64 0, .string ByteArray.empty, .slice none 0 0, .slice none 0 0] 29)) w3 := by
    refine c0.mono fun e w3 h => ?_
    rcases hokp with ⟨rfl, hp⟩ | ⟨rfl, rfl, hp⟩
    · rw [hp] at h
      obtain ⟨v, rfl, hown, hb⟩ := h
      obtain ⟨A, c, rfl, hR⟩ := own_shape hown
      exact ⟨A, c, rfl, hR, hb⟩
    · rw [hp] at h
      obtain ⟨rfl, hb⟩ := h
      exact ⟨none, 0, rfl, Reads.none_, hb⟩
  have Hokp := Lib.hid hokp
  have Hall := Lib.hid hall
  clear c0 hpc hpm hokp hall
  go_enter Try.func15, Try.ntmps15
  go_wp2_with fail
  refine c0'.mono ?_
  rintro e w1 ⟨A, c, rfl, hR1, hb1⟩
  have hsz1 : w.heap.size + 1 ≤ w1.heap.size := by have := hb1.size; rw [Hz.out] at this; exact this
  have HB1 := Lib.hid (B1.out.below hb1 (by rw [Hz.out]; omega))
  have Hb1 := Lib.hid (Hb.out.trans (hb1.mono (by rw [Hz.out]; omega)))
  have c1 := (all_rf L (by omega) Hall.out L.length 0 (by omega) (Nat.zero_le _)).2.2 w1 A c hR1
  have hLi : (L.length : Int) ≤ 1024 := by omega
  clear c0' hR1 hb1 B1 Hb
  go_wp2_with fail
  refine Calls.mono (show Calls Try.prog 38 #[.slice A L.length c, .int .i64 0] w1 (PrPost w1 L (.or []) 0) from c1) ?_
  rintro e w2 ⟨a0, a1, a2, a3, z, ok, rfl, ⟨k', nm', A', n', c', C', m', d', e4⟩, hb, o', hRo, hok, hres⟩
  simp only [List.cons.injEq, and_true] at e4
  obtain ⟨rfl, rfl, rfl, rfl⟩ := e4
  rw [List.drop_zero] at hRo
  have hsz2 := hb.size
  have hbb := (Below.refl w2.heap.size w2).alloc (Nat.le_refl _) (.cells #[.int .i64 k', .string nm', .slice A' n' c', .slice C' m' d', .int .i64 z, .bool ok] 90)
  have hbw := hb.trans (hbb.mono hsz2)
  have HB3 := Lib.hid (HB1.out.below hbw (by omega))
  have Hb3 := Lib.hid (Hb1.out.trans (hbw.mono (by omega)))
  have HBx := Lib.hid (Blk.new w2 90 #[.int .i64 k', .string nm', .slice A' n' c', .slice C' m' d', .int .i64 z, .bool ok])
  have HRo := Lib.hid hRo
  have Hok := Lib.hid hok
  have Hres := Lib.hid (fun q r h => let ⟨k1, h1, h2, h3, h4⟩ := hres q r h; (⟨k1, h1, h2, h3, h4.grow hbb⟩ : ∃ k1 : Nat, z = (k1 : Int) ∧ k1 ≤ L.length ∧ r = L.drop k1 ∧ QF (w2.alloc (.cells #[.int .i64 k', .string nm', .slice A' n' c', .slice C' m' d', .int .i64 z, .bool ok] 90)) (fun b => w1.heap.size ≤ b ∧ b < (w2.alloc (.cells #[.int .i64 k', .string nm', .slice A' n' c', .slice C' m' d', .int .i64 z, .bool ok] 90)).heap.size) q [.int .i64 k', .string nm', .slice A' n' c', .slice C' m' d']))
  have hzw : w2.heap.size < (w2.alloc (.cells #[.int .i64 k', .string nm', .slice A' n' c', .slice C' m' d', .int .i64 z, .bool ok] 90)).heap.size := by simp
  clear c1 hb hbb hbw hRo hok hres HB1 Hb1 Hz
  go_upto_region 5 with (fail)
  generalize hw3 : w2.alloc (.cells #[.int .i64 k', .string nm', .slice A' n' c', .slice C' m' d', .int .i64 z, .bool ok] 90) = w3 at *
  clear hw3
  obtain ⟨x0, x1, x2, x3, x4, x5, _, _, _, _, _, _⟩ := HBx.out.six
  rcases Hokp.out with ⟨hok1, hpp⟩ | ⟨hok1, hL0, hpp⟩
  case' inr =>
    have HP := Lib.hid (PrsR.noPieces Hs1.out hpp)
    clear hpp Hokp Hres HRo Hok hL0
    subst hok1
    obtain ⟨q0, q1, q2, q3, f0, f1, f2, f3⟩ := HB3.out.four
    have HX := Lib.hid (HB3.out.set4 (.int .i64 0) (.string ⟨#[]⟩) (.slice none 0 0) (.slice none 0 0))
    have Hbl := Lib.hid (below_set4 Hb3.out (Nat.le_refl _) (.int .i64 0) (.string ⟨#[]⟩) (.slice none 0 0) (.slice none 0 0))
    go_wp2_with fail
    exact bodyPost_ret (cs_results rfl rfl rfl HX.out) rfl ⟨170, none, _, _, _, _, HP.out, rfl, noQ_at _ _, Hbl.out⟩
  case' inl =>
    have Hpp := Lib.hid hpp
    clear hpp Hokp
    subst hok1
    match o', Hok, HRo, Hres with
    | none, Hok, HRo, Hres =>
      obtain rfl : ok = false := Hok.out
      have HP := Lib.hid (PrsR.bad Hs1.out Hpp.out HRo.out)
      clear Hok
      obtain ⟨q0, q1, q2, q3, f0, f1, f2, f3⟩ := HB3.out.four
      have HX := Lib.hid (HB3.out.set4 (.int .i64 0) (.string ⟨#[]⟩) (.slice none 0 0) (.slice none 0 0))
      have Hbl := Lib.hid (below_set4 Hb3.out (Nat.le_refl _) (.int .i64 0) (.string ⟨#[]⟩) (.slice none 0 0) (.slice none 0 0))
      go_wp2_with fail
      exact bodyPost_ret (cs_results rfl rfl rfl HX.out) rfl ⟨170, none, _, _, _, _, HP.out, rfl, noQ_at _ _, Hbl.out⟩
    | some (q, r), Hok, HRo, Hres =>
      obtain rfl : ok = true := Hok.out
      obtain ⟨k1, rfl, hk1, rfl, hF3⟩ := Hres.out q r rfl
      have hk10 : (0 : Int) ≤ (k1 : Int) := by omega
      have HF3 := Lib.hid hF3
      clear Hres Hok hF3
      by_cases hkl : k1 = L.length
      case' neg =>
        have hkl' : ((k1 : Int) != (L.length : Int)) = true := by rw [bne_iff_ne]; omega
        have hkl2 : ((k1 : Int) == (L.length : Int)) = false := by rw [beq_eq_false_iff_ne]; omega
        have hkn : (k1 != L.length) = true := by rw [bne_iff_ne]; exact hkl
        have hkn2 : (k1 == L.length) = false := by rw [beq_eq_false_iff_ne]; exact hkl
        have HP := Lib.hid (PrsR.left Hs1.out Hpp.out HRo.out (fun e => by
          have := congrArg List.length e
          rw [List.length_drop] at this
          simp at this
          omega))
        clear hkl
        obtain ⟨q0, q1, q2, q3, f0, f1, f2, f3⟩ := HB3.out.four
        have HX := Lib.hid (HB3.out.set4 (.int .i64 0) (.string ⟨#[]⟩) (.slice none 0 0) (.slice none 0 0))
        have Hbl := Lib.hid (below_set4 Hb3.out (Nat.le_refl _) (.int .i64 0) (.string ⟨#[]⟩) (.slice none 0 0) (.slice none 0 0))
        go_wp2_with fail
        exact bodyPost_ret (cs_results rfl rfl rfl HX.out) rfl ⟨170, none, _, _, _, _, HP.out, rfl, noQ_at _ _, Hbl.out⟩
      case' pos =>
        have hr0 : L.drop k1 = [] := List.drop_of_length_le (by omega)
        have hRo2 := HRo.out
        rw [hr0] at hRo2
        have HRo2 := Lib.hid hRo2
        have hkl' : ((k1 : Int) != (L.length : Int)) = false := by rw [bne_eq_false_iff_eq]; omega
        have hkl2 : ((k1 : Int) == (L.length : Int)) = true := by rw [beq_iff_eq]; omega
        have hkn : (k1 != L.length) = false := by rw [bne_eq_false_iff_eq]; exact hkl
        have hkn2 : (k1 == L.length) = true := by rw [beq_iff_eq]; exact hkl
        obtain ⟨K, hK, hQW⟩ := or_wide hRo2 (fun x hx => (Hall.out x hx).2) (by omega)
        have c8 := many_ref hQW w3 _ _ _ _ (HF3.out.at_ fun b hS => hS.2)
        have HQW := Lib.hid hQW
        have hlt3 : w.heap.size < w3.heap.size := by omega
        clear hkl hr0 hRo2 HRo hQW
        go_wp2_with fail
        refine c8.mono ?_
        rintro e w8 ⟨rfl, hb8⟩
        clear c8 x0 x1 x2 x3 x4 x5
        have hsz8 := hb8.size
        have HB8 := Lib.hid (HB3.out.below hb8 hlt3)
        have HBx8 := Lib.hid (HBx.out.below hb8 hzw)
        have Hb8 := Lib.hid (Hb3.out.trans (hb8.mono (by omega)))
        have HF8 := Lib.hid (HF3.out.grow hb8)
        clear hb8 HB3 HBx Hb3 HF3
        obtain ⟨x0, x1, x2, x3, x4, x5, _, _, _, _, _, _⟩ := HBx8.out.six
        cases hmq : manyB q with
        | true =>
          have HP := Lib.hid (PrsR.many Hs1.out Hpp.out HRo2.out hmq)
          clear hmq
          obtain ⟨q0, q1, q2, q3, f0, f1, f2, f3⟩ := HB8.out.four
          have HX := Lib.hid (HB8.out.set4 (.int .i64 0) (.string ⟨#[]⟩) (.slice none 0 0) (.slice none 0 0))
          have Hbl := Lib.hid (below_set4 Hb8.out (Nat.le_refl _) (.int .i64 0) (.string ⟨#[]⟩) (.slice none 0 0) (.slice none 0 0))
          go_wp2_with fail
          exact bodyPost_ret (cs_results rfl rfl rfl HX.out) rfl ⟨3, none, _, _, _, _, HP.out, rfl, noQ_at _ _, Hbl.out⟩
        | false =>
          have Hmq := Lib.hid hmq
          have c9 := depth_ref HQW.out hK w8 _ _ _ _ (HF8.out.at_ fun b hS => hS.2)
          have hK2 : depthN q ≤ 16777216 := Nat.le_trans HQW.out.depth hK
          clear hmq
          go_wp2_with fail
          refine c9.mono ?_
          rintro e wd ⟨rfl, hbd⟩
          clear c9 x0 x1 x2 x3 x4 x5
          have HBd := Lib.hid (HB8.out.below hbd (by omega))
          have HBxd := Lib.hid (HBx8.out.below hbd (by omega))
          have Hbd := Lib.hid (Hb8.out.trans (hbd.mono (by omega)))
          have HFd := Lib.hid (HF8.out.grow hbd)
          clear hbd HB8 HBx8 Hb8 HF8
          obtain ⟨x0, x1, x2, x3, x4, x5, _, _, _, _, _, _⟩ := HBxd.out.six
          by_cases hdp : 16 < depthN q
          · have hdp' : (16 : Int) < (depthN q : Int) := by omega
            have HP := Lib.hid (PrsR.deep Hs1.out Hpp.out HRo2.out Hmq.out hdp)
            clear hdp
            generalize depthN q = dq at *
            obtain ⟨q0, q1, q2, q3, f0, f1, f2, f3⟩ := HBd.out.four
            have HX := Lib.hid (HBd.out.set4 (.int .i64 0) (.string ⟨#[]⟩) (.slice none 0 0) (.slice none 0 0))
            have Hbl := Lib.hid (below_set4 Hbd.out (Nat.le_refl _) (.int .i64 0) (.string ⟨#[]⟩) (.slice none 0 0) (.slice none 0 0))
            go_wp2_with fail
            exact bodyPost_ret (cs_results rfl rfl rfl HX.out) rfl ⟨171, none, _, _, _, _, HP.out, rfl, noQ_at _ _, Hbl.out⟩
          · have hdp' : (depthN q : Int) ≤ 16 := by omega
            have HP := Lib.hid (PrsR.ok Hs1.out Hpp.out HRo2.out Hmq.out (by omega))
            have HFe := Lib.hid (q_ret (w := w) HFd.out (show w.heap.size < w1.heap.size by omega) (Nat.le_refl _))
            clear hdp
            generalize depthN q = dq at *
            obtain ⟨q0, q1, q2, q3, f0, f1, f2, f3⟩ := HBd.out.four
            have HX := Lib.hid (HBd.out.set4 (.int .i64 k') (.string nm') (.slice A' n' c') (.slice C' m' d'))
            have Hbl := Lib.hid (below_set4 Hbd.out (Nat.le_refl _) (.int .i64 k') (.string nm') (.slice A' n' c') (.slice C' m' d'))
            go_wp2_with fail
            exact bodyPost_ret (cs_results rfl rfl rfl HX.out) rfl ⟨0, some q, _, _, _, _, HP.out, rfl, HFe.out, Hbl.out⟩
end Go.Proofs.Ytceekocfmbcobaa.Qp
end

section
/- loggiaref25.Is: the walk. -/
namespace Go.Proofs.Ytceekocfmbcobaa.Cu
open Go.RowKit Go.Proofs.Ytceekocfmbcobaa Go.Proofs.Ytceekocfmbcobaa.Cr Go.Proofs.Ytceekocfmbcobaa.Qp Go.Proofs.Ytceekocfmbcobaa.Qy
set_option maxRecDepth 20000
set_option linter.unusedSimpArgs false

set_option maxHeartbeats 1600000 in
theorem is_any (a : Int) (q : ByteArray) (w : World) : Calls Try.prog 43 #[.agg #[.int .i64 a, .string q]] w fun e w' => e = .returned (.bool (mayB a q)) ∧ Below w.heap.size w w' := by
  have hb0 := (Below.refl w.heap.size w).alloc (Nat.le_refl _) (.cells #[.int .i64 a, .string q] 45)
  have hB0 := Blk.new w 45 #[.int .i64 a, .string q]
  have hz0 : (w.alloc (.cells #[.int .i64 a, .string q] 45)).heap.size = w.heap.size + 1 := by simp
  have c1 := parse_rf q (w.alloc (.cells #[.int .i64 a, .string q] 45))
  generalize hm : mayB a q = b
  have Hm := Lib.hid hm
  have Hb0 := Lib.hid hb0
  have HB0 := Lib.hid hB0
  have Hz0 := Lib.hid hz0
  clear hm hb0 hB0 hz0
  go_enter Try.func43, Try.ntmps43
  go_wp2_with fail
  refine c1.mono ?_
  rintro e w1 ⟨E, oq, a0, a1, a2, a3, hp, rfl, hF, hb1⟩
  have hbx := (HB0.out.below hb1 (by rw [Hz0.out]; omega)).alloc (.cells #[a0, a1, a2, a3] 29)
  have hz1 := hb1.size
  have Hfin := Lib.hid ((Hb0.out.trans (hb1.mono (by rw [Hz0.out]; omega))).alloc (by have := Hz0.out; omega) (.cells #[a0, a1, a2, a3] 29))
  have HI := Lib.hid (isC_of (a := a) hp)
  have hc0 := hbx.cell 0
  have hc1 := hbx.cell 1
  have hlt : w.heap.size < w1.heap.size := by have := Hz0.out; omega
  obtain ⟨A', n', c', C', m', d', e4⟩ := hF.four
  simp only [List.cons.injEq, and_true] at e4
  obtain ⟨rfl, rfl, rfl, rfl⟩ := e4
  simp at hc0 hc1
  clear c1 hp hF hb1 hbx hz1 HB0 Hb0 Hz0
  generalize (oq.getD noQ).kind = k9 at *
  generalize (oq.getD noQ).name = s9 at *
  have key : Hid (∀ x : Bool, (x = true ↔ (0 ≤ a ∧ a ≤ 1099511627776 ∧ E = 0)) → x = b) := Lib.hid (fun x hx => by
    rw [← Hm.out]
    by_cases h : IsC a q
    · rw [mayB_yes h]; exact hx.2 (HI.out.1 h)
    · rw [mayB_no h]
      cases x with
      | false => rfl
      | true => exact absurd (HI.out.2 (hx.1 rfl)) h)
  clear HI Hm
  by_cases h0 : 0 ≤ a
  · by_cases h1 : a ≤ 1099511627776
    · by_cases hE : E = 0
      · subst hE
        go_wp2
        go_ret
        exact ⟨by rw [← key.out true (by simp [h0, h1])]; rfl, Hfin.out⟩
      · have hE' : (E == 0) = false := by rw [beq_eq_false_iff_ne]; exact hE
        have Hn := Lib.hid (key.out false (by simp [hE]))
        clear hE
        go_wp2
        go_ret
        exact ⟨by rw [← Hn.out]; rfl, Hfin.out⟩
    · have Hn := Lib.hid (key.out false (by simp [h1]))
      have h2 : 1099511627776 < a := by omega
      go_wp2
      go_ret
      exact ⟨by rw [← Hn.out]; rfl, Hfin.out⟩
  · have Hn := Lib.hid (key.out false (by simp [h0]))
    have h2 : a < 0 := by omega
    go_wp2
    go_ret
    exact ⟨by rw [← Hn.out]; rfl, Hfin.out⟩
end Go.Proofs.Ytceekocfmbcobaa.Cu
end

section
/- cursor.Encode at what may not be; the document's Encode there: the walks. -/
namespace Go.Proofs.Ytceekocfmbcobaa.Cu
open Go.RowKit Go.Proofs.Ytceekocfmbcobaa Go.Proofs.Ytceekocfmbcobaa.Cr Go.Proofs.Ytceekocfmbcobaa.Qp Go.Proofs.Ytceekocfmbcobaa.Qy
set_option maxRecDepth 100000
set_option linter.unusedSimpArgs false

theorem encode_no (a : Int) (q : ByteArray) (w : World) (h : ¬ IsC a q) : Calls Try.prog 21 #[.agg #[.int .i64 a, .string q]] w (BytesTo w [] 250) := by
  have hb0 := (Below.refl w.heap.size w).alloc (Nat.le_refl _) (.cells #[.int .i64 a, .string q] 45)
  have c1 := may_any a q (w.alloc (.cells #[.int .i64 a, .string q] 45))
  rw [mayB_no h] at c1
  have Hb0 := Lib.hid hb0
  clear hb0 h
  go_enter Try.func21, Try.ntmps21
  go_wp2_with fail
  refine c1.mono ?_
  rintro e w1 ⟨rfl, hb1⟩
  have Hb1 := Lib.hid (Hb0.out.trans (hb1.mono Hb0.out.size))
  clear c1 hb1
  go_wp2
  go_ret2
  exact ⟨⟨_, rfl, World.ownsRow_nil _ _ _ _⟩, Hb1.out⟩
theorem rencode_no (a : Int) (q : ByteArray) (w : World) (h : ¬ IsC a q) : Calls Try.prog 22 #[.agg #[.int .i64 a, .string q]] w (BytesTo w [] 250) := by
  have hb0 := (Below.refl w.heap.size w).alloc (Nat.le_refl _) (.cells #[.int .i64 a, .string q] 45)
  have c1 := is_any a q (w.alloc (.cells #[.int .i64 a, .string q] 45))
  rw [mayB_no h] at c1
  have Hb0 := Lib.hid hb0
  clear hb0 h
  go_enter Try.func22, Try.ntmps22
  go_wp2_with fail
  refine c1.mono ?_
  rintro e w1 ⟨rfl, hb1⟩
  have Hb1 := Lib.hid (Hb0.out.trans (hb1.mono Hb0.out.size))
  clear c1 hb1
  go_wp2
  go_ret2
  exact ⟨⟨_, rfl, World.ownsRow_nil _ _ _ _⟩, Hb1.out⟩

/-- A number's bytes, by the document. -/
def OwnBytes (w : World) (L : List UInt8) (e : Ending) (w' : World) : Prop := ∃ v, e = .returned v ∧ w'.ownsRow w.heap.size 5 1 v L.length (bv L) ∧ Below w.heap.size w w'
set_option maxHeartbeats 1600000 in
theorem bytes_any (n s : Nat) (w : World) (hn : n ≤ 1099511627776) (hs : s ≤ 8) : Calls Try.prog 44 #[.int .i64 (n : Int), .int .i64 (s : Int)] w (OwnBytes w (be s n)) := by
  obtain ⟨i0, hi0, hz0, hz1, hz2⟩ := info_parts u8_info
  have hn0 : (0 : Int) ≤ (n : Int) := by omega
  have hn1 : (n : Int) ≤ 1099511627776 := by omega
  go_enter Try.func44, Try.ntmps44
  go_wp2_with fail
  go_loopw [5, 6] (fun v i wr => ∃ k : Nat, k ≤ s ∧ i = .int .i64 ((s : Int) - 1 - (k : Int)) ∧ wr.ownsRow w.heap.size 5 1 v ((be s n).take k).length (bv ((be s n).take k)) ∧ Below w.heap.size w wr) (fun _ i _ => (intOf i + 1).toNat)
  case atStart => exact ⟨0, Nat.zero_le _, by simp, World.ownsRow_nil _ _ _ _, Below.refl _ _⟩
  case round =>
    obtain ⟨k, hk, rfl, hown, hb⟩ := hrel
    have Hb := Lib.hid hb
    have hbs := hb.size
    clear hb
    by_cases hlt : k < s
    · have hi0' : (0 : Int) ≤ (s : Int) - 1 - (k : Int) := by omega
      have hby := byte_of n (8 * (s - 1 - k))
      have Hs : Hid ((be s n).take (k + 1) = (be s n).take k ++ [UInt8.ofNat (n / 2 ^ (8 * (s - 1 - k)))]) := Lib.hid (be_snoc s n k hlt)
      obtain ⟨A4, c4, rfl, _⟩ := own_shape hown
      have Hown := Lib.hid hown
      clear hown
      have hcast : (s : Int) - 1 - (k : Int) = ((s - 1 - k : Nat) : Int) := by omega
      rw [hcast]
      have hj8 : s - 1 - k ≤ 7 := by omega
      have Hj : Hid (s - 1 - (k + 1) = s - 1 - k - 1 ∧ ((s - 1 - k : Nat) : Int) - 1 = (s : Int) - 1 - ((k + 1 : Nat) : Int)) := Lib.hid (by omega)
      have hln : ((be s n).take k).length ≤ 8 := by rw [List.length_take, be_len]; omega
      have Hk : Hid (k + 1 ≤ s) := Lib.hid hlt
      clear hcast hi0' hs hlt hk
      generalize s - 1 - k = j at *
      generalize UInt8.ofNat (n / 2 ^ (8 * j)) = x at *
      generalize (be s n).take k = M at *
      have Hln := Lib.hid hln
      clear hln
      go_wp2_with (at_builtin; refine wpList_append_own _ rfl _ _ 41 rfl w.heap.size 5 i0 _ 1 1 Try.underlying41 hi0 hz0 hz1 hz2 rfl (by decide) _ _ _ rfl (Hown.out.alloc (.cells #[.int .u8 (x.toNat : Int)] 5)) ⟨wr.heap.size, 0, none⟩ 1 1 [.int .u8 (x.toNat : Int)] rfl rfl ?d1 ?d2 ?d3 ?d4 ?d5 ?_)
      case d1 => exact World.news_of_block (cs := #[.int .u8 (x.toNat : Int)]) (t := 5) (fr := (0, 0)) (heap_alloc_new wr _)
      case d2 => intro u hu; simp at hu; subst hu; rfl
      case d3 => unfold maxLen; have := Hln.out; omega
      case d4 => have := Hln.out; omega
      case d5 => simp; omega
      intro v' w5 hown5 hg5 _
      have Fb : Hid (Below w.heap.size w w5) := Lib.hid ((Hb.out.alloc hbs _).grown hg5 (by simp; omega) (fun b e => (Hown.out.lt b e).1))
      have Fo : Hid (w5.ownsRow w.heap.size 5 1 v' (M ++ [x]).length (bv (M ++ [x]))) := Lib.hid (by rw [List.length_append, bv_app]; exact hown5)
      clear hown5 hg5
      go_wp2
      go_roundw
      case rel => exact ⟨k + 1, Hk.out, by rw [← Hj.out.2], by rw [Hs.out]; exact Fo.out, Fb.out⟩
      case measure => simp [intOf]
    · have hneg : (s : Int) - 1 - (k : Int) < 0 := by omega
      have ht : (be s n).take k = be s n := List.take_of_length_le (by rw [be_len]; omega)
      rw [ht] at hown
      have Hown := Lib.hid hown
      clear hown ht hs
      go_wp2
      go_ret
      exact ⟨_, rfl, Hown.out, Hb.out⟩
end Go.Proofs.Ytceekocfmbcobaa.Cu
end

section
/- The document's sum of bytes: the walks. -/
namespace Go.Proofs.Ytceekocfmbcobaa.Cr
open Go.RowKit Go.Proofs.Ytceekocfmbcobaa
set_option maxRecDepth 20000
set_option linter.unusedSimpArgs false

set_option maxHeartbeats 1600000 in
theorem on_any (s : Nat) (q : UInt8) (w : World) (hs : s < 2 ^ 32) : Calls Try.prog 64 #[.int .u32 (s : Int), .int .u8 (q.toNat : Int)] w fun e w' => e = .returned (.int .u32 (on s q : Nat)) ∧ w = w' := by
  have hq := q.toNat_lt
  have hxb := xor_bits s q.toNat hs (by omega)
  have hz : s ^^^ q.toNat < 2 ^ 32 := Nat.xor_lt_two_pow hs (by omega)
  have Ho : Hid (on s q = ons 8 (s ^^^ q.toNat)) := Lib.hid rfl
  generalize on s q = r at *
  generalize s ^^^ q.toNat = z at *
  have hs0 : (0 : Int) ≤ (s : Int) := by omega
  have hs1 : (s : Int) ≤ 4294967295 := by omega
  have hq1 : (q.toNat : Int) < 256 := by omega
  go_enter Try.func64, Try.ntmps64
  go_wp2_with fail
  clear hxb
  go_loop [0, 5] (fun x n => ∃ m : Nat, m ≤ 8 ∧ n = .int .i64 m ∧ x = .int .u32 (ons m z : Nat)) (fun _ n => 8 - (intOf n).toNat)
  case atStart => exact ⟨0, by omega, rfl, rfl⟩
  case round =>
    obtain ⟨m, hm, rfl, rfl⟩ := hrel
    have hx := ons_lt m hz
    have Hs : Hid (ons (m + 1) z = on1 (ons m z)) := Lib.hid rfl
    have H8 : Hid (m = 8 → ons m z = r) := Lib.hid (fun e => by rw [e, Ho.out])
    generalize ons m z = x at *
    have hx0 : (0 : Int) ≤ (x : Int) := by omega
    have hx1 : (x : Int) ≤ 4294967295 := by omega
    by_cases hm8 : m < 8
    · have hmi : (m : Int) < 8 := by omega
      rcases Nat.mod_two_eq_zero_or_one x with h2 | h2
      · have hb : (x : Int) % 2 = 0 := by omega
        have Fin : Hid (on1 x = x / 2) := Lib.hid (by unfold on1; rw [if_neg (by omega)])
        clear h2
        go_wp2
        go_round
        case rel => exact ⟨m + 1, by omega, by go_num, by rw [Hs.out, Fin.out, half]⟩
        case measure => simp [intOf]; omega
      · have hb : (x : Int) % 2 = 1 := by omega
        have hxb : bits .xor .u32 ((x : Int) / 2) 3988292384 = ((on1 x : Nat) : Int) := by
          rw [← half, show (3988292384 : Int) = ((3988292384 : Nat) : Int) from rfl, xor_bits _ _ (by omega) (by omega)]
          unfold on1; rw [if_pos h2]
        clear h2
        go_wp2
        go_round
        case rel => exact ⟨m + 1, by omega, by go_num, by rw [Hs.out]⟩
        case measure => simp [intOf]; omega
    · obtain rfl : m = 8 := by omega
      have e8 := H8.out rfl
      have H9 := Lib.hid e8
      clear e8
      go_wp2
      go_ret
      rw [H9.out]
      exact ⟨rfl, rfl⟩

set_option maxHeartbeats 1600000 in
theorem rnext_any (s : Nat) (A : Option Addr) (n c : Nat) (L : List UInt8) (w : World) (hs : s < 2 ^ 32) (hR : Reads w w.heap.size 1 A n (bv L)) (hn : n ≤ 140737488351232) :
    Calls Try.prog 59 #[.int .u32 (s : Int), .slice A n c] w fun e w' => e = .returned (.int .u32 (nots (run (nots s) L) : Nat)) ∧ w = w' := by
  have hln : L.length = n := by have := hR.1; rw [bv_len] at this; omega
  have Hln := Lib.hid hln
  have HR := Lib.hid hR
  have hs0 : (0 : Int) ≤ (s : Int) := by omega
  have hs1 : (s : Int) ≤ 4294967295 := by omega
  have hns := nots_lt hs
  have hnb := not_bits s hs
  have hsg : IntKind.u32.signed = false := rfl
  clear hR hln
  go_enter Try.func59, Try.ntmps59
  go_wp2_with fail
  clear hnb
  go_loop [0, 5] (fun x i => ∃ k : Nat, k ≤ n ∧ i = .int .i64 k ∧ x = .int .u32 (run (nots s) (L.take k) : Nat)) (fun _ i => n - (intOf i).toNat)
  case atStart => exact ⟨0, Nat.zero_le _, rfl, rfl⟩
  case round =>
    obtain ⟨k, hk, rfl, rfl⟩ := hrel
    have hx := run_lt hns (L.take k)
    by_cases hlt : k < n
    · have hkl : k < L.length := by rw [Hln.out]; exact hlt
      obtain ⟨b, o, hl, rfl, hbl, hcell⟩ := HR.out.at_map hlt
      have hts : run (nots s) (L.take (k + 1)) = on (run (nots s) (L.take k)) L[k] := by
        rw [List.take_succ_eq_append_getElem hkl, run_snoc]
      have Hts := Lib.hid hts
      clear hts
      generalize run (nots s) (L.take k) = x at *
      generalize L[k] = q at *
      have c1 := on_any x q w hx
      go_wp2_with fail
      refine c1.mono ?_
      rintro e w' ⟨rfl, rfl⟩
      clear c1
      go_wp2
      go_round
      case rel => exact ⟨k + 1, by omega, by go_num, by rw [Hts.out]⟩
      case measure => simp [intOf]; omega
    · obtain rfl : k = n := by omega
      have Fin : Hid (L.take k = L) := Lib.hid (List.take_of_length_le (by rw [Hln.out]; exact Nat.le_refl _))
      have hnb := not_bits _ hx
      rw [Fin.out] at hx hnb ⊢
      generalize hxx : run (nots s) L = x at *
      have Hx := Lib.hid hxx
      clear hxx
      go_wp2
      go_ret
      rw [Hx.out]
      exact ⟨rfl, rfl⟩
theorem of_any (A : Option Addr) (n c : Nat) (L : List UInt8) (w : World) (hR : Reads w w.heap.size 1 A n (bv L)) (hn : n ≤ 140737488351232) :
    Calls Try.prog 45 #[.slice A n c] w fun e w' => e = .returned (.int .u32 (crc L : Nat)) ∧ w = w' := by
  have c1 := rnext_any 0 A n c L w (by omega) hR hn
  rw [nots_zero] at c1
  have hcr : crc L = nots (run 4294967295 L) := rfl
  rw [← hcr] at c1
  generalize crc L = r at *
  clear hcr hR
  go_enter Try.func45, Try.ntmps45
  go_wp2_with fail
  refine c1.mono ?_
  rintro e w' ⟨rfl, rfl⟩
  clear c1
  go_wp2
  go_ret
  exact ⟨rfl, rfl⟩
end Go.Proofs.Ytceekocfmbcobaa.Cr
end
