/- (*memidx.Index).Prefix: the walk (seat k; printed by gen_mxpx.py). -/
import Derived.Outline
import Derived.Test.YtioekhiaoajgfaaGreatMxPrPk
import Derived.Test.YtioekhiaoajgfaaGreatPkMemidxForksRow27
import Derived.Test.YtioekhiaoajgfaaGreatMxRtPk
import Derived.Test.YtioekhiaoajgfaaGreatPkMemidxForksRow22
import Derived.Test.YtioekhiaoajgfaaGreatMxAPk
namespace Go.Proofs.YtioekhiaoajgfaaGreat.Mx
open Go.RowKit Go.Maps Go.Sort Go.Proofs.YtioekhiaoajgfaaGreat Go.Proofs.YtioekhiaoajgfaaGreat.Ut Go.Proofs.YtioekhiaoajgfaaGreat.Tk Go.Proofs.YtioekhiaoajgfaaGreat.Qy Go.Proofs.YtioekhiaoajgfaaGreat.Ev Go.Proofs.YtioekhiaoajgfaaGreat.Qp Go.Proofs.YtioekhiaoajgfaaGreat.Mv Go.Proofs.YtioekhiaoajgfaaGreat.Ph
set_option linter.unusedVariables false
set_option linter.unusedSimpArgs false
set_option maxRecDepth 40000

theorem lawI : Keyed Tryz.prog 3 := int_keyed Tryz.underlying3
theorem keyI {d : Nat} (h : d ≤ 65536) : keyOf Tryz.prog 3 (litI.val (d : Int)) = some (litI.lit (d : Int)) := keyOf_int_mk Tryz.underlying3 (by simp [Lit.wf, IntKind.min, IntKind.max, IntKind.signed, IntKind.bits]; omega)
theorem hpx (s p : ByteArray) : Lib.hasPrefix s.data.toList p.data.toList = begB s p := rfl
/-- The row of posts that is put together: each place's row as it stands in the map. -/
def xsP (Fm : Int → Option Value) (R : Nat → List Nat) (k : Nat) : List Pr := (List.range k).filterMap (fun i => if R i = [] then none else some (i, (Fm (i : Int)).getD (.slice none 0 0), R i))
theorem xsP_snoc (Fm : Int → Option Value) (R : Nat → List Nat) (k : Nat) : xsP Fm R (k + 1) = xsP Fm R k ++ (if R k = [] then [] else [(k, (Fm (k : Int)).getD (.slice none 0 0), R k)]) := by
  unfold xsP
  rw [List.range_succ, List.filterMap_append]
  congr 1
  by_cases h : R k = [] <;> simp [h]
theorem xsP_len (Fm : Int → Option Value) (R : Nat → List Nat) (k : Nat) : (xsP Fm R k).length ≤ k := by
  unfold xsP
  refine Nat.le_trans (List.length_filterMap_le _ _) ?_
  simp
/-- What is told of a doc. -/
def rE (b : ByteArray) (ds : List (List Fl)) (i : Nat) : List Nat := match ds[i]? with
  | some fs => ofE b false fs
  | none => []
/-- What the posts are. -/
theorem xsP_posts {b : ByteArray} {ds : List (List Fl)} (Fm : Int → Option Value) : ∀ k, k ≤ ds.length → (xsP Fm (rE b ds) k).map prP = postsR (ds.take k) b false
  | 0, _ => by simp [xsP, postsR]
  | k + 1, h => by
    have ih := xsP_posts (b := b) (ds := ds) Fm k (by omega)
    rw [xsP_snoc, List.map_append, ih, List.take_succ_eq_append_getElem (by omega), postsR_snoc, List.length_take, Nat.min_eq_left (by omega)]
    congr 1
    unfold rE postE
    rw [List.getElem?_eq_getElem (by omega)]
    simp only
    split <;> simp [prP]
/-- How often the map may have been written. -/
def cmB (k : Nat) : Nat := k * 65536
theorem cmB_up (k : Nat) : cmB k ≤ cmB (k + 1) := by unfold cmB; omega
theorem cmB_add (k p : Nat) (h : p ≤ 65536) : cmB k + p ≤ cmB (k + 1) := by unfold cmB; omega
theorem cmB_le {k : Nat} (h : k ≤ 4294967296) : cmB k ≤ 281474976710656 := Nat.le_trans (Nat.mul_le_mul_right 65536 h) (by decide)
theorem xsP_mem {Fm : Int → Option Value} {R : Nat → List Nat} {k : Nat} {x : Pr} (h : x ∈ xsP Fm R k) : ∃ i, i < k ∧ R i ≠ [] ∧ x = (i, (Fm (i : Int)).getD (.slice none 0 0), R i) := by
  unfold xsP at h
  obtain ⟨i, hi, e⟩ := List.mem_filterMap.1 h
  rw [List.mem_range] at hi
  by_cases hr : R i = []
  · rw [if_pos hr] at e; cases e
  · rw [if_neg hr] at e
    injection e with e
    exact ⟨i, hi, hr, e.symm⟩
theorem xsP_read {w : World} {base base' Mm cn : Nat} {Fm : Int → Option Value} {R g : Nat → List Nat} {k : Nat} {v : Value} (hA : AtM w base Mm cn Fm g) (hg : ∀ i, i < k → g i = R i) (ho : w.ownsRow base' 74 2 v (xsP Fm R k).length ((xsP Fm R k).flatMap encP)) (hl : ∀ i, (R i).length ≤ 65536) {l : List Po} (hx : (xsP Fm R k).map prP = l) :
    ∃ A c, v = .slice A l.length c ∧ PostRd w A l.length l := by
  have hln : (xsP Fm R k).length = l.length := by rw [← hx, List.length_map]
  rw [hln] at ho
  obtain ⟨A, c, rfl, hR, _⟩ := own_shape2 ho
  refine ⟨A, c, rfl, rfl, fun {i} hi => ?_⟩
  have hix : i < (xsP Fm R k).length := by omega
  obtain ⟨b, o, e, hb, hc⟩ := hR.2 (by omega)
  have f0 := Ss.encs_get (enc := encP) (k := 2) (fun _ => rfl) (xsP Fm R k) i 0 hix (by omega)
  have f1 := Ss.encs_get (enc := encP) (k := 2) (fun _ => rfl) (xsP Fm R k) i 1 hix (by omega)
  have c0 := hc _ _ (f0.trans rfl)
  have c1 := hc _ _ (f1.trans rfl)
  have e1 : l[i] = prP (xsP Fm R k)[i] := by
    have h4 : l[i]? = ((xsP Fm R k).map prP)[i]? := by rw [hx]
    rw [List.getElem?_eq_getElem hi, List.getElem?_map, List.getElem?_eq_getElem hix] at h4
    injection h4
  obtain ⟨q, hq, hne, e2⟩ := xsP_mem (List.getElem_mem hix)
  rw [e2] at c0 c1 e1
  have hgq := hg q hq
  obtain ⟨u, hu, hou⟩ := hA.yes q (by rw [hgq]; exact hne)
  rw [hgq] at hou
  obtain ⟨P, pc, rfl, hrp, _⟩ := own_shape2 hou
  rw [hu] at c1
  rw [e1]
  refine ⟨b, o, P, (R q).length, pc, e, hb, ?_, ?_, hrp, rfl, by have := hl q; show (R q).length ≤ _; omega⟩
  · simpa [prP] using c0
  · rw [← Nat.add_assoc] at c1
    exact c1
set_option maxHeartbeats 1600000 in
theorem own_off {w : World} {base k n g : Nat} {T U : TypeId} {v : Value} {xs : List Value} {cs : Array Value} {fr : Nat × Nat} (h : w.ownsRow base T k v n xs) (hg : w.heap[g]? = some (.cells cs U fr)) (hne : T ≠ U) : ∀ x, v.ownBlock = some x → x ≠ g := fun x hx e => by
  subst e
  exact hne ((tg_own h hx).one ⟨cs, _, hg⟩)
theorem prefix_any {w : World} {n0 X M cn : Nat} {v : Value} {F : ByteArray → Option Value} {O : Nat → Prop} {ds : List Dc} {sz lo hi : Int} (b : ByteArray) (h : Idx w n0 X M cn v F O ds sz lo hi (postsT (ds.map (·.fs)))) (hok : Dok ds) (hfew : ds.length ≤ 65536) (hcn : cn ≤ 4294967296) :
    Calls Tryz.prog 10 #[.pointer (some ⟨X, 0, none⟩), .string b] w (PostsQ w (postsR (ds.map (·.fs)) b false)) := by
  obtain ⟨i0, hi0, hz0, hz1, hz2⟩ := info_parts int_info
  obtain ⟨j0, hj0, hy0, hy1, hy2⟩ := info_parts post_info
  obtain ⟨dsF, hdF⟩ : ∃ dsF, ds.map (·.fs) = dsF := ⟨_, rfl⟩
  rw [hdF] at h ⊢
  have hdl : dsF.length = ds.length := by rw [← hdF, List.length_map]
  have hck : ∀ fs ∈ dsF, chkE fs = 0 := fun fs hf => by
    rw [← hdF] at hf
    obtain ⟨d, hd, rfl⟩ := List.mem_map.1 hf
    exact (hok d hd).1
  have HCK := Lib.hid hck
  have hmk : (Instr.makeMap 78 none).run Tryz.prog w = .ok (.map (some w.heap.size)) (w.alloc (.map #[] 0)) := rfl
  have hB1 : Below w.heap.size w (w.alloc (.map #[] 0)) := (Below.refl _ _).alloc (Nat.le_refl _) _
  have HB1 := Lib.hid hB1
  have H1 := Lib.hid (h.later hB1)
  have A1 := Lib.hid (AtM.start w (w.heap.size + 1))
  have c1 := Lib.hid (termsX_any H1.out hcn)
  have HKEY : Hid (∀ s, (F s).isSome = true ↔ s ∈ termsR dsF) := Lib.hid (fun s => by
    rw [(termsR_up _ dsF rfl).2 s, ← postsT_ne]
    constructor
    · intro hs
      cases hF : F s with
      | none => rw [hF] at hs; cases hs
      | some u => exact (h.rows s u hF).2
    · intro hs
      cases hF : F s with
      | none => exact absurd (h.nof s hF) hs
      | some u => rfl)
  have HX0 := Lib.hid h
  have HXL : Hid (∀ wx, Below w.heap.size w wx → Idx wx n0 X M cn v F (fun b => n0 ≤ b ∧ b < wx.heap.size) ds sz lo hi (postsT dsF)) := Lib.hid (fun wx hb => h.later hb)
  have hnT : (termsR dsF).length ≤ 4294967296 := by
    have h1 := termsR_len _ dsF rfl hck
    have h2 : dsF.length * 65536 ≤ 65536 * 65536 := Nat.mul_le_mul_right _ (by omega)
    exact Nat.le_trans h1 h2
  have HUP := Lib.hid (termsR_up _ dsF rfl).1
  have HCOV : Hid (∀ i (hi : i < dsF.length), ∀ y ∈ raw dsF[i], y.1 ∈ termsR dsF) := Lib.hid (fun i hi y hy => by
    rw [(termsR_up _ dsF rfl).2]
    exact ⟨dsF[i], List.getElem_mem hi, (posOf_some _ _).2 (term_of hy)⟩)
  have hszT := termsR_sz dsF hck
  have HSZ := Lib.hid hszT
  have HND : Hid (termsR dsF).Nodup := Lib.hid (HUP.out.imp (fun {x y} h e => by rw [e, ltB_irrefl] at h; cases h))
  clear h hB1 hck hok hszT
  go_enter Tryz.func10, Tryz.ntmps10
  go_wp2_with fail
  generalize hw1 : w.alloc (.map #[] 0) = w1 at *
  have hw1s : w1.heap.size = w.heap.size + 1 := by rw [← hw1]; simp
  clear hw1 hmk
  have hs1 := HB1.out.size
  refine c1.out.mono ?_
  clear c1
  rintro e w2 ⟨lt, v2, hlt, hnd, rfl, ho2, hb2⟩
  have hsort := sort_terms hnd HUP.out (fun x => (hlt x).trans (HKEY.out x))
  have hll : lt.length = (termsR dsF).length := by
    have := congrArg List.length hsort
    simpa using this
  have hrow : w2.ownsRow w1.heap.size 9 1 v2 (termsR dsF).length ((termsR dsF).map Value.string) := by
    have e1 : ((bts lt).mergeSort fun x y => decide (x ≤ y)).map encStr = (termsR dsF).map Value.string := by
      unfold bts
      rw [hsort, List.map_map]
      rfl
    rw [e1, hll] at ho2
    exact ho2
  obtain ⟨AT, cT, rfl, hRT, _⟩ := own_shape2 hrow
  have HROW := Lib.hid hrow
  have HB2 := Lib.hid (HB1.out.trans (hb2.mono hs1))
  have A2 := Lib.hid (A1.out.below hb2)
  have hs2 := hb2.size
  have hMm : w.heap.size < w2.heap.size := A2.out.mp.lt
  obtain ⟨TT, hTT⟩ : ∃ TT, termsR dsF = TT := ⟨_, rfl⟩
  rw [hTT] at hnT
  simp only [hTT] at HROW HUP HCOV HSZ HND ⊢
  clear hlt hnd ho2 hb2 hsort hll hrow hRT A1 H1 HKEY hTT
  go_wp2_with fail
  go_loopw [18] (fun i wr => ∃ (k cm : Nat) (Fm : Int → Option Value), k ≤ TT.length ∧ cm ≤ cmB k ∧ i = .int .i64 (k : Nat) ∧ Hid (AtM wr (w.heap.size + 1) w.heap.size cm Fm (gk b dsF (TT.take k))) ∧ Hid (Below w.heap.size w wr) ∧ Hid (wr.ownsRow w1.heap.size 9 1 (.slice AT TT.length cT) TT.length (TT.map Value.string))) (fun i _ => TT.length - (intOf i).toNat)
  case atStart => exact ⟨0, 0, _, Nat.zero_le _, Nat.zero_le _, rfl, Lib.hid (A2.out.congr (fun i => by unfold gk; split <;> simp [catP])), HB2, HROW⟩
  case round =>
    obtain ⟨k, cm, Fm, hk, hcm, rfl, hA, hB, hT⟩ := hrel
    have hbs := hB.out.size
    by_cases hlt : k < TT.length
    · have hki : (k : Int) < (TT.length : Int) := by omega
      have hki0 : (0 : Int) ≤ (k : Int) := by omega
      obtain ⟨tb, tq, rfl, htb, d0⟩ := str_at (own_shape2R hT.out) rfl hlt
      have htk : TT.take (k + 1) = TT.take k ++ [TT[k]] := List.take_succ_eq_append_getElem hlt
      have HTK := Lib.hid htk
      have hss := HSZ.out _ (List.getElem_mem hlt)
      have hnd1 : (TT.take k ++ [TT[k]]).Nodup := by rw [← htk]; exact HND.out.sublist (List.take_sublist _ _)
      have HND1 := Lib.hid hnd1
      clear htk hnd1
      generalize TT[k] = s at *
      have CH := Lib.hid (Tryz.strings_HasPrefix s b wr)
      cases hbb : begB s b with
      | false =>
        have hbb' : Lib.hasPrefix s.data.toList b.data.toList = false := hbb
        rw [hbb'] at CH
        have HA2 : Hid (AtM wr (w.heap.size + 1) w.heap.size cm Fm (gk b dsF (TT.take (k + 1)))) := Lib.hid (hA.out.congr (fun i => by rw [HTK.out, gk_no hbb]))
        clear hbb hbb'
        go_wp2_with fail
        refine CH.out.mono ?_
        rintro e w3 ⟨rfl, hEq⟩
        subst hEq
        go_wp2_with fail
        go_roundw
        case rel => exact ⟨k + 1, cm, Fm, by omega, Nat.le_trans hcm (cmB_up k), by go_num, HA2, hB, hT⟩
        case measure => simp [intOf]; omega
      | true =>
        have hbb' : Lib.hasPrefix s.data.toList b.data.toList = true := hbb
        rw [hbb'] at CH
        have HBB := Lib.hid hbb
        have hI := HXL.out wr hB.out
        have HI := Lib.hid hI
        obtain ⟨u4, xs, hgu, _, hxs, hown, hxp⟩ := hI.row_at s
        obtain ⟨A4, q4, rfl, _, hq4, hn4, _⟩ := own_shape2 hown
        have hkey := keyS (s := s) (by unfold maxLen; omega)
        have hxl : xs.length = (postsT dsF s).length := by rw [← hxs, List.length_map]
        have HPT := Lib.hid (postsT_mem s _ dsF rfl)
        have HGS : Hid (∀ j (hj : j < (postsT dsF s).length), ∀ i, gj b dsF (TT.take k) s ((postsT dsF s).take (j + 1)) i = if i = (postsT dsF s)[j].1 then gj b dsF (TT.take k) s ((postsT dsF s).take j) i ++ (postsT dsF s)[j].2 else gj b dsF (TT.take k) s ((postsT dsF s).take j) i) := Lib.hid (fun j hj i => gj_step hbb hj i)
        have HGL : Hid (∀ P i, (gj b dsF (TT.take k) s P i).length ≤ 65536) := Lib.hid (fun P i => by
          unfold gj
          split
          · exact gk_len HND1.out HCK.out i
          · exact gk_len (HND.out.sublist (List.take_sublist _ _)) HCK.out i)
        have hpl := Nat.le_trans (postsT_le dsF s) (Nat.le_of_eq hdl)
        have HGA : Hid (∀ i, gj b dsF (TT.take k) s (postsT dsF s) i = gk b dsF (TT.take (k + 1)) i) := Lib.hid (fun i => by rw [HTK.out]; exact gj_all _ _ _ _ _)
        have HG : Hid (∀ wx, Below w.heap.size w wx → ∀ j (hj : j < (postsT dsF s).length), ∃ g P pc, A4 = some ⟨g, 0, none⟩ ∧ wx.cell? ⟨g, j * 2, none⟩ = some (.int .i64 ((postsT dsF s)[j].1 : Nat)) ∧ wx.cell? ⟨g, j * 2 + 1, none⟩ = some (.slice P (postsT dsF s)[j].2.length pc) ∧ Reads wx w.heap.size 1 P (postsT dsF s)[j].2.length (nC (postsT dsF s)[j].2) ∧ (postsT dsF s)[j].2 ≠ []) := Lib.hid (fun wx hb j hj => by
          obtain ⟨u5, xs5, hgu5, _, hxs5, hown5, hxp5⟩ := HX0.out.row_at s
          rw [hgu] at hgu5
          subst hgu5
          have hxl5 : xs5.length = (postsT dsF s).length := by rw [← hxs5, List.length_map]
          obtain ⟨g, P, pc, e, hg, q0, q1, q2, hr, hne, _⟩ := post_at hown5 hxl5 hxp5 (i := j) (by omega)
          have e1 : (postsT dsF s)[j] = prP xs5[j] := by
            have h4 : (postsT dsF s)[j]? = (xs5.map prP)[j]? := by rw [hxs5]
            rw [List.getElem?_eq_getElem hj, List.getElem?_map, List.getElem?_eq_getElem (by omega)] at h4
            injection h4
          rw [e1]
          exact ⟨g, P, pc, e, (hb.cell hg).trans q0, (hb.cell hg).trans q1, hr.below hb, hne⟩)
        have HGU := Lib.hid hgu
        have AJ : Hid (AtM wr (w.heap.size + 1) w.heap.size cm Fm (gj b dsF (TT.take k) s ((postsT dsF s).take 0))) := Lib.hid (hA.out.congr (fun i => (gj_start _ _ _ _ _).symm))
        generalize postsT dsF s = P at *
        have x4 := hI.blk.cell 4
        simp only [List.getElem?_toArray, List.getElem?_cons_zero, List.getElem?_cons_succ] at x4
        clear hbb hbb' hown hxp hxs hxl hI
        go_wp2_with fail
        refine CH.out.mono ?_
        rintro e w3 ⟨rfl, hEq⟩
        subst hEq
        obtain ⟨wo, rfl⟩ : ∃ wo : World, wo = w3 := ⟨_, rfl⟩
        go_wp2_with (at_lookup; refine wpList_look_v rfl (.tmp 29) (.tmp 30) 57 33 rfl lawS Tryz.underlying57 (Tryz.zeroValue33 _) M cn F rfl HI.out.mp s rfl hkey (.slice A4 P.length q4) HGU.out ?_)
        clear x4 d0 CH
        go_wp2_with fail
        go_loopw [33] (fun i wr => ∃ (j cm' : Nat) (Fm' : Int → Option Value), j ≤ P.length ∧ cm' ≤ cmB k + j ∧ i = .int .i64 (j : Nat) ∧ Hid (AtM wr (w.heap.size + 1) w.heap.size cm' Fm' (gj b dsF (TT.take k) s (P.take j))) ∧ Hid (Below w.heap.size w wr) ∧ Hid (wr.ownsRow w1.heap.size 9 1 (.slice (some ⟨tb, tq, none⟩) TT.length cT) TT.length (TT.map Value.string))) (fun i _ => P.length - (intOf i).toNat)
        case atStart => exact ⟨0, cm, Fm, Nat.zero_le _, by omega, rfl, AJ, hB, hT⟩
        case round =>
          obtain ⟨j, cm', Fm', hj, hcm', rfl, hAj, hBj, hTj⟩ := hrel
          have hbj := hBj.out.size
          by_cases hjl : j < P.length
          · have hji : (j : Int) < (P.length : Int) := by omega
            have hji0 : (0 : Int) ≤ (j : Int) := by omega
            obtain ⟨gb, Pa, pc, rfl, e0, e1, hrp, hpne⟩ := HG.out wr hBj.out j hjl
            have hgs := HGS.out j hjl
            have hd65 : P[j].1 ≤ 65536 := by
              obtain ⟨h1, _⟩ := (HPT.out P[j]).1 (List.getElem_mem hjl)
              omega
            have HGj := Lib.hid hgs
            have HPNE := Lib.hid hpne
            have hpos := List.length_pos_iff.2 hpne
            have hgl0 := HGL.out (P.take j) P[j].1
            have hgl1 := HGL.out (P.take (j + 1)) P[j].1
            rw [hgs P[j].1, if_pos rfl, List.length_append] at hgl1
            generalize hpj : P[j] = pj at *
            clear hpj hgs hpne
            obtain ⟨d, ps⟩ := pj
            simp only at e0 e1 hrp hd65 hgl1 hpos hgl0
            obtain ⟨pb, po, rfl, hpb, hpc⟩ := hrp.2 hpos
            have hwE : Below wr.heap.size wr (wr.alloc (.cells #[.int .i64 (d : Nat), .slice (some ⟨pb, po, none⟩) ps.length pc] 74)) := (Below.refl _ _).alloc (Nat.le_refl _) _
            have hbx := Blk.new wr 74 #[.int .i64 (d : Nat), .slice (some ⟨pb, po, none⟩) ps.length pc]
            have hAE := hAj.out.below hwE
            have hBE := hBj.out.trans (hwE.mono hbj)
            have hTE := own_same hTj.out (w' := wr.alloc (.cells #[.int .i64 (d : Nat), .slice (some ⟨pb, po, none⟩) ps.length pc] 74)) (fun b hb => hwE.block b (hTj.out.lt b hb).2)
            have HAE := Lib.hid hAE
            have HBE := Lib.hid hBE
            have HTE := Lib.hid hTE
            have HBX := Lib.hid hbx
            have hMs := hAj.out.mp.lt
            have hpbw : pb < w.heap.size := hpb
            have HNL : Hid (∀ wx, Below w.heap.size w wx → ∀ q u, (nC ps)[q]? = some u → wx.cell? ((⟨pb, po, none⟩ : Addr).add q) = some u) := Lib.hid (fun wx hb q u hq => by
              rw [Rg.add_lit]
              exact (hb.cell (p := ⟨pb, po + q, none⟩) hpbw).trans ((hBj.out.cell (p := ⟨pb, po + q, none⟩) hpbw).symm.trans (hpc q u hq)))
            have hcmx : cm' < maxLen := by
              have := cmB_le (k := k) (by omega)
              unfold maxLen
              omega
            obtain ⟨u, hu1, hu2, hu3⟩ := HAE.out.row d
            have HU2 := Lib.hid hu2
            have HOWN := Lib.hid hu3
            have HGU2 := Lib.hid hu1
            have hub : ∀ x, u.ownBlock = some x → w.heap.size + 1 ≤ x := fun x hx => (hu3.lt x hx).1
            have hXu : some wr.heap.size ≠ u.ownBlock := fun e => absurd ((tg_own hu3 e.symm).one (tg_blk HBX.out)) (by decide)
            have hMu : some w.heap.size ≠ u.ownBlock := fun e => by have := hub _ e.symm; omega
            have HUB := Lib.hid hub
            have hkI := keyI hd65
            clear hrp hpc hu1 hu2 hu3 hub hwE hbx hAE hBE hTE hAj
            go_upto_region 9 with (fail)
            clear e0 e1
            generalize hwE : wr.alloc (.cells #[.int .i64 (d : Nat), .slice (some ⟨pb, po, none⟩) ps.length pc] 74) = wE at *
            try rw [hwE]
            have hsE : wE.heap.size = wr.heap.size + 1 := by rw [← hwE]; simp
            clear hwE
            refine wp_region_ph_tail 10 (specOf [(9, ⟨Value, fun v => v, fun v wx => Put1 (w.heap.size + 1) 3 1 wE.drew wx u v ((gj b dsF (TT.take k) s (P.take j) d).length + ps.length) (nC (gj b dsF (TT.take k) s (P.take j) d) ++ nC ps)⟩)]) (fun wx => Blk wx wr.heap.size 74 #[.int .i64 (d : Nat), .slice (some ⟨pb, po, none⟩) ps.length pc] ∧ MapV Tryz.prog 3 litI wx w.heap.size cm' Fm') (fun wx => wx = wE.drew) (by kernel_rfl) (by kernel_rfl) (turns_of (by kernel_rfl)) ⟨HBX.out, HAE.out.mp.below (Below.refl _ _).drew⟩ rfl ?_
            refine ph_fix 1 ?_ rfl (by rfl) (by rfl) (fun wx hC => ?_) ?_
            rotate_left
            · have g0 := hC.1.cell 0; have g1 := hC.1.cell 1; simp only [List.getElem?_toArray, List.getElem?_cons_zero, List.getElem?_cons_succ] at g0 g1
              go_simp
              all_goals with_reducible rfl
            try simp only [Act.put, List.setIfInBounds_toArray, List.set_cons_zero, List.set_cons_succ]
            refine ph_fix 2 ?_ rfl (by rfl) (by rfl) (fun wx hC => ?_) ?_
            rotate_left
            · have g0 := hC.1.cell 0; have g1 := hC.1.cell 1; simp only [List.getElem?_toArray, List.getElem?_cons_zero, List.getElem?_cons_succ] at g0 g1
              go_simp
              all_goals with_reducible rfl
            try simp only [Act.put, List.setIfInBounds_toArray, List.set_cons_zero, List.set_cons_succ]
            refine ph_fix 3 ?_ rfl (by rfl) (by rfl) (fun wx hC => ?_) ?_
            rotate_left
            · have g0 := hC.1.cell 0; have g1 := hC.1.cell 1; simp only [List.getElem?_toArray, List.getElem?_cons_zero, List.getElem?_cons_succ] at g0 g1
              go_simp
              all_goals with_reducible rfl
            try simp only [Act.put, List.setIfInBounds_toArray, List.set_cons_zero, List.set_cons_succ]
            refine ph_fix 4 ?_ rfl (by rfl) (by rfl) (fun wx hC => ?_) ?_
            rotate_left
            · have g0 := hC.1.cell 0; have g1 := hC.1.cell 1; simp only [List.getElem?_toArray, List.getElem?_cons_zero, List.getElem?_cons_succ] at g0 g1
              go_simp
              all_goals with_reducible rfl
            try simp only [Act.put, List.setIfInBounds_toArray, List.set_cons_zero, List.set_cons_succ]
            refine ph_fix 5 ?_ rfl (by rfl) (by rfl) (fun wx hC => ?_) ?_
            rotate_left
            · have g0 := hC.1.cell 0; have g1 := hC.1.cell 1; simp only [List.getElem?_toArray, List.getElem?_cons_zero, List.getElem?_cons_succ] at g0 g1
              go_simp
              all_goals with_reducible rfl
            try simp only [Act.put, List.setIfInBounds_toArray, List.set_cons_zero, List.set_cons_succ]
            refine ph_fix 6 ?_ rfl (by rfl) (by rfl) (fun wx hC => ?_) ?_
            rotate_left
            · have g0 := hC.1.cell 0; have g1 := hC.1.cell 1; simp only [List.getElem?_toArray, List.getElem?_cons_zero, List.getElem?_cons_succ] at g0 g1
              go_simp
              all_goals with_reducible rfl
            try simp only [Act.put, List.setIfInBounds_toArray, List.set_cons_zero, List.set_cons_succ]
            refine ph_fix 7 ?_ rfl (by rfl) (by rfl) (fun wx hC => ?_) ?_
            rotate_left
            · refine run_look_v (.tmp 40) (.tmp 42) 78 72 ?_ lawI Tryz.underlying78 (Tryz.zeroValue72 _) w.heap.size cm' Fm' ?_ hC.2 (d : Int) ?_ hkI u HGU2.out
              all_goals rfl
            try simp only [Act.put, List.setIfInBounds_toArray, List.set_cons_zero, List.set_cons_succ]
            refine ph_fix 8 ?_ rfl (by rfl) (by rfl) (fun wx hC => ?_) ?_
            rotate_left
            · have g0 := hC.1.cell 0; have g1 := hC.1.cell 1; simp only [List.getElem?_toArray, List.getElem?_cons_zero, List.getElem?_cons_succ] at g0 g1
              go_simp
              all_goals with_reducible rfl
            try simp only [Act.put, List.setIfInBounds_toArray, List.set_cons_zero, List.set_cons_succ]
            refine ph_fix 9 ?_ rfl (by rfl) (by rfl) (fun wx hC => ?_) ?_
            rotate_left
            · have g0 := hC.1.cell 0; have g1 := hC.1.cell 1; simp only [List.getElem?_toArray, List.getElem?_cons_zero, List.getElem?_cons_succ] at g0 g1
              go_simp
              all_goals with_reducible rfl
            try simp only [Act.put, List.setIfInBounds_toArray, List.set_cons_zero, List.set_cons_succ]
            refine ph_give 10 _ rfl (by rfl) (by rfl) (fun wx hC hI => ?_) (fun x => ?_)
            · subst hI
              refine give_append_at _ _ 72 rfl (w.heap.size + 1) 3 i0 _ 1 8 Tryz.underlying72 hi0 hz0 hz1 hz2 rfl (by decide) u (gj b dsF (TT.take k) s (P.take j) d).length (nC (gj b dsF (TT.take k) s (P.take j) d)) rfl HOWN.out ⟨pb, po, none⟩ ps.length pc (nC ps) rfl (by simp [nC]) (fun q y hq => HNL.out _ HBE.out.drew q y hq) (fun y hy => by unfold nC at hy; obtain ⟨z, _, rfl⟩ := List.mem_map.1 hy; rfl) (by unfold maxLen; omega) (by omega) (by show w.heap.size + 1 ≤ wE.heap.size; omega) ?_
              intro v' w' ho hg hat
              exact ⟨⟨hC.1.grown hg hXu, hC.2.kept hg hMu⟩, v', rfl, ho, hg, hat⟩
            try simp only [Act.put, List.setIfInBounds_toArray, List.set_cons_zero, List.set_cons_succ]
            rename Value => x6
            refine ph_nil (fun w7 hC hI => ?_)
            have HI7 := Lib.hid hI
            simp only [List.drop_succ_cons, List.drop_zero]
            refine wpList_set_v rfl (.tmp 37) (.tmp 39) (.tmp 46) 78 72 rfl lawI Tryz.underlying78 w.heap.size cm' Fm' rfl hC.2 hcmx (d : Int) x6 rfl rfl hkI (fun w8 hm8 hg8 => ?_)
            have hA8 := (HAE.out.below (Below.refl _ _).drew).put (w1 := w7) (w' := w8) HU2.out HPNE.out HOWN.out HI7.out.gr HI7.out.own HI7.out.at_ hg8 hm8
            have HA8 : Hid (AtM w8 (w.heap.size + 1) w.heap.size (cm' + 1) (putV Fm' (d : Int) x6) (gj b dsF (TT.take k) s (P.take (j + 1)))) := Lib.hid (hA8.congr (fun i => (HGj.out i).symm))
            have hb7 : Below w.heap.size w w7 := (HBE.out.drew).grown HI7.out.gr (by have := HBE.out.size; exact this) (fun x hx => by have := HUB.out x hx; omega)
            have HB8 : Hid (Below w.heap.size w w8) := Lib.hid (hb7.grown hg8 hb7.size (fun x hx => by injection hx with hx; omega))
            have HT8 : Hid (w8.ownsRow w1.heap.size 9 1 (.slice (some ⟨tb, tq, none⟩) TT.length cT) TT.length (TT.map Value.string)) := Lib.hid (by
              have h7 := own_same (w' := w7) HTE.out (fun x hx => HI7.out.gr.block x (HTE.out.lt x hx).2 (fun e => absurd ((tg_own HTE.out hx).one (tg_own HOWN.out e.symm)) (by decide)))
              exact own_same h7 (fun x hx => hg8.block x (h7.lt x hx).2 (fun e => by injection e with e; have := (h7.lt x hx).1; omega)))
            clear hA8 hb7 hm8 hg8 hC hI HI7
            try simp only [Act.put]
            go_wp2
            go_roundw
            case rel => exact ⟨j + 1, cm' + 1, _, by omega, by omega, by go_num, HA8, HB8, HT8⟩
            case measure => simp [intOf]; omega
          · obtain rfl : j = P.length := by omega
            rw [List.take_length] at hAj
            have HA9 : Hid (AtM wr (w.heap.size + 1) w.heap.size cm' Fm' (gk b dsF (TT.take (k + 1)))) := Lib.hid (hAj.out.congr HGA.out)
            have hcm9 : cm' ≤ cmB (k + 1) := Nat.le_trans hcm' (cmB_add k _ (by omega))
            clear hcm'
            go_wp2_with fail
            go_roundw
            case rel => exact ⟨k + 1, cm', Fm', by omega, hcm9, by go_num, HA9, hBj, hTj⟩
            case measure => simp [intOf]; omega
    · obtain rfl : k = TT.length := by omega
      rw [List.take_length] at hA
      have hcmx : cm < maxLen := by
        have := cmB_le hnT
        unfold maxLen
        omega
      have HRE : Hid (∀ q, (gk b dsF TT q = [] ↔ rE b dsF q = []) ∧ (((gk b dsF TT q).map (fun n => ((n : Nat) : Int))).mergeSort fun x y => decide (x ≤ y)) = (rE b dsF q).map (fun n => ((n : Nat) : Int))) := Lib.hid (fun q => by
        unfold gk rE
        cases hq : dsF[q]? with
        | none => exact ⟨Iff.rfl, by simp⟩
        | some fs =>
          obtain ⟨hi, rfl⟩ := List.getElem?_eq_some_iff.1 hq
          exact ⟨catP_empty (HCOV.out q hi), sort_cat HND.out (HCOV.out q hi)⟩)
      have HGL : Hid (∀ q, (gk b dsF TT q).length ≤ 65536) := Lib.hid (fun q => gk_len HND.out HCK.out q)
      have HRL : Hid (∀ q, (rE b dsF q).length ≤ 65536) := Lib.hid (fun q => by
        have h1 := congrArg List.length (HRE.out q).2
        simp only [List.length_mergeSort, List.length_map] at h1
        rw [← h1]
        exact HGL.out q)
      have HXP : Hid ((xsP Fm (rE b dsF) ds.length).map prP = postsR dsF b false) := Lib.hid (by
        have h := xsP_posts (b := b) (ds := dsF) Fm dsF.length (Nat.le_refl _)
        rw [List.take_length, hdl] at h
        exact h)
      have HL := Lib.hid (len_any (HXL.out wr hB.out))
      clear hT
      go_wp2_with fail
      refine HL.out.mono ?_
      rintro e w3 ⟨rfl, hEq⟩
      subst hEq
      obtain ⟨wo, rfl⟩ : ∃ wo : World, wo = wr := ⟨_, rfl⟩
      clear HL
      go_wp2_with fail
      go_loopw [10, 51] (fun v i wr => ∃ q : Nat, q ≤ ds.length ∧ i = .int .i64 (q : Nat) ∧ Hid (AtM wr (w.heap.size + 1) w.heap.size cm Fm (fun z => if z < q then rE b dsF z else gk b dsF TT z)) ∧ Hid (Below w.heap.size w wr) ∧ Hid (wr.ownsRow (w.heap.size + 1) 74 2 v (xsP Fm (rE b dsF) q).length ((xsP Fm (rE b dsF) q).flatMap encP))) (fun _ i _ => ds.length - (intOf i).toNat)
      case atStart => exact ⟨0, Nat.zero_le _, rfl, Lib.hid (hA.out.congr (fun i => by simp)), hB, Lib.hid (World.ownsRow_nil _ _ _ _)⟩
      case round =>
        obtain ⟨q, hq, rfl, hAq, hBq, hVq⟩ := hrel
        have hbq := hBq.out.size
        by_cases hql : q < ds.length
        · have hqi : (q : Int) < (ds.length : Int) := by omega
          have hqi0 : (0 : Int) ≤ (q : Int) := by omega
          have hkI := keyI (d := q) (by omega)
          have hxl := xsP_len Fm (rE b dsF) q
          have hgq : (fun z => if z < q then rE b dsF z else gk b dsF TT z) q = gk b dsF TT q := by simp
          have HGQ := Lib.hid hgq
          by_cases h0 : gk b dsF TT q = []
          · have hr0 := ((HRE.out q).1).1 h0
            have hFn := hAq.out.no q (by simpa using h0)
            have HA2 : Hid (AtM wr (w.heap.size + 1) w.heap.size cm Fm (fun z => if z < q + 1 then rE b dsF z else gk b dsF TT z)) := Lib.hid (hAq.out.congr (fun z => by
              rcases Nat.lt_trichotomy z q with h | h | h
              · rw [if_pos h, if_pos (by omega)]
              · subst h; rw [if_neg (Nat.lt_irrefl _), if_pos (by omega), h0, hr0]
              · rw [if_neg (by omega), if_neg (by omega)]))
            have HX2 : Hid (xsP Fm (rE b dsF) (q + 1) = xsP Fm (rE b dsF) q) := Lib.hid (by rw [xsP_snoc, if_pos hr0, List.append_nil])
            have hg1 : (Fm (q : Int)).getD (.slice none 0 0) = .slice none 0 0 := by rw [hFn]; rfl
            have hg2 : (Fm (q : Int)).isSome = false := by rw [hFn]; rfl
            have HG1 := Lib.hid hg1
            have HG2 := Lib.hid hg2
            clear hr0 hFn hgq h0 hg1 hg2
            go_wp2_with (at_lookup; refine wpList_look2_v rfl (.tmp 55) (.tmp 56) 78 72 rfl lawI Tryz.underlying78 (Tryz.zeroValue72 _) w.heap.size cm Fm rfl hAq.out.mp (q : Int) rfl hkI (.slice none 0 0) false HG1.out HG2.out ?_)
            go_wp2_with fail
            go_roundw
            case rel => exact ⟨q + 1, by omega, by go_num, HA2, hBq, by rw [HX2.out]; exact hVq⟩
            case measure => simp [intOf]; omega
          · have hr0 : rE b dsF q ≠ [] := fun e => h0 (((HRE.out q).1).2 e)
            obtain ⟨u, hFu, hou⟩ := hAq.out.yes q (by simpa using h0)
            simp only [Nat.lt_irrefl, if_false] at hou
            rcases hou.2 with ⟨_, hz⟩ | ⟨g0, cap, cur, hv0, hbase, hh0, h1, h2, h3, h4⟩
            · exact absurd (List.length_eq_zero_iff.1 hz) h0
            · subst hv0
              have hg1 : (Fm (q : Int)).getD (.slice none 0 0) = .slice (some ⟨g0, 0, none⟩) (gk b dsF TT q).length cap := by rw [hFu]; rfl
              have hg2 : (Fm (q : Int)).isSome = true := by rw [hFu]; rfl
              have HG1 := Lib.hid hg1
              have HG2 := Lib.hid hg2
              have hgl : g0 < wr.heap.size := (Array.getElem?_eq_some_iff.1 hh0).1
              have hzl : ((gk b dsF TT q).map (fun n => ((n : Nat) : Int))).length = (gk b dsF TT q).length := by simp
              have hnc : nC (gk b dsF TT q) = ((gk b dsF TT q).map (fun n => ((n : Nat) : Int))).map (Value.int .i64) := by simp [nC]
              have hH : Holds (Value.int .i64) wr g0 0 ((gk b dsF TT q).map (fun n => ((n : Nat) : Int))).toArray := holds_of_blockI hh0 (by rw [hzl, ← hnc]; simpa using h4)
              have CS := Tryz.slices_Sort_int g0 0 cap ((gk b dsF TT q).map (fun n => ((n : Nat) : Int))) wr hH hgl (by rw [hzl]; have := HGL.out q; omega)
              rw [hzl, (HRE.out q).2] at CS
              have hrl : (rE b dsF q).length = (gk b dsF TT q).length := by
                have h1 := congrArg List.length (HRE.out q).2
                simpa using h1.symm
              have HS : Hid (∀ n os, (grow (putRow (Value.int .i64) (Sort.ahead wr n) g0 0 ((rE b dsF q).map (fun n => ((n : Nat) : Int))).toArray) os).ownsRow (w.heap.size + 1) 3 1 (.slice (some ⟨g0, 0, none⟩) (gk b dsF TT q).length cap) (rE b dsF q).length (nC (rE b dsF q))) := Lib.hid (fun n os => by
                have h := ownsRow_sortedI (w := wr) (base := w.heap.size + 1) (g := g0) (cap := cap) (n := n) (e := 3) (os := os) (cur := cur) (ss := (gk b dsF TT q).map (fun n => ((n : Nat) : Int))) (ts := (rE b dsF q).map (fun n => ((n : Nat) : Int))) (by simp [hrl]) hbase hh0 (by rw [hzl]; exact h1) h2 h3
                rw [hzl] at h
                have e1 : ((rE b dsF q).map (fun n => ((n : Nat) : Int))).map (Value.int .i64) = nC (rE b dsF q) := by simp [nC]
                rw [e1] at h
                rw [hrl]
                exact h)
              have CSH := Lib.hid CS
              have HR0 := Lib.hid hr0
              have HFU := Lib.hid hFu
              have hgb : w.heap.size + 1 ≤ g0 := hbase
              have HPB := Lib.hid (own_off hVq.out hh0 (by decide))
              have hgk6 := HGL.out q
              clear hg1 hg2 CS hH hzl hnc h4 hh0 h1 h2 h3 hbase hr0 hFu hou hgq h0
              go_wp2_with (at_lookup; refine wpList_look2_v rfl (.tmp 55) (.tmp 56) 78 72 rfl lawI Tryz.underlying78 (Tryz.zeroValue72 _) w.heap.size cm Fm rfl hAq.out.mp (q : Int) rfl hkI (.slice (some ⟨g0, 0, none⟩) (gk b dsF TT q).length cap) true HG1.out HG2.out ?_)
              go_wp2_with fail
              refine CSH.out.mono ?_
              rintro e w4 ⟨rfl, n, os, hw4⟩
              have hg4 : wr.grownBy w4 (some g0) := by rw [hw4]; exact grownBy_sortedI _
              have ho4 : w4.ownsRow (w.heap.size + 1) 3 1 (.slice (some ⟨g0, 0, none⟩) (gk b dsF TT q).length cap) (rE b dsF q).length (nC (rE b dsF q)) := by rw [hw4]; exact HS.out n os
              have hA4 := hAq.out.turn (b0 := g0) HFU.out rfl hg4 ho4 HR0.out
              have HA4 : Hid (AtM w4 (w.heap.size + 1) w.heap.size cm Fm (fun z => if z < q + 1 then rE b dsF z else gk b dsF TT z)) := Lib.hid (hA4.congr (fun z => by
                rcases Nat.lt_trichotomy z q with h | h | h
                · rw [if_neg (by omega), if_pos h, if_pos (by omega)]
                · subst h; rw [if_pos rfl, if_pos (by omega)]
                · rw [if_neg (by omega), if_neg (by omega), if_neg (by omega)]))
              have HB4 : Hid (Below w.heap.size w w4) := Lib.hid (hBq.out.grown hg4 hbq (fun x hx => by injection hx with hx; omega))
              have HV4 := Lib.hid (own_same hVq.out (w' := w4) (fun x hx => hg4.block x (hVq.out.lt x hx).2 (fun e => HPB.out x hx (by injection e with e))))
              have hb4s := HB4.out.size
              have hs44 := hg4.size
              have HX2 : Hid (xsP Fm (rE b dsF) (q + 1) = xsP Fm (rE b dsF) q ++ [(q, .slice (some ⟨g0, 0, none⟩) (gk b dsF TT q).length cap, rE b dsF q)]) := Lib.hid (by rw [xsP_snoc, if_neg HR0.out, HG1.out])
              clear hw4 hg4 ho4 hA4 HS CSH hVq hAq
              have hb5 : Below w4.heap.size w4 (w4.alloc (.cells #[.int .i64 (q : Nat), .slice (some ⟨g0, 0, none⟩) (gk b dsF TT q).length cap] 74)) := (Below.refl _ _).alloc (Nat.le_refl _) _
              have HA5 := Lib.hid (HA4.out.below hb5)
              have HB5 := Lib.hid (HB4.out.trans (hb5.mono hb4s))
              have HV5 := Lib.hid (HV4.out.alloc (.cells #[.int .i64 (q : Nat), .slice (some ⟨g0, 0, none⟩) (gk b dsF TT q).length cap] 74))
              clear hb5
              go_wp2_with (at_builtin; refine wpList_append_own _ rfl _ _ 33 rfl (w.heap.size + 1) 74 j0 _ 2 32 Tryz.underlying33 hj0 hy0 hy1 hy2 rfl (by decide) _ (xsP Fm (rE b dsF) q).length ((xsP Fm (rE b dsF) q).flatMap encP) rfl HV5.out ⟨w4.heap.size, 0, none⟩ 1 1 [.int .i64 (q : Nat), .slice (some ⟨g0, 0, none⟩) (gk b dsF TT q).length cap] rfl rfl (World.news_of_block (cs := #[.int .i64 (q : Nat), .slice (some ⟨g0, 0, none⟩) (gk b dsF TT q).length cap]) (t := 74) (fr := (0, 0)) (heap_alloc_new w4 _)) (by simp [Value.oneCell']) ?k1 ?k2 ?k3 ?_)
              case k1 => unfold maxLen; omega
              case k2 => omega
              try (case k3 => rw [World.size_alloc]; omega)
              intro v6 w6 ho6 hg6 _
              have HA6 : Hid (AtM w6 (w.heap.size + 1) w.heap.size cm Fm (fun z => if z < q + 1 then rE b dsF z else gk b dsF TT z)) := Lib.hid (HA5.out.same (hg6.block _ HA5.out.mp.lt (fun e => by have := (HV5.out.lt _ e.symm).1; omega)) (fun x ht => hg6.block x ht.lt (fun e => absurd ((tg_own HV5.out e.symm).one ht) (by decide))))
              have HB6 := Lib.hid (HB5.out.grown hg6 (by rw [World.size_alloc]; omega) (fun x hx => by have := (HV5.out.lt x hx).1; omega))
              have HV6 : Hid (w6.ownsRow (w.heap.size + 1) 74 2 v6 (xsP Fm (rE b dsF) (q + 1)).length ((xsP Fm (rE b dsF) (q + 1)).flatMap encP)) := Lib.hid (by
                rw [HX2.out, List.length_append, List.flatMap_append]
                simpa [encP] using ho6)
              clear ho6 hg6
              go_wp2
              go_roundw
              case rel => exact ⟨q + 1, by omega, by go_num, HA6, HB6, HV6⟩
              case measure => simp [intOf]; omega
        · obtain rfl : q = ds.length := by omega
          obtain ⟨A9, c9, rfl, hr9⟩ := xsP_read hAq.out (fun i hi => if_pos hi) hVq.out HRL.out HXP.out
          have HR9 := Lib.hid hr9
          clear hr9
          go_wp2
          go_ret
          exact ⟨A9, c9, rfl, HR9.out, hBq.out⟩
end Go.Proofs.YtioekhiaoajgfaaGreat.Mx
