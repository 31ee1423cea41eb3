/- loggiaref14.Terms, loggiaref07.SameWords: the walks (seat k). -/
import Derived.Test.YtioekhiaoajgfaaGreatMxRtPk
namespace Go.Proofs.YtioekhiaoajgfaaGreat.Mx
open Go.RowKit Go.Proofs.YtioekhiaoajgfaaGreat Go.Proofs.YtioekhiaoajgfaaGreat.Ut Go.Proofs.YtioekhiaoajgfaaGreat.Tk Go.Proofs.YtioekhiaoajgfaaGreat.Qy Go.Proofs.YtioekhiaoajgfaaGreat.Ev Go.Proofs.YtioekhiaoajgfaaGreat.Qp Go.Proofs.YtioekhiaoajgfaaGreat.Mv
set_option linter.unusedVariables false
set_option linter.unusedSimpArgs false
set_option maxRecDepth 20000

set_option maxHeartbeats 1600000 in
theorem sameW_eq (F1 F2 : Option Addr) (n c1 c2 : Nat) (ps : List ByteArray) (w : World) (h1 : Reads w w.heap.size 1 F1 n (ps.map Value.string)) (h2 : Reads w w.heap.size 1 F2 n (ps.map Value.string)) (hl : ps.length = n) (hn : n ≤ 8796093021952) :
    Calls Tryz.prog 11 #[.slice F1 n c1, .slice F2 n c2] w fun e w' => e = .returned (.bool true) ∧ Below w.heap.size w w' := by
  have H1 := Lib.hid h1
  have H2 := Lib.hid h2
  have Hl := Lib.hid hl
  have hnn : (n != n) = false := by simp
  have hnz : ((n : Int) != (n : Int)) = false := by simp
  clear h1 h2 hl
  go_enter Tryz.func11, Tryz.ntmps11
  go_wp2_with fail
  go_loopw [5] (fun i wr => ∃ k : Nat, k ≤ n ∧ i = .int .i64 (k : Nat) ∧ Hid (Below w.heap.size w wr)) (fun i _ => n - (intOf i).toNat)
  case atStart => exact ⟨0, Nat.zero_le _, rfl, Lib.hid (Below.refl _ _)⟩
  case round =>
    obtain ⟨k, hk, rfl, hB⟩ := hrel
    by_cases hlt : k < n
    · have hkz : (k : Int) < (n : Int) := by omega
      have hk0 : (0 : Int) ≤ (k : Int) := by omega
      obtain ⟨b1, o1, rfl, x1, y1⟩ := str_at (reads_gr hB.out H1.out) Hl.out (k := k) (by rw [Hl.out]; exact hlt)
      obtain ⟨b2, o2, rfl, x2, y2⟩ := str_at (reads_gr hB.out H2.out) Hl.out (k := k) (by rw [Hl.out]; exact hlt)
      have hkp : k < ps.length := by rw [Hl.out]; exact hlt
      generalize ps[k] = s at *
      clear hkp
      have hss : (s.toList != s.toList) = false := by simp
      go_wp2_with fail
      go_quiet (fail)
      have HB2 := Lib.hid (below_dN hB.out nq)
      go_wp2_with fail
      go_roundw
      case rel => exact ⟨k + 1, by omega, by go_num, HB2⟩
      case measure => simp [intOf]; omega
    · obtain rfl : k = n := by omega
      go_wp2
      go_ret
      exact ⟨rfl, hB.out⟩
set_option maxHeartbeats 3200000 in
theorem rtermsA_any (A : Option Addr) (n c : Nat) (ds : List Dc) (Rr : Nat → Prop) (B : Nat) (w : World) (h : RIx w Rr B A n c ds) (hok : Dok ds) (hfew : ds.length ≤ 65536) :
    Calls Tryz.prog 13 #[.agg #[.slice A n c]] w (WithP w (termsR (ds.map (·.fs)))) := by
  have hn1 : n = ds.length := h.rd.ln.symm
  subst hn1
  have hB1 : Below w.heap.size w (w.alloc (.cells #[.slice A ds.length c] 30)) := (Below.refl _ _).alloc (Nat.le_refl _) _
  have hX := Blk.new w 30 #[.slice A ds.length c]
  have HG : Hid (∀ wx, Below w.heap.size w wx → ∀ k (hk : k < ds.length), ∃ b o F fn f, A = some ⟨b, o, none⟩ ∧ wx.cell? ⟨b, o + k * 3 + 1, none⟩ = some (.int .i64 ds[k].at_) ∧ wx.cell? ⟨b, o + k * 3 + 2, none⟩ = some (.slice F fn f) ∧ FlAt wx wx.heap.size F fn f ds[k].fs) := Lib.hid (fun wx hb k hk => by
    obtain ⟨b, o, F, fn, f, e, hR, k0, k1, k2, r, q1, q2, q3, q4⟩ := h.rd.at_ hk
    have hkk := chkE_ok (hok _ (List.getElem_mem hk)).1
    have hlt := h.lt b hR
    exact ⟨b, o, F, fn, f, e, (hb.cell hlt).trans k1, (hb.cell hlt).trans k2, ((r.reads (fun b hb => hb.elim (h.lt b) (fun q => Nat.lt_of_lt_of_le q h.bw))).below hb).more hb.size, q1, q2, q3, fun g hg => ⟨by have := (hkk.2 g hg).2.1; omega, by have := (hkk.2 g hg).2.2; omega⟩, q4⟩)
  have HX := Lib.hid hX
  have HB1 := Lib.hid hB1
  have OK := Lib.hid hok
  clear h hX hB1 hok
  go_enter Tryz.func13, Tryz.ntmps13
  go_wp2_with fail
  generalize hw1 : w.alloc (.cells #[.slice A ds.length c] 30) = w1 at *
  clear hw1
  go_loopw [3, 4] (fun v i wr => ∃ k : Nat, k ≤ ds.length ∧ i = .int .i64 (k : Nat) ∧ Hid (SRd wr v (termsR ((ds.take k).map (·.fs)))) ∧ Hid (Below w1.heap.size w1 wr)) (fun _ i _ => ds.length - (intOf i).toNat)
  case atStart => exact ⟨0, Nat.zero_le _, rfl, Lib.hid (SRd.nil _), Lib.hid (Below.refl _ _)⟩
  case round =>
    obtain ⟨k, hk, rfl, hV, hB⟩ := hrel
    have x0 := (HX.out.below hB.out HX.out.lt).cell 0
    simp only [List.getElem?_toArray, List.getElem?_cons_zero] at x0
    by_cases hlt : k < ds.length
    · have hkz : (k : Int) < (ds.length : Int) := by omega
      have hk0 : (0 : Int) ≤ (k : Int) := by omega
      obtain ⟨b, o, F, fn, f, rfl, c1, c2, hF⟩ := HG.out wr (HB1.out.trans (hB.out.mono HB1.out.size)) k hlt
      have hsn : termsR ((ds.take (k + 1)).map (·.fs)) = insT (termsR ((ds.take k).map (·.fs))) (addAll (raw ds[k].fs)) := by
        rw [List.take_succ_eq_append_getElem hlt, List.map_append, List.map_cons, List.map_nil, termsR_snoc]
      have hck : ∀ fs ∈ (ds.take k).map (·.fs), chkE fs = 0 := fun fs hf => by
        obtain ⟨d, hd, rfl⟩ := List.mem_map.1 hf
        exact (OK.out d (List.mem_of_mem_take hd)).1
      have hln := termsR_len _ ((ds.take k).map (·.fs)) rfl hck
      rw [List.length_map, List.length_take, Nat.min_eq_left (by omega)] at hln
      have hsz1 := termsR_sz ((ds.take k).map (·.fs)) hck
      have hup1 := (termsR_up _ ((ds.take k).map (·.fs)) rfl).1
      have hok := (OK.out _ (List.getElem_mem hlt)).1
      have hT := addAll_szp hok
      have hTs := terms_sz hok
      have C1 := Lib.hid (rterms_any ds[k].at_ F fn f ds[k].fs wr hF hok)
      have HSN := Lib.hid hsn
      have HS1 := Lib.hid hsz1
      have HU1 := Lib.hid hup1
      have HTs := Lib.hid hTs
      clear hF hsn hok hck hsz1 hup1 hTs
      generalize ds[k].at_ = ta at *
      generalize addAll (raw ds[k].fs) = T at *
      generalize termsR ((ds.take k).map (·.fs)) = l0 at *
      have hl0 : l0.length ≤ 4294967296 := by
        have : k * 65536 ≤ 65536 * 65536 := Nat.mul_le_mul_right _ (by omega)
        exact Nat.le_trans hln this
      clear hln
      obtain ⟨wo, rfl⟩ : ∃ wo : World, wo = wr := ⟨_, rfl⟩
      go_wp2_with fail
      refine C1.out.mono ?_
      rintro e w2 ⟨A2, n2, c2', O, rfl, hO, hTm, hb2⟩
      have HB2 := Lib.hid (hB.out.trans (hb2.mono hB.out.size))
      have hln : O.length = T.length := by rw [← hO, List.length_map]
      have hln2 : n2 = T.length := by rw [← hTm.ln, hln]
      have HTk : Hid (∀ j (hj : j < T.length) (hj' : j < O.length), T[j].1 = O[j].1) := Lib.hid (fun j hj hj' => by
        have h4 : T[j]? = (O.map prj)[j]? := by rw [hO]
        rw [List.getElem?_eq_getElem hj, List.getElem?_map, List.getElem?_eq_getElem hj'] at h4
        injection h4 with h4
        rw [h4]; rfl)
      have HTM := Lib.hid hTm
      have HV2 := Lib.hid (hV.out.grow hb2)
      have hn1 : T.length ≤ n2 := by omega
      have hn2 : n2 ≤ T.length := by omega
      have ho1 : T.length ≤ O.length := by omega
      clear hTm hb2 hO x0 c1 c2 hln hln2 C1 hV
      go_wp2_with fail
      go_loopw [3, 6] (fun v i wr => ∃ j : Nat, j ≤ T.length ∧ i = .int .i64 (j : Nat) ∧ Hid (SRd wr v (insT l0 (T.take j))) ∧ Hid (Below w2.heap.size w2 wr)) (fun _ i _ => T.length - (intOf i).toNat)
      case atStart => exact ⟨0, Nat.zero_le _, rfl, Lib.hid HV2.out, Lib.hid (Below.refl _ _)⟩
      case round =>
        obtain ⟨j, hj, rfl, hV, hQ⟩ := hrel
        by_cases hjl : j < T.length
        · have hjz : (j : Int) < (n2 : Int) := by omega
          have hj0 : (0 : Int) ≤ (j : Int) := by omega
          have hjo : j < O.length := by omega
          obtain ⟨tb, tq, rfl, htb, d0, d1⟩ := (HTM.out.grow hQ.out hQ.out.size).at_ hjo
          have hst : insT l0 (T.take (j + 1)) = insS (insT l0 (T.take j)) O[j].1 := by
            rw [List.take_succ_eq_append_getElem hjl, insT_snoc, HTk.out j hjl hjo]
          have hm := (insT_up (T.take j) l0 HU1.out).2
          have hszs : ∀ x ∈ insT l0 (T.take j), x.size ≤ 1048576 := fun x hx => by
            rcases (hm x).1 hx with hx | ⟨t, ht, rfl⟩
            · have := HS1.out x hx; omega
            · have := (HTs.out t (List.mem_of_mem_take ht)).1; omega
          have hlt2 := insT_len (T.take j) l0
          rw [List.length_take] at hlt2
          have hos : O[j].1.size ≤ 1048576 := by
            rw [← HTk.out j hjl hjo]
            have := (HTs.out _ (List.getElem_mem hjl)).1; omega
          have HST := Lib.hid hst
          clear hst hm
          generalize insT l0 (T.take j) = lj at *
          obtain ⟨A8, c8, rfl, hr8, hc8, hn8, hsh8⟩ := hV.out.ex
          have CW := Lib.hid (withS_any A8 c8 lj O[j].1 wr hr8 hc8 hn8 hsh8 (by omega) hszs hos)
          generalize O[j].1 = x at *
          clear hr8 hc8 hn8 hsh8 hszs d1
          go_wp2_with fail
          refine CW.out.mono ?_
          rintro e w3 ⟨v3, rfl, hv3, hb3⟩
          obtain ⟨A9, c9, rfl, _⟩ := hv3.ex
          have HV3 := Lib.hid hv3
          have HQ3 := Lib.hid (hQ.out.trans (hb3.mono hQ.out.size))
          clear hv3 hb3 CW d0
          go_wp2_with fail
          go_roundw
          case rel => exact ⟨j + 1, by omega, by go_num, by rw [HST.out]; exact HV3, HQ3⟩
          case measure => simp [intOf]; omega
        · obtain rfl : j = T.length := by omega
          rw [List.take_length] at hV
          have HVF : Hid (SRd wr _ (termsR ((ds.take (k + 1)).map (·.fs)))) := Lib.hid (by rw [HSN.out]; exact hV.out)
          have HBF := Lib.hid (HB2.out.trans (hQ.out.mono HB2.out.size))
          go_wp2_with fail
          go_roundw
          case rel => exact ⟨k + 1, by omega, by go_num, HVF, HBF⟩
          case measure => simp [intOf]; omega
    · obtain rfl : k = ds.length := by omega
      rw [List.take_length] at hV
      have HF := Lib.hid (HB1.out.trans (hB.out.mono HB1.out.size))
      go_wp2
      go_ret
      exact ⟨_, rfl, hV.out, HF.out⟩
end Go.Proofs.YtioekhiaoajgfaaGreat.Mx
