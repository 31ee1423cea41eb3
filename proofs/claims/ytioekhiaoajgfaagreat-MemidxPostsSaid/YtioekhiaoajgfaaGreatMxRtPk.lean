/- loggiaref14.less, with, Terms, loggiaref07.SameWords: the walks (seat k; printed by gen_mxrt.py). -/
import Derived.Test.YtioekhiaoajgfaaGreatMxPpPk
import Derived.Test.YtioekhiaoajgfaaGreatMxOPk
import Derived.Test.YtioekhiaoajgfaaGreatPkMemidxForksRow27
namespace Go.Proofs.YtioekhiaoajgfaaGreat.Mx
open Go.RowKit Go.Proofs.YtioekhiaoajgfaaGreat Go.Proofs.YtioekhiaoajgfaaGreat.Ut Go.Proofs.YtioekhiaoajgfaaGreat.Tk Go.Proofs.YtioekhiaoajgfaaGreat.Qy Go.Proofs.YtioekhiaoajgfaaGreat.Ev Go.Proofs.YtioekhiaoajgfaaGreat.Qp Go.Proofs.YtioekhiaoajgfaaGreat.Mv Go.Proofs.YtioekhiaoajgfaaGreat.Rg
set_option linter.unusedVariables false
set_option linter.unusedSimpArgs false
set_option maxRecDepth 20000

set_option maxHeartbeats 1600000 in
theorem lessT_any (a b : ByteArray) (w : World) (ha : a.size ≤ 140737488351232) (hb6 : b.size ≤ 140737488351232) :
    Calls Tryz.prog 57 #[.string a, .string b] w fun e w' => e = .returned (.bool (ltB a b)) ∧ Below w.heap.size w w' := by
  have hst : Hid (ltB a b = Op.bytesLess (a.data.toList.drop 0) (b.data.toList.drop 0)) := Lib.hid (by unfold ltB; rw [tl, tl, List.drop_zero, List.drop_zero])
  generalize ltB a b = r at *
  go_enter Tryz.func57, Tryz.ntmps57
  go_wp2_with fail
  go_loopw [5] (fun i wr => ∃ k : Nat, k ≤ a.size ∧ k ≤ b.size ∧ i = .int .i64 (k : Nat) ∧ Hid (r = Op.bytesLess (a.data.toList.drop k) (b.data.toList.drop k)) ∧ Below w.heap.size w wr) (fun i _ => a.size - (intOf i).toNat)
  case atStart => exact ⟨0, Nat.zero_le _, Nat.zero_le _, rfl, hst, Below.refl _ _⟩
  case round =>
    obtain ⟨k, hka, hkb, rfl, hS, hb⟩ := hrel
    have Hb := Lib.hid hb
    clear hb hst
    by_cases hlt : k < a.size ∧ k < b.size
    · obtain ⟨h1, h2⟩ := hlt
      have hk0 : (0 : Int) ≤ (k : Int) := by omega
      have hk1 : (k : Int) < (a.size : Int) := by omega
      have hk2 : (k : Int) < (b.size : Int) := by omega
      have da : a.data.toList.drop k = a[k] :: a.data.toList.drop (k + 1) := List.drop_eq_getElem_cons (by rw [bsize]; exact h1)
      have db : b.data.toList.drop k = b[k] :: b.data.toList.drop (k + 1) := List.drop_eq_getElem_cons (by rw [bsize]; exact h2)
      have hS2 := hS.out
      rw [da, db] at hS2
      have hx := (a[k]).toNat_lt
      have hy := (b[k]).toNat_lt
      by_cases e : a[k] = b[k]
      · have hS3 : Hid (r = Op.bytesLess (a.data.toList.drop (k + 1)) (b.data.toList.drop (k + 1))) := Lib.hid (by rw [hS2, e, bl_same])
        have hne : (((a[k]).toNat : Int) != ((b[k]).toNat : Int)) = false := by rw [e]; simp
        clear hS hS2 da db
        go_wp2
        go_region
        go_wp2
        go_roundw
        case rel => exact ⟨k + 1, by omega, by omega, by go_num, hS3, Hb.out.drew⟩
        case measure => simp [intOf]; omega
      · have hS3 : Hid (r = decide ((a[k]).toNat < (b[k]).toNat)) := Lib.hid (by rw [hS2, bl_cons _ _ _ _ e])
        have hne : (((a[k]).toNat : Int) != ((b[k]).toNat : Int)) = true := by
          rw [bne_iff_ne]
          intro h
          exact e (UInt8.toNat_inj.1 (by omega))
        clear hS hS2 da db e
        go_wp2
        go_region
        go_wp2
        go_region
        go_wp2
        go_ret
        exact ⟨by rw [hS3.out]; simp, Hb.out.drew.drew⟩
    · have hS3 : Hid (r = decide (a.size < b.size)) := Lib.hid (by
        rw [hS.out]
        by_cases h1 : k < a.size
        · have e : k = b.size := by omega
          have eb : b.data.toList.drop k = [] := List.drop_eq_nil_of_le (by rw [bsize]; omega)
          rw [eb, List.drop_eq_getElem_cons (by rw [bsize]; exact h1), decide_eq_false (by omega)]
          simp [Op.bytesLess]
        · have ea : a.data.toList.drop k = [] := List.drop_eq_nil_of_le (by rw [bsize]; omega)
          rw [ea]
          by_cases h2 : k < b.size
          · rw [List.drop_eq_getElem_cons (by rw [bsize]; exact h2), decide_eq_true (by omega)]
            simp [Op.bytesLess]
          · have eb : b.data.toList.drop k = [] := List.drop_eq_nil_of_le (by rw [bsize]; omega)
            rw [eb, decide_eq_false (by omega)]
            simp [Op.bytesLess])
      clear hS
      by_cases h1 : k < a.size
      · have hk1 : (k : Int) < (a.size : Int) := by omega
        have hk2 : (b.size : Int) ≤ (k : Int) := by omega
        go_wp2
        go_ret
        exact ⟨by rw [hS3.out]; simp, Hb.out⟩
      · have hk1 : (a.size : Int) ≤ (k : Int) := by omega
        go_wp2
        go_ret
        exact ⟨by rw [hS3.out]; simp, Hb.out⟩

theorem strs_one (l : List ByteArray) : ∀ u ∈ l.map Value.string, u.oneCell' = true := fun u hu => by
  obtain ⟨s, _, rfl⟩ := List.mem_map.1 hu
  rfl
/-- A row of texts that reads. -/
structure SRd (w : World) (v : Value) (l : List ByteArray) : Prop where
  ex : ∃ A c, v = .slice A l.length c ∧ Reads w w.heap.size 1 A l.length (l.map Value.string) ∧ l.length ≤ c ∧ (A = none → c = 0) ∧ ((A = none ∧ l = []) ∨ ((∃ b o, A = some ⟨b, o, none⟩) ∧ l ≠ []))
theorem SRd.grow {w w' : World} {v : Value} {l : List ByteArray} (h : SRd w v l) (hb : Below w.heap.size w w') : SRd w' v l := by
  obtain ⟨A, c, e, h1, h2⟩ := h.ex
  exact ⟨A, c, e, reads_gr hb h1, h2⟩
theorem SRd.nil (w : World) : SRd w (.slice none 0 0) [] := ⟨none, 0, rfl, ⟨rfl, fun h => by simp at h⟩, Nat.le_refl _, fun _ => rfl, .inl ⟨rfl, rfl⟩⟩
theorem SRd.own {w : World} {base : Nat} {v : Value} {l : List ByteArray} (h : w.ownsRow base 9 1 v l.length (l.map Value.string)) (hne : l ≠ []) : SRd w v l := by
  obtain ⟨A, c, e, hr, h1, h2, _⟩ := own_shape2 h
  refine ⟨A, c, e, hr, h1, h2, ?_⟩
  rcases h.2 with ⟨hv, h0⟩ | ⟨g, cap, cur, hv, _⟩
  · exact absurd (List.length_eq_zero_iff.1 h0) hne
  · rw [e] at hv; injection hv with hv _ _; exact .inr ⟨⟨_, _, hv⟩, hne⟩
theorem str_at {w : World} {B n k : Nat} {A : Option Addr} {l : List ByteArray} (h : Reads w B 1 A n (l.map Value.string)) (hl : l.length = n) (hk : k < l.length) : ∃ b o, A = some ⟨b, o, none⟩ ∧ b < B ∧ w.cell? ⟨b, o + k, none⟩ = some (.string l[k]) := by
  obtain ⟨b, o, e, hb, hc⟩ := h.2 (by omega)
  refine ⟨b, o, e, hb, hc k _ ?_⟩
  rw [List.getElem?_map, List.getElem?_eq_getElem hk]
  rfl
def WithP (w : World) (l : List ByteArray) (e : Ending) (w' : World) : Prop := ∃ v, e = .returned v ∧ SRd w' v l ∧ Below w.heap.size w w'
theorem posB_step (l : List ByteArray) (s : ByteArray) {k : Nat} (hk : k < l.length) : posB (l.drop k) s = if ltB l[k] s = true then posB (l.drop (k + 1)) s + 1 else 0 := by
  rw [List.drop_eq_getElem_cons hk]
  rfl
set_option maxHeartbeats 3200000 in
theorem withS_any (A : Option Addr) (c : Nat) (l : List ByteArray) (s : ByteArray) (w : World) (hR : Reads w w.heap.size 1 A l.length (l.map Value.string)) (hcap : l.length ≤ c) (hnil : A = none → c = 0) (hsh : (A = none ∧ l = []) ∨ ((∃ b o, A = some ⟨b, o, none⟩) ∧ l ≠ [])) (hl : l.length ≤ 4398046511104) (hsz : ∀ x ∈ l, x.size ≤ 1048576) (hs : s.size ≤ 1048576) :
    Calls Tryz.prog 37 #[.slice A l.length c, .string s] w (WithP w (insS l s)) := by
  obtain ⟨i0, hi0, hz0, hz1, hz2⟩ := info_parts strI
  have HG : Hid (∀ wx, Below w.heap.size w wx → ∀ k (hk : k < l.length), ∃ b o, A = some ⟨b, o, none⟩ ∧ wx.cell? ⟨b, o + k, none⟩ = some (.string l[k])) := Lib.hid (fun wx hb k hk => by
    obtain ⟨b, o, e, hlt, hc⟩ := str_at hR rfl hk
    exact ⟨b, o, e, (hb.cell hlt).trans hc⟩)
  have HO := Lib.hid hR
  have Hnil := Lib.hid hnil
  have HSZ := Lib.hid hsz
  obtain ⟨r, hr⟩ : ∃ r, insS l s = r := ⟨_, rfl⟩
  have HH : Hid (∀ h : posB l s < l.length, l[posB l s] = s → r = l) := Lib.hid (fun h e => by rw [← hr]; exact insS_hit l s h e)
  have HM : Hid ((∀ h : posB l s < l.length, l[posB l s] ≠ s) → r = l.take (posB l s) ++ [s] ++ l.drop (posB l s)) := Lib.hid (fun h => by rw [← hr]; exact insS_miss l s h)
  rw [hr]
  clear hR hnil hsz hr
  go_enter Tryz.func37, Tryz.ntmps37
  go_wp2_with fail
  go_loopw [5] (fun i wr => ∃ k : Nat, k ≤ l.length ∧ i = .int .i64 (k : Nat) ∧ Hid (posB l s = k + posB (l.drop k) s) ∧ Hid (Below w.heap.size w wr)) (fun i _ => l.length - (intOf i).toNat)
  case atStart => exact ⟨0, Nat.zero_le _, rfl, Lib.hid (by simp), Lib.hid (Below.refl _ _)⟩
  case round =>
    obtain ⟨k, hk, rfl, hP, hB⟩ := hrel
    have MISS : Hid (∀ wz, Below w.heap.size w wz → Reads wz wz.heap.size 1 A l.length (l.map Value.string)) := Lib.hid (fun wz hb => reads_gr hb HO.out)
    have hk0 : (0 : Int) ≤ (k : Int) := by omega
    by_cases hlt : k < l.length
    · have hki : (k : Int) < (l.length : Int) := by omega
      obtain ⟨tb, tq, rfl, hd1⟩ := HG.out wr hB.out k hlt
      have hst := posB_step l s hlt
      have cl := lessT_any l[k] s wr (by have := HSZ.out _ (List.getElem_mem hlt); omega) (by omega)
      cases hle : ltB l[k] s with
      | true =>
        rw [hle] at cl
        have HP2 : Hid (posB l s = (k + 1) + posB (l.drop (k + 1)) s) := Lib.hid (by rw [hP.out, hst, if_pos hle]; omega)
        generalize l[k] = y at *
        clear hle hst
        go_wp2_with fail
        refine cl.mono ?_
        rintro e w2 ⟨rfl, hb2⟩
        have HB2 := Lib.hid (hB.out.trans (hb2.mono hB.out.size))
        clear cl hb2 hd1
        go_wp2
        go_roundw
        case rel => exact ⟨k + 1, by omega, by go_num, HP2, HB2⟩
        case measure => simp [intOf]; omega
      | false =>
        rw [hle] at cl
        have hpk : posB l s = k := by rw [hP.out, hst, if_neg (by rw [hle]; simp)]; rfl
        by_cases hhit : l[k] = s
        · have HR : Hid (r = l) := Lib.hid (HH.out (by rw [hpk]; exact hlt) (by simpa only [hpk] using hhit))
          have hbe : (l[k].toList == s.toList) = true := by rw [hhit]; simp
          generalize l[k] = y at *
          clear hle hst hpk hhit
          go_wp2_with fail
          refine cl.mono ?_
          rintro e wz ⟨rfl, hb2⟩
          have HBz := Lib.hid (hB.out.trans (hb2.mono hB.out.size))
          have hd2 := (hb2.cell (p := ⟨tb, tq + k, none⟩) (World.block_lt_of_cell? wr _ hd1)).trans hd1
          clear cl hb2 hd1
          have hfin := MISS.out wz HBz.out
          have HF := Lib.hid hfin
          clear hfin
          go_wp2
          go_ret
          rw [HR.out]
          exact ⟨_, rfl, ⟨_, _, rfl, HF.out, hcap, Hnil.out, .inr ⟨⟨_, _, rfl⟩, fun e => by rw [e] at hlt; simp at hlt⟩⟩, HBz.out⟩
        · have HR : Hid (r = l.take k ++ [s] ++ l.drop k) := Lib.hid (by
            have := HM.out (fun h => by simpa only [hpk] using hhit)
            rw [hpk] at this
            exact this)
          have hbe : (l[k].toList == s.toList) = false := by rw [beq_dec]; exact decide_eq_false hhit
          generalize l[k] = y at *
          clear hle hst hpk hhit
          go_wp2_with fail
          refine cl.mono ?_
          rintro e wz ⟨rfl, hb2⟩
          have HBz := Lib.hid (hB.out.trans (hb2.mono hB.out.size))
          have hd2 := (hb2.cell (p := ⟨tb, tq + k, none⟩) (World.block_lt_of_cell? wr _ hd1)).trans hd1
          clear cl hb2 hd1
          have hwz := HBz.out.size
          have R0 := Lib.hid (Row.empty 9 1 (by decide) wz)
          have hA0 : Below wz.heap.size wz (wz.alloc (.cells #[] 9)) := (Below.refl _ _).alloc (Nat.le_refl _) _
          have HA0 := Lib.hid hA0
          have MZ : Hid (∀ wx, Below wz.heap.size wz wx → Reads wx wx.heap.size 1 (some ⟨tb, tq, none⟩) l.length (l.map Value.string)) := Lib.hid (fun wx hb => MISS.out wx (HBz.out.trans (hb.mono hwz)))
          have hkl : k ≤ l.length := hk
          clear hA0
          go_wp2_with (at_builtin; (refine wpList_append_any rfl _ _ 36 rfl (wz.heap.size) 9 i0 _ 1 16 Tryz.underlying36 hi0 hz0 hz1 hz2 rfl (by decide) (_) (0) ([]) rfl (R0.out.own) _ _ _ ((l.map Value.string).take k) rfl ?r2 ?l2 ?o2 ?m2 ?b2 ?s2 ?_))
          try (case r2 => (have q := reads_take (p := k) (MZ.out _ HA0.out) hkl; rw [Nat.mul_one] at q; first | exact q | (rw [World.size_alloc] at q; exact q)))
          try (case l2 => exact Hnil.out)
          try (case o2 => first | exact strs_one _ | exact fun u hu => strs_one l u (List.mem_of_mem_take hu) | exact fun u hu => strs_one l u (List.mem_of_mem_drop hu) | (simp [Value.oneCell']))
          try (case m2 => unfold maxLen; omega)
          try (case b2 => omega)
          try (case s2 => first | omega | (simp; omega) | simp)
          intro v1 w1 ho1 hg1 _
          have R1 : Hid (Row 9 1 wz.heap.size wz w1 v1 k ((l.map Value.string).take k)) := Lib.hid ⟨by simpa using ho1, R0.out.bel.grown hg1 (by simp) (fun b hb => (R0.out.own.lt b hb).1)⟩
          have hs1 := R1.out.bel.size
          clear ho1 hg1 R0 HA0
          go_wp2_with (at_builtin; (refine wpList_append_any rfl _ _ 36 rfl (wz.heap.size) 9 i0 _ 1 16 Tryz.underlying36 hi0 hz0 hz1 hz2 rfl (by decide) (v1) (k) ((l.map Value.string).take k) rfl ((R1.out.alloc (by omega) _).own) _ _ _ ([.string s]) rfl ?r5 ?l5 ?o5 ?m5 ?b5 ?s5 ?_))
          try (case r5 => exact new_row (k := 1) w1 9 [.string s] 1 rfl (by decide))
          try (case l5 => intro e; cases e)
          try (case o5 => first | exact strs_one _ | exact fun u hu => strs_one l u (List.mem_of_mem_take hu) | exact fun u hu => strs_one l u (List.mem_of_mem_drop hu) | (simp [Value.oneCell']))
          try (case m5 => unfold maxLen; omega)
          try (case b5 => omega)
          try (case s5 => first | omega | (simp; omega) | simp)
          intro v4 w4 ho4 hg4 _
          have R4 : Hid (Row 9 1 wz.heap.size wz w4 v4 (k + 1) ((l.map Value.string).take k ++ [.string s])) := Lib.hid ((R1.out.alloc (by omega) _).app (by simp; omega) ho4 hg4)
          have hs4 := R4.out.bel.size
          clear ho4 hg4 R1
          have hkn : (k : Int) ≤ (l.length : Int) := by omega
          have hkt : ((k : Int)).toNat = k := by omega
          by_cases hcq : c = k
          · have hnk := Lib.hid (show l.length - k = 0 by omega)
            go_wp2_with (at_builtin; (refine wpList_append_any rfl _ _ 36 rfl (wz.heap.size) 9 i0 _ 1 16 Tryz.underlying36 hi0 hz0 hz1 hz2 rfl (by decide) (v4) (k + 1) (_) rfl (R4.out.own) _ _ _ ((l.map Value.string).drop k) rfl ?r6 ?l6 ?o6 ?m6 ?b6 ?s6 ?_))
            try (case r6 => (rw [List.drop_eq_nil_of_le (by simp; omega)]; exact ⟨(by simp [hnk.out]), fun h => absurd h (by have := hnk.out; omega)⟩))
            try (case l6 => intro e; first | exact Hnil.out e | (have := Hnil.out e; omega) | (cases e; done))
            try (case o6 => first | exact strs_one _ | exact fun u hu => strs_one l u (List.mem_of_mem_take hu) | exact fun u hu => strs_one l u (List.mem_of_mem_drop hu) | (simp [Value.oneCell']))
            try (case m6 => unfold maxLen; omega)
            try (case b6 => omega)
            try (case s6 => first | omega | (simp; omega) | simp)
            intro v5 w5 ho5 hg5 _
            have R5 : Hid (Row 9 1 wz.heap.size wz w5 v5 (k + 1 + (l.length - k)) ((l.map Value.string).take k ++ [.string s] ++ (l.map Value.string).drop k)) := Lib.hid ⟨by first | exact ho5 | simpa using ho5 | (rw [show k + 1 + (l.length - k) = k + 1 by omega]; simpa using ho5), R4.out.bel.grown hg5 hs4 (fun b hb => (R4.out.own.lt b hb).1)⟩
            clear ho5 hg5
            have HF : Hid (SRd w5 v5 (l.take k ++ [s] ++ l.drop k)) := Lib.hid (by
              have e1 : (l.take k ++ [s] ++ l.drop k).length = k + 1 + (l.length - k) := by simp; omega
              have h := R5.out.own
              refine SRd.own (base := wz.heap.size) ?_ (by simp)
              rw [e1, List.map_append, List.map_append, List.map_take, List.map_drop]
              exact h)
            obtain ⟨A5, q5, e5, _⟩ := HF.out.ex
            subst e5
            go_wp2
            go_ret
            rw [HR.out]
            exact ⟨_, rfl, HF.out, HBz.out.trans (R5.out.bel.mono hwz)⟩
          · go_wp2_with (at_builtin; (refine wpList_append_any rfl _ _ 36 rfl (wz.heap.size) 9 i0 _ 1 16 Tryz.underlying36 hi0 hz0 hz1 hz2 rfl (by decide) (v4) (k + 1) (_) rfl (R4.out.own) _ _ _ ((l.map Value.string).drop k) rfl ?r7 ?l7 ?o7 ?m7 ?b7 ?s7 ?_))
            try (case r7 => (have q := reads_cut (p := k) (MZ.out _ R4.out.bel) hkl hcap; rw [if_neg hcq, Nat.mul_one] at q; first | exact q | (simpa [add_lit] using q)))
            try (case l7 => intro e; first | (cases e; done) | (have := Hnil.out e; omega) | (simp at e; done) | (simp at e; have := Hnil.out e; omega))
            try (case o7 => first | exact strs_one _ | exact fun u hu => strs_one l u (List.mem_of_mem_take hu) | exact fun u hu => strs_one l u (List.mem_of_mem_drop hu) | (simp [Value.oneCell']))
            try (case m7 => unfold maxLen; omega)
            try (case b7 => omega)
            try (case s7 => first | omega | (simp; omega) | simp)
            intro v5 w5 ho5 hg5 _
            have R5 : Hid (Row 9 1 wz.heap.size wz w5 v5 (k + 1 + (l.length - k)) ((l.map Value.string).take k ++ [.string s] ++ (l.map Value.string).drop k)) := Lib.hid ⟨by first | exact ho5 | simpa using ho5 | (rw [show k + 1 + (l.length - k) = k + 1 by omega]; simpa using ho5), R4.out.bel.grown hg5 hs4 (fun b hb => (R4.out.own.lt b hb).1)⟩
            clear ho5 hg5
            have HF : Hid (SRd w5 v5 (l.take k ++ [s] ++ l.drop k)) := Lib.hid (by
              have e1 : (l.take k ++ [s] ++ l.drop k).length = k + 1 + (l.length - k) := by simp; omega
              have h := R5.out.own
              refine SRd.own (base := wz.heap.size) ?_ (by simp)
              rw [e1, List.map_append, List.map_append, List.map_take, List.map_drop]
              exact h)
            obtain ⟨A5, q5, e5, _⟩ := HF.out.ex
            subst e5
            go_wp2
            go_ret
            rw [HR.out]
            exact ⟨_, rfl, HF.out, HBz.out.trans (R5.out.bel.mono hwz)⟩
    · have hpk : posB l s = k := by rw [hP.out, List.drop_eq_nil_of_le (by omega)]; rfl
      have hki : ¬ (k : Int) < (l.length : Int) := by omega
      have HR : Hid (r = l.take k ++ [s] ++ l.drop k) := Lib.hid (by
        have := HM.out (fun h => by rw [hpk] at h; omega)
        rw [hpk] at this
        exact this)
      obtain ⟨wz, rfl⟩ : ∃ wz : World, wz = wr := ⟨_, rfl⟩
      have HBz := hB
      clear hpk HG hP
      rcases hsh with ⟨rfl, hl0⟩ | ⟨⟨tb, tq, rfl⟩, hl0⟩
      · obtain rfl : c = 0 := Hnil.out rfl
        subst hl0
        obtain rfl : k = 0 := by simpa using hk
        have hwz := HBz.out.size
        have R0 := Lib.hid (Row.empty 9 1 (by decide) wz)
        have HRN : Hid (Reads (wz.alloc (.cells #[] 9)) (World.heap (wz.alloc (.cells #[] 9))).size 1 none 0 []) := Lib.hid ⟨rfl, fun h => absurd h (by omega)⟩
        go_wp2_with (at_builtin; (refine wpList_append_any rfl _ _ 36 rfl (wz.heap.size) 9 i0 _ 1 16 Tryz.underlying36 hi0 hz0 hz1 hz2 rfl (by decide) (_) (0) ([]) rfl (R0.out.own) _ _ _ ([]) rfl ?rn2 ?ln2 ?on2 ?mn2 ?bn2 ?sn2 ?_))
        try (case rn2 => exact ⟨rfl, fun h => absurd h (by omega)⟩)
        try (case ln2 => first | exact fun _ => rfl | (intro e; cases e))
        try (case on2 => first | exact strs_one _ | exact fun u hu => strs_one l u (List.mem_of_mem_take hu) | exact fun u hu => strs_one l u (List.mem_of_mem_drop hu) | (simp [Value.oneCell']))
        try (case mn2 => unfold maxLen; omega)
        try (case bn2 => omega)
        try (case sn2 => first | omega | (simp; omega) | simp)
        intro v1 w1 ho1 hg1 _
        have R1 : Hid (Row 9 1 wz.heap.size wz w1 v1 0 []) := Lib.hid ⟨by simpa using ho1, R0.out.bel.grown hg1 (by simp) (fun b hb => (R0.out.own.lt b hb).1)⟩
        have hs1 := R1.out.bel.size
        clear ho1 hg1 R0
        go_wp2_with (at_builtin; (refine wpList_append_any rfl _ _ 36 rfl (wz.heap.size) 9 i0 _ 1 16 Tryz.underlying36 hi0 hz0 hz1 hz2 rfl (by decide) (v1) (0) ([]) rfl ((R1.out.alloc (by omega) _).own) _ _ _ ([.string s]) rfl ?rn5 ?ln5 ?on5 ?mn5 ?bn5 ?sn5 ?_))
        try (case rn5 => exact new_row (k := 1) w1 9 [.string s] 1 rfl (by decide))
        try (case ln5 => intro e; cases e)
        try (case on5 => first | exact strs_one _ | exact fun u hu => strs_one l u (List.mem_of_mem_take hu) | exact fun u hu => strs_one l u (List.mem_of_mem_drop hu) | (simp [Value.oneCell']))
        try (case mn5 => unfold maxLen; omega)
        try (case bn5 => omega)
        try (case sn5 => first | omega | (simp; omega) | simp)
        intro v4 w4 ho4 hg4 _
        have R4 : Hid (Row 9 1 wz.heap.size wz w4 v4 1 [.string s]) := Lib.hid (by simpa using (R1.out.alloc (by omega) _).app (by simp; omega) ho4 hg4)
        have hs4 := R4.out.bel.size
        clear ho4 hg4 R1
        have HF : Hid (SRd w4 v4 ([] ++ [s])) := Lib.hid (SRd.own (base := wz.heap.size) R4.out.own (by simp))
        obtain ⟨g4, q4, rfl⟩ := own_succ (n := 0) R4.out.own
        go_wp2_with (at_builtin; (refine wpList_append_any rfl _ _ 36 rfl (wz.heap.size) 9 i0 _ 1 16 Tryz.underlying36 hi0 hz0 hz1 hz2 rfl (by decide) (_) (1) (_) rfl (R4.out.own) none 0 0 ([]) rfl ⟨rfl, fun h => absurd h (by omega)⟩ (fun _ => rfl) (by simp) ?mn8 ?bn8 ?sn8 ?_))
        try (case mn8 => unfold maxLen; omega)
        try (case bn8 => omega)
        try (case sn8 => first | omega | simp)
        intro v5 w5 ho5 hg5 _
        have R5 : Hid (Row 9 1 wz.heap.size wz w5 v5 1 [.string s]) := Lib.hid ⟨by first | exact ho5 | simpa using ho5, R4.out.bel.grown hg5 hs4 (fun b hb => (R4.out.own.lt b hb).1)⟩
        have HF5 : Hid (SRd w5 v5 ([] ++ [s])) := Lib.hid (SRd.own (base := wz.heap.size) R5.out.own (by simp))
        clear ho5 hg5
        obtain ⟨g5, q5, rfl⟩ := own_succ (n := 0) R5.out.own
        go_wp2
        go_ret
        rw [HR.out]
        exact ⟨_, rfl, by simpa using HF5.out, HBz.out.trans (R5.out.bel.mono hwz)⟩
      · have hkc : (k : Int) ≤ (c : Int) := by omega
        have hkcn : k ≤ c := by omega
        have hkl2 : (k : Int) ≤ (l.length : Int) := by omega
        clear hl0
        have hwz := HBz.out.size
        have R0 := Lib.hid (Row.empty 9 1 (by decide) wz)
        have hA0 : Below wz.heap.size wz (wz.alloc (.cells #[] 9)) := (Below.refl _ _).alloc (Nat.le_refl _) _
        have HA0 := Lib.hid hA0
        have MZ : Hid (∀ wx, Below wz.heap.size wz wx → Reads wx wx.heap.size 1 (some ⟨tb, tq, none⟩) l.length (l.map Value.string)) := Lib.hid (fun wx hb => MISS.out wx (HBz.out.trans (hb.mono hwz)))
        have hkl : k ≤ l.length := hk
        clear hA0
        go_wp2_with (at_builtin; (refine wpList_append_any rfl _ _ 36 rfl (wz.heap.size) 9 i0 _ 1 16 Tryz.underlying36 hi0 hz0 hz1 hz2 rfl (by decide) (_) (0) ([]) rfl (R0.out.own) _ _ _ ((l.map Value.string).take k) rfl ?rq2 ?lq2 ?oq2 ?mq2 ?bq2 ?sq2 ?_))
        try (case rq2 => (have q := reads_take (p := k) (MZ.out _ HA0.out) hkl; rw [Nat.mul_one] at q; first | exact q | (rw [World.size_alloc] at q; exact q)))
        try (case lq2 => exact Hnil.out)
        try (case oq2 => first | exact strs_one _ | exact fun u hu => strs_one l u (List.mem_of_mem_take hu) | exact fun u hu => strs_one l u (List.mem_of_mem_drop hu) | (simp [Value.oneCell']))
        try (case mq2 => unfold maxLen; omega)
        try (case bq2 => omega)
        try (case sq2 => first | omega | (simp; omega) | simp)
        intro v1 w1 ho1 hg1 _
        clear hki hlt
        have R1 : Hid (Row 9 1 wz.heap.size wz w1 v1 k ((l.map Value.string).take k)) := Lib.hid ⟨by simpa using ho1, R0.out.bel.grown hg1 (by simp) (fun b hb => (R0.out.own.lt b hb).1)⟩
        have hs1 := R1.out.bel.size
        clear ho1 hg1 R0 HA0
        go_wp2_with (at_builtin; (refine wpList_append_any rfl _ _ 36 rfl (wz.heap.size) 9 i0 _ 1 16 Tryz.underlying36 hi0 hz0 hz1 hz2 rfl (by decide) (v1) (k) ((l.map Value.string).take k) rfl ((R1.out.alloc (by omega) _).own) _ _ _ ([.string s]) rfl ?rq5 ?lq5 ?oq5 ?mq5 ?bq5 ?sq5 ?_))
        try (case rq5 => exact new_row (k := 1) w1 9 [.string s] 1 rfl (by decide))
        try (case lq5 => intro e; cases e)
        try (case oq5 => first | exact strs_one _ | exact fun u hu => strs_one l u (List.mem_of_mem_take hu) | exact fun u hu => strs_one l u (List.mem_of_mem_drop hu) | (simp [Value.oneCell']))
        try (case mq5 => unfold maxLen; omega)
        try (case bq5 => omega)
        try (case sq5 => first | omega | (simp; omega) | simp)
        intro v4 w4 ho4 hg4 _
        have R4 : Hid (Row 9 1 wz.heap.size wz w4 v4 (k + 1) ((l.map Value.string).take k ++ [.string s])) := Lib.hid ((R1.out.alloc (by omega) _).app (by simp; omega) ho4 hg4)
        have hs4 := R4.out.bel.size
        clear ho4 hg4 R1
        have hkn : (k : Int) ≤ (l.length : Int) := by omega
        have hkt : ((k : Int)).toNat = k := by omega
        by_cases hcq : c = k
        · have hnk := Lib.hid (show l.length - k = 0 by omega)
          go_wp2_with (at_builtin; (refine wpList_append_any rfl _ _ 36 rfl (wz.heap.size) 9 i0 _ 1 16 Tryz.underlying36 hi0 hz0 hz1 hz2 rfl (by decide) (v4) (k + 1) (_) rfl (R4.out.own) _ _ _ ((l.map Value.string).drop k) rfl ?rq6 ?lq6 ?oq6 ?mq6 ?bq6 ?sq6 ?_))
          try (case rq6 => (rw [List.drop_eq_nil_of_le (by simp; omega)]; exact ⟨(by simp [hnk.out]), fun h => absurd h (by have := hnk.out; omega)⟩))
          try (case lq6 => intro e; first | exact Hnil.out e | (have := Hnil.out e; omega) | (cases e; done))
          try (case oq6 => first | exact strs_one _ | exact fun u hu => strs_one l u (List.mem_of_mem_take hu) | exact fun u hu => strs_one l u (List.mem_of_mem_drop hu) | (simp [Value.oneCell']))
          try (case mq6 => unfold maxLen; omega)
          try (case bq6 => omega)
          try (case sq6 => first | omega | (simp; omega) | simp)
          intro v5 w5 ho5 hg5 _
          have R5 : Hid (Row 9 1 wz.heap.size wz w5 v5 (k + 1 + (l.length - k)) ((l.map Value.string).take k ++ [.string s] ++ (l.map Value.string).drop k)) := Lib.hid ⟨by first | exact ho5 | simpa using ho5 | (rw [show k + 1 + (l.length - k) = k + 1 by omega]; simpa using ho5), R4.out.bel.grown hg5 hs4 (fun b hb => (R4.out.own.lt b hb).1)⟩
          clear ho5 hg5
          have HF : Hid (SRd w5 v5 (l.take k ++ [s] ++ l.drop k)) := Lib.hid (by
            have e1 : (l.take k ++ [s] ++ l.drop k).length = k + 1 + (l.length - k) := by simp; omega
            have h := R5.out.own
            refine SRd.own (base := wz.heap.size) ?_ (by simp)
            rw [e1, List.map_append, List.map_append, List.map_take, List.map_drop]
            exact h)
          obtain ⟨A5, q5, e5, _⟩ := HF.out.ex
          subst e5
          go_wp2
          go_ret
          rw [HR.out]
          exact ⟨_, rfl, HF.out, HBz.out.trans (R5.out.bel.mono hwz)⟩
        · go_wp2_with (at_builtin; (refine wpList_append_any rfl _ _ 36 rfl (wz.heap.size) 9 i0 _ 1 16 Tryz.underlying36 hi0 hz0 hz1 hz2 rfl (by decide) (v4) (k + 1) (_) rfl (R4.out.own) _ _ _ ((l.map Value.string).drop k) rfl ?rq7 ?lq7 ?oq7 ?mq7 ?bq7 ?sq7 ?_))
          try (case rq7 => (have q := reads_cut (p := k) (MZ.out _ R4.out.bel) hkl hcap; rw [if_neg hcq, Nat.mul_one] at q; first | exact q | (simpa [add_lit] using q)))
          try (case lq7 => intro e; first | (cases e; done) | (have := Hnil.out e; omega) | (simp at e; done) | (simp at e; have := Hnil.out e; omega))
          try (case oq7 => first | exact strs_one _ | exact fun u hu => strs_one l u (List.mem_of_mem_take hu) | exact fun u hu => strs_one l u (List.mem_of_mem_drop hu) | (simp [Value.oneCell']))
          try (case mq7 => unfold maxLen; omega)
          try (case bq7 => omega)
          try (case sq7 => first | omega | (simp; omega) | simp)
          intro v5 w5 ho5 hg5 _
          have R5 : Hid (Row 9 1 wz.heap.size wz w5 v5 (k + 1 + (l.length - k)) ((l.map Value.string).take k ++ [.string s] ++ (l.map Value.string).drop k)) := Lib.hid ⟨by first | exact ho5 | simpa using ho5 | (rw [show k + 1 + (l.length - k) = k + 1 by omega]; simpa using ho5), R4.out.bel.grown hg5 hs4 (fun b hb => (R4.out.own.lt b hb).1)⟩
          clear ho5 hg5
          have HF : Hid (SRd w5 v5 (l.take k ++ [s] ++ l.drop k)) := Lib.hid (by
            have e1 : (l.take k ++ [s] ++ l.drop k).length = k + 1 + (l.length - k) := by simp; omega
            have h := R5.out.own
            refine SRd.own (base := wz.heap.size) ?_ (by simp)
            rw [e1, List.map_append, List.map_append, List.map_take, List.map_drop]
            exact h)
          obtain ⟨A5, q5, e5, _⟩ := HF.out.ex
          subst e5
          go_wp2
          go_ret
          rw [HR.out]
          exact ⟨_, rfl, HF.out, HBz.out.trans (R5.out.bel.mono hwz)⟩
end Go.Proofs.YtioekhiaoajgfaaGreat.Mx
