/- loggiaref10.Terms: the walk (printed by gen_evy.py). -/
import Derived.Test.YtioekhiaoajgfaaGreatEvXPk
import Derived.Test.YtioekhiaoajgfaaGreatPkMemidxForksRow26
import Derived.Test.YtioekhiaoajgfaaGreatPkMemidxForksRow21
namespace Go.Proofs.YtioekhiaoajgfaaGreat.Ev
open Go.RowKit Go.Proofs.YtioekhiaoajgfaaGreat Go.Proofs.YtioekhiaoajgfaaGreat.Ut Go.Proofs.YtioekhiaoajgfaaGreat.Tk Go.Proofs.YtioekhiaoajgfaaGreat.Qy Go.Proofs.YtioekhiaoajgfaaGreat.Qp Go.Proofs.YtioekhiaoajgfaaGreat.Rg
set_option maxRecDepth 20000
set_option linter.unusedVariables false
set_option linter.unusedSimpArgs false

/-- What the document's Terms hands back. -/
def RTermsPost (w : World) (l : List Tm) (e : Ending) (w' : World) : Prop := AddPost w l e w'
/-- On the way. -/
structure RT (w wr : World) (v : Value) (L : List T1) : Prop where
  ex : ∃ A n c O, v = .slice A n c ∧ O.map prj = addAll L ∧ TmO wr wr.heap.size A n c O
  bel : Below w.heap.size w wr
theorem RT.below {w wr w2 : World} {v : Value} {L : List T1} (h : RT w wr v L) (hb : Below wr.heap.size wr w2) : RT w w2 v L := by
  obtain ⟨A, n, c, O, e, h1, h2⟩ := h.ex
  exact ⟨⟨A, n, c, O, e, h1, h2.grow hb hb.size⟩, h.bel.trans (hb.mono h.bel.size)⟩
theorem RT.start {w wr : World} (hb : Below w.heap.size w wr) : RT w wr (.slice none 0 0) [] := ⟨⟨none, 0, 0, [], rfl, rfl, ⟨⟨rfl, fun h => absurd h (by omega)⟩, rfl, Nat.le_refl _, fun _ => rfl, fun x hx => (nomatch hx)⟩⟩, hb⟩

set_option maxHeartbeats 6400000 in
theorem rterms_any (t : Int) (F : Option Addr) (fn fc : Nat) (fs : List Fl) (w : World) (h : FlAt w w.heap.size F fn fc fs) (hok : chkE fs = 0) :
    Calls Tryz.prog 36 #[.agg #[.int .i64 t, .slice F fn fc]] w (RTermsPost w (addAll (raw fs))) := by
  have hB1 : Below w.heap.size w (w.alloc (.cells #[.int .i64 t, .slice F fn fc] 51)) := (Below.refl _ _).alloc (Nat.le_refl _) _
  have hX := Blk.new w 51 #[.int .i64 t, .slice F fn fc]
  have c1 := rcheck_any t F fn fc fs _ (h.grow hB1)
  rw [hok] at c1
  have C1 := Lib.hid c1
  have H := Lib.hid (And.intro hX hB1)
  have hk := chkE_ok hok
  have HFL := Lib.hid h
  have HOK := Lib.hid hk
  have hl1 : fs.length ≤ fn := by have := h.len; omega
  have hl2 : fn ≤ fs.length := by have := h.len; omega
  have hl3 : fn ≤ 16 := by omega
  have hcap := h.cap
  have HS : Hid (∀ f ∈ fs, f.2.size ≤ 4096) := Lib.hid (fun f hf => (hk.2 f hf).2.2)
  clear hX hB1 c1 h hk hok
  go_enter Tryz.func36, Tryz.ntmps36
  go_wp2_with fail
  refine C1.out.mono ?_
  rintro e W0 ⟨rfl, hb0⟩
  have HX : Hid (∀ wr, Below W0.heap.size W0 wr → Blk wr w.heap.size 51 #[.int .i64 t, .slice F fn fc] ∧ FlAt wr w.heap.size F fn fc fs) := Lib.hid (fun wr hb => ⟨(H.out.1.below hb0 H.out.1.lt).below hb (by have := H.out.1.lt; have := hb0.size; omega), HFL.out.keep (fun b o hp => ((H.out.2.trans (hb0.mono H.out.2.size)).trans (hb.mono (by have := H.out.2.size; have := hb0.size; omega))).cell (p := ⟨b, o, none⟩) hp)⟩)
  have hw0 : Hid (Below w.heap.size w W0) := Lib.hid (H.out.2.trans (hb0.mono H.out.2.size))
  clear hb0 H C1
  go_wp2_with fail
  go_loopw [3, 4, 5] (fun v b i wr => ∃ k : Nat, k ≤ fs.length ∧ i = .int .i64 (k : Nat) ∧ b = .int .i64 (baseAt fs k : Nat) ∧ Hid (RT W0 wr v (rawN fs k))) (fun _ _ i _ => fs.length - (intOf i).toNat)
  case atStart => exact ⟨0, Nat.zero_le _, rfl, by cases fs <;> rfl, Lib.hid (RT.start (Below.refl _ _))⟩
  case round =>
    obtain ⟨k, hk, rfl, rfl, hR⟩ := hrel
    have hX1 := HX.out wr hR.out.bel
    have d1 := hX1.1.cell 1
    simp only [List.getElem?_toArray, List.getElem?_cons_zero, List.getElem?_cons_succ] at d1
    have hwr : W0.heap.size ≤ wr.heap.size := hR.out.bel.size
    have hbx := hX1.1.lt
    by_cases hlt : k < fs.length
    · have hkz : (k : Int) < (fn : Int) := by omega
      have hk0 : (0 : Int) ≤ (k : Int) := by omega
      obtain ⟨fb, fo, rfl, hfb, cn, ct⟩ := hX1.2.at_ hlt
      have hok := HOK.out.2 _ (List.getElem_mem hlt)
      have hbs := baseAt_succ fs k hlt
      have hble := baseAt_le fs k HS.out
      have hrs := rawN_succ fs k hlt
      have hrl := rawN_len fs HS.out k (by omega)
      have HBS := Lib.hid hbs
      have HRS := Lib.hid hrs
      clear hX1 hbs hrs
      generalize hf : fs[k] = f at *
      have HF := Lib.hid hf
      clear hf
      obtain ⟨nm, tx⟩ := f
      simp only at hok cn ct HBS HRS
      obtain ⟨_, hn1, hn2⟩ := hok
      have hwl := words_len tx
      have c2 := tokens_ref tx wr (by omega)
      have C2 := Lib.hid c2
      have hbz : baseAt fs k ≤ 100000 := by omega
      clear c2 hble
      generalize baseAt fs k = base at *
      have HWW := Lib.hid (words_word tx.data.toList)
      go_wp2_with fail
      refine C2.out.mono ?_
      rintro e W1 ⟨v1, rfl, hown1, hb1⟩
      obtain ⟨A1, q1, rfl, hR1, hq1, hn1', _⟩ := own_shape2 hown1
      have HR1 : Hid (∀ wx, Below W1.heap.size W1 wx → Reads wx W1.heap.size 2 A1 (words tx.data.toList).length (tokC (placed (words tx.data.toList)))) := Lib.hid (fun wx hb => hR1.below hb)
      have HRT1 : Hid (RT W0 W1 _ (rawN fs k ++ (rawO (base, (nm, tx))).take 0)) := Lib.hid (by have := hR.out.below hb1; rw [List.take_zero, List.append_nil]; exact this)
      have hW1 : wr.heap.size ≤ W1.heap.size := hb1.size
      have HW0 : Hid (∀ wx, Below W1.heap.size W1 wx → Below W0.heap.size W0 wx) := Lib.hid (fun wx hb => (hR.out.bel.trans (hb1.mono hwr)).trans (hb.mono (by omega)))
      clear hown1 hR1 hn1' hb1 hR d1 cn ct C2
      go_wp2_with fail
      go_loopw [3, 7] (fun v j wr => ∃ m : Nat, m ≤ (words tx.data.toList).length ∧ j = .int .i64 (m : Nat) ∧ Hid (RT W0 wr v (rawN fs k ++ (rawO (base, (nm, tx))).take m)) ∧ Hid (Below W1.heap.size W1 wr)) (fun _ j _ => (words tx.data.toList).length - (intOf j).toNat)
      case atStart => exact ⟨0, Nat.zero_le _, rfl, HRT1, Lib.hid (Below.refl _ _)⟩
      case round =>
        clear HRT1
        obtain ⟨m, hm, rfl, hR, hB⟩ := hrel
        by_cases hlm : m < (words tx.data.toList).length
        · have hmz : (m : Int) < ((words tx.data.toList).length : Int) := by omega
          have hm0 : (0 : Int) ≤ (m : Int) := by omega
          obtain ⟨tb, tq, rfl, htb, t0, t1'⟩ := toks_at (HR1.out wr hB.out) rfl hlm
          have htk := rawO_take (base, (nm, tx)) m hlm
          have hwk := (HWW.out _ (List.getElem_mem hlm)).2
          have hcat := term_cat nm (words tx.data.toList)[m]
          have hsw : (str (words tx.data.toList)[m]).size ≤ 32 := by unfold str; simpa [ByteArray.size] using hwk
          have hts := termT_size nm (words tx.data.toList)[m]
          have hX2 := HX.out wr (HW0.out wr hB.out)
          have x1 := hX2.1.cell 1
          simp only [List.getElem?_toArray, List.getElem?_cons_zero, List.getElem?_cons_succ] at x1
          obtain ⟨fb2, fo2, eF, hfb2, cn2, _⟩ := hX2.2.at_ hlt
          injection eF with eF
          injection eF with eF1 eF2
          subst eF1 eF2
          obtain ⟨A, n, c, O, rfl, hO1, hO2⟩ := hR.out.ex
          have hfk : Hid (fs[k].1 = nm) := Lib.hid (by rw [HF.out])
          rw [hfk.out] at cn2
          have hbwr : w.heap.size < wr.heap.size := hX2.1.lt
          have hwB : W1.heap.size ≤ wr.heap.size := hB.out.size
          have hcells : ∀ wx, Below wr.heap.size wr wx → wx.cell? ⟨w.heap.size, 1, none⟩ = some (.slice (some ⟨fb, fo, none⟩) fn fc) ∧ wx.cell? ⟨fb, fo + k * 2, none⟩ = some (.string nm) ∧ wx.cell? ⟨tb, tq + m * 2, none⟩ = some (.string (str (words tx.data.toList)[m])) ∧ wx.cell? ⟨tb, tq + m * 2 + 1, none⟩ = some (.int .i64 (m : Int)) := fun wx hC =>
            ⟨(hC.cell (p := ⟨w.heap.size, 1, none⟩) hbwr).trans x1, (hC.cell (p := ⟨fb, fo + k * 2, none⟩) (by show fb < _; omega)).trans cn2, (hC.cell (p := ⟨tb, tq + m * 2, none⟩) (by show tb < _; omega)).trans t0, (hC.cell (p := ⟨tb, tq + m * 2 + 1, none⟩) (by show tb < _; omega)).trans t1'⟩
          have hnn : n ≤ 65535 := by
            have h1 := addAll_len (rawN fs k ++ (rawO (base, (nm, tx))).take m)
            have h2 := congrArg List.length hO1
            have h3 := hO2.ln
            rw [List.length_append, List.length_take] at h1
            rw [List.length_map] at h2
            omega
          have hpp : ∀ x ∈ O, x.2.2.length ≤ 65535 := fun x hx => by
            have h1 := addAll_pos (rawN fs k ++ (rawO (base, (nm, tx))).take m) (prj x) (by rw [← hO1]; exact List.mem_map_of_mem hx)
            rw [List.length_append, List.length_take] at h1
            have h2 : (prj x).2.length = x.2.2.length := rfl
            omega
          have Htk : Hid (∀ l, O.map prj = l → addT l (termT nm (words tx.data.toList)[m]) (base + m) = addAll (rawN fs k ++ (rawO (base, (nm, tx))).take (m + 1))) := Lib.hid (fun l e => by
            rw [htk, ← List.append_assoc, addAll_snoc, ← hO1, e])
          have Hcells := Lib.hid hcells
          have HPP := Lib.hid hpp
          have HO2 := Lib.hid hO2
          have HB := hR.out.bel
          have HRB := Lib.hid HB
          have HBB := Lib.hid hB.out
          have hTS : (termT nm (words tx.data.toList)[m]).size ≤ 1048576 := by omega
          generalize (words tx.data.toList)[m] = wk at *
          clear t0 t1' htk hwk hX2 hO1 hO2 hcells hpp hR HB cn2 hts
          have p1 : (nm ++ { data := #[58] } : ByteArray) ++ str wk = termT nm wk := hcat
          have p2 : IntKind.i64.wrap ((base : Int) + (m : Int)) = (base : Int) + (m : Int) := by rw [IntKind.wrap_i64]; omega
          have p3 : ¬ 9223372036854775807 < nm.size + 1 := by omega
          have p4 : ¬ 9223372036854775807 < nm.size + 1 + (str wk).size := by omega
          clear hcat
          go_upto_region 12 with (fail)
          clear x1
          refine wp_region_grow_tail 21 (specOf []) (fun wx => Below wr.heap.size wr wx) (fun w1 w2 => Below w1.heap.size w1 w2) (by kernel_rfl) (by kernel_rfl) (stab_nil) ((Below.refl _ _).drew) ?_
          simp only [List.take_succ_cons, List.take_zero, List.drop_succ_cons, List.drop_zero]
          refine grow_fix 1 ?_ rfl (by rfl) (by rfl) (fun wx hC hD => ?_) ?_
          rotate_left
          · have hSw := Hcells.out wx hC
            go_simp
            all_goals with_reducible rfl
          try simp only [Act.put, List.setIfInBounds_toArray, List.set_cons_zero, List.set_cons_succ]
          refine grow_fix 2 ?_ rfl (by rfl) (by rfl) (fun wx hC hD => ?_) ?_
          rotate_left
          · have hSw := Hcells.out wx hC
            go_simp
            all_goals with_reducible rfl
          try simp only [Act.put, List.setIfInBounds_toArray, List.set_cons_zero, List.set_cons_succ]
          refine grow_fix 3 ?_ rfl (by rfl) (by rfl) (fun wx hC hD => ?_) ?_
          rotate_left
          · have hSw := Hcells.out wx hC
            go_simp
            all_goals with_reducible rfl
          try simp only [Act.put, List.setIfInBounds_toArray, List.set_cons_zero, List.set_cons_succ]
          refine grow_fix 4 ?_ rfl (by rfl) (by rfl) (fun wx hC hD => ?_) ?_
          rotate_left
          · have hSw := Hcells.out wx hC
            go_simp
            all_goals with_reducible rfl
          try simp only [Act.put, List.setIfInBounds_toArray, List.set_cons_zero, List.set_cons_succ]
          refine grow_fix 5 ?_ rfl (by rfl) (by rfl) (fun wx hC hD => ?_) ?_
          rotate_left
          · have hSw := Hcells.out wx hC
            go_simp
            all_goals with_reducible rfl
          try simp only [Act.put, List.setIfInBounds_toArray, List.set_cons_zero, List.set_cons_succ]
          refine grow_fix 6 ?_ rfl (by rfl) (by rfl) (fun wx hC hD => ?_) ?_
          rotate_left
          · have hSw := Hcells.out wx hC
            go_simp
            all_goals with_reducible rfl
          try simp only [Act.put, List.setIfInBounds_toArray, List.set_cons_zero, List.set_cons_succ]
          refine grow_fix 7 ?_ rfl (by rfl) (by rfl) (fun wx hC hD => ?_) ?_
          rotate_left
          · have hSw := Hcells.out wx hC
            go_simp
            all_goals with_reducible rfl
          try simp only [Act.put, List.setIfInBounds_toArray, List.set_cons_zero, List.set_cons_succ]
          refine grow_fix 8 ?_ rfl (by rfl) (by rfl) (fun wx hC hD => ?_) ?_
          rotate_left
          · have hSw := Hcells.out wx hC
            go_simp
            all_goals with_reducible rfl
          try simp only [Act.put, List.setIfInBounds_toArray, List.set_cons_zero, List.set_cons_succ]
          refine grow_fix 9 ?_ rfl (by rfl) (by rfl) (fun wx hC hD => ?_) ?_
          rotate_left
          · have hSw := Hcells.out wx hC
            go_simp
            all_goals with_reducible rfl
          try simp only [Act.put, List.setIfInBounds_toArray, List.set_cons_zero, List.set_cons_succ]
          refine grow_fix 10 ?_ rfl (by rfl) (by rfl) (fun wx hC hD => ?_) ?_
          rotate_left
          · have hSw := Hcells.out wx hC
            go_simp
            all_goals with_reducible rfl
          try simp only [Act.put, List.setIfInBounds_toArray, List.set_cons_zero, List.set_cons_succ]
          refine grow_fix 11 ?_ rfl (by rfl) (by rfl) (fun wx hC hD => ?_) ?_
          rotate_left
          · have hSw := Hcells.out wx hC
            go_simp
            all_goals with_reducible rfl
          try simp only [Act.put, List.setIfInBounds_toArray, List.set_cons_zero, List.set_cons_succ]
          refine grow_fix 12 ?_ rfl (by rfl) (by rfl) (fun wx hC hD => ?_) ?_
          rotate_left
          · have hSw := Hcells.out wx hC
            go_simp
            all_goals with_reducible rfl
          try simp only [Act.put, List.setIfInBounds_toArray, List.set_cons_zero, List.set_cons_succ]
          refine grow_fix 13 ?_ rfl (by rfl) (by rfl) (fun wx hC hD => ?_) ?_
          rotate_left
          · have hSw := Hcells.out wx hC
            go_simp
            all_goals with_reducible rfl
          try simp only [Act.put, List.setIfInBounds_toArray, List.set_cons_zero, List.set_cons_succ]
          refine grow_fix 14 ?_ rfl (by rfl) (by rfl) (fun wx hC hD => ?_) ?_
          rotate_left
          · have hSw := Hcells.out wx hC
            go_simp
            all_goals with_reducible rfl
          try simp only [Act.put, List.setIfInBounds_toArray, List.set_cons_zero, List.set_cons_succ]
          refine grow_fix 15 ?_ rfl (by rfl) (by rfl) (fun wx hC hD => ?_) ?_
          rotate_left
          · have hSw := Hcells.out wx hC
            go_simp
            all_goals with_reducible rfl
          try simp only [Act.put, List.setIfInBounds_toArray, List.set_cons_zero, List.set_cons_succ]
          refine grow_fix 16 ?_ rfl (by rfl) (by rfl) (fun wx hC hD => ?_) ?_
          rotate_left
          · have hSw := Hcells.out wx hC
            go_simp
            all_goals with_reducible rfl
          try simp only [Act.put, List.setIfInBounds_toArray, List.set_cons_zero, List.set_cons_succ]
          refine grow_fix 17 ?_ rfl (by rfl) (by rfl) (fun wx hC hD => ?_) ?_
          rotate_left
          · have hSw := Hcells.out wx hC
            go_simp
            all_goals with_reducible rfl
          try simp only [Act.put, List.setIfInBounds_toArray, List.set_cons_zero, List.set_cons_succ]
          refine grow_fix 18 ?_ rfl (by rfl) (by rfl) (fun wx hC hD => ?_) ?_
          rotate_left
          · have hSw := Hcells.out wx hC
            go_simp
            all_goals with_reducible rfl
          try simp only [Act.put, List.setIfInBounds_toArray, List.set_cons_zero, List.set_cons_succ]
          refine grow_fix 19 ?_ rfl (by rfl) (by rfl) (fun wx hC hD => ?_) ?_
          rotate_left
          · have hSw := Hcells.out wx hC
            go_simp
            all_goals with_reducible rfl
          try simp only [Act.put, List.setIfInBounds_toArray, List.set_cons_zero, List.set_cons_succ]
          refine grow_fix 20 ?_ rfl (by rfl) (by rfl) (fun wx hC hD => ?_) ?_
          rotate_left
          · have hSw := Hcells.out wx hC
            go_simp
            all_goals with_reducible rfl
          try simp only [Act.put, List.setIfInBounds_toArray, List.set_cons_zero, List.set_cons_succ]
          refine grow_fix 21 ?_ rfl (by rfl) (by rfl) (fun wx hC hD => ?_) ?_
          rotate_left
          · have hSw := Hcells.out wx hC
            go_simp
            all_goals with_reducible rfl
          try simp only [Act.put, List.setIfInBounds_toArray, List.set_cons_zero, List.set_cons_succ]
          refine grow_nil (fun w6 hC hF => ?_)
          clear p1 p2 p3 p4
          have HC := Lib.hid hC
          have hC6 := hC.size
          clear hC hF
          go_wp2_with fail
          rw [← Int.natCast_add base m]
          refine (add_any A n c O _ (base + m) w6 (HO2.out.grow HC.out HC.out.size) (by omega) hTS HPP.out).mono ?_
          rintro e w7 ⟨A', n', c', O', rfl, hO', hT', hb7⟩
          have Nx : Hid (RT W0 w7 (.slice A' n' c') (rawN fs k ++ (rawO (base, (nm, tx))).take (m + 1)) ∧ Below W1.heap.size W1 w7) := Lib.hid ⟨⟨⟨A', n', c', O', rfl, by rw [hO']; exact Htk.out _ rfl, hT'⟩, (HRB.out.trans (HC.out.mono HRB.out.size)).trans (hb7.mono (by have := HRB.out.size; omega))⟩, (HBB.out.trans (HC.out.mono hwB)).trans (hb7.mono (by omega))⟩
          clear hO' hT' hb7 HC HRB HO2 HPP Htk Hcells HBB
          go_wp2
          go_roundw
          case rel => exact ⟨m + 1, by omega, by go_num, Lib.hid Nx.out.1, Lib.hid Nx.out.2⟩
          case measure => simp [intOf]; omega
        · obtain rfl : m = (words tx.data.toList).length := by omega
          have Nx : Hid (RT W0 wr _ (rawN fs (k + 1))) := Lib.hid (by
            have := hR.out
            rw [List.take_of_length_le (by rw [rawO_len]; exact Nat.le_refl _), ← HRS.out] at this
            exact this)
          clear hR hB
          go_wp2
          go_roundw
          case rel => exact ⟨k + 1, by omega, by go_num, by rw [HBS.out]; go_num, Nx⟩
          case measure => simp [intOf]; omega
    · obtain rfl : k = fs.length := by omega
      have hkz : ¬ (fs.length : Int) < (fn : Int) := by omega
      rw [rawN_all] at hR
      obtain ⟨A, n, c, O, rfl, h1, h2⟩ := hR.out.ex
      have Fin : Hid (RTermsPost w (addAll (raw fs)) (.returned (.slice A n c)) wr) := Lib.hid ⟨A, n, c, O, rfl, h1, h2, hw0.out.trans (hR.out.bel.mono hw0.out.size)⟩
      clear h1 h2
      clear hR hX1
      go_wp2
      go_ret
      exact Fin.out
end Go.Proofs.YtioekhiaoajgfaaGreat.Ev
