/- group.Merge: the walk. -/
import Derived.Deep.RegionHeld3
import Derived.BigRegion
import Derived.Test.YtfegkchajkpgfaaPkGroupMergesRow1
import Derived.Test.YtfegkchajkpgfaaPkGroupRowsRow34
import Derived.Test.YtfegkchajkpgfaaGrEPk
import Derived.Test.YtfegkchajkpgfaaGrFPk
import Derived.Test.YtfegkchajkpgfaaPkGroupRowsRow37
import Derived.Test.YtfegkchajkpgfaaPkGroupRowsRow16
import Derived.Test.YtfegkchajkpgfaaGrBPk
section
namespace Go.Proofs.Ytfegkchajkpgfaa.Gr
open Go.RowKit Go.Proofs.Ytfegkchajkpgfaa Go.Proofs.Ytfegkchajkpgfaa.Ut Go.Proofs.Ytfegkchajkpgfaa.Tk Go.Sort Go.Shelf Go.Lib Go.Maps
set_option maxRecDepth 20000
set_option linter.unusedSimpArgs false
set_option linter.unusedVariables false

theorem i64_wf (x : Int) (h0 : 0 ≤ x) (h1 : x ≤ 1099511627776) : (Lit.int .i64 x).wf = true := by
  simp [Lit.wf, IntKind.min, IntKind.max, IntKind.bits, IntKind.signed]
  omega
theorem TabM.keep {w w' : World} {b n : Nat} {f : Tb} {row : Option Nat} (h : TabM w b n f) (hg : w.grownBy w' row) (hne : some b ≠ row) : TabM w' b n f := by
  obtain ⟨D, h1, h2⟩ := h
  exact ⟨D, h1.kept hg hne, h2⟩

set_option maxHeartbeats 6400000 in
theorem merge_any (A : Option Addr) (c : Nat) (rs : List Rw) (w : World) (h : RowsIn w w.heap.size A rs) (hl : rs.length ≤ 100) (htot : lensF rs ≤ 1048576) (hs : ∀ r ∈ rs, ∀ x ∈ r.l, x.1.size ≤ 140737488351232) :
    Calls Try.prog 37 #[.slice A rs.length c] w (RowPost w (outM rs).1 (outM rs).2) := by
  have hmm := @run_makeMap Try.prog
  have H := Lib.hid h
  have Hs := Lib.hid hs
  have Hle := Lib.hid (lensF_le rs)
  clear h hs
  go_enter Try.func37, Try.ntmps37
  go_wp2_with fail
  go_loopw [12] (fun i wr => ∃ k : Nat, k ≤ rs.length ∧ i = .int .i64 (k : Nat) ∧ Hid (Below w.heap.size w wr) ∧ Hid (∀ j (hj : j < rs.length), j < k → okR rs[j].l = true)) (fun i _ => rs.length - (intOf i).toNat)
  case atStart => exact ⟨0, Nat.zero_le _, rfl, Lib.hid (Below.refl _ _), Lib.hid (fun j _ h => by omega)⟩
  case round =>
    obtain ⟨k, hk, rfl, hb, hF⟩ := hrel
    by_cases hlt : k < rs.length
    · obtain ⟨bb, o, rfl, hbb, d1⟩ := rows_at H.out.rd hlt
      have d2 := (hb.out.cell (p := ⟨bb, o + k, none⟩) hbb).trans d1
      have hki : (k : Int) < (rs.length : Int) := by omega
      have hin := (H.out.row _ (List.getElem_mem hlt)).1
      have hle1 := Hle.out (k + 1)
      rw [lensF_take rs k hlt] at hle1
      have c1 := check_any rs[k].A rs[k].l.length rs[k].c rs[k].l wr ((hin.below hb.out).more hb.out.size) (by omega) (Hs.out _ (List.getElem_mem hlt))
      have Bad := Lib.hid (outM_bad hlt)
      have Nxt : Hid (okR rs[k].l = true → ∀ j (hj : j < rs.length), j < k + 1 → okR rs[j].l = true) := Lib.hid (fun hf j hj h => by
        by_cases e : j = k
        · subst e; exact hf
        · exact hF.out j hj (by omega))
      clear d1 hin hF hle1
      generalize rs[k] = r at *
      obtain ⟨ra, rc, rl⟩ := r
      simp only at d2 c1 Bad Nxt
      cases hf : okR rl with
      | true =>
        rw [errR_yes hf] at c1
        have N := Lib.hid (Nxt.out hf)
        clear hf Nxt Bad
        go_wp2_with fail
        refine c1.mono ?_
        rintro e w1 ⟨rfl, hb1⟩
        have Hb1 := Lib.hid (hb.out.trans (hb1.mono hb.out.size))
        clear hb1 c1
        go_wp2
        go_roundw
        case rel => exact ⟨k + 1, by omega, by go_num, Hb1, N⟩
        case measure => simp [intOf]; omega
      | false =>
        rw [errR_no hf] at c1
        have F := Lib.hid (Bad.out hf)
        clear hf Nxt Bad
        go_wp2_with fail
        refine c1.mono ?_
        rintro e w1 ⟨rfl, hb1⟩
        have Hb1 := Lib.hid (hb.out.trans (hb1.mono hb.out.size))
        clear hb1 c1
        go_wp2
        go_ret2
        exact ⟨none, 0, by rw [F.out]; rfl, by rw [F.out]; exact ⟨rfl, fun h => absurd h (by decide)⟩, Hb1.out⟩
    · have FA : Hid (∀ j (hj : j < rs.length), okR rs[j].l = true) := Lib.hid (fun j hj => hF.out j hj (by omega))
      have One := Lib.hid (flat_ok FA.out)
      have N5 := Lib.hid (outM_tabN FA.out)
      have S5 := Lib.hid (fun f l => outM_tab (f := f) (l := l) FA.out)
      have hfl := flatF_len rs
      obtain ⟨wo, hwo⟩ : ∃ wo, wo = wr := ⟨_, rfl⟩
      subst hwo
      have hbA : Below wo.heap.size wo (wo.alloc (.map #[] 0)) := (Below.refl _ _).alloc (Nat.le_refl _) _
      have hm1 := World.ownsMap_made wo Try.prog 9 (plainElem (H := Unit) Try.prog 3)
      have c2 := concat_any A c rs (wo.alloc (.map #[] 0)) (((H.out.below hb.out).more hb.out.size).grow hbA) hl (by omega)
      have Hm1 := Lib.hid hm1
      have HbA := Lib.hid (hb.out.trans (hbA.mono hb.out.size))
      have hzo := hb.out.size
      have hzA : (wo.alloc (.map #[] 0)).heap.size = wo.heap.size + 1 := by simp
      clear hF FA hbA hm1
      go_wp2_with fail
      refine c2.mono ?_
      rintro e w2 ⟨v2, rfl, hv2⟩
      rw [hzA] at hv2
      have Hm2 := Lib.hid (Hm1.out.kept (grow_of_below (by rw [hzA]; exact hv2.bel) none) (by simp))
      have Hb2 := Lib.hid (HbA.out.trans (hv2.bel.mono (by omega)))
      have HO2 := Lib.hid hv2.own
      have hsz2 := hv2.bel.size
      obtain ⟨A2, c2', e2, _⟩ := own_shape hv2.own
      subst e2
      clear c2 hv2 Hm1 HbA
      generalize flatF rs = fl at *
      have hfl6 : fl.length ≤ 1048576 := by omega
      generalize hM : wo.heap.size = M at *
      go_wp2_with fail
      go_loopw [26] (fun i wr => ∃ (k : Nat) (f : Tb), k ≤ fl.length ∧ i = .int .i64 (k : Nat) ∧ Hid (mrgT (fl.take k) noT = some f ∧ TabOk f) ∧ Hid (TabM wr M k f) ∧ Hid (wr.ownsRow (M + 1) 81 2 (.slice A2 fl.length c2') fl.length (ctC fl)) ∧ Hid (Below w.heap.size w wr)) (fun i _ => fl.length - (intOf i).toNat)
      case atStart => exact ⟨0, noT, Nat.zero_le _, rfl, Lib.hid ⟨rfl, TabOk.none⟩, Lib.hid ⟨_, Hm2.out, TabD.none⟩, HO2, Hb2⟩
      case round =>
        obtain ⟨k, f, hk, rfl, hf, hT, hO, hB⟩ := hrel
        by_cases hlt2 : k < fl.length
        · obtain ⟨A3, c3, e3, hR3⟩ := own_shape hO.out
          injection e3 with e3 _ e4
          subst e3 e4
          have hki : (k : Int) < (fl.length : Int) := by omega
          obtain ⟨tb, tq, rfl, htb, g1, g2⟩ := cts_at hR3 hlt2
          obtain ⟨⟨p1, p2⟩, p3⟩ := One.out _ (List.getElem_mem hlt2)
          have Gt := Lib.hid (fun h => mrgT_go k hlt2 hf.out.1 h)
          have Nt := Lib.hid (fun h => N5.out (mrgT_no k hlt2 hf.out.1 h))
          have Ok := Lib.hid (fun (ht : tooT f fl[k].1 fl[k].2 = false) => hf.out.2.add ⟨p1, p2⟩ ht)
          have hti := tooT_iff (f := f) (s := fl[k].1) p2
          have hgt := hf.out.2.get fl[k].1
          have hkey := keyW (s := fl[k].1) (by unfold maxLen; omega)
          generalize fl[k].1 = s at *
          generalize fl[k].2 = n at *
          obtain ⟨D, hD, hTD⟩ := hT.out
          obtain ⟨g, hg⟩ : ∃ g : Int, g = (f s).getD 0 := ⟨_, rfl⟩
          rw [← hg] at hti hgt
          have hw0 : IntKind.i64.wrap (1099511627776 - n) = 1099511627776 - n := IntWalk.i64_in _ (by omega)
          have hw1 : IntKind.i64.wrap (g + n) = g + n := IntWalk.i64_in _ (by omega)
          have HTD := Lib.hid hTD
          have Hg := Lib.hid hg
          have hlo := fun u (e : some u = Value.ownBlock (.slice (some ⟨tb, tq, none⟩) fl.length c2')) => (hO.out.lt u e.symm).1
          have Hlo := Lib.hid hlo
          have hMlt := hD.lt
          have htbM : tb ≠ M := fun e => by have := hlo tb rfl; omega
          have hDA := hD.alloc (.cells #[.string s, .int .i64 n] 81)
          have HOA := Lib.hid (hO.out.alloc (.cells #[.string s, .int .i64 n] 81))
          have hbB := hB.out.alloc hB.out.size (.cells #[.string s, .int .i64 n] 81)
          have HBA := Lib.hid hbB
          have hszB := hB.out.size
          have hBk := Blk.new wr 81 #[.string s, .int .i64 n]
          have y0 := hBk.cell 0
          have y1 := hBk.cell 1
          simp only [List.getElem?_toArray, List.getElem?_cons_zero, List.getElem?_cons_succ] at y0 y1
          clear hT hTD hD hR3 hO hbB hBk hg hlo
          cases ht : tooT f s n with
          | true =>
            rw [ht] at hti
            have hbig : 1099511627776 - n < g := of_decide_eq_true hti.symm
            have F := Lib.hid (Nt.out ht)
            clear hti ht Gt Nt Ok
            go_wp2_with (first
              | (at_lookup; refine wpList_lookup_own_int _ rfl _ _ 127 rfl 9 3 .i64 lawS Try.underlying127 Try.underlying3 (Try.zeroValue3 _) M _ D rfl hDA _ _ rfl hkey ?_; intro cc hat hwc; have hcc := HTD.out.at_ hat; rw [← Hg.out] at hcc; have hc2 := hcc.symm; subst hc2; clear hat hwc)
              | go_in)
            go_ret2
            exact ⟨none, 0, by rw [F.out]; rfl, by rw [F.out]; exact ⟨rfl, fun h => absurd h (by decide)⟩, HBA.out⟩
          | false =>
            rw [ht] at hti
            have hbig : ¬ 1099511627776 - n < g := of_decide_eq_false hti.symm
            have hwf := i64_wf (g + n) (by omega) (by omega)
            have Gt2 := Lib.hid (Gt.out ht)
            have Ok2 := Lib.hid (Ok.out ht)
            have hnlt : k < maxLen := by unfold maxLen; omega
            clear hti ht Gt Nt Ok
            go_wp2_with (first
              | (at_lookup; refine wpList_lookup_own_int _ rfl _ _ 127 rfl 9 3 .i64 lawS Try.underlying127 Try.underlying3 (Try.zeroValue3 _) M _ D rfl hDA _ _ rfl hkey ?_; intro cc hat hwc; have hcc := HTD.out.at_ hat; rw [← Hg.out] at hcc; have hc2 := hcc.symm; subst hc2; clear hat hwc)
              | (at_mapUpdate; refine wpList_mapUpdate_own _ rfl _ _ _ 127 rfl 9 3 lawS Try.underlying127 _ M _ _ rfl hDA hnlt _ _ _ rfl rfl hkey _ [] (plainElem_int Try.underlying3 hwf) ?_; intro w8 hD8 hg8; go_frame)
              | go_in)
            have hT8 := HTD.out.put hDA.isMap s (g + n)
            have HT8 : Hid (TabM w8 M (k + 1) (addT f s n)) := Lib.hid ⟨_, hD8, by
              have : addT f s n = putT f s (g + n) := by unfold addT; rw [← Hg.out]
              rw [this]
              exact hT8⟩
            have HO8 := Lib.hid (HOA.out.kept hg8 (by
              cases hv : Value.ownBlock (.slice (some ⟨tb, tq, none⟩) fl.length c2') with
              | none => exact .inl rfl
              | some u => exact .inr (fun e => by injection e with e; have := Hlo.out u hv.symm; omega)))
            have HB8 := Lib.hid (HBA.out.grown hg8 HBA.out.size (fun j e => by injection e with e; omega))
            have hz8 := hg8.size
            clear hT8 hD8 hg8 hDA
            go_wp2
            go_roundw
            case rel => exact ⟨k + 1, _, by omega, by go_num, Lib.hid ⟨Gt2.out, Ok2.out⟩, HT8, HO8, HB8⟩
            case measure => simp [intOf]; omega
        · have hkl : k = fl.length := by omega
          have hall : fl.take k = fl := List.take_of_length_le (by omega)
          have hf1 := hf.out.1
          rw [hall] at hf1
          have c9 := row_any M k f wr hT.out (by omega)
          have Hf1 := Lib.hid hf1
          clear hall hf1
          go_wp2_with fail
          refine c9.mono ?_
          rintro e w9 ⟨l, hTab, hll, v, rfl, hown, hb9⟩
          have F := Lib.hid (S5.out f l Hf1.out hTab)
          obtain ⟨A9, c9', rfl, hR9⟩ := own_shape hown
          have HR9 := Lib.hid hR9
          have HB9 := Lib.hid (hB.out.trans (hb9.mono hB.out.size))
          clear c9 hTab hown hb9 hR9
          go_wp2
          go_ret2
          exact ⟨A9, c9', by rw [F.out]; rfl, by rw [F.out]; exact HR9.out, HB9.out⟩
end Go.Proofs.Ytfegkchajkpgfaa.Gr
end

section
/- loggiaref30.Merge: the walk. -/
namespace Go.Proofs.Ytfegkchajkpgfaa.Gr
open Go.RowKit Go.Proofs.Ytfegkchajkpgfaa Go.Proofs.Ytfegkchajkpgfaa.Ut Go.Proofs.Ytfegkchajkpgfaa.Tk Go.Sort Go.Shelf Go.Lib
set_option maxRecDepth 20000
set_option linter.unusedSimpArgs false
set_option linter.unusedVariables false

/-- A row in memory, nil or not. -/
def SlC (w : World) (v : Value) (m : List Ct) : Prop := ∃ A c, v = .slice A m.length c ∧ Reads w w.heap.size 2 A m.length (ctC m) ∧ m.length ≤ c ∧ (A = none → c = 0)
theorem SlC.grow {w w' : World} {v : Value} {m : List Ct} (h : SlC w v m) (hb : Below w.heap.size w w') : SlC w' v m := by
  obtain ⟨A, c, e, h1, h2⟩ := h
  exact ⟨A, c, e, rd_grow hb h1, h2⟩
theorem SlC.nil (w : World) : SlC w (.slice none 0 0) [] := ⟨none, 0, rfl, ⟨rfl, fun h => absurd h (by decide)⟩, Nat.le_refl _, fun _ => rfl⟩
theorem SlC.of_own {w : World} {B : Nat} {ty : TypeId} {v : Value} {m : List Ct} (h : w.ownsRow B ty 2 v m.length (ctC m)) : SlC w v m := by
  obtain ⟨A, c, e, h1, h2, _, h3, _⟩ := own_shp h
  exact ⟨A, c, e, h1, h2, fun e => (h3 e).1⟩

set_option maxHeartbeats 12800000 in
theorem rmerge_any (A : Option Addr) (c : Nat) (rs : List Rw) (w : World) (h : RowsIn w w.heap.size A rs) (hl : rs.length ≤ 100) (htot : lensF rs ≤ 1048575) (hs : ∀ r ∈ rs, ∀ x ∈ r.l, x.1.size ≤ 1048576) :
    Calls Try.prog 38 #[.slice A rs.length c] w (RowPost w (outM rs).1 (outM rs).2) := by
  have H := Lib.hid h
  have Hs := Lib.hid hs
  have Hle := Lib.hid (lensF_le rs)
  clear h hs
  go_enter Try.func38, Try.ntmps38
  go_wp2_with fail
  go_loopw [4] (fun i wr => ∃ k : Nat, k ≤ rs.length ∧ i = .int .i64 (k : Nat) ∧ Hid (Below w.heap.size w wr) ∧ Hid (∀ j (hj : j < rs.length), j < k → okR rs[j].l = true)) (fun i _ => rs.length - (intOf i).toNat)
  case atStart => exact ⟨0, Nat.zero_le _, rfl, Lib.hid (Below.refl _ _), Lib.hid (fun j _ h => by omega)⟩
  case round =>
    obtain ⟨k, hk, rfl, hb, hF⟩ := hrel
    by_cases hlt : k < rs.length
    · obtain ⟨bb, o, rfl, hbb, d1⟩ := rows_at H.out.rd hlt
      have d2 := (hb.out.cell (p := ⟨bb, o + k, none⟩) hbb).trans d1
      have hki : (k : Int) < (rs.length : Int) := by omega
      have hin := (H.out.row _ (List.getElem_mem hlt)).1
      have hle1 := Hle.out (k + 1)
      rw [lensF_take rs k hlt] at hle1
      have c1 := is_any rs[k].A rs[k].l.length rs[k].c rs[k].l wr ((hin.below hb.out).more hb.out.size) (by omega) (Hs.out _ (List.getElem_mem hlt))
      have Bad := Lib.hid (outM_bad hlt)
      have Nxt : Hid (okR rs[k].l = true → ∀ j (hj : j < rs.length), j < k + 1 → okR rs[j].l = true) := Lib.hid (fun hf j hj h => by
        by_cases e : j = k
        · subst e; exact hf
        · exact hF.out j hj (by omega))
      clear d1 hin hF hle1
      generalize rs[k] = r at *
      obtain ⟨ra, rc, rl⟩ := r
      simp only at d2 c1 Bad Nxt
      cases hf : okR rl with
      | true =>
        rw [hf] at c1
        have N := Lib.hid (Nxt.out hf)
        clear hf Nxt Bad
        go_wp2_with fail
        refine c1.mono ?_
        rintro e w1 ⟨rfl, hb1⟩
        have Hb1 := Lib.hid (hb.out.trans (hb1.mono hb.out.size))
        clear hb1 c1
        go_wp2
        go_roundw
        case rel => exact ⟨k + 1, by omega, by go_num, Hb1, N⟩
        case measure => simp [intOf]; omega
      | false =>
        rw [hf] at c1
        have F := Lib.hid (Bad.out hf)
        clear hf Nxt Bad
        go_wp2_with fail
        refine c1.mono ?_
        rintro e w1 ⟨rfl, hb1⟩
        have Hb1 := Lib.hid (hb.out.trans (hb1.mono hb.out.size))
        clear hb1 c1
        go_wp2
        go_ret2
        exact ⟨none, 0, by rw [F.out]; rfl, by rw [F.out]; exact ⟨rfl, fun h => absurd h (by decide)⟩, Hb1.out⟩
    · have FA : Hid (∀ j (hj : j < rs.length), okR rs[j].l = true) := Lib.hid (fun j hj => hF.out j hj (by omega))
      have One := Lib.hid (flat_ok FA.out)
      have N5 := Lib.hid (outM_none FA.out)
      have S5 := Lib.hid (fun m => outM_some (m := m) FA.out)
      obtain ⟨wo, hwo⟩ : ∃ wo, wo = wr := ⟨_, rfl⟩
      subst hwo
      clear hF FA
      go_wp2_with fail
      go_loopw [5, 6] (fun v i wx => ∃ (j : Nat) (m : List Ct), j ≤ rs.length ∧ i = .int .i64 (j : Nat) ∧ Hid (Below w.heap.size w wx) ∧ Hid (SlC wx v m) ∧ Hid (mrgR (flatF (rs.take j)) [] = some m ∧ SmallC m) ∧ m.length ≤ lensF (rs.take j)) (fun _ i _ => rs.length - (intOf i).toNat)
      case atStart => exact ⟨0, [], Nat.zero_le _, rfl, hb, Lib.hid (SlC.nil _), Lib.hid ⟨rfl, fun y hy => (nomatch hy)⟩, Nat.le_refl _⟩
      case round =>
        obtain ⟨j, m0, hj, rfl, hbx, hV, hP, hll⟩ := hrel
        by_cases hjl : j < rs.length
        · obtain ⟨bb, o, rfl, hbb, d1⟩ := rows_at H.out.rd hjl
          have HIN := Lib.hid (H.out.row _ (List.getElem_mem hjl)).1
          have Split := Lib.hid (flatF_split rs j hjl)
          have Tk := Lib.hid (flatF_take rs j hjl)
          have hle2 := Hle.out (j + 1)
          have hlT := lensF_take rs j hjl
          have hji : (j : Int) < (rs.length : Int) := by omega
          have HlT := Lib.hid hlT
          rw [hlT] at hle2
          clear hlT
          generalize rs[j] = r at *
          obtain ⟨ra, rc, rl⟩ := r
          simp only at d1 Split Tk HIN hle2 HlT
          generalize flatF (rs.drop (j + 1)) = post at *
          generalize flatF (rs.take j) = pre at *
          generalize lensF (rs.take j) = lj at *
          obtain ⟨wp, hwp⟩ : ∃ wp, wp = wr := ⟨_, rfl⟩
          subst hwp
          have d1p := (hbx.out.cell (p := ⟨bb, o + j, none⟩) hbb).trans d1
          go_wp2_with fail
          go_loopw [5, 7] (fun v i wy => ∃ (q : Nat) (m : List Ct), q ≤ rl.length ∧ i = .int .i64 (q : Nat) ∧ Hid (Below w.heap.size w wy) ∧ Hid (SlC wy v m) ∧ Hid (mrgR (pre ++ rl.take q) [] = some m ∧ SmallC m) ∧ m.length ≤ lj + q) (fun _ i _ => rl.length - (intOf i).toNat)
          case atStart => exact ⟨0, m0, Nat.zero_le _, rfl, hbx, hV, Lib.hid ⟨by rw [List.take_zero, List.append_nil]; exact hP.out.1, hP.out.2⟩, hll⟩
          case round =>
            obtain ⟨q, m, hq, rfl, hby, hW, hQ, hml⟩ := hrel
            have d2 := (hby.out.cell (p := ⟨bb, o + j, none⟩) hbb).trans d1
            by_cases hql : q < rl.length
            · obtain ⟨cb, co, rfl, hcb, hc1, hc2⟩ := cts_at HIN.out hql
              have d3 := (hby.out.cell (p := ⟨cb, co + q * 2, none⟩) hcb).trans hc1
              have d4 := (hby.out.cell (p := ⟨cb, co + q * 2 + 1, none⟩) hcb).trans hc2
              have hqi : (q : Int) < (rl.length : Int) := by omega
              have Go1 := Lib.hid (fun h => mrgR_go (pre := pre) q hql hQ.out.1 h)
              have No1 := Lib.hid (fun h => mrgR_no (pre := pre) post q hql hQ.out.1 h)
              have hmem : rl[q] ∈ flatF rs := by rw [Split.out]; exact List.mem_append_left _ (List.mem_append_right _ (List.getElem_mem hql))
              obtain ⟨⟨p1, p2⟩, p3⟩ := One.out _ hmem
              obtain ⟨VA, vc, rfl, hVR, hvc, hvn⟩ := hW.out
              have hdr : Below wr.heap.size wr wr.drew := (Below.refl _ _).drew
              have c2 := with_any VA m.length vc m rl[q].1 rl[q].2 wr.drew (rd_grow hdr hVR) (by omega) hvc hvn hQ.out.2 (by omega) (by omega)
              have Lx := withR_len m rl[q].1 rl[q].2
              have Sx := Lib.hid (withR_small (n := rl[q].2) hQ.out.2 (show rl[q].1.size ≤ 140737488351232 by omega) (by omega))
              unfold WithPost at c2
              clear hc1 hc2 hmem hVR hvn hW hQ d1 d1p
              generalize rl[q].1 = x at *
              generalize rl[q].2 = y at *
              have hbbw : bb < wr.heap.size := Nat.lt_of_lt_of_le hbb hby.out.size
              have hcbw : cb < wr.heap.size := Nat.lt_of_lt_of_le hcb hby.out.size
              cases hok : (withR m x y).2
              · have F := Lib.hid (N5.out (by rw [Split.out]; exact No1.out hok))
                rw [hok] at c2
                clear Go1 No1 N5 S5 Sx Lx Split One
                go_wp2
                go_region_held3 (fun w' => w'.cell? ⟨bb, o + j, none⟩ = some (.slice (some ⟨cb, co, none⟩) rl.length rc) ∧ w'.cell? ⟨cb, co + q * 2, none⟩ = some (.string x) ∧ w'.cell? ⟨cb, co + q * 2 + 1, none⟩ = some (.int .i64 y)) (first | go_keep | exact ⟨(hv3.bel.cell (p := ⟨bb, o + j, none⟩) hbbw).trans d2, (hv3.bel.cell (p := ⟨cb, co + q * 2, none⟩) hcbw).trans d3, (hv3.bel.cell (p := ⟨cb, co + q * 2 + 1, none⟩) hcbw).trans d4⟩) (first | (go_at_call 74; (with_reducible refine c2.mono ?_); rintro e w3 ⟨v3, rfl, hv3⟩))
                have Hb3 := Lib.hid (hby.out.drew.trans (hv3.bel.mono hby.out.size))
                clear hv3 c2
                go_wp2
                go_ret2
                exact ⟨none, 0, by rw [F.out]; rfl, by rw [F.out]; exact ⟨rfl, fun h => absurd h (by decide)⟩, Hb3.out⟩
              · have G2 := Lib.hid (Go1.out hok)
                rw [hok] at c2
                clear Go1 No1 Split
                generalize (withR m x y).1 = l3 at *
                go_wp2
                go_region_held3 (fun w' => w'.cell? ⟨bb, o + j, none⟩ = some (.slice (some ⟨cb, co, none⟩) rl.length rc) ∧ w'.cell? ⟨cb, co + q * 2, none⟩ = some (.string x) ∧ w'.cell? ⟨cb, co + q * 2 + 1, none⟩ = some (.int .i64 y)) (first | go_keep | exact ⟨(hv3.bel.cell (p := ⟨bb, o + j, none⟩) hbbw).trans d2, (hv3.bel.cell (p := ⟨cb, co + q * 2, none⟩) hcbw).trans d3, (hv3.bel.cell (p := ⟨cb, co + q * 2 + 1, none⟩) hcbw).trans d4⟩) (first | (go_at_call 74; (with_reducible refine c2.mono ?_); rintro e w3 ⟨v3, rfl, hv3⟩))
                have Hb3 := Lib.hid (hby.out.drew.trans (hv3.bel.mono hby.out.size))
                have HB3 := Lib.hid (SlC.of_own hv3.own)
                clear hv3 c2
                go_wp2
                go_roundw
                case rel => exact ⟨q + 1, l3, by omega, by go_num, Hb3, HB3, Lib.hid ⟨G2.out, Sx.out⟩, by omega⟩
                case measure => simp [intOf]; omega
            · have hqe : q = rl.length := by omega
              have hall : rl.take q = rl := List.take_of_length_le (by omega)
              have hq2 := hQ.out.1
              rw [hall] at hq2
              have HQ : Hid (mrgR (flatF (rs.take (j + 1))) [] = some m ∧ SmallC m) := Lib.hid ⟨by rw [Tk.out]; exact hq2, hQ.out.2⟩
              have hle3 : m.length ≤ lensF (rs.take (j + 1)) := by rw [HlT.out]; omega
              clear hall hq2 hQ
              go_wp2
              go_roundw
              case rel => exact ⟨j + 1, m, by omega, by go_num, hby, hW, HQ, hle3⟩
              case measure => simp [intOf]; omega
        · have hall : rs.take j = rs := List.take_of_length_le (by omega)
          have hp := hP.out.1
          rw [hall] at hp
          have F := Lib.hid (S5.out m0 hp)
          obtain ⟨VA, vc, rfl, hVR, hvc, hvn⟩ := hV.out
          have HVR := Lib.hid hVR
          clear hall hp hVR
          go_wp2
          go_ret2
          exact ⟨VA, vc, by rw [F.out]; rfl, by rw [F.out]; exact HVR.out, hbx.out⟩
end Go.Proofs.Ytfegkchajkpgfaa.Gr
end

section
/- loggialaw30.GroupMerges: the walk (printed by gen_grlm.py). -/
namespace Go.Proofs.Ytfegkchajkpgfaa.Gr
open Go.RowKit Go.Proofs.Ytfegkchajkpgfaa Go.Proofs.Ytfegkchajkpgfaa.Ut Go.Proofs.Ytfegkchajkpgfaa.Tk Go.Sort Go.Shelf Go.Lib
set_option maxRecDepth 20000
set_option linter.unusedSimpArgs false
set_option linter.unusedVariables false

theorem mrgR_len : ∀ (cs l m : List Ct), mrgR cs l = some m → m.length ≤ l.length + cs.length
  | [], l, m, h => by
    unfold mrgR at h
    injection h with h
    rw [h]
    simp
  | c :: cs, l, m, h => by
    unfold mrgR at h
    split at h
    · have h1 := mrgR_len cs _ m h
      have h2 := withR_len l c.1 c.2
      rw [List.length_cons]
      omega
    · cases h
theorem outM_len (rs : List Rw) : (outM rs).1.length ≤ lensF rs := by
  unfold outM
  split
  · split
    · exact Nat.zero_le _
    · rename_i m hm
      have := mrgR_len _ _ m hm
      rw [flatF_len] at this
      simpa using this
  · exact Nat.zero_le _
theorem outM_nil : outM [] = ([], 0) := rfl
theorem rows_three {w : World} (e : TypeId) {P Q R : Option Addr} {p q r : Nat} {s t u : List Ct} (h1 : Reads w w.heap.size 2 P s.length (ctC s)) (h2 : Reads w w.heap.size 2 Q t.length (ctC t)) (h3 : Reads w w.heap.size 2 R u.length (ctC u))
    (c1 : s.length ≤ p ∧ (P = none → p = 0)) (c2 : t.length ≤ q ∧ (Q = none → q = 0)) (c3 : u.length ≤ r ∧ (R = none → r = 0)) :
    RowsIn (w.alloc (.cells #[.slice P s.length p, .slice Q t.length q, .slice R u.length r] e)) (w.alloc (.cells #[.slice P s.length p, .slice Q t.length q, .slice R u.length r] e)).heap.size (some ⟨w.heap.size, 0, none⟩) [⟨P, p, s⟩, ⟨Q, q, t⟩, ⟨R, r, u⟩] := by
  have hA : Below w.heap.size w (w.alloc (.cells #[.slice P s.length p, .slice Q t.length q, .slice R u.length r] e)) := (Below.refl _ _).alloc (Nat.le_refl _) _
  refine ⟨?_, fun x hx => ?_⟩
  · rw [World.size_alloc]
    exact rd_blk (Blk.new w e #[.slice P s.length p, .slice Q t.length q, .slice R u.length r]) 3 1 rfl _ rfl
  · simp only [List.mem_cons, List.not_mem_nil, or_false] at hx
    rcases hx with rfl | rfl | rfl
    · exact ⟨rd_grow hA h1, c1⟩
    · exact ⟨rd_grow hA h2, c2⟩
    · exact ⟨rd_grow hA h3, c3⟩
set_option maxHeartbeats 6400000 in
theorem groupMerges_walk (A : Option Addr) (n c : Nat) (l : List Ct) (A' : Option Addr) (n' c' : Nat) (m : List Ct) (A'' : Option Addr) (n'' c'' : Nat) (o : List Ct) (w : World) (hR : Reads w w.heap.size 2 A n (ctC l)) (hn : n ≤ 8796093021952) (hs : ∀ x ∈ l, x.1.size ≤ 140737488351232)
    (hR' : Reads w w.heap.size 2 A' n' (ctC m)) (hn' : n' ≤ 8796093021952) (hs' : ∀ x ∈ m, x.1.size ≤ 140737488351232) (hR'' : Reads w w.heap.size 2 A'' n'' (ctC o)) (hn'' : n'' ≤ 8796093021952) (hs'' : ∀ x ∈ o, x.1.size ≤ 140737488351232) :
    Calls Try.prog 7 #[.slice A n c, .slice A' n' c', .slice A'' n'' c''] w fun e w' => e = .returned (.bool true) ∧ Below w.heap.size w w' := by
  have c1 := short_any A n c l w hR hn hs
  have hsl := shortR_len l
  have hsm := shortR_len m
  have hso := shortR_len o
  have hzl := shortR_sz l
  have hzm := shortR_sz m
  have hzo := shortR_sz o
  have HR' := Lib.hid hR'
  have HR'' := Lib.hid hR''
  clear hR hR' hR'' hs
  go_enter Try.func7, Try.ntmps7
  go_wp2_with fail
  refine c1.mono ?_
  rintro e w1 ⟨v1, rfl, ho1, hb1⟩
  have c2 := short_any A' n' c' m w1 (rd_grow hb1 HR'.out) hn' hs'
  have HR3 := Lib.hid (rd_grow hb1 HR''.out)
  obtain ⟨P, p, rfl, hP, hPn, _, hP0, _⟩ := own_shp ho1
  have HP1 := Lib.hid hP
  have HPc : Hid ((shortR l).length ≤ p ∧ (P = none → p = 0)) := Lib.hid ⟨hPn, fun e => (hP0 e).1⟩
  have Hb1 := Lib.hid hb1
  clear c1 ho1 hb1 hP hP0 hPn HR' HR'' hs'
  go_wp2_with fail
  refine c2.mono ?_
  rintro e w2 ⟨v2, rfl, ho2, hb2⟩
  have c3 := short_any A'' n'' c'' o w2 (rd_grow hb2 HR3.out) hn'' hs''
  obtain ⟨Q, q, rfl, hQ, hQn, _, hQ0, _⟩ := own_shp ho2
  have HQ2 := Lib.hid hQ
  have HQc : Hid ((shortR m).length ≤ q ∧ (Q = none → q = 0)) := Lib.hid ⟨hQn, fun e => (hQ0 e).1⟩
  have HP2 := Lib.hid (rd_grow hb2 HP1.out)
  have Hb2 := Lib.hid (Hb1.out.trans (hb2.mono Hb1.out.size))
  clear c2 ho2 hb2 hQ hQ0 hQn HP1 HR3 Hb1 hs''
  go_wp2_with fail
  refine c3.mono ?_
  rintro e w3 ⟨v3, rfl, ho3, hb3⟩
  obtain ⟨R, r, rfl, hR3, hRn, _, hR0, _⟩ := own_shp ho3
  have HR3 := Lib.hid hR3
  have HRc : Hid ((shortR o).length ≤ r ∧ (R = none → r = 0)) := Lib.hid ⟨hRn, fun e => (hR0 e).1⟩
  have HP3 := Lib.hid (rd_grow hb3 HP2.out)
  have HQ3 := Lib.hid (rd_grow hb3 HQ2.out)
  have Hb3 := Lib.hid (Hb2.out.trans (hb3.mono Hb2.out.size))
  have Hz : Hid ((∀ x ∈ shortR l, x.1.size ≤ 60) ∧ (∀ x ∈ shortR m, x.1.size ≤ 60) ∧ (∀ x ∈ shortR o, x.1.size ≤ 60)) := Lib.hid ⟨hzl, hzm, hzo⟩
  clear c3 ho3 hb3 hR3 hR0 hRn HP2 HQ2 Hb2 hzl hzm hzo
  generalize shortR l = s at *
  generalize shortR m = t at *
  generalize shortR o = u at *
  have c4 := of_any P s.length p s w3 (HP3.out) (by omega)
  go_wp2_with fail
  refine c4.mono ?_
  rintro e w4 ⟨v4, rfl, ho4, hb4⟩
  obtain ⟨GA, gak, rfl, hGA, hGAn, _, hGA0, _⟩ := own_shp ho4
  have HGAc : Hid (s.length ≤ gak ∧ (GA = none → gak = 0)) := Lib.hid ⟨hGAn, fun e => (hGA0 e).1⟩
  clear ho4 hGA0 hGAn
  have HP4 := Lib.hid (rd_grow hb4 HP3.out)
  clear HP3
  have HQ4 := Lib.hid (rd_grow hb4 HQ3.out)
  clear HQ3
  have HR4 := Lib.hid (rd_grow hb4 HR3.out)
  clear HR3
  have Hb4 := Lib.hid (Hb3.out.trans (hb4.mono Hb3.out.size))
  clear c4 hb4 Hb3
  have HXGA4 := Lib.hid hGA
  clear hGA
  have c5 := of_any Q t.length q t w4 (HQ4.out) (by omega)
  go_wp2_with fail
  refine c5.mono ?_
  rintro e w5 ⟨v5, rfl, ho5, hb5⟩
  obtain ⟨GB, gbk, rfl, hGB, hGBn, _, hGB0, _⟩ := own_shp ho5
  have HGBc : Hid (t.length ≤ gbk ∧ (GB = none → gbk = 0)) := Lib.hid ⟨hGBn, fun e => (hGB0 e).1⟩
  clear ho5 hGB0 hGBn
  have HP5 := Lib.hid (rd_grow hb5 HP4.out)
  clear HP4
  have HQ5 := Lib.hid (rd_grow hb5 HQ4.out)
  clear HQ4
  have HR5 := Lib.hid (rd_grow hb5 HR4.out)
  clear HR4
  have HXGA5 := Lib.hid (rd_grow hb5 HXGA4.out)
  clear HXGA4
  have Hb5 := Lib.hid (Hb4.out.trans (hb5.mono Hb4.out.size))
  clear c5 hb5 Hb4
  have HXGB5 := Lib.hid hGB
  clear hGB
  have c6 := of_any R u.length r u w5 (HR5.out) (by omega)
  go_wp2_with fail
  refine c6.mono ?_
  rintro e w6 ⟨v6, rfl, ho6, hb6⟩
  obtain ⟨GC, gck, rfl, hGC, hGCn, _, hGC0, _⟩ := own_shp ho6
  have HGCc : Hid (u.length ≤ gck ∧ (GC = none → gck = 0)) := Lib.hid ⟨hGCn, fun e => (hGC0 e).1⟩
  clear ho6 hGC0 hGCn
  have HP6 := Lib.hid (rd_grow hb6 HP5.out)
  clear HP5
  have HQ6 := Lib.hid (rd_grow hb6 HQ5.out)
  clear HQ5
  have HR6 := Lib.hid (rd_grow hb6 HR5.out)
  clear HR5
  have HXGA6 := Lib.hid (rd_grow hb6 HXGA5.out)
  clear HXGA5
  have HXGB6 := Lib.hid (rd_grow hb6 HXGB5.out)
  clear HXGB5
  have Hb6 := Lib.hid (Hb5.out.trans (hb6.mono Hb5.out.size))
  clear c6 hb6 Hb5
  have HXGC6 := Lib.hid hGC
  clear hGC
  have hrs7 := rows_three (w := w6) 61 (HXGA6.out) (HXGB6.out) (HXGC6.out) HGAc.out HGBc.out HGCc.out
  have hbA7 : Below w6.heap.size w6 (w6.alloc (.cells #[.slice GA s.length gak, .slice GB t.length gbk, .slice GC u.length gck] 61)) := (Below.refl _ _).alloc (Nat.le_refl _) _
  have c7 := merge_any (some ⟨w6.heap.size, 0, none⟩) 3 [⟨GA, gak, s⟩, ⟨GB, gbk, t⟩, ⟨GC, gck, u⟩] _ hrs7 (show (3 : Nat) ≤ 100 by omega) (by simp [lensF]; omega) (fun x hx => by
    simp only [List.mem_cons, List.not_mem_nil, or_false] at hx
    rcases hx with rfl | rfl | rfl
    · exact fun y hy => Nat.le_trans (Hz.out.1 y hy) (by omega)
    · exact fun y hy => Nat.le_trans (Hz.out.2.1 y hy) (by omega)
    · exact fun y hy => Nat.le_trans (Hz.out.2.2 y hy) (by omega))
  have heq7 : outM [⟨GA, gak, s⟩, ⟨GB, gbk, t⟩, ⟨GC, gck, u⟩] = outM [⟨none, 0, s⟩, ⟨none, 0, t⟩, ⟨none, 0, u⟩] := rfl
  rw [heq7] at c7
  clear hrs7 heq7
  have hG := outM_len [⟨none, 0, s⟩, ⟨none, 0, t⟩, ⟨none, 0, u⟩]
  simp only [lensF, List.map_cons, List.map_nil, List.sum_cons, List.sum_nil] at hG
  go_wp2_with fail
  refine c7.mono ?_
  rintro e w7 ⟨X, xk, rfl, hX, hbx7⟩
  have hb7 := hbA7.trans (hbx7.mono hbA7.size)
  clear hbA7 hbx7
  have HP7 := Lib.hid (rd_grow hb7 HP6.out)
  clear HP6
  have HQ7 := Lib.hid (rd_grow hb7 HQ6.out)
  clear HQ6
  have HR7 := Lib.hid (rd_grow hb7 HR6.out)
  clear HR6
  have HXGA7 := Lib.hid (rd_grow hb7 HXGA6.out)
  clear HXGA6
  have HXGB7 := Lib.hid (rd_grow hb7 HXGB6.out)
  clear HXGB6
  have HXGC7 := Lib.hid (rd_grow hb7 HXGC6.out)
  clear HXGC6
  have Hb7 := Lib.hid (Hb6.out.trans (hb7.mono Hb6.out.size))
  clear c7 hb7 Hb6
  have HX7 := Lib.hid hX
  clear hX
  clear HXGA7
  clear HXGB7
  clear HXGC7
  clear HGAc HGBc HGCc
  have hrs8 := rows_three (w := w7) 59 (HP7.out) (HQ7.out) (HR7.out) HPc.out HQc.out HRc.out
  have hbA8 : Below w7.heap.size w7 (w7.alloc (.cells #[.slice P s.length p, .slice Q t.length q, .slice R u.length r] 59)) := (Below.refl _ _).alloc (Nat.le_refl _) _
  have c8 := rmerge_any (some ⟨w7.heap.size, 0, none⟩) 3 [⟨P, p, s⟩, ⟨Q, q, t⟩, ⟨R, r, u⟩] _ hrs8 (show (3 : Nat) ≤ 100 by omega) (by simp [lensF]; omega) (fun x hx => by
    simp only [List.mem_cons, List.not_mem_nil, or_false] at hx
    rcases hx with rfl | rfl | rfl
    · exact fun y hy => Nat.le_trans (Hz.out.1 y hy) (by omega)
    · exact fun y hy => Nat.le_trans (Hz.out.2.1 y hy) (by omega)
    · exact fun y hy => Nat.le_trans (Hz.out.2.2 y hy) (by omega))
  have heq8 : outM [⟨P, p, s⟩, ⟨Q, q, t⟩, ⟨R, r, u⟩] = outM [⟨none, 0, s⟩, ⟨none, 0, t⟩, ⟨none, 0, u⟩] := rfl
  rw [heq8] at c8
  clear hrs8 heq8
  go_wp2_with fail
  refine c8.mono ?_
  rintro e w8 ⟨Y, yk, rfl, hY, hbx8⟩
  have hb8 := hbA8.trans (hbx8.mono hbA8.size)
  clear hbA8 hbx8
  have HP8 := Lib.hid (rd_grow hb8 HP7.out)
  clear HP7
  have HQ8 := Lib.hid (rd_grow hb8 HQ7.out)
  clear HQ7
  have HR8 := Lib.hid (rd_grow hb8 HR7.out)
  clear HR7
  have HX8 := Lib.hid (rd_grow hb8 HX7.out)
  clear HX7
  have Hb8 := Lib.hid (Hb7.out.trans (hb8.mono Hb7.out.size))
  clear c8 hb8 Hb7
  have HY8 := Lib.hid hY
  clear hY
  clear HP8
  clear HQ8
  clear HR8
  clear HPc HQc HRc
  generalize outM [⟨none, 0, s⟩, ⟨none, 0, t⟩, ⟨none, 0, u⟩] = OUT at *
  obtain ⟨G, er⟩ := OUT
  simp only at *
  have c9 := merge_any none 0 [] w8 ⟨Reads.none_, fun x hx => by cases hx⟩ (by decide) (by decide) (fun x hx => by cases hx)
  rw [outM_nil] at c9
  go_wp2_with fail
  refine c9.mono ?_
  rintro e w9 ⟨Z, zk, rfl, hZ, hb9⟩
  have HX9 := Lib.hid (rd_grow hb9 HX8.out)
  clear HX8
  have HY9 := Lib.hid (rd_grow hb9 HY8.out)
  clear HY8
  have Hb9 := Lib.hid (Hb8.out.trans (hb9.mono Hb8.out.size))
  clear c9 hb9 Hb8
  clear hZ
  have e8 : decide (G = G) = true := decide_eq_true rfl
  have c10 := lsame_any X Y xk yk _ _ G G w9 (HX9.out) (HY9.out) (by omega) (by omega)
  rw [e8] at c10
  clear e8
  go_wp2_with fail
  refine c10.mono ?_
  rintro e w10 ⟨rfl, hb10⟩
  have HX10 := Lib.hid (rd_grow hb10 HX9.out)
  clear HX9
  have HY10 := Lib.hid (rd_grow hb10 HY9.out)
  clear HY9
  have Hb10 := Lib.hid (Hb9.out.trans (hb10.mono Hb9.out.size))
  clear c10 hb10 Hb9
  have c11 := awake_any w10
  go_wp2_with fail
  refine c11.mono ?_
  rintro e w11 ⟨rfl, hb11⟩
  have HX11 := Lib.hid (rd_grow hb11 HX10.out)
  clear HX10
  have HY11 := Lib.hid (rd_grow hb11 HY10.out)
  clear HY10
  have Hb11 := Lib.hid (Hb10.out.trans (hb11.mono Hb10.out.size))
  clear c11 hb11 Hb10
  go_wp2
  go_ret
  exact ⟨by first | rfl | simp, Hb11.out⟩
end Go.Proofs.Ytfegkchajkpgfaa.Gr
end
