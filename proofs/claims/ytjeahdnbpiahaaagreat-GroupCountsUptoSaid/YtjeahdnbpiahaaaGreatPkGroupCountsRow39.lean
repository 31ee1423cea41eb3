/- loggiaref30.Merge: the walk. -/
import Derived.Deep.RegionHeld3
import Derived.BigRegion
import Derived.Test.YtjeahdnbpiahaaaGreatPkGroupCountsRow36
import Derived.Test.YtjeahdnbpiahaaaGreatPkGroupCountsRow29
import Derived.Test.YtjeahdnbpiahaaaGreatGrQbPk
import Derived.Test.YtjeahdnbpiahaaaGreatGrWaPk
import Derived.Test.YtjeahdnbpiahaaaGreatGrOfPk
import Derived.Test.YtjeahdnbpiahaaaGreatPkGroupCountsRow20
section
namespace Go.Proofs.YtjeahdnbpiahaaaGreat.Gr
open Go.RowKit Go.Proofs.YtjeahdnbpiahaaaGreat Go.Proofs.YtjeahdnbpiahaaaGreat.Ut Go.Proofs.YtjeahdnbpiahaaaGreat.Tk Go.Sort Go.Shelf Go.Lib
set_option maxRecDepth 20000
set_option linter.unusedSimpArgs false
set_option linter.unusedVariables false

/-- A row in memory, nil or not. -/
def SlC (w : World) (v : Value) (m : List Ct) : Prop := ∃ A c, v = .slice A m.length c ∧ Reads w w.heap.size 2 A m.length (ctC m) ∧ m.length ≤ c ∧ (A = none → c = 0)
theorem SlC.grow {w w' : World} {v : Value} {m : List Ct} (h : SlC w v m) (hb : Below w.heap.size w w') : SlC w' v m := by
  obtain ⟨A, c, e, h1, h2⟩ := h
  exact ⟨A, c, e, rd_grow hb h1, h2⟩
theorem SlC.nil (w : World) : SlC w (.slice none 0 0) [] := ⟨none, 0, rfl, ⟨rfl, fun h => absurd h (by decide)⟩, Nat.le_refl _, fun _ => rfl⟩
theorem SlC.of_own {w : World} {B : Nat} {ty : TypeId} {v : Value} {m : List Ct} (h : w.ownsRow B ty 2 v m.length (ctC m)) : SlC w v m := by
  obtain ⟨A, c, e, h1, h2, _, h3, _⟩ := own_shp h
  exact ⟨A, c, e, h1, h2, fun e => (h3 e).1⟩

end Go.Proofs.YtjeahdnbpiahaaaGreat.Gr
end

section
/- loggiaref30.Of: the walk. -/
namespace Go.Proofs.YtjeahdnbpiahaaaGreat.Gr
open Go.RowKit Go.Proofs.YtjeahdnbpiahaaaGreat Go.Proofs.YtjeahdnbpiahaaaGreat.Ut Go.Proofs.YtjeahdnbpiahaaaGreat.Tk Go.Proofs.YtjeahdnbpiahaaaGreat.Qy Go.Sort Go.Shelf Go.Lib
set_option maxRecDepth 20000
set_option linter.unusedSimpArgs false
set_option linter.unusedVariables false

set_option maxHeartbeats 400000 in
theorem rof_bad (name : ByteArray) (A : Option Addr) (n c : Nat) (w : World) (hname : name.size ≤ 1048576) (hN : isN name.data.toList = false) :
    Calls Tryz.prog 8 #[.string name, .slice A n c] w fun e w' => e = .returned (.tuple #[.slice none 0 0, .int .i64 1]) ∧ Below w.heap.size w w' := by
  have c1 := isName_refB name w hname
  rw [hN] at c1
  go_enter Tryz.func8, Tryz.ntmps8
  go_wp2_with fail
  refine c1.mono ?_
  rintro e w1 ⟨rfl, rfl⟩
  clear c1
  go_wp2
  go_ret2
  exact ⟨rfl, Below.refl _ _⟩

/-- The table on the way, behind some docs and some words of the next. -/
structure TabAt (w wx : World) (v : Value) (l : List Ct) (g : ByteArray → Nat) (q : Nat) : Prop where
  bel : Below w.heap.size w wx
  sl : SlC wx v l
  tab : IsTab (tabOf g) l
  sm : SmallC l
  len : l.length ≤ q
theorem TabAt.below {w wx w2 : World} {v : Value} {l : List Ct} {g : ByteArray → Nat} {q : Nat} (h : TabAt w wx v l g q) (hb : Below wx.heap.size wx w2) : TabAt w w2 v l g q :=
  ⟨h.bel.trans (hb.mono h.bel.size), h.sl.grow hb, h.tab, h.sm, h.len⟩

set_option maxHeartbeats 1000000 in
theorem rof_any (name : ByteArray) (A : Option Addr) (n c : Nat) (ds : List Dc) (w : World) (hD : DocsAt w w.heap.size A n ds) (hn : n ≤ 1048576) (hs : ∀ d ∈ ds, ∀ f ∈ d.fs, f.2.size ≤ 1048576) (htot : totW name ds ≤ 1048576) (hname : name.size ≤ 1048576) (hN : isN name.data.toList = true) :
    Calls Tryz.prog 8 #[.string name, .slice A n c] w fun e w' => ∃ l, IsTab (tabOf (cntN name ds)) l ∧ l.length ≤ 1048576 ∧ ∃ v, e = .returned (.tuple #[v, .int .i64 0]) ∧ SlC w' v l ∧ Below w.heap.size w w' := by
  have c1 := isName_refB name w hname
  rw [hN] at c1
  have HD := Lib.hid hD
  have Hl := Lib.hid hD.ln
  have Hs := Lib.hid hs
  clear hD hs hN
  go_enter Tryz.func8, Tryz.ntmps8
  go_wp2_with fail
  refine c1.mono ?_
  rintro e w1 ⟨rfl, rfl⟩
  have S0 : Hid (TabAt w w (.slice none 0 0) [] (cntN name (ds.take 0)) (totW name (ds.take 0))) := Lib.hid ⟨Below.refl _ _, SlC.nil _, by rw [tabOf_zero (fun s => by simp [cntN])]; exact IsTab.none, fun y hy => (nomatch hy), Nat.zero_le _⟩
  clear c1
  go_wp2_with fail
  go_loopw [6, 7] (fun v i wx => ∃ (k : Nat) (l : List Ct), k ≤ n ∧ i = .int .i64 (k : Nat) ∧ Hid (TabAt w wx v l (cntN name (ds.take k)) (totW name (ds.take k)))) (fun _ i _ => n - (intOf i).toNat)
  case atStart => exact ⟨0, [], Nat.zero_le _, rfl, S0⟩
  case round =>
    obtain ⟨k, l, hk, rfl, hT⟩ := hrel
    by_cases hlt : k < n
    · have hki : (k : Int) < (n : Int) := by omega
      have hki0 : (0 : Int) ≤ (k : Int) := by omega
      have hkl : k < ds.length := by rw [Hl.out]; exact hlt
      have hsd := Hs.out ds[k] (List.getElem_mem hkl)
      have hts := totW_snoc name ds k hkl
      have htl := totW_le name ds (k + 1)
      have hDr := HD.out.grow hT.out.bel
      obtain ⟨db, dq, F, fn, fc, rfl, hdb, d0, d1, d2, hF, hfl, hfn, hfc, hf0⟩ := hDr.at_ hkl
      have cw := wordsU_any name ds[k].at_ F fn fc ds[k].fs wr hF hfl hfn hsd (by omega)
      have hul := wdsU_len name ds[k].fs
      have Huw := Lib.hid (wdsU_w name ds[k].fs)
      have Hall := Lib.hid (gAt_all name ds k hkl)
      have Hzero := Lib.hid (gAt_zero name (ds.take k) (wdsU name ds[k].fs))
      have Hsnoc := Lib.hid (gAt_snoc name (ds.take k) (wdsU name ds[k].fs))
      have Hle := Lib.hid (gAt_le name (ds.take k) (wdsU name ds[k].fs))
      have hdl : (ds.take k).length ≤ n := by rw [List.length_take]; omega
      generalize wdsU name ds[k].fs = us at *
      generalize (wdsF name ds[k].fs).length = wl at *
      generalize ds[k].seq = q0 at *
      generalize ds[k].at_ = q1 at *
      have Hts := Lib.hid hts
      clear hDr hsd hF hf0 hts
      go_wp2_with fail
      refine cw.mono ?_
      rintro e w2 ⟨v2, rfl, hO2⟩
      obtain ⟨A5, c5, rfl, hR5⟩ := own_shape hO2.own
      have HR5 := Lib.hid hR5
      have Hb2 := Lib.hid hO2.bel
      have S1 : Hid (TabAt w w2 _ l (gAt name (ds.take k) us 0) (totW name (ds.take k) + 0)) := Lib.hid (by
        have h := hT.out.below hO2.bel
        exact ⟨h.bel, h.sl, by rw [Hzero.out]; exact h.tab, h.sm, h.len⟩)
      clear cw hO2 hR5 Hzero
      go_wp2_with fail
      go_loopw [6, 9] (fun v i wy => ∃ (m : Nat) (l : List Ct), m ≤ us.length ∧ i = .int .i64 (m : Nat) ∧ Hid (TabAt w wy v l (gAt name (ds.take k) us m) (totW name (ds.take k) + m)) ∧ Hid (Below w2.heap.size w2 wy)) (fun _ i _ => us.length - (intOf i).toNat)
      case atStart => exact ⟨0, l, Nat.zero_le _, rfl, S1, Lib.hid (Below.refl _ _)⟩
      case round =>
        obtain ⟨m, l1, hm, rfl, hT1, hB1⟩ := hrel
        have hts := Hts.out
        by_cases hlm : m < us.length
        · have hmi : (m : Int) < (us.length : Int) := by omega
          have hmi0 : (0 : Int) ≤ (m : Int) := by omega
          obtain ⟨sb, sq, rfl, hsb, hsc⟩ := HR5.out.2 (by omega)
          have z0 := (hB1.out.cell (p := ⟨sb, sq + m, none⟩) hsb).trans (hsc m _ (bsT_get us m hlm))
          have huw := Huw.out _ (List.getElem_mem hlm)
          obtain ⟨VA, vc, rfl, hVR, hvc, hvn⟩ := hT1.out.sl
          have hlen := hT1.out.len
          have c3 := with_any VA l1.length vc l1 us[m] 1 wr hVR (by omega) hvc hvn hT1.out.sm (by omega) (by omega)
          have hw1 := with_one hT1.out.tab us[m] (by have := Hle.out m us[m]; omega)
          have Hsm := Lib.hid (withR_small (s := us[m]) (n := 1) hT1.out.sm (by omega) (by omega))
          have Hwl := withR_len l1 us[m] 1
          rw [Hsnoc.out m hlm] at hw1
          have Hw1 := Lib.hid hw1.2
          unfold WithPost at c3
          rw [hw1.1] at c3
          generalize us[m] = sw at *
          generalize (withR l1 sw 1).1 = l3 at *
          clear hw1 hVR hvn hsc
          go_wp2_with fail
          refine c3.mono ?_
          rintro e w3 ⟨v3, rfl, hC3⟩
          have S3 : Hid (TabAt w w3 v3 l3 (gAt name (ds.take k) us (m + 1)) (totW name (ds.take k) + (m + 1))) := Lib.hid ⟨hT1.out.bel.trans (hC3.bel.mono hT1.out.bel.size), SlC.of_own hC3.own, Hw1.out, Hsm.out, by omega⟩
          have B3 := Lib.hid (hB1.out.trans (hC3.bel.mono hB1.out.size))
          clear c3 hC3
          go_wp2
          go_roundw
          case rel => exact ⟨m + 1, l3, by omega, by go_num, S3, B3⟩
          case measure => simp [intOf]; omega
        · obtain rfl : m = us.length := by omega
          have S4 : Hid (TabAt w wr _ l1 (cntN name (ds.take (k + 1))) (totW name (ds.take (k + 1)))) := Lib.hid (by
            have h := hT1.out
            exact ⟨h.bel, h.sl, by rw [← Hall.out]; exact h.tab, h.sm, by have := h.len; have := Hts.out; omega⟩)
          go_wp2
          go_roundw
          case rel => exact ⟨k + 1, l1, by omega, by go_num, S4⟩
          case measure => simp [intOf]; omega
    · obtain rfl : k = n := by omega
      have Fin : Hid (TabAt w wr _ l (cntN name ds) (totW name ds)) := Lib.hid (by
        have h := hT.out
        rw [List.take_of_length_le (by rw [Hl.out]; exact Nat.le_refl _)] at h
        exact h)
      go_wp2
      go_ret2
      exact ⟨l, Fin.out.tab, Nat.le_trans Fin.out.len htot, _, rfl, Fin.out.sl, Fin.out.bel⟩
end Go.Proofs.YtjeahdnbpiahaaaGreat.Gr
end

section
/- The law's example: plain. -/
namespace Go.Proofs.YtjeahdnbpiahaaaGreat.Gr
open Go.RowKit Go.Proofs.YtjeahdnbpiahaaaGreat Go.Proofs.YtjeahdnbpiahaaaGreat.Ut Go.Proofs.YtjeahdnbpiahaaaGreat.Tk Go.Proofs.YtjeahdnbpiahaaaGreat.Qy
set_option linter.unusedSimpArgs false
set_option linter.unusedVariables false

def msgB : ByteArray := ⟨#[109, 115, 103]⟩
def aB : ByteArray := ⟨#[97]⟩
def bB : ByteArray := ⟨#[98]⟩
def cB : ByteArray := ⟨#[99]⟩
def exD1 : Dc := ⟨0, 0, [(msgB, ⟨#[97, 32, 98, 32, 97]⟩)]⟩
def exD2 : Dc := ⟨0, 0, [(msgB, ⟨#[98, 32, 99]⟩)]⟩
def exL : List Ct := [(aB, 1), (bB, 2), (cB, 1)]
theorem wds1 : wdsF msgB exD1.fs = [aB, bB, aB] := by
  have h : words [97, 32, 98, 32, 97] = [[97], [98], [97]] := by kernel_rfl
  simp only [wdsF, exD1, List.flatMap_cons, List.flatMap_nil, List.append_nil, if_true, List.toList_toArray]
  rw [h]
  rfl
theorem wds2 : wdsF msgB exD2.fs = [bB, cB] := by
  have h : words [98, 32, 99] = [[98], [99]] := by kernel_rfl
  simp only [wdsF, exD2, List.flatMap_cons, List.flatMap_nil, List.append_nil, if_true, List.toList_toArray]
  rw [h]
  rfl
theorem lt_ab : ltS aB bB = true := by kernel_rfl
theorem lt_bc : ltS bB cB = true := by kernel_rfl
theorem ne_ab : aB ≠ bB := fun e => by have := lt_ab; rw [e, ltS_irrefl] at this; cases this
theorem ne_bc : bB ≠ cB := fun e => by have := lt_bc; rw [e, ltS_irrefl] at this; cases this
theorem ne_ac : aB ≠ cB := fun e => by have := ltS_trans lt_ab lt_bc; rw [e, ltS_irrefl] at this; cases this
theorem ex_cnt (s : ByteArray) : cntN msgB [exD1, exD2] s = (if inL [aB, bB, aB] s = true then 1 else 0) + (if inL [bB, cB] s = true then 1 else 0) := by
  unfold cntN
  rw [List.countP_cons, List.countP_cons, List.countP_nil, wds1, wds2]
  omega
theorem exTab : IsTab (tabOf (cntN msgB [exD1, exD2])) exL := by
  refine ⟨?_, fun x => ?_⟩
  · refine List.pairwise_cons.2 ⟨fun x hx => ?_, List.pairwise_cons.2 ⟨fun x hx => ?_, List.pairwise_singleton _ _⟩⟩
    · simp only [List.mem_cons, List.not_mem_nil, or_false] at hx
      rcases hx with rfl | rfl
      · exact lt_ab
      · exact ltS_trans lt_ab lt_bc
    · simp only [List.mem_cons, List.not_mem_nil, or_false] at hx
      subst hx
      exact lt_bc
  · obtain ⟨s, n⟩ := x
    unfold tabOf
    rw [ex_cnt]
    simp only [exL, List.mem_cons, List.not_mem_nil, or_false, Prod.mk.injEq]
    have i1 : inL [aB, bB, aB] s = (decide (aB = s) || decide (bB = s)) := by
      simp only [inL, List.any_cons, List.any_nil, Bool.or_false]
      cases decide (aB = s) <;> simp
    have i2 : inL [bB, cB] s = (decide (bB = s) || decide (cB = s)) := by
      simp only [inL, List.any_cons, List.any_nil, Bool.or_false]
    rw [i1, i2]
    by_cases ea : aB = s
    · subst ea
      simp [ne_ab, ne_ab.symm, ne_ac, ne_ac.symm, eq_comm]
    · by_cases eb : bB = s
      · subst eb
        simp [ne_ab, ne_ab.symm, ne_bc, ne_bc.symm, eq_comm]
      · by_cases ec : cB = s
        · subst ec
          simp [ne_ac, ne_ac.symm, ne_bc, ne_bc.symm, eq_comm]
        · have ea' : ¬ s = aB := fun e => ea e.symm
          have eb' : ¬ s = bB := fun e => eb e.symm
          have ec' : ¬ s = cB := fun e => ec e.symm
          simp [ea, eb, ec, ea', eb', ec']
theorem ex_ok : okR exL = true := by kernel_rfl
theorem ex_top : topG exL 1 = [(bB, 2)] := by
  rw [topG_yes ⟨ex_ok, by decide⟩]
  kernel_rfl
theorem ex_err : errG exL 1 = 0 := errG_yes ⟨ex_ok, by decide⟩
theorem ex_tot : totR exL = 4 := by kernel_rfl
theorem ex_totW : totW msgB [exD1, exD2] ≤ 1048576 := by
  unfold totW
  simp only [List.map_cons, List.map_nil, wds1, wds2, List.sum_cons, List.sum_nil, List.length_cons, List.length_nil]
  omega
theorem ex_name : isN msgB.data.toList = true := by kernel_rfl
end Go.Proofs.YtjeahdnbpiahaaaGreat.Gr
end

section
/- loggialaw30.awake: the walk. -/
namespace Go.Proofs.YtjeahdnbpiahaaaGreat.Gr
open Go.RowKit Go.Proofs.YtjeahdnbpiahaaaGreat Go.Proofs.YtjeahdnbpiahaaaGreat.Ut Go.Proofs.YtjeahdnbpiahaaaGreat.Tk Go.Proofs.YtjeahdnbpiahaaaGreat.Qy Go.Sort Go.Shelf Go.Lib
set_option maxRecDepth 20000
set_option linter.unusedSimpArgs false
set_option linter.unusedVariables false

theorem groupOf_any (name : ByteArray) (A : Option Addr) (n c : Nat) (ds : List Dc) (w : World) (hD : DocsAt w w.heap.size A n ds) (hn : n ≤ 1048576) (hs : ∀ d ∈ ds, ∀ f ∈ d.fs, f.2.size ≤ 1048576) (htot : totW name ds ≤ 1048576) (hname : name.size ≤ 140737488351232) (hN : isN name.data.toList = true) :
    Calls Tryz.prog 7 #[.string name, .slice A n c] w fun e w' => ∃ l, IsTab (tabOf (cntN name ds)) l ∧ l.length ≤ 1048576 ∧ ∃ v, e = .returned (.tuple #[v, .int .i64 0]) ∧ w'.ownsRow w.heap.size 54 2 v l.length (ctC l) ∧ Below w.heap.size w w' :=
  callsIn_wide.1 (of_in name A n c ds w hD hn hs htot hname hN)
set_option maxHeartbeats 800000 in
theorem doc_any (s : ByteArray) (w : World) : Calls Tryz.prog 14 #[.string s] w fun e w' => ∃ fb, e = .returned (.agg #[.int .i64 0, .int .i64 0, .slice (some ⟨fb, 0, none⟩) 1 1]) ∧ w.heap.size ≤ fb ∧ Blk w' fb 60 #[.string msgB, .string s] ∧ Below w.heap.size w w' := by
  go_enter Tryz.func14, Tryz.ntmps14
  go_wp2
  have hf := Blk.new (w.alloc (.cells #[.int .i64 0, .int .i64 0, .slice (some ⟨w.heap.size + 1, 0, none⟩) 1 1] 48)) 60 #[.string msgB, .string s]
  rw [World.size_alloc] at hf
  have hh := (Blk.new w 48 #[.int .i64 0, .int .i64 0, .slice (some ⟨w.heap.size + 1, 0, none⟩) 1 1]).alloc (.cells #[.string msgB, .string s] 60)
  exact bodyPost_ret (results_cell rfl rfl (run_loadVar_row _ w.heap.size 48 48 #[.int .i64 0, .int .i64 0, .slice (some ⟨w.heap.size + 1, 0, none⟩) 1 1] (0, 0) _ hh Tryz.underlying48 rfl (by kernel_rfl))) rfl ⟨_, rfl, Nat.le_succ _, hf, ((Below.refl _ _).alloc (Nat.le_refl _) _).alloc (by simp) _⟩
theorem rd_blk {w : World} {g : Nat} {t : TypeId} {cs : Array Value} (h : Blk w g t cs) (n size : Nat) (hn : cs.size = n * size) (xs : List Value) (hx : cs.toList = xs) : Reads w (g + 1) size (some ⟨g, 0, none⟩) n xs := by
  subst hx
  exact ⟨by rw [Array.length_toList]; exact hn, fun _ => ⟨g, 0, rfl, by omega, fun j u hu => by rw [Nat.zero_add, h.cell j]; simpa using hu⟩⟩
set_option maxHeartbeats 1600000 in
theorem awake_any (w : World) : Calls Tryz.prog 6 #[] w fun e w' => e = .returned (.bool true) ∧ Below w.heap.size w w' := by
  have d1 := doc_any ⟨#[97, 32, 98, 32, 97]⟩ w
  go_enter Tryz.func6, Tryz.ntmps6
  go_wp2_with fail
  refine d1.mono ?_
  rintro e w1 ⟨f1, rfl, hf1, hB1, hb1⟩
  have d2 := doc_any ⟨#[98, 32, 99]⟩ w1
  have HB1 := Lib.hid hB1
  have Hb1 := Lib.hid hb1
  clear d1 hB1 hb1
  go_wp2_with fail
  refine d2.mono ?_
  rintro e w2 ⟨f2, rfl, hf2, hB2, hb2⟩
  have hB12 := HB1.out.below hb2 HB1.out.lt
  have Hb2 := Lib.hid (Hb1.out.trans (hb2.mono Hb1.out.size))
  have hbA : Below w2.heap.size w2 (w2.alloc (.cells #[.int .i64 0, .int .i64 0, .slice (some ⟨f1, 0, none⟩) 1 1, .int .i64 0, .int .i64 0, .slice (some ⟨f2, 0, none⟩) 1 1] 48)) := (Below.refl _ _).alloc (Nat.le_refl _) _
  have hDs : DocsAt (w2.alloc (.cells #[.int .i64 0, .int .i64 0, .slice (some ⟨f1, 0, none⟩) 1 1, .int .i64 0, .int .i64 0, .slice (some ⟨f2, 0, none⟩) 1 1] 48)) (w2.alloc (.cells #[.int .i64 0, .int .i64 0, .slice (some ⟨f1, 0, none⟩) 1 1, .int .i64 0, .int .i64 0, .slice (some ⟨f2, 0, none⟩) 1 1] 48)).heap.size (some ⟨w2.heap.size, 0, none⟩) 2 [exD1, exD2] := by
    have hz : (w2.alloc (.cells #[.int .i64 0, .int .i64 0, .slice (some ⟨f1, 0, none⟩) 1 1, .int .i64 0, .int .i64 0, .slice (some ⟨f2, 0, none⟩) 1 1] 48)).heap.size = w2.heap.size + 1 := by simp
    have l1 := hB12.lt
    have l2 := hB2.lt
    have q1 := rd_blk (hB12.below hbA hB12.lt) 1 2 rfl (fldC exD1.fs) rfl
    have q2 := rd_blk (hB2.below hbA hB2.lt) 1 2 rfl (fldC exD2.fs) rfl
    refine ⟨rfl, [[.int .i64 0, .int .i64 0, .slice (some ⟨f1, 0, none⟩) 1 1], [.int .i64 0, .int .i64 0, .slice (some ⟨f2, 0, none⟩) 1 1]], rfl, ?_, fun i h h' => ?_⟩
    · have := rd_blk (Blk.new w2 48 #[.int .i64 0, .int .i64 0, .slice (some ⟨f1, 0, none⟩) 1 1, .int .i64 0, .int .i64 0, .slice (some ⟨f2, 0, none⟩) 1 1]) 2 3 rfl _ rfl
      rw [hz]
      exact this
    · have hi : i = 0 ∨ i = 1 := by simp at h'; omega
      rcases hi with rfl | rfl
      · exact ⟨_, 1, 1, rfl, q1.more (by omega), rfl, by omega, by omega, fun e => by cases e⟩
      · exact ⟨_, 1, 1, rfl, q2.more (by omega), rfl, by omega, by omega, fun e => by cases e⟩
  have c3 := groupOf_any msgB (some ⟨w2.heap.size, 0, none⟩) 2 2 [exD1, exD2] _ hDs (by omega) (fun d hd f hf => by
    simp only [List.mem_cons, List.not_mem_nil, or_false] at hd
    rcases hd with rfl | rfl
    · simp only [exD1, List.mem_cons, List.not_mem_nil, or_false] at hf; subst hf; decide
    · simp only [exD2, List.mem_cons, List.not_mem_nil, or_false] at hf; subst hf; decide) ex_totW (by decide) ex_name
  have Hb3 := Lib.hid (Hb2.out.trans (hbA.mono Hb2.out.size))
  unfold msgB at c3
  clear d2 hB2 hb2 hB12 hbA hDs HB1
  go_wp2_with fail
  refine c3.mono ?_
  rintro e w3 ⟨l, hT, _, v, rfl, hown, hb3⟩
  have hl : l = exL := hT.one exTab
  subst hl
  obtain ⟨A3, k3, rfl, hR3, hnc3, hcm3, hn3, _⟩ := own_shp hown
  have c4 := top_any A3 3 k3 exL 1 w3 hR3 (by omega) (fun x hx => by
    simp only [exL, List.mem_cons, List.not_mem_nil, or_false] at hx
    rcases hx with rfl | rfl | rfl <;> decide) (fun e => (hn3 e).1)
  rw [ex_top, ex_err] at c4
  have Hb4 := Lib.hid (Hb3.out.trans (hb3.mono Hb3.out.size))
  have HR3 := Lib.hid hR3
  clear c3 hT hown hb3 hR3 hn3 hnc3 hcm3
  go_wp2_with fail
  refine c4.mono ?_
  rintro e w4 ⟨A4, k4, rfl, hR4, hb4⟩
  have Hb5 := Lib.hid (Hb4.out.trans (hb4.mono Hb4.out.size))
  have hA5 : Below w4.heap.size w4 (w4.alloc (.cells #[.string aB, .int .i64 1, .string bB, .int .i64 2, .string cB, .int .i64 1] 54)) := (Below.refl _ _).alloc (Nat.le_refl _) _
  have r5 := rd_blk (Blk.new w4 54 #[.string aB, .int .i64 1, .string bB, .int .i64 2, .string cB, .int .i64 1]) 3 2 rfl (ctC exL) rfl
  have r3 := rd_grow (hb4.trans (hA5.mono hb4.size)) HR3.out
  have c5 := gsame_any A3 (some ⟨w4.heap.size, 0, none⟩) k3 3 _ _ exL exL _ r3 r5 (by decide) (by decide)
  rw [decide_eq_true rfl] at c5
  have HR4 := Lib.hid (rd_grow hA5 hR4)
  have HR5 := Lib.hid r3
  have Hb6 := Lib.hid (Hb5.out.trans (hA5.mono Hb5.out.size))
  unfold aB bB cB at *
  clear c4 hR4 hb4 hA5 r5 r3 HR3
  go_wp2_with fail
  refine c5.mono ?_
  rintro e w6 ⟨rfl, hb6⟩
  have hA7 : Below w6.heap.size w6 (w6.alloc (.cells #[.string ⟨#[98]⟩, .int .i64 2] 54)) := (Below.refl _ _).alloc (Nat.le_refl _) _
  have r7 := rd_blk (Blk.new w6 54 #[.string ⟨#[98]⟩, .int .i64 2]) 1 2 rfl (ctC [(⟨#[98]⟩, 2)]) rfl
  have r4 := rd_grow (hb6.trans (hA7.mono hb6.size)) HR4.out
  have c7 := gsame_any A4 (some ⟨w6.heap.size, 0, none⟩) k4 1 _ _ [(⟨#[98]⟩, 2)] [(⟨#[98]⟩, 2)] _ r4 r7 (by decide) (by decide)
  rw [decide_eq_true rfl] at c7
  have HR6 := Lib.hid (rd_grow (hb6.trans (hA7.mono hb6.size)) HR5.out)
  have Hb7 := Lib.hid ((Hb6.out.trans (hb6.mono Hb6.out.size)).trans (hA7.mono (Hb6.out.trans (hb6.mono Hb6.out.size)).size))
  clear c5 hb6 hA7 r7 r4 HR4 HR5
  go_wp2_with fail
  refine c7.mono ?_
  rintro e w8 ⟨rfl, hb8⟩
  have c9 := total_any A3 exL.length k3 exL w8 (rd_grow hb8 HR6.out) (by decide)
  rw [ex_tot] at c9
  have Hb8 := Lib.hid (Hb7.out.trans (hb8.mono Hb7.out.size))
  clear c7 hb8 HR6
  go_wp2_with fail
  refine c9.mono ?_
  rintro e w9 ⟨rfl, hb9⟩
  have Hb9 := Lib.hid (Hb8.out.trans (hb9.mono Hb8.out.size))
  clear c9 hb9
  go_wp2
  go_ret
  exact ⟨by first | rfl | simp, Hb9.out⟩
end Go.Proofs.YtjeahdnbpiahaaaGreat.Gr
end
