/- group.Of: the walk (printed by gen_grof.py). -/
import Derived.Test.YtdloacfoegjnmaaGreatPkGroupIndexesRow31
import Derived.Test.YtdloacfoegjnmaaGreatPkGroupIndexesRow7
namespace Go.Proofs.YtdloacfoegjnmaaGreat.Gr
open Go.RowKit Go.Proofs.YtdloacfoegjnmaaGreat Go.Proofs.YtdloacfoegjnmaaGreat.Ut Go.Proofs.YtdloacfoegjnmaaGreat.Tk Go.Proofs.YtdloacfoegjnmaaGreat.Qy Go.Sort Go.Shelf Go.Lib Go.Maps
attribute [local go_sem] Oper.semAt_some
set_option linter.unusedSimpArgs false
set_option linter.unusedVariables false

theorem fld_get {fs : List (ByteArray × ByteArray)} (k : Nat) (h : k < fs.length) : (fldC fs)[k * 2]? = some (.string fs[k].1) ∧ (fldC fs)[k * 2 + 1]? = some (.string fs[k].2) := by
  have go : ∀ (l : List (ByteArray × ByteArray)) (k : Nat) (h : k < l.length), (fldC l)[k * 2]? = some (.string l[k].1) ∧ (fldC l)[k * 2 + 1]? = some (.string l[k].2) := by
    intro l
    induction l with
    | nil => intro k h; cases h
    | cons f l ih =>
      intro k h
      cases k with
      | zero => exact ⟨rfl, rfl⟩
      | succ k =>
        have e1 : (k + 1) * 2 = k * 2 + 2 := by omega
        have e2 : (k + 1) * 2 + 1 = (k * 2 + 1) + 2 := by omega
        rw [e2, e1]
        exact ih k (by simpa using h)
  exact go fs k h
theorem i64_ok (x : Int) (h0 : 0 ≤ x) (h1 : x ≤ 1099511627776) : (Lit.int .i64 x).wf = true := by
  simp [Lit.wf, IntKind.min, IntKind.max, IntKind.bits, IntKind.signed]
  omega
theorem sv_get (ws : List (List UInt8)) (k : Nat) (h : k < ws.length) : (sv ws)[k]? = some (.string (str ws[k])) := by
  unfold sv
  simp [h]
/-- The table, on the way. -/
structure OfAt (w wr : World) (M : Nat) (name : ByteArray) (ds : List Dc) (k : Nat) (dfs : List Deferred) : Prop where
  tab : TabM wr M (totW name (ds.take k)) (tabOf (cntN name (ds.take k)))
  box : Blk wr (M + 1) 77 #[.map (some M)]
  bel : Below w.heap.size w wr
  marks : MarksOk w.heap.size wr dfs
theorem TabM.kept {w w' : World} {b n : Nat} {f : Tb} {row : Option Nat} (h : TabM w b n f) (hg : w.grownBy w' row) (hne : some b ≠ row) : TabM w' b n f := by
  obtain ⟨D, h1, h2⟩ := h
  exact ⟨D, h1.kept hg hne, h2⟩
/-- A doc's words, on the way. -/
structure HasAt (wr wf : World) (H : Nat) (l : List ByteArray) : Prop where
  ex : ∃ E : DataW Unit, wf.ownsMap Tryz.prog 9 (unitElem (H := Unit)) H l.length E ∧ SetD E l
  bel : Below wr.heap.size wr wf
theorem HasAt.grown {wr wf w2 : World} {H : Nat} {l : List ByteArray} (h : HasAt wr wf H l) (hb : Below wf.heap.size wf w2) : HasAt wr w2 H l := by
  obtain ⟨E, h1, h2⟩ := h.ex
  exact ⟨⟨E, h1.kept (grow_of_below hb none) (by simp), h2⟩, h.bel.trans (hb.mono h.bel.size)⟩
theorem HasAt.lt {wr wf : World} {H : Nat} {l : List ByteArray} (h : HasAt wr wf H l) : H < wf.heap.size := by
  obtain ⟨E, h1, _⟩ := h.ex
  exact h1.lt

set_option maxRecDepth 100000 in
set_option maxHeartbeats 8000000 in
theorem of_in (name : ByteArray) (A : Option Addr) (n c : Nat) (ds : List Dc) (w : World) (hD : DocsAt w w.heap.size A n ds) (hn : n ≤ 1048576) (hs : ∀ d ∈ ds, ∀ f ∈ d.fs, f.2.size ≤ 1048576) (htot : totW name ds ≤ 1048576) (hname : name.size ≤ 140737488351232) (hN : isN name.data.toList = true) :
    CallsIn Fence.wide 4 Tryz.prog 13 #[.string name, .slice A n c] w fun e w' => ∃ l, IsTab (tabOf (cntN name ds)) l ∧ l.length ≤ 1048576 ∧ ∃ v, e = .returned (.tuple #[v, .int .i64 0]) ∧ w'.ownsRow w.heap.size 62 2 v l.length (ctC l) ∧ Below w.heap.size w w' := by
  have c1 := isName_anyB name w hname
  rw [hN] at c1
  have hmm := @run_makeMap Tryz.prog
  have HD := Lib.hid hD
  have Hl := Lib.hid hD.ln
  have Hs := Lib.hid hs
  clear hD hs
  refine callsIn_of_wp_marks Tryz.func13 rfl trivial ?_ rfl
  simp only [Tryz.ntmps13, List.size_toArray, List.length_cons, List.length_nil, Nat.reduceAdd, Nat.reduceSub, Array.replicate_succ, Array.replicate_zero, List.push_toArray, List.append_toArray, List.nil_append, List.cons_append]
  gi_wp2_with fail
  refine ⟨trivial, (callsIn_wide.2 c1).mono ?_⟩
  rintro e w1 ⟨rfl, hb1⟩
  have hm1 := World.ownsMap_made w1 Tryz.prog 9 (plainElem (H := Unit) Tryz.prog 3)
  have hm2 := hm1.alloc (.cells #[.map (some w1.heap.size)] 77)
  have hbx := Blk.new (w1.alloc (.map #[] 0)) 77 #[.map (some w1.heap.size)]
  rw [World.size_alloc] at hbx
  have hb2 : Below w.heap.size w ((w1.alloc (.map #[] 0)).alloc (.cells #[.map (some w1.heap.size)] 77)) := (hb1.alloc hb1.size _).alloc (by have := hb1.size; simp; omega) _
  have Hs1 := hb1.size
  have Ho : Hid (OfAt w ((w1.alloc (.map #[] 0)).alloc (.cells #[.map (some w1.heap.size)] 77)) w1.heap.size name ds 0 []) := Lib.hid ⟨⟨_, hm2, by rw [tabOf_zero (fun s => by simp [cntN])]; exact TabD.none⟩, hbx, hb2, MarksOk.nil _ _⟩
  clear c1 hb1 hm1 hm2 hbx hb2
  gi_wp2_with fail
  generalize hM : w1.heap.size = M at *
  clear hM
  refine wpIn_loop (fun a' w' => ∃ (u8 u9 u10 u11 u12 u13 u14 u21 u22 u23 u24 u25 u26 u27 u28 u29 u30 u31 u32 u33 u34 u35 u36 u37 u38 u39 u40 u41 u42 u43 u44 u45 u46 u47 u48 u49 u50 u51 u52 u53 u54 u55 u56 u57 u58 : Value) (dfs : List Deferred), (∃ k : Nat, k ≤ n ∧ u21 = .int .i64 (k : Nat) ∧ Hid (OfAt w w' M name ds k dfs)) ∧ a' = { tmps := #[.string name, .slice A n c, undef, undef, .slice none 0 0, .int .i64 0, .pointer (some ⟨M + 1, 0, none⟩), undef, u8, u9, u10, u11, u12, u13, u14, .string name, .bool true, .bool false, .map (some M), .slice A n c, .int .i64 n, u21, u22, u23, u24, u25, u26, u27, u28, u29, u30, u31, u32, u33, u34, u35, u36, u37, u38, u39, u40, u41, u42, u43, u44, u45, u46, u47, u48, u49, u50, u51, u52, u53, u54, u55, u56, u57, u58, undef, undef], defers := dfs }) (fun a' w' => n - (intOf (a'.tmps.getD 21 undef)).toNat) ?start ?round
  case start =>
    repeat apply Exists.intro
    refine ⟨?_, rfl⟩
    exact ⟨0, Nat.zero_le _, rfl, Ho⟩
  case round =>
    rintro a' wr ⟨u8, u9, u10, u11, u12, u13, u14, u21, u22, u23, u24, u25, u26, u27, u28, u29, u30, u31, u32, u33, u34, u35, u36, u37, u38, u39, u40, u41, u42, u43, u44, u45, u46, u47, u48, u49, u50, u51, u52, u53, u54, u55, u56, u57, u58, dfs, ⟨k, hk, rfl, hO⟩, rfl⟩
    try dsimp only
    by_cases hlt : k < n
    · have hki : (k : Int) < (n : Int) := by omega
      have hkl : k < ds.length := by rw [Hl.out]; exact hlt
      have hsd := Hs.out ds[k] (List.getElem_mem hkl)
      have hcs := fun s => cntN_snoc name ds k hkl s
      have hts := totW_snoc name ds k hkl
      have htl := totW_le name ds (k + 1)
      have hDr := (HD.out.keep fun _ _ hp => hO.out.bel.cell hp).more hO.out.bel.size
      obtain ⟨db, dq, F, fn, fc, rfl, hdb, d0, d1, d2, hF, hfl, hfn, hfc, hf0⟩ := hDr.at_ hkl
      generalize ds[k].seq = q0 at *
      generalize ds[k].at_ = q1 at *
      generalize ds[k].fs = fs at *
      have hm1 := World.ownsMap_made (wr.alloc (.cells #[.int .i64 q0, .int .i64 q1, .slice F fn fc] 57)) Tryz.prog 9 (unitElem (H := Unit))
      have hb1 : Below wr.heap.size wr ((wr.alloc (.cells #[.int .i64 q0, .int .i64 q1, .slice F fn fc] 57)).alloc (.map #[] 0)) := ((Below.refl _ _).alloc (Nat.le_refl _) _).alloc (by simp) _
      rw [World.size_alloc] at hm1
      have Hh : Hid (HasAt wr ((wr.alloc (.cells #[.int .i64 q0, .int .i64 q1, .slice F fn fc] 57)).alloc (.map #[] 0)) (wr.heap.size + 1) (wdsF name (fs.take 0))) := Lib.hid ⟨⟨_, hm1, SetD.none⟩, hb1⟩
      have HF := Lib.hid hF
      have Hsd := Lib.hid hsd
      have Hcs := Lib.hid hcs
      have Hts := Lib.hid (And.intro hts htl)
      clear hm1 hb1 hF hsd hcs hts htl hDr
      have hdw : db < wr.heap.size := hdb
      gi_wp2_with fail
      generalize hw2 : ((wr.alloc (.cells #[.int .i64 q0, .int .i64 q1, .slice F fn fc] 57)).alloc (.map #[] 0)) = w2 at *
      clear hw2
      obtain ⟨wo, hwo⟩ : ∃ wo, wo = wr := ⟨_, rfl⟩
      subst hwo
      gi_loopw [30] (fun i wr => ∃ j : Nat, j ≤ fn ∧ i = .int .i64 (j : Nat) ∧ Hid (HasAt wo wr (wo.heap.size + 1) (wdsF name (fs.take j)))) (fun i _ => fn - (intOf i).toNat)
      case atStart => exact ⟨0, Nat.zero_le _, rfl, Hh⟩
      case round =>
        obtain ⟨j, hj, rfl, hh⟩ := hrel
        by_cases hlj : j < fn
        · have hji : (j : Int) < (fn : Int) := by omega
          have hjl : j < fs.length := by rw [hfl]; exact hlj
          have hsz := Hsd.out fs[j] (List.getElem_mem hjl)
          have hst := wdsF_snoc name fs j hjl
          have hle := wdsF_le name fs (j + 1)
          obtain ⟨fb, fq, rfl, hfb, hfcl⟩ := HF.out.2 (by omega)
          have hg := fld_get j hjl
          have y0 := (hh.out.bel.cell (p := ⟨fb, fq + j * 2, none⟩) hfb).trans (hfcl _ _ hg.1)
          have y1' := hfcl _ _ hg.2
          rw [← Nat.add_assoc] at y1'
          have y1 := (hh.out.bel.cell (p := ⟨fb, fq + j * 2 + 1, none⟩) hfb).trans y1'
          generalize fs[j].1 = nm at *
          generalize fs[j].2 = tx at *
          have hbq := list_beq nm name
          have hbA : Below wr.heap.size wr (wr.alloc (.cells #[.string nm, .string tx] 89)) := (Below.refl _ _).alloc (Nat.le_refl _) _
          have hh2 := Lib.hid (hh.out.grown hbA)
          have hlt2 := hh2.out.lt
          have cw := fun wx => words_any tx wx hsz
          have Hle := Lib.hid hle
          clear hg hfcl hsz hbA hle y1'
          by_cases hnm : nm = name
          · rw [if_pos hnm] at hst
            rw [decide_eq_true hnm] at hbq
            have hbn : (nm.toList != name.toList) = false := by rw [bne, hbq]; rfl
            have Hst := Lib.hid hst
            clear hst hnm
            gi_wp2_with fail
            refine ⟨trivial, (callsIn_wide.2 (cw _)).mono ?_⟩
            rintro e w4 ⟨v, rfl, hown, hb4⟩
            have Hh4 := Lib.hid (hh2.out.grown hb4)
            obtain ⟨A5, c5, rfl, hR5⟩ := own_shape hown
            have hlo := hown.lt
            rw [World.size_alloc] at hlo hown
            have hlen : (words tx.data.toList).length ≤ 1048576 := by
              have h1 := Hle.out
              rw [Hst.out, List.length_append, List.length_map] at h1
              have h2 := Hts.out
              omega
            have hlt4 := Hh4.out.lt
            have Hst2 : Hid (wdsF name (fs.take (j + 1)) = wdsF name (fs.take j) ++ ((words tx.data.toList).take (words tx.data.toList).length).map str) := Lib.hid (by rw [List.take_length]; exact Hst.out)
            have hws32 : Hid (∀ x ∈ words tx.data.toList, (str x).size ≤ 32) := Lib.hid (fun x hx => by rw [str_size]; exact (words_word _ x hx).2)
            generalize words tx.data.toList = ws at *
            have Hown : Hid (w4.ownsRow (wr.heap.size + 1) 9 1 (.slice A5 ws.length c5) ws.length (sv ws)) := Lib.hid hown
            have hwr : wo.heap.size + 1 < wr.heap.size + 1 := by have := hh.out.lt; omega
            clear cw hown hb4 hR5 hlo Hst
            gi_wp2_with fail
            obtain ⟨wf, hwf⟩ : ∃ wf, wf = wr := ⟨_, rfl⟩
            subst hwf
            gi_loopw [42] (fun i wr => ∃ m : Nat, m ≤ ws.length ∧ i = .int .i64 (m : Nat) ∧ Hid (HasAt wo wr (wo.heap.size + 1) (wdsF name (fs.take j) ++ (ws.take m).map str)) ∧ Hid (wr.ownsRow (wf.heap.size + 1) 9 1 (.slice A5 ws.length c5) ws.length (sv ws))) (fun i _ => ws.length - (intOf i).toNat)
            case atStart => exact ⟨0, Nat.zero_le _, rfl, by simpa using Hh4, Hown⟩
            case round =>
              obtain ⟨m, hm, rfl, hhm, hom⟩ := hrel
              by_cases hlm : m < ws.length
              · have hmi : (m : Int) < (ws.length : Int) := by omega
                obtain ⟨A6, c6, e6, hR6⟩ := own_shape hom.out
                injection e6 with e6 _ e7
                subst e6 e7
                obtain ⟨sb, sq, rfl, hsb, hsc⟩ := hR6.2 (by omega)
                have z0 := hsc m _ (sv_get ws m hlm)
                obtain ⟨E, hE, hS⟩ := hhm.out.ex
                have hls : (wdsF name (fs.take j) ++ (ws.take m).map str).length ≤ (wdsF name (fs.take (j + 1))).length := by
                  rw [Hst2.out, List.length_append, List.length_append, List.length_map, List.length_map, List.length_take, List.length_take]; omega
                have hnlt : (wdsF name (fs.take j) ++ (ws.take m).map str).length < maxLen := by
                  have h1 := Hle.out
                  have h2 := Hts.out
                  unfold maxLen
                  omega
                have hss : (str ws[m]).size ≤ maxLen := Nat.le_trans (hws32.out _ (List.getElem_mem hlm)) (by unfold maxLen; omega)
                have hkey := keyW hss
                have hnext : wdsF name (fs.take j) ++ (ws.take (m + 1)).map str = wdsF name (fs.take j) ++ (ws.take m).map str ++ [str ws[m]] := by
                  rw [List.take_succ_eq_append_getElem hlm, List.map_append, List.append_assoc]; rfl
                have Hnext := Lib.hid hnext
                generalize str ws[m] = sw at *
                have hHne : ∀ u : Nat, some u = Value.ownBlock (.slice (some ⟨sb, sq, none⟩) ws.length c5) → u ≠ wo.heap.size + 1 := fun u e => by have := (hom.out.lt u e.symm).1; omega
                have hz := hhm.out.bel.size
                have Hhm := Lib.hid hhm.out.bel
                have Hom := Lib.hid hom.out
                clear hhm hom hnext hls hR6 hsc
                gi_wp2_with (first
                  | (gi_at_mapUpdate; (refine wpListIn_mapUpdate_own _ rfl _ _ _ 90 rfl 9 92 lawS Tryz.underlying90 _ (wo.heap.size + 1) _ _ rfl hE hnlt _ _ _ rfl rfl hkey _ [] unitElem_mk ?_; intro w6 hE6 hg6; go_frame))
                  | gi_in)
                have hS6 := hS.put hE.isMap sw (.agg [])
                have hh6 : Hid (HasAt wo w6 (wo.heap.size + 1) (wdsF name (fs.take j) ++ (ws.take (m + 1)).map str)) := Lib.hid ⟨⟨_, by rw [Hnext.out, List.length_append]; exact hE6, by rw [Hnext.out]; exact hS6⟩, Hhm.out.grown hg6 hz (fun i hi => by injection hi with hi; omega)⟩
                have ho6 := Lib.hid (Hom.out.kept hg6 (by
                  cases hv : Value.ownBlock (.slice (some ⟨sb, sq, none⟩) ws.length c5) with
                  | none => exact .inl rfl
                  | some u => exact .inr (fun e => by injection e with e; exact hHne u hv.symm e)))
                clear hE6 hg6 hE hS hS6
                go_roundw
                case rel => exact ⟨m + 1, by omega, by go_num, hh6, ho6⟩
                case measure => simp [intOf]; omega
              · obtain rfl : m = ws.length := by omega
                gi_wp2
                go_roundw
                case rel => exact ⟨j + 1, by omega, by go_num, Lib.hid (by rw [Hst2.out]; exact hhm.out)⟩
                case measure => simp [intOf]; omega
          · rw [if_neg hnm, List.append_nil] at hst
            rw [decide_eq_false hnm] at hbq
            have hbn : (nm.toList != name.toList) = true := by rw [bne, hbq]; rfl
            have Hst := Lib.hid hst
            clear hst hnm
            gi_wp2
            go_roundw
            case rel => exact ⟨j + 1, by omega, by go_num, Lib.hid (by rw [Hst.out]; exact hh2.out)⟩
            case measure => simp [intOf]; omega
        · obtain rfl : j = fn := by omega
          have hall : fs.take j = fs := List.take_of_length_le (by omega)
          rw [hall] at hh
          obtain ⟨E, hE, hS⟩ := hh.out.ex
          have hsz := hE.size_le
          have hbelw := hO.out.bel.trans (hh.out.bel.mono hO.out.bel.size)
          have hzo := hO.out.bel.size
          have hzr := hh.out.bel.size
          have hMlt : M + 1 < wo.heap.size := hO.out.box.lt
          obtain ⟨D0, hD0, hT0⟩ := hO.out.tab
          obtain ⟨Bs, hds, hnd, hBs⟩ := hO.out.marks
          have HDS := Lib.hid hds
          clear hds
          have hfin : ∀ (s : ByteArray) (xs : List Ky), Came E (fun _ => false) xs → cntN name (ds.take k) s + xs.countP (fun x => decide (x.1 = s)) = cntN name (ds.take (k + 1)) s := fun s xs hx => by rw [came_count hx hS, Hcs.out]
          have hbM : wo.heap.size + 1 ≠ M := by omega
          have hgM := grow_of_below hh.out.bel none
          have Hcl : ∀ s, cntN name (ds.take k) s ≤ k := fun s => by have := cntN_le name (ds.take k) s; rw [List.length_take] at this; omega
          gi_wp2_with fail
          refine ⟨trivial, (keys_in _ (wo.heap.size + 1) _).mono ?_⟩
          rintro e w' ⟨rfl, rfl⟩
          gi_wp2_with fail
          have bO := Blk.new wr 90 #[.map (some (wo.heap.size + 1))]
          have hE2 := hE.alloc (.cells #[.map (some (wo.heap.size + 1))] 90)
          have hgA := World.grownBy_alloc wr (.cells #[.map (some (wo.heap.size + 1))] 90) none
          have hA : Below wr.heap.size wr (wr.alloc (.cells #[.map (some (wo.heap.size + 1))] 90)) := (Below.refl _ _).alloc (Nat.le_refl _) _
          have hzA : (wr.alloc (.cells #[.map (some (wo.heap.size + 1))] 90)).heap.size = wr.heap.size + 1 := by simp
          generalize hW0 : wr.alloc (.cells #[.map (some (wo.heap.size + 1))] 90) = W0 at *
          have hc0 := bO.cell 0
          simp only [List.getElem?_toArray, List.getElem?_cons_zero] at hc0
          refine wpIn_rangeFunc_ownG rfl (by omega) (gf := 62) (lb := #[.pointer (some ⟨wr.heap.size, 0, none⟩)]) rfl trivial (enters_of Tryz.func62 (by kernel_rfl) rfl)
            (keys_stops 3 (by omega) wr.heap.size (wo.heap.size + 1) _ M E W0 (by omega) (by omega) hbM hc0 hE2) (fun h k => h.trans k) (fun W l o o' _ hl _ hw => KWB.putObj W l o o' hl hw) (Below.refl _ _) (fun _ => rfl)
            (fun pre W => TabM W M (totW name (ds.take k) + pre.length) (tabOf (fun s => cntN name (ds.take k) s + pre.countP (fun x => decide (x.1 = s)))) ∧ Blk W (M + 1) 77 #[.map (some M)] ∧ Below w.heap.size w W ∧ ∀ D ∈ Bs, W.heap[D]? = some (.deferred (some [])))
            (fun _ _ _ => False)
            (fun pre X Y row hs hg hr => ⟨hs.1.kept hg (fun e => by have := (hr M e.symm).1; omega), hs.2.1.grown hg (fun e => by have := (hr (M + 1) e.symm).1; omega), hs.2.2.1.grown hg hs.2.2.1.size (fun j hj => by have := (hr j hj).1; omega), fun D hD => (hg.block D (Array.getElem?_eq_some_iff.1 (hs.2.2.2 D hD)).1 (fun e => by
              have h1 := (hr D e.symm).1
              have h2 := (Array.getElem?_eq_some_iff.1 (hBs D hD).2).1
              omega)).trans (hs.2.2.2 D hD)⟩)
            (fun _ _ _ _ _ hs _ _ => hs)
            ⟨⟨D0, ((hD0.kept hgM (by simp)).kept hgA (by simp)).mono (by omega), by simpa using hT0⟩, (hO.out.box.below hh.out.bel (by omega)).below hA (by omega), hbelw.trans (hA.mono (by omega)), fun D hD => by
              have h2 := (Array.getElem?_eq_some_iff.1 (hBs D hD).2).1
              exact ((hA.block D (by omega)).trans (hh.out.bel.block D h2)).trans (hBs D hD).2⟩
            ?a1 ?assign ?body ?done ?stop
          case assign =>
            intro l x W K hK
            gi_wp2
            exact hK
          case body =>
            rintro l pre x W ⟨hT, hBx, hB, hMk⟩ hlt
            obtain ⟨D7, hD7, hT7⟩ := hT
            have hb0 := hBx.cell 0
            simp only [List.getElem?_toArray, List.getElem?_cons_zero] at hb0
            have hkey := keyW x.2
            have hct : pre.countP (fun y => decide (y.1 = x.1)) ≤ pre.length := List.countP_le_length
            have hcl := Hcl x.1
            have hplen : pre.length < 1048576 := by
              have h2 := Hts.out
              omega
            obtain ⟨g, hg⟩ : ∃ g : Nat, g = cntN name (ds.take k) x.1 + pre.countP (fun y => decide (y.1 = x.1)) := ⟨_, rfl⟩
            have hgb : g ≤ 2097152 := by omega
            have hwrap : IntKind.i64.wrap ((g : Int) + 1) = (g : Int) + 1 := IntWalk.i64_in _ (by omega)
            have hwf : (Lit.int .i64 ((g : Int) + 1)).wf = true := i64_ok _ (by omega) (by omega)
            have hget : ((tabOf (fun s => cntN name (ds.take k) s + pre.countP (fun x => decide (x.1 = s)))) x.1).getD 0 = (g : Int) := by rw [tabOf_get, hg]
            have hput := tabOf_put (fun s => cntN name (ds.take k) s + pre.countP (fun x => decide (x.1 = s))) x.1
            rw [← hg] at hput
            have hnlt : totW name (ds.take k) + pre.length < maxLen := by
              have h2 := Hts.out
              unfold maxLen
              omega
            have HT7 := Lib.hid hT7
            have Hput := Lib.hid hput
            have Hget := Lib.hid hget
            have HB := Lib.hid hB
            have HMk := Lib.hid hMk
            have HBx := Lib.hid hBx
            clear hT7 hput hget hB hMk hBx hg
            gi_wp2_with (first
              | (gi_at_lookup; (refine wpListIn_lookup_own_int _ rfl _ _ 77 rfl 9 3 .i64 lawS Tryz.underlying77 Tryz.underlying3 (Tryz.zeroValue3 _) M _ D7 rfl hD7 _ _ rfl hkey ?_; intro cc hat hwc; have hcc := HT7.out.at_ hat; rw [Hget.out] at hcc; subst hcc; clear hat hwc))
              | (gi_at_mapUpdate; (refine wpListIn_mapUpdate_own _ rfl _ _ _ 77 rfl 9 3 lawS Tryz.underlying77 _ M _ _ rfl hD7 hnlt _ _ _ rfl rfl hkey _ [] (plainElem_int Tryz.underlying3 hwf) ?_; intro w8 hD8 hg8))
              | gi_in)
            refine ⟨KeepsFrom.of_grownBy hg8 (fun j e => by injection e with e; omega), KWB.grown hg8, ⟨_, by rw [List.length_append, List.length_singleton, ← Nat.add_assoc]; exact hD8, ?_⟩, HBx.out.grown hg8 (fun e => by injection e with e; omega), HB.out.grown hg8 HB.out.size (fun j e => by injection e with e; omega), fun D hD => (hg8.block D (Array.getElem?_eq_some_iff.1 (HMk.out D hD)).1 (fun e => ?_)).trans (HMk.out D hD)⟩
            · have h8 := HT7.out.put hD7.isMap x.1 ((g : Int) + 1)
              rw [Hput.out] at h8
              rwa [tabOf_congr (g' := fun s => cntN name (ds.take k) s + (pre ++ [x]).countP (fun x => decide (x.1 = s))) (fun s => by
                rw [List.countP_append]
                by_cases e : s = x.1
                · subst e; simp [Nat.add_assoc]
                · have e2 : ¬ x.1 = s := fun h => e h.symm
                  simp [e, e2])] at h8
            · injection e with e
              have hm8 := HMk.out D hD
              obtain ⟨es, ck, hes, _⟩ := hD7
              rw [← e] at hes
              rw [hm8] at hes
              cases hes
          case done =>
            rintro D xs W hD hS7 ⟨hT, hBx, hB, hMk⟩ hK
            have hxl : xs.length ≤ (wdsF name fs).length := Nat.le_trans hS7.2 hsz
            have hT9 : TabM W M (totW name (ds.take (k + 1))) (tabOf (cntN name (ds.take (k + 1)))) := by
              obtain ⟨D7, hD7, hT7⟩ := hT
              refine ⟨D7, hD7.mono (by have := Hts.out.1; omega), ?_⟩
              rwa [tabOf_congr (g' := cntN name (ds.take (k + 1))) (fun s => hfin s xs hS7.1)] at hT7
            have hM9 : MarksOk w.heap.size W ({ target := .collected D, args := #[] } :: dfs) := by
              rw [HDS.out]
              refine ⟨D :: Bs, rfl, List.nodup_cons.2 ⟨fun hm => ?_, hnd⟩, fun x hx => ?_⟩
              · have := (Array.getElem?_eq_some_iff.1 (hBs D hm).2).1
                omega
              · rcases List.mem_cons.1 hx with rfl | hx
                · exact ⟨by omega, hK⟩
                · exact ⟨(hBs x hx).1, hMk x hx⟩
            have Ho9 : Hid (OfAt w W M name ds (k + 1) ({ target := .collected D, args := #[] } :: dfs)) := Lib.hid ⟨hT9, hBx, hB, hM9⟩
            clear hT hBx hB hMk hT9 hM9
            gi_wp2
            refine ⟨⟨_, _, _, _, _, _, _, _, _, _, _, _, _, _, _, _, _, _, _, _, _, _, _, _, _, _, _, _, _, _, _, _, _, _, _, _, _, _, _, _, _, _, _, _, _, _, ?rel, rfl⟩, ?measure⟩
            case rel => exact ⟨k + 1, by omega, by go_num, Ho9⟩
            case measure => simp [intOf]; omega
          case stop =>
            rintro D c pre W _ _ h _
            exact h.elim
    · obtain rfl : k = n := by omega
      have hall : ds.take k = ds := List.take_of_length_le (by rw [Hl.out]; exact Nat.le_refl _)
      have hO2 := hO.out
      have htab := hO2.tab
      rw [hall] at htab
      have c9 := row_any M (totW name ds) (tabOf (cntN name ds)) wr htab htot
      have hb0 := hO2.box.cell 0
      simp only [List.getElem?_toArray, List.getElem?_cons_zero] at hb0
      clear htab
      gi_wp2_with fail
      refine ⟨trivial, (callsIn_wide.2 c9).mono ?_⟩
      rintro e w9 ⟨l, hTab, hll, v, rfl, hown, hb9⟩
      have HTab := Lib.hid hTab
      have Hown := Lib.hid (own_base (B' := w.heap.size) hown hO2.bel.size)
      have Hb9 := Lib.hid (hO2.bel.trans (hb9.mono hO2.bel.size))
      have Hmk := Lib.hid (hO2.marks.below hb9)
      clear c9 hTab hown hb9 hO2
      gi_wp2
      refine leaves_marks dfs w9 Hmk.out (fun w' ht => ?_)
      exact ⟨_, results_tmp2 rfl _ _ _, l, HTab.out, Nat.le_trans hll htot, v, rfl, ht.own Hown.out, Hb9.out.trans ht.bel⟩
end Go.Proofs.YtdloacfoegjnmaaGreat.Gr
