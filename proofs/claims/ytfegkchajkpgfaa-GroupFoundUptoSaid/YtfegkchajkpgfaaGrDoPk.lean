/- The document's Docs at a word of a field: the walk (turned from DocsR). -/
import Derived.Test.YtfegkchajkpgfaaGrMtPk
import Derived.Test.YtfegkchajkpgfaaPkGroupRowsRow2
import Derived.Test.YtfegkchajkpgfaaGrowPk
namespace Go.Proofs.Ytfegkchajkpgfaa.Qy
open Go.RowKit Go.Proofs.Ytfegkchajkpgfaa Go.Proofs.Ytfegkchajkpgfaa.Ut Go.Proofs.Ytfegkchajkpgfaa.Tk
set_option maxRecDepth 20000
set_option linter.unusedSimpArgs false
set_option linter.unusedVariables false

theorem doc_info : (Try.prog.info? 43).map (fun i => (i.zero, i.size, i.bytes)) = some (some (.agg #[.int .i64 0, .int .i64 0, .slice none 0 0]), 3, 40) := by kernel_rfl
theorem own_shape2 {w : World} {base : Nat} {e : TypeId} {size n : Nat} {v : Value} {xs : List Value} (h : w.ownsRow base e size v n xs) :
    ∃ A c, v = .slice A n c ∧ Reads w w.heap.size size A n xs ∧ n ≤ c := by
  obtain ⟨A, c, rfl, hR⟩ := own_shape h
  refine ⟨A, c, rfl, hR, ?_⟩
  rcases h.2 with ⟨hv, h0⟩ | ⟨g, cap, cur, hv, _, hg, hnc, _⟩
  · omega
  · injection hv with hA _ hc
    omega
/-- Docs that can be read behind the call. -/
def DocRd (w : World) (ds : List Dc) (e : Ending) (w' : World) : Prop := ∃ A c, e = .returned (.slice A ds.length c) ∧ DocsAt w' w'.heap.size A ds.length ds ∧ ds.length ≤ c ∧ Below w.heap.size w w'
theorem DocsOwn.rd {w w0 wr : World} {v : Value} {ds : List Dc} (h : DocsOwn w wr v ds) (hb : Below w0.heap.size w0 wr) : DocRd w0 ds (.returned v) wr := by
  obtain ⟨vss, h1, h2, h3⟩ := h.ex
  obtain ⟨A, c, rfl, hR, hc⟩ := own_shape2 h2
  exact ⟨A, c, rfl, ⟨rfl, vss, h1, hR, fun i a b => (h3 i a b).1⟩, hc, hb⟩
theorem filter_take_succ {α : Type} (l : List α) (g : α → Bool) (i : Nat) (h : i < l.length) : (l.take (i + 1)).filter g = (l.take i).filter g ++ if g l[i] then [l[i]] else [] := by
  rw [List.take_succ_eq_append_getElem h, List.filter_append]
  by_cases hg : g l[i] <;> simp [hg]
theorem filter_take_len {α : Type} (l : List α) (g : α → Bool) (i : Nat) : ((l.take i).filter g).length ≤ l.length := by
  have h1 := List.length_filter_le g (l.take i)
  have h2 : (l.take i).length ≤ l.length := by rw [List.length_take]; omega
  omega
/-- Docs small enough to be looked at. -/
def Small (ds : List Dc) : Prop := ∀ d ∈ ds, d.fs.length ≤ 8796093021952 ∧ ∀ f ∈ d.fs, f.2.size ≤ 1048576

set_option maxHeartbeats 3200000 in
theorem docs_two (nm : ByteArray) (ws : List ByteArray) (l : List Q) (hone : ws.length = 1) (a0 a1 a2 a3 : Value) (A : Option Addr) (n c : Nat) (ds : List Dc) (w : World) (hQ : QAt w w.heap.size (.mk 2 nm ws l) [a0, a1, a2, a3]) (hD : DocsAt w w.heap.size A n ds) (hn : n ≤ 1048576) (hS : Small ds) :
    Calls Try.prog 36 #[.agg #[a0, a1, a2, a3], .slice A n c] w (DocRd w (ds.filter fun d => leafB 2 nm ws d.fs)) := by
  obtain ⟨i0, hi0, hz0, hz1, hz2x⟩ := info_parts doc_info
  obtain ⟨WA, m, wc, CA, n1, c2, e, _⟩ := hQ.is
  simp only [List.cons.injEq, and_true] at e
  obtain ⟨rfl, rfl, rfl, rfl⟩ := e
  have hb1 : Below w.heap.size w (w.alloc (.cells #[.int .i64 2, .string nm, .slice WA m wc, .slice CA n1 c2] 85)) := (Below.refl _ _).alloc (Nat.le_refl _) _
  have hB1 := Blk.new w 85 #[.int .i64 2, .string nm, .slice WA m wc, .slice CA n1 c2]
  have hQ1 := hQ.grow hb1
  have hD1 := hD.grow hb1
  have hz1' : w.heap.size < (w.alloc (.cells #[.int .i64 2, .string nm, .slice WA m wc, .slice CA n1 c2] 85)).heap.size := by simp
  have hM := fun d (_ : d ∈ ds) => rmatch_two d.fs nm ws l hone
  have HQ1 := Lib.hid hQ1
  have HD1 := Lib.hid hD1
  have HB1 := Lib.hid hB1
  have Hb1 := Lib.hid hb1
  have HM := Lib.hid hM
  have HS := Lib.hid hS
  have Hl := Lib.hid hD.ln
  have hS0 := DocsOwn.start (w.alloc (.cells #[.int .i64 2, .string nm, .slice WA m wc, .slice CA n1 c2] 85))
  have HS0 := Lib.hid hS0
  clear hQ hD hb1 hB1 hQ1 hD1 hM hS hS0 hone
  generalize hg : (fun d : Dc => leafB 2 nm ws d.fs) = g at *
  have Hg := Lib.hid hg
  clear hg
  go_enter Try.func36, Try.ntmps36
  go_wp2_with fail
  generalize hw1 : (w.alloc (.cells #[.int .i64 2, .string nm, .slice WA m wc, .slice CA n1 c2] 85)) = w1 at *
  clear hw1
  go_loopw [5, 6] (fun v i wr => ∃ k : Nat, k ≤ n ∧ i = .int .i64 k ∧ DocsOwn w1 wr v ((ds.take k).filter g)) (fun _ i _ => n - (intOf i).toNat)
  case atStart => exact ⟨0, Nat.zero_le _, rfl, HS0.out⟩
  case round =>
    obtain ⟨k, hk, rfl, hO⟩ := hrel
    have HO := Lib.hid hO
    clear hO
    by_cases hlt : k < n
    · have hkl : k < ds.length := by rw [Hl.out]; exact hlt
      obtain ⟨b, o, F, fn, fc, rfl, hb, hc0, hc1, hc2, hR, hfl, hfn, hfc, hnil⟩ := (HD1.out.keep fun _ _ hp => HO.out.bel.cell hp).at_ hkl
      have hsm := HS.out _ (List.getElem_mem hkl)
      have hts := filter_take_succ ds g k hkl
      have hmt := HM.out _ (List.getElem_mem hkl)
      have hgd : g ds[k] = leafB 2 nm ws ds[k].fs := by rw [← Hg.out]
      have hBr := HB1.out.below HO.out.bel hz1'
      have hQr := HQ1.out.grow HO.out.bel
      have hlen := filter_take_len ds g k
      rw [Hl.out] at hlen
      have hzz := HO.out.bel.size
      have hbr : b < wr.heap.size := by omega
      have c1 := fun wx (hC : Below wr.heap.size wr wx) => hmt wx _ _ _ _ ds[k].at_ F fn fc (hQr.grow hC) (EvAt.grow ⟨hR.more hzz, hfl, by omega, hsm.2⟩ hC)
      rw [← hgd] at c1
      have hlq := hBr.lt
      have hcells : ∀ wx, Below wr.heap.size wr wx → wx.cell? ⟨w.heap.size, 0, none⟩ = some (.int .i64 2) ∧ wx.cell? ⟨w.heap.size, 1, none⟩ = some (.string nm) ∧ wx.cell? ⟨w.heap.size, 2, none⟩ = some (.slice WA m wc) ∧ wx.cell? ⟨w.heap.size, 3, none⟩ = some (.slice CA n1 c2) ∧
          wx.cell? ⟨b, o + k * 3, none⟩ = some (.int .i64 ds[k].seq) ∧ wx.cell? ⟨b, o + k * 3 + 1, none⟩ = some (.int .i64 ds[k].at_) ∧ wx.cell? ⟨b, o + k * 3 + 2, none⟩ = some (.slice F fn fc) := fun wx hC =>
        ⟨(hBr.below hC hlq).cell 0, (hBr.below hC hlq).cell 1, (hBr.below hC hlq).cell 2, (hBr.below hC hlq).cell 3, (hC.cell (p := ⟨b, o + k * 3, none⟩) hbr).trans hc0, (hC.cell (p := ⟨b, o + k * 3 + 1, none⟩) hbr).trans hc1, (hC.cell (p := ⟨b, o + k * 3 + 2, none⟩) hbr).trans hc2⟩
      have hfar : 0 < fn → ∃ b' o', F = some ⟨b', o', none⟩ ∧ b' < w1.heap.size := fun h => by
        obtain ⟨b', o', e, h1, _⟩ := hR.2 h
        exact ⟨b', o', e, h1⟩
      have hdc : DcV wr wr.heap.size ds[k] [.int .i64 ds[k].seq, .int .i64 ds[k].at_, .slice F fn fc] := ⟨F, fn, fc, rfl, hR.more hzz, hfl, hfn, hfc, hnil⟩
      have hix0 : (0 : Int) ≤ (k : Int) := by omega
      have hix1 : (k : Int) < (n : Int) := by omega
      have Hts := Lib.hid hts
      have C1 := Lib.hid c1
      have hcells' := Lib.hid hcells
      have Hfar := Lib.hid hfar
      have Hdc := Lib.hid hdc
      clear hts hmt hgd hBr hQr hR hfl hsm hnil c1 hcells hfar hdc hc0 hc1 hc2
      generalize g ds[k] = r at *
      generalize ds[k].seq = s at *
      generalize ds[k].at_ = a at *
      generalize ds[k] = d at *
      generalize (ds.take k).filter g = out at *
      go_wp2_with fail
      refine wp_region_grow (specOf [(6, ⟨Unit, fun _ => (.bool r), fun _ _ => True⟩)]) (fun wx => Below (World.heap wr).size wr wx) (fun w1 w2 => Below w1.heap.size w1 w2) (by kernel_rfl) (by kernel_rfl) (stab_cons (fun _ _ _ _ h => h) (stab_nil)) (Below.refl _ _).drew ?_
      refine grow_fix 1 ?_ rfl (by rfl) (by rfl) (fun wx hC hD => ?_) ?_
      rotate_left
      · have hSw := hcells'.out wx hC
        go_simp
        all_goals with_reducible rfl
      try simp only [Act.put, List.setIfInBounds_toArray, List.set_cons_zero, List.set_cons_succ]
      refine grow_fix 2 ?_ rfl (by rfl) (by rfl) (fun wx hC hD => ?_) ?_
      rotate_left
      · have hSw := hcells'.out wx hC
        go_simp
        all_goals with_reducible rfl
      try simp only [Act.put, List.setIfInBounds_toArray, List.set_cons_zero, List.set_cons_succ]
      refine grow_fix 3 ?_ rfl (by rfl) (by rfl) (fun wx hC hD => ?_) ?_
      rotate_left
      · have hSw := hcells'.out wx hC
        go_simp
        all_goals with_reducible rfl
      try simp only [Act.put, List.setIfInBounds_toArray, List.set_cons_zero, List.set_cons_succ]
      refine grow_fix 4 ?_ rfl (by rfl) (by rfl) (fun wx hC hD => ?_) ?_
      rotate_left
      · have hSw := hcells'.out wx hC
        go_simp
        all_goals with_reducible rfl
      try simp only [Act.put, List.setIfInBounds_toArray, List.set_cons_zero, List.set_cons_succ]
      refine grow_fix 5 ?_ rfl (by rfl) (by rfl) (fun wx hC hD => ?_) ?_
      rotate_left
      · have hSw := hcells'.out wx hC
        go_simp
        all_goals with_reducible rfl
      try simp only [Act.put, List.setIfInBounds_toArray, List.set_cons_zero, List.set_cons_succ]
      refine grow_fix 6 ?_ rfl (by rfl) (by rfl) (fun wx hC hD => ?_) ?_
      rotate_left
      · have hSw := hcells'.out wx hC
        go_simp
        all_goals with_reducible rfl
      try simp only [Act.put, List.setIfInBounds_toArray, List.set_cons_zero, List.set_cons_succ]
      refine grow_give 7 _ rfl (by rfl) (by rfl) (fun wx hC hD => ?_) (fun x => ?_)
      · refine give_enter (f := ?_) (args := ?_) ?_ ?_
        rotate_left 2
        · have hSw := hcells'.out wx hC
          go_simp
          all_goals first | with_reducible rfl | (refine ⟨?_, ?_⟩ <;> with_reducible rfl)
        exact calls_cst hC (C1.out wx hC)
      obtain ⟨⟩ := x
      try simp only [Act.put, List.setIfInBounds_toArray, List.set_cons_zero, List.set_cons_succ]
      refine grow_nil (fun w2 hC hF => ?_)
      have hbw2 := hC
      have HO2 := Lib.hid (HO.out.below hbw2)
      have Hbw2 := Lib.hid hbw2
      have hd := hcells'.out w2 hC
      obtain ⟨_, _, _, _, hd0, hd1, hd2⟩ := hd
      have hz2 := hbw2.size
      have hb2 : b < w2.heap.size := by omega
      clear hF hC hbw2
      cases r with
      | false =>
        have Hts2 : Hid ((ds.take (k + 1)).filter g = out) := Lib.hid (by rw [Hts.out]; simp)
        go_wp2
        go_roundw
        case rel => exact ⟨k + 1, by omega, by go_num, by rw [Hts2.out]; exact HO2.out⟩
        case measure => simp [intOf]; omega
      | true =>
        have Hts2 : Hid ((ds.take (k + 1)).filter g = out ++ [d]) := Lib.hid (by rw [Hts.out]; simp)
        have hal : Below w2.heap.size w2 (w2.alloc (.cells #[.int .i64 s, .int .i64 a, .slice F fn fc] 43)) := (Below.refl _ _).alloc (Nat.le_refl _) _
        have hO3 := HO2.out.below hal
        obtain ⟨vss, g1, g2, g3⟩ := hO3.ex
        have hput : ∀ v' w5, w5.ownsRow w1.heap.size 43 3 v' (out.length + 1) (vss.flatten ++ [.int .i64 s, .int .i64 a, .slice F fn fc]) → ((w2.alloc (.cells #[.int .i64 s, .int .i64 a, .slice F fn fc] 43))).grownBy w5 u5.ownBlock → DocsOwn w1 w5 v' (out ++ [d]) :=
          fun v' w5 h1 h2 => hO3.put ⟨vss, g1, g2, g3, rfl⟩ h1 h2 ((Hdc.out.keep fun _ _ hp => (Hbw2.out.trans (hal.mono hz2)).cell hp).more (by have := hal.size; omega)) (fun F' fn' fc' hv hn' => by
            simp only [List.getElem?_cons_succ, List.getElem?_cons_zero, Option.some.injEq, Value.slice.injEq] at hv
            obtain ⟨rfl, rfl, rfl⟩ := hv
            obtain ⟨b', o', e, h⟩ := Hfar.out hn'
            exact ⟨b', o', e, .inl h⟩)
        have Hput := Lib.hid hput
        have hzw : w1.heap.size ≤ w2.heap.size := by omega
        clear hput g1 g3 hO3 hal
        go_wp2_with (at_builtin; refine wpList_append_own _ rfl _ _ 28 rfl w1.heap.size 43 i0 _ 3 40 Try.underlying28 hi0 hz0 hz1 hz2x rfl (by decide) _ _ _ rfl g2 ⟨w2.heap.size, 0, none⟩ 1 1 [.int .i64 s, .int .i64 a, .slice F fn fc] rfl rfl ?d1 ?d2 ?d3 ?d4 ?d5 ?_)
        try (case d1 => exact World.news_of_block (cs := #[.int .i64 s, .int .i64 a, .slice F fn fc]) (t := 43) (fr := (0, 0)) (heap_alloc_new w2 _))
        case d2 => first | (intro u hu; simp at hu; rcases hu with rfl | rfl | rfl <;> rfl) | rfl | simp [Value.oneCell']
        case d3 => unfold maxLen; omega
        case d4 => omega
        case d5 => first | omega | (simp; omega)
        intro v' w5 hown5 hg5 _
        have Fin := Lib.hid (Hput.out v' w5 hown5 hg5)
        clear hown5 hg5
        go_wp2
        go_roundw
        case rel => exact ⟨k + 1, by omega, by go_num, by rw [Hts2.out]; exact Fin.out⟩
        case measure => simp [intOf]; omega
    · obtain rfl : k = n := by omega
      have Fin : Hid ((ds.take k).filter g = ds.filter g) := Lib.hid (by rw [List.take_of_length_le (by rw [Hl.out]; exact Nat.le_refl _)])
      rw [Fin.out] at HO
      have Hfin := Lib.hid (HO.out.rd (Hb1.out.trans (HO.out.bel.mono Hb1.out.size)))
      go_wp2
      go_ret
      exact Hfin.out
end Go.Proofs.Ytfegkchajkpgfaa.Qy
