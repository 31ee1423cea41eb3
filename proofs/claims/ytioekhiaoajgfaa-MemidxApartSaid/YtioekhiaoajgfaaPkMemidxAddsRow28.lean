/- memidx: Len, Size, Times, Seqs: the walks. -/
import Derived.BigQuiet
import Derived.OwnWalk
import Derived.Laws.ResultCell
import Derived.Test.YtioekhiaoajgfaaMxRPk
section
namespace Go.Proofs.Ytioekhiaoajgfaa.Mx
open Go.RowKit Go.Proofs.Ytioekhiaoajgfaa Go.Proofs.Ytioekhiaoajgfaa.Ut Go.Proofs.Ytioekhiaoajgfaa.Tk Go.Proofs.Ytioekhiaoajgfaa.Qy Go.Proofs.Ytioekhiaoajgfaa.Ev Go.Proofs.Ytioekhiaoajgfaa.Qp Go.Proofs.Ytioekhiaoajgfaa.Mv
set_option linter.unusedVariables false
set_option linter.unusedSimpArgs false
set_option maxRecDepth 20000

section
variable {w : World} {n0 X M cn : Nat} {v : Value} {F : ByteArray → Option Value} {O : Nat → Prop} {ds : List Dc} {sz lo hi : Int} {f : ByteArray → List Po}
theorem len_any (h : Idx w n0 X M cn v F O ds sz lo hi f) :
    Calls Try.prog 20 #[.pointer (some ⟨X, 0, none⟩)] w fun e w' => e = .returned (.int .i64 (ds.length : Nat)) ∧ w = w' := by
  have c1 := Lib.hid (none_no h)
  obtain ⟨A8, c8, rfl, _, _⟩ := h.docs_v
  have c3 := h.blk.cell 3
  simp only [List.getElem?_toArray, List.getElem?_cons_zero, List.getElem?_cons_succ] at c3
  clear h
  go_enter Try.func20, Try.ntmps20
  go_wp2_with fail
  refine c1.out.mono ?_
  rintro e w' ⟨rfl, rfl⟩
  go_wp2
  go_ret
  exact ⟨rfl, rfl⟩
theorem all_any (w : World) (X : Nat) (sz : Int) (h : w.cell? ⟨X, 0, none⟩ = some (.int .i64 sz)) :
    Calls Try.prog 39 #[.pointer (some ⟨X, 0, none⟩)] w fun e w' => e = .returned (.int .i64 sz) ∧ w = w' := by
  go_enter Try.func39, Try.ntmps39
  go_wp2
  go_ret
  exact ⟨rfl, rfl⟩
theorem sizeX_any (h : Idx w n0 X M cn v F O ds sz lo hi f) :
    Calls Try.prog 21 #[.pointer (some ⟨X, 0, none⟩)] w fun e w' => e = .returned (.int .i64 sz) ∧ w = w' := by
  have c1 := Lib.hid (none_no h)
  have c0 := h.blk.cell 0
  simp only [List.getElem?_toArray, List.getElem?_cons_zero, List.getElem?_cons_succ] at c0
  have c2 := Lib.hid (all_any w X sz c0)
  clear h c0
  go_enter Try.func21, Try.ntmps21
  go_wp2_with fail
  refine c1.out.mono ?_
  rintro e w' ⟨rfl, rfl⟩
  go_wp2_with fail
  refine c2.out.mono ?_
  rintro e w' ⟨rfl, rfl⟩
  go_wp2
  go_ret
  exact ⟨rfl, rfl⟩
/-- What Times tells. -/
def timesV (ds : List Dc) (lo hi : Int) : Value := .tuple #[.int .i64 (if ds = [] then 0 else lo), .int .i64 (if ds = [] then 0 else hi), .bool (decide (ds ≠ []))]
theorem times_any (h : Idx w n0 X M cn v F O ds sz lo hi f) :
    Calls Try.prog 32 #[.pointer (some ⟨X, 0, none⟩)] w fun e w' => e = .returned (timesV ds lo hi) ∧ Below w.heap.size w w' := by
  have c2 := Lib.hid (len_any h)
  have H := Lib.hid h
  have k1 := h.blk.cell 1
  have k2 := h.blk.cell 2
  simp only [List.getElem?_toArray, List.getElem?_cons_zero, List.getElem?_cons_succ] at k1 k2
  clear h
  go_enter Try.func32, Try.ntmps32
  go_wp2_with fail
  refine c2.out.mono ?_
  rintro e w' ⟨rfl, rfl⟩
  by_cases h0 : ds = []
  · subst h0
    have hz : ((0 : Int) == 0) = true := rfl
    go_wp2
    go_ret3
    exact ⟨rfl, Below.refl _ _⟩
  · have hp := List.length_pos_iff.2 h0
    have hz : ((ds.length : Int) == 0) = false := beq_eq_false_iff_ne.2 (by omega)
    have hzn : (ds.length == 0) = false := beq_eq_false_iff_ne.2 (by omega)
    have H0 : Hid (timesV ds lo hi = .tuple #[.int .i64 lo, .int .i64 hi, .bool true]) := Lib.hid (by unfold timesV; rw [if_neg h0, if_neg h0, decide_eq_true h0])
    clear h0
    go_wp2_with fail
    go_quiet (fail)
    go_wp2
    go_ret3
    exact ⟨congrArg Ending.returned H0.out.symm, below_dn w nq⟩
/-- What Seqs tells. -/
def seqsV (ds : List Dc) : Value := .tuple #[.int .i64 ((ds.head?.map (·.seq)).getD 0), .int .i64 ((ds.getLast?.map (·.seq)).getD 0)]
theorem seqs_any (h : Idx w n0 X M cn v F O ds sz lo hi f) (hfew : ds.length ≤ 65536) :
    Calls Try.prog 34 #[.pointer (some ⟨X, 0, none⟩)] w fun e w' => e = .returned (seqsV ds) ∧ Below w.heap.size w w' := by
  have c2 := Lib.hid (len_any h)
  obtain ⟨A8, c8, rfl, hc8, hn8⟩ := h.docs_v
  have H := Lib.hid h
  have k3 := h.blk.cell 3
  simp only [List.getElem?_toArray, List.getElem?_cons_zero, List.getElem?_cons_succ] at k3
  clear h
  go_enter Try.func34, Try.ntmps34
  go_wp2_with fail
  refine c2.out.mono ?_
  rintro e w' ⟨rfl, rfl⟩
  by_cases h0 : ds = []
  · subst h0
    have hz : ((0 : Int) == 0) = true := rfl
    go_wp2
    go_ret2
    exact ⟨rfl, Below.refl _ _⟩
  · have hp := List.length_pos_iff.2 h0
    have hz : ((ds.length : Int) == 0) = false := beq_eq_false_iff_ne.2 (by omega)
    have hzn : (ds.length == 0) = false := beq_eq_false_iff_ne.2 (by omega)
    obtain ⟨g, Fa, fn, fc, e1, hg, q0, qr⟩ := H.out.doc_at hp
    obtain ⟨g', Fa', fn', fc', e2, hg', r0, rr⟩ := H.out.doc_at (i := ds.length - 1) (by omega)
    clear qr rr
    rw [e1] at e2
    injection e2 with e2
    injection e2 with e2 _
    subst e2 e1
    have hs : seqsV ds = .tuple #[.int .i64 ds[0].seq, .int .i64 ds[ds.length - 1].seq] := by
      unfold seqsV
      rw [List.head?_eq_getElem?, List.getLast?_eq_getElem?, List.getElem?_eq_getElem hp, List.getElem?_eq_getElem (by omega)]
      rfl
    have HS := Lib.hid hs
    have hd1 : (ds.length : Int) - 1 = ((ds.length - 1 : Nat) : Int) := by omega
    generalize ds[0].seq = s0 at *
    generalize ds[ds.length - 1].seq = s1 at *
    have hm1 : ds.length - 1 < ds.length := by omega
    have hpz : (0 : Int) < (ds.length : Int) := by omega
    clear hs h0 H c2
    generalize hm : ds.length = m at *
    clear hm
    generalize hm' : m - 1 = m1 at *
    clear hm'
    have hd2 : IntKind.i64.wrap (m1 : Int) = (m1 : Int) := by rw [IntKind.wrap_i64]; omega
    have hd3 : (0 : Int) ≤ (m1 : Int) := by omega
    have hd4 : (m1 : Int) < (m : Int) := by omega
    have q0' : w.cell? ⟨g, 0, none⟩ = some (.int .i64 s0) := by simpa using q0
    clear q0
    go_wp2_with fail
    go_quiet (fail)
    go_wp2
    go_ret2
    exact ⟨congrArg Ending.returned HS.out.symm, below_dn w nq⟩
end
end Go.Proofs.Ytioekhiaoajgfaa.Mx
end

section
/- memidx: copied, Doc, Docs: the walks. -/
namespace Go.Proofs.Ytioekhiaoajgfaa.Mx
open Go.RowKit Go.Proofs.Ytioekhiaoajgfaa Go.Proofs.Ytioekhiaoajgfaa.Ut Go.Proofs.Ytioekhiaoajgfaa.Tk Go.Proofs.Ytioekhiaoajgfaa.Qy Go.Proofs.Ytioekhiaoajgfaa.Ev Go.Proofs.Ytioekhiaoajgfaa.Qp Go.Proofs.Ytioekhiaoajgfaa.Mv
set_option linter.unusedVariables false
set_option linter.unusedSimpArgs false
set_option maxRecDepth 20000

def CopPost (w : World) (d : Dc) (e : Ending) (w' : World) : Prop := ∃ A c, e = .returned (.agg #[.int .i64 d.seq, .int .i64 d.at_, .slice A d.fs.length c]) ∧ d.fs.length ≤ c ∧ (A = none → c = 0) ∧ w'.ownsRow w.heap.size 87 2 (.slice A d.fs.length c) d.fs.length (fldC d.fs) ∧ Below w.heap.size w w'
set_option maxHeartbeats 800000 in
theorem copied_any (d : Dc) (Fa : Option Addr) (fn fc : Nat) (w : World) (hF : Reads w w.heap.size 2 Fa fn (fldC d.fs)) (hl : d.fs.length = fn) (hn : fn ≤ 1048576) (hnil : Fa = none → fc = 0) :
    Calls Try.prog 23 #[.agg #[.int .i64 d.seq, .int .i64 d.at_, .slice Fa fn fc]] w (CopPost w d) := by
  subst hl
  obtain ⟨i0, hi0, hz0, hz1, hz2⟩ := info_parts doc_info
  have hB1 : Below w.heap.size w ((w.alloc (.cells #[.int .i64 d.seq, .int .i64 d.at_, .slice Fa d.fs.length fc] 43)).alloc (.cells #[.int .i64 0, .int .i64 0, .slice none 0 0] 43)) := ((Below.refl _ _).alloc (Nat.le_refl _) _).alloc (by simp) _
  have hX := (Blk.new w 43 #[.int .i64 d.seq, .int .i64 d.at_, .slice Fa d.fs.length fc]).alloc (.cells #[.int .i64 0, .int .i64 0, .slice none 0 0] 43)
  have hR := Blk.new (w.alloc (.cells #[.int .i64 d.seq, .int .i64 d.at_, .slice Fa d.fs.length fc] 43)) 43 #[.int .i64 0, .int .i64 0, .slice none 0 0]
  rw [World.size_alloc] at hR
  have c1 := cloneF_any Fa d.fs.length fc d.fs _ ((hF.below hB1).more hB1.size) rfl hn hnil
  have C1 := Lib.hid c1
  have H := Lib.hid (And.intro hX (And.intro hR hB1))
  have x2 := hX.cell 2
  simp only [List.getElem?_toArray, List.getElem?_cons_zero, List.getElem?_cons_succ] at x2
  clear c1 hX hR hB1
  go_enter Try.func23, Try.ntmps23
  go_wp2_with fail
  refine C1.out.mono ?_
  rintro e w3 ⟨v3, rfl, hown, hb⟩
  obtain ⟨A3, q3, rfl, hR3, hnq3, hnl3, hg3⟩ := own_shape2 hown
  have hX3 := H.out.1.below hb H.out.1.lt
  have hR3' := H.out.2.1.below hb H.out.2.1.lt
  have y0 := hX3.cell 0
  have y1 := hX3.cell 1
  have y2 := hX3.cell 2
  have y2f := hX3.frozen 2
  have z0 := hR3'.cell 0
  simp only [List.getElem?_toArray, List.getElem?_cons_zero, List.getElem?_cons_succ] at y0 y1 y2 z0
  clear x2
  go_upto_region 2 with fail
  have hX4 := hX3.set_ 2 (.slice A3 d.fs.length q3)
  have hR4 : Blk (w3.setCell ⟨w.heap.size, 2, none⟩ (.slice A3 d.fs.length q3)) (w.heap.size + 1) 43 #[.int .i64 0, .int .i64 0, .slice none 0 0] := hR3'.far (by show w.heap.size + 1 ≠ w.heap.size; omega) _
  have hown4 : (w3.setCell ⟨w.heap.size, 2, none⟩ (.slice A3 d.fs.length q3)).ownsRow w.heap.size 87 2 (.slice A3 d.fs.length q3) d.fs.length (fldC d.fs) := own_mono (hown.kept (grownBy_setC w3 w.heap.size 2 _) (.inr (fun e => by have := (hown.lt _ e).1; have := H.out.1.lt; omega))) H.out.2.2.size
  have hb4 : Below w.heap.size w (w3.setCell ⟨w.heap.size, 2, none⟩ (.slice A3 d.fs.length q3)) := (H.out.2.2.trans (hb.mono H.out.2.2.size)).setCell (p := ⟨w.heap.size, 2, none⟩) (Nat.le_refl _) _
  generalize (w3.setCell ⟨w.heap.size, 2, none⟩ (.slice A3 d.fs.length q3)) = w4 at *
  clear y0 y1 y2 y2f z0
  have y0 := hX4.cell 0
  have y1 := hX4.cell 1
  have y2 := hX4.cell 2
  have z0 := hR4.cell 0
  have z1 := hR4.cell 1
  have z2 := hR4.cell 2
  have z0f := hR4.frozen 0
  have z1f := hR4.frozen 1
  have z2f := hR4.frozen 2
  simp at y0 y1 y2 z0 z1 z2
  have HR4 := Lib.hid hR4
  have HO4 := Lib.hid hown4
  have HB4 := Lib.hid hb4
  clear hX4 hR4 hown4 hb4 hX3 hR3' hown hb hR3 hg3 C1 H hF
  go_wp2_with fail
  have hh : Blk (((w4.setCell ⟨w.heap.size + 1, 0, none⟩ (.int .i64 d.seq)).setCell ⟨w.heap.size + 1, 1, none⟩ (.int .i64 d.at_)).setCell ⟨w.heap.size + 1, 2, none⟩ (.slice A3 d.fs.length q3)) (w.heap.size + 1) 43 #[.int .i64 d.seq, .int .i64 d.at_, .slice A3 d.fs.length q3] := by
    have := ((HR4.out.set_ 0 (.int .i64 d.seq)).set_ 1 (.int .i64 d.at_)).set_ 2 (.slice A3 d.fs.length q3)
    simpa using this
  refine bodyPost_ret (results_cell rfl rfl (run_loadVar_row _ (w.heap.size + 1) 43 43 #[.int .i64 d.seq, .int .i64 d.at_, .slice A3 d.fs.length q3] (0, 0) _ hh Try.underlying43 rfl (by kernel_rfl))) rfl ⟨A3, q3, rfl, hnq3, hnl3, own_same HO4.out (fun b hb => ?_), ((HB4.out.setCell (p := ⟨w.heap.size + 1, 0, none⟩) (Nat.le_succ _) _).setCell (p := ⟨w.heap.size + 1, 1, none⟩) (Nat.le_succ _) _).setCell (p := ⟨w.heap.size + 1, 2, none⟩) (Nat.le_succ _) _⟩
  have hne : b ≠ w.heap.size + 1 := fun e => by
    subst e
    exact absurd ((tg_own HO4.out hb).one (tg_blk HR4.out)) (by decide)
  exact ((Below.heap_setCell _ ⟨w.heap.size + 1, 2, none⟩ _ b hne).trans (Below.heap_setCell _ ⟨w.heap.size + 1, 1, none⟩ _ b hne)).trans (Below.heap_setCell _ ⟨w.heap.size + 1, 0, none⟩ _ b hne)
/-- What the docs of an index read. -/
theorem Idx.fl_at {w : World} {n0 X M cn : Nat} {A : Option Addr} {m c : Nat} {F : ByteArray → Option Value} {O : Nat → Prop} {ds : List Dc} {sz lo hi : Int} {f : ByteArray → List Po} (h : Idx w n0 X M cn (.slice A m c) F O ds sz lo hi f) {i : Nat} (hi' : i < ds.length) :
    ∃ g Fa fc, A = some ⟨g, 0, none⟩ ∧ g < w.heap.size ∧ w.cell? ⟨g, i * 3, none⟩ = some (.int .i64 ds[i].seq) ∧ w.cell? ⟨g, i * 3 + 1, none⟩ = some (.int .i64 ds[i].at_) ∧ w.cell? ⟨g, i * 3 + 2, none⟩ = some (.slice Fa ds[i].fs.length fc) ∧
      Reads w w.heap.size 2 Fa ds[i].fs.length (fldC ds[i].fs) ∧ (Fa = none → fc = 0) := by
  obtain ⟨g, Fa, fn, fc, e, hg, c0, c1, c2, hr, hl, hn, hc, hnl⟩ := h.doc_at hi'
  subst hl
  exact ⟨g, Fa, fc, e, hg, c0, c1, c2, hr.reads (fun b hb => hb.lt), hnl⟩
/-- What Docs hands back. -/
def DocsP (w : World) (ds : List Dc) (e : Ending) (w' : World) : Prop := ∃ v, e = .returned v ∧ DOwn w' w.heap.size v ds ∧ Below w.heap.size w w'
set_option maxHeartbeats 3200000 in
theorem docsX_any {w : World} {n0 X M cn : Nat} {v : Value} {F : ByteArray → Option Value} {O : Nat → Prop} {ds : List Dc} {sz lo hi : Int} {f : ByteArray → List Po} (h : Idx w n0 X M cn v F O ds sz lo hi f) (hok : Dok ds) (hfew : ds.length ≤ 65536) :
    Calls Try.prog 9 #[.pointer (some ⟨X, 0, none⟩)] w (DocsP w ds) := by
  obtain ⟨i0, hi0, hz0, hz1, hz2⟩ := info_parts doc_info
  have c1 := Lib.hid (none_no h)
  obtain ⟨A8, c8, rfl, hc8, hn8⟩ := h.docs_v
  have k3 := h.blk.cell 3
  simp only [List.getElem?_toArray, List.getElem?_cons_zero, List.getElem?_cons_succ] at k3
  have HG : Hid (∀ wx, Below w.heap.size w wx → ∀ i (hi' : i < ds.length), ∃ g Fa fc, A8 = some ⟨g, 0, none⟩ ∧ g < wx.heap.size ∧ wx.cell? ⟨g, i * 3, none⟩ = some (.int .i64 ds[i].seq) ∧ wx.cell? ⟨g, i * 3 + 1, none⟩ = some (.int .i64 ds[i].at_) ∧ wx.cell? ⟨g, i * 3 + 2, none⟩ = some (.slice Fa ds[i].fs.length fc) ∧
      Reads wx wx.heap.size 2 Fa ds[i].fs.length (fldC ds[i].fs) ∧ (Fa = none → fc = 0)) := Lib.hid (fun wx hb i hi' => by
    obtain ⟨g, Fa, fc, e, hg, q0, q1, q2, hr, hnl⟩ := h.fl_at hi'
    exact ⟨g, Fa, fc, e, Nat.lt_of_lt_of_le hg hb.size, (hb.cell hg).trans q0, (hb.cell hg).trans q1, (hb.cell hg).trans q2, (hr.below hb).more hb.size, hnl⟩)
  have OK := Lib.hid hok
  clear h hok
  go_enter Try.func9, Try.ntmps9
  go_wp2_with fail
  refine c1.out.mono ?_
  rintro e w' ⟨rfl, rfl⟩
  go_wp2_with fail
  go_loopw [3, 13] (fun v i wr => ∃ k : Nat, k ≤ ds.length ∧ i = .int .i64 (k : Nat) ∧ Hid (DOwn wr w.heap.size v (ds.take k)) ∧ Hid (Below w.heap.size w wr)) (fun _ i _ => ds.length - (intOf i).toNat)
  case atStart => exact ⟨0, Nat.zero_le _, rfl, Lib.hid (DOwn.start _ _), Lib.hid (Below.refl _ _)⟩
  case round =>
    obtain ⟨k, hk, rfl, hO, hB⟩ := hrel
    by_cases hlt : k < ds.length
    · have hkz : (k : Int) < (ds.length : Int) := by omega
      have hk0 : (0 : Int) ≤ (k : Int) := by omega
      obtain ⟨g, Fa, fc, rfl, hg, q0, q1, q2, hr, hnl⟩ := HG.out wr hB.out k hlt
      have htk : ds.take (k + 1) = ds.take k ++ [ds[k]] := List.take_succ_eq_append_getElem hlt
      have hlnk : (ds.take k).length = k := by rw [List.length_take]; omega
      have hdk := OK.out _ (List.getElem_mem hlt)
      have hf16 := (chkE_ok hdk.1).1
      have HTK := Lib.hid htk
      have HLK := Lib.hid hlnk
      clear htk hlnk
      generalize ds[k] = d at *
      have hBx : Below wr.heap.size wr (wr.alloc (.cells #[.int .i64 d.seq, .int .i64 d.at_, .slice Fa d.fs.length fc] 43)) := (Below.refl _ _).alloc (Nat.le_refl _) _
      have hbx := Blk.new wr 43 #[.int .i64 d.seq, .int .i64 d.at_, .slice Fa d.fs.length fc]
      have b0 := hbx.cell 0
      have b1 := hbx.cell 1
      have b2 := hbx.cell 2
      simp only [List.getElem?_toArray, List.getElem?_cons_zero, List.getElem?_cons_succ] at b0 b1 b2
      have C2 := Lib.hid (copied_any d Fa d.fs.length fc _ ((hr.below hBx).more hBx.size) rfl (by omega) hnl)
      have HBX := Lib.hid hBx
      have hw := hB.out.size
      clear hr hnl hbx hBx
      go_wp2_with fail
      refine C2.out.mono ?_
      rintro e w3 ⟨A3, q3, rfl, hnq3, hnl3, hown3, hb3⟩
      have hbW : Below wr.heap.size wr w3 := HBX.out.trans (hb3.mono HBX.out.size)
      have hbS : Below wr.heap.size wr (w3.alloc (.cells #[.int .i64 d.seq, .int .i64 d.at_, .slice A3 d.fs.length q3] 43)) := hbW.alloc hbW.size _
      have hO6 := hO.out.below hbS
      obtain ⟨vss, g1, g2, g3⟩ := hO6.ex
      have hown6 := hown3.alloc (.cells #[.int .i64 d.seq, .int .i64 d.at_, .slice A3 d.fs.length q3] 43)
      have hd6 : DcS (w3.alloc (.cells #[.int .i64 d.seq, .int .i64 d.at_, .slice A3 d.fs.length q3] 43)) (Go.Proofs.Ytioekhiaoajgfaa.Ev.Fd _ w.heap.size) d [.int .i64 d.seq, .int .i64 d.at_, .slice A3 d.fs.length q3] :=
        ⟨A3, _, q3, rfl, (ReadsS.of_own hown6).mono (fun b hb => ⟨by have := hb.1; have := HBX.out.size; omega, tg_own hown6 hb.2.2⟩), rfl, by omega, hnq3, hnl3⟩
      have Put : Hid (∀ v' w5, w5.ownsRow w.heap.size 43 3 v' (k + 1) (vss.flatten ++ [.int .i64 d.seq, .int .i64 d.at_, .slice A3 d.fs.length q3]) → _ → DOwn w5 w.heap.size v' (ds.take (k + 1))) := Lib.hid (fun v' w5 p1 p2 => by
        rw [HTK.out]
        exact DOwn.put ⟨vss, g1, g2, g3, rfl⟩ (by rw [HLK.out]; exact p1) p2 hd6)
      rw [HLK.out] at g2
      have G2 := Lib.hid g2
      have hzs := hbS.size
      have HBS := Lib.hid hbS
      clear hown6 hbS hO6 g1 g2 g3 hd6 hown3 hnq3 hnl3 hbW q0 q1 q2 b0 b1 b2
      go_wp2_with (at_builtin; refine wpList_append_own _ rfl _ _ 28 rfl w.heap.size 43 i0 _ 3 40 Try.underlying28 hi0 hz0 hz1 hz2 rfl (by decide) _ _ _ rfl G2.out ⟨w3.heap.size, 0, none⟩ 1 1 [.int .i64 d.seq, .int .i64 d.at_, .slice A3 d.fs.length q3] rfl rfl ?d1 ?d2 ?d3 ?d4 ?d5 ?_)
      case d1 => exact World.news_of_block (cs := #[.int .i64 d.seq, .int .i64 d.at_, .slice A3 d.fs.length q3]) (t := 43) (fr := (0, 0)) (heap_alloc_new w3 (.cells #[.int .i64 d.seq, .int .i64 d.at_, .slice A3 d.fs.length q3] 43))
      case d2 => simp [Value.oneCell']
      case d3 => unfold maxLen; omega
      case d4 => omega
      case d5 => first | omega | (simp; omega)
      intro v' w5 hown5 hg5 _
      have Fin := Lib.hid (Put.out v' w5 hown5 hg5)
      have hbF : Hid (Below w.heap.size w w5) := Lib.hid ((hB.out.trans (HBS.out.mono hB.out.size)).grown hg5 (by omega) (fun j hj => (G2.out.lt j hj).1))
      clear hown5 hg5
      go_wp2
      go_roundw
      case rel => exact ⟨k + 1, by omega, by go_num, Fin, hbF⟩
      case measure => simp [intOf]; omega
    · obtain rfl : k = ds.length := by omega
      rw [List.take_length] at hO
      go_wp2
      go_ret
      exact ⟨_, rfl, hO.out, hB.out⟩
end Go.Proofs.Ytioekhiaoajgfaa.Mx
end
