/- SLICED by slice.py -/
import Derived.BigQuiet
import Derived.OwnWalk
import Derived.Laws.ResultCell
import Derived.Test.YtdloacfoegjnmaaGreatPkGroupIndexesRow24
import Derived.Test.YtdloacfoegjnmaaGreatPkGroupIndexesRow25
import Derived.Test.YtdloacfoegjnmaaGreatShelfPk
import Derived.Test.YtdloacfoegjnmaaGreatPkGroupIndexesRow19
section
/- memidx: Len, Size, Times, Seqs: the walks. -/
namespace Go.Proofs.YtdloacfoegjnmaaGreat.Mx
open Go.RowKit Go.Proofs.YtdloacfoegjnmaaGreat Go.Proofs.YtdloacfoegjnmaaGreat.Ut Go.Proofs.YtdloacfoegjnmaaGreat.Tk Go.Proofs.YtdloacfoegjnmaaGreat.Qy Go.Proofs.YtdloacfoegjnmaaGreat.Ev Go.Proofs.YtdloacfoegjnmaaGreat.Qp Go.Proofs.YtdloacfoegjnmaaGreat.Mv
set_option linter.unusedVariables false
set_option linter.unusedSimpArgs false
set_option maxRecDepth 20000

section
variable {w : World} {n0 X M cn : Nat} {v : Value} {F : ByteArray → Option Value} {O : Nat → Prop} {ds : List Dc} {sz lo hi : Int} {f : ByteArray → List Po}
/-- What Times tells. -/
def timesV (ds : List Dc) (lo hi : Int) : Value := .tuple #[.int .i64 (if ds = [] then 0 else lo), .int .i64 (if ds = [] then 0 else hi), .bool (decide (ds ≠ []))]
/-- What Seqs tells. -/
def seqsV (ds : List Dc) : Value := .tuple #[.int .i64 ((ds.head?.map (·.seq)).getD 0), .int .i64 ((ds.getLast?.map (·.seq)).getD 0)]
end
end Go.Proofs.YtdloacfoegjnmaaGreat.Mx
end

section
/- SLICED by slice.py -/
/- memidx: copied, Doc, Docs: the walks. -/
namespace Go.Proofs.YtdloacfoegjnmaaGreat.Mx
open Go.RowKit Go.Proofs.YtdloacfoegjnmaaGreat Go.Proofs.YtdloacfoegjnmaaGreat.Ut Go.Proofs.YtdloacfoegjnmaaGreat.Tk Go.Proofs.YtdloacfoegjnmaaGreat.Qy Go.Proofs.YtdloacfoegjnmaaGreat.Ev Go.Proofs.YtdloacfoegjnmaaGreat.Qp Go.Proofs.YtdloacfoegjnmaaGreat.Mv
set_option linter.unusedVariables false
set_option linter.unusedSimpArgs false
set_option maxRecDepth 20000

def CopPost (w : World) (d : Dc) (e : Ending) (w' : World) : Prop := ∃ A c, e = .returned (.agg #[.int .i64 d.seq, .int .i64 d.at_, .slice A d.fs.length c]) ∧ d.fs.length ≤ c ∧ (A = none → c = 0) ∧ w'.ownsRow w.heap.size 89 2 (.slice A d.fs.length c) d.fs.length (fldC d.fs) ∧ Below w.heap.size w w'
set_option maxHeartbeats 800000 in
theorem copied_any (d : Dc) (Fa : Option Addr) (fn fc : Nat) (w : World) (hF : Reads w w.heap.size 2 Fa fn (fldC d.fs)) (hl : d.fs.length = fn) (hn : fn ≤ 1048576) (hnil : Fa = none → fc = 0) :
    Calls Tryz.prog 51 #[.agg #[.int .i64 d.seq, .int .i64 d.at_, .slice Fa fn fc]] w (CopPost w d) := by
  subst hl
  obtain ⟨i0, hi0, hz0, hz1, hz2⟩ := info_parts doc_info
  have hB1 : Below w.heap.size w ((w.alloc (.cells #[.int .i64 d.seq, .int .i64 d.at_, .slice Fa d.fs.length fc] 57)).alloc (.cells #[.int .i64 0, .int .i64 0, .slice none 0 0] 57)) := ((Below.refl _ _).alloc (Nat.le_refl _) _).alloc (by simp) _
  have hX := (Blk.new w 57 #[.int .i64 d.seq, .int .i64 d.at_, .slice Fa d.fs.length fc]).alloc (.cells #[.int .i64 0, .int .i64 0, .slice none 0 0] 57)
  have hR := Blk.new (w.alloc (.cells #[.int .i64 d.seq, .int .i64 d.at_, .slice Fa d.fs.length fc] 57)) 57 #[.int .i64 0, .int .i64 0, .slice none 0 0]
  rw [World.size_alloc] at hR
  have c1 := cloneF_any Fa d.fs.length fc d.fs _ ((hF.below hB1).more hB1.size) rfl hn hnil
  have C1 := Lib.hid c1
  have H := Lib.hid (And.intro hX (And.intro hR hB1))
  have x2 := hX.cell 2
  simp only [List.getElem?_toArray, List.getElem?_cons_zero, List.getElem?_cons_succ] at x2
  clear c1 hX hR hB1
  go_enter Tryz.func51, Tryz.ntmps51
  go_wp2_with fail
  refine C1.out.mono ?_
  rintro e w3 ⟨v3, rfl, hown, hb⟩
  obtain ⟨A3, q3, rfl, hR3, hnq3, hnl3, hg3⟩ := own_shape2 hown
  have hX3 := H.out.1.below hb H.out.1.lt
  have hR3' := H.out.2.1.below hb H.out.2.1.lt
  have y0 := hX3.cell 0
  have y1 := hX3.cell 1
  have y2 := hX3.cell 2
  have y2f := hX3.frozen 2
  have z0 := hR3'.cell 0
  simp only [List.getElem?_toArray, List.getElem?_cons_zero, List.getElem?_cons_succ] at y0 y1 y2 z0
  clear x2
  go_upto_region 2 with fail
  have hX4 := hX3.set_ 2 (.slice A3 d.fs.length q3)
  have hR4 : Blk (w3.setCell ⟨w.heap.size, 2, none⟩ (.slice A3 d.fs.length q3)) (w.heap.size + 1) 57 #[.int .i64 0, .int .i64 0, .slice none 0 0] := hR3'.far (by show w.heap.size + 1 ≠ w.heap.size; omega) _
  have hown4 : (w3.setCell ⟨w.heap.size, 2, none⟩ (.slice A3 d.fs.length q3)).ownsRow w.heap.size 89 2 (.slice A3 d.fs.length q3) d.fs.length (fldC d.fs) := own_mono (hown.kept (grownBy_setC w3 w.heap.size 2 _) (.inr (fun e => by have := (hown.lt _ e).1; have := H.out.1.lt; omega))) H.out.2.2.size
  have hb4 : Below w.heap.size w (w3.setCell ⟨w.heap.size, 2, none⟩ (.slice A3 d.fs.length q3)) := (H.out.2.2.trans (hb.mono H.out.2.2.size)).setCell (p := ⟨w.heap.size, 2, none⟩) (Nat.le_refl _) _
  generalize (w3.setCell ⟨w.heap.size, 2, none⟩ (.slice A3 d.fs.length q3)) = w4 at *
  clear y0 y1 y2 y2f z0
  have y0 := hX4.cell 0
  have y1 := hX4.cell 1
  have y2 := hX4.cell 2
  have z0 := hR4.cell 0
  have z1 := hR4.cell 1
  have z2 := hR4.cell 2
  have z0f := hR4.frozen 0
  have z1f := hR4.frozen 1
  have z2f := hR4.frozen 2
  simp at y0 y1 y2 z0 z1 z2
  have HR4 := Lib.hid hR4
  have HO4 := Lib.hid hown4
  have HB4 := Lib.hid hb4
  clear hX4 hR4 hown4 hb4 hX3 hR3' hown hb hR3 hg3 C1 H hF
  go_wp2_with fail
  have hh : Blk (((w4.setCell ⟨w.heap.size + 1, 0, none⟩ (.int .i64 d.seq)).setCell ⟨w.heap.size + 1, 1, none⟩ (.int .i64 d.at_)).setCell ⟨w.heap.size + 1, 2, none⟩ (.slice A3 d.fs.length q3)) (w.heap.size + 1) 57 #[.int .i64 d.seq, .int .i64 d.at_, .slice A3 d.fs.length q3] := by
    have := ((HR4.out.set_ 0 (.int .i64 d.seq)).set_ 1 (.int .i64 d.at_)).set_ 2 (.slice A3 d.fs.length q3)
    simpa using this
  refine bodyPost_ret (results_cell rfl rfl (run_loadVar_row _ (w.heap.size + 1) 57 57 #[.int .i64 d.seq, .int .i64 d.at_, .slice A3 d.fs.length q3] (0, 0) _ hh Tryz.underlying57 rfl (by kernel_rfl))) rfl ⟨A3, q3, rfl, hnq3, hnl3, own_same HO4.out (fun b hb => ?_), ((HB4.out.setCell (p := ⟨w.heap.size + 1, 0, none⟩) (Nat.le_succ _) _).setCell (p := ⟨w.heap.size + 1, 1, none⟩) (Nat.le_succ _) _).setCell (p := ⟨w.heap.size + 1, 2, none⟩) (Nat.le_succ _) _⟩
  have hne : b ≠ w.heap.size + 1 := fun e => by
    subst e
    exact absurd ((tg_own HO4.out hb).one (tg_blk HR4.out)) (by decide)
  exact ((Below.heap_setCell _ ⟨w.heap.size + 1, 2, none⟩ _ b hne).trans (Below.heap_setCell _ ⟨w.heap.size + 1, 1, none⟩ _ b hne)).trans (Below.heap_setCell _ ⟨w.heap.size + 1, 0, none⟩ _ b hne)
/-- What the docs of an index read. -/
theorem Idx.fl_at {w : World} {n0 X M cn : Nat} {A : Option Addr} {m c : Nat} {F : ByteArray → Option Value} {O : Nat → Prop} {ds : List Dc} {sz lo hi : Int} {f : ByteArray → List Po} (h : Idx w n0 X M cn (.slice A m c) F O ds sz lo hi f) {i : Nat} (hi' : i < ds.length) :
    ∃ g Fa fc, A = some ⟨g, 0, none⟩ ∧ g < w.heap.size ∧ w.cell? ⟨g, i * 3, none⟩ = some (.int .i64 ds[i].seq) ∧ w.cell? ⟨g, i * 3 + 1, none⟩ = some (.int .i64 ds[i].at_) ∧ w.cell? ⟨g, i * 3 + 2, none⟩ = some (.slice Fa ds[i].fs.length fc) ∧
      Reads w w.heap.size 2 Fa ds[i].fs.length (fldC ds[i].fs) ∧ (Fa = none → fc = 0) := by
  obtain ⟨g, Fa, fn, fc, e, hg, c0, c1, c2, hr, hl, hn, hc, hnl⟩ := h.doc_at hi'
  subst hl
  exact ⟨g, Fa, fc, e, hg, c0, c1, c2, hr.reads (fun b hb => hb.lt), hnl⟩
/-- What Docs hands back. -/
def DocsP (w : World) (ds : List Dc) (e : Ending) (w' : World) : Prop := ∃ v, e = .returned v ∧ DOwn w' w.heap.size v ds ∧ Below w.heap.size w w'
end Go.Proofs.YtdloacfoegjnmaaGreat.Mx
end

section
/- memidx: Doc, Posts: the walks. -/
namespace Go.Proofs.YtdloacfoegjnmaaGreat.Mx
open Go.RowKit Go.Proofs.YtdloacfoegjnmaaGreat Go.Proofs.YtdloacfoegjnmaaGreat.Ut Go.Proofs.YtdloacfoegjnmaaGreat.Tk Go.Proofs.YtdloacfoegjnmaaGreat.Qy Go.Proofs.YtdloacfoegjnmaaGreat.Ev Go.Proofs.YtdloacfoegjnmaaGreat.Qp Go.Proofs.YtdloacfoegjnmaaGreat.Mv
set_option linter.unusedVariables false
set_option linter.unusedSimpArgs false
set_option maxRecDepth 20000

theorem results_ct {fn : Func} {p u : Tmp} {ty : TypeId} (h : fn.results = #[.cell p ty, .tmp u]) {tmps : Array Value} {P : Program} {w : World} {a : Addr} {v : Value} (ha : tmps.getD p undef = .pointer (some a)) (hl : (loadVar ty a).run P w = .ok v w) :
    (results fn tmps).run P w = .ok (.tuple #[v, tmps.getD u undef]) w := by
  rw [results_cell_tmp h, ha]
  have : (asAddr (.pointer (some a))).run P w = .ok a w := rfl
  rw [this]
  simp only [Result.andThen_ok]
  rw [hl]
  rfl
/-- What Doc hands back. -/
def DocPost (w : World) (o : Option Dc) (e : Ending) (w' : World) : Prop := match o with
  | none => e = .returned (.tuple #[.agg #[.int .i64 0, .int .i64 0, .slice none 0 0], .int .i64 5]) ∧ Below w.heap.size w w'
  | some d => ∃ A c, e = .returned (.tuple #[.agg #[.int .i64 d.seq, .int .i64 d.at_, .slice A d.fs.length c], .int .i64 0]) ∧ d.fs.length ≤ c ∧ (A = none → c = 0) ∧ Reads w' w'.heap.size 2 A d.fs.length (fldC d.fs) ∧ Below w.heap.size w w'
/-- The doc at a place. -/
def docAt (ds : List Dc) (i : Int) : Option Dc := if 0 ≤ i then ds[i.toNat]? else none
set_option maxHeartbeats 3200000 in
theorem docI_any {w : World} {n0 X M cn : Nat} {v : Value} {F : ByteArray → Option Value} {O : Nat → Prop} {ds : List Dc} {sz lo hi : Int} {f : ByteArray → List Po} (i : Int) (h : Idx w n0 X M cn v F O ds sz lo hi f) (hok : Dok ds) (hfew : ds.length ≤ 65536) :
    Calls Tryz.prog 25 #[.pointer (some ⟨X, 0, none⟩), .int .i64 i] w (DocPost w (docAt ds i)) := by
  obtain ⟨i0, hi0, hz0, hz1, hz2⟩ := info_parts doc_info
  have hB1 : Below w.heap.size w (w.alloc (.cells #[.int .i64 0, .int .i64 0, .slice none 0 0] 57)) := (Below.refl _ _).alloc (Nat.le_refl _) _
  have hR := Blk.new w 57 #[.int .i64 0, .int .i64 0, .slice none 0 0]
  have h1 := h.below hB1 (O' := fun b => n0 ≤ b ∧ b < (w.alloc (.cells #[.int .i64 0, .int .i64 0, .slice none 0 0] 57)).heap.size) (fun b hO => ⟨(h.lt b hO).1, Nat.lt_of_lt_of_le (h.lt b hO).2 hB1.size⟩) (fun b hb => hb)
  have c1 := Lib.hid (none_no h1)
  obtain ⟨A8, c8, rfl, hc8, hn8⟩ := h.docs_v
  have k3 := h1.blk.cell 3
  simp only [List.getElem?_toArray, List.getElem?_cons_zero, List.getElem?_cons_succ] at k3
  have HB1 := Lib.hid hB1
  have HR := Lib.hid hR
  have H1 := Lib.hid h1
  have OK := Lib.hid hok
  clear h hok hR hB1 h1
  go_enter Tryz.func25, Tryz.ntmps25
  go_wp2_with fail
  refine c1.out.mono ?_
  rintro e w' ⟨rfl, rfl⟩
  have r0 := HR.out.cell 0
  have r1 := HR.out.cell 1
  have r2 := HR.out.cell 2
  have r0f := HR.out.frozen 0
  have r1f := HR.out.frozen 1
  have r2f := HR.out.frozen 2
  simp only [List.getElem?_toArray, List.getElem?_cons_zero, List.getElem?_cons_succ] at r0 r1 r2
  by_cases hin : 0 ≤ i ∧ i < (ds.length : Int)
  · obtain ⟨h0, hlt⟩ := hin
    obtain ⟨k, rfl⟩ : ∃ k : Nat, i = (k : Int) := ⟨i.toNat, by omega⟩
    have hlk : k < ds.length := by omega
    have hd0 : decide ((k : Int) < 0) = false := decide_eq_false (by omega)
    have hd1 : decide ((ds.length : Int) ≤ (k : Int)) = false := decide_eq_false (by omega)
    have hd1n : decide (ds.length ≤ k) = false := decide_eq_false (by omega)
    obtain ⟨g, Fa, fc, rfl, hg, q0, q1, q2, hr, hnl⟩ := H1.out.fl_at hlk
    have hda : docAt ds (k : Int) = some ds[k] := by unfold docAt; rw [if_pos h0]; simp [hlk]
    have hdk := OK.out _ (List.getElem_mem hlk)
    have hf16 := (chkE_ok hdk.1).1
    have HDA := Lib.hid hda
    generalize ds[k] = d at *
    have C2 := Lib.hid (copied_any d Fa d.fs.length fc _ hr rfl (by omega) hnl)
    clear hda hdk hr hnl
    go_wp2_with fail
    refine C2.out.mono ?_
    rintro e w3 ⟨A3, q3, rfl, hnq3, hnl3, hown3, hb3⟩
    have hR3 := HR.out.below hb3 HR.out.lt
    have HR3 := Lib.hid hR3
    have s0 := hR3.cell 0
    have s1 := hR3.cell 1
    have s2 := hR3.cell 2
    have s0f := hR3.frozen 0
    have s1f := hR3.frozen 1
    have s2f := hR3.frozen 2
    simp only [List.getElem?_toArray, List.getElem?_cons_zero, List.getElem?_cons_succ] at s0 s1 s2
    have HB3 := Lib.hid (HB1.out.trans (hb3.mono HB1.out.size))
    have HO3 := Lib.hid hown3
    clear hR3 r0 r1 r2 r0f r1f r2f k3 q0 q1 q2 hb3 hown3
    go_wp2_with fail
    have hh : Blk (((w3.setCell ⟨w.heap.size, 0, none⟩ (.int .i64 d.seq)).setCell ⟨w.heap.size, 1, none⟩ (.int .i64 d.at_)).setCell ⟨w.heap.size, 2, none⟩ (.slice A3 d.fs.length q3)) w.heap.size 57 #[.int .i64 d.seq, .int .i64 d.at_, .slice A3 d.fs.length q3] := by
      have := ((HR3.out.set_ 0 (.int .i64 d.seq)).set_ 1 (.int .i64 d.at_)).set_ 2 (.slice A3 d.fs.length q3)
      simpa using this
    refine bodyPost_ret (results_ct rfl rfl (run_loadVar_row _ w.heap.size 57 57 #[.int .i64 d.seq, .int .i64 d.at_, .slice A3 d.fs.length q3] (0, 0) _ hh Tryz.underlying57 rfl (by kernel_rfl))) rfl ?_
    rw [HDA.out]
    have hk : ∀ b, b ≠ w.heap.size → (((w3.setCell ⟨w.heap.size, 0, none⟩ (.int .i64 d.seq)).setCell ⟨w.heap.size, 1, none⟩ (.int .i64 d.at_)).setCell ⟨w.heap.size, 2, none⟩ (.slice A3 d.fs.length q3)).heap[b]? = w3.heap[b]? := fun b hne => ((Below.heap_setCell _ ⟨w.heap.size, 2, none⟩ _ b hne).trans (Below.heap_setCell _ ⟨w.heap.size, 1, none⟩ _ b hne)).trans (Below.heap_setCell _ ⟨w.heap.size, 0, none⟩ _ b hne)
    have ho := own_same HO3.out (fun b hb => hk b (fun e => by
      subst e
      exact absurd ((tg_own HO3.out hb).one (tg_blk HR3.out)) (by decide)))
    refine ⟨A3, q3, rfl, hnq3, hnl3, (ReadsS.of_own ho).reads (fun b hb => hb.2.1), ((HB3.out.setCell (p := ⟨w.heap.size, 0, none⟩) (Nat.le_refl _) _).setCell (p := ⟨w.heap.size, 1, none⟩) (Nat.le_refl _) _).setCell (p := ⟨w.heap.size, 2, none⟩) (Nat.le_refl _) _⟩
  · have hda : docAt ds i = none := by
      unfold docAt
      split
      · rename_i h0
        exact List.getElem?_eq_none (by omega)
      · rfl
    have HDA := Lib.hid hda
    clear hda
    rcases (show i < 0 ∨ 0 ≤ i by omega) with h0 | h0
    · have hd0 : decide (i < 0) = true := decide_eq_true h0
      go_wp2_with fail
      refine bodyPost_ret (results_ct rfl rfl (run_loadVar_row _ w.heap.size 57 57 #[.int .i64 0, .int .i64 0, .slice none 0 0] (0, 0) _ HR.out Tryz.underlying57 rfl (by kernel_rfl))) rfl ?_
      rw [HDA.out]
      exact ⟨rfl, HB1.out⟩
    · have hd0 : decide (i < 0) = false := decide_eq_false (by omega)
      have hge : (ds.length : Int) ≤ i := by omega
      have hd1 : decide ((ds.length : Int) ≤ i) = true := decide_eq_true hge
      go_wp2_with fail
      refine bodyPost_ret (results_ct rfl rfl (run_loadVar_row _ w.heap.size 57 57 #[.int .i64 0, .int .i64 0, .slice none 0 0] (0, 0) _ HR.out Tryz.underlying57 rfl (by kernel_rfl))) rfl ?_
      rw [HDA.out]
      exact ⟨rfl, HB1.out⟩
end Go.Proofs.YtdloacfoegjnmaaGreat.Mx
end

section
/- (*memidx.Index).Posts: the walk (printed by gen_mxf.py). -/
namespace Go.Proofs.YtdloacfoegjnmaaGreat.Mx
open Go.RowKit Go.Maps Go.Proofs.YtdloacfoegjnmaaGreat Go.Proofs.YtdloacfoegjnmaaGreat.Ut Go.Proofs.YtdloacfoegjnmaaGreat.Tk Go.Proofs.YtdloacfoegjnmaaGreat.Qy Go.Proofs.YtdloacfoegjnmaaGreat.Ev Go.Proofs.YtdloacfoegjnmaaGreat.Qp Go.Proofs.YtdloacfoegjnmaaGreat.Mv Go.Proofs.YtdloacfoegjnmaaGreat.Ph
set_option linter.unusedVariables false
set_option linter.unusedSimpArgs false
set_option maxRecDepth 20000

def IntsP (w : World) (ps : List Nat) (e : Ending) (w' : World) : Prop := ∃ A c, e = .returned (.slice A ps.length c) ∧ w'.ownsRow w.heap.size 3 1 (.slice A ps.length c) ps.length (nC ps) ∧ ps.length ≤ c ∧ (A = none → c = 0) ∧ Below w.heap.size w w'
theorem cloneN_any (P : Option Addr) (pc : Nat) (ps : List Nat) (w : World) (h : Reads w w.heap.size 1 P ps.length (nC ps)) (hne : ps ≠ []) (hsz : ps.length ≤ 65536) :
    Calls Tryz.prog 55 #[.slice P ps.length pc] w (IntsP w ps) := by
  have hp := List.length_pos_iff.2 hne
  obtain ⟨b, o, rfl, hb, hc⟩ := h.2 hp
  refine (Tryz.slices_Clone_int b o ps.length pc (ps.map (fun n => ((n : Nat) : Int))) w (by simp) (by omega) (fun j hj => ?_)).mono ?_
  · rw [List.length_map] at hj
    refine hc j _ ?_
    unfold nC
    rw [List.getElem?_map, List.getElem?_eq_getElem hj]
    simp [List.getD_eq_getElem?_getD, List.getElem?_map, hj]
  · rintro e w' ⟨v', rfl, ho, _, hbw⟩
    obtain ⟨A, c, e2, _, q1, q2, _⟩ := own_shape2 ho
    subst e2
    refine ⟨A, c, rfl, ?_, q1, q2, hbw⟩
    have : (List.map (fun n => ((n : Nat) : Int)) ps).take ps.length = List.map (fun n => ((n : Nat) : Int)) ps := List.take_of_length_le (by simp)
    rw [this, List.map_map] at ho
    exact ho
theorem PRow.put {w w5 : World} {base n : Nat} {u v' : Value} {l : List Po} {xs : List Pr} {x : Pr} (h : w.ownsRow base 73 2 u n (xs.flatMap encP)) (hn : l.length = n) (hxs : xs.map prP = l) (hxp : ∀ y ∈ xs, PosV w y) (hx : PosV w x) (hg : w.grownBy w5 u.ownBlock) (ho : w5.ownsRow base 73 2 v' (n + 1) (xs.flatMap encP ++ encP x)) : PRow w5 base v' (l ++ [prP x]) := by
  have kt : ∀ b, Tg w 3 b → w5.heap[b]? = w.heap[b]? := fun b hb => hg.block b hb.lt (fun e => absurd ((tg_own h e.symm).one hb) (by decide))
  refine ⟨xs ++ [x], by simp [hxs], ?_, fun y hy => ?_⟩
  · rw [List.flatMap_append, List.length_append, hn]
    simpa using ho
  · rcases List.mem_append.1 hy with hy | hy
    · exact (hxp y hy).same kt
    · rw [List.mem_singleton] at hy; subst hy
      exact hx.same kt
theorem PRow.below {w w' : World} {n0 : Nat} {u : Value} {l : List Po} (h : PRow w n0 u l) (hb : Below w.heap.size w w') : PRow w' n0 u l :=
  h.same (fun b ht => hb.block b ht.lt) (fun b e => hb.block b (h.tag b e).1.lt)
/-- What Posts hands back. -/
def PostsP (w : World) (l : List Po) (e : Ending) (w' : World) : Prop := ∃ v, e = .returned v ∧ PRow w' w.heap.size v l ∧ Below w.heap.size w w'
/-- The k-th post. -/
theorem post_at {w : World} {n0 : Nat} {A : Option Addr} {n c : Nat} {xs : List Pr} (h : w.ownsRow n0 73 2 (.slice A n c) n (xs.flatMap encP)) (hl : xs.length = n) (hp : ∀ y ∈ xs, PosV w y) {i : Nat} (hi : i < xs.length) :
    ∃ g P pc, A = some ⟨g, 0, none⟩ ∧ g < w.heap.size ∧ w.cell? ⟨g, i * 2, none⟩ = some (.int .i64 (xs[i].1 : Nat)) ∧ w.cell? ⟨g, i * 2 + 1, none⟩ = some (.slice P xs[i].2.2.length pc) ∧ xs[i].2.1 = .slice P xs[i].2.2.length pc ∧ Reads w w.heap.size 1 P xs[i].2.2.length (nC xs[i].2.2) ∧ xs[i].2.2 ≠ [] ∧ xs[i].2.2.length ≤ 65536 := by
  have hr := ReadsS.of_own h
  obtain ⟨b, o, e, hb, hc⟩ := hr.2 (by omega)
  have hb2 := hb.2.2
  rw [e] at hb2
  rcases h.2 with ⟨hv, _⟩ | ⟨g, cap, cur, hv, hg, hh, _⟩
  · rw [e] at hv; cases hv
  · injection hv with hv _ _
    rw [hv] at e
    injection e with e
    injection e with e1 e2
    subst e1 e2
    have f0 := Ss.encs_get (enc := encP) (k := 2) (fun _ => rfl) xs i 0 hi (by omega)
    have f1 := Ss.encs_get (enc := encP) (k := 2) (fun _ => rfl) xs i 1 hi (by omega)
    have c0 := hc _ _ (f0.trans rfl)
    have c1 := hc _ _ (f1.trans rfl)
    rw [Nat.zero_add] at c0 c1
    have hx := hp _ (List.getElem_mem hi)
    obtain ⟨P, pc, e2, _, e4⟩ := hx.ex
    refine ⟨g, P, pc, hv, hb.2.1, ?_, ?_, e2, e4.reads (fun b hb => hb.lt), hx.ne, hx.sz⟩
    · simpa using c0
    · rw [← e2]; exact c1

set_option maxHeartbeats 3200000 in
theorem posts_any {w : World} {n0 X M cn : Nat} {v : Value} {F : ByteArray → Option Value} {O : Nat → Prop} {ds : List Dc} {sz lo hi : Int} {f : ByteArray → List Po} (s : ByteArray) (hs : s.size ≤ maxLen) (h : Idx w n0 X M cn v F O ds sz lo hi f) (hfew : (f s).length ≤ 131072) :
    Calls Tryz.prog 29 #[.pointer (some ⟨X, 0, none⟩), .string s] w (PostsP w (f s)) := by
  obtain ⟨j0, hj0, hy0, hy1, hy2⟩ := info_parts post_info
  have c1 := Lib.hid (none_no h)
  have k4 := h.blk.cell 4
  simp only [List.getElem?_toArray, List.getElem?_cons_zero, List.getElem?_cons_succ] at k4
  obtain ⟨u, xs, hgu, _, hxs, hown, hxp⟩ := h.row_at s
  obtain ⟨A4, q4, rfl, _, hq4, hn4, _⟩ := own_shape2 hown
  have hkey := keyS hs
  have HM := Lib.hid h.mp
  have hxl : xs.length = (f s).length := by rw [← hxs, List.length_map]
  have HG : Hid (∀ wx, Below w.heap.size w wx → ∀ i (hi : i < xs.length), ∃ g P pc, A4 = some ⟨g, 0, none⟩ ∧ g < wx.heap.size ∧ wx.cell? ⟨g, i * 2, none⟩ = some (.int .i64 (xs[i].1 : Nat)) ∧ wx.cell? ⟨g, i * 2 + 1, none⟩ = some (.slice P xs[i].2.2.length pc) ∧ xs[i].2.1 = .slice P xs[i].2.2.length pc ∧ Reads wx wx.heap.size 1 P xs[i].2.2.length (nC xs[i].2.2) ∧ xs[i].2.2 ≠ [] ∧ xs[i].2.2.length ≤ 65536) := Lib.hid (fun wx hb i hi => by
    obtain ⟨g, P, pc, e, hg, q0, q1, q2, hr, hnl⟩ := post_at hown hxl hxp hi
    exact ⟨g, P, pc, e, Nat.lt_of_lt_of_le hg hb.size, (hb.cell hg).trans q0, (hb.cell hg).trans q1, q2, (hr.below hb).more hb.size, hnl⟩)
  generalize hfs : f s = l at *
  have HXS := Lib.hid hxs
  have HGU := Lib.hid hgu
  have hl1 : xs.length ≤ l.length := by omega
  have hl2 : l.length ≤ xs.length := by omega
  clear h hgu hxs hown hxp hxl hfs
  go_enter Tryz.func29, Tryz.ntmps29
  go_wp2_with fail
  refine c1.out.mono ?_
  rintro e w' ⟨rfl, rfl⟩
  go_wp2_with (at_lookup; refine wpList_look_v rfl (.tmp 13) (.tmp 14) 46 71 rfl lawS Tryz.underlying46 (Tryz.zeroValue71 _) M cn F rfl HM.out s rfl hkey (.slice A4 l.length q4) HGU.out ?_)
  go_loopw [5, 17] (fun v i wr => ∃ k : Nat, k ≤ l.length ∧ i = .int .i64 (k : Nat) ∧ Hid (PRow wr w.heap.size v (l.take k)) ∧ Hid (Below w.heap.size w wr)) (fun _ i _ => l.length - (intOf i).toNat)
  case atStart => exact ⟨0, Nat.zero_le _, rfl, Lib.hid ⟨[], rfl, World.ownsRow_nil _ _ _ _, fun x hx => by cases hx⟩, Lib.hid (Below.refl _ _)⟩
  case round =>
    obtain ⟨k, hk, rfl, hO, hB⟩ := hrel
    by_cases hlt : k < l.length
    · have hkz : (k : Int) < (l.length : Int) := by omega
      have hk0 : (0 : Int) ≤ (k : Int) := by omega
      have hkx : k < xs.length := by omega
      obtain ⟨g, P, pc, rfl, hg, q0, q1, q2, hr, hnl, hsz⟩ := HG.out wr hB.out k hkx
      have htk : l.take (k + 1) = l.take k ++ [prP xs[k]] := by
        rw [List.take_succ_eq_append_getElem hlt]
        congr 2
        have h1 : l[k]? = (xs.map prP)[k]? := by rw [HXS.out]
        rw [List.getElem?_eq_getElem hlt, List.getElem?_map, List.getElem?_eq_getElem hkx] at h1
        injection h1
      have hlnk : (l.take k).length = k := by rw [List.length_take]; omega
      have HTK := Lib.hid htk
      have HLK := Lib.hid hlnk
      clear htk hlnk
      generalize xs[k] = x at *
      obtain ⟨d, pv, ps⟩ := x
      simp only at q0 q1 q2 hr hnl hsz
      subst q2
      have hBx : Below wr.heap.size wr (wr.alloc (.cells #[.int .i64 (d : Nat), .slice P ps.length pc] 73)) := (Below.refl _ _).alloc (Nat.le_refl _) _
      have hbx := Blk.new wr 73 #[.int .i64 (d : Nat), .slice P ps.length pc]
      have HBX := Lib.hid hbx
      have HO := Lib.hid (hO.out.below hBx)
      have HR := Lib.hid ((hr.below hBx).more hBx.size)
      have HBW := Lib.hid (hB.out.trans (hBx.mono hB.out.size))
      have hw := hBx.size
      have hw2 := hB.out.size
      go_upto_region 7 with fail
      clear hr hbx hBx q0 q1 hO hB
      generalize hbz : wr.heap.size = bz at *
      have hbz' : bz < (wr.alloc (.cells #[.int .i64 (d : Nat), .slice P ps.length pc] 73)).heap.size := by rw [World.size_alloc]; omega
      clear hbz
      generalize (wr.alloc (.cells #[.int .i64 (d : Nat), .slice P ps.length pc] 73)) = wE at *
      have Hcells : Hid (∀ wx, Below wE.heap.size wE wx → wx.cell? ⟨bz, 0, none⟩ = some (.int .i64 (d : Nat)) ∧ wx.cell? ⟨bz, 1, none⟩ = some (.slice P ps.length pc)) := Lib.hid (fun wx hb => by
        have k0 := (HBX.out.below hb HBX.out.lt).cell 0
        have k1 := (HBX.out.below hb HBX.out.lt).cell 1
        simp only [List.getElem?_toArray, List.getElem?_cons_zero, List.getElem?_cons_succ] at k0 k1
        exact ⟨k0, k1⟩)
      refine wp_region_ph_tail 8 (specOf [(5, ⟨Option Addr × Nat, fun x => .slice x.1 ps.length x.2, fun x wx => wx.ownsRow wE.heap.size 3 1 (.slice x.1 ps.length x.2) ps.length (nC ps) ∧ ps.length ≤ x.2⟩),
          (7, ⟨Option Addr × Nat × Nat, fun x => .slice (some ⟨x.2.2, 0, none⟩) 1 1, fun x wx => wx.ownsRow wE.heap.size 3 1 (.slice x.1 ps.length x.2.1) ps.length (nC ps) ∧ ps.length ≤ x.2.1 ∧ Blk wx x.2.2 73 #[.int .i64 (d : Nat), .slice x.1 ps.length x.2.1] ∧ wE.heap.size ≤ x.2.2⟩)]) (fun wx => Below wE.heap.size wE wx) (fun _ => True) (by kernel_rfl) (by kernel_rfl) (turns_of (by kernel_rfl)) (Below.refl _ _).drew trivial ?_
      refine ph_fix 1 ?_ rfl (by rfl) (by rfl) (fun wx hC => ?_) ?_
      rotate_left
      · obtain ⟨g0, g1⟩ := Hcells.out wx hC
        go_simp
        all_goals with_reducible rfl
      try simp only [Act.put, List.setIfInBounds_toArray, List.set_cons_zero, List.set_cons_succ]
      refine ph_fix 2 ?_ rfl (by rfl) (by rfl) (fun wx hC => ?_) ?_
      rotate_left
      · obtain ⟨g0, g1⟩ := Hcells.out wx hC
        go_simp
        all_goals with_reducible rfl
      try simp only [Act.put, List.setIfInBounds_toArray, List.set_cons_zero, List.set_cons_succ]
      refine ph_fix 3 ?_ rfl (by rfl) (by rfl) (fun wx hC => ?_) ?_
      rotate_left
      · obtain ⟨g0, g1⟩ := Hcells.out wx hC
        go_simp
        all_goals with_reducible rfl
      try simp only [Act.put, List.setIfInBounds_toArray, List.set_cons_zero, List.set_cons_succ]
      refine ph_fix 4 ?_ rfl (by rfl) (by rfl) (fun wx hC => ?_) ?_
      rotate_left
      · obtain ⟨g0, g1⟩ := Hcells.out wx hC
        go_simp
        all_goals with_reducible rfl
      try simp only [Act.put, List.setIfInBounds_toArray, List.set_cons_zero, List.set_cons_succ]
      refine ph_fix 5 ?_ rfl (by rfl) (by rfl) (fun wx hC => ?_) ?_
      rotate_left
      · obtain ⟨g0, g1⟩ := Hcells.out wx hC
        go_simp
        all_goals with_reducible rfl
      try simp only [Act.put, List.setIfInBounds_toArray, List.set_cons_zero, List.set_cons_succ]
      refine ph_give 6 _ rfl (by rfl) (by rfl) (fun wx hC hI => ?_) (fun x => ?_)
      · refine give_enter (f := ?_) (args := ?_) ?_ ?_
        rotate_left 2
        · obtain ⟨g0, g1⟩ := Hcells.out wx hC
          go_simp
          all_goals first | with_reducible rfl | (refine ⟨?_, ?_⟩ <;> with_reducible rfl)
        refine (cloneN_any P pc ps wx ((HR.out.below hC).more hC.size) hnl hsz).mono ?_
        rintro e w9 ⟨A9, c9, rfl, ho9, hp9, _, hb9⟩
        exact ⟨_, rfl, trivial, hC.trans (hb9.mono hC.size), (A9, c9), rfl, own_mono ho9 hC.size, hp9⟩
      obtain ⟨A5, c5⟩ := x
      try simp only [Act.put, List.setIfInBounds_toArray, List.set_cons_zero, List.set_cons_succ]
      refine ph_fix 7 ?_ rfl (by rfl) (by rfl) (fun wx hC => ?_) ?_
      rotate_left
      · obtain ⟨g0, g1⟩ := Hcells.out wx hC
        go_simp
        all_goals with_reducible rfl
      try simp only [Act.put, List.setIfInBounds_toArray, List.set_cons_zero, List.set_cons_succ]
      refine ph_give 8 _ rfl (by rfl) (by rfl) (fun wx hC hI => ?_) (fun x => ?_)
      · refine give_value (u := ?_) (w' := ?_) ?_ trivial ?_
        rotate_left 2
        · go_simp
          all_goals first | with_reducible rfl | (refine ⟨?_, ?_⟩ <;> with_reducible rfl)
        · exact ⟨hC.alloc hC.size _, (A5, c5, wx.heap.size), rfl, hI.1.alloc _, hI.2, Blk.new _ _ _, hC.size⟩
      obtain ⟨A7, c7, x7⟩ := x
      try simp only [Act.put, List.setIfInBounds_toArray, List.set_cons_zero, List.set_cons_succ]
      refine ph_nil (fun w7 hC hI => ?_)
      obtain ⟨ho7, hp7, hb7, hle7⟩ := hI
      have hO7 := HO.out.below hC
      obtain ⟨ys, y1, y2, y3⟩ := hO7.ex
      rw [HLK.out] at y2
      have Put : Hid (∀ v' w5, w5.ownsRow w.heap.size 73 2 v' (k + 1) (ys.flatMap encP ++ [.int .i64 (d : Nat), .slice A7 ps.length c7]) → _ → PRow w5 w.heap.size v' (l.take (k + 1))) := Lib.hid (fun v' w5 p1 p2 => by
        rw [HTK.out]
        exact PRow.put (x := (d, .slice A7 ps.length c7, ps)) y2 HLK.out y1 y3 ⟨⟨A7, c7, rfl, hp7, (ReadsS.of_own ho7).mono (fun b hb => tg_own ho7 hb.2.2)⟩, hnl, hsz⟩ p2 p1)
      have Y2 := Lib.hid y2
      have HC7 := Lib.hid hC
      have HB7 := Lib.hid hb7
      have hs7 := hC.size
      clear ho7 hp7 hb7 hO7 y1 y2 y3 hC
      simp only [List.drop_succ_cons, List.drop_zero]
      refine wpList_append_own _ rfl _ _ 71 rfl w.heap.size 73 j0 _ 2 32 Tryz.underlying71 hj0 hy0 hy1 hy2 rfl (by decide) _ _ _ rfl Y2.out ⟨x7, 0, none⟩ 1 1 [.int .i64 (d : Nat), .slice A7 ps.length c7] rfl rfl (World.news_of_block (cs := #[.int .i64 (d : Nat), .slice A7 ps.length c7]) (t := 73) (fr := (0, 0)) HB7.out) (by simp [Value.oneCell']) (by unfold maxLen; omega) (by omega) (by omega) ?_
      intro v' w5 hown5 hg5 _
      have Fin := Lib.hid (Put.out v' w5 hown5 hg5)
      have hbF : Hid (Below w.heap.size w w5) := Lib.hid ((HBW.out.trans (HC7.out.mono HBW.out.size)).grown hg5 (by omega) (fun j hj => (Y2.out.lt j hj).1))
      clear hown5 hg5
      go_wp2
      go_roundw
      case rel => exact ⟨k + 1, by omega, by go_num, Fin, hbF⟩
      case measure => simp [intOf]; omega
    · obtain rfl : k = l.length := by omega
      rw [List.take_length] at hO
      go_wp2
      go_ret
      exact ⟨_, rfl, hO.out, hB.out⟩
end Go.Proofs.YtdloacfoegjnmaaGreat.Mx
end
