/- SLICED by slice.py -/
import Derived.Deep.QuietTactic
import Derived.BigQuiet
import Derived.Deep.CutRange
import Derived.Test.YtdloacfoegjnmaaGreatPkGroupIndexesRow32
import Derived.Test.YtdloacfoegjnmaaGreatPkGroupIndexesRow19
import Derived.Test.YtdloacfoegjnmaaGreatPkGroupIndexesRow12
import Derived.Test.YtdloacfoegjnmaaGreatPkGroupIndexesRow24
section
/- The document's Same at events, docs, ints, posts: at equal rows (printed by gen_mxg.py). -/
namespace Go.Proofs.YtdloacfoegjnmaaGreat.Mx
open Go.RowKit Go.Proofs.YtdloacfoegjnmaaGreat Go.Proofs.YtdloacfoegjnmaaGreat.Ut Go.Proofs.YtdloacfoegjnmaaGreat.Tk Go.Proofs.YtdloacfoegjnmaaGreat.Qy Go.Proofs.YtdloacfoegjnmaaGreat.Ev Go.Proofs.YtdloacfoegjnmaaGreat.Qp Go.Proofs.YtdloacfoegjnmaaGreat.Mv
set_option linter.unusedVariables false
set_option linter.unusedSimpArgs false
set_option maxRecDepth 20000

theorem reads_gr {w1 w2 : World} {A : Option Addr} {k n : Nat} {xs : List Value} (hb : Below w1.heap.size w1 w2) (h : Reads w1 w1.heap.size k A n xs) : Reads w2 w2.heap.size k A n xs := (h.below hb).more hb.size
theorem below_dN {B : Nat} {a w : World} (h : Below B a w) (n : Nat) : Below B a (w.drewN n) := ⟨h.os, h.tape, h.output, h.size, h.block⟩
/-- A row of docs that reads. -/
structure DocRd (w : World) (A : Option Addr) (n : Nat) (ds : List Dc) : Prop where
  ln : ds.length = n
  at_ : ∀ {i : Nat} (h : i < ds.length), ∃ b o F fn f, A = some ⟨b, o, none⟩ ∧ b < w.heap.size ∧ w.cell? ⟨b, o + i * 3, none⟩ = some (.int .i64 ds[i].seq) ∧ w.cell? ⟨b, o + i * 3 + 1, none⟩ = some (.int .i64 ds[i].at_) ∧ w.cell? ⟨b, o + i * 3 + 2, none⟩ = some (.slice F fn f) ∧ Reads w w.heap.size 2 F fn (fldC ds[i].fs) ∧ ds[i].fs.length = fn ∧ fn ≤ 8796093021952
theorem DocRd.grow {w w' : World} {A : Option Addr} {n : Nat} {ds : List Dc} (h : DocRd w A n ds) (hb : Below w.heap.size w w') : DocRd w' A n ds :=
  ⟨h.ln, fun {i} hi => by
    obtain ⟨b, o, F, fn, f, e, hlt, c0, c1, c2, r, q⟩ := h.at_ hi
    exact ⟨b, o, F, fn, f, e, Nat.lt_of_lt_of_le hlt hb.size, (hb.cell hlt).trans c0, (hb.cell hlt).trans c1, (hb.cell hlt).trans c2, reads_gr hb r, q⟩⟩
theorem DocRd.of {w : World} {R S : Nat → Prop} {A : Option Addr} {n : Nat} {ds : List Dc} (h : DocsS w R S A n ds) (hR : ∀ b, R b → b < w.heap.size) (hS : ∀ b, S b → b < w.heap.size) : DocRd w A n ds :=
  ⟨h.1, fun {i} hi => by
    obtain ⟨b, o, F, fn, f, e, hb, c0, c1, c2, r, q1, q2, _⟩ := h.at_ hi
    exact ⟨b, o, F, fn, f, e, hR _ hb, c0, c1, c2, r.reads hS, q1, q2⟩⟩
/-- A row of posts that reads. -/
structure PostRd (w : World) (A : Option Addr) (n : Nat) (l : List Po) : Prop where
  ln : l.length = n
  at_ : ∀ {i : Nat} (h : i < l.length), ∃ b o F fn f, A = some ⟨b, o, none⟩ ∧ b < w.heap.size ∧ w.cell? ⟨b, o + i * 2, none⟩ = some (.int .i64 (l[i].1 : Nat)) ∧ w.cell? ⟨b, o + i * 2 + 1, none⟩ = some (.slice F fn f) ∧ Reads w w.heap.size 1 F fn (nC l[i].2) ∧ l[i].2.length = fn ∧ fn ≤ 8796093021952
theorem PostRd.grow {w w' : World} {A : Option Addr} {n : Nat} {l : List Po} (h : PostRd w A n l) (hb : Below w.heap.size w w') : PostRd w' A n l :=
  ⟨h.ln, fun {i} hi => by
    obtain ⟨b, o, F, fn, f, e, hlt, c0, c1, r, q⟩ := h.at_ hi
    exact ⟨b, o, F, fn, f, e, Nat.lt_of_lt_of_le hlt hb.size, (hb.cell hlt).trans c0, (hb.cell hlt).trans c1, reads_gr hb r, q⟩⟩
theorem PostRd.of {w : World} {n0 c : Nat} {A : Option Addr} {n : Nat} {l : List Po} (h : PRow w n0 (.slice A n c) l) (hn : l.length = n) : PostRd w A n l := by
  obtain ⟨xs, h1, h2, h3⟩ := h.ex
  have hl : xs.length = n := by rw [← hn, ← h1, List.length_map]
  rw [hn] at h2
  refine ⟨hn, fun {i} hi => ?_⟩
  have hix : i < xs.length := by omega
  obtain ⟨g, P, pc, e, hg, c0, c1, _, r, _, q⟩ := post_at h2 hl h3 hix
  have e1 : l[i] = prP xs[i] := by
    have h4 : l[i]? = (xs.map prP)[i]? := by rw [h1]
    rw [List.getElem?_eq_getElem hi, List.getElem?_map, List.getElem?_eq_getElem hix] at h4
    injection h4
  rw [e1]
  exact ⟨g, 0, P, _, pc, e, hg, by rw [Nat.zero_add]; exact c0, by rw [Nat.zero_add]; exact c1, r, rfl, by omega⟩
end Go.Proofs.YtdloacfoegjnmaaGreat.Mx
end

section
/- loggiaref10.Docs: the walk (printed by gen_evg.py). -/
namespace Go.Proofs.YtdloacfoegjnmaaGreat.Ev
open Go.RowKit Go.Proofs.YtdloacfoegjnmaaGreat Go.Proofs.YtdloacfoegjnmaaGreat.Ut Go.Proofs.YtdloacfoegjnmaaGreat.Tk Go.Proofs.YtdloacfoegjnmaaGreat.Qy Go.Proofs.YtdloacfoegjnmaaGreat.Qp
set_option maxRecDepth 20000
set_option linter.unusedVariables false
set_option linter.unusedSimpArgs false

/-- Docs of the call's own whose fields lie below B. -/
structure DOwnB (w : World) (base B : Nat) (v : Value) (ds : List Dc) : Prop where
  ex : ∃ vss : List (List Value), vss.length = ds.length ∧ w.ownsRow base 57 3 v ds.length vss.flatten ∧ ∀ i (h : i < ds.length) (h' : i < vss.length), DcS w (· < B) ds[i] vss[i]
theorem DOwnB.start (w : World) (base B : Nat) : DOwnB w base B (.slice none 0 0) [] := ⟨[], rfl, World.ownsRow_nil _ _ _ _, fun i h => absurd h (by simp)⟩
theorem DOwnB.below {w w' : World} {base B : Nat} {v : Value} {ds : List Dc} (h : DOwnB w base B v ds) (hb : Below w.heap.size w w') (hB : B ≤ w.heap.size) : DOwnB w' base B v ds := by
  obtain ⟨vss, h1, h2, h3⟩ := h.ex
  exact ⟨vss, h1, h2.kept (grow_of_below hb none) (by cases hv : v.ownBlock <;> simp), fun i a b => (h3 i a b).same (fun b hS => ⟨hS, hb.block b (Nat.lt_of_lt_of_le hS hB)⟩)⟩
theorem DOwnB.put {w w5 : World} {base B : Nat} {v v' : Value} {ds : List Dc} {d : Dc} {u : List Value} {xs : List Value} (hx : ∃ vss : List (List Value), vss.length = ds.length ∧ w.ownsRow base 57 3 v ds.length vss.flatten ∧ (∀ i (h : i < ds.length) (h' : i < vss.length), DcS w (· < B) ds[i] vss[i]) ∧ xs = vss.flatten)
    (hp : w5.ownsRow base 57 3 v' (ds.length + 1) (xs ++ u)) (hg : w.grownBy w5 v.ownBlock) (hd : DcS w (· < B) d u) (hB : B ≤ base) (hw : base ≤ w.heap.size) : DOwnB w5 base B v' (ds ++ [d]) := by
  obtain ⟨vss, h1, h2, h3, rfl⟩ := hx
  have keep : ∀ b, b < B → b < B ∧ w5.heap[b]? = w.heap[b]? := fun b hS => ⟨hS, hg.block b (by omega) (fun e => by
    have := (h2.lt b e.symm).1
    omega)⟩
  refine ⟨vss ++ [u], by simp [h1], ?_, fun i a b => ?_⟩
  · rw [List.flatten_append, List.length_append]
    simpa using hp
  · by_cases hi : i < ds.length
    · rw [List.getElem_append_left hi, List.getElem_append_left (by omega)]
      exact (h3 i hi (by omega)).same keep
    · have hi' : i = ds.length := by simp at a; omega
      subst hi'
      rw [List.getElem_append_right (by omega), List.getElem_append_right (by omega)]
      simp only [Nat.sub_self, h1, List.getElem_cons_zero]
      exact hd.same keep
theorem DOwnB.mono {w : World} {base base' B : Nat} {v : Value} {ds : List Dc} (h : DOwnB w base B v ds) (hb : base' ≤ base) : DOwnB w base' B v ds := by
  obtain ⟨vss, h1, h2, h3⟩ := h.ex
  exact ⟨vss, h1, own_mono h2 hb, h3⟩
theorem DOwnB.read {w : World} {base B : Nat} {v : Value} {ds : List Dc} (h : DOwnB w base B v ds) : ∃ A c, v = .slice A ds.length c ∧ DocsS w (fun b => base ≤ b ∧ b < w.heap.size) (· < B) A ds.length ds ∧ ds.length ≤ c ∧ (A = none → c = 0) := by
  obtain ⟨vss, h1, h2, h3⟩ := h.ex
  obtain ⟨A, c, rfl, _, hc, hn, _⟩ := own_shape2 h2
  exact ⟨A, c, rfl, ⟨rfl, vss, h1, (ReadsS.of_own h2).mono (fun b hb => ⟨hb.1, hb.2.1⟩), fun i a b => h3 i a b⟩, hc, hn⟩
/-- Docs of the call's own, handed back: their fields lie below B. -/
def RDocsPost (w : World) (B : Nat) (ds : List Dc) (e : Ending) (w' : World) : Prop := ∃ v, e = .returned v ∧ DOwnB w' w.heap.size B v ds ∧ Below w.heap.size w w'

set_option maxHeartbeats 6400000 in
theorem rdocs_any (seq : Int) (A : Option Addr) (n c B : Nat) (l : List Evn) (w : World) (hBw : B ≤ w.heap.size) (h : EvsAt w B A n c l) (hok : chkB seq l = 0) :
    Calls Tryz.prog 24 #[.agg #[.int .i64 seq, .slice A n c]] w (RDocsPost w B (mkD seq l)) := by
  obtain ⟨i0, hi0, hz0, hz1, hz2⟩ := info_parts doc_info
  have hl := h.ln
  have hl1 : l.length ≤ n := by omega
  have hl2 : n ≤ l.length := by omega
  have hcap := h.cap
  have hok' := chkB_ok hok
  have hn64 : n ≤ 64 := by have := hok'.2.1; omega
  have hs1 : 1 ≤ seq := hok'.2.2.2.2.1
  have hs2 : seq ≤ 1099511627777 := by have := hok'.2.2.2.2.2; omega
  have hB1 : Below w.heap.size w (w.alloc (.cells #[.int .i64 seq, .slice A n c] 35)) := (Below.refl _ _).alloc (Nat.le_refl _) _
  have hX := (Blk.new w 35 #[.int .i64 seq, .slice A n c])
  have c1 := rcheckBatch_any seq A n c l _ ((h.more hBw).grow hB1)
  rw [hok] at c1
  have C1 := Lib.hid c1
  have OK := Lib.hid hok'.2.2.1
  have HE : Hid (∀ wx, Below w.heap.size w wx → EvsAt wx B A n c l) := Lib.hid (fun wx hb => h.keep (fun b o hp => hb.cell (p := ⟨b, o, none⟩) (Nat.lt_of_lt_of_le hp hBw)))
  have H := Lib.hid (And.intro hX hB1)
  clear hl h hX hB1 c1 hok hok'
  go_enter Tryz.func24, Tryz.ntmps24
  go_wp2_with fail
  refine C1.out.mono ?_
  rintro e W0 ⟨rfl, hb0⟩
  have H0 : Hid (Blk W0 w.heap.size 35 #[.int .i64 seq, .slice A n c] ∧ Below w.heap.size w W0) := Lib.hid ⟨H.out.1.below hb0 H.out.1.lt, H.out.2.trans (hb0.mono H.out.2.size)⟩
  clear hb0 H C1
  go_wp2_with fail
  go_loopw [3, 4] (fun v i wr => ∃ k : Nat, k ≤ l.length ∧ i = .int .i64 (k : Nat) ∧ Hid (DOwnB wr W0.heap.size B v (mkD seq (l.take k))) ∧ Hid (Below W0.heap.size W0 wr)) (fun _ i _ => l.length - (intOf i).toNat)
  case atStart => exact ⟨0, Nat.zero_le _, rfl, Lib.hid (DOwnB.start _ _ _), Lib.hid (Below.refl _ _)⟩
  case round =>
    obtain ⟨k, hk, rfl, hO, hB⟩ := hrel
    have hBlk := H0.out.1.below hB.out H0.out.1.lt
    have d0 := hBlk.cell 0
    have d1 := hBlk.cell 1
    simp only [List.getElem?_toArray, List.getElem?_cons_zero, List.getElem?_cons_succ] at d0 d1
    have hBw2 : Hid (Below w.heap.size w wr) := Lib.hid (H0.out.2.trans (hB.out.mono H0.out.2.size))
    by_cases hlt : k < l.length
    · have hkz : (k : Int) < (n : Int) := by omega
      have hk0 : (0 : Int) ≤ (k : Int) := by omega
      obtain ⟨b, o, F, fn, fc, rfl, hbb, ca, cf, hFl⟩ := (HE.out wr hBw2.out).at_ hlt
      have hmk := mkD_take seq l k hlt
      have hlnk : (mkD seq (l.take k)).length = k := by rw [mkD_len, List.length_take]; omega
      have hbw : b < wr.heap.size := by have := hBw2.out.size; omega
      have hcells : ∀ wx, Below wr.heap.size wr wx → wx.cell? ⟨b, o + k * 2, none⟩ = some (.int .i64 l[k].1) ∧ wx.cell? ⟨b, o + k * 2 + 1, none⟩ = some (.slice F fn fc) ∧ wx.cell? ⟨w.heap.size, 0, none⟩ = some (.int .i64 seq) ∧ wx.cell? ⟨w.heap.size, 1, none⟩ = some (.slice (some ⟨b, o, none⟩) n c) := fun wx hC =>
        ⟨(hC.cell (p := ⟨b, o + k * 2, none⟩) hbw).trans ca, (hC.cell (p := ⟨b, o + k * 2 + 1, none⟩) hbw).trans cf, (hC.cell (p := ⟨w.heap.size, 0, none⟩) hBlk.lt).trans d0, (hC.cell (p := ⟨w.heap.size, 1, none⟩) hBlk.lt).trans d1⟩
      have hdc : DcS wr (· < B) ⟨seq + (k : Int), l[k].1, l[k].2⟩ [.int .i64 (seq + (k : Int)), .int .i64 l[k].1, .slice F fn fc] := ⟨F, fn, fc, rfl, hFl.rd, hFl.len, hFl.few, hFl.cap, hFl.nl⟩
      have HDC := Lib.hid hdc
      have HMK := Lib.hid hmk
      have HLK := Lib.hid hlnk
      have Hcells := Lib.hid hcells
      have hBsz : W0.heap.size ≤ wr.heap.size := hB.out.size
      have hBsz2 : B ≤ W0.heap.size := by have := H0.out.2.size; omega
      clear hmk hlnk hcells hFl hdc hBlk
      generalize hev : l[k] = ev at *
      clear hev ca cf
      obtain ⟨ta, fs⟩ := ev
      simp only at Hcells HDC HMK
      have hwr : IntKind.i64.wrap (seq + (k : Int)) = seq + (k : Int) := by rw [IntKind.wrap_i64]; omega
      go_upto_region 7 with (fail)
      clear d0 d1

      refine wp_region_grow_tail 12 (specOf [(11, ⟨Nat, fun x => .slice (some ⟨x, 0, none⟩) 1 1, fun g wx => Blk wx g 57 #[.int .i64 (seq + (k : Int)), .int .i64 ta, .slice F fn fc] ∧ wr.heap.size ≤ g⟩)]) (fun wx => Below wr.heap.size wr wx) (fun w1 w2 => Below w1.heap.size w1 w2) (by kernel_rfl) (by kernel_rfl) (stab_cons (fun x w1 w2 hg h => ⟨h.1.below hg h.1.lt, h.2⟩) (stab_nil)) ((Below.refl _ _).drew) ?_
      simp only [List.take_succ_cons, List.take_zero, List.drop_succ_cons, List.drop_zero]
      refine grow_fix 1 ?_ rfl (by rfl) (by rfl) (fun wx hC hD => ?_) ?_
      rotate_left
      · have hSw := Hcells.out wx hC
        go_simp
        all_goals with_reducible rfl
      try simp only [Act.put, List.setIfInBounds_toArray, List.set_cons_zero, List.set_cons_succ]
      refine grow_fix 2 ?_ rfl (by rfl) (by rfl) (fun wx hC hD => ?_) ?_
      rotate_left
      · have hSw := Hcells.out wx hC
        go_simp
        all_goals with_reducible rfl
      try simp only [Act.put, List.setIfInBounds_toArray, List.set_cons_zero, List.set_cons_succ]
      refine grow_fix 3 ?_ rfl (by rfl) (by rfl) (fun wx hC hD => ?_) ?_
      rotate_left
      · have hSw := Hcells.out wx hC
        go_simp
        all_goals with_reducible rfl
      try simp only [Act.put, List.setIfInBounds_toArray, List.set_cons_zero, List.set_cons_succ]
      refine grow_fix 4 ?_ rfl (by rfl) (by rfl) (fun wx hC hD => ?_) ?_
      rotate_left
      · have hSw := Hcells.out wx hC
        go_simp
        all_goals with_reducible rfl
      try simp only [Act.put, List.setIfInBounds_toArray, List.set_cons_zero, List.set_cons_succ]
      refine grow_fix 5 ?_ rfl (by rfl) (by rfl) (fun wx hC hD => ?_) ?_
      rotate_left
      · have hSw := Hcells.out wx hC
        go_simp
        all_goals with_reducible rfl
      try simp only [Act.put, List.setIfInBounds_toArray, List.set_cons_zero, List.set_cons_succ]
      refine grow_fix 6 ?_ rfl (by rfl) (by rfl) (fun wx hC hD => ?_) ?_
      rotate_left
      · have hSw := Hcells.out wx hC
        go_simp
        all_goals with_reducible rfl
      try simp only [Act.put, List.setIfInBounds_toArray, List.set_cons_zero, List.set_cons_succ]
      refine grow_fix 7 ?_ rfl (by rfl) (by rfl) (fun wx hC hD => ?_) ?_
      rotate_left
      · have hSw := Hcells.out wx hC
        go_simp
        all_goals with_reducible rfl
      try simp only [Act.put, List.setIfInBounds_toArray, List.set_cons_zero, List.set_cons_succ]
      refine grow_fix 8 ?_ rfl (by rfl) (by rfl) (fun wx hC hD => ?_) ?_
      rotate_left
      · have hSw := Hcells.out wx hC
        go_simp
        all_goals with_reducible rfl
      try simp only [Act.put, List.setIfInBounds_toArray, List.set_cons_zero, List.set_cons_succ]
      refine grow_fix 9 ?_ rfl (by rfl) (by rfl) (fun wx hC hD => ?_) ?_
      rotate_left
      · have hSw := Hcells.out wx hC
        go_simp
        all_goals with_reducible rfl
      try simp only [Act.put, List.setIfInBounds_toArray, List.set_cons_zero, List.set_cons_succ]
      refine grow_fix 10 ?_ rfl (by rfl) (by rfl) (fun wx hC hD => ?_) ?_
      rotate_left
      · have hSw := Hcells.out wx hC
        go_simp
        all_goals with_reducible rfl
      try simp only [Act.put, List.setIfInBounds_toArray, List.set_cons_zero, List.set_cons_succ]
      refine grow_fix 11 ?_ rfl (by rfl) (by rfl) (fun wx hC hD => ?_) ?_
      rotate_left
      · have hSw := Hcells.out wx hC
        go_simp
        all_goals with_reducible rfl
      try simp only [Act.put, List.setIfInBounds_toArray, List.set_cons_zero, List.set_cons_succ]
      refine grow_give 12 _ rfl (by rfl) (by rfl) (fun wx hC hD => ?_) (fun x => ?_)
      · refine give_value (u := ?_) (w' := ?_) ?_ ?_ ?_
        rotate_left 2
        · have hSw := Hcells.out wx hC
          go_simp
          all_goals first | with_reducible rfl | (refine ⟨?_, ?_⟩ <;> with_reducible rfl)
        · exact ((Below.refl _ _).alloc (Nat.le_refl _) _)
        · exact ⟨hC.alloc hC.size _, wx.heap.size, rfl, Blk.new _ _ _, hC.size⟩
      rename Nat => x9
      try simp only [Act.put, List.setIfInBounds_toArray, List.set_cons_zero, List.set_cons_succ]
      refine grow_nil (fun w6 hC hF => ?_)
      have hblk := upd_hit (hF 11) (by decide)
      have hO6 := hO.out.below hC (by omega)
      obtain ⟨vss, g1, g2, g3⟩ := hO6.ex
      have hd6 := HDC.out.same (S' := (· < B)) (w' := w6) (fun b hb => ⟨hb, hC.block b (by omega)⟩)
      have hsz6 := hC.size
      have Put : Hid (∀ v' w5, w5.ownsRow W0.heap.size 57 3 v' (k + 1) (vss.flatten ++ [.int .i64 (seq + (k : Int)), .int .i64 ta, .slice F fn fc]) → _ → DOwnB w5 W0.heap.size B v' (mkD seq (l.take (k + 1)))) := Lib.hid (fun v' w5 p1 p2 => by
        rw [HMK.out]
        exact DOwnB.put ⟨vss, g1, g2, g3, rfl⟩ (by rw [HLK.out]; exact p1) p2 hd6 hBsz2 (by omega))
      rw [HLK.out] at g2
      have G2 := Lib.hid g2
      have Hblk := Lib.hid hblk
      have HB6 := Lib.hid (hB.out.trans (hC.mono hB.out.size))
      clear hF hC hblk hO6 g1 g2 g3 hd6 hwr
      go_wp2_with (at_builtin; refine wpList_append_own _ rfl _ _ 28 rfl W0.heap.size 57 i0 _ 3 40 Tryz.underlying28 hi0 hz0 hz1 hz2 rfl (by decide) _ _ _ rfl G2.out ⟨x9, 0, none⟩ 1 1 [.int .i64 (seq + (k : Int)), .int .i64 ta, .slice F fn fc] rfl rfl ?d1 ?d2 ?d3 ?d4 ?d5 ?_)
      case d1 => exact World.news_of_block (cs := #[.int .i64 (seq + (k : Int)), .int .i64 ta, .slice F fn fc]) (t := 57) (fr := (0, 0)) Hblk.out.1
      case d2 => simp [Value.oneCell']
      case d3 => unfold maxLen; omega
      case d4 => omega
      case d5 => first | omega | (simp; omega)
      intro v' w5 hown5 hg5 _
      have Fin := Lib.hid (Put.out v' w5 hown5 hg5)
      have hbF : Hid (Below W0.heap.size W0 w5) := Lib.hid (HB6.out.grown hg5 (by omega) (fun j hj => (G2.out.lt j hj).1))
      clear hown5 hg5
      go_wp2
      go_roundw
      case rel => exact ⟨k + 1, by omega, by go_num, Fin, hbF⟩
      case measure => simp [intOf]; omega
    · obtain rfl : k = l.length := by omega
      have hkz : ¬ (l.length : Int) < (n : Int) := by omega
      rw [List.take_length] at hO
      go_wp2
      go_ret
      exact ⟨_, rfl, hO.out.mono H0.out.2.size, hBw2.out⟩
end Go.Proofs.YtdloacfoegjnmaaGreat.Ev
end

section
/- loggiaref14.Add: the walk. -/
namespace Go.Proofs.YtdloacfoegjnmaaGreat.Mx
open Go.RowKit Go.Proofs.YtdloacfoegjnmaaGreat Go.Proofs.YtdloacfoegjnmaaGreat.Ut Go.Proofs.YtdloacfoegjnmaaGreat.Tk Go.Proofs.YtdloacfoegjnmaaGreat.Qy Go.Proofs.YtdloacfoegjnmaaGreat.Ev Go.Proofs.YtdloacfoegjnmaaGreat.Qp Go.Proofs.YtdloacfoegjnmaaGreat.Mv
set_option linter.unusedVariables false
set_option linter.unusedSimpArgs false
set_option maxRecDepth 40000

/-- A row of docs of the document's index. -/
structure RIx (w : World) (Rr : Nat → Prop) (B : Nat) (A : Option Addr) (n c : Nat) (ds : List Dc) : Prop where
  rd : DocsS w Rr (fun b => Rr b ∨ b < B) A n ds
  cap : n ≤ c
  nl : A = none → c = 0
  lt : ∀ b, Rr b → b < w.heap.size
  bw : B ≤ w.heap.size
theorem RIx.below {w w' : World} {Rr Rr' : Nat → Prop} {B : Nat} {A : Option Addr} {n c : Nat} {ds : List Dc} (h : RIx w Rr B A n c ds) (hb : Below w.heap.size w w') (hR : ∀ b, Rr b → Rr' b) (hL : ∀ b, Rr' b → b < w'.heap.size) : RIx w' Rr' B A n c ds :=
  ⟨h.rd.same (fun b hr => ⟨hR b hr, hb.block b (h.lt b hr)⟩) (fun b hr => ⟨hr.imp (hR b) id, hb.block b (hr.elim (h.lt b) (fun q => Nat.lt_of_lt_of_le q h.bw))⟩), h.cap, h.nl, hL, Nat.le_trans h.bw hb.size⟩
/-- What the document's Add hands back. -/
def RAddPost (w : World) (Rr : Nat → Prop) (B : Nat) (ds : List Dc) (seq : Int) (l : List Evn) (e : Ending) (w' : World) : Prop :=
  ∃ A n c, e = .returned (.tuple #[.agg #[.slice A n c], .int .i64 (addE ds seq l)]) ∧ RIx w' (fun b => Rr b ∨ (w.heap.size ≤ b ∧ b < w'.heap.size)) B A n c (addD ds seq l) ∧ Below w.heap.size w w'
theorem ix_info : (Tryz.prog.info? 30).map (fun i => (i.zero, i.size)) = some (some (.agg #[.slice none 0 0]), 1) := by kernel_rfl
theorem radd_not {w w' : World} {Rr : Nat → Prop} {B : Nat} {A : Option Addr} {n c : Nat} {ds : List Dc} {seq : Int} {l : List Evn} (h : RIx w Rr B A n c ds) (hb : Below w.heap.size w w') {x : Int} (hx : addE ds seq l = x) (hne : x ≠ 0) : RAddPost w Rr B ds seq l (.returned (.tuple #[.agg #[.slice A n c], .int .i64 x])) w' := by
  refine ⟨A, n, c, by rw [hx], ?_, hb⟩
  unfold addD
  rw [if_neg (by rw [hx]; exact hne)]
  refine h.below hb (fun b hr => .inl hr) (fun b hr => ?_)
  rcases hr with hr | hr
  · exact Nat.lt_of_lt_of_le (h.lt b hr) hb.size
  · exact hr.2
theorem docsS_cells {w : World} {R S : Nat → Prop} {A : Option Addr} {n : Nat} {ds : List Dc} (h : DocsS w R S A n ds) : ∃ vss : List (List Value), vss.length = ds.length ∧ ReadsS w R 3 A n vss.flatten ∧ (∀ i (h : i < ds.length) (h' : i < vss.length), DcS w S ds[i] vss[i]) ∧ ∀ u ∈ vss.flatten, u.oneCell' = true := by
  obtain ⟨vss, h1, h2, h3⟩ := h.ex
  refine ⟨vss, by rw [h1, h.ln], h2, h3, fun u hu => ?_⟩
  obtain ⟨l, hl, hu⟩ := List.mem_flatten.1 hu
  obtain ⟨i, hi, rfl⟩ := List.mem_iff_getElem.1 hl
  obtain ⟨F, fn, fc, e, _⟩ := (h3 i (by rw [h.ln]; omega) hi).ex
  rw [e] at hu
  simp at hu
  rcases hu with rfl | rfl | rfl <;> rfl
/-- Two rows, one behind the other. -/
theorem radd_fin {w w7 : World} {Rr : Nat → Prop} {B : Nat} {ds D0 : List Dc} {seq : Int} {l : List Evn} {v : Value} {vss vss2 : List (List Value)} (hb : Below w.heap.size w w7) (hlt : ∀ b, Rr b → b < w.heap.size) (hB : B ≤ w.heap.size) (h1 : vss.length = ds.length) (h2 : vss2.length = D0.length) (h3 : ∀ i (h : i < ds.length) (h' : i < vss.length), DcS w (fun b => Rr b ∨ b < B) ds[i] vss[i]) (h4 : ∀ i (h : i < D0.length) (h' : i < vss2.length), DcS w7 (· < B) D0[i] vss2[i])
    (ho : w7.ownsRow w.heap.size 57 3 v (ds.length + D0.length) (vss.flatten ++ vss2.flatten)) (he : addE ds seq l = 0) (hD : mkD seq l = D0) : ∃ A c, v = .slice A (ds.length + D0.length) c ∧ RAddPost w Rr B ds seq l (.returned (.tuple #[.agg #[v], .int .i64 0])) w7 := by
  obtain ⟨A, c, e, _, q1, q2, _⟩ := own_shape2 ho
  subst e
  refine ⟨A, c, rfl, A, _, c, by rw [he], ⟨⟨?_, vss ++ vss2, by rw [List.length_append, h1, h2], ?_, fun i a b => ?_⟩, q1, q2, fun b hb' => ?_, Nat.le_trans hB hb.size⟩, hb⟩
  · unfold addD; rw [if_pos he, hD, List.length_append]
  · rw [List.flatten_append]
    exact (ReadsS.of_own ho).mono (fun b hb => .inr ⟨hb.1, hb.2.1⟩)
  · have e2 : addD ds seq l = ds ++ D0 := by unfold addD; rw [if_pos he, hD]
    have hi : i < (ds ++ D0).length := by rw [← e2]; exact a
    have e3 : (addD ds seq l)[i] = (ds ++ D0)[i] := by simp only [e2]
    rw [e3]
    by_cases hlt' : i < ds.length
    · rw [List.getElem_append_left hlt', List.getElem_append_left (by omega)]
      exact (h3 i hlt' (by omega)).same (fun b hr => ⟨hr.elim (fun q => .inl (.inl q)) .inr, hb.block b (hr.elim (hlt b) (fun q => Nat.lt_of_lt_of_le q hB))⟩)
    · rw [List.length_append] at hi
      rw [List.getElem_append_right (by omega), List.getElem_append_right (by omega)]
      simp only [h1]
      exact (h4 (i - ds.length) (by omega) (by omega)).same (fun b hr => ⟨.inr hr, rfl⟩)
  · rcases hb' with hr | hr
    · exact Nat.lt_of_lt_of_le (hlt b hr) hb.size
    · exact hr.2
set_option maxHeartbeats 3200000 in
theorem radd_any (seq : Int) (Ab : Option Addr) (nb cb : Nat) (l : List Evn) (A : Option Addr) (n c : Nat) (ds : List Dc) (Rr : Nat → Prop) (B : Nat) (w : World) (h : RIx w Rr B A n c ds) (hE : EvsAt w B Ab nb cb l) (hok : Dok ds) (hfew : ds.length ≤ 65536) :
    Calls Tryz.prog 8 #[.agg #[.slice A n c], .agg #[.int .i64 seq, .slice Ab nb cb]] w (RAddPost w Rr B ds seq l) := by
  obtain ⟨i0, hi0, hz0, hz1, hz2⟩ := info_parts doc_info
  have hl := hE.ln
  have hl1 : l.length ≤ nb := by omega
  have hl2 : nb ≤ l.length := by omega
  have hn := h.rd.ln
  have hn1 : ds.length ≤ n := by omega
  have hn2 : n ≤ ds.length := by omega
  have hcap := h.cap
  have hecap := hE.cap
  have hB1 : Below w.heap.size w (((w.alloc (.cells #[.slice A n c] 30)).alloc (.cells #[.int .i64 seq, .slice Ab nb cb] 35)).alloc (.cells #[.slice none 0 0] 30)) := (((Below.refl _ _).alloc (Nat.le_refl _) _).alloc (by simp) _).alloc (by simp; omega) _
  have hX := ((Blk.new w 30 #[.slice A n c]).alloc (.cells #[.int .i64 seq, .slice Ab nb cb] 35)).alloc (.cells #[.slice none 0 0] 30)
  have hY := (Blk.new (w.alloc (.cells #[.slice A n c] 30)) 35 #[.int .i64 seq, .slice Ab nb cb]).alloc (.cells #[.slice none 0 0] 30)
  have hZ := Blk.new ((w.alloc (.cells #[.slice A n c] 30)).alloc (.cells #[.int .i64 seq, .slice Ab nb cb] 35)) 30 #[.slice none 0 0]
  simp only [World.size_alloc] at hY hZ
  have HE : Hid (∀ wx, Below w.heap.size w wx → EvsAt wx B Ab nb cb l) := Lib.hid (fun wx hb => hE.keep (fun b o hlt => hb.cell (Nat.lt_of_lt_of_le hlt h.bw)))
  have HI := Lib.hid h
  have OK := Lib.hid hok
  have H := Lib.hid (And.intro hX (And.intro hY (And.intro hZ hB1)))
  clear h hE hok hX hY hZ hB1 hl hn
  go_enter Tryz.func8, Tryz.ntmps8
  go_upto_region 1 with fail
  generalize (((w.alloc (.cells #[.slice A n c] 30)).alloc (.cells #[.int .i64 seq, .slice Ab nb cb] 35)).alloc (.cells #[.slice none 0 0] 30)) = w0 at *
  have g0 := H.out.2.1.cell 0
  have g1 := H.out.2.1.cell 1
  simp only [List.getElem?_toArray, List.getElem?_cons_zero, List.getElem?_cons_succ] at g0 g1
  go_wp2_with fail
  refine (rcheckBatch_any seq Ab nb cb l _ ((HE.out _ H.out.2.2.2).more (Nat.le_trans HI.out.bw H.out.2.2.2.size))).mono ?_
  rintro e w1 ⟨rfl, hb1⟩
  have H1 : Hid (Blk w1 w.heap.size 30 #[.slice A n c] ∧ Blk w1 (w.heap.size + 1) 35 #[.int .i64 seq, .slice Ab nb cb] ∧ Blk w1 (w.heap.size + 1 + 1) 30 #[.slice none 0 0] ∧ Below w.heap.size w w1) := Lib.hid ⟨H.out.1.below hb1 H.out.1.lt, H.out.2.1.below hb1 H.out.2.1.lt, H.out.2.2.1.below hb1 H.out.2.2.1.lt, H.out.2.2.2.trans (hb1.mono H.out.2.2.2.size)⟩
  clear hb1 H g0 g1
  have g0 := H1.out.2.1.cell 0
  have g1 := H1.out.2.1.cell 1
  have x0 := H1.out.1.cell 0
  have z0 := H1.out.2.2.1.cell 0
  have z0f := H1.out.2.2.1.frozen 0
  simp only [List.getElem?_toArray, List.getElem?_cons_zero, List.getElem?_cons_succ] at g0 g1 x0 z0
  have NO : Hid (∀ (wx : World) (x : Int), Blk wx (w.heap.size + 1 + 1) 30 #[.slice none 0 0] → Below w.heap.size w wx → addE ds seq l = x → x ≠ 0 → (loadVar 30 ⟨w.heap.size + 1 + 1, 0, none⟩).run Tryz.prog (wx.setCell ⟨w.heap.size + 1 + 1, 0, none⟩ (.slice A n c)) = .ok (.agg #[.slice A n c]) (wx.setCell ⟨w.heap.size + 1 + 1, 0, none⟩ (.slice A n c)) ∧ RAddPost w Rr B ds seq l (.returned (.tuple #[.agg #[.slice A n c], .int .i64 x])) (wx.setCell ⟨w.heap.size + 1 + 1, 0, none⟩ (.slice A n c))) := Lib.hid (fun wx x hz hb hx hne => by
    have hh : Blk (wx.setCell ⟨w.heap.size + 1 + 1, 0, none⟩ (.slice A n c)) (w.heap.size + 1 + 1) 30 #[.slice A n c] := by
      have := hz.set_ 0 (.slice A n c)
      simpa using this
    exact ⟨run_loadVar_row _ (w.heap.size + 1 + 1) 30 30 #[.slice A n c] (0, 0) _ hh Tryz.underlying30 rfl (by kernel_rfl), radd_not HI.out (hb.setCell (p := ⟨w.heap.size + 1 + 1, 0, none⟩) (by show w.heap.size ≤ w.heap.size + 1 + 1; omega) _) hx hne⟩)
  by_cases hck : chkB seq l = 0
  · have HCK := Lib.hid hck
    rw [hck]
    have hok := chkB_ok hck
    have hn64 : nb ≤ 64 := by have := hok.2.1; omega
    have hs1 : 1 ≤ seq := hok.2.2.2.2.1
    have hs2 : seq ≤ 1099511627777 := by have := hok.2.2.2.2.2; omega
    clear hck hok
    go_upto_region 4 with fail
    go_cut [32] from 14 to 31 (fun s32 wx => s32 = .bool (gapB ds seq) ∧ Blk wx w.heap.size 30 #[.slice A n c] ∧ Blk wx (w.heap.size + 1) 35 #[.int .i64 seq, .slice Ab nb cb] ∧ Blk wx (w.heap.size + 1 + 1) 30 #[.slice none 0 0] ∧ Below w.heap.size w wx)
    case first =>
      rcases List.eq_nil_or_concat ds with hds | ⟨dl, d, hds⟩
      · have hn0 : n = 0 := by
          have h1 : ds.length = 0 := by rw [hds]; rfl
          omega
        have hd0 : decide ((0 : Int) < (n : Int)) = false := by rw [hn0]; rfl
        have hd0n : decide (0 < n) = false := by rw [hn0]; rfl
        have HGP : Hid (gapB ds seq = false) := Lib.hid (by rw [hds]; rfl)
        have hd1 : (n : Int) ≤ 0 := by omega
        clear hds hn0
        go_quiet (fail)
        go_wp2
        go_meet
        exact ⟨by rw [HGP.out], H1.out.1.drewN nq, H1.out.2.1.drewN nq, H1.out.2.2.1.drewN nq, H1.out.2.2.2.trans (below_dn w1 nq)⟩
      · rw [List.concat_eq_append] at hds
        have hlen : ds.length = dl.length + 1 := by rw [hds]; simp
        have hd0 : decide ((0 : Int) < (n : Int)) = true := decide_eq_true (by omega)
        have hd0n : decide (0 < n) = true := decide_eq_true (by omega)
        have hd1 : (n : Int) - 1 = (dl.length : Int) := by omega
        have hd2 : IntKind.i64.wrap (dl.length : Int) = (dl.length : Int) := by rw [IntKind.wrap_i64]; omega
        have hd3 : (0 : Int) ≤ (dl.length : Int) := by omega
        have hd4 : (dl.length : Int) < (n : Int) := by omega
        obtain ⟨b8, o8, F8, fn8, f8, rfl, hb8, k0', kr⟩ := HI.out.rd.at_ (i := dl.length) (by omega)
        have k0 := (H1.out.2.2.2.cell (HI.out.lt _ hb8)).trans k0'
        clear k0' kr
        have hdd : ds[dl.length] = d := by simp [hds]
        have hdok := OK.out d (by rw [hds]; simp)
        rw [hdd] at k0
        have hd5 : IntKind.i64.wrap (d.seq + 1) = d.seq + 1 := by rw [IntKind.wrap_i64]; omega
        have HGP : Hid (gapB ds seq = decide (seq ≠ d.seq + 1)) := Lib.hid (by rw [hds]; exact gapB_snoc _ _ _)
        generalize d.seq = dq at *
        clear hds hlen hdd hdok
        by_cases hsq : seq = dq + 1
        · have hsb : (seq != dq + 1) = false := by simpa using hsq
          have HG2 : Hid (gapB ds seq = false) := Lib.hid (by rw [HGP.out]; simpa using hsq)
          clear hsq HGP
          go_quiet (fail)
          go_wp2
          go_meet
          exact ⟨by rw [HG2.out], H1.out.1.drewN nq, H1.out.2.1.drewN nq, H1.out.2.2.1.drewN nq, H1.out.2.2.2.trans (below_dn w1 nq)⟩
        · have hsb : (seq != dq + 1) = true := by simpa using hsq
          have HG2 : Hid (gapB ds seq = true) := Lib.hid (by rw [HGP.out]; simpa using hsq)
          clear hsq HGP
          go_quiet (fail)
          go_wp2
          go_meet
          exact ⟨by rw [HG2.out], H1.out.1.drewN nq, H1.out.2.1.drewN nq, H1.out.2.2.1.drewN nq, H1.out.2.2.2.trans (below_dn w1 nq)⟩
    case rest =>
      obtain ⟨h23, r1, r2, r3, r4⟩ := hcut
      clear g0 g1 x0 z0 z0f H1
      rename World => w2
      have H2 := Lib.hid (And.intro r1 (And.intro r2 (And.intro r3 r4)))
      have g0 := r2.cell 0
      have g1 := r2.cell 1
      have x0 := r1.cell 0
      have z0 := r3.cell 0
      have z0f := r3.frozen 0
      simp only [List.getElem?_toArray, List.getElem?_cons_zero, List.getElem?_cons_succ] at g0 g1 x0 z0
      clear r1 r2 r3 r4
      by_cases hgp : gapB ds seq = true
      · rw [hgp] at h23
        subst h23
        have hno := NO.out w2 140 H2.out.2.2.1 H2.out.2.2.2 (addE_gap HCK.out hgp) (by decide)
        have HNO := Lib.hid hno
        clear hgp hno
        go_wp2_with fail
        refine bodyPost_ret (results_ct rfl rfl HNO.out.1) rfl ?_
        exact HNO.out.2
      have hgf : gapB ds seq = false := by simpa using hgp
      rw [hgf] at h23
      subst h23
      have HGF := Lib.hid hgf
      clear hgp hgf
      have hwn : IntKind.i64.wrap ((65536 : Int) - (n : Int)) = (65536 : Int) - (n : Int) := by rw [IntKind.wrap_i64]; omega
      by_cases hmy : 65536 < ds.length + l.length
      · have hmz : (65536 : Int) - (n : Int) < (nb : Int) := by omega
        have hno := NO.out w2 3 H2.out.2.2.1 H2.out.2.2.2 (addE_many HCK.out HGF.out hmy) (by decide)
        have HNO := Lib.hid hno
        clear hno
        go_wp2_with fail
        refine bodyPost_ret (results_ct rfl rfl HNO.out.1) rfl ?_
        exact HNO.out.2
      have hmz : (nb : Int) ≤ (65536 : Int) - (n : Int) := by omega
      have HGO : Hid (addE ds seq l = 0) := Lib.hid (addE_ok HCK.out HGF.out hmy)
      obtain ⟨vss, v1, v2, v3, v4⟩ := docsS_cells HI.out.rd
      have HV1 := Lib.hid v1
      have HV3 := Lib.hid v3
      have HV4 := Lib.hid v4
      have hRd : ∀ wx, Below w.heap.size w wx → Reads wx wx.heap.size 3 A n vss.flatten := fun wx hb => ((v2.reads HI.out.lt).below hb).more hb.size
      have HRD := Lib.hid hRd
      have HNL := Lib.hid HI.out.nl
      have hws := H2.out.2.2.2.size
      have HOE := Lib.hid (own_mono (Rg.Row.empty 57 3 (by decide) w2).own hws)
      have HBE : Hid (Below w.heap.size w (w2.alloc (.cells #[] 57))) := Lib.hid (H2.out.2.2.2.alloc hws _)
      have xB := (H2.out.1.alloc (.cells #[] 57)).cell 0
      simp only [List.getElem?_toArray, List.getElem?_cons_zero, List.getElem?_cons_succ] at xB
      clear v1 v2 v3 v4 hRd hmy
      go_wp2_with (at_builtin; refine Rg.wpList_append_any rfl _ _ 28 rfl w.heap.size 57 i0 _ 3 40 Tryz.underlying28 hi0 hz0 hz1 hz2 rfl (by decide) (.slice (some ⟨w2.heap.size, 0, none⟩) 0 0) 0 [] rfl HOE.out A n c vss.flatten rfl (HRD.out _ HBE.out) HNL.out HV4.out (by unfold maxLen; omega) (by omega) (by simp; omega) ?_)
      intro v5 w5 ho5 hg5 hat5
      have hrow : Rg.Row 57 3 w.heap.size w w5 v5 n vss.flatten := by
        have hr0 : Rg.Row 57 3 w.heap.size w (w2.alloc (.cells #[] 57)) (.slice (some ⟨w2.heap.size, 0, none⟩) 0 0) 0 [] := ⟨HOE.out, HBE.out⟩
        have hr1 := hr0.app (m := n) (Y := vss.flatten) HBE.out.size (by rw [Nat.zero_add, List.nil_append]; exact ho5) hg5
        rw [Nat.zero_add, List.nil_append] at hr1
        exact hr1
      have HRW := Lib.hid hrow
      have hs5 := hrow.bel.size
      obtain ⟨A5, c5, rfl, _, _, _, _⟩ := own_shape2 hrow.own
      have hkeep : ∀ b, b < w2.heap.size → w.heap.size ≤ b → w5.heap[b]? = w2.heap[b]? := fun b hb1 hb2 => by
        refine (hg5.block b (by rw [World.size_alloc]; omega) (fun e => ?_)).trans (((Below.refl _ w2).alloc (Nat.le_refl _) (.cells #[] 57)).block b hb1)
        have e' : b = w2.heap.size := by
          injection e
        omega
      have q2 : Blk w5 (w.heap.size + 1) 35 #[.int .i64 seq, .slice Ab nb cb] := (hkeep _ H2.out.2.1.lt (by omega)).trans H2.out.2.1
      have q3 : Blk w5 (w.heap.size + 1 + 1) 30 #[.slice none 0 0] := (hkeep _ H2.out.2.2.1.lt (by omega)).trans H2.out.2.2.1
      clear hkeep hrow ho5 hg5 hat5 g0 g1 x0 z0 z0f xB
      have g0 := q2.cell 0
      have g1 := q2.cell 1
      simp only [List.getElem?_toArray, List.getElem?_cons_zero, List.getElem?_cons_succ] at g0 g1
      have Q3 := Lib.hid q3
      clear q2 q3
      go_wp2_with fail
      refine (rdocs_any seq Ab nb cb B l w5 (by have := HI.out.bw; omega) (HE.out _ HRW.out.bel) HCK.out).mono ?_
      rintro e w6 ⟨v6, rfl, hD, hb6⟩
      obtain ⟨ys, y1, y2, y3⟩ := hD.ex
      have hml : (mkD seq l).length = nb := by rw [mkD_len]; omega
      rw [hml] at y1 y2
      obtain ⟨A6, c6, rfl, hR6, hq6, hn6, _⟩ := own_shape2 y2
      have hone : ∀ u ∈ ys.flatten, u.oneCell' = true := fun u hu => by
        obtain ⟨r, hr, hu⟩ := List.mem_flatten.1 hu
        obtain ⟨i, hi, rfl⟩ := List.mem_iff_getElem.1 hr
        obtain ⟨F, fn, fc, e, _⟩ := (y3 i (by omega) hi).ex
        rw [e] at hu
        simp at hu
        rcases hu with rfl | rfl | rfl <;> rfl
      have hrow6 := HRW.out.below hs5 hb6
      have HR6 := Lib.hid hrow6
      have HY1 := Lib.hid y1
      have HY3 := Lib.hid y3
      have HON := Lib.hid hone
      have HRR6 := Lib.hid (show Reads w6 w6.heap.size 3 A6 nb ys.flatten from hR6)
      have HN6 := Lib.hid hn6
      have HB6 := Lib.hid hb6
      have HML := Lib.hid hml
      have q3 := Q3.out.below hb6 Q3.out.lt
      have HQ3 := Lib.hid q3
      have hs6 := hrow6.bel.size
      clear hD y1 y2 y3 hR6 hq6 hn6 hone hrow6 hb6 hml q3 g0 g1
      go_wp2_with (at_builtin; refine Rg.wpList_append_any rfl _ _ 28 rfl w.heap.size 57 i0 _ 3 40 Tryz.underlying28 hi0 hz0 hz1 hz2 rfl (by decide) (.slice A5 n c5) n vss.flatten rfl HR6.out.own A6 nb c6 ys.flatten rfl HRR6.out HN6.out HON.out (by unfold maxLen; omega) (by omega) hs6 ?_)
      intro v7 w7 ho7 hg7 hat7
      have hb7 := (HR6.out.app hs6 ho7 hg7).bel
      obtain ⟨A7, c7, rfl, _, _, _, _⟩ := own_shape2 ho7
      have q7 : Blk w7 (w.heap.size + 1 + 1) 30 #[.slice none 0 0] := (hg7.block _ HQ3.out.lt (fun e => absurd ((tg_own HR6.out.own e.symm).one (tg_blk HQ3.out)) (by decide))).trans HQ3.out
      have q7c := q7.cell 0
      have q7f := q7.frozen 0
      simp only [List.getElem?_toArray, List.getElem?_cons_zero, List.getElem?_cons_succ] at q7c
      have hh : Blk (w7.setCell ⟨w.heap.size + 1 + 1, 0, none⟩ (.slice A7 (n + nb) c7)) (w.heap.size + 1 + 1) 30 #[.slice A7 (n + nb) c7] := by
        have := q7.set_ 0 (.slice A7 (n + nb) c7)
        simpa using this
      have hl7 := run_loadVar_row _ (w.heap.size + 1 + 1) 30 30 #[.slice A7 (n + nb) c7] (0, 0) _ hh Tryz.underlying30 rfl (by kernel_rfl)
      have hbF : Below w.heap.size w (w7.setCell ⟨w.heap.size + 1 + 1, 0, none⟩ (.slice A7 (n + nb) c7)) := hb7.setCell (p := ⟨w.heap.size + 1 + 1, 0, none⟩) (by show w.heap.size ≤ w.heap.size + 1 + 1; omega) _
      have hoF : (w7.setCell ⟨w.heap.size + 1 + 1, 0, none⟩ (.slice A7 (n + nb) c7)).ownsRow w.heap.size 57 3 (.slice A7 (n + nb) c7) (n + nb) (vss.flatten ++ ys.flatten) := own_same ho7 (fun b hb => Below.heap_setCell _ ⟨w.heap.size + 1 + 1, 0, none⟩ _ b (fun e => by subst e; exact absurd ((tg_own ho7 hb).one (tg_blk q7)) (by decide)))
      have hfin := radd_fin (w := w) (Rr := Rr) (B := B) (ds := ds) (D0 := mkD seq l) (seq := seq) (l := l) (vss := vss) (vss2 := ys) hbF HI.out.lt HI.out.bw HV1.out (by rw [HY1.out, HML.out]) HV3.out (fun i a b => (HY3.out i a b).same (fun b hb => ⟨hb, by
        have h1 : b < w.heap.size := Nat.lt_of_lt_of_le hb HI.out.bw
        have e1 := hg7.block b (by omega) (fun e => by have := (HR6.out.own.lt b e.symm).1; omega)
        exact (Below.heap_setCell _ ⟨w.heap.size + 1 + 1, 0, none⟩ _ b (by show b ≠ w.heap.size + 1 + 1; omega)).trans e1⟩)) (by rw [HML.out, HI.out.rd.ln]; exact hoF) HGO.out rfl
      have HFIN := Lib.hid hfin
      have HL7 := Lib.hid hl7
      clear hfin hl7 hoF hbF hh ho7 hg7 hat7 hb7
      go_wp2_with fail
      refine bodyPost_ret (results_ct rfl rfl HL7.out) rfl ?_
      obtain ⟨_, _, _, hp⟩ := HFIN.out
      exact hp
  · have HA := Lib.hid (addE_bad (ds := ds) hck)
    have hne := Lib.hid hck
    generalize hcc : chkB seq l = cc at *
    have hcz : (cc != 0) = true := by simpa using hck
    have hcz2 : (cc = 0) = False := eq_false hck
    clear hcc hck
    go_wp2_with fail
    have hno := NO.out w1 cc H1.out.2.2.1 H1.out.2.2.2 HA.out hne.out
    refine bodyPost_ret (results_ct rfl rfl hno.1) rfl ?_
    exact hno.2
end Go.Proofs.YtdloacfoegjnmaaGreat.Mx
end
