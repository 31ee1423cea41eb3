/- SLICED by slice.py -/
import Derived.Deep.RegionHeld3
import Derived.Test.YtdloacfoegjnmaaGreatPkGroupIndexesRow40
import Derived.Test.YtdloacfoegjnmaaGreatMxAPk
import Derived.Test.YtdloacfoegjnmaaGreatPkGroupIndexesRow32
import Derived.Test.YtdloacfoegjnmaaGreatPkGroupIndexesRow33
import Derived.Test.YtdloacfoegjnmaaGreatPkGroupIndexesRow24
import Derived.Test.YtdloacfoegjnmaaGreatPkGroupIndexesRow13
import Derived.Test.YtdloacfoegjnmaaGreatPkGroupIndexesRow37
import Derived.Test.YtdloacfoegjnmaaGreatGiXPk
import Derived.Test.YtdloacfoegjnmaaGreatPkGroupIndexesRow39
section
/- loggialaw14.word, awake: the walks. -/
namespace Go.Proofs.YtdloacfoegjnmaaGreat.Mx
open Go.RowKit Go.Proofs.YtdloacfoegjnmaaGreat Go.Proofs.YtdloacfoegjnmaaGreat.Ut Go.Proofs.YtdloacfoegjnmaaGreat.Tk Go.Proofs.YtdloacfoegjnmaaGreat.Qy Go.Proofs.YtdloacfoegjnmaaGreat.Ev Go.Proofs.YtdloacfoegjnmaaGreat.Qp Go.Proofs.YtdloacfoegjnmaaGreat.Mv
set_option linter.unusedVariables false
set_option linter.unusedSimpArgs false
set_option maxRecDepth 40000

/-- A new index. -/
def NewIx (w : World) (e : Ending) (w' : World) : Prop := ∃ X, e = .returned (.pointer (some ⟨X, 0, none⟩)) ∧ IxD w' w.heap.size X (fun b => w.heap.size ≤ b ∧ b < w'.heap.size) [] ∧ Below w.heap.size w w'
theorem new_ix (w : World) : Calls Tryz.prog 5 #[] w (NewIx w) := by
  refine (new_any w).mono ?_
  rintro e w' ⟨rfl, hb, hI⟩
  exact ⟨_, rfl, ⟨⟨_, _, _, _, hI, by omega⟩, fun d hd => (nomatch hd), by simp⟩, hb⟩
/-- An event of one text. -/
def WordP (w : World) (s : ByteArray) (e : Ending) (w' : World) : Prop := ∃ g, e = .returned (.agg #[.int .i64 0, .slice (some ⟨g, 0, none⟩) 1 1]) ∧ FlAt w' w'.heap.size (some ⟨g, 0, none⟩) 1 1 [(exMsg, s)] ∧ Below w.heap.size w w'
theorem chkB_len {seq : Int} {l : List Evn} (h : chkB seq l = 0) : l.length ≤ 64 := (chkB_ok h).2.1
end Go.Proofs.YtdloacfoegjnmaaGreat.Mx
end

section
/- The index and the document's, side by side. (No walk.) -/
namespace Go.Proofs.YtdloacfoegjnmaaGreat.Mx
open Go.RowKit Go.Proofs.YtdloacfoegjnmaaGreat Go.Proofs.YtdloacfoegjnmaaGreat.Ut Go.Proofs.YtdloacfoegjnmaaGreat.Tk Go.Proofs.YtdloacfoegjnmaaGreat.Qy Go.Proofs.YtdloacfoegjnmaaGreat.Ev Go.Proofs.YtdloacfoegjnmaaGreat.Qp Go.Proofs.YtdloacfoegjnmaaGreat.Mv
set_option linter.unusedVariables false
set_option linter.unusedSimpArgs false
set_option maxRecDepth 20000

theorem size_setC (w : World) (p : Addr) (u : Value) : (w.setCell p u).heap.size = w.heap.size := by simp [World.setCell]
theorem strip {w : World} {S : Nat → Prop} {k n p : Nat} {T : TypeId} {a : Option Addr} {b q : Nat} {F : Option Addr} {xs : List Value} (h : ReadsS w S k F n xs) (hp : Blk w p T #[.slice a b q]) (hk : 0 < k) (h0 : ∀ u, xs[0]? = some u → ∀ a b q, u ≠ .slice a b q) : ReadsS w (fun i => S i ∧ i ≠ p) k F n xs := by
  refine ⟨h.1, fun hn => ?_⟩
  obtain ⟨g, o, e, hs, hc⟩ := h.2 hn
  refine ⟨g, o, e, ⟨hs, fun e2 => ?_⟩, hc⟩
  subst e2
  have hl : 0 < xs.length := by rw [h.1]; exact Nat.mul_pos hn hk
  have h1 := hc 0 _ (List.getElem?_eq_getElem hl)
  rw [hp.cell] at h1
  rcases Nat.eq_zero_or_pos o with ho | ho
  · subst ho
    simp at h1
    exact h0 _ (List.getElem?_eq_getElem hl) a b q h1.symm
  · rw [Array.getElem?_eq_none (by simp; omega)] at h1
    cases h1
theorem dcs_strip {w : World} {S : Nat → Prop} {d : Dc} {v : List Value} {p : Nat} {T : TypeId} {a : Option Addr} {b q : Nat} (h : DcS w S d v) (hp : Blk w p T #[.slice a b q]) : DcS w (fun i => S i ∧ i ≠ p) d v := by
  obtain ⟨F, fn, fc, e, h1, h2⟩ := h.ex
  refine ⟨F, fn, fc, e, Mx.strip h1 hp (by omega) (fun u hu a b q e => ?_), h2⟩
  subst e
  have := fldC_one d.fs _ (List.mem_of_getElem? hu)
  cases hd : d.fs with
  | nil => rw [hd] at hu; simp [fldC] at hu
  | cons f fs => rw [hd] at hu; simp [fldC] at hu
/-- A cell of a variable that holds the row is written anew. -/
theorem RIx.write {w : World} {Rr : Nat → Prop} {B : Nat} {A : Option Addr} {n c : Nat} {ds : List Dc} {p : Nat} {T : TypeId} {a : Option Addr} {b q : Nat} (h : RIx w Rr B A n c ds) (hp : Blk w p T #[.slice a b q]) (hB : B ≤ p) (u : Value) : RIx (w.setCell ⟨p, 0, none⟩ u) Rr B A n c ds := by
  have kp : ∀ i, i ≠ p → (w.setCell ⟨p, 0, none⟩ u).heap[i]? = w.heap[i]? := fun i hi => Below.heap_setCell _ ⟨p, 0, none⟩ _ i hi
  obtain ⟨vss, h1, h2, h3⟩ := h.rd.ex
  refine ⟨⟨h.rd.ln, vss, h1, (Mx.strip h2 hp (by omega) (fun u hu a b q e => ?_)).same (fun b hb => ⟨hb.1, kp b hb.2⟩), fun i x y => ((dcs_strip (h3 i x y) hp).same (fun b hb => ⟨hb.1, kp b hb.2⟩))⟩, h.cap, h.nl, fun b hb => by rw [size_setC]; exact h.lt b hb, by rw [size_setC]; exact h.bw⟩
  subst e
  cases hd : vss with
  | nil => rw [hd] at hu; simp at hu
  | cons x xs =>
    have hl := h.rd.ln
    have hx := (h3 0 (by rw [hl, ← h1, hd]; simp) (by rw [hd]; simp)).ex
    obtain ⟨F, fn, fc, e, _⟩ := hx
    simp only [hd, List.getElem_cons_zero] at e
    rw [hd, e] at hu
    simp at hu
theorem tg_of_blk {w : World} {p : Nat} {T : TypeId} {cs : Array Value} (h : Blk w p T cs) : Tg w T p := tg_blk h
theorem IxD.write {w : World} {n0 X : Nat} {O : Nat → Prop} {ds : List Dc} {p : Nat} {cs : Array Value} (h : IxD w n0 X O ds) (hp : Blk w p 30 cs) (hO : ¬ O p) (u : Value) : IxD (w.setCell ⟨p, 0, none⟩ u) n0 X O ds := by
  obtain ⟨M, cn, v, F, h1, h2⟩ := h.ex
  refine ⟨⟨M, cn, v, F, h1.turn (grownBy_setC w p 0 u) (fun b hb => hb) (fun b hb => by rw [size_setC]; exact h1.lt b hb) (fun e => hO (e ▸ h1.oX)) (fun e => hO (e ▸ h1.oM)) (fun b hb e => hO (e ▸ h1.oV b hb)) (fun e => absurd ((tg_blk hp).one e) (by decide)) (fun e => absurd ((tg_blk hp).one e) (by decide)) (fun s u b hs hb e => hO (e ▸ h1.oF s u b hs hb)), h2⟩, h.ok, h.few⟩
theorem IxD.lt {w : World} {n0 X : Nat} {O : Nat → Prop} {ds : List Dc} (h : IxD w n0 X O ds) : ∀ b, O b → n0 ≤ b ∧ b < w.heap.size := by
  obtain ⟨M, cn, v, F, h1, h2⟩ := h.ex
  exact h1.lt
/-- The index in block X; the document's row in a variable, block R0. -/
structure Pair (w : World) (n0 B X R0 : Nat) (O Rr : Nat → Prop) (A : Option Addr) (n c : Nat) (ds : List Dc) : Prop where
  ix : IxD w n0 X O ds
  rx : RIx w Rr B A n c ds
  dis : ∀ b, Rr b → ¬ O b
  blk : Blk w R0 30 #[.slice A n c]
  nO : ¬ O R0
  hB : B ≤ n0
  hn : n0 ≤ w.heap.size
  hR : n0 ≤ R0
section
variable {w w' w4 w6 : World} {n0 B X R0 : Nat} {O Rr : Nat → Prop} {A : Option Addr} {n c : Nat} {ds : List Dc}
theorem Pair.start {w2 : World} (h : IxD w2 n0 X (fun b => n0 ≤ b ∧ b < w2.heap.size) []) (hB : B ≤ n0) (hn : n0 ≤ w2.heap.size) : Pair (w2.alloc (.cells #[.slice none 0 0] 30)) n0 B X w2.heap.size (fun b => n0 ≤ b ∧ b < w2.heap.size) (fun _ => False) none 0 0 [] := by
  have hb : Below w2.heap.size w2 (w2.alloc (.cells #[.slice none 0 0] 30)) := (Below.refl _ _).alloc (Nat.le_refl _) _
  have hs := hb.size
  exact ⟨h.below hb (fun b hb => hb) (fun b hb => ⟨hb.1, by omega⟩), ⟨DocsS.nil, Nat.le_refl _, fun _ => rfl, fun b hb => hb.elim, by omega⟩, fun b hb => hb.elim, Blk.new w2 _ _, fun hO => Nat.lt_irrefl _ hO.2, hB, by omega, hn⟩
theorem Pair.below (h : Pair w n0 B X R0 O Rr A n c ds) (hb : Below w.heap.size w w') : Pair w' n0 B X R0 O Rr A n c ds :=
  ⟨h.ix.below hb (fun b hb => hb) (fun b hO => ⟨(h.ix.lt b hO).1, Nat.lt_of_lt_of_le (h.ix.lt b hO).2 hb.size⟩), h.rx.below hb (fun b hb => hb) (fun b hr => Nat.lt_of_lt_of_le (h.rx.lt b hr) hb.size), h.dis, h.blk.below hb h.blk.lt, h.nO, h.hB, Nat.le_trans h.hn hb.size, h.hR⟩
/-- Behind the index' own Add. -/
theorem Pair.add (h : Pair w n0 B X R0 O Rr A n c ds) {ds' : List Dc} (hI : IxD w' n0 X (Ow O w w') ds') (hc : Chg O w w') : RIx w' Rr B A n c ds ∧ Blk w' R0 30 #[.slice A n c] ∧ Below n0 w w' ∧ (∀ b, Rr b → ¬ Ow O w w' b) ∧ ¬ Ow O w w' R0 := by
  refine ⟨⟨h.rx.rd.same (fun b hr => ⟨hr, hc.block b (h.rx.lt b hr) (h.dis b hr)⟩) (fun b hr => ⟨hr, ?_⟩), h.rx.cap, h.rx.nl, fun b hr => Nat.lt_of_lt_of_le (h.rx.lt b hr) hc.size, Nat.le_trans h.rx.bw hc.size⟩, (hc.block R0 h.blk.lt h.nO).trans h.blk, hc.below h.hn (fun b hb => (h.ix.lt b hb).1), fun b hr hO => ?_, fun hO => ?_⟩
  · rcases hr with hr | hr
    · exact hc.block b (h.rx.lt b hr) (h.dis b hr)
    · have h1 := h.hB
      have h2 := h.hn
      exact hc.block b (by omega) (fun hO => by have := (h.ix.lt b hO).1; omega)
  · rcases hO with hO | hO
    · exact h.dis b hr hO
    · have := h.rx.lt b hr; omega
  · rcases hO with hO | hO
    · exact h.nO hO
    · have := h.blk.lt; omega
/-- Behind the document's Add, and the store. -/
theorem Pair.put {O4 : Nat → Prop} {A' : Option Addr} {n' c' : Nat} {ds' : List Dc} {a : Option Addr} {b q : Nat} (hI : IxD w4 n0 X O4 ds') (hb : Below w4.heap.size w4 w6) (hR : RIx w6 (fun b => Rr b ∨ (w4.heap.size ≤ b ∧ b < w6.heap.size)) B A' n' c' ds')
    (hd : ∀ b, Rr b → ¬ O4 b) (hk : Blk w4 R0 30 #[.slice a b q]) (hO : ¬ O4 R0) (hB : B ≤ n0) (hn : n0 ≤ w4.heap.size) (hR0 : n0 ≤ R0) :
    Pair (w6.setCell ⟨R0, 0, none⟩ (.slice A' n' c')) n0 B X R0 O4 (fun b => Rr b ∨ (w4.heap.size ≤ b ∧ b < w6.heap.size)) A' n' c' ds' := by
  have hk6 := hk.below hb hk.lt
  refine ⟨(hI.below hb (fun b hb => hb) (fun b hO => ⟨(hI.lt b hO).1, Nat.lt_of_lt_of_le (hI.lt b hO).2 hb.size⟩)).write hk6 hO _, hR.write hk6 (Nat.le_trans hB hR0) _, fun b hr hO => ?_, ?_, hO, hB, by rw [size_setC]; exact Nat.le_trans hn hb.size, hR0⟩
  · rcases hr with hr | hr
    · exact hd b hr hO
    · have := (hI.lt b hO).2; omega
  · have := hk6.set_ 0 (.slice A' n' c')
    simpa using this
end
end Go.Proofs.YtdloacfoegjnmaaGreat.Mx
end

section
/- Regions that draw their order: another condition from a point on. -/
namespace Go.Proofs.YtdloacfoegjnmaaGreat
section
variable {P : Program} {ops : Array Oper} {Q : Exit → Act → World → Prop} {md : Region.Mode} {S S' : World → Prop}
theorem wpAnyH_weaken (hi : ∀ w, S' w → S w) : ∀ (fuel : Nat) (listed : Array Bool) (a : Act) (w : World), wpAnyH P md ops Q S' fuel listed a w → wpAnyH P md ops Q S fuel listed a w
  | 0, _, _, _, h => h
  | fuel + 1, _, _, _, h => ⟨h.1, fun i hr => wpOp_mono (fun a' w' h' => ⟨hi _ h'.1, wpAnyH_weaken hi fuel _ a' w' h'.2⟩) (h.2 i hr)⟩
/-- From here on S', which says more. -/
theorem wpAnyH_switch {fuel : Nat} {listed : Array Bool} {a : Act} {w : World} (hi : ∀ w, S' w → S w) (hS : S' w) (h : S' w → wpAnyH P md ops Q S' fuel listed a w) : wpAnyH P md ops Q S fuel listed a w :=
  wpAnyH_weaken hi _ _ _ _ (h hS)
/-- Take number i first; its slot is named. -/
theorem wpAnyH_takeD {i : Nat} (d : Tmp) {oi : Oper} {v : Value} {fuel : Nat} {listed : Array Bool} {a : Act} {w : World} (hi : ops[i]? = some oi) (hd : oi.dst = some d)
    (hs : Region.noSelect ops = true) (hf : Region.free md ops listed i = true) (hr : (Region.ready md ops listed).contains i = true)
    (hQ : ∀ c a w, Q (.panic c) (a.put (some d) v) w → Q (.panic c) a w) (hw : Region.wanted oi (yielded ops a.tmps) = true) (hy : ∀ w, S w → (execOp a.eval oi).run P w = .ok (.value v) w) (hS : S w)
    (h : wpAnyH P md ops Q S fuel (listed.setIfInBounds i true) (a.put (some d) v) w) : wpAnyH P md ops Q S (fuel + 1) listed a w := by
  rw [← hd] at h hQ
  exact wpAnyH_take hi hs hf hr hQ (.inl ⟨hw, hy⟩) hS h
end
end Go.Proofs.YtdloacfoegjnmaaGreat
end

section
/- loggialaw30.GroupIndexes: the walk (printed by gen_giw.py). -/
namespace Go.Proofs.YtdloacfoegjnmaaGreat.Gi
open Go.RowKit Go.Maps Go.Proofs.YtdloacfoegjnmaaGreat Go.Proofs.YtdloacfoegjnmaaGreat.Ut Go.Proofs.YtdloacfoegjnmaaGreat.Tk Go.Proofs.YtdloacfoegjnmaaGreat.Qy Go.Proofs.YtdloacfoegjnmaaGreat.Ev Go.Proofs.YtdloacfoegjnmaaGreat.Qp Go.Proofs.YtdloacfoegjnmaaGreat.Mv Go.Proofs.YtdloacfoegjnmaaGreat.Mx
set_option linter.unusedVariables false
set_option linter.unusedSimpArgs false
set_option maxRecDepth 40000

theorem rof_all (name : ByteArray) (A : Option Addr) (n c : Nat) (ds : List Dc) (w : World) (hD : DocsAt w w.heap.size A n ds) (hn : n ≤ 1048576) (hs : ∀ d ∈ ds, ∀ f ∈ d.fs, f.2.size ≤ 1048576) (htot : Gr.totW name ds ≤ 1048576) (hname : name.size ≤ 140737488351232) :
    Calls Tryz.prog 10 #[.string name, .slice A n c] w (GPost w name ds) := by
  cases hN : isN name.data.toList with
  | true =>
    refine (Gr.rof_any name A n c ds w hD hn hs htot hname hN).mono ?_
    rintro e w1 ⟨l, h1, h2, v, rfl, h3, h4⟩
    exact ⟨v, 0, l, rfl, h3, h2, fun _ => ⟨rfl, h1⟩, fun h => (by rw [hN] at h; cases h), h4⟩
  | false =>
    refine (Gr.rof_bad name A n c w hname hN).mono ?_
    rintro e w1 ⟨rfl, h4⟩
    exact ⟨_, 1, [], rfl, Gr.SlC.nil _, Nat.zero_le _, fun h => (by rw [hN] at h; cases h), fun _ => ⟨rfl, rfl⟩, h4⟩
theorem RIx.at_ {w : World} {Rr : Nat → Prop} {B : Nat} {A : Option Addr} {n c : Nat} {ds : List Dc} (h : RIx w Rr B A n c ds) : DocsAt w w.heap.size A n ds := by
  obtain ⟨vss, h1, h2, h3⟩ := h.rd.ex
  refine ⟨h.rd.ln, vss, h1, h2.reads h.lt, fun i a b => ?_⟩
  obtain ⟨F, fn, fc, e, r, q⟩ := (h3 i a b).ex
  exact ⟨F, fn, fc, e, r.reads (fun b hb => hb.elim (h.lt b) (fun q => Nat.lt_of_lt_of_le q h.bw)), q⟩
set_option maxHeartbeats 3200000 in
theorem indexes_walk (name : ByteArray) (A0 : Option Addr) (n c : Nat) (L : List Bt) (w : World) (hname : name.size ≤ 140737488351232) (hB : BtsAt w (· < w.heap.size) w.heap.size A0 n c L) (hn : n ≤ 4398046511104) :
    Calls Tryz.prog 3 #[.string name, .slice A0 n c] w fun e w' => e = .returned (.bool true) ∧ Below w.heap.size w w' := by
  have C0 := Lib.hid (fewL_any A0 n c L w hB hn)
  clear hB
  go_enter Tryz.func3, Tryz.ntmps3
  go_wp2_with fail
  refine C0.out.mono ?_
  clear C0
  rintro e w1 (⟨rfl, hb1⟩ | ⟨v1, rfl, hv1, hFL, hb1⟩)
  · have HB1 := Lib.hid hb1
    clear hb1
    go_wp2_with fail
    refine (new_ix w1).mono ?_
    rintro e w2 ⟨X, rfl, _, hb2⟩
    have HB2 := Lib.hid (HB1.out.trans (hb2.mono HB1.out.size))
    clear hb2
    go_wp2_with fail
    refine (Gr.awake_any w2).mono ?_
    rintro e w3 ⟨rfl, hb3⟩
    have HB3 := Lib.hid (HB2.out.trans (hb3.mono HB2.out.size))
    clear hb3
    go_wp2
    go_ret
    exact ⟨rfl, HB3.out⟩
  · obtain ⟨A1, c1, rfl, hL⟩ := hv1.read
    have HB1 := Lib.hid hb1
    have hm8 : (L.take 8).length ≤ 8 := by rw [List.length_take]; omega
    have hs1 := hb1.size
    have hL' : BtsAt w1 (· < w1.heap.size) w1.heap.size A1 (L.take 8).length c1 (L.take 8) := by
      obtain ⟨vss, q1, q2, q3⟩ := hL.ex
      exact ⟨hL.ln, hL.cap, vss, q1, q2.mono (fun b hb => hb.2), fun i a b => (q3 i a b).more hs1⟩
    have HLIT := Lib.hid (few_lit hFL)
    clear hb1 hL hv1 hFL
    generalize L.take 8 = l at *
    have HLR : Hid (∀ wx, Below w1.heap.size w1 wx → ∀ k (hk : k < l.length), ∃ b o E m q, A1 = some ⟨b, o, none⟩ ∧ b < w1.heap.size ∧ wx.cell? ⟨b, o + k * 2, none⟩ = some (.int .i64 l[k].1) ∧ wx.cell? ⟨b, o + k * 2 + 1, none⟩ = some (.slice E m q) ∧ EvsAt wx w1.heap.size E m q l[k].2) := Lib.hid (fun wx hb k hk => by
      obtain ⟨b, o, E, m, q, e, hr, c0, c1, hE⟩ := hL'.at_ hk
      exact ⟨b, o, E, m, q, e, hr, (hb.cell hr).trans c0, (hb.cell hr).trans c1, hE.keep (fun b o hlt => hb.cell hlt)⟩)
    clear hL'
    go_wp2_with fail
    refine (new_ix w1).mono ?_
    rintro e w2 ⟨X, rfl, hI, hb2⟩
    have hP0 := Pair.start (B := w1.heap.size) hI (Nat.le_refl _) hb2.size
    have HP0 := Lib.hid hP0
    have hb3 : Below w1.heap.size w1 (w2.alloc (.cells #[.slice none 0 0] 30)) := hb2.alloc hb2.size _
    have HB3 := Lib.hid hb3
    have hs2 := hb2.size
    clear hI hb2 hP0 hb3
    go_wp2_with fail
    generalize hR0 : w2.heap.size = R0 at *
    generalize hw3 : w2.alloc (.cells #[.slice none 0 0] 30) = w3 at *
    clear hw3
    go_loopw [8] (fun j wr => ∃ (k : Nat) (O Rr : Nat → Prop) (A : Option Addr) (nA cA : Nat), k ≤ l.length ∧ j = .int .i64 (k : Nat) ∧ Hid (Pair wr w1.heap.size w1.heap.size X R0 O Rr A nA cA (fillG (l.take k))) ∧ Hid (Below w1.heap.size w1 wr)) (fun j _ => l.length - (intOf j).toNat)
    case atStart => exact ⟨0, _, _, _, _, _, Nat.zero_le _, rfl, HP0, HB3⟩
    case round =>
      obtain ⟨k, O, Rr, A, nA, cA, hk, rfl, HP, HW⟩ := hrel
      by_cases hlt : k < l.length
      · have hki : (k : Int) < (l.length : Int) := by omega
        have hki0 : (0 : Int) ≤ (k : Int) := by omega
        have hwr := HW.out.size
        obtain ⟨b, o, E, mE, q, rfl, hb, g0, g1, hE⟩ := HLR.out wr HW.out k hlt
        have hfd : fillG (l.take (k + 1)) = addD (fillG (l.take k)) l[k].1 l[k].2 := by rw [List.take_succ_eq_append_getElem hlt, fillG_snoc]
        have HFD := Lib.hid hfd
        generalize hds : fillG (l.take k) = ds at *
        have C1 := Lib.hid (add_walk l[k].1 E mE q l[k].2 w1.heap.size X O ds wr HP.out.ix HP.out.hn (hE.more hwr))
        clear hE hfd hds
        go_wp2_with fail
        refine C1.out.mono ?_
        rintro e w4 ⟨rfl, hI4, hc4⟩
        obtain ⟨hr4, hk4, hb4, hd4, hO4⟩ := HP.out.add hI4 hc4
        have hW4 : Below w1.heap.size w1 w4 := HW.out.trans hb4
        have hs4 := hb4.size
        have HI4 := Lib.hid hI4
        have HR4 := Lib.hid hr4
        have HK4 := Lib.hid hk4
        have HD4 := Lib.hid hd4
        have HO4 := Lib.hid hO4
        have HW4 := Lib.hid hW4
        have OK := Lib.hid (And.intro HP.out.ix.ok HP.out.ix.few)
        have hR0b := HP.out.hR
        obtain ⟨b', o', E', m', q', e', hb', g0', g1', hE'⟩ := HLR.out w4 hW4 k hlt
        injection e' with e'
        injection e' with e1 e2
        subst e1 e2
        have HE4 := Lib.hid hE'
        have q0 := hk4.cell 0
        simp only [List.getElem?_toArray, List.getElem?_cons_zero] at q0
        have hsz : R0 < w4.heap.size := hk4.lt
        have hbl : b < w4.heap.size := Nat.lt_of_lt_of_le hb (by omega)
        have CA : Hid (∀ wx, Below w4.heap.size w4 wx → Calls Tryz.prog 8 #[.agg #[.slice A nA cA], .agg #[.int .i64 l[k].1, .slice E' m' q']] wx (RAddPost wx Rr w1.heap.size ds l[k].1 l[k].2)) := Lib.hid (fun wx hC =>
          radd_any l[k].1 E' m' q' l[k].2 A nA cA ds Rr w1.heap.size wx (HR4.out.below hC (fun b hb => hb) (fun b hb => Nat.lt_of_lt_of_le (HR4.out.lt b hb) hC.size)) (HE4.out.keep (fun b o hlt => hC.cell (by show b < _; omega))) OK.out.1 OK.out.2)
        clear hI4 hc4 hr4 hk4 hb4 hd4 hO4 g0 g1 hE' C1
        generalize l[k].1 = sq at *
        generalize l[k].2 = evs at *
        go_upto_region 10 with (fail)
        refine wp_region_noPanic ?_
        refine wp_region_held_drew (S := fun w' => w'.cell? ⟨b, o + k * 2, none⟩ = some (.int .i64 sq) ∧ w'.cell? ⟨b, o + k * 2 + 1, none⟩ = some (.slice E' m' q')) (by kernel_rfl) (by exact ⟨g0', g1'⟩) (fun hHeld => ?_)
        refine wpAnyH_takeD (i := 1) 49 (v := ?_) rfl rfl (by kernel_rfl) (by kernel_rfl) (by kernel_rfl) (fun _ _ _ h => h) (by rfl) ?_ hHeld ?_
        rotate_left
        · intro W hSw; (try dsimp only at hSw); go_simp
          all_goals with_reducible rfl
        try simp only [Act.put, List.setIfInBounds_toArray, List.set_cons_zero, List.set_cons_succ]
        refine wpAnyH_takeD (i := 2) 50 (v := ?_) rfl rfl (by kernel_rfl) (by kernel_rfl) (by kernel_rfl) (fun _ _ _ h => h) (by rfl) ?_ hHeld ?_
        rotate_left
        · intro W hSw; (try dsimp only at hSw); go_simp
          all_goals with_reducible rfl
        try simp only [Act.put, List.setIfInBounds_toArray, List.set_cons_zero, List.set_cons_succ]
        refine wpAnyH_takeD (i := 3) 51 (v := ?_) rfl rfl (by kernel_rfl) (by kernel_rfl) (by kernel_rfl) (fun _ _ _ h => h) (by rfl) ?_ hHeld ?_
        rotate_left
        · intro W hSw; (try dsimp only at hSw); go_simp
          all_goals with_reducible rfl
        try simp only [Act.put, List.setIfInBounds_toArray, List.set_cons_zero, List.set_cons_succ]
        refine wpAnyH_takeD (i := 4) 52 (v := ?_) rfl rfl (by kernel_rfl) (by kernel_rfl) (by kernel_rfl) (fun _ _ _ h => h) (by rfl) ?_ hHeld ?_
        rotate_left
        · intro W hSw; (try dsimp only at hSw); go_simp
          all_goals with_reducible rfl
        try simp only [Act.put, List.setIfInBounds_toArray, List.set_cons_zero, List.set_cons_succ]
        refine wpAnyH_ready (rs := [0]) (by kernel_rfl) (by simp) ?_
        refine AllReadyH.cons (o := _) rfl (fun K hK => ?_) AllReadyH.nil
        go_simp
        refine hK.out _ _ ?_ (fun hHeld => ?_)
        · exact ⟨g0', g1'⟩
        clear hK K
        try simp only [Act.put, List.setIfInBounds_toArray, List.set_cons_zero, List.set_cons_succ]
        refine wpAnyH_ready (rs := [5]) (by kernel_rfl) (by simp) ?_
        refine AllReadyH.cons (o := _) rfl (fun K hK => ?_) AllReadyH.nil
        go_simp
        refine (CA.out _ (Below.refl _ _).drew).mono ?_
        rintro e w6 ⟨A9, n9, c9, rfl, hr9, hb9⟩
        have hb9' : Below w4.heap.size w4 w6 := (Below.refl _ _).drew.trans hb9
        refine hK.out _ _ ?_ (fun hHeld => ?_)
        · exact ⟨(hb9'.cell (p := ⟨b, o + k * 2, none⟩) hbl).trans g0', (hb9'.cell (p := ⟨b, o + k * 2 + 1, none⟩) hbl).trans g1'⟩
        clear hK K
        try simp only [Act.put, List.setIfInBounds_toArray, List.set_cons_zero, List.set_cons_succ]
        refine wpAnyH_takeD (i := 6) 47 (v := ?_) rfl rfl (by kernel_rfl) (by kernel_rfl) (by kernel_rfl) (fun _ _ _ h => h) (by rfl) ?_ hHeld ?_
        rotate_left
        · intro W hSw; (try dsimp only at hSw); go_simp
          all_goals with_reducible rfl
        try simp only [Act.put, List.setIfInBounds_toArray, List.set_cons_zero, List.set_cons_succ]
        refine wpAnyH_takeD (i := 7) 54 (v := ?_) rfl rfl (by kernel_rfl) (by kernel_rfl) (by kernel_rfl) (fun _ _ _ h => h) (by rfl) ?_ hHeld ?_
        rotate_left
        · intro W hSw; (try dsimp only at hSw); go_simp
          all_goals with_reducible rfl
        try simp only [Act.put, List.setIfInBounds_toArray, List.set_cons_zero, List.set_cons_succ]
        refine wpAnyH_takeD (i := 8) 55 (v := ?_) rfl rfl (by kernel_rfl) (by kernel_rfl) (by kernel_rfl) (fun _ _ _ h => h) (by rfl) ?_ hHeld ?_
        rotate_left
        · intro W hSw; (try dsimp only at hSw); go_simp
          all_goals with_reducible rfl
        try simp only [Act.put, List.setIfInBounds_toArray, List.set_cons_zero, List.set_cons_succ]
        have hk6 := HK4.out.below hb9' HK4.out.lt
        have y0 := hk6.cell 0
        have y0f := hk6.frozen 0
        simp only [List.getElem?_toArray, List.getElem?_cons_zero] at y0
        have hP8 := Pair.put HI4.out hb9' hr9 HD4.out HK4.out HO4.out HP.out.hB (Nat.le_trans hwr hs4) hR0b
        have HP8 : Hid (Pair (w6.setCell ⟨R0, 0, none⟩ (.slice A9 n9 c9)) w1.heap.size w1.heap.size X R0 _ _ A9 n9 c9 (fillG (l.take (k + 1)))) := Lib.hid (by rw [HFD.out]; exact hP8)
        have HB8 := Lib.hid ((HW4.out.trans (hb9'.mono (Nat.le_trans hwr hs4))).setCell (p := ⟨R0, 0, none⟩) hR0b (.slice A9 n9 c9))
        have hh9 : (w6.setCell ⟨R0, 0, none⟩ (.slice A9 n9 c9)).cell? ⟨b, o + k * 2, none⟩ = some (.int .i64 sq) ∧ (w6.setCell ⟨R0, 0, none⟩ (.slice A9 n9 c9)).cell? ⟨b, o + k * 2 + 1, none⟩ = some (.slice E' m' q') := by
          have hne : b ≠ R0 := by omega
          have e1 : ∀ (q : Nat), (w6.setCell ⟨R0, 0, none⟩ (.slice A9 n9 c9)).cell? ⟨b, q, none⟩ = w6.cell? ⟨b, q, none⟩ := fun q => World.cell?_of_block (Below.heap_setCell _ ⟨R0, 0, none⟩ _ _ hne)
          exact ⟨(e1 _).trans ((hb9'.cell (p := ⟨b, o + k * 2, none⟩) hbl).trans g0'), (e1 _).trans ((hb9'.cell (p := ⟨b, o + k * 2 + 1, none⟩) hbl).trans g1')⟩
        clear hP8 hr9 hk6 q0
        refine wpAnyH_ready (rs := [9]) (by kernel_rfl) (by simp) ?_
        refine AllReadyH.cons (o := _) rfl (fun K hK => ?_) AllReadyH.nil
        go_simp
        refine hK.out _ _ ?_ (fun hHeld => ?_)
        · exact hh9
        clear hK K
        try simp only [Act.put, List.setIfInBounds_toArray, List.set_cons_zero, List.set_cons_succ]
        refine wpAnyH_done (by kernel_rfl) ?_ _
        refine NoPanic.normal ?_
        clear hh9 hHeld
        go_wp2_with fail
        go_roundw
        case rel => exact ⟨k + 1, _, _, _, _, _, by omega, by go_num, HP8, HB8⟩
        case measure => simp [intOf]; omega
      · obtain rfl : k = l.length := by omega
        rw [List.take_length] at HP
        generalize fillG l = ds at *
        have hwr := HW.out.size
        have hnd : nA = ds.length := HP.out.rx.rd.ln.symm
        subst hnd
        have OK := Lib.hid HP.out.ix.ok
        have h80 := HLIT.out.2
        have htot := totW_lit name HLIT.out.1
        have HSZ : Hid (∀ d ∈ ds, ∀ f ∈ d.fs, f.2.size ≤ 1048576) := Lib.hid (fun d hd f hf => by have := ((chkE_ok (OK.out d hd).1).2 f hf).2.2; omega)
        obtain ⟨M, cn, v, F, hIx, hcn⟩ := HP.out.ix.ex
        have C5 := Lib.hid (gindex_any name hIx OK.out h80 HLIT.out.1 (by
          have h2 : ds.length * 65536 ≤ 80 * 65536 := Nat.mul_le_mul_right _ h80
          omega) hname)
        have HDA : Hid (∀ wx, Below wr.heap.size wr wx → DocsAt wx wx.heap.size A ds.length ds) := Lib.hid (fun wx hb => RIx.at_ (HP.out.rx.below hb (fun b hb => hb) (fun b hb' => Nat.lt_of_lt_of_le (HP.out.rx.lt b hb') hb.size)))
        have HCE : Hid (∀ wx, Below wr.heap.size wr wx → wx.cell? ⟨R0, 0, none⟩ = some (.slice A ds.length cA)) := Lib.hid (fun wx hb => by
          have k := (HP.out.blk.below hb HP.out.blk.lt).cell 0
          simpa using k)
        have HBR := Lib.hid (HB1.out.trans (HW.out.mono hs1))
        have hsr := HBR.out.size
        clear hIx hcn HP HLR HP0 HB3
        go_wp2_with fail
        refine C5.out.mono ?_
        clear C5
        rintro e w5 ⟨va, ea, la, rfl, sa, na, ta, ua, hb5⟩
        have H5 := Lib.hid hb5
        have SA5 := Lib.hid sa
        have TA := Lib.hid (And.intro ta ua)
        have k0 := HCE.out w5 hb5
        have C6 := Lib.hid (rof_all name A ds.length cA ds w5 (HDA.out w5 hb5) (by omega) HSZ.out (by omega) hname)
        have hs5 := hb5.size
        clear sa ta ua hb5
        go_wp2_with fail
        refine C6.out.mono ?_
        clear C6
        rintro e w6 ⟨vb, eb, lb, rfl, sb, nb, tb, ub, hb6⟩
        have H6 := Lib.hid (H5.out.trans (hb6.mono hs5))
        have SA6 := Lib.hid (SA5.out.grow hb6)
        have SB6 := Lib.hid sb
        obtain ⟨rfl, rfl⟩ := g_one TA.out.1 TA.out.2 tb ub
        have hs6 := H6.out.size
        clear sb tb ub hb6 k0 SA5 TA
        go_wp2_with fail
        refine (gindex_N ⟨#[109, 115, 103]⟩ (w := w6) (p := none) (.inl rfl)).mono ?_
        rintro e w7 ⟨rfl, hb7⟩
        have H7 := Lib.hid (H6.out.trans (hb7.mono hs6))
        have SA7 := Lib.hid (SA6.out.grow hb7)
        have SB7 := Lib.hid (SB6.out.grow hb7)
        have hs7 := H7.out.size
        have hbz : Below w7.heap.size w7 (w7.alloc (.cells #[.int .i64 0, .int .i64 0, .int .i64 0, .slice none 0 0, .map none] 48)) := (Below.refl _ _).alloc (Nat.le_refl _) _
        have hz := Blk.new w7 48 #[.int .i64 0, .int .i64 0, .int .i64 0, .slice none 0 0, .map none]
        have HNX : Hid (NoIx (w7.alloc (.cells #[.int .i64 0, .int .i64 0, .int .i64 0, .slice none 0 0, .map none] 48)) (some ⟨w7.heap.size, 0, none⟩)) := Lib.hid (.inr ⟨_, rfl, hz⟩)
        have H8 := Lib.hid (H7.out.trans (hbz.mono hs7))
        have SA8 := Lib.hid (SA7.out.grow hbz)
        have SB8 := Lib.hid (SB7.out.grow hbz)
        clear hb7 hbz hz SA6 SB6
        go_wp2_with fail
        refine (gindex_N ⟨#[109, 115, 103]⟩ HNX.out).mono ?_
        rintro e w9 ⟨rfl, hb9⟩
        have H9 := Lib.hid (H8.out.trans (hb9.mono H8.out.size))
        obtain ⟨PA, pa, rfl, ra, _, _⟩ := SA8.out.grow hb9
        obtain ⟨PB, pb, rfl, rb, _, _⟩ := SB8.out.grow hb9
        have C9 := Lib.hid (Gr.lsame_any PA PB pa pb _ _ la la w9 ra rb na na)
        rw [decide_eq_true rfl] at C9
        clear hb9 ra rb SA7 SB7 SA8 SB8 HNX
        go_wp2_with fail
        refine C9.out.mono ?_
        clear C9
        rintro e w10 ⟨rfl, hb10⟩
        have H10 := Lib.hid (H9.out.trans (hb10.mono H9.out.size))
        clear hb10
        go_wp2_with fail
        refine (Gr.awake_any w10).mono ?_
        rintro e w11 ⟨rfl, hb11⟩
        have HF := Lib.hid (HBR.out.trans ((H10.out.trans (hb11.mono H10.out.size)).mono hsr))
        clear hb11
        go_wp2
        go_ret
        exact ⟨rfl, HF.out⟩
end Go.Proofs.YtdloacfoegjnmaaGreat.Gi
end
