/- The hot index: where terms stand: plain. (No program in sight.) -/
import Derived.Deep.RegionHeld3
import Derived.Deep.RegionLaw
import Derived.Maps.AppendAt
import Derived.Laws.AppendOwnNone
import Derived.Maps.RangeWalk
import Derived.Test.YtlfpfkallgkjdaaGreatPkAlertManyRow5
import Derived.Test.YtlfpfkallgkjdaaGreatPkAlertManyRow24
import Derived.Test.YtlfpfkallgkjdaaGreatPkAlertManyRow0
import Derived.Test.YtlfpfkallgkjdaaGreatPkAlertManyRow33
import Derived.Test.YtlfpfkallgkjdaaGreatEvUPk
import Derived.Test.YtlfpfkallgkjdaaGreatPkAlertManyRow27
import Derived.Test.YtlfpfkallgkjdaaGreatPkAlertManyRow25
section
namespace Go.Proofs.YtlfpfkallgkjdaaGreat.Mx
open Go.RowKit Go.Proofs.YtlfpfkallgkjdaaGreat Go.Proofs.YtlfpfkallgkjdaaGreat.Ut Go.Proofs.YtlfpfkallgkjdaaGreat.Tk Go.Proofs.YtlfpfkallgkjdaaGreat.Qy Go.Proofs.YtlfpfkallgkjdaaGreat.Ev
set_option linter.unusedVariables false
set_option linter.unusedSimpArgs false

/-- A post: a doc's place; the places in it. -/
abbrev Po := Nat × List Nat
/-- Where a term stands in an event. -/
def posOf (fs : List Fl) (s : ByteArray) : Option (List Nat) := ((addAll (raw fs)).find? (fun t => decide (t.1 = s))).map (·.2)
/-- A term's posts. -/
def postsT (ds : List (List Fl)) (s : ByteArray) : List Po := ds.zipIdx.filterMap (fun p => (posOf p.1 s).map (fun q => (p.2, q)))
theorem postsT_nil (s : ByteArray) : postsT [] s = [] := rfl
theorem postsT_snoc (ds : List (List Fl)) (fs : List Fl) (s : ByteArray) : postsT (ds ++ [fs]) s = postsT ds s ++ (match posOf fs s with | some q => [(ds.length, q)] | none => []) := by
  unfold postsT
  rw [List.zipIdx_append, List.filterMap_append]
  congr 1
  simp only [List.zipIdx_cons, List.zipIdx_nil, List.filterMap_cons, List.filterMap_nil, Nat.zero_add]
  cases posOf fs s <;> rfl
/-- A term's post more. -/
def addP (f : ByteArray → List Po) (i : Nat) (t : Tm) : ByteArray → List Po := fun s => if s = t.1 then f s ++ [(i, t.2)] else f s
theorem addP_all (i : Nat) : ∀ (T : List Tm) (f : ByteArray → List Po), T.Pairwise (fun x y => x.1 ≠ y.1) → ∀ s, (T.foldl (fun f t => addP f i t) f) s = f s ++ (match (T.find? (fun t => decide (t.1 = s))).map (·.2) with | some q => [(i, q)] | none => [])
  | [], f, _, s => by simp
  | t :: T, f, h, s => by
    obtain ⟨h1, h2⟩ := List.pairwise_cons.1 h
    rw [List.foldl_cons, addP_all i T (addP f i t) h2 s]
    unfold addP
    by_cases e : s = t.1
    · have hn : T.find? (fun x => decide (x.1 = s)) = none := by
        rw [List.find?_eq_none]
        intro x hx
        have := h1 x hx
        simp only [decide_eq_true_eq]
        intro e2
        exact this (by rw [e2, e])
      rw [hn, if_pos e, List.find?_cons]
      simp [e]
    · rw [if_neg e, List.find?_cons]
      have : decide (t.1 = s) = false := decide_eq_false (fun e2 => e e2.symm)
      simp only [this]
theorem terms_ne (fs : List Fl) : (addAll (raw fs)).Pairwise (fun x y => x.1 ≠ y.1) := (isTm_all (raw fs)).up.imp (fun {x y} h e => by rw [e, ltB_irrefl] at h; cases h)
/-- All terms of one doc more. -/
theorem posts_doc (ds : List (List Fl)) (fs : List Fl) (s : ByteArray) : ((addAll (raw fs)).foldl (fun f t => addP f ds.length t) (postsT ds)) s = postsT (ds ++ [fs]) s := by
  rw [addP_all _ _ _ (terms_ne fs), postsT_snoc]
  rfl
theorem posOf_ne {fs : List Fl} {s : ByteArray} {q : List Nat} (h : posOf fs s = some q) : q ≠ [] := by
  unfold posOf at h
  obtain ⟨t, ht, rfl⟩ := Option.map_eq_some_iff.1 h
  exact (((isTm_all (raw fs)).mem t).1 (List.mem_of_find?_eq_some ht)).1
/-- The sizes, the times of docs. -/
def szD : List Dc → Nat
  | [] => 0
  | d :: l => szE d.fs + szD l
def loD : List Dc → Int
  | [] => 0
  | d :: l => l.foldl (fun a e => min a e.at_) d.at_
def hiD : List Dc → Int
  | [] => 0
  | d :: l => l.foldl (fun a e => max a e.at_) d.at_
theorem szD_snoc (l : List Dc) (d : Dc) : szD (l ++ [d]) = szD l + szE d.fs := by
  induction l with
  | nil => simp [szD]
  | cons e l ih => simp only [List.cons_append, szD, ih]; omega
theorem loD_snoc (l : List Dc) (d : Dc) : loD (l ++ [d]) = if l = [] then d.at_ else min (loD l) d.at_ := by
  cases l with
  | nil => rfl
  | cons e l => simp [loD, List.foldl_append]
theorem hiD_snoc (l : List Dc) (d : Dc) : hiD (l ++ [d]) = if l = [] then d.at_ else max (hiD l) d.at_ := by
  cases l with
  | nil => rfl
  | cons e l => simp [hiD, List.foldl_append]
/-- What an index says of a batch. -/
def addE (ds : List Dc) (seq : Int) (l : List Evn) : Int :=
  if chkB seq l = 0 then (if ∃ d, ds.getLast? = some d ∧ seq ≠ d.seq + 1 then 140 else if 65536 < ds.length + l.length then 3 else 0) else chkB seq l
/-- What it has behind it. -/
def addD (ds : List Dc) (seq : Int) (l : List Evn) : List Dc := if addE ds seq l = 0 then ds ++ mkD seq l else ds
end Go.Proofs.YtlfpfkallgkjdaaGreat.Mx
end

section
/- SLICED by slice.py -/
/- The hot index in memory. (No walk.) -/
namespace Go.Proofs.YtlfpfkallgkjdaaGreat.Mx
open Go.RowKit Go.Proofs.YtlfpfkallgkjdaaGreat Go.Proofs.YtlfpfkallgkjdaaGreat.Ut Go.Proofs.YtlfpfkallgkjdaaGreat.Tk Go.Proofs.YtlfpfkallgkjdaaGreat.Qy Go.Proofs.YtlfpfkallgkjdaaGreat.Ev Go.Proofs.YtlfpfkallgkjdaaGreat.Qp Go.Proofs.YtlfpfkallgkjdaaGreat.Mv
set_option linter.unusedVariables false
set_option linter.unusedSimpArgs false
set_option maxRecDepth 20000

/-- A post in memory: the doc, the row of places, the places. -/
abbrev Pr := Nat × Value × List Nat
def encP (x : Pr) : List Value := [.int .i64 (x.1 : Nat), x.2.1]
def prP (x : Pr) : Po := (x.1, x.2.2)
/-- A row of places that nobody writes. -/
structure PosV (w : World) (x : Pr) : Prop where
  ex : ∃ P pc, x.2.1 = .slice P x.2.2.length pc ∧ x.2.2.length ≤ pc ∧ ReadsS w (fun b => Tg w 3 b) 1 P x.2.2.length (nC x.2.2)
  ne : x.2.2 ≠ []
  sz : x.2.2.length ≤ 65536
theorem PosV.same {w w' : World} {x : Pr} (h : PosV w x) (hk : ∀ b, Tg w 3 b → w'.heap[b]? = w.heap[b]?) : PosV w' x := by
  obtain ⟨P, pc, h1, h2, h3⟩ := h.ex
  exact ⟨⟨P, pc, h1, h2, h3.same (fun b hb => ⟨hb.same (hk b hb), hk b hb⟩)⟩, h.ne, h.sz⟩
theorem own_same {w w' : World} {base k n : Nat} {T : TypeId} {v : Value} {xs : List Value} (h : w.ownsRow base T k v n xs) (hk : ∀ b, v.ownBlock = some b → w'.heap[b]? = w.heap[b]?) : w'.ownsRow base T k v n xs :=
  ⟨h.1, h.2.elim .inl (fun ⟨g, cap, cur, hv, hg, hh, r⟩ => .inr ⟨g, cap, cur, hv, hg, (hk g (by rw [hv]; rfl)).trans hh, r⟩)⟩
section
variable {w w' : World} {n0 X M cn : Nat} {v : Value} {F : ByteArray → Option Value} {O O' : Nat → Prop} {ds : List Dc} {sz lo hi : Int} {f : ByteArray → List Po}
end
end Go.Proofs.YtlfpfkallgkjdaaGreat.Mx
end

section
/- SLICED by slice.py -/
/- memidx.New, none: the walks. -/
namespace Go.Proofs.YtlfpfkallgkjdaaGreat.Mx
open Go.RowKit Go.Proofs.YtlfpfkallgkjdaaGreat Go.Proofs.YtlfpfkallgkjdaaGreat.Ut Go.Proofs.YtlfpfkallgkjdaaGreat.Tk Go.Proofs.YtlfpfkallgkjdaaGreat.Qy Go.Proofs.YtlfpfkallgkjdaaGreat.Ev Go.Proofs.YtlfpfkallgkjdaaGreat.Qp Go.Proofs.YtlfpfkallgkjdaaGreat.Mv
set_option linter.unusedVariables false
set_option linter.unusedSimpArgs false
set_option maxRecDepth 20000

end Go.Proofs.YtlfpfkallgkjdaaGreat.Mx
end

section
/- event.Docs, loggiaref10.Docs: the walks. -/
namespace Go.Proofs.YtlfpfkallgkjdaaGreat.Ev
open Go.RowKit Go.Proofs.YtlfpfkallgkjdaaGreat Go.Proofs.YtlfpfkallgkjdaaGreat.Ut Go.Proofs.YtlfpfkallgkjdaaGreat.Tk Go.Proofs.YtlfpfkallgkjdaaGreat.Qy Go.Proofs.YtlfpfkallgkjdaaGreat.Qp
set_option maxRecDepth 20000
set_option linter.unusedVariables false
set_option linter.unusedSimpArgs false

/-- Docs of the call's own, handed back. -/
def DocsPost (w : World) (ds : List Dc) (e : Ending) (w' : World) : Prop := ∃ v, e = .returned v ∧ DOwn w' w.heap.size v ds ∧ Below w.heap.size w w'

set_option maxHeartbeats 6400000 in
theorem docs_any (seq : Int) (A : Option Addr) (n c : Nat) (l : List Evn) (w : World) (h : EvsAt w w.heap.size A n c l) (hok : chkB seq l = 0) :
    Calls Tryz.prog 58 #[.agg #[.int .i64 seq, .slice A n c]] w (DocsPost w (mkD seq l)) := by
  obtain ⟨i0, hi0, hz0, hz1, hz2⟩ := info_parts doc_info
  have hl := h.ln
  have hl1 : l.length ≤ n := by omega
  have hl2 : n ≤ l.length := by omega
  have hcap := h.cap
  have hok' := chkB_ok hok
  have hn64 : n ≤ 64 := by have := hok'.2.1; omega
  have hs1 : 1 ≤ seq := hok'.2.2.2.2.1
  have hs2 : seq ≤ 1099511627777 := by have := hok'.2.2.2.2.2; omega
  have hB1 : Below w.heap.size w (w.alloc (.cells #[.int .i64 seq, .slice A n c] 69)) := (Below.refl _ _).alloc (Nat.le_refl _) _
  have hF1 := h.grow hB1
  have hX := (Blk.new w 69 #[.int .i64 seq, .slice A n c])
  have c1 := checkBatch_any seq A n c l _ hF1
  rw [hok] at c1
  have C1 := Lib.hid c1
  have OK := Lib.hid hok'.2.2.1
  have H := Lib.hid (And.intro hF1 (And.intro hX hB1))
  clear hl h hF1 hX hB1 c1 hok hok'
  go_enter Tryz.func58, Tryz.ntmps58
  go_wp2_with fail
  refine C1.out.mono ?_
  rintro e W0 ⟨rfl, hb0⟩
  have H0 : Hid (EvsAt W0 W0.heap.size A n c l ∧ Blk W0 w.heap.size 69 #[.int .i64 seq, .slice A n c] ∧ Below w.heap.size w W0) := Lib.hid ⟨H.out.1.grow hb0, H.out.2.1.below hb0 H.out.2.1.lt, H.out.2.2.trans (hb0.mono H.out.2.2.size)⟩
  have e1 := H0.out.2.1.cell 1
  simp only [List.getElem?_toArray, List.getElem?_cons_zero, List.getElem?_cons_succ] at e1
  clear hb0 H C1
  go_wp2_with fail
  clear e1
  go_loopw [3, 12] (fun v i wr => ∃ k : Nat, k ≤ l.length ∧ i = .int .i64 (k : Nat) ∧ Hid (DOwn wr W0.heap.size v (mkD seq (l.take k))) ∧ Hid (Below W0.heap.size W0 wr)) (fun _ i _ => l.length - (intOf i).toNat)
  case atStart => exact ⟨0, Nat.zero_le _, rfl, Lib.hid (DOwn.start _ _), Lib.hid (Below.refl _ _)⟩
  case round =>
    obtain ⟨k, hk, rfl, hO, hB⟩ := hrel
    have hBlk := H0.out.2.1.below hB.out H0.out.2.1.lt
    have d0 := hBlk.cell 0
    have d1 := hBlk.cell 1
    simp only [List.getElem?_toArray, List.getElem?_cons_zero, List.getElem?_cons_succ] at d0 d1
    have HBK := Lib.hid hBlk
    clear hBlk
    have hBw : Hid (Below w.heap.size w wr) := Lib.hid (H0.out.2.2.trans (hB.out.mono H0.out.2.2.size))
    by_cases hlt : k < l.length
    · have hkz : (k : Int) < (n : Int) := by omega
      have hk0 : (0 : Int) ≤ (k : Int) := by omega
      have hG := H0.out.1.grow hB.out
      obtain ⟨b, o, F, fn, fc, rfl, hbb, ca, cf, hFl⟩ := hG.at_ hlt
      have hmk := mkD_take seq l k hlt
      have hfew := (chkE_ok (OK.out _ (List.getElem_mem hlt))).1
      have hlnk : (mkD seq (l.take k)).length = k := by rw [mkD_len, List.length_take]; omega
      have hBx : Below wr.heap.size wr (wr.alloc (.cells #[.int .i64 l[k].1, .slice F fn fc] 33)) := (Below.refl _ wr).alloc (Nat.le_refl _) _
      have hx := Blk.new wr 33 #[.int .i64 l[k].1, .slice F fn fc]
      have c2 := cloneF_any F fn fc l[k].2 _ (hFl.grow hBx).rd hFl.len (by have := hFl.len; omega) hFl.nl
      have hfl : Hid (l[k].2.length = fn) := Lib.hid hFl.len
      have hf16 : fn ≤ 16 := by have := hFl.len; omega
      generalize hev : l[k] = ev at *
      clear hev hG hFl
      obtain ⟨ta, fs⟩ := ev
      simp only at ca c2 hmk hfl hx hBx
      have HX := Lib.hid (And.intro hx hBx)
      have HMK := Lib.hid hmk
      have HLK := Lib.hid hlnk
      have C2 := Lib.hid c2
      clear hx hBx hmk c2 hfew hlnk
      go_wp2_with fail
      generalize hw1 : wr.alloc (.cells #[.int .i64 ta, .slice F fn fc] 33) = w1 at *
      clear hw1 ca cf
      refine C2.out.mono ?_
      rintro e w3 ⟨v3, rfl, hown3, hb3⟩
      obtain ⟨A3, q3, rfl, hR3, hnq3, hnl3, hg3⟩ := own_shape2 hown3
      have h7 := HX.out.1.below hb3 HX.out.1.lt
      have h7s := h7.set_ 1 (.slice A3 fs.length q3)
      have h7c := h7.cell 1
      have h7f := h7.frozen 1
      have h7s0 := h7s.cell 0
      have h7s1 := h7s.cell 1
      simp at h7c h7s0 h7s1
      have hbt := HBK.out.below (HX.out.2) HBK.out.lt |>.below hb3 (by have := HBK.out.lt; have := HX.out.2.size; omega)
      have t0 : (w3.setCell ⟨wr.heap.size, 1, none⟩ (.slice A3 fs.length q3)).cell? ⟨w.heap.size, 0, none⟩ = some (.int .i64 seq) := by
        have e := hbt.cell 0
        simp only [List.getElem?_toArray, List.getElem?_cons_zero] at e
        have hlt := HBK.out.lt
        exact (World.cell?_of_block (Below.heap_setCell _ _ _ _ (by show w.heap.size ≠ wr.heap.size; omega))).trans e
      have hlw : wr.heap.size < w3.heap.size := by have := h7.lt; exact this
      have hown6 : (((w3.setCell ⟨wr.heap.size, 1, none⟩ (.slice A3 fs.length q3)).alloc (.cells #[.int .i64 (seq + (k : Int)), .int .i64 ta, .slice A3 fs.length q3] 132))).ownsRow w1.heap.size 99 2 (.slice A3 fs.length q3) fs.length (fldC fs) :=
        (hown3.kept (grownBy_setC w3 wr.heap.size 1 _) (.inr (fun e => by have := (hown3.lt _ e).1; have := HX.out.1.lt; omega))).alloc _
      have hbS : Below wr.heap.size wr ((w3.setCell ⟨wr.heap.size, 1, none⟩ (.slice A3 fs.length q3)).alloc (.cells #[.int .i64 (seq + (k : Int)), .int .i64 ta, .slice A3 fs.length q3] 132)) := ((HX.out.2.trans (hb3.mono HX.out.2.size)).setCell (p := ⟨wr.heap.size, 1, none⟩) (Nat.le_refl _) _).alloc (by have := HX.out.2.size; have := hb3.size; simp; omega) _
      have hO6 := hO.out.below hbS
      obtain ⟨vss, g1, g2, g3⟩ := hO6.ex
      have hd6 : DcS ((w3.setCell ⟨wr.heap.size, 1, none⟩ (.slice A3 fs.length q3)).alloc (.cells #[.int .i64 (seq + (k : Int)), .int .i64 ta, .slice A3 fs.length q3] 132)) (Fd _ W0.heap.size) ⟨seq + (k : Int), ta, fs⟩ [.int .i64 (seq + (k : Int)), .int .i64 ta, .slice A3 fs.length q3] :=
        ⟨A3, _, q3, rfl, (ReadsS.of_own hown6).mono (fun b hb => ⟨by have := hb.1; have := hB.out.size; have := HX.out.2.size; omega, tg_own hown6 hb.2.2⟩), rfl, by have := hfl.out; omega, hnq3, hnl3⟩
      have Put : Hid (∀ v' w5, w5.ownsRow W0.heap.size 132 3 v' (k + 1) (vss.flatten ++ [.int .i64 (seq + (k : Int)), .int .i64 ta, .slice A3 fs.length q3]) → _ → DOwn w5 W0.heap.size v' (mkD seq (l.take (k + 1)))) := Lib.hid (fun v' w5 p1 p2 => by
        rw [HMK.out]
        exact DOwn.put ⟨vss, g1, g2, g3, rfl⟩ (by rw [HLK.out]; exact p1) p2 hd6)
      rw [HLK.out] at g2
      have G2 := Lib.hid g2
      have hzs := hbS.size
      have hBS := Lib.hid hbS
      have hw5 : W0.heap.size ≤ wr.heap.size := hB.out.size
      have hsq : 0 ≤ seq + (k : Int) := by omega
      clear hown6 hbS hO6 g1 g2 g3 hd6 hown3 hR3 hnq3 hnl3 hg3 h7 h7s hbt C2 d0 d1
      go_wp2_with (at_builtin; refine wpList_append_own _ rfl _ _ 129 rfl W0.heap.size 132 i0 _ 3 40 Tryz.underlying129 hi0 hz0 hz1 hz2 rfl (by decide) _ _ _ rfl G2.out ⟨w3.heap.size, 0, none⟩ 1 1 [.int .i64 (seq + (k : Int)), .int .i64 ta, .slice A3 fs.length q3] rfl rfl ?d1 ?d2 ?d3 ?d4 ?d5 ?_)
      case d1 => exact World.news_of_block (cs := #[.int .i64 (seq + (k : Int)), .int .i64 ta, .slice A3 fs.length q3]) (t := 132) (fr := (0, 0)) (by have := heap_alloc_new (w3.setCell ⟨wr.heap.size, 1, none⟩ (.slice A3 fs.length q3)) (.cells #[.int .i64 (seq + (k : Int)), .int .i64 ta, .slice A3 fs.length q3] 132); simpa using this)
      case d2 => simp [Value.oneCell']
      case d3 => unfold maxLen; omega
      case d4 => omega
      case d5 => first | omega | (simp; omega)
      intro v' w5 hown5 hg5 _
      have Fin := Lib.hid (Put.out v' w5 hown5 hg5)
      have hbF : Hid (Below W0.heap.size W0 w5) := Lib.hid ((hB.out.trans (hBS.out.mono hB.out.size)).grown hg5 (by omega) (fun j hj => (G2.out.lt j hj).1))
      clear hown5 hg5
      go_wp2
      go_roundw
      case rel => exact ⟨k + 1, by omega, by go_num, Fin, hbF⟩
      case measure => simp [intOf]; omega
    · obtain rfl : k = l.length := by omega
      have hkz : ¬ (l.length : Int) < (n : Int) := by omega
      rw [List.take_length] at hO
      go_wp2
      go_ret
      exact ⟨_, rfl, hO.out.mono H0.out.2.2.size, hBw.out⟩
end Go.Proofs.YtlfpfkallgkjdaaGreat.Ev
end

section
/- SLICED by slice.py -/
/- The hot index: what Add knows. (No walk.) -/
namespace Go.Proofs.YtlfpfkallgkjdaaGreat.Mx
open Go.RowKit Go.Proofs.YtlfpfkallgkjdaaGreat Go.Proofs.YtlfpfkallgkjdaaGreat.Ut Go.Proofs.YtlfpfkallgkjdaaGreat.Tk Go.Proofs.YtlfpfkallgkjdaaGreat.Qy Go.Proofs.YtlfpfkallgkjdaaGreat.Ev Go.Proofs.YtlfpfkallgkjdaaGreat.Qp Go.Proofs.YtlfpfkallgkjdaaGreat.Mv
set_option linter.unusedVariables false
set_option linter.unusedSimpArgs false
set_option maxRecDepth 20000

/-- Docs that may be. -/
def Dok (ds : List Dc) : Prop := ∀ d ∈ ds, chkE d.fs = 0 ∧ 1 ≤ d.seq ∧ d.seq ≤ 1099511627777
theorem szD_le {ds : List Dc} (h : Dok ds) : szD ds ≤ ds.length * 70000 := by
  induction ds with
  | nil => exact Nat.le_refl _
  | cons d l ih =>
    have h1 := szE_le (h d (List.mem_cons_self ..)).1
    have h2 := ih (fun e he => h e (List.mem_cons_of_mem _ he))
    simp only [szD, List.length_cons]
    omega
/-- The own blocks behind a call. -/
def Ow (O : Nat → Prop) (w0 w : World) : Nat → Prop := fun b => O b ∨ (w0.heap.size ≤ b ∧ b < w.heap.size)
theorem mkD_ok {seq : Int} {l : List Evn} (h : chkB seq l = 0) : Dok (mkD seq l) := by
  have h' := chkB_ok h
  intro d hd
  obtain ⟨i, hi, rfl⟩ := List.mem_iff_getElem.1 hd
  rw [mkD_len] at hi
  have := h'.2.2.2.2.2
  simp only [mkD, List.getElem_mapIdx]
  exact ⟨h'.2.2.1 _ (List.getElem_mem hi), by omega, by omega⟩
theorem Ow.mono {O : Nat → Prop} {w wr w2 : World} (h : wr.heap.size ≤ w2.heap.size) : ∀ b, Ow O w wr b → Ow O w w2 b := fun b hb => by
  rcases hb with hb | ⟨h1, h2⟩
  · exact .inl hb
  · exact .inr ⟨h1, Nat.lt_of_lt_of_le h2 h⟩
end Go.Proofs.YtlfpfkallgkjdaaGreat.Mx
end

section
/- SLICED by slice.py -/
/- The hot index: the steps of Add. (No walk.) -/
namespace Go.Proofs.YtlfpfkallgkjdaaGreat.Mx
open Go.RowKit Go.Maps Go.Proofs.YtlfpfkallgkjdaaGreat Go.Proofs.YtlfpfkallgkjdaaGreat.Ut Go.Proofs.YtlfpfkallgkjdaaGreat.Tk Go.Proofs.YtlfpfkallgkjdaaGreat.Qy Go.Proofs.YtlfpfkallgkjdaaGreat.Ev Go.Proofs.YtlfpfkallgkjdaaGreat.Qp Go.Proofs.YtlfpfkallgkjdaaGreat.Mv
set_option linter.unusedVariables false
set_option linter.unusedSimpArgs false
set_option maxRecDepth 20000

/-- The fields of a doc. -/
theorem dcs_fl {w : World} {S : Nat → Prop} {d : Dc} {Fa : Option Addr} {fn fc : Nat} (h : DcS w S d [.int .i64 d.seq, .int .i64 d.at_, .slice Fa fn fc]) (hS : ∀ b, S b → b < w.heap.size) (hok : chkE d.fs = 0) : FlAt w w.heap.size Fa fn fc d.fs := by
  obtain ⟨F, n, c, e, h1, h2, h3, h4, h5⟩ := h.ex
  injection e with _ e
  injection e with _ e
  injection e with e _
  injection e with e1 e2 e3
  subst e1 e2 e3
  exact ⟨h1.reads hS, h2, h3, h4, fun f hf => by
    have h6 := chkE_ok hok
    have h7 := h6.2 f hf
    omega, h5⟩
section
variable {w W1 wr : World} {n0 X : Nat} {O : Nat → Prop} {ds D0 : List Dc} {b0 j M cn : Nat} {v : Value} {F : ByteArray → Option Value} {sz lo hi : Int} {f : ByteArray → List Po}
theorem tg_blk {w : World} {T : TypeId} {b : Nat} {cs : Array Value} (h : Blk w b T cs) : Tg w T b := ⟨_, _, h⟩
end
/-- A term's post in memory. -/
theorem pos_v {w w' : World} {n0 i : Nat} {x : Tr} (h : x.2.2 ≠ [] ∧ ∃ P pc, x.2.1 = .slice P x.2.2.length pc ∧ x.2.2.length ≤ pc ∧ ReadsS w (fun b => n0 ≤ b ∧ Tg w 3 b) 1 P x.2.2.length (nC x.2.2)) (hsz : x.2.2.length ≤ 65536) (hk : ∀ b, Tg w 3 b → w'.heap[b]? = w.heap[b]?) : PosV w' (i, x.2.1, x.2.2) := by
  obtain ⟨h1, P, pc, h2, h3, h4⟩ := h
  exact ⟨⟨P, pc, h2, h3, h4.same (fun b hb => ⟨hb.2.same (hk b hb.2), hk b hb.2⟩)⟩, h1, hsz⟩
/-- Whether a batch leaves a gap. -/
def gapB (ds : List Dc) (seq : Int) : Bool := match ds.getLast? with
  | some d => decide (seq ≠ d.seq + 1)
  | none => false
theorem addE_bad {ds : List Dc} {seq : Int} {l : List Evn} (h : chkB seq l ≠ 0) : addE ds seq l = chkB seq l := by unfold addE; rw [if_neg h]
theorem gapB_true {ds : List Dc} {seq : Int} (h : gapB ds seq = true) : ∃ d, ds.getLast? = some d ∧ seq ≠ d.seq + 1 := by
  unfold gapB at h
  split at h
  · rename_i d e; exact ⟨d, e, of_decide_eq_true h⟩
  · cases h
theorem gapB_false {ds : List Dc} {seq : Int} (h : gapB ds seq = false) : ¬ ∃ d, ds.getLast? = some d ∧ seq ≠ d.seq + 1 := by
  unfold gapB at h
  split at h
  · rename_i d e; rintro ⟨d', e', h'⟩; rw [e] at e'; injection e' with e'; subst e'; exact of_decide_eq_false h h'
  · rename_i e; rintro ⟨d', e', h'⟩; rw [e] at e'; cases e'
theorem gapB_snoc (ds : List Dc) (d : Dc) (seq : Int) : gapB (ds ++ [d]) seq = decide (seq ≠ d.seq + 1) := by unfold gapB; rw [List.getLast?_concat]
theorem addE_gap {ds : List Dc} {seq : Int} {l : List Evn} (h : chkB seq l = 0) (h2 : gapB ds seq = true) : addE ds seq l = 140 := by
  unfold addE
  rw [if_pos h, if_pos (gapB_true h2)]
theorem addE_many {ds : List Dc} {seq : Int} {l : List Evn} (h : chkB seq l = 0) (h2 : gapB ds seq = false) (h3 : 65536 < ds.length + l.length) : addE ds seq l = 3 := by
  unfold addE
  rw [if_pos h, if_neg (gapB_false h2), if_pos h3]
theorem addE_ok {ds : List Dc} {seq : Int} {l : List Evn} (h : chkB seq l = 0) (h2 : gapB ds seq = false) (h3 : ¬ 65536 < ds.length + l.length) : addE ds seq l = 0 := by
  unfold addE
  rw [if_pos h, if_neg (gapB_false h2), if_neg h3]
/-- How many docs a term's posts can name. -/
theorem postsT_len (ds : List (List Fl)) (s : ByteArray) : (postsT ds s).length ≤ ds.length := by
  unfold postsT
  refine Nat.le_trans (List.length_filterMap_le _ _) ?_
  rw [List.length_zipIdx]
  exact Nat.le_refl _
/-- The posts that terms bring grow by as many at most. -/
theorem addP_len (k : Nat) : ∀ (T : List Tr) (f : ByteArray → List Po) (s : ByteArray), ((T.foldl (fun f t => addP f k (t.1, t.2.2)) f) s).length ≤ (f s).length + T.length
  | [], f, s => Nat.le_refl _
  | t :: T, f, s => by
    rw [List.foldl_cons]
    have h := addP_len k T (addP f k (t.1, t.2.2)) s
    have h2 : (addP f k (t.1, t.2.2) s).length ≤ (f s).length + 1 := by
      unfold addP
      split <;> simp
    simp only [List.length_cons]
    omega
/-- The k-th term in memory. -/
theorem term_at {w : World} {n0 n : Nat} {A : Option Addr} {O : List Tr} (h : ReadsS w (fun b => n0 ≤ b ∧ Tg w 105 b) 2 A n (O.flatMap encO)) (hp : ∀ x ∈ O, x.2.2 ≠ [] ∧ ∃ P pc, x.2.1 = .slice P x.2.2.length pc ∧ x.2.2.length ≤ pc ∧ ReadsS w (fun b => n0 ≤ b ∧ Tg w 3 b) 1 P x.2.2.length (nC x.2.2)) (hl : O.length = n) {i : Nat} (hi : i < O.length) :
    ∃ bt o P pc, A = some ⟨bt, o, none⟩ ∧ Tg w 105 bt ∧ w.cell? ⟨bt, o + i * 2, none⟩ = some (.string O[i].1) ∧ w.cell? ⟨bt, o + i * 2 + 1, none⟩ = some (.slice P O[i].2.2.length pc) ∧ O[i].2.1 = .slice P O[i].2.2.length pc := by
  obtain ⟨b, o, e, hb, hc⟩ := h.2 (by omega)
  have f0 := Ss.encs_get (enc := encO) (k := 2) (fun _ => rfl) O i 0 hi (by omega)
  have f1 := Ss.encs_get (enc := encO) (k := 2) (fun _ => rfl) O i 1 hi (by omega)
  have c0 := hc _ _ (f0.trans rfl)
  have c1 := hc _ _ (f1.trans rfl)
  obtain ⟨_, P, pc, e2, _⟩ := hp _ (List.getElem_mem hi)
  rw [← Nat.add_assoc] at c1
  refine ⟨b, o, P, pc, e, hb.2, ?_, ?_, e2⟩
  · simpa using c0
  · rw [← e2]; exact c1
theorem run_look_v {κ : Type} {P : Program} {k : TypeId} {L : KeyLit κ} {w : World} {o : Oper} {a : Act}
    (m x : Operand) (t e : TypeId) (hop : o.op = Op.lookup t m x false) (K : Keyed P k) (ht : P.underlying t = some (.map k e)) {z : Value} (hz : (zeroValue e).run P w = .ok z w) (b n : Nat) (f : κ → Option Value)
    (hm : a.eval m = .map (some b)) (h : MapV P k L w b n f) (s : κ) (hx : a.eval x = L.val s) (hkey : keyOf P k (L.val s) = some (L.lit s)) (v : Value) (hfv : (f s).getD z = v) : (execOp a.eval o).run P w = .ok (.value v) w := by
  have hrun := h.look K ht hz s hkey
  simp [execOp, hop, hm, hx, hrun, Result.andThen, hfv]
end Go.Proofs.YtlfpfkallgkjdaaGreat.Mx
end

section
/- Where the terms of fields stand: plain. (Split out of EvY; no walk.) -/
namespace Go.Proofs.YtlfpfkallgkjdaaGreat.Ev
open Go.RowKit Go.Proofs.YtlfpfkallgkjdaaGreat Go.Proofs.YtlfpfkallgkjdaaGreat.Ut Go.Proofs.YtlfpfkallgkjdaaGreat.Tk Go.Proofs.YtlfpfkallgkjdaaGreat.Qy Go.Proofs.YtlfpfkallgkjdaaGreat.Qp
set_option maxRecDepth 20000
set_option linter.unusedVariables false
set_option linter.unusedSimpArgs false

/-- Where the words of the i-th field begin. -/
def baseAt : List Fl → Nat → Nat
  | [], _ => 0
  | _, 0 => 0
  | f :: fs, i + 1 => (64 + (words f.2.data.toList).length) + baseAt fs i
theorem basedL_at : ∀ (fs : List Fl) (b i : Nat) (h : i < fs.length), (basedL b fs)[i]'(by rw [basedL_len]; exact h) = (b + baseAt fs i, fs[i])
  | f :: fs, b, 0, h => rfl
  | f :: fs, b, i + 1, h => by
    have := basedL_at fs (b + (64 + (words f.2.data.toList).length)) i (by simpa using h)
    simp only [basedL, List.getElem_cons_succ, this, baseAt]
    rw [Nat.add_assoc]
theorem baseAt_succ : ∀ (fs : List Fl) (i : Nat) (h : i < fs.length), baseAt fs (i + 1) = baseAt fs i + (words fs[i].2.data.toList).length + 64
  | [f], 0, h => by simp [baseAt]; omega
  | f :: g :: fs, 0, h => by simp [baseAt]; omega
  | f :: fs, i + 1, h => by
    have := baseAt_succ fs i (by simpa using h)
    simp only [baseAt, List.getElem_cons_succ, this]
    omega
theorem baseAt_le : ∀ (fs : List Fl) (i : Nat), (∀ f ∈ fs, f.2.size ≤ 4096) → baseAt fs i ≤ i * 4160
  | [], i, _ => by cases i <;> simp [baseAt]
  | f :: fs, 0, _ => by simp [baseAt]
  | f :: fs, i + 1, h => by
    have h1 := words_len f.2
    have h2 := h f (List.mem_cons_self ..)
    have h3 := baseAt_le fs i (fun g hg => h g (List.mem_cons_of_mem _ hg))
    simp only [baseAt]
    omega
/-- The terms of the first i fields. -/
def rawN (fs : List Fl) (i : Nat) : List T1 := ((basedL 0 fs).take i).flatMap rawO
theorem rawN_succ (fs : List Fl) (i : Nat) (h : i < fs.length) : rawN fs (i + 1) = rawN fs i ++ rawO (baseAt fs i, fs[i]) := by
  unfold rawN
  rw [List.take_succ_eq_append_getElem (by rw [basedL_len]; exact h), List.flatMap_append, basedL_at fs 0 i h, Nat.zero_add]
  simp
theorem rawN_all (fs : List Fl) : rawN fs fs.length = raw fs := by
  unfold rawN raw
  rw [List.take_of_length_le (by rw [basedL_len]; exact Nat.le_refl _)]
theorem rawN_len (fs : List Fl) (hsz : ∀ f ∈ fs, f.2.size ≤ 4096) : ∀ i, i ≤ fs.length → (rawN fs i).length ≤ i * 4096
  | 0, _ => by simp [rawN]
  | i + 1, h => by
    have ih := rawN_len fs hsz i (by omega)
    have h1 := words_len fs[i].2
    have h2 := hsz _ (List.getElem_mem (show i < fs.length by omega))
    rw [rawN_succ fs i (by omega), List.length_append, rawO_len]
    simp only
    omega
theorem addAll_pos (L : List T1) : ∀ x ∈ addAll L, x.2.length ≤ L.length := fun x hx => by
  have := (((isTm_all L).mem x).1 hx).2
  rw [this, List.length_map]
  exact List.length_filter_le _ _
theorem termT_size (a : ByteArray) (x : List UInt8) : (termT a x).size = a.size + 1 + x.length := by
  have h1 : ∀ l : List UInt8, (str l).size = l.length := fun l => by simp [str, ByteArray.size]
  unfold termT
  rw [h1]
  unfold term
  rw [List.length_append, List.length_cons, bsize]
  omega
end Go.Proofs.YtlfpfkallgkjdaaGreat.Ev
end

section
/- Rows of the call's own, of whatever elements: appends of what may be nil, cuts. (No program in sight.) -/
namespace Go.Proofs.YtlfpfkallgkjdaaGreat.Rg
open Go.RowKit Go.Proofs.YtlfpfkallgkjdaaGreat
set_option linter.unusedVariables false
set_option linter.unusedSimpArgs false

theorem add_lit (b o n : Nat) : (⟨b, o, none⟩ : Addr).add n = ⟨b, o + n, none⟩ := by unfold Addr.add; split <;> simp_all
/-- An append of a row that reads, nil or not. -/
theorem wpList_append_any {P : Program} {w : World} {ops : Array Oper} {rest : List Oper} {o : Oper} {a : Act} {Q : Exit → Act → World → Prop} (hgd : o.guard = none) (s x : Operand) (t : TypeId)
    (ho : o.op = .call { callee := .builtin .append, args := #[s, x], argTypes := #[t, t] })
    (base : Nat) (e : TypeId) (i : TypeInfo) (z : Value) (size bytes : Nat) (ht : P.underlying t = some (.slice e)) (hi : P.info? e = some i) (hz : i.zero = some z)
    (hsize : i.size = size) (hby : i.bytes = bytes) (hzs : z.cells.size = size) (hsz : 0 < size)
    (v : Value) (n : Nat) (xs : List Value) (hs : a.eval s = v) (hown : w.ownsRow base e size v n xs) (A : Option Addr) (m c : Nat) (X : List Value) (hx : a.eval x = .slice A m c) (hR : Reads w w.heap.size size A m X) (hnil : A = none → c = 0) (h1 : ∀ u ∈ X, u.oneCell' = true)
    (h63 : n + m ≤ maxLen) (hbytes : (n + m) * bytes ≤ 140737488355328) (hbase : base ≤ w.heap.size)
    (h : ∀ v' w', w'.ownsRow base e size v' (n + m) (xs ++ X) → w.grownBy w' v.ownBlock → (v'.ownBlock = v.ownBlock ∨ v'.ownBlock = some w.heap.size) → wpList P ops Q rest (a.put o.dst v') w') : wpList P ops Q (o :: rest) a w := by
  have hXl := hR.1
  cases A with
  | none =>
    have hm0 : m = 0 := by
      by_cases h0 : 0 < m
      · obtain ⟨b, o, e, _⟩ := hR.2 h0; cases e
      · omega
    subst hm0
    obtain rfl : c = 0 := hnil rfl
    have hX : X = [] := List.length_eq_zero_iff.1 (by omega)
    subst hX
    refine wpList_append_own_none hgd s x t ho base e i size ht hi v n xs hs hown hx ?_
    exact h v w (by simpa using hown) (grow_of_below (Below.refl _ _) _) (.inl rfl)
  | some ad =>
    refine wpList_append_own_at w hgd s x t ho base e i z size bytes ht hi hz hsize hby hzs hsz v n xs hs hown ad m c X hx hXl (fun j u hj => ?_) h1 h63 hbytes hbase (fun v' w' h1 h2 _ h4 => h v' w' h1 h2 h4)
    have hjl : j < m * size := by
      have := (List.getElem?_eq_some_iff.1 hj).1
      omega
    have hm0 : 0 < m := by
      rcases Nat.eq_zero_or_pos m with h0 | h0
      · subst h0; omega
      · exact h0
    obtain ⟨b, o, e, hb, hc⟩ := hR.2 hm0
    injection e with e
    subst e
    rw [add_lit]
    exact hc j u hj
section
variable {w : World} {B n c p k : Nat} {A : Option Addr} {X : List Value}
/-- The beginning of a row. -/
theorem reads_take (h : Reads w B k A n X) (hp : p ≤ n) : Reads w B k A p (X.take (p * k)) := by
  have hl := h.1
  have hle : p * k ≤ n * k := Nat.mul_le_mul_right k hp
  refine ⟨by rw [List.length_take]; omega, fun h0 => ?_⟩
  obtain ⟨b, o, e, hb, hc⟩ := h.2 (by omega)
  refine ⟨b, o, e, hb, fun j u hj => hc j u ?_⟩
  rw [List.getElem?_take] at hj
  split at hj
  · exact hj
  · cases hj
/-- The rest of a row, from a place on. -/
theorem reads_cut (h : Reads w B k A n X) (hp : p ≤ n) (hc : n ≤ c) : Reads w B k (if c = p then A else A.map (·.add (p * k))) (n - p) (X.drop (p * k)) := by
  have hl := h.1
  refine ⟨by rw [List.length_drop, Nat.sub_mul]; omega, fun h0 => ?_⟩
  rw [if_neg (by omega)]
  obtain ⟨b, o, rfl, hb, hcl⟩ := h.2 (by omega)
  refine ⟨b, o + p * k, ?_, hb, fun j u hj => ?_⟩
  · show some ((⟨b, o, none⟩ : Addr).add (p * k)) = _
    rw [add_lit]
  · rw [List.getElem?_drop] at hj
    have := hcl _ _ hj
    rwa [← Nat.add_assoc] at this
end
/-- A row of the call's own that is being collected. -/
structure Row (T : TypeId) (k B : Nat) (w wr : World) (v : Value) (n : Nat) (X : List Value) : Prop where
  own : wr.ownsRow B T k v n X
  bel : Below B w wr
section
variable {T : TypeId} {k B n : Nat} {w wr w' : World} {v : Value} {X : List Value}
theorem Row.start (hb : Below B w wr) : Row T k B w wr (.slice none 0 0) 0 [] := ⟨World.ownsRow_nil _ _ _ _, hb⟩
theorem Row.empty (T : TypeId) (k : Nat) (hk : 0 < k) (w : World) : Row T k w.heap.size w (w.alloc (.cells #[] T)) (.slice (some ⟨w.heap.size, 0, none⟩) 0 0) 0 [] :=
  ⟨World.ownsRow_lit (base := w.heap.size) (e := T) (size := k) w #[] 0 (by simp) (by unfold maxLen; omega) (by simp), (Below.refl _ _).alloc (Nat.le_refl _) _⟩
theorem Row.below (h : Row T k B w wr v n X) (hB : B ≤ wr.heap.size) (hb : Below wr.heap.size wr w') : Row T k B w w' v n X :=
  ⟨h.own.kept (grow_of_below hb none) (by cases v.ownBlock <;> simp), h.bel.trans (hb.mono hB)⟩
theorem Row.alloc (h : Row T k B w wr v n X) (hB : B ≤ wr.heap.size) (o : Obj) : Row T k B w (wr.alloc o) v n X := h.below hB ((Below.refl _ _).alloc (Nat.le_refl _) _)
theorem Row.app {w5 : World} {v5 : Value} {m : Nat} {Y : List Value} (h : Row T k B w wr v n X) (hB : B ≤ wr.heap.size) (ho : w5.ownsRow B T k v5 (n + m) (X ++ Y)) (hg : wr.grownBy w5 v.ownBlock) : Row T k B w w5 v5 (n + m) (X ++ Y) :=
  ⟨ho, h.bel.grown hg hB (fun b hb => (h.own.lt b hb).1)⟩
theorem own_base {w : World} {B B' n : Nat} {T : TypeId} {v : Value} {xs : List Value} (h : w.ownsRow B T k v n xs) (hB : B' ≤ B) : w.ownsRow B' T k v n xs := by
  obtain ⟨h1, h2 | ⟨g, cap, cur, q1, q2, q3⟩⟩ := h
  · exact ⟨h1, .inl h2⟩
  · exact ⟨h1, .inr ⟨g, cap, cur, q1, by omega, q3⟩⟩
theorem Row.over {w2 : World} (h : Row T k B wr w2 v n X) (hw : Below w.heap.size w wr) (hB : w.heap.size ≤ B) : Row T k w.heap.size w w2 v n X := ⟨own_base h.own hB, hw.trans (h.bel.mono hB)⟩
theorem new_row (w : World) (T : TypeId) (cs : List Value) (m : Nat) (hl : cs.length = m * k) (h0 : 0 < m) : Reads (w.alloc (.cells cs.toArray T)) (w.alloc (.cells cs.toArray T)).heap.size k (some ⟨w.heap.size, 0, none⟩) m cs :=
  ⟨hl, fun _ => ⟨_, 0, rfl, by simp, fun j u hj => by
    rw [Nat.zero_add, (Blk.new w T cs.toArray).cell j]
    simpa using hj⟩⟩
end
end Go.Proofs.YtlfpfkallgkjdaaGreat.Rg
end

section
/- SLICED by slice.py -/
/- The hot index: the sizes of terms. (No walk.) -/
namespace Go.Proofs.YtlfpfkallgkjdaaGreat.Mx
open Go.RowKit Go.Maps Go.Proofs.YtlfpfkallgkjdaaGreat Go.Proofs.YtlfpfkallgkjdaaGreat.Ut Go.Proofs.YtlfpfkallgkjdaaGreat.Tk Go.Proofs.YtlfpfkallgkjdaaGreat.Qy Go.Proofs.YtlfpfkallgkjdaaGreat.Ev Go.Proofs.YtlfpfkallgkjdaaGreat.Qp Go.Proofs.YtlfpfkallgkjdaaGreat.Mv
set_option linter.unusedVariables false
set_option linter.unusedSimpArgs false
set_option maxRecDepth 20000

theorem basedL_mem : ∀ (fs : List Fl) (b : Nat) (x : Nat × Fl), x ∈ basedL b fs → x.2 ∈ fs
  | [], _, _, h => by cases h
  | f :: fs, b, x, h => by
    simp only [basedL, List.mem_cons] at h
    rcases h with rfl | h
    · exact List.mem_cons_self ..
    · exact List.mem_cons_of_mem _ (basedL_mem fs _ x h)
theorem raw_sz {fs : List Fl} (h : chkE fs = 0) : ∀ y ∈ raw fs, y.1.size ≤ 65 := by
  intro y hy
  unfold raw at hy
  obtain ⟨x, hx, hy⟩ := List.mem_flatMap.1 hy
  have hf := (chkE_ok h).2 _ (basedL_mem fs 0 x hx)
  unfold rawO at hy
  obtain ⟨p, hp, rfl⟩ := List.mem_map.1 hy
  have hw := List.fst_mem_of_mem_zipIdx hp
  have h1 := (words_word _ _ hw).2
  simp only [termT_size]
  omega
theorem raw_len {fs : List Fl} (h : chkE fs = 0) : (raw fs).length ≤ 65536 := by
  have h1 := rawN_len fs (fun f hf => ((chkE_ok h).2 f hf).2.2) fs.length (Nat.le_refl _)
  rw [rawN_all] at h1
  have := (chkE_ok h).1
  omega
theorem terms_sz {fs : List Fl} (h : chkE fs = 0) : ∀ t ∈ addAll (raw fs), t.1.size ≤ 65 ∧ t.2.length ≤ 65536 := by
  intro t ht
  refine ⟨?_, Nat.le_trans (addAll_pos _ t ht) (raw_len h)⟩
  obtain ⟨h1, h2⟩ := ((isTm_all (raw fs)).mem t).1 ht
  rw [h2] at h1
  cases e : (raw fs).filter (fun y => decide (y.1 = t.1)) with
  | nil => rw [e] at h1; exact absurd rfl h1
  | cons y l =>
    have hy : y ∈ (raw fs).filter (fun y => decide (y.1 = t.1)) := by rw [e]; exact List.mem_cons_self ..
    obtain ⟨h3, h4⟩ := List.mem_filter.1 hy
    rw [← of_decide_eq_true h4]
    exact raw_sz h y h3
theorem lawS : Keyed Tryz.prog 9 := string_keyed Tryz.underlying9
theorem keyS {s : ByteArray} (h : s.size ≤ maxLen) : keyOf Tryz.prog 9 (litS.val s) = some (litS.lit s) := Go.WideMaps.keyOf_string_mk Tryz.underlying9 h
theorem news_at (w : World) (T : TypeId) (cs : List Value) : ∀ j u, cs[j]? = some u → ((w.alloc (.cells cs.toArray T)).drew).cell? ((⟨w.heap.size, 0, none⟩ : Addr).add j) = some u := by
  intro j u h
  rw [Rg.add_lit, Nat.zero_add]
  exact ((Blk.new w T cs.toArray).cell j).trans (by simpa using h)
/-- Behind the append of a post. -/
structure Put1 (n0 : Nat) (T : TypeId) (k : Nat) (wB wx : World) (u v' : Value) (n : Nat) (X : List Value) : Prop where
  own : wx.ownsRow n0 T k v' n X
  gr : wB.grownBy wx u.ownBlock
  at_ : v'.ownBlock = u.ownBlock ∨ v'.ownBlock = some wB.heap.size
end Go.Proofs.YtlfpfkallgkjdaaGreat.Mx
end

section
/- alert.Near: the walk (printed by gen_alf.py). -/
namespace Go.Proofs.YtlfpfkallgkjdaaGreat.Al
open Go.RowKit Go.Maps Go.Sort Go.Proofs.YtlfpfkallgkjdaaGreat Go.Proofs.YtlfpfkallgkjdaaGreat.Ut Go.Proofs.YtlfpfkallgkjdaaGreat.Tk Go.Proofs.YtlfpfkallgkjdaaGreat.Qy Go.Proofs.YtlfpfkallgkjdaaGreat.Qp Go.Proofs.YtlfpfkallgkjdaaGreat.Ev Go.Proofs.YtlfpfkallgkjdaaGreat.Mv
set_option linter.unusedVariables false
set_option linter.unusedSimpArgs false
set_option maxRecDepth 20000

theorem mk4 (w : World) : (Instr.makeMap 101 none).run Tryz.prog w = .ok (.map (some w.heap.size)) (w.alloc (.map #[] 0)) := rfl
theorem range_nil (w : World) : (Instr.range 106 (.map none)).run Tryz.prog w = .ok (.pointer (some ⟨w.heap.size, 0, none⟩)) (w.alloc (.mapIter none 0 #[] 0)) := rfl
theorem next_nil {w : World} {r : Nat} (h : w.heap[r]? = some (.mapIter none 0 #[] 0)) (ty : TypeId) : (Instr.next (.pointer (some ⟨r, 0, none⟩)) false ty).run Tryz.prog w = .ok (.tuple #[.bool false]) w := by
  have hr : (getObj r).run Tryz.prog w = .ok (.mapIter none 0 #[] 0) w := by simp [getObj, Sem.run, h]
  simp [Instr.next, hr, Result.andThen]
theorem wpList_ins_v {κ : Type} [DecidableEq κ] {P : Program} {k : TypeId} {L : KeyLit κ} {w : World} {ops : Array Oper} {rest : List Oper} {o : Oper} {a : Act} {Q : Exit → Act → World → Prop}
    (hg : o.guard = none) (m x v : Operand) (t e : TypeId) (hop : o.op = Op.insert t m x v) (K : Keyed P k) (ht : P.underlying t = some (.map k e)) (b n : Nat) (f : κ → Option Value)
    (hm : a.eval m = .map (some b)) (h : MapV P k L w b n f) (hn : n < maxLen) (s : κ) (val : Value) (hx : a.eval x = L.val s) (hv : a.eval v = val) (hkey : keyOf P k (L.val s) = some (L.lit s))
    (hK : ∀ w', MapV P k L w' b (n + 1) (putV f s val) → w.grownBy w' (some b) → wpList P ops Q rest (a.put o.dst undef) w') : wpList P ops Q (o :: rest) a w := by
  refine wpList_plain hg fun K' hK' => ?_
  obtain ⟨w', hrun, r1, r2⟩ := h.set K ht hn s hkey val
  unfold Oper.wp
  simp [execOp, hop, hm, hx, hv, hrun, Result.andThen]
  exact hK' _ _ (hK w' r1 r2)
theorem field_needs (tx qn : ByteArray) (qk : Int) (A1 A2 A : Option Addr) (n1 c1 n2 c2 n c : Nat) (w : World) : (Instr.field 92 (.agg #[.string tx, .int .i64 qk, .string qn, .slice A1 n1 c1, .slice A2 n2 c2, .slice A n c]) 2).run Tryz.prog w = .ok (.slice A n c) w := by kernel_rfl
theorem field_q (tx qn : ByteArray) (qk : Int) (A1 A2 A : Option Addr) (n1 c1 n2 c2 n c : Nat) (w : World) : (Instr.field 92 (.agg #[.string tx, .int .i64 qk, .string qn, .slice A1 n1 c1, .slice A2 n2 c2, .slice A n c]) 1).run Tryz.prog w = .ok (.agg #[.int .i64 qk, .string qn, .slice A1 n1 c1, .slice A2 n2 c2]) w := by kernel_rfl
/-- Near$1: is a text not among a map's keys? -/
theorem near1_any {w : World} {G H cn : Nat} {f : ByteArray → Option Value} (s : ByteArray) (hs : s.size ≤ maxLen) (hG : w.cell? ⟨G, 0, none⟩ = some (.map (some H))) (hu : ∀ s v, f s = some v → v = .agg #[]) (h : MapV Tryz.prog 9 litS w H cn f) :
    Calls Tryz.prog 42 #[.string s, .pointer (some ⟨G, 0, none⟩)] w fun e w' => e = .returned (.bool (!(f s).isSome)) ∧ Below w.heap.size w w' := by
  have HKS := Lib.hid (keyS hs)
  have Hb := Lib.hid ((Below.refl w.heap.size w).alloc (Nat.le_refl _) (.cells #[] 100))
  have hz : (f s).getD (.agg #[]) = .agg #[] := by
    cases e : f s with
    | none => rfl
    | some v => rw [hu s v e]; rfl
  obtain ⟨ok, hok⟩ : ∃ ok, (f s).isSome = ok := ⟨_, rfl⟩
  rw [hok]
  have HZ := Lib.hid hz
  have HOK := Lib.hid hok
  have HM := Lib.hid h
  clear hz hok h
  go_enter Tryz.func42, Tryz.ntmps42
  go_wp2_with (first
    | (at_lookup; refine wpList_look2_v rfl (.tmp 7) (.tmp 8) 101 100 rfl lawS Tryz.underlying101 (Tryz.zeroValue100 _) H cn f rfl HM.out s rfl HKS.out (.agg #[]) ok HZ.out HOK.out ?_)
    | go_in)
  go_ret
  exact ⟨rfl, Hb.out⟩
/-- The keys of the map that Near makes. -/
def hasK (fs : List Fl) (s : ByteArray) : Bool := decide (s = ByteArray.empty) || hasT fs s
/-- The map that Near makes, in its box. -/
structure HasM (w : World) (G H cn : Nat) (p : ByteArray → Prop) : Prop where
  box : Blk w G 101 #[.map (some H)]
  map : ∃ f, MapV Tryz.prog 9 litS w H cn f ∧ (∀ s v, f s = some v → v = .agg #[]) ∧ ∀ s, (f s).isSome = true ↔ p s
theorem HasM.below {w w' : World} {G H cn : Nat} {p : ByteArray → Prop} (h : HasM w G H cn p) (hb : Below w.heap.size w w') : HasM w' G H cn p := by
  obtain ⟨f, h1, h2⟩ := h.map
  exact ⟨h.box.below hb h.box.lt, f, h1.below hb, h2⟩
theorem near_has {k : Kp} (hk : KOk k) (fs : List Fl) : nearB (hasK fs) k = nearB (hasT fs) k := by
  unfold nearB
  rw [Bool.eq_iff_iff, List.all_eq_true, List.all_eq_true]
  have hne : ∀ t ∈ k.needs, t ≠ ByteArray.empty := fun t ht e => needs_ne k.q (by rw [← hk.nd, ← e]; exact ht)
  constructor
  · intro h t ht
    have := h t ht
    unfold hasK at this
    rw [Bool.or_eq_true, decide_eq_true_eq] at this
    exact this.resolve_left (hne t ht)
  · intro h t ht
    unfold hasK
    rw [h t ht]; simp
/-- Is a kept query under a term, and near? -/
def NearU (fs : List Fl) (l : List (Int × Kp)) (s : ByteArray) (i : Int) : Prop := ∃ k, get l i = some k ∧ first k = s ∧ nearB (hasK fs) k = true
theorem nearU_all {fs : List Fl} {l : List (Int × Kp)} (hu : UpI l) (hok : ∀ x ∈ l, KOk x.2) (i : Int) : (∃ s, hasK fs s = true ∧ NearU fs l s i) ↔ i ∈ nearL (hasT fs) l := by
  rw [nearL_mem hu]
  constructor
  · rintro ⟨s, hs, k, h1, h2, h3⟩
    exact ⟨k, h1, by rw [← near_has (hok _ (get_mem h1))]; exact h3⟩
  · rintro ⟨k, h1, h2⟩
    refine ⟨first k, ?_, k, h1, rfl, by rw [near_has (hok _ (get_mem h1))]; exact h2⟩
    unfold hasK
    rcases near_first h2 with e | e
    · rw [e]; simp
    · rw [e]; simp
theorem any_range {T : List ByteArray} (g : ByteArray → Bool) (p : Nat → Bool) (hp : ∀ i (h : i < T.length), p i = !g T[i]) : ((List.range T.length).any p) = !(T.all g) := by
  rw [Bool.eq_iff_iff, List.any_eq_true, Bool.not_eq_true', ← Bool.not_eq_true, List.all_eq_true]
  constructor
  · rintro ⟨i, hi, h⟩ hall
    rw [List.mem_range] at hi
    rw [hp i hi, hall _ (List.getElem_mem hi)] at h
    cases h
  · intro h
    refine Classical.byContradiction fun hc => h (fun x hx => ?_)
    obtain ⟨i, hi, rfl⟩ := List.mem_iff_getElem.1 hx
    refine Classical.byContradiction fun hn => hc ⟨i, List.mem_range.2 hi, ?_⟩
    rw [hp i hi]
    simpa using hn
/-- slices.ContainsFunc over what is needed. -/
theorem needs_in {w : World} {G H cn : Nat} {fs : List Fl} {k : Kp} {A : Option Addr} {c : Nat} (hM : HasM w G H cn (fun s => hasK fs s = true)) (hk : KOk k) (hR : ReadsS w (Sc w) 1 A k.needs.length (bsv k.needs)) :
    Calls Tryz.prog 41 #[.slice A k.needs.length c, .func (.func 42) #[] #[.pointer (some ⟨G, 0, none⟩)]] w fun e w' => e = .returned (.bool (!nearB (hasK fs) k)) ∧ Below w.heap.size w w' := by
  obtain ⟨f, h1, h2, h3⟩ := hM.map
  have hfew := hk.few
  have hg0 := hM.box.cell 0
  simp only [List.getElem?_toArray, List.getElem?_cons_zero] at hg0
  have hc := containsStr A k.needs.length c k.needs 42 #[.pointer (some ⟨G, 0, none⟩)] (fun i => !((f (k.needs.getD i ByteArray.empty)).isSome)) w (callFunc_enter Tryz.func42 (by kernel_rfl) rfl) (hR.reads (fun b hb => hb.lt)) rfl (by omega) (fun i hi wx hb => by
    have hb0 := (hM.box.below hb hM.box.lt).cell 0
    simp only [List.getElem?_toArray, List.getElem?_cons_zero] at hb0
    have := near1_any (G := G) (H := H) (cn := cn) (f := f) k.needs[i] (by have := hk.short _ (List.getElem_mem hi); unfold maxLen; omega) hb0 h2 (h1.below hb)
    rw [List.getD_eq_getElem?_getD, List.getElem?_eq_getElem hi]
    exact this)
  rw [any_range (hasK fs) _ (fun i hi => by
    rw [List.getD_eq_getElem?_getD, List.getElem?_eq_getElem hi]
    show (!(f k.needs[i]).isSome) = _
    congr 1
    rw [Bool.eq_iff_iff]
    exact h3 _)] at hc
  exact hc
end Go.Proofs.YtlfpfkallgkjdaaGreat.Al
end
