/- The orders are strict and weak: plain. -/
import Derived.Shelf.SlSortCmp.Insertion
import Derived.Shelf.SlSortCmp.HeapSortK
import Derived.Lib.SliceRun
import Derived.Shelf.GgSortFunc.RowK
import Derived.Sort.OwnSorted
import Derived.Test.YtdloacfoegjnmaaGreatPkGroupIndexesRow28
section
namespace Go.Proofs.YtdloacfoegjnmaaGreat.Gr
open Go.RowKit Go.Proofs.YtdloacfoegjnmaaGreat Go.Proofs.YtdloacfoegjnmaaGreat.Ut Go.Proofs.YtdloacfoegjnmaaGreat.Tk Go.Sort Go.Lib
set_option linter.unusedVariables false
set_option linter.unusedSimpArgs false

def cfT (x y : Ct) : Int := cOr (Lib.compareInt (wrap64 (-x.2)) (wrap64 (-y.2))) (cStr x.1 y.1)
def cfR (x y : Ct) : Int := cOr (cStr x.1 y.1) (Lib.compareInt x.2 y.2)
theorem ltS_total {a b : ByteArray} (h : ltS a b = false) : a = b ∨ ltS b a = true := by
  rcases bl_total a.toList b.toList with h1 | h1 | h1
  · have h1 : ltS a b = true := h1
    rw [h] at h1; cases h1
  · rw [tl, tl] at h1
    exact .inl (by rw [← of_str a, ← of_str b, h1])
  · exact .inr h1
theorem ltS_asym {a b : ByteArray} (h : ltS a b = true) : ltS b a = false := by
  cases h2 : ltS b a
  · rfl
  · have := ltS_trans h h2
    rw [ltS_irrefl] at this; cases this
theorem cInt_lt (a b : Int) : Lib.compareInt a b < 0 ↔ a < b := by unfold Lib.compareInt; split <;> (try split) <;> omega
theorem cInt_eq (a b : Int) : Lib.compareInt a b = 0 ↔ a = b := by unfold Lib.compareInt; split <;> (try split) <;> omega
theorem cStr_lt (a b : ByteArray) : cStr a b < 0 ↔ ltS a b = true := by
  unfold cStr
  cases h : ltS a b
  · cases h2 : ltS b a <;> simp
  · simp
theorem cStr_eq (a b : ByteArray) : cStr a b = 0 ↔ a = b := by
  unfold cStr
  constructor
  · intro h
    cases h1 : ltS a b
    · rcases ltS_total h1 with e | h2
      · exact e
      · rw [h1, h2] at h; simp at h
    · rw [h1] at h; simp at h
  · rintro rfl
    rw [ltS_irrefl]; simp
theorem cfT_lt (x y : Ct) : ltOf cfT x y = true ↔ (wrap64 (-x.2) < wrap64 (-y.2) ∨ (wrap64 (-x.2) = wrap64 (-y.2) ∧ ltS x.1 y.1 = true)) := by
  unfold ltOf cfT cOr
  rw [decide_eq_true_iff]
  by_cases h : Lib.compareInt (wrap64 (-x.2)) (wrap64 (-y.2)) = 0
  · rw [if_pos h, cStr_lt]
    rw [cInt_eq] at h
    constructor
    · exact fun h2 => .inr ⟨h, h2⟩
    · rintro (h2 | h2)
      · omega
      · exact h2.2
  · rw [if_neg h, cInt_lt]
    rw [cInt_eq] at h
    constructor
    · exact fun h2 => .inl h2
    · rintro (h2 | h2)
      · exact h2
      · exact absurd h2.1 h
theorem cfR_lt (x y : Ct) : ltOf cfR x y = true ↔ (ltS x.1 y.1 = true ∨ (x.1 = y.1 ∧ x.2 < y.2)) := by
  unfold ltOf cfR cOr
  rw [decide_eq_true_iff]
  by_cases h : cStr x.1 y.1 = 0
  · rw [if_pos h, cInt_lt]
    rw [cStr_eq] at h
    constructor
    · exact fun h2 => .inr ⟨h, h2⟩
    · rintro (h2 | h2)
      · rw [h, ltS_irrefl] at h2; cases h2
      · exact h2.2
  · rw [if_neg h, cStr_lt]
    rw [cStr_eq] at h
    constructor
    · exact fun h2 => .inl h2
    · rintro (h2 | h2)
      · exact h2
      · exact absurd h2.1 h
theorem swoT : SWO (ltOf cfT) where
  irrefl x := by
    cases h : ltOf cfT x x
    · rfl
    · rw [cfT_lt, ltS_irrefl] at h
      rcases h with h | h
      · omega
      · cases h.2
  trans x y z h1 h2 := by
    rw [cfT_lt] at *
    rcases h1 with h1 | ⟨e1, h1⟩
    · rcases h2 with h2 | ⟨e2, h2⟩
      · left; omega
      · left; omega
    · rcases h2 with h2 | ⟨e2, h2⟩
      · left; omega
      · right; exact ⟨by omega, ltS_trans h1 h2⟩
  ntrans x y z h1 h2 := by
    rw [← Bool.not_eq_true, cfT_lt] at *
    rintro (h | ⟨e, h⟩)
    · by_cases e : wrap64 (-y.2) < wrap64 (-z.2)
      · exact h2 (.inl e)
      · exact h1 (.inl (by omega))
    · by_cases e1 : wrap64 (-y.2) < wrap64 (-z.2)
      · exact h2 (.inl e1)
      · by_cases e2 : wrap64 (-x.2) < wrap64 (-y.2)
        · exact h1 (.inl e2)
        · have a1 : ltS x.1 y.1 = false := by cases hh : ltS x.1 y.1; rfl; exact absurd (.inr ⟨by omega, hh⟩) h1
          have a2 : ltS y.1 z.1 = false := by cases hh : ltS y.1 z.1; rfl; exact absurd (.inr ⟨by omega, hh⟩) h2
          rcases ltS_total a1 with q | q
          · rw [q, a2] at h; cases h
          · have := ltS_trans q h
            rw [a2] at this; cases this
theorem swoR : SWO (ltOf cfR) where
  irrefl x := by
    cases h : ltOf cfR x x
    · rfl
    · rw [cfR_lt, ltS_irrefl] at h
      rcases h with h | h
      · cases h
      · omega
  trans x y z h1 h2 := by
    rw [cfR_lt] at *
    rcases h1 with h1 | ⟨e1, h1⟩
    · rcases h2 with h2 | ⟨e2, h2⟩
      · left; exact ltS_trans h1 h2
      · left; rw [← e2]; exact h1
    · rcases h2 with h2 | ⟨e2, h2⟩
      · left; rw [e1]; exact h2
      · right; exact ⟨e1.trans e2, by omega⟩
  ntrans x y z h1 h2 := by
    rw [← Bool.not_eq_true, cfR_lt] at *
    have a1 : ltS x.1 y.1 = false := by cases hh : ltS x.1 y.1; rfl; exact absurd (.inl hh) h1
    have a2 : ltS y.1 z.1 = false := by cases hh : ltS y.1 z.1; rfl; exact absurd (.inl hh) h2
    rintro (h | ⟨e, h⟩)
    · rcases ltS_total a1 with q | q
      · rw [q, a2] at h; cases h
      · have := ltS_trans q h
        rw [a2] at this; cases this
    · rcases ltS_total a1 with q | q
      · by_cases g : x.2 < y.2
        · exact h1 (.inr ⟨q, g⟩)
        · exact h2 (.inr ⟨q ▸ e, by omega⟩)
      · rw [e, a2] at q; cases q
end Go.Proofs.YtdloacfoegjnmaaGreat.Gr
end

section
/- What the sort asks of the closures. -/
namespace Go.Proofs.YtdloacfoegjnmaaGreat.Gr
open Go.RowKit Go.Proofs.YtdloacfoegjnmaaGreat Go.Proofs.YtdloacfoegjnmaaGreat.Ut Go.Proofs.YtdloacfoegjnmaaGreat.Tk Go.Sort Go.Lib Go.Shelf
set_option linter.unusedVariables false
set_option linter.unusedSimpArgs false

def encC (x : Ct) : List Value := [.string x.1, .int .i64 x.2]
theorem cmpLaysT (b1 b2 : Nat) (blk off size : Nat) (w : World) (h1 : w.cell? ⟨b1, 0, none⟩ = some (.func (.func 39) #[] #[])) (h2 : w.cell? ⟨b2, 0, none⟩ = some (.func (.func 40) #[] #[])) (n1 : b1 ≠ blk) (n2 : b2 ≠ blk) :
    CmpLays Tryz.prog 64 #[.pointer (some ⟨b1, 0, none⟩), .pointer (some ⟨b2, 0, none⟩)] encC 2 cfT blk off size w := by
  intro m os dk hs x y
  have e1 := cell?_sortWorldK_other encC 2 w blk off m dk os ⟨b1, 0, none⟩ n1 (World.block_lt_of_cell? w _ h1)
  have e2 := cell?_sortWorldK_other encC 2 w blk off m dk os ⟨b2, 0, none⟩ n2 (World.block_lt_of_cell? w _ h2)
  exact ordT_any x.1 y.1 x.2 y.2 b1 b2 _ (e1.trans h1) (e2.trans h2)
theorem cmpLaysR (b1 b2 : Nat) (blk off size : Nat) (w : World) (h1 : w.cell? ⟨b1, 0, none⟩ = some (.func (.func 57) #[] #[])) (h2 : w.cell? ⟨b2, 0, none⟩ = some (.func (.func 58) #[] #[])) (n1 : b1 ≠ blk) (n2 : b2 ≠ blk) :
    CmpLays Tryz.prog 78 #[.pointer (some ⟨b1, 0, none⟩), .pointer (some ⟨b2, 0, none⟩)] encC 2 cfR blk off size w := by
  intro m os dk hs x y
  have e1 := cell?_sortWorldK_other encC 2 w blk off m dk os ⟨b1, 0, none⟩ n1 (World.block_lt_of_cell? w _ h1)
  have e2 := cell?_sortWorldK_other encC 2 w blk off m dk os ⟨b2, 0, none⟩ n2 (World.block_lt_of_cell? w _ h2)
  exact ordR_any x.1 y.1 x.2 y.2 b1 b2 _ (e1.trans h1) (e2.trans h2)
end Go.Proofs.YtdloacfoegjnmaaGreat.Gr
end

section
/- slices.Clone at counts: the walk. -/
namespace Go.Proofs.YtdloacfoegjnmaaGreat.Gr
open Go.RowKit Go.Proofs.YtdloacfoegjnmaaGreat Go.Proofs.YtdloacfoegjnmaaGreat.Ut Go.Proofs.YtdloacfoegjnmaaGreat.Tk
set_option maxRecDepth 20000
set_option linter.unusedSimpArgs false
set_option linter.unusedVariables false

set_option maxHeartbeats 800000 in
theorem clone_any (F : Option Addr) (fn fc : Nat) (fs : List Ct) (w : World) (hF : Reads w w.heap.size 2 F fn (ctC fs)) (hl : fs.length = fn) (hn : fn ≤ 1048576) (hnil : F = none → fc = 0) :
    Calls Tryz.prog 38 #[.slice F fn fc] w (CtPost 62 w fs) := by
  obtain ⟨i0, hi0, hz0, hz1, hz2⟩ := info_parts gcount_info
  by_cases h0 : F = none
  · subst h0
    obtain rfl : fc = 0 := hnil rfl
    have hfn : fn = 0 := by
      by_cases h : 0 < fn
      · obtain ⟨b, o, e, _⟩ := hF.2 h
        cases e
      · omega
    subst hfn
    have hfs : fs = [] := List.length_eq_zero_iff.1 hl
    subst hfs
    have hnl := fun W : World => Lib.run_eql_slice_nil (P := Tryz.prog) W _ _ none 0 0 0 0 Tryz.underlying38
    clear hF hl hn hnil
    go_enter Tryz.func38, Tryz.ntmps38
    go_wp2
    go_ret
    exact ⟨_, rfl, World.ownsRow_nil _ _ _ _, Below.refl _ _⟩
  · obtain ⟨a, rfl⟩ := Option.ne_none_iff_exists'.1 h0
    have hnl := fun W : World => Lib.run_eql_slice_nil (P := Tryz.prog) W _ _ (some a) fn fc 0 0 Tryz.underlying38
    have HF := Lib.hid hF
    have Hl := Lib.hid hl
    clear hF hl h0 hnil
    go_enter Tryz.func38, Tryz.ntmps38
    go_wp2_with (at_builtin; refine wpList_append_own _ rfl _ _ 38 rfl w.heap.size 62 i0 _ 2 24 Tryz.underlying38 hi0 hz0 hz1 hz2 rfl (by decide) (.slice (some ⟨w.heap.size, 0, none⟩) 0 0) 0 [] rfl ?hown a fn fc (ctC fs) rfl ?hl ?c1 ?c2 ?c3 ?c4 ?c5 ?_)
    case hown =>
      have h := World.ownsRow_made (base := w.heap.size) (e := 62) (size := 2) w #[] 0 (by simp) (by unfold maxLen; omega) rfl
      simpa using h
    case hl => rw [ctC_len, Hl.out]
    case c1 =>
      intro j u hj
      have hjl : j < fn * 2 := by
        have := (List.getElem?_eq_some_iff.1 hj).1
        rw [ctC_len, Hl.out] at this
        exact this
      obtain ⟨b, o, e, hb, hc⟩ := HF.out.2 (by omega)
      injection e with e
      subst e
      have hadd : (⟨b, o, none⟩ : Addr).add j = ⟨b, o + j, none⟩ := by unfold Addr.add; split <;> simp_all
      rw [hadd]
      have hp := hc j u hj
      first
        | exact hp
        | exact (((Below.refl _ _).alloc (Nat.le_refl _) _ : Below w.heap.size w _).cell (p := ⟨b, o + j, none⟩) hb).trans hp
    case c2 => exact ctC_one fs
    case c3 => unfold maxLen; omega
    case c4 => omega
    case c5 => simp
    intro v' w2 hown hgrow _
    have hbx : Below w.heap.size w w2 := ((Below.refl _ _).alloc (Nat.le_refl _) _ : Below w.heap.size w _).grown hgrow (by simp) (fun j hj => by
      injection hj with hj
      have hj' : w.heap.size = j := hj
      omega)
    obtain ⟨A', c', rfl, _⟩ := own_shape hown
    have Hown := Lib.hid hown
    have Hbx := Lib.hid hbx
    clear hown hgrow hbx
    go_wp2
    go_ret
    exact ⟨_, rfl, by rw [Hl.out]; simpa using Hown.out, Hbx.out⟩

end Go.Proofs.YtdloacfoegjnmaaGreat.Gr
end

section
/- A row of counts of the call's own, ahead of the sort and behind it: plain. -/
namespace Go.Proofs.YtdloacfoegjnmaaGreat.Gr
open Go.RowKit Go.Proofs.YtdloacfoegjnmaaGreat Go.Proofs.YtdloacfoegjnmaaGreat.Ut Go.Proofs.YtdloacfoegjnmaaGreat.Tk Go.Sort Go.Shelf Go.Lib
set_option linter.unusedVariables false
set_option linter.unusedSimpArgs false

theorem flat_ctC (l : List Ct) : flatK encC 2 l.toArray = (ctC l).toArray := by
  apply Array.ext
  · simp [ctC_len]
  · intro i h1 h2
    rw [size_flatK] at h1
    have hs : l.toArray.size = l.length := by simp
    have hi : i / 2 < l.length := by omega
    have hg := ctC_get l (i / 2) hi
    have e1 : (flatK encC 2 l.toArray)[i]! = (encC l.toArray[i / 2]!)[i % 2]! := get_flatK encC 2 l.toArray i h1
    rw [getElem!_pos _ i (by rw [size_flatK]; exact h1)] at e1
    rw [e1]
    have e2 : l.toArray[i / 2]! = l[i / 2] := by rw [getElem!_pos _ _ (by simpa using hi)]; simp
    rw [e2]
    have h3 : i < (ctC l).length := by rw [ctC_len]; omega
    show _ = (ctC l)[i]
    rcases Nat.mod_two_eq_zero_or_one i with e | e
    · have ei : i / 2 * 2 = i := by omega
      rw [ei] at hg
      rw [e]
      have := hg.1
      rw [List.getElem?_eq_getElem h3] at this
      injection this with this
      rw [this]; rfl
    · have ei : i / 2 * 2 + 1 = i := by omega
      rw [ei] at hg
      rw [e]
      have := hg.2
      rw [List.getElem?_eq_getElem h3] at this
      injection this with this
      rw [this]; rfl
theorem holdsC {w : World} {g : Nat} {cur : Array Value} {e : TypeId} {l : List Ct} (hb : w.heap[g]? = some (.cells cur e (0, 0))) (ht : cur.toList.take (l.length * 2) = ctC l) : HoldsK encC 2 w g 0 l.toArray := by
  unfold HoldsK
  rw [flat_ctC]
  intro j hj
  have hj' : j < (ctC l).length := by simpa using hj
  have hj2 : j < l.length * 2 := by rw [ctC_len] at hj'; exact hj'
  refine ⟨?_, by simp [World.frozen?, hb]⟩
  have h1 : (cur.toList.take (l.length * 2))[j]? = (ctC l)[j]? := by rw [ht]
  rw [List.getElem?_take_of_lt hj2] at h1
  simp only [World.cell?, hb, Nat.zero_add]
  simp only [Option.isSome_none, Bool.false_eq_true, if_false]
  rw [← Array.getElem?_toList, h1]
  simp [hj']
theorem heapC {w : World} {g n : Nat} {os : Array Obj} {cur : Array Value} {e : TypeId} {fr : Nat × Nat} (d : Array Value) (hb : w.heap[g]? = some (.cells cur e fr)) :
    (grow (putRow id (Sort.ahead w n) g 0 d) os).heap[g]? = some (.cells (putCells id 0 d cur) e fr) := by
  have hg : g < w.heap.size := (Array.getElem?_eq_some_iff.1 hb).1
  rw [heap_grow_old _ _ (by simpa using hg)]
  simp [putRow, mapBlock, Sort.ahead, Array.getElem?_modify, hb, onCells]
theorem grownC {w : World} {g n : Nat} {os : Array Obj} (d : Array Value) : w.grownBy (grow (putRow id (Sort.ahead w n) g 0 d) os) (some g) := by
  refine ⟨rfl, rfl, rfl, by simp, fun k hk hne => ?_⟩
  rw [heap_grow_old _ _ (by simpa using hk)]
  have : g ≠ k := fun e => hne (by rw [e])
  simp [putRow, mapBlock, Sort.ahead, Array.getElem?_modify, this]
theorem takeC (cur : Array Value) (F : List Value) (h : F.length ≤ cur.size) : (putCells id 0 F.toArray cur).toList.take F.length = F := by
  apply List.ext_getElem?
  intro j
  by_cases hj : j < F.length
  · rw [List.getElem?_take_of_lt hj, Array.getElem?_toList]
    simp [putCells, hj, show j < cur.size by omega]
  · rw [List.getElem?_take_eq_none (by omega), List.getElem?_eq_none (by omega)]
/-- Behind the sort the same slice owns the sorted row. -/
theorem ownC {w : World} {base g cap n : Nat} {e : TypeId} {os : Array Obj} {cur : Array Value} {l m : List Ct} (hl : m.length = l.length) (hbase : base ≤ g) (hb : w.heap[g]? = some (.cells cur e (0, 0)))
    (h1 : l.length ≤ cap) (h2 : cap ≤ maxLen) (h3 : cur.size = cap * 2) :
    (sortWorldK encC 2 w g 0 n m.toArray os).ownsRow base e 2 (.slice (some ⟨g, 0, none⟩) m.length cap) m.length (ctC m) := by
  unfold sortWorldK putRowK
  rw [flat_ctC]
  refine ⟨ctC_len m, .inr ⟨g, cap, _, rfl, hbase, heapC _ hb, by omega, h2, by simp [putCells, h3], ?_⟩⟩
  rw [← ctC_len m]
  exact takeC cur (ctC m) (by rw [ctC_len]; omega)
end Go.Proofs.YtdloacfoegjnmaaGreat.Gr
end

section
/- group.ordered: the walks. -/
namespace Go.Proofs.YtdloacfoegjnmaaGreat.Gr
open Go.RowKit Go.Proofs.YtdloacfoegjnmaaGreat Go.Proofs.YtdloacfoegjnmaaGreat.Ut Go.Proofs.YtdloacfoegjnmaaGreat.Tk Go.Sort Go.Shelf Go.Lib
set_option linter.unusedVariables false
set_option linter.unusedSimpArgs false

theorem sortT_any (g cap b1 b2 : Nat) (l : List Ct) (cur : Array Value) (w : World) (hb : w.heap[g]? = some (.cells cur 62 (0, 0))) (ht : cur.toList.take (l.length * 2) = ctC l) (hl : l.length ≤ 1048576)
    (h1 : w.cell? ⟨b1, 0, none⟩ = some (.func (.func 39) #[] #[])) (h2 : w.cell? ⟨b2, 0, none⟩ = some (.func (.func 40) #[] #[])) (n1 : b1 ≠ g) (n2 : b2 ≠ g) :
    Calls Tryz.prog 63 #[.slice (some ⟨g, 0, none⟩) l.length cap, .func (.func 64) #[] #[.pointer (some ⟨b1, 0, none⟩), .pointer (some ⟨b2, 0, none⟩)]] w fun e w' =>
      e = .returned (.tuple #[]) ∧ ∃ d' n os, PermIn 0 l.toArray.size l.toArray d' ∧ SortedIn (ltOf cfT) 0 l.toArray.size d' ∧ w' = sortWorldK encC 2 w g 0 n d' os := by
  have hcon := AnyQ.slices_SortFunc Tryz.sortCt 2 Tryz.isAgg62 Tryz.sizeOf62 encC (fun _ => rfl) (fun x v hv => by simp [encC] at hv; rcases hv with rfl | rfl <;> rfl) cfT swoT 64 _ g 0 cap l.toArray w
    (enters_of Tryz.func64 (by kernel_rfl) rfl) (cmpLaysT b1 b2 g 0 l.toArray.size w h1 h2 n1 n2) (holdsC hb ht) (Array.getElem?_eq_some_iff.1 hb).1 (by simp; omega)
  exact hcon
end Go.Proofs.YtdloacfoegjnmaaGreat.Gr
end

section
/- The sorted row is the document's: plain. -/
namespace Go.Proofs.YtdloacfoegjnmaaGreat.Gr
open Go.RowKit Go.Proofs.YtdloacfoegjnmaaGreat Go.Proofs.YtdloacfoegjnmaaGreat.Ut Go.Proofs.YtdloacfoegjnmaaGreat.Tk Go.Sort Go.Shelf Go.Lib
set_option linter.unusedVariables false
set_option linter.unusedSimpArgs false

theorem perm_list {d d' : Array Ct} (h : PermIn 0 d.size d d') : d'.toList.Perm d.toList := by
  obtain ⟨h1, _, h3⟩ := h
  have e1 : d'.extract 0 d.size = d' := by rw [← h1]; simp
  have e2 : d.extract 0 d.size = d := by simp
  rw [e1, e2] at h3
  exact h3
theorem sorted_list {lt : Ct → Ct → Bool} {d d' : Array Ct} (hs : d'.size = d.size) (h : SortedIn lt 0 d.size d') : d'.toList.Pairwise (fun x y => lt y x = false) := by
  rw [List.pairwise_iff_getElem]
  intro i j hi hj hij
  have hj' : j < d'.size := by simpa using hj
  have hi' : i < d'.size := by simpa using hi
  have := h i j (Nat.zero_le _) hij (by omega)
  rw [getElem!_pos d' i hi', getElem!_pos d' j hj'] at this
  simpa using this
theorem okR_few {l : List Ct} (h : okR l = true) : ∀ x ∈ l, 1 ≤ x.2 ∧ x.2 ≤ 1099511627776 := by
  intro x hx
  obtain ⟨k, hk, rfl⟩ := List.getElem_of_mem hx
  unfold okR at h
  have := List.all_eq_true.1 h k (List.mem_range.2 hk)
  rw [okK_eq hk] at this
  simp only [Bool.and_eq_true, decide_eq_true_eq] at this
  exact ⟨this.1.1.2, this.1.2⟩
theorem neg_few {n : Int} (h : 1 ≤ n ∧ n ≤ 1099511627776) : wrap64 (-n) = -n := by
  unfold wrap64
  omega
theorem words_ne {l m : List Ct} (hp : m.Perm l) (h : l.Pairwise (fun x y => ltS x.1 y.1 = true)) : m.Pairwise (fun x y => x.1 ≠ y.1) := by
  have h1 : l.Pairwise (fun x y => x.1 ≠ y.1) := h.imp (fun {x y} hxy e => by rw [e, ltS_irrefl] at hxy; cases hxy)
  exact (hp.pairwise_iff (fun {x y} h e => h e.symm)).2 h1
theorem top_sorted {l : List Ct} {d' : Array Ct} (h : okR l = true) (hp : PermIn 0 l.toArray.size l.toArray d') (hs : SortedIn (ltOf cfT) 0 l.toArray.size d') : d'.toList = topR l := by
  have hpl : d'.toList.Perm l := by simpa using perm_list hp
  refine topR_one h hpl ?_
  have h1 := sorted_list hp.1 hs
  have h2 := words_ne hpl (okR_rising h)
  have h3 := h1.and h2
  refine h3.imp_of_mem (fun {x y} hx hy hxy => ?_)
  obtain ⟨q1, q2⟩ := hxy
  have fx := okR_few h x (hpl.mem_iff.1 hx)
  have fy := okR_few h y (hpl.mem_iff.1 hy)
  rw [← Bool.not_eq_true, cfT_lt, neg_few fx, neg_few fy] at q1
  unfold ltT
  by_cases e : y.2 < x.2
  · exact .inl e
  · have e2 : x.2 = y.2 := by
      by_cases g : x.2 < y.2
      · exact absurd (.inl (by omega)) q1
      · omega
    refine .inr ⟨e2, ?_⟩
    cases hh : ltS x.1 y.1
    · rcases ltS_total hh with g | g
      · exact absurd g q2
      · exact absurd (.inr ⟨by omega, g⟩) q1
    · rfl
end Go.Proofs.YtdloacfoegjnmaaGreat.Gr
end

section
/- group.ordered: the walk. -/
namespace Go.Proofs.YtdloacfoegjnmaaGreat.Gr
open Go.RowKit Go.Proofs.YtdloacfoegjnmaaGreat Go.Proofs.YtdloacfoegjnmaaGreat.Ut Go.Proofs.YtdloacfoegjnmaaGreat.Tk Go.Sort Go.Shelf Go.Lib
set_option maxRecDepth 20000
set_option linter.unusedSimpArgs false
set_option linter.unusedVariables false

theorem box_two (w : World) (o : Obj) (v : Value) (t : TypeId) : ((w.alloc o).alloc (.cells #[v] t)).cell? ⟨w.heap.size + 1, 0, none⟩ = some v := by
  have h := (Blk.new (w.alloc o) t #[v]).cell 0
  rw [show (w.alloc o).heap.size = w.heap.size + 1 by simp] at h
  exact h
set_option maxHeartbeats 800000 in
theorem orderedT_any (base g cap : Nat) (l : List Ct) (cur : Array Value) (w : World) (hb : w.heap[g]? = some (.cells cur 62 (0, 0))) (ht : cur.toList.take (l.length * 2) = ctC l) (hl : l.length ≤ 1048576)
    (hg : base ≤ g) (h1 : l.length ≤ cap) (h2 : cap ≤ maxLen) (h3 : cur.size = cap * 2) :
    Calls Tryz.prog 37 #[.slice (some ⟨g, 0, none⟩) l.length cap, .func (.func 39) #[] #[], .func (.func 40) #[] #[]] w fun e w' =>
      e = .returned (.slice (some ⟨g, 0, none⟩) l.length cap) ∧ ∃ d' : Array Ct, PermIn 0 l.toArray.size l.toArray d' ∧ SortedIn (ltOf cfT) 0 l.toArray.size d' ∧ w'.ownsRow base 62 2 (.slice (some ⟨g, 0, none⟩) l.length cap) l.length (ctC d'.toList) ∧ ∃ o o', ((w.alloc o).alloc o').grownBy w' (some g) := by
  have hgl : g < w.heap.size := (Array.getElem?_eq_some_iff.1 hb).1
  have hs := fun (w2 : World) (b1 b2 : Nat) (e : w2.heap[g]? = some (.cells cur 62 (0, 0))) (n1 : b1 ≠ g) (n2 : b2 ≠ g) (q1 : w2.cell? ⟨b1, 0, none⟩ = some (.func (.func 39) #[] #[])) (q2 : w2.cell? ⟨b2, 0, none⟩ = some (.func (.func 40) #[] #[])) => sortT_any g cap b1 b2 l cur w2 e ht hl q1 q2 n1 n2
  have HS := Lib.hid hs
  clear hs
  go_enter Tryz.func37, Tryz.ntmps37
  go_wp2_with fail
  refine (HS.out _ w.heap.size (w.heap.size + 1) ?_ (by omega) (by omega) ?_ ?_).mono ?_
  · exact (Below.heap_alloc _ _ g (by simp; omega)).trans ((Below.heap_alloc w _ g hgl).trans hb)
  · exact (World.cell?_alloc_lt _ _ ⟨w.heap.size, 0, none⟩ (by simp)).trans ((Blk.new w _ _).cell 0)
  · exact box_two w _ _ _
  rintro e w5 ⟨rfl, d', n, os, hp, hso, rfl⟩
  have hm : d'.toList.length = l.length := by have := hp.1; simpa using this
  have hbE : ∀ o o', ((w.alloc o).alloc o').heap[g]? = some (.cells cur 62 (0, 0)) := fun o o' => (Below.heap_alloc (w.alloc o) o' g (by simp; omega)).trans ((Below.heap_alloc w o g hgl).trans hb)
  have hown := fun o o' => ownC (base := base) (n := n) (os := os) (m := d'.toList) (l := l) hm hg (hbE o o') h1 h2 h3
  simp only [Array.toArray_toList, hm] at hown
  have hgr : ∀ w2 : World, w2.grownBy (sortWorldK encC 2 w2 g 0 n d' os) (some g) := fun w2 => grownC _
  have Hgr := Lib.hid hgr
  have Hown := Lib.hid hown
  clear hown HS hgr
  go_wp2
  go_ret
  exact ⟨rfl, d', hp, hso, Hown.out _ _, _, _, Hgr.out _⟩
end Go.Proofs.YtdloacfoegjnmaaGreat.Gr
end

section
/- group.ordered by words: the walks. -/
namespace Go.Proofs.YtdloacfoegjnmaaGreat.Gr
open Go.RowKit Go.Proofs.YtdloacfoegjnmaaGreat Go.Proofs.YtdloacfoegjnmaaGreat.Ut Go.Proofs.YtdloacfoegjnmaaGreat.Tk Go.Sort Go.Shelf Go.Lib
set_option maxRecDepth 20000
set_option linter.unusedSimpArgs false
set_option linter.unusedVariables false

theorem sortR_any (g cap b1 b2 : Nat) (l : List Ct) (cur : Array Value) (w : World) (hb : w.heap[g]? = some (.cells cur 62 (0, 0))) (ht : cur.toList.take (l.length * 2) = ctC l) (hl : l.length ≤ 1048576)
    (h1 : w.cell? ⟨b1, 0, none⟩ = some (.func (.func 57) #[] #[])) (h2 : w.cell? ⟨b2, 0, none⟩ = some (.func (.func 58) #[] #[])) (n1 : b1 ≠ g) (n2 : b2 ≠ g) :
    Calls Tryz.prog 63 #[.slice (some ⟨g, 0, none⟩) l.length cap, .func (.func 78) #[] #[.pointer (some ⟨b1, 0, none⟩), .pointer (some ⟨b2, 0, none⟩)]] w fun e w' =>
      e = .returned (.tuple #[]) ∧ ∃ d' n os, PermIn 0 l.toArray.size l.toArray d' ∧ SortedIn (ltOf cfR) 0 l.toArray.size d' ∧ w' = sortWorldK encC 2 w g 0 n d' os := by
  have hcon := AnyQ.slices_SortFunc Tryz.sortCt 2 Tryz.isAgg62 Tryz.sizeOf62 encC (fun _ => rfl) (fun x v hv => by simp [encC] at hv; rcases hv with rfl | rfl <;> rfl) cfR swoR 78 _ g 0 cap l.toArray w
    (enters_of Tryz.func78 (by kernel_rfl) rfl) (cmpLaysR b1 b2 g 0 l.toArray.size w h1 h2 n1 n2) (holdsC hb ht) (Array.getElem?_eq_some_iff.1 hb).1 (by simp; omega)
  exact hcon
set_option maxHeartbeats 800000 in
theorem orderedR_any (base g cap : Nat) (l : List Ct) (cur : Array Value) (w : World) (hb : w.heap[g]? = some (.cells cur 62 (0, 0))) (ht : cur.toList.take (l.length * 2) = ctC l) (hl : l.length ≤ 1048576)
    (hg : base ≤ g) (h1 : l.length ≤ cap) (h2 : cap ≤ maxLen) (h3 : cur.size = cap * 2) :
    Calls Tryz.prog 56 #[.slice (some ⟨g, 0, none⟩) l.length cap, .func (.func 57) #[] #[], .func (.func 58) #[] #[]] w fun e w' =>
      e = .returned (.slice (some ⟨g, 0, none⟩) l.length cap) ∧ ∃ d' : Array Ct, PermIn 0 l.toArray.size l.toArray d' ∧ SortedIn (ltOf cfR) 0 l.toArray.size d' ∧ w'.ownsRow base 62 2 (.slice (some ⟨g, 0, none⟩) l.length cap) l.length (ctC d'.toList) ∧ ∃ o o', ((w.alloc o).alloc o').grownBy w' (some g) := by
  have hgl : g < w.heap.size := (Array.getElem?_eq_some_iff.1 hb).1
  have hs := fun (w2 : World) (b1 b2 : Nat) (e : w2.heap[g]? = some (.cells cur 62 (0, 0))) (n1 : b1 ≠ g) (n2 : b2 ≠ g) (q1 : w2.cell? ⟨b1, 0, none⟩ = some (.func (.func 57) #[] #[])) (q2 : w2.cell? ⟨b2, 0, none⟩ = some (.func (.func 58) #[] #[])) => sortR_any g cap b1 b2 l cur w2 e ht hl q1 q2 n1 n2
  have HS := Lib.hid hs
  clear hs
  go_enter Tryz.func56, Tryz.ntmps56
  go_wp2_with fail
  refine (HS.out _ w.heap.size (w.heap.size + 1) ?_ (by omega) (by omega) ?_ ?_).mono ?_
  · exact (Below.heap_alloc _ _ g (by simp; omega)).trans ((Below.heap_alloc w _ g hgl).trans hb)
  · exact (World.cell?_alloc_lt _ _ ⟨w.heap.size, 0, none⟩ (by simp)).trans ((Blk.new w _ _).cell 0)
  · exact box_two w _ _ _
  rintro e w5 ⟨rfl, d', n, os, hp, hso, rfl⟩
  have hm : d'.toList.length = l.length := by have := hp.1; simpa using this
  have hbE : ∀ o o', ((w.alloc o).alloc o').heap[g]? = some (.cells cur 62 (0, 0)) := fun o o' => (Below.heap_alloc (w.alloc o) o' g (by simp; omega)).trans ((Below.heap_alloc w o g hgl).trans hb)
  have hown := fun o o' => ownC (base := base) (n := n) (os := os) (m := d'.toList) (l := l) hm hg (hbE o o') h1 h2 h3
  simp only [Array.toArray_toList, hm] at hown
  have hgr : ∀ w2 : World, w2.grownBy (sortWorldK encC 2 w2 g 0 n d' os) (some g) := fun w2 => grownC _
  have Hgr := Lib.hid hgr
  have Hown := Lib.hid hown
  clear hown HS hgr
  go_wp2
  go_ret
  exact ⟨rfl, d', hp, hso, Hown.out _ _, _, _, Hgr.out _⟩

/-- A table's words, each once, stand by rising words. -/
theorem row_sorted {l : List Ct} {d' : Array Ct} (hw : l.Pairwise (fun x y => x.1 ≠ y.1)) (hp : PermIn 0 l.toArray.size l.toArray d') (hs : SortedIn (ltOf cfR) 0 l.toArray.size d') : d'.toList.Perm l ∧ d'.toList.Pairwise (fun x y => ltS x.1 y.1 = true) := by
  have hpl : d'.toList.Perm l := by simpa using perm_list hp
  refine ⟨hpl, ?_⟩
  have h1 := sorted_list hp.1 hs
  have h2 : d'.toList.Pairwise (fun x y => x.1 ≠ y.1) := (hpl.pairwise_iff (fun {x y} h e => h e.symm)).2 hw
  refine (h1.and h2).imp (fun {x y} hxy => ?_)
  obtain ⟨q1, q2⟩ := hxy
  rw [← Bool.not_eq_true, cfR_lt] at q1
  cases hh : ltS x.1 y.1
  · rcases ltS_total hh with g | g
    · exact absurd g q2
    · exact absurd (.inl g) q1
  · rfl
end Go.Proofs.YtdloacfoegjnmaaGreat.Gr
end

section
/- The sort of an empty row; group.ordered at any row of the call's own (printed by gen_gru.py). -/
namespace Go.Proofs.YtdloacfoegjnmaaGreat.Gr
open Go.RowKit Go.Proofs.YtdloacfoegjnmaaGreat Go.Proofs.YtdloacfoegjnmaaGreat.Ut Go.Proofs.YtdloacfoegjnmaaGreat.Tk Go.Sort Go.Shelf Go.Lib
set_option maxRecDepth 20000
set_option linter.unusedSimpArgs false
set_option linter.unusedVariables false

theorem insNil (fv : Value) (w : World) : Calls Tryz.prog 108 #[.slice none 0 0, .int .i64 0, .int .i64 0, fv] w fun e w' => e = .returned (.tuple #[]) ∧ w' = w := by
  go_enter Tryz.func108, Tryz.ntmps108
  go_wp2_with fail
  go_loopw [8] (fun i wr => i = .int .i64 1 ∧ wr = w) (fun _ _ => 0)
  case atStart => exact ⟨rfl, rfl⟩
  case round =>
    obtain ⟨rfl, rfl⟩ := hrel
    go_wp2
    go_end0
    exact ⟨rfl, rfl⟩
theorem pdqNil (fv : Value) (lim : Int) (w : World) : Calls Tryz.prog 80 #[.slice none 0 0, .int .i64 0, .int .i64 0, .int .i64 lim, fv] w fun e w' => e = .returned (.tuple #[]) ∧ w' = w := by
  have ci := insNil fv
  go_enter Tryz.func80, Tryz.ntmps80
  go_wp2_with fail
  go_loopw [1, 2, 3] (fun a b m wr => a = .int .i64 0 ∧ b = .int .i64 0 ∧ wr = w) (fun _ _ _ _ => 0)
  case atStart => exact ⟨rfl, rfl, rfl⟩
  case round =>
    obtain ⟨rfl, rfl, rfl⟩ := hrel
    go_wp2_with fail
    refine (ci _).mono ?_
    rintro e w2 ⟨rfl, rfl⟩
    go_wp2
    refine bodyPost_ret (results_none rfl _ _ _) rfl ?_
    exact ⟨rfl, rfl⟩
theorem sortNil (fv : Value) (w : World) : Calls Tryz.prog 63 #[.slice none 0 0, fv] w fun e w' => e = .returned (.tuple #[]) ∧ w' = w := by
  have cp := pdqNil fv
  have cl := fun wx => Tryz.bits_Len 0 wx (by omega) (by omega)
  go_enter Tryz.func63, Tryz.ntmps63
  go_wp2_with fail
  refine (cl _).mono ?_
  rintro e w2 ⟨rfl, rfl⟩
  go_wp2_with fail
  refine (cp _ _).mono ?_
  rintro e w2 ⟨rfl, rfl⟩
  go_wp2
  go_end0
  exact ⟨rfl, rfl⟩
theorem perm_refl (d : Array Ct) (n : Nat) : PermIn 0 n d d := ⟨rfl, fun _ _ => rfl, List.Perm.refl _⟩

set_option maxHeartbeats 800000 in
theorem orderedT_all (base : Nat) (l : List Ct) (v : Value) (w : World) (h : w.ownsRow base 62 2 v l.length (ctC l)) (hl : l.length ≤ 1048576) :
    Calls Tryz.prog 37 #[v, .func (.func 39) #[] #[], .func (.func 40) #[] #[]] w fun e w' =>
      e = .returned v ∧ ∃ d' : Array Ct, PermIn 0 l.toArray.size l.toArray d' ∧ SortedIn (ltOf cfT) 0 l.toArray.size d' ∧ w'.ownsRow base 62 2 v l.length (ctC d'.toList) ∧ ∃ o o', ((w.alloc o).alloc o').grownBy w' v.ownBlock := by
  obtain ⟨hlen, ⟨rfl, h0⟩ | ⟨g, cap, cur, rfl, hb, hheap, h1, h2, h3, ht⟩⟩ := h
  · have hln : l = [] := List.length_eq_zero_iff.1 h0
    subst hln
    have cs := sortNil
    go_enter Tryz.func37, Tryz.ntmps37
    go_wp2_with fail
    refine (cs _ _).mono ?_
    rintro e w2 ⟨rfl, rfl⟩
    go_wp2
    go_ret
    exact ⟨rfl, #[], perm_refl _ _, fun i j _ h1 h2 => absurd h2 (by simp), World.ownsRow_nil _ _ _ _, _, _, grow_of_below (Below.refl _ _) none⟩
  · exact orderedT_any base g cap l cur w hheap ht hl hb h1 h2 h3

set_option maxHeartbeats 800000 in
theorem orderedR_all (base : Nat) (l : List Ct) (v : Value) (w : World) (h : w.ownsRow base 62 2 v l.length (ctC l)) (hl : l.length ≤ 1048576) :
    Calls Tryz.prog 56 #[v, .func (.func 57) #[] #[], .func (.func 58) #[] #[]] w fun e w' =>
      e = .returned v ∧ ∃ d' : Array Ct, PermIn 0 l.toArray.size l.toArray d' ∧ SortedIn (ltOf cfR) 0 l.toArray.size d' ∧ w'.ownsRow base 62 2 v l.length (ctC d'.toList) ∧ ∃ o o', ((w.alloc o).alloc o').grownBy w' v.ownBlock := by
  obtain ⟨hlen, ⟨rfl, h0⟩ | ⟨g, cap, cur, rfl, hb, hheap, h1, h2, h3, ht⟩⟩ := h
  · have hln : l = [] := List.length_eq_zero_iff.1 h0
    subst hln
    have cs := sortNil
    go_enter Tryz.func56, Tryz.ntmps56
    go_wp2_with fail
    refine (cs _ _).mono ?_
    rintro e w2 ⟨rfl, rfl⟩
    go_wp2
    go_ret
    exact ⟨rfl, #[], perm_refl _ _, fun i j _ h1 h2 => absurd h2 (by simp), World.ownsRow_nil _ _ _ _, _, _, grow_of_below (Below.refl _ _) none⟩
  · exact orderedR_any base g cap l cur w hheap ht hl hb h1 h2 h3

def errG (l : List Ct) (most : Int) : Int := if okR l = true ∧ 0 ≤ most then 0 else 1
def topG (l : List Ct) (most : Int) : List Ct := if okR l = true ∧ 0 ≤ most then (topR l).take most.toNat else []
/-- What Top answers: a row and an error. -/
def RowPost (w : World) (l : List Ct) (er : Int) (e : Ending) (w' : World) : Prop := ∃ A c, e = .returned (.tuple #[.slice A l.length c, .int .i64 er]) ∧ Reads w' w'.heap.size 2 A l.length (ctC l) ∧ Below w.heap.size w w'
theorem errG_no {l : List Ct} {most : Int} (h : ¬ (okR l = true ∧ 0 ≤ most)) : errG l most = 1 := if_neg h
theorem errG_yes {l : List Ct} {most : Int} (h : okR l = true ∧ 0 ≤ most) : errG l most = 0 := if_pos h
theorem topG_no {l : List Ct} {most : Int} (h : ¬ (okR l = true ∧ 0 ≤ most)) : topG l most = [] := if_neg h
theorem topG_yes {l : List Ct} {most : Int} (h : okR l = true ∧ 0 ≤ most) : topG l most = (topR l).take most.toNat := if_pos h
end Go.Proofs.YtdloacfoegjnmaaGreat.Gr
end
