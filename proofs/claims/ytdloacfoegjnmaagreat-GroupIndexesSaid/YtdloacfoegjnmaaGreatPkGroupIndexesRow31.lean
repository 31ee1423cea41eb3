/- One more of a word, in a row: plain. No program in sight. -/
import Derived.Maps.OwnOps
import Derived.Maps.StringElems
import Derived.RangeFuncNested
import Derived.RangeFuncBox
import Derived.RangeFuncBound
import Derived.RangeFuncCalls
import Derived.RangeFuncLeaves
import Derived.Shelf.Abstract
import Derived.WalkKit
import Derived.OwnWalkIn
import Derived.TacticsInMore
import Derived.LoopNIn
import Derived.LoopIn
import Derived.Maps.AppendAt
import Derived.Maps.OwnIn
import Derived.Lib.Hide
import Derived.Test.YtdloacfoegjnmaaGreatPkGroupIndexesRow30
import Derived.Test.YtdloacfoegjnmaaGreatPkGroupIndexesRow11
import Derived.Test.YtdloacfoegjnmaaGreatPkGroupIndexesRow25
import Derived.Test.YtdloacfoegjnmaaGreatPkGroupIndexesRow8
section
namespace Go.Proofs.YtdloacfoegjnmaaGreat.Gr
open Go.RowKit Go.Proofs.YtdloacfoegjnmaaGreat Go.Proofs.YtdloacfoegjnmaaGreat.Ut Go.Proofs.YtdloacfoegjnmaaGreat.Tk
set_option linter.unusedVariables false
set_option linter.unusedSimpArgs false

def lead (l : List Ct) (s : ByteArray) : List Ct := l.takeWhile fun x => ltS x.1 s
def tail' (l : List Ct) (s : ByteArray) : List Ct := l.dropWhile fun x => ltS x.1 s
def posW (l : List Ct) (s : ByteArray) : Nat := (lead l s).length
theorem lead_tail (l : List Ct) (s : ByteArray) : lead l s ++ tail' l s = l := List.takeWhile_append_dropWhile
theorem take_pos (l : List Ct) (s : ByteArray) : l.take (posW l s) = lead l s := by
  have h : (lead l s ++ tail' l s).take (lead l s).length = lead l s := List.take_left' rfl
  rw [lead_tail] at h
  exact h
theorem drop_pos (l : List Ct) (s : ByteArray) : l.drop (posW l s) = tail' l s := by
  have h : (lead l s ++ tail' l s).drop (lead l s).length = tail' l s := List.drop_left' rfl
  rw [lead_tail] at h
  exact h
theorem posW_le (l : List Ct) (s : ByteArray) : posW l s ≤ l.length := by
  have := congrArg List.length (lead_tail l s)
  rw [List.length_append] at this
  unfold posW
  omega
theorem lead_lt {l : List Ct} {s : ByteArray} : ∀ x ∈ lead l s, ltS x.1 s = true := fun x hx => by
  unfold lead at hx
  exact List.all_eq_true.1 List.all_takeWhile x hx
/-- Ahead of the place all words are less. -/
theorem posW_lt {l : List Ct} {s : ByteArray} {i : Nat} (hi : i < posW l s) (h : i < l.length) : ltS l[i].1 s = true := by
  have h1 : l[i] ∈ l.take (posW l s) := by
    have h2 : i < (l.take (posW l s)).length := by rw [List.length_take]; omega
    have := List.getElem_mem h2
    rwa [List.getElem_take] at this
  rw [take_pos] at h1
  exact lead_lt _ h1
theorem tail_hd {l : List Ct} {s : ByteArray} {x : Ct} {b : List Ct} (h : tail' l s = x :: b) : ltS x.1 s = false := by
  unfold tail' at h
  have := List.head?_dropWhile_not (fun x : Ct => ltS x.1 s) l
  rw [h] at this
  simpa using this
/-- At the place, if there is one, it is not less. -/
theorem posW_at {l : List Ct} {s : ByteArray} (h : posW l s < l.length) : ltS l[posW l s].1 s = false := by
  have h1 := drop_pos l s
  rw [List.drop_eq_getElem_cons h] at h1
  exact tail_hd h1.symm

/-- A row, with n more of a word; false: that would have too many. -/
def withR (l : List Ct) (s : ByteArray) (n : Int) : List Ct × Bool :=
  match tail' l s with
  | [] => (lead l s ++ [(s, n)], true)
  | x :: b => if x.1 = s then (if 1099511627776 - n < x.2 then ([], false) else (lead l s ++ [(s, x.2 + n)] ++ b, true)) else (lead l s ++ [(s, n)] ++ (x :: b), true)
/-- Would that be too many? -/
def tooT (f : Tb) (s : ByteArray) (n : Int) : Bool := match f s with | none => false | some m => decide (1099511627776 - n < m)
def addT (f : Tb) (s : ByteArray) (n : Int) : Tb := putT f s ((f s).getD 0 + n)

theorem ins_tab {f : Tb} {a b : List Ct} {s : ByteArray} {v : Int} (ha : ∀ x ∈ a, ltS x.1 s = true) (hb : ∀ x ∈ b, ltS s x.1 = true) (h : (a ++ b).Pairwise (fun x y => ltS x.1 y.1 = true)) (hf : ∀ x : Ct, x.1 ≠ s → (x ∈ a ++ b ↔ f x.1 = some x.2)) :
    IsTab (putT f s v) (a ++ [(s, v)] ++ b) := by
  obtain ⟨q1, q2, q3⟩ := List.pairwise_append.1 h
  refine ⟨?_, fun x => ?_⟩
  · rw [List.append_assoc]
    refine List.pairwise_append.2 ⟨q1, List.pairwise_append.2 ⟨List.pairwise_singleton _ _, q2, fun x hx y hy => ?_⟩, fun x hx y hy => ?_⟩
    · rw [List.mem_singleton] at hx; subst hx; exact hb y hy
    · rcases List.mem_append.1 hy with hy | hy
      · rw [List.mem_singleton] at hy; subst hy; exact ha x hx
      · exact q3 x hx y hy
  · unfold putT
    by_cases e : x.1 = s
    · rw [if_pos e]
      constructor
      · intro hx
        rcases List.mem_append.1 hx with hx | hx
        · rcases List.mem_append.1 hx with hx | hx
          · have := ha x hx; rw [e, ltS_irrefl] at this; cases this
          · rw [List.mem_singleton] at hx; subst hx; rfl
        · have := hb x hx; rw [e, ltS_irrefl] at this; cases this
      · intro hx
        injection hx with hx
        have : x = (s, v) := by rw [← e, hx]
        rw [this]; simp
    · rw [if_neg e, ← hf x e]
      constructor
      · intro hx
        rcases List.mem_append.1 hx with hx | hx
        · rcases List.mem_append.1 hx with hx | hx
          · exact List.mem_append_left _ hx
          · rw [List.mem_singleton] at hx; subst hx; exact absurd rfl e
        · exact List.mem_append_right _ hx
      · intro hx
        rcases List.mem_append.1 hx with hx | hx
        · exact List.mem_append_left _ (List.mem_append_left _ hx)
        · exact List.mem_append_right _ hx
theorem with_tab {f : Tb} {l : List Ct} (h : IsTab f l) (s : ByteArray) (n : Int) :
    (tooT f s n = true → withR l s n = ([], false)) ∧ (tooT f s n = false → (withR l s n).2 = true ∧ IsTab (addT f s n) (withR l s n).1) := by
  have hl := lead_tail l s
  have hlead : ∀ x ∈ lead l s, ltS x.1 s = true := lead_lt
  have hsort := h.1
  have hmem := h.2
  rw [← hl] at hsort hmem
  unfold withR tooT addT
  generalize lead l s = a at *
  cases ht : tail' l s with
  | nil =>
    rw [ht] at hsort hmem
    have hfs : f s = none := by
      cases e : f s with
      | none => rfl
      | some m =>
        have := (hmem (s, m)).2 e
        rw [List.append_nil] at this
        have := hlead _ this
        rw [ltS_irrefl] at this; cases this
    rw [hfs]
    refine ⟨fun h => (by cases h), fun _ => ⟨rfl, ?_⟩⟩
    have := ins_tab (f := f) (v := 0 + n) hlead (fun x hx => by cases hx) hsort (fun x _ => hmem x)
    simpa using this
  | cons x b =>
    rw [ht] at hsort hmem
    have hx := tail_hd ht
    obtain ⟨q1, q2, q3⟩ := List.pairwise_append.1 hsort
    obtain ⟨p1, p2⟩ := List.pairwise_cons.1 q2
    by_cases e : x.1 = s
    · have hfs : f s = some x.2 := by
        rw [← e]
        exact (hmem x).1 (List.mem_append_right _ (List.mem_cons_self ..))
      rw [hfs]
      simp only [if_pos e]
      have hb : ∀ y ∈ b, ltS s y.1 = true := fun y hy => by rw [← e]; exact p1 y hy
      have hsort2 : (a ++ b).Pairwise (fun x y => ltS x.1 y.1 = true) := List.pairwise_append.2 ⟨q1, p2, fun y hy z hz => q3 y hy z (List.mem_cons_of_mem _ hz)⟩
      have hf2 : ∀ y : Ct, y.1 ≠ s → (y ∈ a ++ b ↔ f y.1 = some y.2) := fun y hy => by
        rw [← hmem y]
        constructor
        · intro hm
          rcases List.mem_append.1 hm with hm | hm
          · exact List.mem_append_left _ hm
          · exact List.mem_append_right _ (List.mem_cons_of_mem _ hm)
        · intro hm
          rcases List.mem_append.1 hm with hm | hm
          · exact List.mem_append_left _ hm
          · rcases List.mem_cons.1 hm with hm | hm
            · subst hm; exact absurd e hy
            · exact List.mem_append_right _ hm
      by_cases hbig : 1099511627776 - n < x.2
      · rw [if_pos hbig, decide_eq_true hbig]
        exact ⟨fun _ => rfl, fun h => by cases h⟩
      · rw [if_neg hbig, decide_eq_false hbig]
        refine ⟨fun h => (by cases h), fun _ => ⟨rfl, ?_⟩⟩
        exact ins_tab hlead hb hsort2 hf2
    · have hlt : ltS s x.1 = true := by
        rcases ltS_total hx with h | h
        · exact absurd h e
        · exact h
      have hb : ∀ y ∈ x :: b, ltS s y.1 = true := fun y hy => by
        rcases List.mem_cons.1 hy with hy | hy
        · subst hy; exact hlt
        · exact ltS_trans hlt (p1 y hy)
      have hfs : f s = none := by
        cases e : f s with
        | none => rfl
        | some m =>
          rcases List.mem_append.1 ((hmem (s, m)).2 e) with hm | hm
          · have := hlead _ hm
            rw [ltS_irrefl] at this; cases this
          · have := hb _ hm
            rw [ltS_irrefl] at this; cases this
      rw [hfs]
      simp only [if_neg e]
      refine ⟨fun h => (by cases h), fun _ => ⟨trivial, ?_⟩⟩
      have := ins_tab (f := f) (v := 0 + n) hlead hb hsort (fun x _ => hmem x)
      simpa using this
/-- All counts into a table; none: one word has too many. -/
def mrgT : List Ct → Tb → Option Tb
  | [], f => some f
  | c :: cs, f => if tooT f c.1 c.2 = true then none else mrgT cs (addT f c.1 c.2)
/-- The same, of the row. -/
def mrgR : List Ct → List Ct → Option (List Ct)
  | [], l => some l
  | c :: cs, l => if (withR l c.1 c.2).2 = true then mrgR cs (withR l c.1 c.2).1 else none
theorem mrg_one : ∀ (cs : List Ct) (f : Tb) (l : List Ct), IsTab f l → (mrgT cs f = none → mrgR cs l = none) ∧ (∀ g, mrgT cs f = some g → ∃ m, mrgR cs l = some m ∧ IsTab g m)
  | [], f, l, h => ⟨fun h => (nomatch h), fun g e => ⟨l, rfl, by unfold mrgT at e; injection e with e; rw [← e]; exact h⟩⟩
  | c :: cs, f, l, h => by
    obtain ⟨w1, w2⟩ := with_tab h c.1 c.2
    unfold mrgT mrgR
    cases ht : tooT f c.1 c.2
    · obtain ⟨a1, a2⟩ := w2 ht
      rw [if_neg (by decide), if_pos a1]
      exact mrg_one cs _ _ a2
    · rw [if_pos rfl, w1 ht, if_neg (by decide)]
      exact ⟨fun _ => rfl, fun g e => (nomatch e)⟩
end Go.Proofs.YtdloacfoegjnmaaGreat.Gr
end

section
/- group.row: the walk. -/
namespace Go.Proofs.YtdloacfoegjnmaaGreat.Gr
open Go.RowKit Go.Proofs.YtdloacfoegjnmaaGreat Go.Proofs.YtdloacfoegjnmaaGreat.Ut Go.Proofs.YtdloacfoegjnmaaGreat.Tk Go.Sort Go.Shelf Go.Lib Go.Maps
set_option maxRecDepth 20000
set_option linter.unusedSimpArgs false
set_option linter.unusedVariables false

theorem lawS : Keyed Tryz.prog 9 := string_keyed Tryz.underlying9
theorem keyW_inv {key : Value} {kl : Lit} (h : keyOf Tryz.prog 9 key = some kl) : ∃ s : ByteArray, key = .string s ∧ kl = litW s ∧ s.size ≤ maxLen := by
  have hk := Tryz.underlying9
  cases key <;> simp [keyOf, hk, mapKey] at h
  exact ⟨_, rfl, h.2.symm, h.1⟩
theorem keyW {s : ByteArray} (h : s.size ≤ maxLen) : keyOf Tryz.prog 9 (.string s) = some (litW s) := Go.WideMaps.keyOf_string_mk Tryz.underlying9 h
/-- The map in memory. -/
def TabM (w : World) (b n : Nat) (f : Tb) : Prop := ∃ D : DataW Unit, w.ownsMap Tryz.prog 9 (plainElem (H := Unit) Tryz.prog 3) b n D ∧ TabD D f

set_option maxHeartbeats 3200000 in
theorem row_any (b n : Nat) (f : Tb) (w : World) (hm : TabM w b n f) (hn : n ≤ 1048576) :
    Calls Tryz.prog 30 #[.map (some b)] w fun e w' => ∃ l, IsTab f l ∧ l.length ≤ n ∧ CtPost 62 w l e w' := by
  obtain ⟨D, hown, hT⟩ := hm
  obtain ⟨i0, hi0, hz0, hz1, hz2⟩ := info_parts gcount_info
  have hsz := hown.size_le
  have hbl := hown.lt
  have HT := Lib.hid hT
  clear hT
  unfold CtPost
  go_enter Tryz.func30, Tryz.ntmps30
  go_wp2_with (first
    | (at_range; refine wpList_range_own _ rfl _ 77 rfl 9 3 lawS Tryz.underlying77 _ b n D rfl hown ?_; intro w0 hrg0 hg0 hs0)
    | go_in)
  go_frame
  have Hb0 := Lib.hid ((Below.refl w.heap.size w).grown hg0 (Nat.le_refl _) (fun j hj => by cases hj))
  clear hg0 hown
  go_loopw [3] (fun v wr => ∃ (left : Lit → Bool) (cnt : Nat) (l : List Ct), wr.ranges Tryz.prog 9 (plainElem (H := Unit) Tryz.prog 3) b w.heap.size n D left cnt ∧ l.length + cnt ≤ n ∧ Hid (Tway D f left l) ∧ Hid (wr.ownsRow (w.heap.size + 1) 62 2 v l.length (ctC l)) ∧ Hid (Below w.heap.size w wr) ∧ w.heap.size < wr.heap.size)
    (fun _ wr => wr.rangeLeft b w.heap.size)
  case atStart => exact ⟨_, _, [], hrg0, by simpa using hsz, Lib.hid (Tway.start HT.out), Lib.hid (World.ownsRow_nil _ _ _ _), Hb0, by omega⟩
  case round =>
    obtain ⟨left, cnt, l, hrg, hcs, hW, hO, hB, hzr⟩ := hrel
    go_wp2_with (first
      | (at_next; refine wpList_next_ranges _ rfl _ rfl 9 lawS (plainElem (H := Unit) Tryz.prog 3) Value.string (Value.int .i64) (fun key kl hkey => by obtain ⟨x, rfl, _⟩ := keyW_inv hkey; exact ⟨x, rfl⟩) (fun v y hv => by obtain ⟨c, rfl, _⟩ := plainElem_int_inv Tryz.underlying3 hv; exact ⟨c, rfl⟩) b w.heap.size _ _ _ _ rfl hrg ?_ ?_)
      | go_in)
    · intro hc0 hl0
      have c1 := orderedR_all (w.heap.size + 1) l _ wr hO.out (by omega)
      have Hl0 := Lib.hid hl0
      clear hrg hl0
      go_wp2_with fail
      refine c1.mono ?_
      rintro e w3 ⟨rfl, d', hp, hso, hown3, o, o', hg⟩
      have hd : d'.toList.length = l.length := by have := hp.1; simpa using this
      have hb3 : Below w.heap.size w w3 := ((hB.out.alloc hB.out.size o).alloc (by have := hB.out.size; simp; omega) o').grown hg (by have := hB.out.size; simp; omega) (fun j hj => by have := (hO.out.lt j hj).1; omega)
      have hfin := hW.out.fin Hl0.out hp hso
      have hown4 := own_base (B' := w.heap.size) hown3 (by omega)
      rw [← hd] at hown4
      have Hfin := Lib.hid hfin
      have Hown4 := Lib.hid hown4
      have Hb3 := Lib.hid hb3
      clear c1 hp hso hown3 hg hb3 hfin hown4
      go_wp2
      go_ret
      exact ⟨d'.toList, Hfin.out, by omega, _, rfl, Hown4.out, Hb3.out⟩
    · intro x c klx ya yb w3 cnt1 hkey hlx hv hat hrg1 hlt1 hg1 hs1 hen
      obtain ⟨x', ex, rfl, hxs⟩ := keyW_inv hkey
      injection ex with ex
      subst ex
      obtain ⟨c', ec, ey, hcw⟩ := plainElem_int_inv Tryz.underlying3 hv
      injection ec with _ ec
      subst ec
      have ey1 : ya = .lit (.int .i64 c) := congrArg Prod.fst ey
      subst ey1
      have hW1 := hW.out.step HT.out hlx hat
      have hO1 := hO.out.kept hg1 (by cases hv' : Value.ownBlock _ with | none => exact .inl rfl | some g => exact .inr (fun e => by injection e with e; have := (hO.out.lt g hv').1; omega))
      have hB1 := hB.out.grown hg1 hB.out.size (fun j hj => by injection hj with hj; omega)
      have HW1 := Lib.hid hW1
      have HO1 := Lib.hid hO1
      have HB1 := Lib.hid hB1
      have nw := Lib.hid (ct_news (w := w3) 62 x c)
      have hb3 := hB1.size
      have Hs1 := Lib.hid hs1
      have hzw : w.heap.size < w3.heap.size := by omega
      clear hW hW1 hO hO1 hB hB1 hg1 hat hkey hv ey hlx hs1
      go_wp2_with (first
        | (at_builtin; (refine wpList_append_cts rfl _ _ 38 rfl 62 i0 Tryz.underlying38 hi0 hz0 hz1 hz2 (w.heap.size + 1) _ l [(x, c)] rfl (HO1.out.alloc _) _ _ _ rfl ?r1 ?nl1 ?b1 ?bs1 ?_))
        | go_in)
      case r1 => exact ⟨rfl, fun _ => ⟨_, 0, rfl, by first | omega | (rw [World.size_alloc]; omega), fun j u hj => by have h := nw.out j u hj; rw [add_lit] at h; exact h⟩⟩
      case b1 => omega
      intro v4 w4 ho4 hg4
      have hne : ∀ k : Nat, k ≤ w.heap.size → some k ≠ Value.ownBlock _ := fun k hk e => by have := (HO1.out.lt k e.symm).1; omega
      have hrg4 := (hrg1.kept (World.grownBy_alloc _ _ none) (by simp) (by simp)).kept hg4 (hne b (by omega)) (hne w.heap.size (Nat.le_refl _))
      have hb4 := (HB1.out.alloc HB1.out.size _).grown hg4 (by rw [World.size_alloc]; omega) (fun j hj => by have := (HO1.out.lt j hj).1; omega)
      have hz4 := hb4.size
      have hz5 := hg4.size
      rw [World.size_alloc] at hz5
      have hm4 := hrg4.left_eq
      have hm0 := hrg.left_eq
      have Ho4 : Hid (w4.ownsRow (w.heap.size + 1) 62 2 v4 (l ++ [(x, c)]).length (ctC (l ++ [(x, c)]))) := Lib.hid (by rw [List.length_append, ctC_app]; exact ho4)
      have Hrg4 := Lib.hid hrg4
      have Hb4 := Lib.hid hb4
      clear ho4 hg4 hrg4 hb4 hne hrg1 hen
      go_wp2
      go_roundw
      case rel => exact ⟨_, cnt1, l ++ [(x, c)], Hrg4.out, by rw [List.length_append, List.length_singleton]; omega, HW1, Ho4, Hb4, by omega⟩
      case measure => rw [hm4, hm0]; exact hlt1
end Go.Proofs.YtdloacfoegjnmaaGreat.Gr
end

section
/- maps.Keys: the iterator's contract, for a body that writes another map. -/
namespace Go.Proofs.YtdloacfoegjnmaaGreat.Gr
open Go.RowKit Go.Proofs.YtdloacfoegjnmaaGreat Go.Proofs.YtdloacfoegjnmaaGreat.Ut Go.Proofs.YtdloacfoegjnmaaGreat.Tk Go.Sort Go.Shelf Go.Lib Go.Maps
attribute [local go_sem] Oper.semAt_some
set_option linter.unusedSimpArgs false
set_option linter.unusedVariables false

/-- All that is a map or walks one stays as it is, but for the map in block M. -/
structure KWB (M : Nat) (W W' : World) : Prop where
  size : W.heap.size ≤ W'.heap.size
  same : ∀ (k : Nat) (o : Obj), k ≠ M → W.heap[k]? = some o → o.isWalk = true → W'.heap[k]? = some o
theorem KWB.refl (M : Nat) (W : World) : KWB M W W := ⟨Nat.le_refl _, fun _ _ _ h _ => h⟩
theorem KWB.trans {M : Nat} {A B C : World} (h : KWB M A B) (k : KWB M B C) : KWB M A C := ⟨Nat.le_trans h.size k.size, fun i o hi ho hw => k.same i o hi (h.same i o hi ho hw) hw⟩
theorem KWB.putObj {M : Nat} (W : World) (l : Nat) (o o' : Obj) (hl : W.heap[l]? = some o) (hw : o.isWalk = false) : KWB M W (W.putObj l o') := by
  refine ⟨by simp, fun k p _ hk hp => ?_⟩
  by_cases e : k = l
  · subst e
    rw [hl] at hk
    injection hk with hk
    subst hk
    rw [hw] at hp
    cases hp
  · exact (World.putObj_heap_other e).trans hk
theorem KWB.below {M B : Nat} {W W' : World} (h : Below W.heap.size W W') : KWB M W W' := ⟨h.size, fun k o _ hk _ => (h.block k (Array.getElem?_eq_some_iff.1 hk).1).trans hk⟩
theorem KWB.grown {M : Nat} {W W' : World} (h : W.grownBy W' (some M)) : KWB M W W' := ⟨h.size, fun k o hM hk _ => (h.block k (Array.getElem?_eq_some_iff.1 hk).1 (fun e => hM (by injection e with e))).trans hk⟩
theorem ranges_kwb {P : Program} {k : TypeId} {R : Value → Option (DataW Unit × List MemPlace)} {w w' : World} {b r n M : Nat} {D : DataW Unit} {left : Lit → Bool} {cnt : Nat}
    (h : w.ranges P k R b r n D left cnt) (hk : KWB M w w') (hb : b ≠ M) (hr : r ≠ M) : w'.ranges P k R b r n D left cnt := by
  obtain ⟨es, clock, since, seen, c0, h1, F, hs, hD, h2, rest⟩ := h
  exact ⟨es, clock, since, seen, c0, hk.same b _ hb h1 rfl, F, hs, hD, hk.same r _ hr h2 rfl, rest⟩

/-- A key that may be. -/
abbrev Ky := { s : ByteArray // s.size ≤ maxLen }
/-- What has come of the keys. -/
structure Came (D0 : DataW Unit) (left : Lit → Bool) (xs : List Ky) : Prop where
  ne : xs.Pairwise (fun x y => x.1 ≠ y.1)
  is : ∀ s : ByteArray, (∃ x ∈ xs, x.1 = s) ↔ (Maps.has D0 (litW s) = true ∧ left (litW s) = false)
theorem Came.start (D0 : DataW Unit) : Came D0 (Maps.has D0) [] := ⟨List.Pairwise.nil, fun s => by cases Maps.has D0 (litW s) <;> simp⟩
theorem Came.step {D0 : DataW Unit} {left : Lit → Bool} {xs : List Ky} (h : Came D0 left xs) (x : Ky) (hl : left (litW x.1) = true) (hh : Maps.has D0 (litW x.1) = true) :
    Came D0 (fun z => left z && !z.sameKey (litW x.1)) (xs ++ [x]) := by
  have hnew : ∀ y ∈ xs, y.1 ≠ x.1 := fun y hy e => by
    have := ((h.is x.1).1 ⟨y, hy, e⟩).2
    rw [hl] at this
    cases this
  refine ⟨List.pairwise_append.2 ⟨h.ne, List.pairwise_singleton _ _, fun y hy z hz => ?_⟩, fun s => ?_⟩
  · rw [List.mem_singleton] at hz
    subst hz
    exact hnew y hy
  · rw [litW_same]
    constructor
    · rintro ⟨y, hy, rfl⟩
      rcases List.mem_append.1 hy with hy | hy
      · obtain ⟨h1, h2⟩ := (h.is y.1).1 ⟨y, hy, rfl⟩
        exact ⟨h1, by rw [h2]; rfl⟩
      · rw [List.mem_singleton] at hy
        subst hy
        exact ⟨hh, by simp⟩
    · rintro ⟨h1, h2⟩
      by_cases e : s = x.1
      · exact ⟨x, by simp, e.symm⟩
      · rw [decide_eq_false e] at h2
        obtain ⟨y, hy, rfl⟩ := (h.is s).2 ⟨h1, by simpa using h2⟩
        exact ⟨y, List.mem_append_left _ hy, rfl⟩

set_option maxHeartbeats 1048576 in
theorem keys_in (n : Nat) (b : Nat) (w : World) :
    CallsIn Fence.wide n Tryz.prog 35 #[.map (some b)] w fun e w' => e = .returned (.func (.func 62) #[] #[.pointer (some ⟨w.heap.size, 0, none⟩)]) ∧ w' = w.alloc (.cells #[.map (some b)] 90) := by
  refine callsIn_of_wp Tryz.func35 rfl trivial ?_ rfl
  simp only [Tryz.ntmps35, List.size_toArray, List.length_cons, List.length_nil, Nat.reduceAdd, Nat.reduceSub, Array.replicate_succ, Array.replicate_zero, List.push_toArray, List.append_toArray, List.nil_append, List.cons_append]
  gi_wp2
  go_ret
  exact ⟨rfl, rfl⟩
set_option maxRecDepth 100000 in
set_option maxHeartbeats 4000000 in
theorem keys1_in (m : Nat) (hn : 1 ≤ m) (l Bm b nn M : Nat) (D0 : DataW Unit) (J Jx : List Ky → World → Prop)
    (hY : ∀ pre x W, J pre W → pre.length < Maps.size D0 → YieldAt Fence.wide (m - 1) Tryz.prog l #[.string x.1] W fun e W' =>
      (e = .returned (.bool true) ∧ J (pre ++ [x]) W' ∧ KWB M W W') ∨ (e = .returned (.bool false) ∧ Jx (pre ++ [x]) W'))
    (W : World) (hJ : AbidesFrom W.heap.size J) (hm : W.cell? ⟨Bm, 0, none⟩ = some (.map (some b))) (hown : W.ownsMap Tryz.prog 9 (unitElem (H := Unit)) b nn D0) (hM : M < W.heap.size) (hbM : b ≠ M) (h0 : J [] W) :
    CallsIn Fence.wide m Tryz.prog 62 #[.func (.yield l) #[] #[], .pointer (some ⟨Bm, 0, none⟩)] W fun e W' => (∃ v, e = .returned v) ∧
      ((∃ xs, (Came D0 (fun _ => false) xs ∧ xs.length ≤ Maps.size D0) ∧ J xs W') ∨ (∃ pre : List Ky, True ∧ Jx pre W')) := by
  have HY := Lib.hid hY
  have HJ := Lib.hid hJ
  clear hY hJ
  refine callsIn_of_wp Tryz.func62 rfl trivial ?_ rfl
  simp only [Tryz.ntmps62, List.size_toArray, List.length_cons, List.length_nil, Nat.reduceAdd, Nat.reduceSub, Array.replicate_succ, Array.replicate_zero, List.push_toArray, List.append_toArray, List.nil_append, List.cons_append]
  gi_wp2_with (first
    | (gi_at_range; refine wpListIn_range_own _ rfl _ 90 rfl 9 92 lawS Tryz.underlying90 _ b nn _ rfl hown ?_; intro w0 hrg0 hg0 hs0)
    | gi_in)
  go_frame
  gi_loopw [3] (fun _ wr => ∃ (left : Lit → Bool) (cnt : Nat) (xs : List Ky), wr.ranges Tryz.prog 9 (unitElem (H := Unit)) b W.heap.size nn D0 left cnt ∧ xs.length + cnt ≤ Maps.size D0 ∧ Came D0 left xs ∧ (∀ kl, left kl = true → Maps.has D0 kl = true) ∧ J xs wr)
    (fun _ wr => wr.rangeLeft b W.heap.size)
  case atStart => exact ⟨_, _, [], hrg0, by simp, Came.start D0, fun _ h => h, HJ.out [] W w0 none h0 hg0 (fun r e => by cases e)⟩
  case round =>
    obtain ⟨left, cnt, xs, hrg, hcs, hC, hlf, hJs⟩ := hrel
    gi_wp2_with (first
      | (gi_at_next; refine wpListIn_next_ranges _ rfl _ rfl 9 lawS (unitElem (H := Unit)) Value.string (fun _ : Unit => .agg #[]) (fun key kl hkey => by obtain ⟨x, rfl, _⟩ := keyW_inv hkey; exact ⟨x, rfl⟩) (fun v y hv => ⟨(), (unitElem_inv hv).1⟩) b W.heap.size nn _ _ _ rfl hrg ?_ ?_)
      | gi_in)
    · intro hc0 hl0
      gi_wp2
      go_end0
      have hl : left = fun _ => false := funext hl0
      exact ⟨⟨_, rfl⟩, .inl ⟨xs, ⟨hl ▸ hC, by omega⟩, hJs⟩⟩
    · intro x kl yd yp w2 cnt2 hkey hlk hv hat hrg2 hlt hg2 hs2 hen
      obtain ⟨x', ex, rfl, hxs⟩ := keyW_inv hkey
      injection ex with ex
      subst ex
      have hJ2 : J xs w2 := HJ.out xs wr w2 (some W.heap.size) hJs hg2 (fun r e => by cases e; exact ⟨Nat.le_refl _, hrg.iter_walk⟩)
      obtain ⟨fn, tmps, assign, body, hy, hR⟩ := HY.out xs ⟨x, hxs⟩ w2 hJ2 (by omega)
      have hC2 := hC.step ⟨x, hxs⟩ hlk (hlf _ hlk)
      clear hs2 HY HJ
      gi_wp2
      refine hR.mono ?_
      rintro e W3 (⟨rfl, hJ3, hk3⟩ | ⟨rfl, hJx3⟩)
      · gi_wp2
        have hrg3 := ranges_kwb hrg2 hk3 hbM (by omega)
        go_roundw
        case rel => exact ⟨_, cnt2, xs ++ [⟨x, hxs⟩], hrg3, by simp; omega, hC2, fun kl hk => hlf kl (by rw [Bool.and_eq_true] at hk; exact hk.1), hJ3⟩
        case measure => rw [hrg3.left_eq, hrg.left_eq]; exact hlt
      · gi_wp2
        refine bodyPost_ret (results_none rfl _ _ _) rfl ?_
        exact ⟨⟨_, rfl⟩, .inr ⟨xs ++ [⟨x, hxs⟩], trivial, hJx3⟩⟩
theorem keys_stops (m : Nat) (hn : 1 ≤ m) (Bm b nn M : Nat) (D0 : DataW Unit) (w : World) (hBm : Bm < w.heap.size) (hM : M < w.heap.size) (hbM : b ≠ M)
    (hm : w.cell? ⟨Bm, 0, none⟩ = some (.map (some b))) (hown : w.ownsMap Tryz.prog 9 (unitElem (H := Unit)) b nn D0) :
    SeqStopsK Fence.wide m Tryz.prog 62 #[.pointer (some ⟨Bm, 0, none⟩)] (fun x : Ky => #[.string x.1]) (KWB M) (fun xs => Came D0 (fun _ => false) xs ∧ xs.length ≤ Maps.size D0) (fun _ => True) (Maps.size D0) w := fun l J Jx W hW hJ _ hY h0 => by
  have hown' : W.ownsMap Tryz.prog 9 (unitElem (H := Unit)) b nn D0 := by
    have hbl := hown.lt
    obtain ⟨es, clock, hb, Ft, hs, hD⟩ := hown
    exact ⟨es, clock, (hW.block b hbl).trans hb, Ft, hs, hD⟩
  exact keys1_in m hn l Bm b nn M D0 J Jx hY W hJ ((hW.cell (p := ⟨Bm, 0, none⟩) hBm).trans hm) hown' (by have := hW.size; omega) hbM h0
end Go.Proofs.YtdloacfoegjnmaaGreat.Gr
end

section
/- Words of docs' fields, counted: plain. And the marks that loops over an iterator leave. -/
namespace Go.Proofs.YtdloacfoegjnmaaGreat.Gr
open Go.RowKit Go.Proofs.YtdloacfoegjnmaaGreat Go.Proofs.YtdloacfoegjnmaaGreat.Ut Go.Proofs.YtdloacfoegjnmaaGreat.Tk Go.Proofs.YtdloacfoegjnmaaGreat.Qy Go.Sort Go.Shelf Go.Lib Go.Maps
set_option linter.unusedSimpArgs false
set_option linter.unusedVariables false

/-- The words of a field, of all that bear the name. -/
def wdsF (name : ByteArray) (fs : List (ByteArray × ByteArray)) : List ByteArray := fs.flatMap fun f => if f.1 = name then (words f.2.data.toList).map str else []
def inL (l : List ByteArray) (s : ByteArray) : Bool := l.any fun x => decide (x = s)
/-- In how many docs. -/
def cntN (name : ByteArray) (ds : List Dc) (s : ByteArray) : Nat := ds.countP fun d => inL (wdsF name d.fs) s
def tabOf (g : ByteArray → Nat) : Tb := fun s => if g s = 0 then none else some (g s : Int)
theorem tabOf_zero {g : ByteArray → Nat} (h : ∀ s, g s = 0) : tabOf g = noT := by
  funext s
  unfold tabOf noT
  rw [if_pos (h s)]
theorem tabOf_get (g : ByteArray → Nat) (s : ByteArray) : (tabOf g s).getD 0 = (g s : Int) := by
  unfold tabOf
  split
  · rename_i h; rw [h]; rfl
  · rfl
theorem tabOf_put (g : ByteArray → Nat) (s : ByteArray) : putT (tabOf g) s ((g s : Int) + 1) = tabOf (fun t => g t + if t = s then 1 else 0) := by
  funext t
  unfold putT tabOf
  by_cases e : t = s
  · subst e
    simp
  · simp [e]
theorem tabOf_congr {g g' : ByteArray → Nat} (h : ∀ s, g s = g' s) : tabOf g = tabOf g' := by
  have : g = g' := funext h
  rw [this]
theorem wdsF_snoc (name : ByteArray) (fs : List (ByteArray × ByteArray)) (k : Nat) (h : k < fs.length) : wdsF name (fs.take (k + 1)) = wdsF name (fs.take k) ++ (if fs[k].1 = name then (words fs[k].2.data.toList).map str else []) := by
  unfold wdsF
  rw [List.take_succ_eq_append_getElem h, List.flatMap_append]
  simp
theorem wdsF_le (name : ByteArray) (fs : List (ByteArray × ByteArray)) (k : Nat) : (wdsF name (fs.take k)).length ≤ (wdsF name fs).length := by
  conv => rhs; rw [← List.take_append_drop k fs]
  unfold wdsF
  rw [List.flatMap_append, List.length_append]
  omega
theorem cntN_snoc (name : ByteArray) (ds : List Dc) (k : Nat) (h : k < ds.length) (s : ByteArray) : cntN name (ds.take (k + 1)) s = cntN name (ds.take k) s + if inL (wdsF name ds[k].fs) s then 1 else 0 := by
  unfold cntN
  rw [List.take_succ_eq_append_getElem h, List.countP_append]
  simp
theorem cntN_le (name : ByteArray) (ds : List Dc) (s : ByteArray) : cntN name ds s ≤ ds.length := List.countP_le_length
/-- All words, counted with repeats. -/
def totW (name : ByteArray) (ds : List Dc) : Nat := (ds.map fun d => (wdsF name d.fs).length).sum
theorem totW_snoc (name : ByteArray) (ds : List Dc) (k : Nat) (h : k < ds.length) : totW name (ds.take (k + 1)) = totW name (ds.take k) + (wdsF name ds[k].fs).length := by
  unfold totW
  rw [List.take_succ_eq_append_getElem h, List.map_append, List.sum_append]
  simp
theorem totW_le (name : ByteArray) (ds : List Dc) (k : Nat) : totW name (ds.take k) ≤ totW name ds := by
  have h : totW name (ds.take k ++ ds.drop k) = totW name (ds.take k) + totW name (ds.drop k) := by
    unfold totW
    rw [List.map_append, List.sum_append]
  rw [List.take_append_drop] at h
  omega
/-- The map in memory holds just these words. -/
structure SetD (E : DataW Unit) (l : List ByteArray) : Prop where
  has : ∀ s, Maps.has E (litW s) = inL l s
theorem SetD.none : SetD (.map []) [] := ⟨fun s => rfl⟩
theorem SetD.put {E : DataW Unit} {l : List ByteArray} (h : SetD E l) (hm : IsMap E) (s : ByteArray) (d : DataW Unit) : SetD (E.put (litW s) d) (l ++ [s]) := by
  refine ⟨fun t => ?_⟩
  unfold inL
  rw [List.any_append]
  by_cases e : t = s
  · subst e
    rw [has_put_same hm (litW_key t)]
    simp
  · rw [has_put_other (fun e' => e (litW_inj e')), h.has]
    unfold inL
    have : decide (s = t) = false := decide_eq_false (fun h => e h.symm)
    simp [this]
theorem count_ne : ∀ {xs : List Ky}, xs.Pairwise (fun x y => x.1 ≠ y.1) → ∀ s : ByteArray, xs.countP (fun x => decide (x.1 = s)) = if xs.any (fun x => decide (x.1 = s)) then 1 else 0
  | [], _, s => rfl
  | x :: xs, h, s => by
    obtain ⟨h1, h2⟩ := List.pairwise_cons.1 h
    have ih := count_ne h2 s
    rw [List.countP_cons, List.any_cons, ih]
    by_cases e : x.1 = s
    · have hno : xs.any (fun x => decide (x.1 = s)) = false := by
        rw [List.any_eq_false]
        intro y hy ey
        exact h1 y hy (e.trans (of_decide_eq_true ey).symm)
      rw [hno, decide_eq_true e]
      rfl
    · rw [decide_eq_false e, Bool.false_or]
      rfl
theorem came_count {E : DataW Unit} {l : List ByteArray} {xs : List Ky} (h : Came E (fun _ => false) xs) (hE : SetD E l) (s : ByteArray) : xs.countP (fun x => decide (x.1 = s)) = if inL l s then 1 else 0 := by
  rw [count_ne h.ne]
  have := h.is s
  rw [hE.has] at this
  have e : xs.any (fun x => decide (x.1 = s)) = inL l s := by
    rw [Bool.eq_iff_iff, List.any_eq_true]
    constructor
    · rintro ⟨x, hx, ex⟩
      exact (this.1 ⟨x, hx, of_decide_eq_true ex⟩).1
    · intro hl
      obtain ⟨x, hx, ex⟩ := this.2 ⟨hl, rfl⟩
      exact ⟨x, hx, decide_eq_true ex⟩
  rw [e]

/-- The mark of a loop over an iterator. -/
def mkD (D : Nat) : Deferred := { target := .collected D, args := #[] }
def MarksOk (B : Nat) (w : World) (ds : List Deferred) : Prop := ∃ Bs : List Nat, ds = Bs.map mkD ∧ Bs.Nodup ∧ ∀ D ∈ Bs, B ≤ D ∧ w.heap[D]? = some (.deferred (some []))
theorem MarksOk.nil (B : Nat) (w : World) : MarksOk B w [] := ⟨[], rfl, List.nodup_nil, fun D h => (nomatch h)⟩
theorem MarksOk.kept {B : Nat} {w w' : World} {ds : List Deferred} {row : Option Nat} (h : MarksOk B w ds) (hg : w.grownBy w' row) (hr : ∀ r p, row = some r → w.heap[r]? ≠ some (.deferred p)) : MarksOk B w' ds := by
  obtain ⟨Bs, e, hn, hB⟩ := h
  refine ⟨Bs, e, hn, fun D hD => ?_⟩
  obtain ⟨h1, h2⟩ := hB D hD
  exact ⟨h1, (hg.block D (Array.getElem?_eq_some_iff.1 h2).1 (fun e => hr D _ e.symm h2)).trans h2⟩
theorem MarksOk.below {B : Nat} {w w' : World} {ds : List Deferred} (h : MarksOk B w ds) (hb : Below w.heap.size w w') : MarksOk B w' ds := h.kept (grow_of_below hb none) (fun r p e => by cases e)
theorem MarksOk.push {B D : Nat} {w0 w : World} {ds : List Deferred} (h0 : MarksOk B w0 ds) (h : MarksOk B w ds) (hD : w0.heap.size ≤ D) (hB : B ≤ D) (hK : w.heap[D]? = some (.deferred (some []))) : MarksOk B w ({ target := .collected D, args := #[] } :: ds) := by
  obtain ⟨Bs, e, hn, hb⟩ := h
  obtain ⟨Bs0, e0, hn0, hb0⟩ := h0
  have hinj : ∀ {a b : List Nat}, a.map mkD = b.map mkD → a = b := fun {a b} hab => by
    have := congrArg (List.map fun d : Deferred => match d.target with | .collected D => D | _ => 0) hab
    simpa [mkD, Function.comp_def] using this
  have : Bs = Bs0 := hinj (by rw [← e, ← e0])
  subst this
  refine ⟨D :: Bs, by rw [e]; rfl, List.nodup_cons.2 ⟨fun hm => ?_, hn⟩, fun x hx => ?_⟩
  · have := (Array.getElem?_eq_some_iff.1 (hb0 D hm).2).1
    omega
  · rcases List.mem_cons.1 hx with rfl | hx
    · exact ⟨hB, hK⟩
    · exact hb x hx
/-- Marks are taken up: nothing else turns. -/
structure Turned (B : Nat) (w w' : World) : Prop where
  bel : Below B w w'
  same : ∀ (k : Nat) (o : Obj), w.heap[k]? = some o → (∀ p, o ≠ Obj.deferred p) → w'.heap[k]? = some o
theorem Turned.refl (B : Nat) (w : World) : Turned B w w := ⟨Below.refl _ _, fun _ _ h _ => h⟩
theorem Turned.own {B base n : Nat} {w w' : World} {e : TypeId} {v : Value} {xs : List Value} (h : Turned B w w') (ho : w.ownsRow base e 2 v n xs) : w'.ownsRow base e 2 v n xs := by
  obtain ⟨h1, h2 | ⟨g, cap, cur, q1, q2, q3, q4⟩⟩ := ho
  · exact ⟨h1, .inl h2⟩
  · exact ⟨h1, .inr ⟨g, cap, cur, q1, q2, h.same g _ q3 (fun p => by simp), q4⟩⟩
theorem leaves_marks {F : Fence} {n B : Nat} {P : Program} {fn : Func} {tmps : Array Value} {R : Ending → World → Prop} : ∀ (ds : List Deferred) (w : World), MarksOk B w ds → (∀ w', Turned B w w' → LeavesInM F n P fn tmps R [] .returning w') → LeavesInM F n P fn tmps R ds .returning w := by
  intro ds
  induction ds with
  | nil => exact fun w _ h => h w (Turned.refl _ _)
  | cons d ds ih =>
    rintro w ⟨Bs, e, hn, hb⟩ h
    cases Bs with
    | nil => cases e
    | cons D Bs =>
      rw [List.map_cons] at e
      injection e with e1 e2
      obtain ⟨hD, hK⟩ := hb D (List.mem_cons_self ..)
      obtain ⟨n1, n2⟩ := List.nodup_cons.1 hn
      subst e1
      refine ⟨by simp, .inl ⟨D, _, rfl, run_takeDeferred hK, ih _ ⟨Bs, e2, n2, fun x hx => ?_⟩ (fun w' ht => h w' ?_)⟩⟩
      · obtain ⟨a, b⟩ := hb x (List.mem_cons_of_mem _ hx)
        exact ⟨a, (World.putObj_heap_other (fun e => n1 (by rw [← e]; exact hx))).trans b⟩
      · have hbel : Below B w (w.putObj D (.deferred none)) := ⟨rfl, rfl, rfl, by simp, fun k hk => World.putObj_heap_other (by omega)⟩
        refine ⟨hbel.trans ht.bel, fun k o hk ho => ht.same k o ?_ ho⟩
        refine (World.putObj_heap_other (fun e => ?_)).trans hk
        rw [e, hK] at hk
        injection hk with hk
        exact ho _ hk.symm
end Go.Proofs.YtdloacfoegjnmaaGreat.Gr
end

section
/- What an index' terms tell of a field's words: plain. (No program in sight.) -/
namespace Go.Proofs.YtdloacfoegjnmaaGreat.Gi
open Go.RowKit Go.Proofs.YtdloacfoegjnmaaGreat Go.Proofs.YtdloacfoegjnmaaGreat.Ut Go.Proofs.YtdloacfoegjnmaaGreat.Tk Go.Proofs.YtdloacfoegjnmaaGreat.Qy Go.Proofs.YtdloacfoegjnmaaGreat.Ev Go.Proofs.YtdloacfoegjnmaaGreat.Mx
set_option linter.unusedVariables false
set_option linter.unusedSimpArgs false

/-- The terms of fields. -/
theorem based_tx (t : ByteArray) : ∀ (fs : List Fl) (b : Nat), (∃ p, (t, p) ∈ (basedL b fs).flatMap rawO) ↔ ∃ f ∈ fs, ∃ x ∈ words f.2.data.toList, t = termT f.1 x
  | [], b => by simp [basedL]
  | f :: fs, b => by
    simp only [basedL, List.flatMap_cons, List.mem_append, exists_or, based_tx t fs]
    constructor
    · rintro (⟨p, hp⟩ | ⟨g, hg, h⟩)
      · unfold rawO at hp
        obtain ⟨y, hy, e⟩ := List.mem_map.1 hp
        injection e with e1 _
        exact ⟨f, List.mem_cons_self .., y.1, List.fst_mem_of_mem_zipIdx hy, e1.symm⟩
      · exact ⟨g, List.mem_cons_of_mem _ hg, h⟩
    · rintro ⟨g, hg, x, hx, e⟩
      rcases List.mem_cons.1 hg with rfl | hg
      · left
        obtain ⟨i, hi, rfl⟩ := List.mem_iff_getElem.1 hx
        refine ⟨b + i, ?_⟩
        unfold rawO
        refine List.mem_map.2 ⟨((words g.2.data.toList)[i], b + i), ?_, by rw [e]⟩
        rw [List.mem_iff_getElem]
        exact ⟨i, by simpa using hi, by simp⟩
      · exact .inr ⟨g, hg, x, hx, e⟩
theorem posOf_tx (fs : List Fl) (t : ByteArray) : (posOf fs t).isSome = true ↔ ∃ f ∈ fs, ∃ x ∈ words f.2.data.toList, t = termT f.1 x := by
  rw [← based_tx t fs 0]
  show _ ↔ ∃ p, (t, p) ∈ raw fs
  constructor
  · intro h
    cases hq : posOf fs t with
    | none => rw [hq] at h; cases h
    | some q =>
      have hne := posOf_ne hq
      obtain ⟨x, q', rfl⟩ := List.exists_cons_of_ne_nil hne
      exact ⟨x, posOf_mem.1 (by rw [hq]; simp)⟩
  · rintro ⟨p, hp⟩
    have h := posOf_mem.2 hp
    cases hq : posOf fs t with
    | none => rw [hq] at h; simp at h
    | some q => rfl
theorem data_inj {a b : ByteArray} (h : a.data.toList = b.data.toList) : a = b := by rw [← of_str a, ← of_str b, h]
theorem take_term (a b : List UInt8) : (term a b).take a.length = a := by unfold term; simp
theorem drop_term (a b : List UInt8) : (term a b).drop (a.length + 1) = b := by unfold term; simp
theorem term_inj {a b x y : List UInt8} (ha : isN a = true) (hb : isN b = true) (h : term a x = term b y) : a = b ∧ x = y := by
  have h1 := colonAt_term a x ha
  have h2 := colonAt_term b y hb
  have hl : a.length = b.length := by rw [← h1, ← h2, h]
  constructor
  · have e1 := take_term a x
    rw [h, hl, take_term] at e1
    exact e1.symm
  · have e1 := drop_term a x
    rw [h, hl, drop_term] at e1
    exact e1.symm
theorem termT_inj {a b : ByteArray} {x y : List UInt8} (ha : isN a.data.toList = true) (hb : isN b.data.toList = true) (h : termT a x = termT b y) : a = b ∧ x = y := by
  have h2 : (termT a x).data.toList = (termT b y).data.toList := by rw [h]
  unfold termT at h2
  rw [str_data, str_data] at h2
  obtain ⟨e1, e2⟩ := term_inj ha hb h2
  exact ⟨data_inj e1, e2⟩
theorem posOf_name {fs : List Fl} (hk : ∀ f ∈ fs, isN f.1.data.toList = true) {name : ByteArray} (hN : isN name.data.toList = true) (s : ByteArray) : (posOf fs (termT name s.data.toList)).isSome = Gr.inL (Gr.wdsF name fs) s := by
  rw [Bool.eq_iff_iff, posOf_tx]
  unfold Gr.inL Gr.wdsF
  rw [List.any_eq_true]
  constructor
  · rintro ⟨f, hf, x, hx, e⟩
    obtain ⟨e1, e2⟩ := termT_inj hN (hk f hf) e
    refine ⟨s, List.mem_flatMap.2 ⟨f, hf, ?_⟩, by simp⟩
    rw [if_pos e1.symm]
    exact List.mem_map.2 ⟨x, hx, by rw [← e2, of_str]⟩
  · rintro ⟨y, hy, e⟩
    obtain rfl : y = s := of_decide_eq_true e
    obtain ⟨f, hf, h⟩ := List.mem_flatMap.1 hy
    by_cases hn : f.1 = name
    · rw [if_pos hn] at h
      obtain ⟨x, hx, rfl⟩ := List.mem_map.1 h
      exact ⟨f, hf, x, hx, by rw [str_data, hn]⟩
    · rw [if_neg hn] at h; cases h
/-- In how many docs a term stands. -/
theorem postsT_cnt (t : ByteArray) (ds : List (List Fl)) : (postsT ds t).length = ds.countP (fun fs => (posOf fs t).isSome) := by
  suffices h : ∀ (ds : List (List Fl)) (k : Nat), ((ds.zipIdx k).filterMap (fun p => (posOf p.1 t).map (fun q => (p.2, q)))).length = ds.countP (fun fs => (posOf fs t).isSome) from h ds 0
  intro ds
  induction ds with
  | nil => intro k; rfl
  | cons fs ds ih =>
    intro k
    rw [List.zipIdx_cons, List.filterMap_cons, List.countP_cons]
    have h1 := ih (k + 1)
    cases hq : posOf fs t with
    | none => simp only [Option.map_none, Option.isSome_none]; simpa using h1
    | some q => simp only [Option.map_some, Option.isSome_some, List.length_cons]; simpa using h1
/-- What a term adds to the table. -/
def stepI (ds : List (List Fl)) (name : ByteArray) (f : Gr.Tb) (t : ByteArray) : Gr.Tb := if splitOk t.data.toList = true ∧ bef t = name then Gr.putT f (beh t) ((postsT ds t).length : Nat) else f
theorem hit_iff {t name s : ByteArray} (hN : isN name.data.toList = true) : (splitOk t.data.toList = true ∧ bef t = name ∧ beh t = s) ↔ (splitOk t.data.toList = true ∧ t = termT name s.data.toList) := by
  constructor
  · rintro ⟨h, rfl, rfl⟩
    refine ⟨h, data_inj ?_⟩
    unfold termT
    rw [str_data, bef_data, beh_data]
    exact (split_back _ h).symm
  · rintro ⟨h, rfl⟩
    have e : (termT name s.data.toList).data.toList = term name.data.toList s.data.toList := by unfold termT; rw [str_data]
    have hc := colonAt_term name.data.toList s.data.toList hN
    refine ⟨h, data_inj ?_, data_inj ?_⟩
    · rw [bef_data, e, hc]; exact take_term _ _
    · rw [beh_data, e, hc]; exact drop_term _ _
open Classical in
theorem fold_val (ds : List (List Fl)) {name : ByteArray} (hN : isN name.data.toList = true) (s : ByteArray) : ∀ (TT : List ByteArray) (f : Gr.Tb), (TT.foldl (stepI ds name) f) s =
    if termT name s.data.toList ∈ TT ∧ splitOk (termT name s.data.toList).data.toList = true then some (((postsT ds (termT name s.data.toList)).length : Nat) : Int) else f s
  | [], f => by simp
  | t :: TT, f => by
    rw [List.foldl_cons, fold_val ds hN s TT]
    by_cases h1 : termT name s.data.toList ∈ TT ∧ splitOk (termT name s.data.toList).data.toList = true
    · rw [if_pos h1, if_pos ⟨List.mem_cons_of_mem _ h1.1, h1.2⟩]
    · rw [if_neg h1]
      unfold stepI
      by_cases h2 : splitOk t.data.toList = true ∧ bef t = name
      · rw [if_pos h2]
        unfold Gr.putT
        by_cases h3 : s = beh t
        · obtain ⟨h4, h5⟩ := (hit_iff hN).1 ⟨h2.1, h2.2, h3.symm⟩
          rw [if_pos h3, if_pos ⟨by rw [← h5]; exact List.mem_cons_self .., by rw [← h5]; exact h4⟩, ← h5]
        · rw [if_neg h3, if_neg (fun h => ?_)]
          rcases List.mem_cons.1 h.1 with h4 | h4
          · exact h3 (((hit_iff hN).2 ⟨h2.1, h4.symm⟩).2.2).symm
          · exact h1 ⟨h4, h.2⟩
      · rw [if_neg h2, if_neg (fun h => ?_)]
        rcases List.mem_cons.1 h.1 with h4 | h4
        · have h5 := (hit_iff (t := t) (s := s) hN).2 ⟨by rw [← h4]; exact h.2, h4.symm⟩
          exact h2 ⟨h5.1, h5.2.1⟩
        · exact h1 ⟨h4, h.2⟩
/-- The table that the terms give is the table of the docs. -/
theorem tab_terms {ds : List Dc} {name : ByteArray} (hN : isN name.data.toList = true) (hk : ∀ d ∈ ds, chkE d.fs = 0) {TT : List ByteArray} (hT : ∀ x, x ∈ TT ↔ ∃ fs ∈ ds.map (·.fs), (posOf fs x).isSome = true) (s : ByteArray) :
    (TT.foldl (stepI (ds.map (·.fs)) name) Gr.noT) s = Gr.tabOf (Gr.cntN name ds) s := by
  have hc : (postsT (ds.map (·.fs)) (termT name s.data.toList)).length = Gr.cntN name ds s := by
    rw [postsT_cnt, List.countP_map]
    unfold Gr.cntN
    refine List.countP_congr (fun d hd => ?_)
    show (posOf d.fs _).isSome = true ↔ _
    rw [posOf_name (fun f hf => ((chkE_ok (hk d hd)).2 f hf).1) hN s]
  rw [fold_val _ hN, hc]
  unfold Gr.tabOf
  by_cases h0 : Gr.cntN name ds s = 0
  · rw [if_pos h0, if_neg (fun h => ?_)]
    · rfl
    · obtain ⟨fs, hf, hp⟩ := (hT _).1 h.1
      have : 0 < (postsT (ds.map (·.fs)) (termT name s.data.toList)).length := by
        rw [postsT_cnt]
        exact List.countP_pos_iff.2 ⟨fs, hf, hp⟩
      omega
  · rw [if_neg h0, if_pos ?_]
    have hp : 0 < (postsT (ds.map (·.fs)) (termT name s.data.toList)).length := by omega
    rw [postsT_cnt] at hp
    obtain ⟨fs, hf, hq⟩ := List.countP_pos_iff.1 hp
    refine ⟨(hT _).2 ⟨fs, hf, hq⟩, ?_⟩
    obtain ⟨d, hd, rfl⟩ := List.mem_map.1 hf
    obtain ⟨f, hff, x, hx, e⟩ := (posOf_tx _ _).1 hq
    obtain ⟨e1, e2⟩ := termT_inj hN ((chkE_ok (hk d hd)).2 f hff).1 e
    have hw : isW s.data.toList = true := by
      unfold isW
      rw [beq_iff_eq, e2]
      exact (words_word _ x hx).1
    unfold termT
    rw [str_data]
    exact (split_term _ _ hN hw).1
end Go.Proofs.YtdloacfoegjnmaaGreat.Gi
end
