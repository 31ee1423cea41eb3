/- One more of a word, in a row: plain. No program in sight. -/
import Derived.Maps.OwnOps
import Derived.Maps.StringElems
import Derived.Test.YtjeahdnbpiahaaaGreatPkGroupCountsRow29
section
namespace Go.Proofs.YtjeahdnbpiahaaaGreat.Gr
open Go.RowKit Go.Proofs.YtjeahdnbpiahaaaGreat Go.Proofs.YtjeahdnbpiahaaaGreat.Ut Go.Proofs.YtjeahdnbpiahaaaGreat.Tk
set_option linter.unusedVariables false
set_option linter.unusedSimpArgs false

def lead (l : List Ct) (s : ByteArray) : List Ct := l.takeWhile fun x => ltS x.1 s
def tail' (l : List Ct) (s : ByteArray) : List Ct := l.dropWhile fun x => ltS x.1 s
def posW (l : List Ct) (s : ByteArray) : Nat := (lead l s).length
theorem lead_tail (l : List Ct) (s : ByteArray) : lead l s ++ tail' l s = l := List.takeWhile_append_dropWhile
theorem take_pos (l : List Ct) (s : ByteArray) : l.take (posW l s) = lead l s := by
  have h : (lead l s ++ tail' l s).take (lead l s).length = lead l s := List.take_left' rfl
  rw [lead_tail] at h
  exact h
theorem drop_pos (l : List Ct) (s : ByteArray) : l.drop (posW l s) = tail' l s := by
  have h : (lead l s ++ tail' l s).drop (lead l s).length = tail' l s := List.drop_left' rfl
  rw [lead_tail] at h
  exact h
theorem posW_le (l : List Ct) (s : ByteArray) : posW l s ≤ l.length := by
  have := congrArg List.length (lead_tail l s)
  rw [List.length_append] at this
  unfold posW
  omega
theorem lead_lt {l : List Ct} {s : ByteArray} : ∀ x ∈ lead l s, ltS x.1 s = true := fun x hx => by
  unfold lead at hx
  exact List.all_eq_true.1 List.all_takeWhile x hx
/-- Ahead of the place all words are less. -/
theorem posW_lt {l : List Ct} {s : ByteArray} {i : Nat} (hi : i < posW l s) (h : i < l.length) : ltS l[i].1 s = true := by
  have h1 : l[i] ∈ l.take (posW l s) := by
    have h2 : i < (l.take (posW l s)).length := by rw [List.length_take]; omega
    have := List.getElem_mem h2
    rwa [List.getElem_take] at this
  rw [take_pos] at h1
  exact lead_lt _ h1
theorem tail_hd {l : List Ct} {s : ByteArray} {x : Ct} {b : List Ct} (h : tail' l s = x :: b) : ltS x.1 s = false := by
  unfold tail' at h
  have := List.head?_dropWhile_not (fun x : Ct => ltS x.1 s) l
  rw [h] at this
  simpa using this
/-- At the place, if there is one, it is not less. -/
theorem posW_at {l : List Ct} {s : ByteArray} (h : posW l s < l.length) : ltS l[posW l s].1 s = false := by
  have h1 := drop_pos l s
  rw [List.drop_eq_getElem_cons h] at h1
  exact tail_hd h1.symm

/-- A row, with n more of a word; false: that would have too many. -/
def withR (l : List Ct) (s : ByteArray) (n : Int) : List Ct × Bool :=
  match tail' l s with
  | [] => (lead l s ++ [(s, n)], true)
  | x :: b => if x.1 = s then (if 1099511627776 - n < x.2 then ([], false) else (lead l s ++ [(s, x.2 + n)] ++ b, true)) else (lead l s ++ [(s, n)] ++ (x :: b), true)
/-- Would that be too many? -/
def tooT (f : Tb) (s : ByteArray) (n : Int) : Bool := match f s with | none => false | some m => decide (1099511627776 - n < m)
def addT (f : Tb) (s : ByteArray) (n : Int) : Tb := putT f s ((f s).getD 0 + n)

theorem ins_tab {f : Tb} {a b : List Ct} {s : ByteArray} {v : Int} (ha : ∀ x ∈ a, ltS x.1 s = true) (hb : ∀ x ∈ b, ltS s x.1 = true) (h : (a ++ b).Pairwise (fun x y => ltS x.1 y.1 = true)) (hf : ∀ x : Ct, x.1 ≠ s → (x ∈ a ++ b ↔ f x.1 = some x.2)) :
    IsTab (putT f s v) (a ++ [(s, v)] ++ b) := by
  obtain ⟨q1, q2, q3⟩ := List.pairwise_append.1 h
  refine ⟨?_, fun x => ?_⟩
  · rw [List.append_assoc]
    refine List.pairwise_append.2 ⟨q1, List.pairwise_append.2 ⟨List.pairwise_singleton _ _, q2, fun x hx y hy => ?_⟩, fun x hx y hy => ?_⟩
    · rw [List.mem_singleton] at hx; subst hx; exact hb y hy
    · rcases List.mem_append.1 hy with hy | hy
      · rw [List.mem_singleton] at hy; subst hy; exact ha x hx
      · exact q3 x hx y hy
  · unfold putT
    by_cases e : x.1 = s
    · rw [if_pos e]
      constructor
      · intro hx
        rcases List.mem_append.1 hx with hx | hx
        · rcases List.mem_append.1 hx with hx | hx
          · have := ha x hx; rw [e, ltS_irrefl] at this; cases this
          · rw [List.mem_singleton] at hx; subst hx; rfl
        · have := hb x hx; rw [e, ltS_irrefl] at this; cases this
      · intro hx
        injection hx with hx
        have : x = (s, v) := by rw [← e, hx]
        rw [this]; simp
    · rw [if_neg e, ← hf x e]
      constructor
      · intro hx
        rcases List.mem_append.1 hx with hx | hx
        · rcases List.mem_append.1 hx with hx | hx
          · exact List.mem_append_left _ hx
          · rw [List.mem_singleton] at hx; subst hx; exact absurd rfl e
        · exact List.mem_append_right _ hx
      · intro hx
        rcases List.mem_append.1 hx with hx | hx
        · exact List.mem_append_left _ (List.mem_append_left _ hx)
        · exact List.mem_append_right _ hx
theorem with_tab {f : Tb} {l : List Ct} (h : IsTab f l) (s : ByteArray) (n : Int) :
    (tooT f s n = true → withR l s n = ([], false)) ∧ (tooT f s n = false → (withR l s n).2 = true ∧ IsTab (addT f s n) (withR l s n).1) := by
  have hl := lead_tail l s
  have hlead : ∀ x ∈ lead l s, ltS x.1 s = true := lead_lt
  have hsort := h.1
  have hmem := h.2
  rw [← hl] at hsort hmem
  unfold withR tooT addT
  generalize lead l s = a at *
  cases ht : tail' l s with
  | nil =>
    rw [ht] at hsort hmem
    have hfs : f s = none := by
      cases e : f s with
      | none => rfl
      | some m =>
        have := (hmem (s, m)).2 e
        rw [List.append_nil] at this
        have := hlead _ this
        rw [ltS_irrefl] at this; cases this
    rw [hfs]
    refine ⟨fun h => (by cases h), fun _ => ⟨rfl, ?_⟩⟩
    have := ins_tab (f := f) (v := 0 + n) hlead (fun x hx => by cases hx) hsort (fun x _ => hmem x)
    simpa using this
  | cons x b =>
    rw [ht] at hsort hmem
    have hx := tail_hd ht
    obtain ⟨q1, q2, q3⟩ := List.pairwise_append.1 hsort
    obtain ⟨p1, p2⟩ := List.pairwise_cons.1 q2
    by_cases e : x.1 = s
    · have hfs : f s = some x.2 := by
        rw [← e]
        exact (hmem x).1 (List.mem_append_right _ (List.mem_cons_self ..))
      rw [hfs]
      simp only [if_pos e]
      have hb : ∀ y ∈ b, ltS s y.1 = true := fun y hy => by rw [← e]; exact p1 y hy
      have hsort2 : (a ++ b).Pairwise (fun x y => ltS x.1 y.1 = true) := List.pairwise_append.2 ⟨q1, p2, fun y hy z hz => q3 y hy z (List.mem_cons_of_mem _ hz)⟩
      have hf2 : ∀ y : Ct, y.1 ≠ s → (y ∈ a ++ b ↔ f y.1 = some y.2) := fun y hy => by
        rw [← hmem y]
        constructor
        · intro hm
          rcases List.mem_append.1 hm with hm | hm
          · exact List.mem_append_left _ hm
          · exact List.mem_append_right _ (List.mem_cons_of_mem _ hm)
        · intro hm
          rcases List.mem_append.1 hm with hm | hm
          · exact List.mem_append_left _ hm
          · rcases List.mem_cons.1 hm with hm | hm
            · subst hm; exact absurd e hy
            · exact List.mem_append_right _ hm
      by_cases hbig : 1099511627776 - n < x.2
      · rw [if_pos hbig, decide_eq_true hbig]
        exact ⟨fun _ => rfl, fun h => by cases h⟩
      · rw [if_neg hbig, decide_eq_false hbig]
        refine ⟨fun h => (by cases h), fun _ => ⟨rfl, ?_⟩⟩
        exact ins_tab hlead hb hsort2 hf2
    · have hlt : ltS s x.1 = true := by
        rcases ltS_total hx with h | h
        · exact absurd h e
        · exact h
      have hb : ∀ y ∈ x :: b, ltS s y.1 = true := fun y hy => by
        rcases List.mem_cons.1 hy with hy | hy
        · subst hy; exact hlt
        · exact ltS_trans hlt (p1 y hy)
      have hfs : f s = none := by
        cases e : f s with
        | none => rfl
        | some m =>
          rcases List.mem_append.1 ((hmem (s, m)).2 e) with hm | hm
          · have := hlead _ hm
            rw [ltS_irrefl] at this; cases this
          · have := hb _ hm
            rw [ltS_irrefl] at this; cases this
      rw [hfs]
      simp only [if_neg e]
      refine ⟨fun h => (by cases h), fun _ => ⟨trivial, ?_⟩⟩
      have := ins_tab (f := f) (v := 0 + n) hlead hb hsort (fun x _ => hmem x)
      simpa using this
/-- All counts into a table; none: one word has too many. -/
def mrgT : List Ct → Tb → Option Tb
  | [], f => some f
  | c :: cs, f => if tooT f c.1 c.2 = true then none else mrgT cs (addT f c.1 c.2)
/-- The same, of the row. -/
def mrgR : List Ct → List Ct → Option (List Ct)
  | [], l => some l
  | c :: cs, l => if (withR l c.1 c.2).2 = true then mrgR cs (withR l c.1 c.2).1 else none
theorem mrg_one : ∀ (cs : List Ct) (f : Tb) (l : List Ct), IsTab f l → (mrgT cs f = none → mrgR cs l = none) ∧ (∀ g, mrgT cs f = some g → ∃ m, mrgR cs l = some m ∧ IsTab g m)
  | [], f, l, h => ⟨fun h => (nomatch h), fun g e => ⟨l, rfl, by unfold mrgT at e; injection e with e; rw [← e]; exact h⟩⟩
  | c :: cs, f, l, h => by
    obtain ⟨w1, w2⟩ := with_tab h c.1 c.2
    unfold mrgT mrgR
    cases ht : tooT f c.1 c.2
    · obtain ⟨a1, a2⟩ := w2 ht
      rw [if_neg (by decide), if_pos a1]
      exact mrg_one cs _ _ a2
    · rw [if_pos rfl, w1 ht, if_neg (by decide)]
      exact ⟨fun _ => rfl, fun g e => (nomatch e)⟩
end Go.Proofs.YtjeahdnbpiahaaaGreat.Gr
end

section
/- group.row: the walk. -/
namespace Go.Proofs.YtjeahdnbpiahaaaGreat.Gr
open Go.RowKit Go.Proofs.YtjeahdnbpiahaaaGreat Go.Proofs.YtjeahdnbpiahaaaGreat.Ut Go.Proofs.YtjeahdnbpiahaaaGreat.Tk Go.Sort Go.Shelf Go.Lib Go.Maps
set_option maxRecDepth 20000
set_option linter.unusedSimpArgs false
set_option linter.unusedVariables false

theorem lawS : Keyed Tryz.prog 9 := string_keyed Tryz.underlying9
theorem keyW_inv {key : Value} {kl : Lit} (h : keyOf Tryz.prog 9 key = some kl) : ∃ s : ByteArray, key = .string s ∧ kl = litW s ∧ s.size ≤ maxLen := by
  have hk := Tryz.underlying9
  cases key <;> simp [keyOf, hk, mapKey] at h
  exact ⟨_, rfl, h.2.symm, h.1⟩
theorem keyW {s : ByteArray} (h : s.size ≤ maxLen) : keyOf Tryz.prog 9 (.string s) = some (litW s) := Go.WideMaps.keyOf_string_mk Tryz.underlying9 h
/-- The map in memory. -/
def TabM (w : World) (b n : Nat) (f : Tb) : Prop := ∃ D : DataW Unit, w.ownsMap Tryz.prog 9 (plainElem (H := Unit) Tryz.prog 3) b n D ∧ TabD D f

set_option maxHeartbeats 3200000 in
theorem row_any (b n : Nat) (f : Tb) (w : World) (hm : TabM w b n f) (hn : n ≤ 1048576) :
    Calls Tryz.prog 21 #[.map (some b)] w fun e w' => ∃ l, IsTab f l ∧ l.length ≤ n ∧ CtPost 54 w l e w' := by
  obtain ⟨D, hown, hT⟩ := hm
  obtain ⟨i0, hi0, hz0, hz1, hz2⟩ := info_parts gcount_info
  have hsz := hown.size_le
  have hbl := hown.lt
  have HT := Lib.hid hT
  clear hT
  unfold CtPost
  go_enter Tryz.func21, Tryz.ntmps21
  go_wp2_with (first
    | (at_range; refine wpList_range_own _ rfl _ 57 rfl 9 3 lawS Tryz.underlying57 _ b n D rfl hown ?_; intro w0 hrg0 hg0 hs0)
    | go_in)
  go_frame
  have Hb0 := Lib.hid ((Below.refl w.heap.size w).grown hg0 (Nat.le_refl _) (fun j hj => by cases hj))
  clear hg0 hown
  go_loopw [3] (fun v wr => ∃ (left : Lit → Bool) (cnt : Nat) (l : List Ct), wr.ranges Tryz.prog 9 (plainElem (H := Unit) Tryz.prog 3) b w.heap.size n D left cnt ∧ l.length + cnt ≤ n ∧ Hid (Tway D f left l) ∧ Hid (wr.ownsRow (w.heap.size + 1) 54 2 v l.length (ctC l)) ∧ Hid (Below w.heap.size w wr) ∧ w.heap.size < wr.heap.size)
    (fun _ wr => wr.rangeLeft b w.heap.size)
  case atStart => exact ⟨_, _, [], hrg0, by simpa using hsz, Lib.hid (Tway.start HT.out), Lib.hid (World.ownsRow_nil _ _ _ _), Hb0, by omega⟩
  case round =>
    obtain ⟨left, cnt, l, hrg, hcs, hW, hO, hB, hzr⟩ := hrel
    go_wp2_with (first
      | (at_next; refine wpList_next_ranges _ rfl _ rfl 9 lawS (plainElem (H := Unit) Tryz.prog 3) Value.string (Value.int .i64) (fun key kl hkey => by obtain ⟨x, rfl, _⟩ := keyW_inv hkey; exact ⟨x, rfl⟩) (fun v y hv => by obtain ⟨c, rfl, _⟩ := plainElem_int_inv Tryz.underlying3 hv; exact ⟨c, rfl⟩) b w.heap.size _ _ _ _ rfl hrg ?_ ?_)
      | go_in)
    · intro hc0 hl0
      have c1 := orderedR_all (w.heap.size + 1) l _ wr hO.out (by omega)
      have Hl0 := Lib.hid hl0
      clear hrg hl0
      go_wp2_with fail
      refine c1.mono ?_
      rintro e w3 ⟨rfl, d', hp, hso, hown3, o, o', hg⟩
      have hd : d'.toList.length = l.length := by have := hp.1; simpa using this
      have hb3 : Below w.heap.size w w3 := ((hB.out.alloc hB.out.size o).alloc (by have := hB.out.size; simp; omega) o').grown hg (by have := hB.out.size; simp; omega) (fun j hj => by have := (hO.out.lt j hj).1; omega)
      have hfin := hW.out.fin Hl0.out hp hso
      have hown4 := own_base (B' := w.heap.size) hown3 (by omega)
      rw [← hd] at hown4
      have Hfin := Lib.hid hfin
      have Hown4 := Lib.hid hown4
      have Hb3 := Lib.hid hb3
      clear c1 hp hso hown3 hg hb3 hfin hown4
      go_wp2
      go_ret
      exact ⟨d'.toList, Hfin.out, by omega, _, rfl, Hown4.out, Hb3.out⟩
    · intro x c klx ya yb w3 cnt1 hkey hlx hv hat hrg1 hlt1 hg1 hs1 hen
      obtain ⟨x', ex, rfl, hxs⟩ := keyW_inv hkey
      injection ex with ex
      subst ex
      obtain ⟨c', ec, ey, hcw⟩ := plainElem_int_inv Tryz.underlying3 hv
      injection ec with _ ec
      subst ec
      have ey1 : ya = .lit (.int .i64 c) := congrArg Prod.fst ey
      subst ey1
      have hW1 := hW.out.step HT.out hlx hat
      have hO1 := hO.out.kept hg1 (by cases hv' : Value.ownBlock _ with | none => exact .inl rfl | some g => exact .inr (fun e => by injection e with e; have := (hO.out.lt g hv').1; omega))
      have hB1 := hB.out.grown hg1 hB.out.size (fun j hj => by injection hj with hj; omega)
      have HW1 := Lib.hid hW1
      have HO1 := Lib.hid hO1
      have HB1 := Lib.hid hB1
      have nw := Lib.hid (ct_news (w := w3) 54 x c)
      have hb3 := hB1.size
      have Hs1 := Lib.hid hs1
      have hzw : w.heap.size < w3.heap.size := by omega
      clear hW hW1 hO hO1 hB hB1 hg1 hat hkey hv ey hlx hs1
      go_wp2_with (first
        | (at_builtin; (refine wpList_append_cts rfl _ _ 32 rfl 54 i0 Tryz.underlying32 hi0 hz0 hz1 hz2 (w.heap.size + 1) _ l [(x, c)] rfl (HO1.out.alloc _) _ _ _ rfl ?r1 ?nl1 ?b1 ?bs1 ?_))
        | go_in)
      case r1 => exact ⟨rfl, fun _ => ⟨_, 0, rfl, by first | omega | (rw [World.size_alloc]; omega), fun j u hj => by have h := nw.out j u hj; rw [add_lit] at h; exact h⟩⟩
      case b1 => omega
      intro v4 w4 ho4 hg4
      have hne : ∀ k : Nat, k ≤ w.heap.size → some k ≠ Value.ownBlock _ := fun k hk e => by have := (HO1.out.lt k e.symm).1; omega
      have hrg4 := (hrg1.kept (World.grownBy_alloc _ _ none) (by simp) (by simp)).kept hg4 (hne b (by omega)) (hne w.heap.size (Nat.le_refl _))
      have hb4 := (HB1.out.alloc HB1.out.size _).grown hg4 (by rw [World.size_alloc]; omega) (fun j hj => by have := (HO1.out.lt j hj).1; omega)
      have hz4 := hb4.size
      have hz5 := hg4.size
      rw [World.size_alloc] at hz5
      have hm4 := hrg4.left_eq
      have hm0 := hrg.left_eq
      have Ho4 : Hid (w4.ownsRow (w.heap.size + 1) 54 2 v4 (l ++ [(x, c)]).length (ctC (l ++ [(x, c)]))) := Lib.hid (by rw [List.length_append, ctC_app]; exact ho4)
      have Hrg4 := Lib.hid hrg4
      have Hb4 := Lib.hid hb4
      clear ho4 hg4 hrg4 hb4 hne hrg1 hen
      go_wp2
      go_roundw
      case rel => exact ⟨_, cnt1, l ++ [(x, c)], Hrg4.out, by rw [List.length_append, List.length_singleton]; omega, HW1, Ho4, Hb4, by omega⟩
      case measure => rw [hm4, hm0]; exact hlt1
end Go.Proofs.YtjeahdnbpiahaaaGreat.Gr
end
