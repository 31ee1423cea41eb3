/- What the index' Prefix gathers: plain, and in memory (seat k). (No walk.) -/
import Derived.Sort.OwnSortedInts
import Derived.Test.YtioekhiaoajgfaaGreatMxPqPk
import Derived.Test.YtioekhiaoajgfaaGreatMxOPk
namespace Go.Proofs.YtioekhiaoajgfaaGreat.Mx
open Go.RowKit Go.Maps Go.Proofs.YtioekhiaoajgfaaGreat Go.Proofs.YtioekhiaoajgfaaGreat.Ut Go.Proofs.YtioekhiaoajgfaaGreat.Tk Go.Proofs.YtioekhiaoajgfaaGreat.Qy Go.Proofs.YtioekhiaoajgfaaGreat.Ev Go.Proofs.YtioekhiaoajgfaaGreat.Qp Go.Proofs.YtioekhiaoajgfaaGreat.Mv
set_option linter.unusedVariables false
set_option linter.unusedSimpArgs false
set_option maxRecDepth 20000

theorem postsT_mem (s : ByteArray) : ∀ (n : Nat) (ds : List (List Fl)), ds.length = n → ∀ p : Po, p ∈ postsT ds s ↔ ∃ h : p.1 < ds.length, posOf ds[p.1] s = some p.2
  | 0, ds, h, p => by
    obtain rfl := List.length_eq_zero_iff.1 h
    constructor
    · intro h; cases h
    · rintro ⟨h, _⟩; simp at h
  | n + 1, ds, h, p => by
    obtain ⟨dl, d, rfl⟩ : ∃ dl d, ds = dl ++ [d] := by
      rcases List.eq_nil_or_concat ds with h0 | ⟨dl, d, h0⟩
      · subst h0; simp at h
      · exact ⟨dl, d, by rw [h0, List.concat_eq_append]⟩
    have ih := postsT_mem s n dl (by simpa using h) p
    rw [postsT_snoc2, List.mem_append, ih]
    constructor
    · rintro (⟨h1, h2⟩ | h1)
      · exact ⟨by simp; omega, by rw [List.getElem_append_left h1]; exact h2⟩
      · cases hq : posOf d s with
        | none => rw [hq] at h1; cases h1
        | some q =>
          rw [hq] at h1
          simp only [oneP, List.mem_singleton] at h1
          subst h1
          exact ⟨by simp, by simpa using hq⟩
    · rintro ⟨h1, h2⟩
      by_cases hp : p.1 < dl.length
      · rw [List.getElem_append_left hp] at h2
        exact .inl ⟨hp, h2⟩
      · have he : p.1 = dl.length := by simp at h1; omega
        right
        have h3 : posOf d s = some p.2 := by
          have : (dl ++ [d])[p.1] = d := by simp [he]
          rw [this] at h2
          exact h2
        rw [h3]
        simp only [oneP, List.mem_singleton]
        rw [← he]
theorem postsT_up (s : ByteArray) : ∀ (n : Nat) (ds : List (List Fl)), ds.length = n → (postsT ds s).Pairwise (fun x y => x.1 < y.1)
  | 0, ds, h => by
    obtain rfl := List.length_eq_zero_iff.1 h
    exact List.Pairwise.nil
  | n + 1, ds, h => by
    obtain ⟨dl, d, rfl⟩ : ∃ dl d, ds = dl ++ [d] := by
      rcases List.eq_nil_or_concat ds with h0 | ⟨dl, d, h0⟩
      · subst h0; simp at h
      · exact ⟨dl, d, by rw [h0, List.concat_eq_append]⟩
    rw [postsT_snoc2, List.pairwise_append]
    refine ⟨postsT_up s n dl (by simpa using h), ?_, fun x hx y hy => ?_⟩
    · cases posOf d s <;> simp [oneP]
    · have h1 := postsT_lt dl s x hx
      cases hq : posOf d s with
      | none => rw [hq] at hy; cases hy
      | some q =>
        rw [hq] at hy
        simp only [oneP, List.mem_singleton] at hy
        subst hy
        exact h1
/-- What stands at a doc behind some terms. -/
def gk (b : ByteArray) (ds : List (List Fl)) (TT : List ByteArray) (i : Nat) : List Nat := match ds[i]? with
  | some fs => catP b fs TT
  | none => []
/-- .. and behind some posts of one term more. -/
def gj (b : ByteArray) (ds : List (List Fl)) (TT : List ByteArray) (s : ByteArray) (P : List Po) (i : Nat) : List Nat := if P.any (fun p => decide (p.1 = i)) = true then gk b ds (TT ++ [s]) i else gk b ds TT i
theorem gk_no {b : ByteArray} {ds : List (List Fl)} {TT : List ByteArray} {s : ByteArray} (h : begB s b = false) (i : Nat) : gk b ds (TT ++ [s]) i = gk b ds TT i := by
  unfold gk
  split
  · rw [catP_snoc, h]; simp
  · rfl
theorem gj_start (b : ByteArray) (ds : List (List Fl)) (TT : List ByteArray) (s : ByteArray) (i : Nat) : gj b ds TT s [] i = gk b ds TT i := by simp [gj]
theorem gj_all (b : ByteArray) (ds : List (List Fl)) (TT : List ByteArray) (s : ByteArray) (i : Nat) : gj b ds TT s (postsT ds s) i = gk b ds (TT ++ [s]) i := by
  unfold gj
  split
  · rfl
  · rename_i hn
    unfold gk
    cases hd : ds[i]? with
    | none => rfl
    | some fs =>
      obtain ⟨hi, rfl⟩ := List.getElem?_eq_some_iff.1 hd
      simp only
      rw [catP_snoc]
      have hq : posOf ds[i] s = none := by
        cases hq : posOf ds[i] s with
        | none => rfl
        | some q =>
          exfalso
          apply hn
          rw [List.any_eq_true]
          exact ⟨(i, q), (postsT_mem s _ ds rfl (i, q)).2 ⟨hi, hq⟩, by simp⟩
      rw [hq]
      simp
theorem gj_step {b : ByteArray} {ds : List (List Fl)} {TT : List ByteArray} {s : ByteArray} (hb : begB s b = true) {j : Nat} (hj : j < (postsT ds s).length) (i : Nat) : gj b ds TT s ((postsT ds s).take (j + 1)) i = if i = (postsT ds s)[j].1 then gj b ds TT s ((postsT ds s).take j) i ++ (postsT ds s)[j].2 else gj b ds TT s ((postsT ds s).take j) i := by
  have hm := (postsT_mem s _ ds rfl _).1 (List.getElem_mem hj)
  have hup := postsT_up s _ ds rfl
  rw [List.take_succ_eq_append_getElem hj]
  by_cases e : i = (postsT ds s)[j].1
  · rw [if_pos e]
    subst e
    have hy : ((postsT ds s).take j ++ [(postsT ds s)[j]]).any (fun p => decide (p.1 = (postsT ds s)[j].1)) = true := by
      rw [List.any_eq_true]; exact ⟨(postsT ds s)[j], List.mem_append_right _ (List.mem_singleton.2 rfl), by simp⟩
    have hn : ¬ ((postsT ds s).take j).any (fun p => decide (p.1 = (postsT ds s)[j].1)) = true := fun h => by
      obtain ⟨p, hp, e⟩ := List.any_eq_true.1 h
      have e := of_decide_eq_true e
      obtain ⟨k, hk, rfl⟩ := List.mem_iff_getElem.1 hp
      rw [List.length_take] at hk
      rw [List.getElem_take] at e
      have := List.pairwise_iff_getElem.1 hup k j (by omega) hj (by omega)
      omega
    unfold gj
    rw [if_pos hy, if_neg hn]
    obtain ⟨h1, h2⟩ := hm
    unfold gk
    rw [List.getElem?_eq_getElem h1]
    simp only
    rw [catP_snoc, hb, h2]
    rfl
  · rw [if_neg e]
    unfold gj
    have hEq : ((postsT ds s).take j ++ [(postsT ds s)[j]]).any (fun p => decide (p.1 = i)) = ((postsT ds s).take j).any (fun p => decide (p.1 = i)) := by
      rw [List.any_append]
      have : decide ((postsT ds s)[j].1 = i) = false := decide_eq_false (fun h => e h.symm)
      simp [this]
    rw [hEq]
theorem cat_len {b : ByteArray} {fs : List Fl} {TT : List ByteArray} (hn : TT.Nodup) : (catP b fs TT).length ≤ (raw fs).length := by
  have h := List.Nodup.length_le_of_subset (l₂ := (raw fs).map (·.2)) (catP_nd b fs TT hn) (fun x hx => by
    obtain ⟨s, _, _, hm⟩ := (catP_mem b fs TT x).1 hx
    exact List.mem_map.2 ⟨_, hm, rfl⟩)
  rwa [List.length_map] at h
theorem gk_len {b : ByteArray} {ds : List (List Fl)} {TT : List ByteArray} (hn : TT.Nodup) (hk : ∀ fs ∈ ds, chkE fs = 0) (i : Nat) : (gk b ds TT i).length ≤ 65536 := by
  unfold gk
  split
  · rename_i fs h
    obtain ⟨hi, rfl⟩ := List.getElem?_eq_some_iff.1 h
    exact Nat.le_trans (cat_len hn) (raw_len (hk _ (List.getElem_mem hi)))
  · exact Nat.zero_le _
/-- The map of rows, each its own. -/
structure AtM (w : World) (base Mm cn : Nat) (Fm : Int → Option Value) (g : Nat → List Nat) : Prop where
  mp : MapV Tryz.prog 3 litI w Mm cn Fm
  yes : ∀ i, g i ≠ [] → ∃ u, Fm (i : Int) = some u ∧ w.ownsRow base 3 1 u (g i).length (nC (g i))
  no : ∀ i : Nat, g i = [] → Fm (i : Int) = none
  apart : ∀ (i j : Nat) u u' b, i ≠ j → Fm (i : Int) = some u → Fm (j : Int) = some u' → u.ownBlock = some b → u'.ownBlock ≠ some b
section
variable {w w' w1 : World} {base Mm cn : Nat} {Fm : Int → Option Value} {g g' : Nat → List Nat}
theorem AtM.notM (h : AtM w base Mm cn Fm g) {T : TypeId} {b : Nat} (hb : Tg w T b) : b ≠ Mm := fun e => by
  subst e
  obtain ⟨es, ck, h1⟩ := h.mp.obj
  obtain ⟨cs, fr, h2⟩ := hb
  rw [h1] at h2
  injection h2 with h2
  cases h2
theorem AtM.congr (h : AtM w base Mm cn Fm g) (e : ∀ i, g i = g' i) : AtM w base Mm cn Fm g' := ⟨h.mp, fun i hi => by rw [← e] at hi ⊢; exact h.yes i hi, fun i hi => h.no i (by rw [e]; exact hi), h.apart⟩
theorem AtM.some_yes (h : AtM w base Mm cn Fm g) {i : Nat} {u : Value} (hu : Fm (i : Int) = some u) : g i ≠ [] ∧ w.ownsRow base 3 1 u (g i).length (nC (g i)) := by
  have hne : g i ≠ [] := fun e => by rw [h.no i e] at hu; cases hu
  obtain ⟨u', e, ho⟩ := h.yes i hne
  rw [hu] at e
  injection e with e
  subst e
  exact ⟨hne, ho⟩
/-- What turns no row, and not the map. -/
theorem AtM.same (h : AtM w base Mm cn Fm g) (hm : w'.heap[Mm]? = w.heap[Mm]?) (hk : ∀ b, Tg w 3 b → w'.heap[b]? = w.heap[b]?) : AtM w' base Mm cn Fm g :=
  ⟨h.mp.same hm, fun i hi => by
    obtain ⟨u, e, ho⟩ := h.yes i hi
    exact ⟨u, e, own_same ho (fun b hb => hk b (tg_own ho hb))⟩, h.no, h.apart⟩
theorem AtM.below (h : AtM w base Mm cn Fm g) (hb : Below w.heap.size w w') : AtM w' base Mm cn Fm g := h.same (hb.block Mm h.mp.lt) (fun b ht => hb.block b ht.lt)
theorem AtM.start (w : World) (base : Nat) : AtM (w.alloc (.map #[] 0)) base w.heap.size 0 (fun _ => none) (fun _ => []) :=
  ⟨MapV.made _ _ _ _, fun i h => absurd rfl h, fun i _ => rfl, fun i j u u' b _ h => (nomatch h)⟩
theorem AtM.row (h : AtM w base Mm cn Fm g) (d : Nat) : ∃ u, (Fm (d : Int)).getD (.slice none 0 0) = u ∧ (Fm (d : Int) = some u ∨ (Fm (d : Int) = none ∧ u = .slice none 0 0)) ∧ w.ownsRow base 3 1 u (g d).length (nC (g d)) := by
  by_cases e : g d = []
  · rw [h.no d e, e]
    exact ⟨_, rfl, .inr ⟨rfl, rfl⟩, World.ownsRow_nil _ _ _ _⟩
  · obtain ⟨u, h1, h2⟩ := h.yes d e
    rw [h1]
    exact ⟨u, rfl, .inl rfl, h2⟩
theorem AtM.put (h : AtM w base Mm cn Fm g) {d : Nat} {u u' : Value} {ps : List Nat} (hu : Fm (d : Int) = some u ∨ (Fm (d : Int) = none ∧ u = .slice none 0 0)) (hne : ps ≠ []) (hown : w.ownsRow base 3 1 u (g d).length (nC (g d))) (hg : w.grownBy w1 u.ownBlock) (ho : w1.ownsRow base 3 1 u' ((g d).length + ps.length) (nC (g d) ++ nC ps)) (hat : u'.ownBlock = u.ownBlock ∨ u'.ownBlock = some w.heap.size)
    (hgm : w1.grownBy w' (some Mm)) (hm : MapV Tryz.prog 3 litI w' Mm (cn + 1) (putV Fm (d : Int) u')) : AtM w' base Mm (cn + 1) (putV Fm (d : Int) u') (fun i => if i = d then g i ++ ps else g i) := by
  have kp : ∀ b, Tg w 3 b → u.ownBlock ≠ some b → w'.heap[b]? = w.heap[b]? := fun b ht hne => by
    have e1 : w1.heap[b]? = w.heap[b]? := hg.block b ht.lt (fun e => hne e.symm)
    refine (hgm.block b (by have := hg.size; have := ht.lt; omega) (fun e => ?_)).trans e1
    injection e with e
    exact h.notM ht e
  have oth : ∀ (t : Nat) r b, t ≠ d → Fm (t : Int) = some r → r.ownBlock = some b → u.ownBlock ≠ some b := fun t r b hne' ht hb e => by
    rcases hu with hu | ⟨_, rfl⟩
    · exact h.apart d t u r b (fun e => hne' e.symm) hu ht e hb
    · cases e
  have ho3 : w'.ownsRow base 3 1 u' ((g d).length + ps.length) (nC (g d) ++ nC ps) := own_same ho (fun b hb => by
    have ht := tg_own ho hb
    refine hgm.block b ht.lt (fun e => ?_)
    injection e with e
    subst e
    obtain ⟨es, ck, h1⟩ := h.mp.obj
    have e1 : w1.heap[b]? = w.heap[b]? := hg.block b h.mp.lt (fun e => h.notM (tg_own hown e.symm) rfl)
    obtain ⟨cs, fr, h2⟩ := ht
    rw [e1, h1] at h2
    injection h2 with h2
    cases h2)
  have nw : ∀ b, u'.ownBlock = some b → u.ownBlock = some b ∨ b = w.heap.size := fun b hb => by
    rcases hat with e | e
    · exact .inl (e ▸ hb)
    · rw [e] at hb; injection hb with hb; exact .inr hb.symm
  refine ⟨hm, fun i hi => ?_, fun i hi => ?_, fun i j r r' b hij hr hr' hb => ?_⟩
  · by_cases e : i = d
    · subst e
      refine ⟨u', by simp [putV], ?_⟩
      simp only [if_true]
      have e2 : nC (g i ++ ps) = nC (g i) ++ nC ps := by simp [nC]
      rw [List.length_append, e2]
      exact ho3
    · simp only [e, if_false] at hi ⊢
      obtain ⟨r, e1, hr⟩ := h.yes i hi
      refine ⟨r, by unfold putV; rw [if_neg (by omega)]; exact e1, own_same hr (fun b hb => kp b (tg_own hr hb) (oth i r b e e1 hb))⟩
  · by_cases e : i = d
    · subst e
      simp only [if_true] at hi
      exact absurd (List.append_eq_nil_iff.1 hi).2 hne
    · simp only [e, if_false] at hi
      unfold putV
      rw [if_neg (by omega)]
      exact h.no i hi
  · unfold putV at hr hr'
    by_cases e : i = d
    · have e' : j ≠ d := fun e2 => hij (by rw [e, e2])
      rw [if_pos (by omega)] at hr
      rw [if_neg (by omega)] at hr'
      injection hr with hr
      subst hr
      intro hb'
      rcases nw b hb with h1 | h1
      · exact oth j r' b e' hr' hb' h1
      · have := (tg_own (h.some_yes hr').2 hb').lt
        omega
    · rw [if_neg (by omega)] at hr
      by_cases e' : j = d
      · rw [if_pos (by omega)] at hr'
        injection hr' with hr'
        subst hr'
        intro hb'
        rcases nw b hb' with h1 | h1
        · exact oth i r b e hr hb h1
        · have := (tg_own (h.some_yes hr).2 hb).lt
          omega
      · rw [if_neg (by omega)] at hr'
        exact h.apart i j r r' b hij hr hr' hb
/-- A row is sorted where it stands. -/
theorem AtM.turn (h : AtM w base Mm cn Fm g) {d : Nat} {u : Value} {b0 : Nat} {l' : List Nat} (hu : Fm (d : Int) = some u) (hb0 : u.ownBlock = some b0) (hg : w.grownBy w' (some b0)) (ho : w'.ownsRow base 3 1 u l'.length (nC l')) (hne : l' ≠ []) : AtM w' base Mm cn Fm (fun i => if i = d then l' else g i) := by
  have hd := h.some_yes hu
  refine ⟨h.mp.same (hg.block Mm h.mp.lt (fun e => ?_)), fun i hi => ?_, fun i hi => ?_, h.apart⟩
  · injection e with e
    exact h.notM (tg_own hd.2 hb0) e.symm
  · by_cases e : i = d
    · subst e
      simp only [if_true]
      exact ⟨u, hu, ho⟩
    · simp only [e, if_false] at hi ⊢
      obtain ⟨r, e1, hr⟩ := h.yes i hi
      exact ⟨r, e1, own_same hr (fun b hb => hg.block b (tg_own hr hb).lt (fun e2 => by
        injection e2 with e2
        subst e2
        exact h.apart i d r u b e e1 hu hb hb0))⟩
  · by_cases e : i = d
    · simp only [e, if_true] at hi
      exact absurd hi hne
    · simp only [e, if_false] at hi
      exact h.no i hi
end
end Go.Proofs.YtioekhiaoajgfaaGreat.Mx
