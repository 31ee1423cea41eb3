/- What event.Terms makes of its sorted terms, in memory. (No walk.) -/
import Derived.Laws.Rows
import Derived.Test.YtdloacfoegjnmaaGreatPkGroupIndexesRow17
namespace Go.Proofs.YtdloacfoegjnmaaGreat.Ev
open Go.RowKit Go.Shelf Go.Proofs.YtdloacfoegjnmaaGreat Go.Proofs.YtdloacfoegjnmaaGreat.Ut Go.Proofs.YtdloacfoegjnmaaGreat.Tk Go.Proofs.YtdloacfoegjnmaaGreat.Qy Go.Proofs.YtdloacfoegjnmaaGreat.Qp
set_option linter.unusedSimpArgs false
set_option linter.unusedVariables false
set_option maxRecDepth 20000

/-- A cell of a row of the call's own is set anew. -/
theorem own_set {w : World} {base k n g c : Nat} {T : TypeId} {xs : List Value} (h : w.ownsRow base T k (.slice (some ⟨g, 0, none⟩) n c) n xs) (j : Nat) (hj : j < xs.length) (u : Value) : (w.setCell ⟨g, j, none⟩ u).ownsRow base T k (.slice (some ⟨g, 0, none⟩) n c) n (xs.set j u) := by
  obtain ⟨h1, h2⟩ := h
  refine ⟨by rw [List.length_set]; exact h1, ?_⟩
  rcases h2 with ⟨e, _⟩ | ⟨g', cap, cur, e, hb, hh, hn, hc, hs, ht⟩
  · cases e
  · injection e with e1 e2 e3
    injection e1 with e1
    injection e1 with e1
    subst e1 e3
    refine .inr ⟨g, c, cur.setIfInBounds j u, rfl, hb, Go.heap_setCell_same w g j cur T u hh, hn, hc, by simpa using hs, ?_⟩
    rw [← ht, Array.toList_setIfInBounds, List.take_set]
theorem own_below {w w' : World} {base k n : Nat} {T : TypeId} {v : Value} {xs : List Value} (h : w.ownsRow base T k v n xs) (hb : Below w.heap.size w w') : w'.ownsRow base T k v n xs :=
  h.kept (grow_of_below hb none) (by cases hv : v.ownBlock <;> simp)
/-- Numbers, as cells. -/
def nC (l : List Nat) : List Value := l.map fun n => .int .i64 (n : Nat)
theorem nC_len (l : List Nat) : (nC l).length = l.length := by simp [nC]
theorem nC_snoc (l : List Nat) (n : Nat) : nC (l ++ [n]) = nC l ++ [.int .i64 (n : Nat)] := by simp [nC]
/-- A term of the result: its text, its row of places, the places. -/
abbrev Tr := ByteArray × Value × List Nat
def encO (x : Tr) : List Value := [.string x.1, x.2.1]
theorem encO_len (l : List Tr) : (l.flatMap encO).length = l.length * 2 := by
  induction l with
  | nil => rfl
  | cons x l ih => rw [List.flatMap_cons, List.length_append, ih, List.length_cons]; simp [encO]; omega
/-- On the way through the sorted terms. -/
structure MS (w W : World) (n0 n2 g cg : Nat) (m : List El) (i : Nat) (v8 : Value) (O : List Tr) : Prop where
  bel : Below n0 w W
  n2W : n2 ≤ W.heap.size
  n0n2 : n0 ≤ n2
  row : W.ownsRow n0 70 2 (.slice (some ⟨g, 0, none⟩) m.length cg) m.length (m.flatMap encE)
  gl : g < n2
  out : W.ownsRow n2 70 2 v8 O.length (O.flatMap encO)
  own : ∀ x ∈ O, W.ownsRow n0 3 1 x.2.1 x.2.2.length (nC x.2.2) ∧ x.2.2 ≠ []
  rest : ∀ y ∈ m.drop i, n0 ≤ y.b ∧ W.heap[y.b]? = some (.cells #[.int .i64 (y.p : Nat)] 3 (0, 0))
  apart : O.Pairwise (fun x y => x.2.1.ownBlock ≠ y.2.1.ownBlock)
  far : ∀ x ∈ O, ∀ y ∈ m.drop i, x.2.1.ownBlock ≠ some y.b
  ndb : (m.drop i).Pairwise (fun x y => x.b ≠ y.b)
  is : O.map (fun x => (x.1, x.2.2)) = ((m.take i).map t1).foldl mrg []
section
variable {w W : World} {n0 n2 g cg : Nat} {m : List El} {i : Nat} {v8 : Value} {O : List Tr}
theorem MS.n0W (h : MS w W n0 n2 g cg m i v8 O) : n0 ≤ W.heap.size := Nat.le_trans h.n0n2 h.n2W
theorem MS.below {W' : World} (h : MS w W n0 n2 g cg m i v8 O) (hb : Below W.heap.size W W') : MS w W' n0 n2 g cg m i v8 O :=
  ⟨h.bel.trans (hb.mono h.n0W), Nat.le_trans h.n2W hb.size, h.n0n2, own_below h.row hb, h.gl, own_below h.out hb,
    fun x hx => ⟨own_below (h.own x hx).1 hb, (h.own x hx).2⟩, fun y hy => ⟨(h.rest y hy).1, (hb.block _ (Array.getElem?_eq_some_iff.1 (h.rest y hy).2).1).trans (h.rest y hy).2⟩, h.apart, h.far, h.ndb, h.is⟩
/-- The row of one term's places is not nil. -/
theorem own_some {W : World} {base k n : Nat} {T : TypeId} {v : Value} {xs : List Value} (h : W.ownsRow base T k v n xs) (hn : 0 < n) : ∃ b c, v = .slice (some ⟨b, 0, none⟩) n c ∧ v.ownBlock = some b ∧ base ≤ b ∧ Tg W T b := by
  rcases h.2 with ⟨_, h0⟩ | ⟨b, cap, cur, rfl, hb, hh, _⟩
  · omega
  · exact ⟨b, cap, rfl, rfl, hb, cur, _, hh⟩
theorem drop_at2 {α : Type} {l : List α} {i : Nat} (hi : i < l.length) : l.drop i = l[i] :: l.drop (i + 1) := List.drop_eq_getElem_cons hi
theorem fold_at (m : List El) (i : Nat) (hi : i < m.length) : ((m.take (i + 1)).map t1).foldl mrg [] = mrg (((m.take i).map t1).foldl mrg []) (t1 m[i]) := by
  have e : (m.take (i + 1)).map t1 = (m.take i).map t1 ++ [t1 m[i]] := by rw [List.take_succ_eq_append_getElem hi, List.map_append]; rfl
  rw [e, List.foldl_append]
  rfl
theorem mrg_len1 (l : List Tm) (x : T1) : (mrg l x).length ≤ l.length + 1 := by
  unfold mrg
  cases e : l.getLast? with
  | none => simp
  | some y =>
    simp only
    split
    · simp
    · simp
theorem mrg_len (L : List T1) : (L.foldl mrg []).length ≤ L.length := by
  have go : ∀ (L : List T1) (l : List Tm), (L.foldl mrg l).length ≤ l.length + L.length := by
    intro L
    induction L with
    | nil => intro l; simp
    | cons x L ih =>
      intro l
      have h1 := ih (mrg l x)
      have h2 := mrg_len1 l x
      rw [List.foldl_cons, List.length_cons]
      omega
  have := go L []
  simpa using this
theorem mrg_pos1 {l : List Tm} {x : T1} {N : Nat} (h : ∀ y ∈ l, y.2.length ≤ N) : ∀ y ∈ mrg l x, y.2.length ≤ N + 1 := by
  intro y hy
  unfold mrg at hy
  cases e : l.getLast? with
  | none =>
    rw [e] at hy
    simp only [List.mem_append, List.mem_singleton] at hy
    rcases hy with hy | rfl
    · have := h y hy; omega
    · simp
  | some z =>
    rw [e] at hy
    have hz := h z (List.mem_of_getLast? e)
    simp only at hy
    split at hy
    · rcases List.mem_append.1 hy with hy | hy
      · have := h y ((List.dropLast_sublist l).mem hy); omega
      · rw [List.mem_singleton] at hy
        subst hy
        simp only [List.length_append, List.length_cons, List.length_nil]
        omega
    · rcases List.mem_append.1 hy with hy | hy
      · have := h y hy; omega
      · rw [List.mem_singleton] at hy
        subst hy
        simp
theorem mrg_pos (L : List T1) : ∀ y ∈ L.foldl mrg [], y.2.length ≤ L.length := by
  have go : ∀ (L : List T1) (l : List Tm) (N : Nat), (∀ y ∈ l, y.2.length ≤ N) → ∀ y ∈ L.foldl mrg l, y.2.length ≤ N + L.length := by
    intro L
    induction L with
    | nil => intro l N h y hy; simpa using h y hy
    | cons x L ih =>
      intro l N h y hy
      have := ih (mrg l x) (N + 1) (mrg_pos1 h) y hy
      rw [List.length_cons]
      omega
  intro y hy
  have := go L [] 0 (fun y hy => (nomatch hy)) y hy
  omega
/-- A term more. -/
theorem MS.more {W3 : World} {v8' : Value} (h : MS w W n0 n2 g cg m i v8 O) (hi : i < m.length) (hne : ∀ y, O.getLast? = some y → y.1 ≠ m[i].s)
    (hg : W.grownBy W3 v8.ownBlock) (hown : W3.ownsRow n2 70 2 v8' (O.length + 1) (O.flatMap encO ++ [.string m[i].s, .slice (some ⟨m[i].b, 0, none⟩) 1 1])) :
    MS w W3 n0 n2 g cg m (i + 1) v8' (O ++ [(m[i].s, .slice (some ⟨m[i].b, 0, none⟩) 1 1, [m[i].p])]) := by
  have hv8 : ∀ b, v8.ownBlock = some b → n2 ≤ b ∧ Tg W 70 b := fun b e => ⟨(h.out.lt b e).1, tg_own h.out e⟩
  have hd := drop_at2 hi
  have hr := h.rest
  have hf := h.far
  have hn := h.ndb
  rw [hd] at hr hf hn
  have keep : ∀ b, Tg W 3 b → W3.heap[b]? = W.heap[b]? := fun b hb => hg.block b hb.lt (fun e => by
    have := (hv8 b e.symm).2.one hb
    exact absurd this (by decide))
  have kint : ∀ {base n : Nat} {v : Value} {xs : List Value}, W.ownsRow base 3 1 v n xs → W3.ownsRow base 3 1 v n xs := fun {base n v xs} ho => ho.kept hg (by
    cases hv : v.ownBlock with
    | none => exact .inl rfl
    | some b => exact .inr (fun e => by
        have := (hv8 b e.symm).2.one (tg_own ho hv)
        exact absurd this (by decide)))
  have hrest : ∀ y ∈ m.drop i, n0 ≤ y.b ∧ W3.heap[y.b]? = some (.cells #[.int .i64 (y.p : Nat)] 3 (0, 0)) := fun y hy => ⟨(h.rest y hy).1, (keep y.b ⟨_, _, (h.rest y hy).2⟩).trans (h.rest y hy).2⟩
  have h0 := hr m[i] (List.mem_cons_self ..)
  obtain ⟨hn1, hn2⟩ := List.pairwise_cons.1 hn
  refine ⟨h.bel.trans ((Below.refl n0 W).grown hg h.n0W (fun b e => Nat.le_trans h.n0n2 (hv8 b e).1)), Nat.le_trans h.n2W hg.size, h.n0n2, ?_, h.gl, ?_, fun x hx => ?_, fun y hy => ?_, ?_, fun x hx y hy => ?_, hn2, ?_⟩
  · refine h.row.kept hg (.inr (fun e => ?_))
    have := (hv8 g e.symm).1
    have := h.gl
    omega
  · rw [List.flatMap_append, List.length_append]
    simpa [encO] using hown
  · rcases List.mem_append.1 hx with hx | hx
    · exact ⟨kint (h.own x hx).1, (h.own x hx).2⟩
    · rw [List.mem_singleton] at hx
      subst hx
      refine ⟨⟨rfl, .inr ⟨m[i].b, 1, _, rfl, h0.1, (hrest m[i] (by rw [hd]; exact List.mem_cons_self ..)).2, Nat.le_refl _, by unfold maxLen; omega, rfl, rfl⟩⟩, by simp⟩
  · exact hrest y (by rw [hd]; exact List.mem_cons_of_mem _ hy)
  · refine List.pairwise_append.2 ⟨h.apart, List.pairwise_singleton _ _, fun x hx y hy => ?_⟩
    rw [List.mem_singleton] at hy
    subst hy
    exact hf x hx m[i] (List.mem_cons_self ..)
  · rcases List.mem_append.1 hx with hx | hx
    · exact hf x hx y (List.mem_cons_of_mem _ hy)
    · rw [List.mem_singleton] at hx
      subst hx
      intro e
      have e2 : m[i].b = y.b := by simpa [Value.ownBlock] using e
      exact hn1 y hy e2
  · rw [fold_at m i hi, ← h.is, List.map_append]
    unfold mrg
    cases e : (List.map (fun x : Tr => (x.1, x.2.2)) O).getLast? with
    | none => rfl
    | some y =>
      rw [List.getLast?_map] at e
      obtain ⟨z, hz, rfl⟩ := Option.map_eq_some_iff.1 e
      have := hne z hz
      have h2 : ¬ (z.1 = (t1 m[i]).1) := this
      simp only [h2, if_false]
      rfl
/-- A place more of the last term. -/
theorem MS.again {W3 : World} {v' : Value} {O' : List Tr} {x : Tr} {gv cv : Nat} (h : MS w W n0 n2 g cg m i (.slice (some ⟨gv, 0, none⟩) (O' ++ [x]).length cv) (O' ++ [x])) (hi : i < m.length) (he : x.1 = m[i].s)
    (hg : W.grownBy W3 x.2.1.ownBlock) (hown : W3.ownsRow n0 3 1 v' (x.2.2.length + 1) (nC x.2.2 ++ [.int .i64 (m[i].p : Nat)])) (hat : v'.ownBlock = x.2.1.ownBlock ∨ v'.ownBlock = some W.heap.size) :
    MS w (W3.setCell ⟨gv, O'.length * 2 + 1, none⟩ v') n0 n2 g cg m (i + 1) (.slice (some ⟨gv, 0, none⟩) (O' ++ [(x.1, v', x.2.2 ++ [m[i].p])]).length cv) (O' ++ [(x.1, v', x.2.2 ++ [m[i].p])]) := by
  have hx := h.own x (by simp)
  obtain ⟨xb, xc, hxv, hxo, hxb, hxt⟩ := own_some hx.1 (List.length_pos_iff.2 hx.2)
  rw [hxo] at hg hat
  have hd := drop_at2 hi
  have hr := h.rest
  have hf := h.far
  have hn := h.ndb
  rw [hd] at hr hf hn
  obtain ⟨hn1, hn2⟩ := List.pairwise_cons.1 hn
  have hap := List.pairwise_append.1 h.apart
  have hgv : Tg W 70 gv := tg_own h.out rfl
  have hgv2 : n2 ≤ gv := (h.out.lt gv rfl).1
  have kterm : ∀ {base k n : Nat} {v : Value} {xs : List Value}, W.ownsRow base 70 k v n xs → W3.ownsRow base 70 k v n xs := fun {base k n v xs} ho => ho.kept hg (by
    cases hv : v.ownBlock with
    | none => exact .inl rfl
    | some b => exact .inr (fun e => by
        injection e with e
        subst e
        have := (tg_own ho hv).one hxt
        exact absurd this (by decide)))
  have gs := grownBy_setC W3 gv (O'.length * 2 + 1) v'
  have hout3 := kterm h.out
  have hgv3 : Tg W3 70 gv := tg_own hout3 rfl
  have kint : ∀ {base k n : Nat} {v : Value} {xs : List Value}, W3.ownsRow base 3 k v n xs → (W3.setCell ⟨gv, O'.length * 2 + 1, none⟩ v').ownsRow base 3 k v n xs := fun {base k n v xs} ho => ho.kept gs (by
    cases hv : v.ownBlock with
    | none => exact .inl rfl
    | some b => exact .inr (fun e => by
        injection e with e
        subst e
        have := (tg_own ho hv).one hgv3
        exact absurd this (by decide)))
  have keep : ∀ b, b < W.heap.size → b ≠ xb → Tg W 3 b → (W3.setCell ⟨gv, O'.length * 2 + 1, none⟩ v').heap[b]? = W.heap[b]? := fun b hb hne ht => by
    have e1 : W3.heap[b]? = W.heap[b]? := hg.block b hb (fun e => hne (by injection e))
    refine (gs.block b (by have := hg.size; omega) (fun e => ?_)).trans e1
    injection e with e
    subst e
    exact absurd (ht.one hgv) (by decide)
  have hset := own_set hout3 (O'.length * 2 + 1) (by rw [encO_len, List.length_append]; simp; omega) v'
  have hcells : ((O' ++ [x]).flatMap encO).set (O'.length * 2 + 1) v' = (O' ++ [(x.1, v', x.2.2 ++ [m[i].p])]).flatMap encO := by
    rw [List.flatMap_append, List.flatMap_append, List.set_append_right _ _ (by rw [encO_len]; omega), encO_len]
    have : O'.length * 2 + 1 - O'.length * 2 = 1 := by omega
    rw [this]
    rfl
  rw [hcells] at hset
  have hlen : (O' ++ [x]).length = (O' ++ [(x.1, v', x.2.2 ++ [m[i].p])]).length := by simp
  rw [hlen] at hset
  have hnew : ∀ b, v'.ownBlock = some b → b = xb ∨ b = W.heap.size := fun b e => by
    rcases hat with a | a <;> rw [e] at a <;> injection a with a
    · exact .inl a
    · exact .inr a
  obtain ⟨nb, nc, hnv, hno, hnb, hnt⟩ := own_some hown (Nat.succ_pos _)
  refine ⟨?_, ?_, h.n0n2, ?_, h.gl, hset, fun z hz => ?_, fun y hy => ?_, ?_, fun z hz y hy => ?_, hn2, ?_⟩
  · refine (h.bel.trans ((Below.refl n0 W).grown hg h.n0W (fun b e => ?_))).setCell (p := ⟨gv, O'.length * 2 + 1, none⟩) (Nat.le_trans h.n0n2 hgv2) v'
    injection e with e
    omega
  · have := hg.size; have := gs.size; have := h.n2W; omega
  · refine (kterm h.row).kept gs (.inr (fun e => ?_))
    have e2 : g = gv := by simpa [Value.ownBlock] using e
    have := h.gl
    omega
  · rcases List.mem_append.1 hz with hz | hz
    · have ho := h.own z (List.mem_append.2 (.inl hz))
      refine ⟨kint (ho.1.kept hg ?_), ho.2⟩
      refine .inr (fun e => ?_)
      have := hap.2.2 z hz x (by simp)
      rw [hxo] at this
      exact this e
    · rw [List.mem_singleton] at hz
      subst hz
      refine ⟨kint ?_, by simp⟩
      rw [nC_snoc, List.length_append]
      exact hown
  · have hy2 := hr y (List.mem_cons_of_mem _ hy)
    refine ⟨hy2.1, (keep y.b (Array.getElem?_eq_some_iff.1 hy2.2).1 (fun e => ?_) ⟨_, _, hy2.2⟩).trans hy2.2⟩
    have := hf x (by simp) y (List.mem_cons_of_mem _ hy)
    rw [hxo] at this
    exact this (by rw [e])
  · refine List.pairwise_append.2 ⟨hap.1, List.pairwise_singleton _ _, fun z hz y hy => ?_⟩
    rw [List.mem_singleton] at hy
    subst hy
    show z.2.1.ownBlock ≠ v'.ownBlock
    intro e
    rcases hnew nb hno with e2 | e2
    · have := hap.2.2 z hz x (by simp)
      rw [hxo, ← e2, ← hno] at this
      exact this e
    · have := ((h.own z (List.mem_append.2 (.inl hz))).1.lt nb (e.trans hno)).2
      omega
  · rcases List.mem_append.1 hz with hz | hz
    · exact hf z (List.mem_append.2 (.inl hz)) y (List.mem_cons_of_mem _ hy)
    · rw [List.mem_singleton] at hz
      subst hz
      show v'.ownBlock ≠ some y.b
      intro e
      have hy2 := hr y (List.mem_cons_of_mem _ hy)
      rcases hnew y.b e with e2 | e2
      · have := hf x (by simp) y (List.mem_cons_of_mem _ hy)
        rw [hxo] at this
        exact this (by rw [e2])
      · have := (Array.getElem?_eq_some_iff.1 hy2.2).1
        omega
  · rw [fold_at m i hi, ← h.is]
    unfold mrg
    rw [List.map_append, List.map_append]
    simp only [List.map_cons, List.map_nil, List.getLast?_append, List.getLast?_singleton, Option.some_or, List.dropLast_concat]
    have h2 : x.1 = (t1 m[i]).1 := he
    simp only [h2, if_true]
    rfl
end
end Go.Proofs.YtdloacfoegjnmaaGreat.Ev
