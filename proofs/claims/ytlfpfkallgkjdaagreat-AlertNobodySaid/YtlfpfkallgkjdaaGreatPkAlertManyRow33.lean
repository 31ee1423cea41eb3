/- What event.Terms makes of its sorted terms, in memory. (No walk.) -/
import Derived.Laws.Rows
import Derived.Maps.AppendAt
import Derived.Test.YtlfpfkallgkjdaaGreatPkAlertManyRow32
import Derived.Test.YtlfpfkallgkjdaaGreatPkAlertManyRow11
section
namespace Go.Proofs.YtlfpfkallgkjdaaGreat.Ev
open Go.RowKit Go.Shelf Go.Proofs.YtlfpfkallgkjdaaGreat Go.Proofs.YtlfpfkallgkjdaaGreat.Ut Go.Proofs.YtlfpfkallgkjdaaGreat.Tk Go.Proofs.YtlfpfkallgkjdaaGreat.Qy Go.Proofs.YtlfpfkallgkjdaaGreat.Qp
set_option linter.unusedSimpArgs false
set_option linter.unusedVariables false
set_option maxRecDepth 20000

/-- A cell of a row of the call's own is set anew. -/
theorem own_set {w : World} {base k n g c : Nat} {T : TypeId} {xs : List Value} (h : w.ownsRow base T k (.slice (some ⟨g, 0, none⟩) n c) n xs) (j : Nat) (hj : j < xs.length) (u : Value) : (w.setCell ⟨g, j, none⟩ u).ownsRow base T k (.slice (some ⟨g, 0, none⟩) n c) n (xs.set j u) := by
  obtain ⟨h1, h2⟩ := h
  refine ⟨by rw [List.length_set]; exact h1, ?_⟩
  rcases h2 with ⟨e, _⟩ | ⟨g', cap, cur, e, hb, hh, hn, hc, hs, ht⟩
  · cases e
  · injection e with e1 e2 e3
    injection e1 with e1
    injection e1 with e1
    subst e1 e3
    refine .inr ⟨g, c, cur.setIfInBounds j u, rfl, hb, Go.heap_setCell_same w g j cur T u hh, hn, hc, by simpa using hs, ?_⟩
    rw [← ht, Array.toList_setIfInBounds, List.take_set]
theorem own_below {w w' : World} {base k n : Nat} {T : TypeId} {v : Value} {xs : List Value} (h : w.ownsRow base T k v n xs) (hb : Below w.heap.size w w') : w'.ownsRow base T k v n xs :=
  h.kept (grow_of_below hb none) (by cases hv : v.ownBlock <;> simp)
/-- Numbers, as cells. -/
def nC (l : List Nat) : List Value := l.map fun n => .int .i64 (n : Nat)
theorem nC_len (l : List Nat) : (nC l).length = l.length := by simp [nC]
theorem nC_snoc (l : List Nat) (n : Nat) : nC (l ++ [n]) = nC l ++ [.int .i64 (n : Nat)] := by simp [nC]
/-- A term of the result: its text, its row of places, the places. -/
abbrev Tr := ByteArray × Value × List Nat
def encO (x : Tr) : List Value := [.string x.1, x.2.1]
theorem encO_len (l : List Tr) : (l.flatMap encO).length = l.length * 2 := by
  induction l with
  | nil => rfl
  | cons x l ih => rw [List.flatMap_cons, List.length_append, ih, List.length_cons]; simp [encO]; omega
/-- On the way through the sorted terms. -/
structure MS (w W : World) (n0 n2 g cg : Nat) (m : List El) (i : Nat) (v8 : Value) (O : List Tr) : Prop where
  bel : Below n0 w W
  n2W : n2 ≤ W.heap.size
  n0n2 : n0 ≤ n2
  row : W.ownsRow n0 105 2 (.slice (some ⟨g, 0, none⟩) m.length cg) m.length (m.flatMap encE)
  gl : g < n2
  out : W.ownsRow n2 105 2 v8 O.length (O.flatMap encO)
  own : ∀ x ∈ O, W.ownsRow n0 3 1 x.2.1 x.2.2.length (nC x.2.2) ∧ x.2.2 ≠ []
  rest : ∀ y ∈ m.drop i, n0 ≤ y.b ∧ W.heap[y.b]? = some (.cells #[.int .i64 (y.p : Nat)] 3 (0, 0))
  apart : O.Pairwise (fun x y => x.2.1.ownBlock ≠ y.2.1.ownBlock)
  far : ∀ x ∈ O, ∀ y ∈ m.drop i, x.2.1.ownBlock ≠ some y.b
  ndb : (m.drop i).Pairwise (fun x y => x.b ≠ y.b)
  is : O.map (fun x => (x.1, x.2.2)) = ((m.take i).map t1).foldl mrg []
section
variable {w W : World} {n0 n2 g cg : Nat} {m : List El} {i : Nat} {v8 : Value} {O : List Tr}
theorem MS.n0W (h : MS w W n0 n2 g cg m i v8 O) : n0 ≤ W.heap.size := Nat.le_trans h.n0n2 h.n2W
theorem MS.below {W' : World} (h : MS w W n0 n2 g cg m i v8 O) (hb : Below W.heap.size W W') : MS w W' n0 n2 g cg m i v8 O :=
  ⟨h.bel.trans (hb.mono h.n0W), Nat.le_trans h.n2W hb.size, h.n0n2, own_below h.row hb, h.gl, own_below h.out hb,
    fun x hx => ⟨own_below (h.own x hx).1 hb, (h.own x hx).2⟩, fun y hy => ⟨(h.rest y hy).1, (hb.block _ (Array.getElem?_eq_some_iff.1 (h.rest y hy).2).1).trans (h.rest y hy).2⟩, h.apart, h.far, h.ndb, h.is⟩
/-- The row of one term's places is not nil. -/
theorem own_some {W : World} {base k n : Nat} {T : TypeId} {v : Value} {xs : List Value} (h : W.ownsRow base T k v n xs) (hn : 0 < n) : ∃ b c, v = .slice (some ⟨b, 0, none⟩) n c ∧ v.ownBlock = some b ∧ base ≤ b ∧ Tg W T b := by
  rcases h.2 with ⟨_, h0⟩ | ⟨b, cap, cur, rfl, hb, hh, _⟩
  · omega
  · exact ⟨b, cap, rfl, rfl, hb, cur, _, hh⟩
theorem drop_at2 {α : Type} {l : List α} {i : Nat} (hi : i < l.length) : l.drop i = l[i] :: l.drop (i + 1) := List.drop_eq_getElem_cons hi
theorem fold_at (m : List El) (i : Nat) (hi : i < m.length) : ((m.take (i + 1)).map t1).foldl mrg [] = mrg (((m.take i).map t1).foldl mrg []) (t1 m[i]) := by
  have e : (m.take (i + 1)).map t1 = (m.take i).map t1 ++ [t1 m[i]] := by rw [List.take_succ_eq_append_getElem hi, List.map_append]; rfl
  rw [e, List.foldl_append]
  rfl
theorem mrg_len1 (l : List Tm) (x : T1) : (mrg l x).length ≤ l.length + 1 := by
  unfold mrg
  cases e : l.getLast? with
  | none => simp
  | some y =>
    simp only
    split
    · simp
    · simp
theorem mrg_len (L : List T1) : (L.foldl mrg []).length ≤ L.length := by
  have go : ∀ (L : List T1) (l : List Tm), (L.foldl mrg l).length ≤ l.length + L.length := by
    intro L
    induction L with
    | nil => intro l; simp
    | cons x L ih =>
      intro l
      have h1 := ih (mrg l x)
      have h2 := mrg_len1 l x
      rw [List.foldl_cons, List.length_cons]
      omega
  have := go L []
  simpa using this
theorem mrg_pos1 {l : List Tm} {x : T1} {N : Nat} (h : ∀ y ∈ l, y.2.length ≤ N) : ∀ y ∈ mrg l x, y.2.length ≤ N + 1 := by
  intro y hy
  unfold mrg at hy
  cases e : l.getLast? with
  | none =>
    rw [e] at hy
    simp only [List.mem_append, List.mem_singleton] at hy
    rcases hy with hy | rfl
    · have := h y hy; omega
    · simp
  | some z =>
    rw [e] at hy
    have hz := h z (List.mem_of_getLast? e)
    simp only at hy
    split at hy
    · rcases List.mem_append.1 hy with hy | hy
      · have := h y ((List.dropLast_sublist l).mem hy); omega
      · rw [List.mem_singleton] at hy
        subst hy
        simp only [List.length_append, List.length_cons, List.length_nil]
        omega
    · rcases List.mem_append.1 hy with hy | hy
      · have := h y hy; omega
      · rw [List.mem_singleton] at hy
        subst hy
        simp
theorem mrg_pos (L : List T1) : ∀ y ∈ L.foldl mrg [], y.2.length ≤ L.length := by
  have go : ∀ (L : List T1) (l : List Tm) (N : Nat), (∀ y ∈ l, y.2.length ≤ N) → ∀ y ∈ L.foldl mrg l, y.2.length ≤ N + L.length := by
    intro L
    induction L with
    | nil => intro l N h y hy; simpa using h y hy
    | cons x L ih =>
      intro l N h y hy
      have := ih (mrg l x) (N + 1) (mrg_pos1 h) y hy
      rw [List.length_cons]
      omega
  intro y hy
  have := go L [] 0 (fun y hy => (nomatch hy)) y hy
  omega
/-- A term more. -/
theorem MS.more {W3 : World} {v8' : Value} (h : MS w W n0 n2 g cg m i v8 O) (hi : i < m.length) (hne : ∀ y, O.getLast? = some y → y.1 ≠ m[i].s)
    (hg : W.grownBy W3 v8.ownBlock) (hown : W3.ownsRow n2 105 2 v8' (O.length + 1) (O.flatMap encO ++ [.string m[i].s, .slice (some ⟨m[i].b, 0, none⟩) 1 1])) :
    MS w W3 n0 n2 g cg m (i + 1) v8' (O ++ [(m[i].s, .slice (some ⟨m[i].b, 0, none⟩) 1 1, [m[i].p])]) := by
  have hv8 : ∀ b, v8.ownBlock = some b → n2 ≤ b ∧ Tg W 105 b := fun b e => ⟨(h.out.lt b e).1, tg_own h.out e⟩
  have hd := drop_at2 hi
  have hr := h.rest
  have hf := h.far
  have hn := h.ndb
  rw [hd] at hr hf hn
  have keep : ∀ b, Tg W 3 b → W3.heap[b]? = W.heap[b]? := fun b hb => hg.block b hb.lt (fun e => by
    have := (hv8 b e.symm).2.one hb
    exact absurd this (by decide))
  have kint : ∀ {base n : Nat} {v : Value} {xs : List Value}, W.ownsRow base 3 1 v n xs → W3.ownsRow base 3 1 v n xs := fun {base n v xs} ho => ho.kept hg (by
    cases hv : v.ownBlock with
    | none => exact .inl rfl
    | some b => exact .inr (fun e => by
        have := (hv8 b e.symm).2.one (tg_own ho hv)
        exact absurd this (by decide)))
  have hrest : ∀ y ∈ m.drop i, n0 ≤ y.b ∧ W3.heap[y.b]? = some (.cells #[.int .i64 (y.p : Nat)] 3 (0, 0)) := fun y hy => ⟨(h.rest y hy).1, (keep y.b ⟨_, _, (h.rest y hy).2⟩).trans (h.rest y hy).2⟩
  have h0 := hr m[i] (List.mem_cons_self ..)
  obtain ⟨hn1, hn2⟩ := List.pairwise_cons.1 hn
  refine ⟨h.bel.trans ((Below.refl n0 W).grown hg h.n0W (fun b e => Nat.le_trans h.n0n2 (hv8 b e).1)), Nat.le_trans h.n2W hg.size, h.n0n2, ?_, h.gl, ?_, fun x hx => ?_, fun y hy => ?_, ?_, fun x hx y hy => ?_, hn2, ?_⟩
  · refine h.row.kept hg (.inr (fun e => ?_))
    have := (hv8 g e.symm).1
    have := h.gl
    omega
  · rw [List.flatMap_append, List.length_append]
    simpa [encO] using hown
  · rcases List.mem_append.1 hx with hx | hx
    · exact ⟨kint (h.own x hx).1, (h.own x hx).2⟩
    · rw [List.mem_singleton] at hx
      subst hx
      refine ⟨⟨rfl, .inr ⟨m[i].b, 1, _, rfl, h0.1, (hrest m[i] (by rw [hd]; exact List.mem_cons_self ..)).2, Nat.le_refl _, by unfold maxLen; omega, rfl, rfl⟩⟩, by simp⟩
  · exact hrest y (by rw [hd]; exact List.mem_cons_of_mem _ hy)
  · refine List.pairwise_append.2 ⟨h.apart, List.pairwise_singleton _ _, fun x hx y hy => ?_⟩
    rw [List.mem_singleton] at hy
    subst hy
    exact hf x hx m[i] (List.mem_cons_self ..)
  · rcases List.mem_append.1 hx with hx | hx
    · exact hf x hx y (List.mem_cons_of_mem _ hy)
    · rw [List.mem_singleton] at hx
      subst hx
      intro e
      have e2 : m[i].b = y.b := by simpa [Value.ownBlock] using e
      exact hn1 y hy e2
  · rw [fold_at m i hi, ← h.is, List.map_append]
    unfold mrg
    cases e : (List.map (fun x : Tr => (x.1, x.2.2)) O).getLast? with
    | none => rfl
    | some y =>
      rw [List.getLast?_map] at e
      obtain ⟨z, hz, rfl⟩ := Option.map_eq_some_iff.1 e
      have := hne z hz
      have h2 : ¬ (z.1 = (t1 m[i]).1) := this
      simp only [h2, if_false]
      rfl
/-- A place more of the last term. -/
theorem MS.again {W3 : World} {v' : Value} {O' : List Tr} {x : Tr} {gv cv : Nat} (h : MS w W n0 n2 g cg m i (.slice (some ⟨gv, 0, none⟩) (O' ++ [x]).length cv) (O' ++ [x])) (hi : i < m.length) (he : x.1 = m[i].s)
    (hg : W.grownBy W3 x.2.1.ownBlock) (hown : W3.ownsRow n0 3 1 v' (x.2.2.length + 1) (nC x.2.2 ++ [.int .i64 (m[i].p : Nat)])) (hat : v'.ownBlock = x.2.1.ownBlock ∨ v'.ownBlock = some W.heap.size) :
    MS w (W3.setCell ⟨gv, O'.length * 2 + 1, none⟩ v') n0 n2 g cg m (i + 1) (.slice (some ⟨gv, 0, none⟩) (O' ++ [(x.1, v', x.2.2 ++ [m[i].p])]).length cv) (O' ++ [(x.1, v', x.2.2 ++ [m[i].p])]) := by
  have hx := h.own x (by simp)
  obtain ⟨xb, xc, hxv, hxo, hxb, hxt⟩ := own_some hx.1 (List.length_pos_iff.2 hx.2)
  rw [hxo] at hg hat
  have hd := drop_at2 hi
  have hr := h.rest
  have hf := h.far
  have hn := h.ndb
  rw [hd] at hr hf hn
  obtain ⟨hn1, hn2⟩ := List.pairwise_cons.1 hn
  have hap := List.pairwise_append.1 h.apart
  have hgv : Tg W 105 gv := tg_own h.out rfl
  have hgv2 : n2 ≤ gv := (h.out.lt gv rfl).1
  have kterm : ∀ {base k n : Nat} {v : Value} {xs : List Value}, W.ownsRow base 105 k v n xs → W3.ownsRow base 105 k v n xs := fun {base k n v xs} ho => ho.kept hg (by
    cases hv : v.ownBlock with
    | none => exact .inl rfl
    | some b => exact .inr (fun e => by
        injection e with e
        subst e
        have := (tg_own ho hv).one hxt
        exact absurd this (by decide)))
  have gs := grownBy_setC W3 gv (O'.length * 2 + 1) v'
  have hout3 := kterm h.out
  have hgv3 : Tg W3 105 gv := tg_own hout3 rfl
  have kint : ∀ {base k n : Nat} {v : Value} {xs : List Value}, W3.ownsRow base 3 k v n xs → (W3.setCell ⟨gv, O'.length * 2 + 1, none⟩ v').ownsRow base 3 k v n xs := fun {base k n v xs} ho => ho.kept gs (by
    cases hv : v.ownBlock with
    | none => exact .inl rfl
    | some b => exact .inr (fun e => by
        injection e with e
        subst e
        have := (tg_own ho hv).one hgv3
        exact absurd this (by decide)))
  have keep : ∀ b, b < W.heap.size → b ≠ xb → Tg W 3 b → (W3.setCell ⟨gv, O'.length * 2 + 1, none⟩ v').heap[b]? = W.heap[b]? := fun b hb hne ht => by
    have e1 : W3.heap[b]? = W.heap[b]? := hg.block b hb (fun e => hne (by injection e))
    refine (gs.block b (by have := hg.size; omega) (fun e => ?_)).trans e1
    injection e with e
    subst e
    exact absurd (ht.one hgv) (by decide)
  have hset := own_set hout3 (O'.length * 2 + 1) (by rw [encO_len, List.length_append]; simp; omega) v'
  have hcells : ((O' ++ [x]).flatMap encO).set (O'.length * 2 + 1) v' = (O' ++ [(x.1, v', x.2.2 ++ [m[i].p])]).flatMap encO := by
    rw [List.flatMap_append, List.flatMap_append, List.set_append_right _ _ (by rw [encO_len]; omega), encO_len]
    have : O'.length * 2 + 1 - O'.length * 2 = 1 := by omega
    rw [this]
    rfl
  rw [hcells] at hset
  have hlen : (O' ++ [x]).length = (O' ++ [(x.1, v', x.2.2 ++ [m[i].p])]).length := by simp
  rw [hlen] at hset
  have hnew : ∀ b, v'.ownBlock = some b → b = xb ∨ b = W.heap.size := fun b e => by
    rcases hat with a | a <;> rw [e] at a <;> injection a with a
    · exact .inl a
    · exact .inr a
  obtain ⟨nb, nc, hnv, hno, hnb, hnt⟩ := own_some hown (Nat.succ_pos _)
  refine ⟨?_, ?_, h.n0n2, ?_, h.gl, hset, fun z hz => ?_, fun y hy => ?_, ?_, fun z hz y hy => ?_, hn2, ?_⟩
  · refine (h.bel.trans ((Below.refl n0 W).grown hg h.n0W (fun b e => ?_))).setCell (p := ⟨gv, O'.length * 2 + 1, none⟩) (Nat.le_trans h.n0n2 hgv2) v'
    injection e with e
    omega
  · have := hg.size; have := gs.size; have := h.n2W; omega
  · refine (kterm h.row).kept gs (.inr (fun e => ?_))
    have e2 : g = gv := by simpa [Value.ownBlock] using e
    have := h.gl
    omega
  · rcases List.mem_append.1 hz with hz | hz
    · have ho := h.own z (List.mem_append.2 (.inl hz))
      refine ⟨kint (ho.1.kept hg ?_), ho.2⟩
      refine .inr (fun e => ?_)
      have := hap.2.2 z hz x (by simp)
      rw [hxo] at this
      exact this e
    · rw [List.mem_singleton] at hz
      subst hz
      refine ⟨kint ?_, by simp⟩
      rw [nC_snoc, List.length_append]
      exact hown
  · have hy2 := hr y (List.mem_cons_of_mem _ hy)
    refine ⟨hy2.1, (keep y.b (Array.getElem?_eq_some_iff.1 hy2.2).1 (fun e => ?_) ⟨_, _, hy2.2⟩).trans hy2.2⟩
    have := hf x (by simp) y (List.mem_cons_of_mem _ hy)
    rw [hxo] at this
    exact this (by rw [e])
  · refine List.pairwise_append.2 ⟨hap.1, List.pairwise_singleton _ _, fun z hz y hy => ?_⟩
    rw [List.mem_singleton] at hy
    subst hy
    show z.2.1.ownBlock ≠ v'.ownBlock
    intro e
    rcases hnew nb hno with e2 | e2
    · have := hap.2.2 z hz x (by simp)
      rw [hxo, ← e2, ← hno] at this
      exact this e
    · have := ((h.own z (List.mem_append.2 (.inl hz))).1.lt nb (e.trans hno)).2
      omega
  · rcases List.mem_append.1 hz with hz | hz
    · exact hf z (List.mem_append.2 (.inl hz)) y (List.mem_cons_of_mem _ hy)
    · rw [List.mem_singleton] at hz
      subst hz
      show v'.ownBlock ≠ some y.b
      intro e
      have hy2 := hr y (List.mem_cons_of_mem _ hy)
      rcases hnew y.b e with e2 | e2
      · have := hf x (by simp) y (List.mem_cons_of_mem _ hy)
        rw [hxo] at this
        exact this (by rw [e2])
      · have := (Array.getElem?_eq_some_iff.1 hy2.2).1
        omega
  · rw [fold_at m i hi, ← h.is]
    unfold mrg
    rw [List.map_append, List.map_append]
    simp only [List.map_cons, List.map_nil, List.getLast?_append, List.getLast?_singleton, Option.some_or, List.dropLast_concat]
    have h2 : x.1 = (t1 m[i]).1 := he
    simp only [h2, if_true]
    rfl
end
end Go.Proofs.YtlfpfkallgkjdaaGreat.Ev
end

section
/- Regions that draw their order, hold calls that WRITE (each waits for the one before it), and end in a forced tail: one walk of the lexical order, what is known of the world replaced at each such call. -/
namespace Go.Proofs.YtlfpfkallgkjdaaGreat.Ph
open Go Go.RowKit Go.Proofs.YtlfpfkallgkjdaaGreat

/-- A frame that says nothing. -/
def Tr (_ _ : World) : Prop := True
section
variable {P : Program} {ops : Array Oper} {md : Region.Mode} {C : World → Prop} {Q : Act → World → Prop} {S : Nat → Option RSpec} {n g : Nat} {K : Array Bool → Act → (World → Prop) → Prop}

def updI (I : World → Prop) : Option (World → Prop) → World → Prop
  | none => I
  | some p => p
def Fixed (P : Program) (C : World → Prop) (o : Oper) (a : Act) (c : Value) : Prop :=
  ∀ w, C w → (execOp a.eval o).run P w = .ok (.value c) w ∨ ((execOp a.eval o).run P w = .ok .skip w ∧ c = undef)
def Gives (P : Program) (C : World → Prop) (I : World → Prop) (o : Oper) (a : Act) (s : RSpec) : Prop :=
  ∀ w, C w → I w → growUpon P Tr w (fun v w' => C w' ∧ ∃ x, v = s.f x ∧ s.Φ x w') ((execOp a.eval o).run P w)
def stepI (P : Program) (ops : Array Oper) (C : World → Prop) (S : Nat → Option RSpec) (i : Nat) (o : Oper) (K : Act → (World → Prop) → Prop) (a : Act) (I : World → Prop) : Prop :=
  if Region.wanted o (yielded ops a.tmps) = true then
    match S i with
    | none => ∃ c, Fixed P C o a c ∧ K (a.put o.dst c) I
    | some s => Gives P C I o a s ∧ ∀ x, K (a.put o.dst (s.f x)) (s.Φ x)
  else K (a.put o.dst undef) I
def SatI (C : World → Prop) (I : World → Prop) : Prop := ∃ w, C w ∧ I w
def FinI (C : World → Prop) (Q : Act → World → Prop) (a : Act) (I : World → Prop) : Prop := ∀ w, C w → I w → Q a w
def TAnyI (P : Program) (md : Region.Mode) (ops : Array Oper) (C : World → Prop) (S : Nat → Option RSpec) (n : Nat) (K : Array Bool → Act → (World → Prop) → Prop) : Nat → Array Bool → Act → (World → Prop) → Prop
  | 0, listed, a, I => SatI C I → K listed a I
  | fuel + 1, listed, a, I => SatI C I → (Region.ready md ops listed ≠ [] ∧
    ∀ i ∈ Region.ready md ops listed, i < n ∧ ∀ o, ops[i]? = some o → stepI P ops C S i o (TAnyI P md ops C S n K fuel (listed.setIfInBounds i true)) a I)
/-- The walk of the lexical order. -/
def wpPh (P : Program) (ops : Array Oper) (C : World → Prop) (S : Nat → Option RSpec) (Q : Act → World → Prop) : List Oper → Nat → Act → (World → Prop) → Prop
  | [], _, a, I => FinI C Q a I
  | o :: rest, k, a, I => stepI P ops C S k o (wpPh P ops C S Q rest (k + 1)) a I

theorem wpAny_of_I {Q' : Exit → Act → World → Prop} (hK : ∀ listed a I w, K listed a I → C w → I w → wpAny P md ops Q' g listed a w) :
    ∀ (fuel : Nat) (listed : Array Bool) (a : Act) (I : World → Prop) (w : World), C w → I w → TAnyI P md ops C S n K fuel listed a I → wpAny P md ops Q' (fuel + g) listed a w
  | 0, _, a, I, w, hC, hI, h => by rw [Nat.zero_add]; exact hK _ _ _ _ (h ⟨w, hC, hI⟩) hC hI
  | fuel + 1, listed, a, I, w, hC, hI, h => by
    rw [show fuel + 1 + g = (fuel + g) + 1 by omega]
    have h := h ⟨w, hC, hI⟩
    refine ⟨fun h0 => absurd h0 h.1, fun i hi => ?_⟩
    unfold wpOp
    obtain ⟨_, o, ho, _⟩ := mem_ready.1 hi
    simp only [ho]
    have hs := (h.2 i hi).2 o ho
    unfold stepI at hs
    split
    · rename_i hw
      rw [if_pos hw] at hs
      left
      split at hs
      · rename_i hSi
        obtain ⟨c, h1, h2⟩ := hs
        rcases h1 w hC with hr | ⟨hr, rfl⟩
        · unfold Oper.wp; rw [hr]
          exact wpAny_of_I hK fuel _ _ I w hC hI h2
        · unfold Oper.wp; rw [hr]
          exact wpAny_of_I hK fuel _ _ I w hC hI h2
      · rename_i s hSi
        refine wp_of_gives ?_ (hs.1 w hC hI)
        rintro v w' _ ⟨hC', x, rfl, hx⟩
        exact wpAny_of_I hK fuel _ _ _ w' hC' hx (hs.2 x)
    · rename_i hw
      rw [if_neg hw] at hs
      exact wpAny_of_I hK fuel _ _ I w hC hI hs

/-- What an operation does, one of three ways. -/
inductive Head (P : Program) (ops : Array Oper) (C : World → Prop) (S : Nat → Option RSpec) (i : Nat) (o : Oper) (a : Act) (I : World → Prop) : (V : Type) → (V → Value) → (V → Option (World → Prop)) → Prop
  | skip (h : Region.wanted o (yielded ops a.tmps) = false) : Head P ops C S i o a I Unit (fun _ => undef) (fun _ => none)
  | fixed (h : Region.wanted o (yielded ops a.tmps) = true) (hs : S i = none) (c : Value) (hf : Fixed P C o a c) : Head P ops C S i o a I Unit (fun _ => c) (fun _ => none)
  | gives (h : Region.wanted o (yielded ops a.tmps) = true) (s : RSpec) (hs : S i = some s) (hg : Gives P C I o a s) : Head P ops C S i o a I s.α s.f (fun x => some (s.Φ x))
section
variable {i : Nat} {o : Oper} {a a' : Act} {I I' : World → Prop} {V V' : Type} {f : V → Value} {p : V → Option (World → Prop)} {f' : V' → Value} {p' : V' → Option (World → Prop)}
theorem Head.step (h : Head P ops C S i o a I V f p) {K : Act → (World → Prop) → Prop} (hk : ∀ x, K (a.put o.dst (f x)) (updI I (p x))) : stepI P ops C S i o K a I := by
  cases h with
  | skip h => unfold stepI; rw [if_neg (by rw [h]; decide)]; exact hk ()
  | fixed h hs c hf => unfold stepI; rw [if_pos h]; simp only [hs]; exact ⟨c, hf, hk ()⟩
  | gives h s hs hg => unfold stepI; rw [if_pos h]; simp only [hs]; exact ⟨hg, hk⟩
theorem head_of_step {K : Act → (World → Prop) → Prop} (h : stepI P ops C S i o K a I) :
    ∃ (V : Type) (f : V → Value) (p : V → Option (World → Prop)), Head P ops C S i o a I V f p ∧ ∀ x, K (a.put o.dst (f x)) (updI I (p x)) := by
  unfold stepI at h
  by_cases hw : Region.wanted o (yielded ops a.tmps) = true
  · rw [if_pos hw] at h
    split at h
    · rename_i hs
      obtain ⟨c, h1, h2⟩ := h
      exact ⟨_, _, _, .fixed hw hs c h1, fun _ => h2⟩
    · rename_i s hs
      exact ⟨_, _, _, .gives hw s hs h.1, h.2⟩
  · rw [if_neg hw] at h
    exact ⟨_, _, _, .skip (by simpa using hw), fun _ => h⟩
theorem Head.same (h : Head P ops C S i o a I V f p) (he : execOp a'.eval o = execOp a.eval o) (hw : Region.wanted o (yielded ops a'.tmps) = Region.wanted o (yielded ops a.tmps)) (hI : S i = none ∨ I' = I) : Head P ops C S i o a' I' V f p := by
  cases h with
  | skip h => exact .skip (by rw [hw]; exact h)
  | fixed h hs c hf => exact .fixed (by rw [hw]; exact h) hs c (fun w hC => by rw [he]; exact hf w hC)
  | gives h s hs hg =>
    rcases hI with hI | rfl
    · rw [hI] at hs; cases hs
    · exact .gives (by rw [hw]; exact h) s hs (fun w hC hI => by rw [he]; exact hg w hC hI)
theorem Head.quiet (h : Head P ops C S i o a I V f p) (hs : S i = none) (x : V) : p x = none := by
  cases h with
  | skip h => rfl
  | fixed h hs c hf => rfl
  | gives h s hs' hg => rw [hs] at hs'; cases hs'
theorem Head.one (h : Head P ops C S i o a I V f p) (h' : Head P ops C S i o a I V' f' p') (hs : SatI C I) (x : V) : ∃ x', f' x' = f x ∧ p' x' = p x := by
  obtain ⟨w, hC, hI⟩ := hs
  cases h with
  | skip h =>
    cases h' with
    | skip h' => exact ⟨(), rfl, rfl⟩
    | fixed h' _ _ _ => rw [h] at h'; cases h'
    | gives h' _ _ _ => rw [h] at h'; cases h'
  | fixed h hs c hf =>
    cases h' with
    | skip h' => rw [h] at h'; cases h'
    | fixed h' hs' c' hf' =>
      refine ⟨(), ?_, rfl⟩
      show c' = c
      rcases hf w hC with h1 | ⟨h1, rfl⟩ <;> rcases hf' w hC with h2 | ⟨h2, rfl⟩
      · rw [h1] at h2; injection h2 with h2; injection h2 with h2; exact h2.symm
      · rw [h1] at h2; injection h2 with h2; cases h2
      · rw [h1] at h2; injection h2 with h2; cases h2
      · rfl
    | gives h' s hs' hg' => rw [hs] at hs'; cases hs'
  | gives h s hs hg =>
    cases h' with
    | skip h' => rw [h] at h'; cases h'
    | fixed h' hs' c' hf' => rw [hs] at hs'; cases hs'
    | gives h' s' hs' hg' =>
      rw [hs] at hs'
      injection hs' with hs'
      subst hs'
      exact ⟨x, rfl, rfl⟩
theorem Head.sat (h : Head P ops C S i o a I V f p) (hs : SatI C I) : ∃ x, SatI C (updI I (p x)) := by
  cases h with
  | skip h => exact ⟨(), hs⟩
  | fixed h _ c hf => exact ⟨(), hs⟩
  | gives h s hsi hg =>
    obtain ⟨w, hC, hI⟩ := hs
    have h1 := hg w hC hI
    have key : ∀ (v : Value) (w' : World), (C w' ∧ ∃ x, v = s.f x ∧ s.Φ x w') → ∃ x, SatI C (updI I (some (s.Φ x))) := by
      rintro v w' ⟨hC', x, _, hx⟩
      exact ⟨x, w', hC', hx⟩
    generalize (execOp a.eval o).run P w = r at h1
    cases r with
    | ok n w' =>
      cases n <;> simp only [growUpon] at h1
      case value u => exact key _ _ h1.2
      case skip => exact key _ _ h1.2
      case enter f args =>
        obtain ⟨e, w'', _, ⟨v, _, _, hr⟩, _⟩ := h1 []
        exact key v w'' hr
    | halt x w' => simp only [growUpon] at h1
theorem updI_comm {p q : Option (World → Prop)} (h : p = none ∨ q = none) : updI (updI I p) q = updI (updI I q) p := by
  rcases h with rfl | rfl
  · cases q <;> rfl
  · cases p <;> rfl
end
/-- An operation waits for another, or for one that waits for it. -/
inductive Waits (md : Region.Mode) (ops : Array Oper) : Nat → Nat → Prop
  | one {j : Nat} {oj : Oper} (hj : ops[j]? = some oj) (e : Edge) (he : e ∈ oj.after) (hb : Region.binds md e = true) : Waits md ops j e.on
  | more {j i : Nat} {oj : Oper} (hj : ops[j]? = some oj) (e : Edge) (he : e ∈ oj.after) (hb : Region.binds md e = true) (h : Waits md ops e.on i) : Waits md ops j i
theorem Waits.listed {j i : Nat} {listed : Array Bool} (h : Waits md ops j i) (inv : HeadInv md ops n listed) : listed.getD j false = true → listed.getD i false = true := by
  induction h with
  | one hj e he hb => exact fun hl => inv.closed _ _ hj hl e he hb
  | more hj e he hb _ ih => exact fun hl => ih (inv.closed _ _ hj hl e he hb)
theorem Waits.ready {j i : Nat} {listed : Array Bool} (h : Waits md ops j i) (inv : HeadInv md ops n listed) (hr : j ∈ Region.ready md ops listed) : listed.getD i false = true := by
  obtain ⟨_, o, ho, hall⟩ := mem_ready.1 hr
  cases h with
  | one hj e he hb =>
    rw [ho] at hj
    injection hj with hj
    subst hj
    exact hall e he hb
  | more hj e he hb h =>
    rw [ho] at hj
    injection hj with hj
    subst hj
    exact h.listed inv (hall e he hb)
theorem Waits.not {j i : Nat} {listed : Array Bool} (h : Waits md ops j i) (inv : HeadInv md ops n listed) (hr : j ∈ Region.ready md ops listed) (hi : i ∈ Region.ready md ops listed) : False := by
  have h1 := h.ready inv hr
  have h0 := (mem_ready.1 hi).1
  rcases Nat.lt_or_ge i listed.size with h' | h'
  · simp [h'] at h0 h1; rw [h0] at h1; cases h1
  · simp [Array.getElem?_eq_none h'] at h1
/-- Of two operations that write, one waits for the other. -/
def Turns (md : Region.Mode) (ops : Array Oper) (S : Nat → Option RSpec) : Prop := ∀ (i j : Nat) (oi oj : Oper), ops[i]? = some oi → ops[j]? = some oj → i ≠ j → S i = none ∨ S j = none ∨ Waits md ops j i ∨ Waits md ops i j

theorem TAnyI_first {i : Nat} {oi : Oper} (hi : ops[i]? = some oi) (hsel : ∀ (j : Nat) (o : Oper) cs b, ops[j]? = some o → o.op ≠ .select cs b) (hT : Turns md ops S)
    (hs : Region.sinkB md ops n = true) (hc : Region.chainB md ops n = true) (hn : n < ops.size) (hin : i < n) (hdone : ∀ listed a I, K listed a I → ∀ j ∈ Region.ready md ops listed, n ≤ j)
    {V : Type} {f : V → Value} {p : V → Option (World → Prop)} :
    ∀ (fuel : Nat) (listed : Array Bool) (a : Act) (I : World → Prop), HeadInv md ops n listed →
      (∀ j oj, ops[j]? = some oj → j ≠ i → listed.getD j true = false → (∀ e ∈ oj.after, Region.binds md e = true → e.on ≠ i) → oi.apart ops oj = true) →
      i ∈ Region.ready md ops listed → Head P ops C S i oi a I V f p →
      (∀ x, TAnyI P md ops C S n K fuel (listed.setIfInBounds i true) (a.put oi.dst (f x)) (updI I (p x))) → TAnyI P md ops C S n K (fuel + 1) listed a I := by
  intro fuel
  induction fuel with
  | zero =>
    intro listed a I inv _ hr hy H hsat
    have hun := (mem_ready.1 hr).1
    refine ⟨fun h => (by rw [h] at hr; cases hr), fun j hj => ?_⟩
    have hjn : j < n := by
      rcases Nat.lt_or_ge j n with h | h
      · exact h
      · exact absurd hj (tail_waits hs hc hn inv _ i rfl hin hun j h)
    refine ⟨hjn, fun oj hoj => ?_⟩
    by_cases hji : j = i
    · subst hji
      rw [hi] at hoj
      injection hoj with hoj
      subst hoj
      exact hy.step H
    · obtain ⟨x, hx⟩ := hy.sat hsat
      have := hdone _ _ _ (H x hx) j (ready_mono hj hji)
      omega
  | succ fuel ih =>
    intro listed a I inv hfree hr hy H hsat
    have hun0 := (mem_ready.1 hr).1
    refine ⟨fun h => (by rw [h] at hr; cases hr), fun j hj => ?_⟩
    have hjn : j < n := by
      rcases Nat.lt_or_ge j n with h | h
      · exact h
      · exact absurd hj (tail_waits hs hc hn inv _ i rfl hin hun0 j h)
    refine ⟨hjn, fun oj hoj => ?_⟩
    by_cases hji : j = i
    · subst hji
      rw [hi] at hoj
      injection hoj with hoj
      subst hoj
      exact hy.step H
    · obtain ⟨hjun, oj', hoj', hall⟩ := mem_ready.1 hj
      rw [hoj] at hoj'
      injection hoj' with hoj'
      subst hoj'
      have hnot : ∀ e ∈ oj.after, Region.binds md e = true → e.on ≠ i := fun e he hb heq => by
        have h1 := hall e he hb
        have h0 := (mem_ready.1 hr).1
        rw [heq] at h1
        rcases Nat.lt_or_ge i listed.size with h' | h'
        · simp [h'] at h0 h1; rw [h0] at h1; cases h1
        · simp [Array.getElem?_eq_none h'] at h1
      have hnot2 : ∀ e ∈ oi.after, Region.binds md e = true → e.on ≠ j := fun e he hb heq => by
        obtain ⟨h0, o2, ho2, hall2⟩ := mem_ready.1 hr
        rw [hi] at ho2
        injection ho2 with ho2
        subst ho2
        have h1 := hall2 e he hb
        rw [heq] at h1
        rcases Nat.lt_or_ge j listed.size with h' | h'
        · simp [h'] at hjun h1; rw [hjun] at h1; cases h1
        · simp [Array.getElem?_eq_none h'] at h1
      have hturn : S i = none ∨ S j = none := by
        rcases hT i j oi oj hi hoj (Ne.symm hji) with h | h | h | h
        · exact .inl h
        · exact .inr h
        · exact (h.not inv hj hr).elim
        · exact (h.not inv hr hj).elim
      have hap := hfree j oj hoj hji hjun hnot
      obtain ⟨a1, a2, a3⟩ := Oper.apart_spec hap
      have hsi : ∀ cs b, oi.op ≠ .select cs b := fun cs b => hsel i oi cs b hi
      have hsj : ∀ cs b, oj.op ≠ .select cs b := fun cs b => hsel j oj cs b hoj
      obtain ⟨x0, hx0⟩ := hy.sat hsat
      -- behind the first one, what the other one asks of the world is the same
      have hix : ∀ x, S j = none ∨ updI I (p x) = I := fun x => by
        rcases hturn with h | h
        · rw [hy.quiet h x]; exact .inr rfl
        · exact .inl h
      obtain ⟨Vj, fj, pj, hj0, _⟩ := head_of_step (((H x0 hx0).2 j (ready_mono hj hji)).2 oj hoj)
      have hja : Head P ops C S j oj a I Vj fj pj := hj0.same (execOp_put oj hsj a oi.dst _ a1).symm (wanted_put oj a oi.dst _ a1).symm ((hix x0).imp id Eq.symm)
      have hjH : ∀ x, Head P ops C S j oj (a.put oi.dst (f x)) (updI I (p x)) Vj fj pj := fun x =>
        hja.same (execOp_put oj hsj a oi.dst _ a1) (wanted_put oj a oi.dst _ a1) (hix x)
      have hjy : ∀ y, S i = none ∨ updI I (pj y) = I := fun y => by
        rcases hturn with h | h
        · exact .inl h
        · rw [hja.quiet h y]; exact .inr rfl
      have hcomm : ∀ x y, updI (updI I (p x)) (pj y) = updI (updI I (pj y)) (p x) := fun x y => by
        refine updI_comm ?_
        rcases hturn with h | h
        · exact .inl (hy.quiet h x)
        · exact .inr (hja.quiet h y)
      refine hja.step fun y => ?_
      refine ih (listed.setIfInBounds j true) (a.put oj.dst (fj y)) (updI I (pj y)) (inv.set hj hjn) ?_ (ready_mono hr (Ne.symm hji)) ?_ ?_
      · intro k ok hk hki hun hno
        refine hfree k ok hk hki ?_ hno
        by_cases hjk : j = k
        · subst hjk; exact hjun
        · rw [getD_set_ne true hjk] at hun; exact hun
      · exact hy.same (execOp_put oi hsi a oj.dst _ a3) (wanted_put oi a oj.dst _ a3) (hjy y)
      · intro x
        rw [← hcomm x y, ← Act.put_comm a (f x) (fj y) a2, Array.setIfInBounds_comm _ _ hji]
        have hb : SatI C (updI I (p x)) → TAnyI P md ops C S n K fuel ((listed.setIfInBounds i true).setIfInBounds j true) ((a.put oi.dst (f x)).put oj.dst (fj y)) (updI (updI I (p x)) (pj y)) := by
          intro hsx
          obtain ⟨V', f', p', h', hk'⟩ := head_of_step (((H x hsx).2 j (ready_mono hj hji)).2 oj hoj)
          obtain ⟨y', e1, e2⟩ := (hjH x).one h' hsx y
          rw [← e1, ← e2]
          exact hk' y'
        have hback : SatI C (updI (updI I (p x)) (pj y)) → SatI C (updI I (p x)) := fun hs => by
          rcases hturn with h | h
          · rw [hy.quiet h x]; exact hsat
          · rw [hja.quiet h y] at hs; exact hs
        cases fuel with
        | zero => exact fun hs => hb (hback hs) hs
        | succ fuel => exact fun hs => hb (hback hs) hs

theorem TAnyI_lex (hsel : Region.noSelect ops = true) (hT : Turns md ops S) (hs : Region.sinkB md ops n = true) (hc : Region.chainB md ops n = true) (hn : n < ops.size) :
    ∀ (l : List Oper) (k : Nat) (listed : Array Bool) (a : Act) (I : World → Prop), HeadInv md ops n listed → (∀ j, j < l.length → l[j]? = ops[k + j]?) → k + l.length = n →
    Region.lexHead md ops g l.length k listed = true → wpPh P ops C S Q l k a I →
    TAnyI P md ops C S n (fun listed' a' I' => Region.seqB md ops g n listed' = true ∧ FinI C Q a' I') l.length listed a I
  | [], k, listed, a, I, _, _, hk, hB, h => fun _ => by
    have : k = n := by simpa using hk
    subst this
    exact ⟨by simpa [Region.lexHead] using hB, h⟩
  | o :: l, k, listed, a, I, inv, hl, hk, hB, h => by
    have h0 : ops[k]? = some o := by simpa using (hl 0 (by simp)).symm
    simp only [List.length_cons, Region.lexHead, Bool.and_eq_true] at hB
    obtain ⟨⟨hr, hf⟩, hB'⟩ := hB
    have hkn : k < n := by simp only [List.length_cons] at hk; omega
    have hr' : k ∈ Region.ready md ops listed := by simpa using hr
    obtain ⟨V, f, p, hh, hk'⟩ := head_of_step (show stepI P ops C S k o (wpPh P ops C S Q l (k + 1)) a I from h)
    exact TAnyI_first h0 (Region.noSelect_spec hsel) hT hs hc hn hkn (fun listed' a' I' hL => seqB_ready hL.1) l.length listed a I inv (Region.free_spec h0 hf) hr' hh
      (fun x => TAnyI_lex hsel hT hs hc hn l (k + 1) _ _ _ (inv.set hr' hkn) (fun j hj => by have := hl (j + 1) (by simp; omega); simpa [Nat.add_assoc, Nat.add_comm 1 j] using this) (by simp only [List.length_cons] at hk; omega) hB' (hk' x))

/-- The walk, shut: a goal that Lean does not run by itself. -/
structure PhAt (P : Program) (ops : Array Oper) (C : World → Prop) (S : Nat → Option RSpec) (Q : Act → World → Prop) (l : List Oper) (k : Nat) (a : Act) (I : World → Prop) : Prop where
  out : wpPh P ops C S Q l k a I
/-- **One walk of the lexical order serves every order**, calls that write let in, a forced tail behind. -/
theorem wp_region_ph_tail {id : Nat} {Q' : Exit → Act → World → Prop} {a : Act} {w : World} {l : List Oper} (n : Nat) (S : Nat → Option RSpec) (C : World → Prop) (I : World → Prop)
    (hm : P.follows .mixedOrders = true) (hB : Region.lexTailB .any l.toArray n = true) (hT : Turns .any l.toArray S) (hC : C { w with drawn := w.drawn + 1 }) (hI : I { w with drawn := w.drawn + 1 })
    (h : PhAt P l.toArray C S (fun a w => wpList P l.toArray Q' (l.drop n) a w) (l.take n) 0 a I) : (Code.region id l.toArray true).wp P Q' a w := by
  simp only [Region.lexTailB, Bool.and_eq_true, decide_eq_true_eq] at hB
  obtain ⟨⟨⟨⟨hsel, hn⟩, hs⟩, hc⟩, hlex⟩ := hB
  have hn' : n < l.length := by simpa using hn
  have htl : (l.take n).length = n := by simp; omega
  have hdl : (l.drop n).length = l.toArray.size - n := by simp
  have inv0 : HeadInv .any l.toArray n (Array.replicate l.toArray.size false) :=
    ⟨by simp, fun j oj _ hl => (by rw [getD_replicate_false] at hl; cases hl), fun t _ ht => getD_in (by simpa using ht) (getD_replicate_false _ _)⟩
  have H := TAnyI_lex (C := C) (md := .any) (g := l.toArray.size - n) hsel hT hs hc hn (l.take n) 0 _ a I inv0 (fun j hj => by
    have hj' : j < n := by rw [htl] at hj; exact hj
    simp [hj']) (by simpa using htl) (by rw [htl]; exact hlex) h.out
  refine wp_region_any hm ?_
  have := wpAny_of_I (Q' := Q') (g := l.toArray.size - n) (fun listed a' I' w' hL hC' hI' => by
    have := wpAny_of_seq (md := .any) (Q' := Q') (l.drop n) n listed a' w' (fun j => by simp [List.getElem?_drop]) (by rw [hdl]; exact hL.1) (hL.2 w' hC' hI')
    rwa [hdl] at this) _ _ _ _ _ hC hI H
  rw [htl, show n + (l.toArray.size - n) = l.toArray.size by omega] at this
  exact this

section
variable {o : Oper} {rest : List Oper} {k j : Nat} {a : Act} {I : World → Prop}
theorem ph_skip (k' : Nat) (r : Option Bool) (b : Bool) (hk : k + 1 = k') (hg : o.guard = some (j, b)) (hy : yielded ops a.tmps j = r) (hr : (r == some b) = false)
    (h : PhAt P ops C S Q rest k' (a.put o.dst undef) I) : PhAt P ops C S Q (o :: rest) k a I := by
  have hw : Region.wanted o (yielded ops a.tmps) = false := by
    unfold Region.wanted
    rw [hg]
    simp only [hy]
    exact hr
  subst hk
  refine ⟨?_⟩
  show stepI P ops C S k o _ a I
  unfold stepI
  rw [if_neg (by rw [hw]; decide)]
  exact h.out
theorem ph_fix (k' : Nat) (c : Value) (hk : k + 1 = k') (hs : S k = none) (hw : Region.wanted o (yielded ops a.tmps) = true)
    (hf : ∀ w, C w → (execOp a.eval o).run P w = .ok (.value c) w) (h : PhAt P ops C S Q rest k' (a.put o.dst c) I) : PhAt P ops C S Q (o :: rest) k a I := by
  subst hk
  refine ⟨?_⟩
  show stepI P ops C S k o _ a I
  unfold stepI
  rw [if_pos hw]
  simp only [hs]
  exact ⟨c, fun w hC => .inl (hf w hC), h.out⟩
theorem ph_give (k' : Nat) (s : RSpec) (hk : k + 1 = k') (hs : S k = some s) (hw : Region.wanted o (yielded ops a.tmps) = true)
    (hg : ∀ w, C w → I w → growUpon P Tr w (fun v w' => C w' ∧ ∃ x, v = s.f x ∧ s.Φ x w') ((execOp a.eval o).run P w)) (h : ∀ x, PhAt P ops C S Q rest k' (a.put o.dst (s.f x)) (s.Φ x)) : PhAt P ops C S Q (o :: rest) k a I := by
  subst hk
  refine ⟨?_⟩
  show stepI P ops C S k o _ a I
  unfold stepI
  rw [if_pos hw]
  simp only [hs]
  exact ⟨hg, fun x => (h x).out⟩
theorem ph_nil (h : ∀ w, C w → I w → Q a w) : PhAt P ops C S Q [] k a I := ⟨h⟩
end
/-- The test of 'Turns', by numbers. -/
def waitsB (md : Region.Mode) (ops : Array Oper) : Nat → Nat → Nat → Bool
  | 0, _, _ => false
  | fuel + 1, j, i => match ops[j]? with
    | some oj => oj.after.any fun e => Region.binds md e && (e.on == i || waitsB md ops fuel e.on i)
    | none => false
theorem waits_of {fuel j i : Nat} (h : waitsB md ops fuel j i = true) : Waits md ops j i := by
  induction fuel generalizing j with
  | zero => cases h
  | succ fuel ih =>
    unfold waitsB at h
    split at h
    · rename_i oj hj
      obtain ⟨e, he, hb⟩ := Array.any_eq_true'.1 h
      simp only [Bool.and_eq_true, Bool.or_eq_true, beq_iff_eq] at hb
      obtain ⟨h1, h2 | h2⟩ := hb
      · subst h2; exact .one hj e he h1
      · exact .more hj e he h1 (ih h2)
    · cases h
def turnsB (md : Region.Mode) (ops : Array Oper) (l : List Nat) : Bool :=
  l.all fun i => l.all fun j => i == j || waitsB md ops 8 j i || waitsB md ops 8 i j
theorem turns_of {l : List (Nat × RSpec)} (h : turnsB md ops (l.map (·.1)) = true) : Turns md ops (specOf l) := by
  have hin : ∀ i, specOf l i ≠ none → i ∈ l.map (·.1) := by
    intro i
    clear h
    induction l with
    | nil => intro h; exact absurd rfl h
    | cons x l ih =>
      intro h
      obtain ⟨k, s⟩ := x
      unfold specOf at h
      split at h
      · rename_i e; subst e; simp
      · exact List.mem_cons_of_mem _ (ih h)
  intro i j oi oj hi hj hij
  by_cases h1 : specOf l i = none
  · exact .inl h1
  by_cases h2 : specOf l j = none
  · exact .inr (.inl h2)
  have h3 := List.all_eq_true.1 (List.all_eq_true.1 h i (hin i h1)) j (hin j h2)
  simp only [Bool.or_eq_true, beq_iff_eq] at h3
  rcases h3 with (h3 | h3) | h3
  · exact absurd h3 hij
  · exact .inr (.inr (.inl (waits_of h3)))
  · exact .inr (.inr (.inr (waits_of h3)))
end
end Go.Proofs.YtlfpfkallgkjdaaGreat.Ph
end

section
/- An append inside a region that draws its order: where the new row lies. (No program in sight.) -/
namespace Go.Proofs.YtlfpfkallgkjdaaGreat.Ph
open Go.RowKit Go.Proofs.YtlfpfkallgkjdaaGreat
section
variable {P : Program} {o : Oper} {a : Act} {w : World} {R : Value → World → Prop}
theorem give_append_at (s x : Operand) (t : TypeId) (ho : o.op = .call { callee := .builtin .append, args := #[s, x], argTypes := #[t, t] })
    (base : Nat) (e : TypeId) (i : TypeInfo) (z : Value) (size bytes : Nat) (ht : P.underlying t = some (.slice e)) (hi : P.info? e = some i) (hz : i.zero = some z)
    (hsize : i.size = size) (hby : i.bytes = bytes) (hzs : z.cells.size = size) (hsz : 0 < size)
    (v : Value) (n : Nat) (xs : List Value) (hs : a.eval s = v) (hown : w.ownsRow base e size v n xs)
    (ad : Addr) (m c : Nat) (news : List Value) (hx : a.eval x = .slice (some ad) m c) (hl : news.length = m * size) (hnews : ∀ j u, news[j]? = some u → w.cell? (ad.add j) = some u) (h1 : ∀ u ∈ news, u.oneCell' = true)
    (h63 : n + m ≤ maxLen) (hbytes : (n + m) * bytes ≤ 140737488355328) (hbase : base ≤ w.heap.size)
    (h : ∀ v' w', w'.ownsRow base e size v' (n + m) (xs ++ news) → w.grownBy w' v.ownBlock → (v'.ownBlock = v.ownBlock ∨ v'.ownBlock = some w.heap.size) → R v' w') : growUpon P Tr w R ((execOp a.eval o).run P w) := by
  obtain ⟨v', w', hr, h2, h3, _, h5⟩ := run_append_own_at (P := P) w base t o.type e i z size bytes ht hi hz hsize hby hzs hsz v n xs hown ad m c news hl hnews h1 h63 hbytes hbase
  unfold execOp
  simp only [ho, resolve, invoke, builtin, Sem.run_bind, Sem.run_pure, Result.andThen_ok, List.map_toArray, List.map_cons, List.map_nil, hs, hx, hr]
  exact ⟨trivial, h v' w' h2 h3 h5⟩
theorem give_skip {G : World → World → Prop} {w' : World} (h : (execOp a.eval o).run P w = .ok .skip w') (hG : G w w') (hR : R undef w') : growUpon P G w R ((execOp a.eval o).run P w) := by rw [h]; exact ⟨hG, hR⟩
end
end Go.Proofs.YtlfpfkallgkjdaaGreat.Ph
end
