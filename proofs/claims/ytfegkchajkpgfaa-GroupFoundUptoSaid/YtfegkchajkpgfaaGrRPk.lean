/- Tables of words, and the one row of each: plain. No program in sight. -/
import Derived.Maps.RangeWalk
import Derived.Maps.OwnSet
import Derived.Test.YtfegkchajkpgfaaPkGroupRowsRow29
namespace Go.Proofs.Ytfegkchajkpgfaa.Gr
open Go.RowKit Go.Proofs.Ytfegkchajkpgfaa Go.Proofs.Ytfegkchajkpgfaa.Ut Go.Proofs.Ytfegkchajkpgfaa.Tk Go.Sort Go.Shelf Go.Lib Go.Maps
set_option linter.unusedVariables false
set_option linter.unusedSimpArgs false

/-- A table of words. -/
abbrev Tb := ByteArray → Option Int
def litW (s : ByteArray) : Lit := .string s.data.toList
theorem litW_inj {a b : ByteArray} (h : litW a = litW b) : a = b := by
  unfold litW at h
  injection h with h
  rw [← of_str a, ← of_str b]
  simp only [h]
theorem litW_key (s : ByteArray) : WideAt.IsKeyLit (litW s) := by
  unfold litW
  simp [WideAt.IsKeyLit]
theorem litW_same (a b : ByteArray) : (litW a).sameKey (litW b) = decide (a = b) := by
  by_cases h : a = b
  · subst h
    rw [WideAt.sameKey_self (litW_key a)]
    simp
  · rw [Maps.sameKey_ne (fun e => h (litW_inj e)), decide_eq_false h]
/-- The map in memory holds the table. -/
structure TabD (D : DataW Unit) (f : Tb) : Prop where
  has : ∀ s, Maps.has D (litW s) = (f s).isSome
  val : ∀ s n, f s = some n → ∀ z, D.atKey (litW s) z = .lit (.int .i64 n)
  key : ∀ kl, Maps.has D kl = true → ∃ s, kl = litW s
def noT : Tb := fun _ => none
def putT (f : Tb) (s : ByteArray) (n : Int) : Tb := fun t => if t = s then some n else f t
theorem TabD.none : TabD (.map []) noT := ⟨fun s => rfl, fun s n h => (nomatch h), fun kl h => (nomatch h)⟩
theorem TabD.put {D : DataW Unit} {f : Tb} (h : TabD D f) (hm : IsMap D) (s : ByteArray) (n : Int) : TabD (D.put (litW s) (.lit (.int .i64 n))) (putT f s n) := by
  refine ⟨fun t => ?_, fun t m ht z => ?_, fun kl hk => ?_⟩
  · unfold putT
    by_cases e : t = s
    · subst e
      rw [has_put_same hm (litW_key t), if_pos rfl]; rfl
    · rw [has_put_other (fun e' => e (litW_inj e')), if_neg e]; exact h.has t
  · unfold putT at ht
    by_cases e : t = s
    · subst e
      rw [if_pos rfl] at ht
      injection ht with ht
      rw [atKey_put_same hm (litW_key t), ht]
    · rw [if_neg e] at ht
      rw [atKey_put_other (fun e' => e (litW_inj e'))]
      exact h.val t m ht z
  · by_cases e : kl = litW s
    · exact ⟨s, e⟩
    · rw [has_put_other e] at hk
      exact h.key kl hk
theorem TabD.at_ {D : DataW Unit} {f : Tb} (h : TabD D f) {s : ByteArray} {c : Int} (hc : D.atKey (litW s) (.lit (.int .i64 0)) = .lit (.int .i64 c)) : c = (f s).getD 0 := by
  cases e : f s with
  | none =>
    have : Maps.has D (litW s) = false := by rw [h.has, e]; rfl
    rw [atKey_of_not_has this] at hc
    injection hc with hc
    injection hc with _ hc
    exact hc.symm
  | some n =>
    rw [h.val s n e] at hc
    injection hc with hc
    injection hc with _ hc
    exact hc.symm

/-- The row of a table: by rising words. -/
def IsTab (f : Tb) (l : List Ct) : Prop := l.Pairwise (fun x y => ltS x.1 y.1 = true) ∧ ∀ x : Ct, x ∈ l ↔ f x.1 = some x.2
theorem mem_one {r : Ct → Ct → Prop} (hi : ∀ x, ¬ r x x) (ht : ∀ x y z, r x y → r y z → r x z) : ∀ {l m : List Ct}, (∀ x, x ∈ l ↔ x ∈ m) → l.Pairwise r → m.Pairwise r → l = m
  | [], [], _, _, _ => rfl
  | [], y :: m, h, _, _ => by have := (h y).2 (List.mem_cons_self ..); cases this
  | x :: l, [], h, _, _ => by have := (h x).1 (List.mem_cons_self ..); cases this
  | x :: l, y :: m, h, hl, hm => by
    obtain ⟨a1, a2⟩ := List.pairwise_cons.1 hl
    obtain ⟨b1, b2⟩ := List.pairwise_cons.1 hm
    have e : x = y := by
      rcases List.mem_cons.1 ((h x).1 (List.mem_cons_self ..)) with e | h1
      · exact e
      · rcases List.mem_cons.1 ((h y).2 (List.mem_cons_self ..)) with e | h2
        · exact e.symm
        · exact absurd (ht _ _ _ (a1 y h2) (b1 x h1)) (hi x)
    subst e
    have hne : ∀ z ∈ l, z ≠ x := fun z hz e => hi x (e ▸ a1 z hz)
    have hne2 : ∀ z ∈ m, z ≠ x := fun z hz e => hi x (e ▸ b1 z hz)
    rw [mem_one hi ht (fun z => ⟨fun hz => by
      rcases List.mem_cons.1 ((h z).1 (List.mem_cons_of_mem _ hz)) with e | h1
      · exact absurd e (hne z hz)
      · exact h1, fun hz => by
      rcases List.mem_cons.1 ((h z).2 (List.mem_cons_of_mem _ hz)) with e | h1
      · exact absurd e (hne2 z hz)
      · exact h1⟩) a2 b2]
theorem IsTab.one {f : Tb} {l m : List Ct} (h : IsTab f l) (g : IsTab f m) : l = m :=
  mem_one (r := fun x y => ltS x.1 y.1 = true) (fun x => by rw [ltS_irrefl]; decide) (fun _ _ _ => ltS_trans) (fun x => (h.2 x).trans (g.2 x).symm) h.1 g.1
theorem IsTab.none : IsTab noT [] := ⟨List.Pairwise.nil, fun x => ⟨fun h => (nomatch h), fun h => (nomatch h)⟩⟩
theorem IsTab.congr {f g : Tb} {l : List Ct} (h : IsTab f l) (e : ∀ s, f s = g s) : IsTab g l := ⟨h.1, fun x => by rw [← e]; exact h.2 x⟩

/-- On the way through a table. -/
structure Tway (D : DataW Unit) (f : Tb) (left : Lit → Bool) (l : List Ct) : Prop where
  got : ∀ x ∈ l, f x.1 = some x.2 ∧ left (litW x.1) = false
  rest : ∀ s n, f s = some n → left (litW s) = true ∨ (s, n) ∈ l
  ne : l.Pairwise (fun x y => x.1 ≠ y.1)
  ofD : ∀ kl, left kl = true → Maps.has D kl = true
theorem Tway.start {D : DataW Unit} {f : Tb} (h : TabD D f) : Tway D f (Maps.has D) [] :=
  ⟨fun x hx => (nomatch hx), fun s n e => .inl (by rw [h.has, e]; rfl), List.Pairwise.nil, fun _ h => h⟩
theorem Tway.step {D : DataW Unit} {f : Tb} {left : Lit → Bool} {l : List Ct} (h : Tway D f left l) (hD : TabD D f) {s : ByteArray} {c : Int} (hl : left (litW s) = true) (hc : ∀ z, D.atKey (litW s) z = .lit (.int .i64 c)) :
    Tway D f (fun z => left z && !z.sameKey (litW s)) (l ++ [(s, c)]) := by
  have hs : f s = some c := by
    have h1 := hD.has s
    rw [h.ofD _ hl] at h1
    cases e : f s with
    | none => rw [e] at h1; cases h1
    | some n =>
      have h2 := hD.val s n e (.map [])
      rw [hc] at h2
      injection h2 with h2
      injection h2 with _ h2
      rw [h2]
  refine ⟨fun x hx => ?_, fun t n ht => ?_, ?_, fun kl hk => h.ofD kl (by rw [Bool.and_eq_true] at hk; exact hk.1)⟩
  · rcases List.mem_append.1 hx with hx | hx
    · obtain ⟨h1, h2⟩ := h.got x hx
      exact ⟨h1, by rw [h2]; rfl⟩
    · rw [List.mem_singleton] at hx
      subst hx
      exact ⟨hs, by rw [litW_same]; simp⟩
  · rcases h.rest t n ht with h1 | h1
    · by_cases e : t = s
      · subst e
        rw [hs] at ht
        injection ht with ht
        exact .inr (by rw [ht]; simp)
      · exact .inl (by rw [h1, litW_same, decide_eq_false e]; rfl)
    · exact .inr (List.mem_append_left _ h1)
  · refine List.pairwise_append.2 ⟨h.ne, List.pairwise_singleton _ _, fun x hx y hy e => ?_⟩
    rw [List.mem_singleton] at hy
    subst hy
    have := (h.got x hx).2
    rw [e] at this
    rw [this] at hl
    cases hl
theorem Tway.fin {D : DataW Unit} {f : Tb} {left : Lit → Bool} {l : List Ct} (h : Tway D f left l) (h0 : ∀ kl, left kl = false) {d' : Array Ct} (hp : PermIn 0 l.toArray.size l.toArray d') (hs : SortedIn (ltOf cfR) 0 l.toArray.size d') : IsTab f d'.toList := by
  obtain ⟨h1, h2⟩ := row_sorted h.ne hp hs
  refine ⟨h2, fun x => ?_⟩
  rw [h1.mem_iff]
  constructor
  · exact fun hx => (h.got x hx).1
  · intro hx
    rcases h.rest x.1 x.2 hx with h3 | h3
    · rw [h0] at h3; cases h3
    · exact h3
theorem Tway.nil {D : DataW Unit} {f : Tb} {left : Lit → Bool} (h : Tway D f left []) (h0 : ∀ kl, left kl = false) : IsTab f [] := by
  refine ⟨List.Pairwise.nil, fun x => ⟨fun hx => (nomatch hx), fun hx => ?_⟩⟩
  rcases h.rest x.1 x.2 hx with h3 | h3
  · rw [h0] at h3; cases h3
  · exact h3
end Go.Proofs.Ytfegkchajkpgfaa.Gr
