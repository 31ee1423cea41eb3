/- All terms, and terms that begin somehow: plain (seat k). (No program in sight.) -/
import Derived.Sort.Walk0
import Derived.Test.YtioekhiaoajgfaaGreatPkMemidxForksRow33
import Derived.Test.YtioekhiaoajgfaaGreatPkMemidxForksRow26
namespace Go.Proofs.YtioekhiaoajgfaaGreat.Mx
open Go.RowKit Go.Sort Go.Proofs Go.Proofs.YtioekhiaoajgfaaGreat Go.Proofs.YtioekhiaoajgfaaGreat.Ut Go.Proofs.YtioekhiaoajgfaaGreat.Tk Go.Proofs.YtioekhiaoajgfaaGreat.Qy Go.Proofs.YtioekhiaoajgfaaGreat.Ev
set_option linter.unusedVariables false
set_option linter.unusedSimpArgs false

/-- A rising row of texts, with one more, once. -/
def insS : List ByteArray → ByteArray → List ByteArray
  | [], s => [s]
  | x :: l, s => if ltB x s = true then x :: insS l s else if x = s then x :: l else s :: x :: l
theorem insS_hit : ∀ (l : List ByteArray) (s : ByteArray) (h : posB l s < l.length), l[posB l s] = s → insS l s = l
  | [], s, h, _ => absurd h (by simp)
  | x :: l, s, h, he => by
    by_cases c : ltB x s = true
    · have e : posB (x :: l) s = posB l s + 1 := by rw [posB]; exact if_pos c
      have h2 : posB l s < l.length := by rw [e] at h; simpa using h
      have he2 : l[posB l s] = s := by simpa [e] using he
      unfold insS
      rw [if_pos c, insS_hit l s h2 he2]
    · have e : posB (x :: l) s = 0 := by rw [posB]; exact if_neg c
      have he2 : x = s := by simpa [e] using he
      unfold insS
      rw [if_neg c, if_pos he2]
theorem insS_miss : ∀ (l : List ByteArray) (s : ByteArray), (∀ h : posB l s < l.length, l[posB l s] ≠ s) → insS l s = l.take (posB l s) ++ [s] ++ l.drop (posB l s)
  | [], s, _ => rfl
  | x :: l, s, h => by
    by_cases c : ltB x s = true
    · have e : posB (x :: l) s = posB l s + 1 := by rw [posB]; exact if_pos c
      have ih := insS_miss l s (fun h2 => by
        have := h (by rw [e]; simpa using h2)
        simp only [e, List.getElem_cons_succ] at this
        exact this)
      simp only [e]
      unfold insS
      rw [if_pos c, ih]
      simp
    · have e : posB (x :: l) s = 0 := by rw [posB]; exact if_neg c
      have := h (by rw [e]; simp)
      simp only [e, List.getElem_cons_zero] at this ⊢
      unfold insS
      rw [if_neg c, if_neg this]
      simp
abbrev UpS (l : List ByteArray) : Prop := l.Pairwise (fun x y => ltB x y = true)
theorem insS_up : ∀ (l : List ByteArray) (s : ByteArray), UpS l → UpS (insS l s) ∧ ∀ x, x ∈ insS l s ↔ x ∈ l ∨ x = s
  | [], s, _ => ⟨by simp [insS], fun x => by simp [insS]⟩
  | y :: l, s, h => by
    obtain ⟨h1, h2⟩ := List.pairwise_cons.1 h
    obtain ⟨i1, i2⟩ := insS_up l s h2
    unfold insS
    by_cases c : ltB y s = true
    · rw [if_pos c]
      refine ⟨List.pairwise_cons.2 ⟨fun x hx => ?_, i1⟩, fun x => ?_⟩
      · rcases (i2 x).1 hx with hx | rfl
        · exact h1 x hx
        · exact c
      · rw [List.mem_cons, i2, List.mem_cons]
        constructor
        · rintro (h | h | h)
          · exact .inl (.inl h)
          · exact .inl (.inr h)
          · exact .inr h
        · rintro ((h | h) | h)
          · exact .inl h
          · exact .inr (.inl h)
          · exact .inr (.inr h)
    · rw [if_neg c]
      by_cases e : y = s
      · rw [if_pos e]
        refine ⟨h, fun x => ⟨.inl, fun hx => ?_⟩⟩
        rcases hx with hx | rfl
        · exact hx
        · rw [e]; exact List.mem_cons_self ..
      · rw [if_neg e]
        have hs : ltB s y = true := by
          rcases ltB_total (by simpa using c : ltB y s = false) with h | h
          · exact absurd h e
          · exact h
        refine ⟨List.pairwise_cons.2 ⟨fun x hx => ?_, h⟩, fun x => ?_⟩
        · rcases List.mem_cons.1 hx with rfl | hx
          · exact hs
          · exact ltB_trans hs (h1 x hx)
        · rw [List.mem_cons]
          constructor
          · rintro (h | h)
            · exact .inr h
            · exact .inl h
          · rintro (h | h)
            · exact .inr h
            · exact .inl h
theorem insS_len : ∀ (l : List ByteArray) (s : ByteArray), (insS l s).length ≤ l.length + 1
  | [], s => by simp [insS]
  | y :: l, s => by
    have := insS_len l s
    unfold insS
    split
    · simp only [List.length_cons]; omega
    · split
      · simp only [List.length_cons]; omega
      · simp only [List.length_cons]; omega
/-- The terms of one doc more. -/
def insT (l : List ByteArray) (T : List Tm) : List ByteArray := T.foldl (fun l t => insS l t.1) l
theorem insT_snoc (l : List ByteArray) (T : List Tm) (t : Tm) : insT l (T ++ [t]) = insS (insT l T) t.1 := by simp [insT]
theorem insT_up : ∀ (T : List Tm) (l : List ByteArray), UpS l → UpS (insT l T) ∧ ∀ x, x ∈ insT l T ↔ x ∈ l ∨ ∃ t ∈ T, t.1 = x
  | [], l, h => ⟨h, fun x => by simp [insT]⟩
  | t :: T, l, h => by
    obtain ⟨h1, h2⟩ := insS_up l t.1 h
    obtain ⟨h3, h4⟩ := insT_up T (insS l t.1) h1
    refine ⟨h3, fun x => ?_⟩
    have eI : insT l (t :: T) = insT (insS l t.1) T := rfl
    rw [eI, h4, h2]
    constructor
    · rintro ((h | h) | ⟨y, hy, e⟩)
      · exact .inl h
      · exact .inr ⟨t, List.mem_cons_self .., h.symm⟩
      · exact .inr ⟨y, List.mem_cons_of_mem _ hy, e⟩
    · rintro (h | ⟨y, hy, e⟩)
      · exact .inl (.inl h)
      · rcases List.mem_cons.1 hy with rfl | hy
        · exact .inl (.inr e.symm)
        · exact .inr ⟨y, hy, e⟩
theorem insT_len : ∀ (T : List Tm) (l : List ByteArray), (insT l T).length ≤ l.length + T.length
  | [], l => by simp [insT]
  | t :: T, l => by
    have e : insT l (t :: T) = insT (insS l t.1) T := rfl
    have h1 := insT_len T (insS l t.1)
    have h2 := insS_len l t.1
    rw [e, List.length_cons]
    omega
/-- All terms. -/
def termsR (ds : List (List Fl)) : List ByteArray := ds.foldl (fun l fs => insT l (addAll (raw fs))) []
theorem termsR_snoc (ds : List (List Fl)) (fs : List Fl) : termsR (ds ++ [fs]) = insT (termsR ds) (addAll (raw fs)) := by simp [termsR]
theorem posOf_some (fs : List Fl) (s : ByteArray) : (posOf fs s).isSome = true ↔ ∃ t ∈ addAll (raw fs), t.1 = s := by
  unfold posOf
  rw [Option.isSome_map, List.find?_isSome]
  simp
theorem termsR_up : ∀ (n : Nat) (ds : List (List Fl)), ds.length = n → UpS (termsR ds) ∧ ∀ x, x ∈ termsR ds ↔ ∃ fs ∈ ds, (posOf fs x).isSome = true
  | 0, ds, h => by
    obtain rfl := List.length_eq_zero_iff.1 h
    exact ⟨List.Pairwise.nil, fun x => by simp [termsR]⟩
  | n + 1, ds, h => by
    obtain ⟨dl, d, rfl⟩ : ∃ dl d, ds = dl ++ [d] := by
      rcases List.eq_nil_or_concat ds with h0 | ⟨dl, d, h0⟩
      · subst h0; simp at h
      · exact ⟨dl, d, by rw [h0, List.concat_eq_append]⟩
    obtain ⟨h1, h2⟩ := termsR_up n dl (by simpa using h)
    obtain ⟨h3, h4⟩ := insT_up (addAll (raw d)) (termsR dl) h1
    rw [termsR_snoc]
    refine ⟨h3, fun x => ?_⟩
    rw [h4, h2, ← posOf_some]
    constructor
    · rintro (⟨fs, hf, e⟩ | h)
      · exact ⟨fs, List.mem_append_left _ hf, e⟩
      · exact ⟨d, by simp, h⟩
    · rintro ⟨fs, hf, e⟩
      rcases List.mem_append.1 hf with hf | hf
      · exact .inl ⟨fs, hf, e⟩
      · rw [List.mem_singleton] at hf
        subst hf
        exact .inr e
theorem termsR_len : ∀ (n : Nat) (ds : List (List Fl)), ds.length = n → (∀ fs ∈ ds, chkE fs = 0) → (termsR ds).length ≤ n * 65536
  | 0, ds, h, _ => by
    obtain rfl := List.length_eq_zero_iff.1 h
    simp [termsR]
  | n + 1, ds, h, hk => by
    obtain ⟨dl, d, rfl⟩ : ∃ dl d, ds = dl ++ [d] := by
      rcases List.eq_nil_or_concat ds with h0 | ⟨dl, d, h0⟩
      · subst h0; simp at h
      · exact ⟨dl, d, by rw [h0, List.concat_eq_append]⟩
    have ih := termsR_len n dl (by simpa using h) (fun f hf => hk f (List.mem_append_left _ hf))
    have h1 := insT_len (addAll (raw d)) (termsR dl)
    have h2 := addAll_len (raw d)
    have h3 := raw_len (hk d (by simp))
    rw [termsR_snoc, Nat.add_mul, Nat.one_mul]
    omega
theorem termsR_sz (ds : List (List Fl)) (hk : ∀ fs ∈ ds, chkE fs = 0) : ∀ s ∈ termsR ds, s.size ≤ 65 := fun s hs => by
  obtain ⟨fs, hf, e⟩ := ((termsR_up _ ds rfl).2 s).1 hs
  obtain ⟨t, ht, rfl⟩ := (posOf_some fs s).1 e
  exact (terms_sz (hk fs hf) t ht).1
theorem postsT_ne (ds : List (List Fl)) (s : ByteArray) : postsT ds s ≠ [] ↔ ∃ fs ∈ ds, (posOf fs s).isSome = true := by
  unfold postsT
  rw [ne_eq, List.filterMap_eq_nil_iff]
  constructor
  · intro h
    apply Classical.byContradiction
    intro hn
    apply h
    intro p hp
    cases hq : posOf p.1 s with
    | none => rfl
    | some q =>
      have hm := List.fst_mem_of_mem_zipIdx hp
      exact absurd ⟨p.1, hm, by rw [hq]; rfl⟩ hn
  · rintro ⟨fs, hf, e⟩ h
    obtain ⟨i, hi, rfl⟩ := List.mem_iff_getElem.1 hf
    have hz : (ds[i], i) ∈ ds.zipIdx := by
      rw [List.mem_iff_getElem]
      exact ⟨i, by simpa using hi, by simp⟩
    have := h _ hz
    rw [Option.map_eq_none_iff] at this
    rw [this] at e
    cases e
/-- A sorted row of texts that are all different IS the rising one. -/
theorem sort_terms {l m : List ByteArray} (hl : l.Nodup) (hm : UpS m) (h : ∀ x, x ∈ l ↔ x ∈ m) : ((l.map (·.data.toList)).mergeSort fun x y => decide (x ≤ y)) = m.map (·.data.toList) := by
  have hinj : ∀ x y : ByteArray, x.data.toList = y.data.toList → x = y := fun x y e => by
    apply toList_inj
    rw [ByteArray.toList_eq, ByteArray.toList_eq, e]
  have hp := List.mergeSort_perm (l.map (·.data.toList)) (fun x y => decide (x ≤ y))
  refine mem_one (r := fun x y : List UInt8 => x < y) (fun x => List.lt_irrefl x) (fun x y z h1 h2 => List.lt_trans h1 h2) (fun x => ?_) ?_ ?_
  · rw [hp.mem_iff, List.mem_map, List.mem_map]
    constructor
    · rintro ⟨y, hy, e⟩; exact ⟨y, (h y).1 hy, e⟩
    · rintro ⟨y, hy, e⟩; exact ⟨y, (h y).2 hy, e⟩
  · have hs : ((l.map (·.data.toList)).mergeSort fun x y => decide (x ≤ y)).Pairwise (fun x y => decide (x ≤ y) = true) :=
      List.pairwise_mergeSort (le := fun x y => decide (x ≤ y)) (fun a b c h1 h2 => by simp only [decide_eq_true_eq] at *; exact List.le_trans h1 h2) (fun a b => by simpa using List.le_total a b) _
    have hn : ((l.map (·.data.toList)).mergeSort fun x y => decide (x ≤ y)).Nodup := by
      rw [hp.nodup_iff]
      exact (List.pairwise_map.2 (hl.imp (fun {x y} hne e => hne (hinj x y e))))
    refine (hs.and hn).imp (fun {x y} hxy => ?_)
    obtain ⟨h1, h2⟩ := hxy
    simp only [decide_eq_true_eq] at h1
    rcases List.le_iff_lt_or_eq.1 h1 with h3 | h3
    · exact h3
    · exact absurd h3 h2
  · rw [List.pairwise_map]
    refine hm.imp (fun {x y} hxy => ?_)
    unfold ltB at hxy
    rw [bytesLess_eq, ByteArray.toList_eq, ByteArray.toList_eq] at hxy
    simpa using hxy
end Go.Proofs.YtioekhiaoajgfaaGreat.Mx
