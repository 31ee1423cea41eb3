/- Where the terms of fields stand: plain. (Split out of EvY; no walk.) -/
import Derived.Sort.Walk0
import Derived.Outline
import Derived.BigQuiet
import Derived.Deep.QuietTactic
import Derived.Test.YtdloacfoegjnmaaGreatEvUPk
import Derived.Test.YtdloacfoegjnmaaGreatPkGroupIndexesRow24
import Derived.Test.YtdloacfoegjnmaaGreatPkGroupIndexesRow23
import Derived.Test.YtdloacfoegjnmaaGreatPkGroupIndexesRow7
import Derived.Test.YtdloacfoegjnmaaGreatPkGroupIndexesRow19
section
namespace Go.Proofs.YtdloacfoegjnmaaGreat.Ev
open Go.RowKit Go.Proofs.YtdloacfoegjnmaaGreat Go.Proofs.YtdloacfoegjnmaaGreat.Ut Go.Proofs.YtdloacfoegjnmaaGreat.Tk Go.Proofs.YtdloacfoegjnmaaGreat.Qy Go.Proofs.YtdloacfoegjnmaaGreat.Qp
set_option maxRecDepth 20000
set_option linter.unusedVariables false
set_option linter.unusedSimpArgs false

/-- Where the words of the i-th field begin. -/
def baseAt : List Fl → Nat → Nat
  | [], _ => 0
  | _, 0 => 0
  | f :: fs, i + 1 => (64 + (words f.2.data.toList).length) + baseAt fs i
theorem basedL_at : ∀ (fs : List Fl) (b i : Nat) (h : i < fs.length), (basedL b fs)[i]'(by rw [basedL_len]; exact h) = (b + baseAt fs i, fs[i])
  | f :: fs, b, 0, h => rfl
  | f :: fs, b, i + 1, h => by
    have := basedL_at fs (b + (64 + (words f.2.data.toList).length)) i (by simpa using h)
    simp only [basedL, List.getElem_cons_succ, this, baseAt]
    rw [Nat.add_assoc]
theorem baseAt_succ : ∀ (fs : List Fl) (i : Nat) (h : i < fs.length), baseAt fs (i + 1) = baseAt fs i + (words fs[i].2.data.toList).length + 64
  | [f], 0, h => by simp [baseAt]; omega
  | f :: g :: fs, 0, h => by simp [baseAt]; omega
  | f :: fs, i + 1, h => by
    have := baseAt_succ fs i (by simpa using h)
    simp only [baseAt, List.getElem_cons_succ, this]
    omega
theorem baseAt_le : ∀ (fs : List Fl) (i : Nat), (∀ f ∈ fs, f.2.size ≤ 4096) → baseAt fs i ≤ i * 4160
  | [], i, _ => by cases i <;> simp [baseAt]
  | f :: fs, 0, _ => by simp [baseAt]
  | f :: fs, i + 1, h => by
    have h1 := words_len f.2
    have h2 := h f (List.mem_cons_self ..)
    have h3 := baseAt_le fs i (fun g hg => h g (List.mem_cons_of_mem _ hg))
    simp only [baseAt]
    omega
/-- The terms of the first i fields. -/
def rawN (fs : List Fl) (i : Nat) : List T1 := ((basedL 0 fs).take i).flatMap rawO
theorem rawN_succ (fs : List Fl) (i : Nat) (h : i < fs.length) : rawN fs (i + 1) = rawN fs i ++ rawO (baseAt fs i, fs[i]) := by
  unfold rawN
  rw [List.take_succ_eq_append_getElem (by rw [basedL_len]; exact h), List.flatMap_append, basedL_at fs 0 i h, Nat.zero_add]
  simp
theorem rawN_all (fs : List Fl) : rawN fs fs.length = raw fs := by
  unfold rawN raw
  rw [List.take_of_length_le (by rw [basedL_len]; exact Nat.le_refl _)]
theorem rawN_len (fs : List Fl) (hsz : ∀ f ∈ fs, f.2.size ≤ 4096) : ∀ i, i ≤ fs.length → (rawN fs i).length ≤ i * 4096
  | 0, _ => by simp [rawN]
  | i + 1, h => by
    have ih := rawN_len fs hsz i (by omega)
    have h1 := words_len fs[i].2
    have h2 := hsz _ (List.getElem_mem (show i < fs.length by omega))
    rw [rawN_succ fs i (by omega), List.length_append, rawO_len]
    simp only
    omega
theorem addAll_pos (L : List T1) : ∀ x ∈ addAll L, x.2.length ≤ L.length := fun x hx => by
  have := (((isTm_all L).mem x).1 hx).2
  rw [this, List.length_map]
  exact List.length_filter_le _ _
theorem termT_size (a : ByteArray) (x : List UInt8) : (termT a x).size = a.size + 1 + x.length := by
  have h1 : ∀ l : List UInt8, (str l).size = l.length := fun l => by simp [str, ByteArray.size]
  unfold termT
  rw [h1]
  unfold term
  rw [List.length_append, List.length_cons, bsize]
  omega
end Go.Proofs.YtdloacfoegjnmaaGreat.Ev
end

section
/- The hot index: the sizes of terms. (No walk.) -/
namespace Go.Proofs.YtdloacfoegjnmaaGreat.Mx
open Go.RowKit Go.Maps Go.Proofs.YtdloacfoegjnmaaGreat Go.Proofs.YtdloacfoegjnmaaGreat.Ut Go.Proofs.YtdloacfoegjnmaaGreat.Tk Go.Proofs.YtdloacfoegjnmaaGreat.Qy Go.Proofs.YtdloacfoegjnmaaGreat.Ev Go.Proofs.YtdloacfoegjnmaaGreat.Qp Go.Proofs.YtdloacfoegjnmaaGreat.Mv
set_option linter.unusedVariables false
set_option linter.unusedSimpArgs false
set_option maxRecDepth 20000

theorem basedL_mem : ∀ (fs : List Fl) (b : Nat) (x : Nat × Fl), x ∈ basedL b fs → x.2 ∈ fs
  | [], _, _, h => by cases h
  | f :: fs, b, x, h => by
    simp only [basedL, List.mem_cons] at h
    rcases h with rfl | h
    · exact List.mem_cons_self ..
    · exact List.mem_cons_of_mem _ (basedL_mem fs _ x h)
theorem raw_sz {fs : List Fl} (h : chkE fs = 0) : ∀ y ∈ raw fs, y.1.size ≤ 65 := by
  intro y hy
  unfold raw at hy
  obtain ⟨x, hx, hy⟩ := List.mem_flatMap.1 hy
  have hf := (chkE_ok h).2 _ (basedL_mem fs 0 x hx)
  unfold rawO at hy
  obtain ⟨p, hp, rfl⟩ := List.mem_map.1 hy
  have hw := List.fst_mem_of_mem_zipIdx hp
  have h1 := (words_word _ _ hw).2
  simp only [termT_size]
  omega
theorem raw_len {fs : List Fl} (h : chkE fs = 0) : (raw fs).length ≤ 65536 := by
  have h1 := rawN_len fs (fun f hf => ((chkE_ok h).2 f hf).2.2) fs.length (Nat.le_refl _)
  rw [rawN_all] at h1
  have := (chkE_ok h).1
  omega
theorem terms_sz {fs : List Fl} (h : chkE fs = 0) : ∀ t ∈ addAll (raw fs), t.1.size ≤ 65 ∧ t.2.length ≤ 65536 := by
  intro t ht
  refine ⟨?_, Nat.le_trans (addAll_pos _ t ht) (raw_len h)⟩
  obtain ⟨h1, h2⟩ := ((isTm_all (raw fs)).mem t).1 ht
  rw [h2] at h1
  cases e : (raw fs).filter (fun y => decide (y.1 = t.1)) with
  | nil => rw [e] at h1; exact absurd rfl h1
  | cons y l =>
    have hy : y ∈ (raw fs).filter (fun y => decide (y.1 = t.1)) := by rw [e]; exact List.mem_cons_self ..
    obtain ⟨h3, h4⟩ := List.mem_filter.1 hy
    rw [← of_decide_eq_true h4]
    exact raw_sz h y h3
theorem post_info : (Tryz.prog.info? 73).map (fun i => (i.zero, i.size, i.bytes)) = some (some (.agg #[.int .i64 0, .slice none 0 0]), 2, 32) := by kernel_rfl
theorem lawS : Keyed Tryz.prog 9 := string_keyed Tryz.underlying9
theorem keyS {s : ByteArray} (h : s.size ≤ maxLen) : keyOf Tryz.prog 9 (litS.val s) = some (litS.lit s) := Go.WideMaps.keyOf_string_mk Tryz.underlying9 h
theorem news_at (w : World) (T : TypeId) (cs : List Value) : ∀ j u, cs[j]? = some u → ((w.alloc (.cells cs.toArray T)).drew).cell? ((⟨w.heap.size, 0, none⟩ : Addr).add j) = some u := by
  intro j u h
  rw [Rg.add_lit, Nat.zero_add]
  exact ((Blk.new w T cs.toArray).cell j).trans (by simpa using h)
/-- Behind the append of a post. -/
structure Put1 (n0 : Nat) (T : TypeId) (k : Nat) (wB wx : World) (u v' : Value) (n : Nat) (X : List Value) : Prop where
  own : wx.ownsRow n0 T k v' n X
  gr : wB.grownBy wx u.ownBlock
  at_ : v'.ownBlock = u.ownBlock ∨ v'.ownBlock = some wB.heap.size
end Go.Proofs.YtdloacfoegjnmaaGreat.Mx
end

section
/- All terms, and terms that begin somehow: plain (seat k). (No program in sight.) -/
namespace Go.Proofs.YtdloacfoegjnmaaGreat.Mx
open Go.RowKit Go.Sort Go.Proofs Go.Proofs.YtdloacfoegjnmaaGreat Go.Proofs.YtdloacfoegjnmaaGreat.Ut Go.Proofs.YtdloacfoegjnmaaGreat.Tk Go.Proofs.YtdloacfoegjnmaaGreat.Qy Go.Proofs.YtdloacfoegjnmaaGreat.Ev
set_option linter.unusedVariables false
set_option linter.unusedSimpArgs false

/-- A rising row of texts, with one more, once. -/
def insS : List ByteArray → ByteArray → List ByteArray
  | [], s => [s]
  | x :: l, s => if ltB x s = true then x :: insS l s else if x = s then x :: l else s :: x :: l
theorem insS_hit : ∀ (l : List ByteArray) (s : ByteArray) (h : posB l s < l.length), l[posB l s] = s → insS l s = l
  | [], s, h, _ => absurd h (by simp)
  | x :: l, s, h, he => by
    by_cases c : ltB x s = true
    · have e : posB (x :: l) s = posB l s + 1 := by rw [posB]; exact if_pos c
      have h2 : posB l s < l.length := by rw [e] at h; simpa using h
      have he2 : l[posB l s] = s := by simpa [e] using he
      unfold insS
      rw [if_pos c, insS_hit l s h2 he2]
    · have e : posB (x :: l) s = 0 := by rw [posB]; exact if_neg c
      have he2 : x = s := by simpa [e] using he
      unfold insS
      rw [if_neg c, if_pos he2]
theorem insS_miss : ∀ (l : List ByteArray) (s : ByteArray), (∀ h : posB l s < l.length, l[posB l s] ≠ s) → insS l s = l.take (posB l s) ++ [s] ++ l.drop (posB l s)
  | [], s, _ => rfl
  | x :: l, s, h => by
    by_cases c : ltB x s = true
    · have e : posB (x :: l) s = posB l s + 1 := by rw [posB]; exact if_pos c
      have ih := insS_miss l s (fun h2 => by
        have := h (by rw [e]; simpa using h2)
        simp only [e, List.getElem_cons_succ] at this
        exact this)
      simp only [e]
      unfold insS
      rw [if_pos c, ih]
      simp
    · have e : posB (x :: l) s = 0 := by rw [posB]; exact if_neg c
      have := h (by rw [e]; simp)
      simp only [e, List.getElem_cons_zero] at this ⊢
      unfold insS
      rw [if_neg c, if_neg this]
      simp
abbrev UpS (l : List ByteArray) : Prop := l.Pairwise (fun x y => ltB x y = true)
theorem insS_up : ∀ (l : List ByteArray) (s : ByteArray), UpS l → UpS (insS l s) ∧ ∀ x, x ∈ insS l s ↔ x ∈ l ∨ x = s
  | [], s, _ => ⟨by simp [insS], fun x => by simp [insS]⟩
  | y :: l, s, h => by
    obtain ⟨h1, h2⟩ := List.pairwise_cons.1 h
    obtain ⟨i1, i2⟩ := insS_up l s h2
    unfold insS
    by_cases c : ltB y s = true
    · rw [if_pos c]
      refine ⟨List.pairwise_cons.2 ⟨fun x hx => ?_, i1⟩, fun x => ?_⟩
      · rcases (i2 x).1 hx with hx | rfl
        · exact h1 x hx
        · exact c
      · rw [List.mem_cons, i2, List.mem_cons]
        constructor
        · rintro (h | h | h)
          · exact .inl (.inl h)
          · exact .inl (.inr h)
          · exact .inr h
        · rintro ((h | h) | h)
          · exact .inl h
          · exact .inr (.inl h)
          · exact .inr (.inr h)
    · rw [if_neg c]
      by_cases e : y = s
      · rw [if_pos e]
        refine ⟨h, fun x => ⟨.inl, fun hx => ?_⟩⟩
        rcases hx with hx | rfl
        · exact hx
        · rw [e]; exact List.mem_cons_self ..
      · rw [if_neg e]
        have hs : ltB s y = true := by
          rcases ltB_total (by simpa using c : ltB y s = false) with h | h
          · exact absurd h e
          · exact h
        refine ⟨List.pairwise_cons.2 ⟨fun x hx => ?_, h⟩, fun x => ?_⟩
        · rcases List.mem_cons.1 hx with rfl | hx
          · exact hs
          · exact ltB_trans hs (h1 x hx)
        · rw [List.mem_cons]
          constructor
          · rintro (h | h)
            · exact .inr h
            · exact .inl h
          · rintro (h | h)
            · exact .inr h
            · exact .inl h
theorem insS_len : ∀ (l : List ByteArray) (s : ByteArray), (insS l s).length ≤ l.length + 1
  | [], s => by simp [insS]
  | y :: l, s => by
    have := insS_len l s
    unfold insS
    split
    · simp only [List.length_cons]; omega
    · split
      · simp only [List.length_cons]; omega
      · simp only [List.length_cons]; omega
/-- The terms of one doc more. -/
def insT (l : List ByteArray) (T : List Tm) : List ByteArray := T.foldl (fun l t => insS l t.1) l
theorem insT_snoc (l : List ByteArray) (T : List Tm) (t : Tm) : insT l (T ++ [t]) = insS (insT l T) t.1 := by simp [insT]
theorem insT_up : ∀ (T : List Tm) (l : List ByteArray), UpS l → UpS (insT l T) ∧ ∀ x, x ∈ insT l T ↔ x ∈ l ∨ ∃ t ∈ T, t.1 = x
  | [], l, h => ⟨h, fun x => by simp [insT]⟩
  | t :: T, l, h => by
    obtain ⟨h1, h2⟩ := insS_up l t.1 h
    obtain ⟨h3, h4⟩ := insT_up T (insS l t.1) h1
    refine ⟨h3, fun x => ?_⟩
    have eI : insT l (t :: T) = insT (insS l t.1) T := rfl
    rw [eI, h4, h2]
    constructor
    · rintro ((h | h) | ⟨y, hy, e⟩)
      · exact .inl h
      · exact .inr ⟨t, List.mem_cons_self .., h.symm⟩
      · exact .inr ⟨y, List.mem_cons_of_mem _ hy, e⟩
    · rintro (h | ⟨y, hy, e⟩)
      · exact .inl (.inl h)
      · rcases List.mem_cons.1 hy with rfl | hy
        · exact .inl (.inr e.symm)
        · exact .inr ⟨y, hy, e⟩
theorem insT_len : ∀ (T : List Tm) (l : List ByteArray), (insT l T).length ≤ l.length + T.length
  | [], l => by simp [insT]
  | t :: T, l => by
    have e : insT l (t :: T) = insT (insS l t.1) T := rfl
    have h1 := insT_len T (insS l t.1)
    have h2 := insS_len l t.1
    rw [e, List.length_cons]
    omega
/-- All terms. -/
def termsR (ds : List (List Fl)) : List ByteArray := ds.foldl (fun l fs => insT l (addAll (raw fs))) []
theorem termsR_snoc (ds : List (List Fl)) (fs : List Fl) : termsR (ds ++ [fs]) = insT (termsR ds) (addAll (raw fs)) := by simp [termsR]
theorem posOf_some (fs : List Fl) (s : ByteArray) : (posOf fs s).isSome = true ↔ ∃ t ∈ addAll (raw fs), t.1 = s := by
  unfold posOf
  rw [Option.isSome_map, List.find?_isSome]
  simp
theorem termsR_up : ∀ (n : Nat) (ds : List (List Fl)), ds.length = n → UpS (termsR ds) ∧ ∀ x, x ∈ termsR ds ↔ ∃ fs ∈ ds, (posOf fs x).isSome = true
  | 0, ds, h => by
    obtain rfl := List.length_eq_zero_iff.1 h
    exact ⟨List.Pairwise.nil, fun x => by simp [termsR]⟩
  | n + 1, ds, h => by
    obtain ⟨dl, d, rfl⟩ : ∃ dl d, ds = dl ++ [d] := by
      rcases List.eq_nil_or_concat ds with h0 | ⟨dl, d, h0⟩
      · subst h0; simp at h
      · exact ⟨dl, d, by rw [h0, List.concat_eq_append]⟩
    obtain ⟨h1, h2⟩ := termsR_up n dl (by simpa using h)
    obtain ⟨h3, h4⟩ := insT_up (addAll (raw d)) (termsR dl) h1
    rw [termsR_snoc]
    refine ⟨h3, fun x => ?_⟩
    rw [h4, h2, ← posOf_some]
    constructor
    · rintro (⟨fs, hf, e⟩ | h)
      · exact ⟨fs, List.mem_append_left _ hf, e⟩
      · exact ⟨d, by simp, h⟩
    · rintro ⟨fs, hf, e⟩
      rcases List.mem_append.1 hf with hf | hf
      · exact .inl ⟨fs, hf, e⟩
      · rw [List.mem_singleton] at hf
        subst hf
        exact .inr e
theorem termsR_len : ∀ (n : Nat) (ds : List (List Fl)), ds.length = n → (∀ fs ∈ ds, chkE fs = 0) → (termsR ds).length ≤ n * 65536
  | 0, ds, h, _ => by
    obtain rfl := List.length_eq_zero_iff.1 h
    simp [termsR]
  | n + 1, ds, h, hk => by
    obtain ⟨dl, d, rfl⟩ : ∃ dl d, ds = dl ++ [d] := by
      rcases List.eq_nil_or_concat ds with h0 | ⟨dl, d, h0⟩
      · subst h0; simp at h
      · exact ⟨dl, d, by rw [h0, List.concat_eq_append]⟩
    have ih := termsR_len n dl (by simpa using h) (fun f hf => hk f (List.mem_append_left _ hf))
    have h1 := insT_len (addAll (raw d)) (termsR dl)
    have h2 := addAll_len (raw d)
    have h3 := raw_len (hk d (by simp))
    rw [termsR_snoc, Nat.add_mul, Nat.one_mul]
    omega
theorem termsR_sz (ds : List (List Fl)) (hk : ∀ fs ∈ ds, chkE fs = 0) : ∀ s ∈ termsR ds, s.size ≤ 65 := fun s hs => by
  obtain ⟨fs, hf, e⟩ := ((termsR_up _ ds rfl).2 s).1 hs
  obtain ⟨t, ht, rfl⟩ := (posOf_some fs s).1 e
  exact (terms_sz (hk fs hf) t ht).1
theorem postsT_ne (ds : List (List Fl)) (s : ByteArray) : postsT ds s ≠ [] ↔ ∃ fs ∈ ds, (posOf fs s).isSome = true := by
  unfold postsT
  rw [ne_eq, List.filterMap_eq_nil_iff]
  constructor
  · intro h
    apply Classical.byContradiction
    intro hn
    apply h
    intro p hp
    cases hq : posOf p.1 s with
    | none => rfl
    | some q =>
      have hm := List.fst_mem_of_mem_zipIdx hp
      exact absurd ⟨p.1, hm, by rw [hq]; rfl⟩ hn
  · rintro ⟨fs, hf, e⟩ h
    obtain ⟨i, hi, rfl⟩ := List.mem_iff_getElem.1 hf
    have hz : (ds[i], i) ∈ ds.zipIdx := by
      rw [List.mem_iff_getElem]
      exact ⟨i, by simpa using hi, by simp⟩
    have := h _ hz
    rw [Option.map_eq_none_iff] at this
    rw [this] at e
    cases e
/-- A sorted row of texts that are all different IS the rising one. -/
theorem sort_terms {l m : List ByteArray} (hl : l.Nodup) (hm : UpS m) (h : ∀ x, x ∈ l ↔ x ∈ m) : ((l.map (·.data.toList)).mergeSort fun x y => decide (x ≤ y)) = m.map (·.data.toList) := by
  have hinj : ∀ x y : ByteArray, x.data.toList = y.data.toList → x = y := fun x y e => by
    apply toList_inj
    rw [ByteArray.toList_eq, ByteArray.toList_eq, e]
  have hp := List.mergeSort_perm (l.map (·.data.toList)) (fun x y => decide (x ≤ y))
  refine mem_one (r := fun x y : List UInt8 => x < y) (fun x => List.lt_irrefl x) (fun x y z h1 h2 => List.lt_trans h1 h2) (fun x => ?_) ?_ ?_
  · rw [hp.mem_iff, List.mem_map, List.mem_map]
    constructor
    · rintro ⟨y, hy, e⟩; exact ⟨y, (h y).1 hy, e⟩
    · rintro ⟨y, hy, e⟩; exact ⟨y, (h y).2 hy, e⟩
  · have hs : ((l.map (·.data.toList)).mergeSort fun x y => decide (x ≤ y)).Pairwise (fun x y => decide (x ≤ y) = true) :=
      List.pairwise_mergeSort (le := fun x y => decide (x ≤ y)) (fun a b c h1 h2 => by simp only [decide_eq_true_eq] at *; exact List.le_trans h1 h2) (fun a b => by simpa using List.le_total a b) _
    have hn : ((l.map (·.data.toList)).mergeSort fun x y => decide (x ≤ y)).Nodup := by
      rw [hp.nodup_iff]
      exact (List.pairwise_map.2 (hl.imp (fun {x y} hne e => hne (hinj x y e))))
    refine (hs.and hn).imp (fun {x y} hxy => ?_)
    obtain ⟨h1, h2⟩ := hxy
    simp only [decide_eq_true_eq] at h1
    rcases List.le_iff_lt_or_eq.1 h1 with h3 | h3
    · exact h3
    · exact absurd h3 h2
  · rw [List.pairwise_map]
    refine hm.imp (fun {x y} hxy => ?_)
    unfold ltB at hxy
    rw [bytesLess_eq, ByteArray.toList_eq, ByteArray.toList_eq] at hxy
    simpa using hxy
end Go.Proofs.YtdloacfoegjnmaaGreat.Mx
end

section
/- Places of terms that begin somehow: plain (seat k). (No program in sight.) -/
namespace Go.Proofs.YtdloacfoegjnmaaGreat.Mx
open Go.RowKit Go.Sort Go.Proofs Go.Proofs.YtdloacfoegjnmaaGreat Go.Proofs.YtdloacfoegjnmaaGreat.Ut Go.Proofs.YtdloacfoegjnmaaGreat.Tk Go.Proofs.YtdloacfoegjnmaaGreat.Qy Go.Proofs.YtdloacfoegjnmaaGreat.Ev
set_option linter.unusedVariables false
set_option linter.unusedSimpArgs false

abbrev UpN (l : List Nat) : Prop := l.Pairwise (· < ·)
theorem mrgN_up : ∀ (n : Nat) (a b : List Nat), a.length + b.length = n → UpN a → UpN b → (∀ x ∈ a, x ∉ b) → UpN (mrgN a b) ∧ ∀ x, x ∈ mrgN a b ↔ x ∈ a ∨ x ∈ b
  | n, [], b, _, _, hb, _ => by rw [nil_mrgN]; exact ⟨hb, fun x => by simp⟩
  | n, x :: a, [], _, ha, _, _ => by rw [mrgN_nil]; exact ⟨ha, fun x => by simp⟩
  | 0, x :: a, y :: b, h, _, _, _ => by simp at h
  | n + 1, x :: a, y :: b, h, ha, hb, hd => by
    obtain ⟨a1, a2⟩ := List.pairwise_cons.1 ha
    obtain ⟨b1, b2⟩ := List.pairwise_cons.1 hb
    unfold mrgN
    by_cases c : x < y
    · rw [if_pos c]
      obtain ⟨i1, i2⟩ := mrgN_up n a (y :: b) (by simp at h ⊢; omega) a2 hb (fun z hz => hd z (List.mem_cons_of_mem _ hz))
      refine ⟨List.pairwise_cons.2 ⟨fun z hz => ?_, i1⟩, fun z => ?_⟩
      · rcases (i2 z).1 hz with hz | hz
        · exact a1 z hz
        · rcases List.mem_cons.1 hz with rfl | hz
          · exact c
          · exact Nat.lt_trans c (b1 z hz)
      · rw [List.mem_cons, i2, List.mem_cons (b := x)]
        constructor
        · rintro (h | h | h)
          · exact .inl (.inl h)
          · exact .inl (.inr h)
          · exact .inr h
        · rintro ((h | h) | h)
          · exact .inl h
          · exact .inr (.inl h)
          · exact .inr (.inr h)
    · rw [if_neg c]
      have hne : x ≠ y := fun e => hd x (List.mem_cons_self ..) (by rw [e]; exact List.mem_cons_self ..)
      obtain ⟨i1, i2⟩ := mrgN_up n (x :: a) b (by simp at h ⊢; omega) ha b2 (fun z hz hzb => hd z hz (List.mem_cons_of_mem _ hzb))
      refine ⟨List.pairwise_cons.2 ⟨fun z hz => ?_, i1⟩, fun z => ?_⟩
      · rcases (i2 z).1 hz with hz | hz
        · rcases List.mem_cons.1 hz with rfl | hz
          · omega
          · have := a1 z hz; omega
        · exact b1 z hz
      · rw [List.mem_cons, i2, List.mem_cons (b := y)]
        constructor
        · rintro (h | h | h)
          · exact .inr (.inl h)
          · exact .inl h
          · exact .inr (.inr h)
        · rintro (h | h | h)
          · exact .inr (.inl h)
          · exact .inl h
          · exact .inr (.inr h)
theorem raw_strict (fs : List Fl) : (raw fs).Pairwise (fun x y => x.2 < y.2) := (raw_up fs 0).1
theorem raw_inj {fs : List Fl} {x y : T1} (hx : x ∈ raw fs) (hy : y ∈ raw fs) (h : x.2 = y.2) : x = y := by
  have hs := raw_strict fs
  obtain ⟨i, hi, rfl⟩ := List.mem_iff_getElem.1 hx
  obtain ⟨j, hj, rfl⟩ := List.mem_iff_getElem.1 hy
  rcases Nat.lt_trichotomy i j with h1 | h1 | h1
  · have := List.pairwise_iff_getElem.1 hs i j hi hj h1; omega
  · subst h1; rfl
  · have := List.pairwise_iff_getElem.1 hs j i hj hi h1; omega
theorem filt_up (fs : List Fl) (p : T1 → Bool) : UpN (((raw fs).filter p).map (·.2)) := List.pairwise_map.2 ((raw_strict fs).filter _)
theorem term_pos {fs : List Fl} {t : Tm} (h : t ∈ addAll (raw fs)) (x : Nat) : x ∈ t.2 ↔ (t.1, x) ∈ raw fs := by
  have hm := ((isTm_all (raw fs)).mem t).1 h
  rw [hm.2, List.mem_map]
  constructor
  · rintro ⟨y, hy, rfl⟩
    obtain ⟨h1, h2⟩ := List.mem_filter.1 hy
    have := of_decide_eq_true h2
    rw [← this]
    exact h1
  · intro h1
    exact ⟨(t.1, x), List.mem_filter.2 ⟨h1, decide_eq_true rfl⟩, rfl⟩
theorem term_up {fs : List Fl} {t : Tm} (h : t ∈ addAll (raw fs)) : UpN t.2 := by
  have hm := ((isTm_all (raw fs)).mem t).1 h
  rw [hm.2]
  exact filt_up fs _
theorem term_of {fs : List Fl} {y : T1} (h : y ∈ raw fs) : ∃ t ∈ addAll (raw fs), t.1 = y.1 := by
  refine ⟨(y.1, ((raw fs).filter (fun z => decide (z.1 = y.1))).map (·.2)), ((isTm_all (raw fs)).mem _).2 ⟨?_, rfl⟩, rfl⟩
  intro e
  have := List.map_eq_nil_iff.1 e
  have hy : y ∈ (raw fs).filter (fun z => decide (z.1 = y.1)) := List.mem_filter.2 ⟨h, decide_eq_true rfl⟩
  rw [this] at hy
  cases hy
theorem ofT_up (fs : List Fl) (s : ByteArray) (whole : Bool) : ∀ (n : Nat) (T : List Tm), T.length = n → (∀ t ∈ T, t ∈ addAll (raw fs)) → T.Pairwise (fun x y => x.1 ≠ y.1) → UpN (ofT s whole T) ∧ ∀ x, x ∈ ofT s whole T ↔ ∃ t ∈ T, selT s whole t.1 = true ∧ x ∈ t.2
  | 0, T, h, _, _ => by
    obtain rfl := List.length_eq_zero_iff.1 h
    exact ⟨List.Pairwise.nil, fun x => by simp [ofT]⟩
  | n + 1, T, h, hT, hp => by
    obtain ⟨dl, d, rfl⟩ : ∃ dl d, T = dl ++ [d] := by
      rcases List.eq_nil_or_concat T with h0 | ⟨dl, d, h0⟩
      · subst h0; simp at h
      · exact ⟨dl, d, by rw [h0, List.concat_eq_append]⟩
    obtain ⟨p1, p2, p3⟩ := List.pairwise_append.1 hp
    obtain ⟨i1, i2⟩ := ofT_up fs s whole n dl (by simpa using h) (fun t ht => hT t (List.mem_append_left _ ht)) p1
    have hd := hT d (by simp)
    rw [ofT_snoc]
    cases hs : selT s whole d.1 with
    | false =>
      rw [if_neg (by simp)]
      refine ⟨i1, fun x => ?_⟩
      rw [i2]
      constructor
      · rintro ⟨t, ht, h⟩; exact ⟨t, List.mem_append_left _ ht, h⟩
      · rintro ⟨t, ht, h1, h2⟩
        rcases List.mem_append.1 ht with ht | ht
        · exact ⟨t, ht, h1, h2⟩
        · rw [List.mem_singleton] at ht; subst ht; rw [hs] at h1; cases h1
    | true =>
      rw [if_pos rfl]
      obtain ⟨m1, m2⟩ := mrgN_up _ (ofT s whole dl) d.2 rfl i1 (term_up hd) (fun x hx hxd => by
        obtain ⟨t, ht, _, hxt⟩ := (i2 x).1 hx
        have h1 := (term_pos (hT t (List.mem_append_left _ ht)) x).1 hxt
        have h2 := (term_pos hd x).1 hxd
        have := raw_inj h1 h2 rfl
        injection this with e _
        exact p3 t ht d (by simp) e)
      refine ⟨m1, fun x => ?_⟩
      rw [m2, i2]
      constructor
      · rintro (⟨t, ht, h⟩ | h)
        · exact ⟨t, List.mem_append_left _ ht, h⟩
        · exact ⟨d, by simp, hs, h⟩
      · rintro ⟨t, ht, h1, h2⟩
        rcases List.mem_append.1 ht with ht | ht
        · exact .inl ⟨t, ht, h1, h2⟩
        · rw [List.mem_singleton] at ht; subst ht; exact .inr h2
theorem ofE_up (s : ByteArray) (whole : Bool) (fs : List Fl) : UpN (ofE s whole fs) ∧ ∀ x, x ∈ ofE s whole fs ↔ ∃ t ∈ addAll (raw fs), selT s whole t.1 = true ∧ x ∈ t.2 :=
  ofT_up fs s whole _ (addAll (raw fs)) rfl (fun _ h => h) (terms_ne fs)
/-- What the index' Prefix puts together at a doc. -/
def catP (b : ByteArray) (fs : List Fl) (TT : List ByteArray) : List Nat := TT.flatMap (fun s => if begB s b then (posOf fs s).getD [] else [])
theorem catP_snoc (b : ByteArray) (fs : List Fl) (TT : List ByteArray) (s : ByteArray) : catP b fs (TT ++ [s]) = catP b fs TT ++ (if begB s b then (posOf fs s).getD [] else []) := by
  simp [catP, List.flatMap_append]
theorem posOf_mem {fs : List Fl} {s : ByteArray} {x : Nat} : x ∈ (posOf fs s).getD [] ↔ (s, x) ∈ raw fs := by
  cases h : posOf fs s with
  | none =>
    simp only [Option.getD_none, List.not_mem_nil, false_iff]
    intro hm
    obtain ⟨t, ht, e⟩ := term_of hm
    have := (posOf_some fs s).2 ⟨t, ht, e⟩
    rw [h] at this
    cases this
  | some q =>
    simp only [Option.getD_some]
    unfold posOf at h
    obtain ⟨t, ht, rfl⟩ := Option.map_eq_some_iff.1 h
    have h2 := List.find?_some ht
    have h3 := of_decide_eq_true h2
    have h4 := term_pos (List.mem_of_find?_eq_some ht) x
    rw [h4, h3]
theorem posOf_nd (fs : List Fl) (s : ByteArray) : ((posOf fs s).getD []).Nodup := by
  cases h : posOf fs s with
  | none => exact List.nodup_nil
  | some q =>
    unfold posOf at h
    obtain ⟨t, ht, rfl⟩ := Option.map_eq_some_iff.1 h
    exact (term_up (List.mem_of_find?_eq_some ht)).imp (fun h => Nat.ne_of_lt h)
theorem catP_mem (b : ByteArray) (fs : List Fl) (TT : List ByteArray) (x : Nat) : x ∈ catP b fs TT ↔ ∃ s ∈ TT, begB s b = true ∧ (s, x) ∈ raw fs := by
  unfold catP
  rw [List.mem_flatMap]
  constructor
  · rintro ⟨s, hs, hx⟩
    cases hb : begB s b with
    | false => rw [hb] at hx; cases hx
    | true => rw [hb] at hx; exact ⟨s, hs, hb, posOf_mem.1 hx⟩
  · rintro ⟨s, hs, hb, hx⟩
    exact ⟨s, hs, by rw [hb]; exact posOf_mem.2 hx⟩
theorem catP_nd (b : ByteArray) (fs : List Fl) : ∀ (TT : List ByteArray), TT.Nodup → (catP b fs TT).Nodup
  | [], _ => List.nodup_nil
  | s :: TT, h => by
    obtain ⟨h1, h2⟩ := List.nodup_cons.1 h
    have e : catP b fs (s :: TT) = (if begB s b then (posOf fs s).getD [] else []) ++ catP b fs TT := by simp [catP]
    rw [e, List.nodup_append]
    refine ⟨?_, catP_nd b fs TT h2, fun x hx y hy exy => ?_⟩
    · split
      · exact posOf_nd fs s
      · exact List.nodup_nil
    · subst exy
      obtain ⟨t, ht, _, hm⟩ := (catP_mem b fs TT x).1 hy
      split at hx
      · have := raw_inj (posOf_mem.1 hx) hm rfl
        injection this with e _
        exact h1 (e ▸ ht)
      · cases hx
/-- Sorted, it is what the document tells. -/
theorem sort_cat {b : ByteArray} {fs : List Fl} {TT : List ByteArray} (hn : TT.Nodup) (hc : ∀ y ∈ raw fs, y.1 ∈ TT) : (((catP b fs TT).map (fun n => ((n : Nat) : Int))).mergeSort fun x y => decide (x ≤ y)) = (ofE b false fs).map (fun n => ((n : Nat) : Int)) := by
  obtain ⟨u1, u2⟩ := ofE_up b false fs
  have hp := List.mergeSort_perm ((catP b fs TT).map (fun n => ((n : Nat) : Int))) (fun x y => decide (x ≤ y))
  refine mem_one (r := fun x y : Int => x < y) (fun x => by omega) (fun x y z h1 h2 => by omega) (fun x => ?_) ?_ ?_
  · rw [hp.mem_iff, List.mem_map, List.mem_map]
    have key : ∀ n, n ∈ catP b fs TT ↔ n ∈ ofE b false fs := fun n => by
      rw [catP_mem, u2]
      constructor
      · rintro ⟨s, hs, hb, hm⟩
        obtain ⟨t, ht, e⟩ := term_of hm
        exact ⟨t, ht, by rw [e]; exact hb, (term_pos ht n).2 (by rw [e]; exact hm)⟩
      · rintro ⟨t, ht, hs, hx⟩
        have hm := (term_pos ht n).1 hx
        exact ⟨t.1, hc _ hm, hs, hm⟩
    constructor
    · rintro ⟨y, hy, e⟩; exact ⟨y, (key y).1 hy, e⟩
    · rintro ⟨y, hy, e⟩; exact ⟨y, (key y).2 hy, e⟩
  · have hs : (((catP b fs TT).map (fun n => ((n : Nat) : Int))).mergeSort fun x y => decide (x ≤ y)).Pairwise (fun x y => decide (x ≤ y) = true) :=
      List.pairwise_mergeSort (le := fun x y => decide (x ≤ y)) (fun a b c h1 h2 => by simp only [decide_eq_true_eq] at *; omega) (fun a b => by simp only [Bool.or_eq_true, decide_eq_true_eq]; omega) _
    have hnd : (((catP b fs TT).map (fun n => ((n : Nat) : Int))).mergeSort fun x y => decide (x ≤ y)).Nodup := by
      rw [hp.nodup_iff]
      exact List.pairwise_map.2 ((catP_nd b fs TT hn).imp (fun {x y} hne e => hne (by omega)))
    refine (hs.and hnd).imp (fun {x y} hxy => ?_)
    obtain ⟨h1, h2⟩ := hxy
    simp only [decide_eq_true_eq] at h1
    omega
  · exact List.pairwise_map.2 (u1.imp (fun {x y} h => by omega))
theorem catP_empty {b : ByteArray} {fs : List Fl} {TT : List ByteArray} (hc : ∀ y ∈ raw fs, y.1 ∈ TT) : catP b fs TT = [] ↔ ofE b false fs = [] := by
  have u2 := (ofE_up b false fs).2
  constructor
  · intro h
    refine List.eq_nil_iff_forall_not_mem.2 (fun n hn => ?_)
    obtain ⟨t, ht, hs, hx⟩ := (u2 n).1 hn
    have hm := (term_pos ht n).1 hx
    have : n ∈ catP b fs TT := (catP_mem b fs TT n).2 ⟨t.1, hc _ hm, hs, hm⟩
    rw [h] at this
    cases this
  · intro h
    refine List.eq_nil_iff_forall_not_mem.2 (fun n hn => ?_)
    obtain ⟨s, hs, hb, hm⟩ := (catP_mem b fs TT n).1 hn
    obtain ⟨t, ht, e⟩ := term_of hm
    have : n ∈ ofE b false fs := (u2 n).2 ⟨t, ht, by rw [e]; exact hb, (term_pos ht n).2 (by rw [e]; exact hm)⟩
    rw [h] at this
    cases this
/-- Where places lie. -/
theorem raw_bd : ∀ (fs : List Fl) (b : Nat), (∀ f ∈ fs, f.2.size ≤ 4096) → ∀ x ∈ (basedL b fs).flatMap rawO, x.2 < b + fs.length * 4160
  | [], b, _, x, hx => (nomatch hx)
  | f :: fs, b, h, x, hx => by
    simp only [basedL, List.flatMap_cons] at hx
    have hw := words_len f.2
    have h1 := h f (List.mem_cons_self ..)
    rw [List.length_cons, Nat.add_mul, Nat.one_mul]
    rcases List.mem_append.1 hx with hx | hx
    · have := ((rawO_up (b, f)).2 x hx).2
      simp only at this
      omega
    · have := raw_bd fs _ (fun g hg => h g (List.mem_cons_of_mem _ hg)) x hx
      omega
theorem ofE_bd {fs : List Fl} (h : chkE fs = 0) (s : ByteArray) (whole : Bool) : ∀ x ∈ ofE s whole fs, x ≤ 1048575 := fun x hx => by
  obtain ⟨t, ht, _, hm⟩ := ((ofE_up s whole fs).2 x).1 hx
  have h1 := (term_pos ht x).1 hm
  have hk := chkE_ok h
  have h2 := raw_bd fs 0 (fun f hf => (hk.2 f hf).2.2) _ h1
  have h3 : fs.length * 4160 ≤ 16 * 4160 := Nat.mul_le_mul_right _ hk.1
  simp only at h2
  omega
end Go.Proofs.YtdloacfoegjnmaaGreat.Mx
end

section
/- Counts of words: plain. No program in sight (but for the cells of a row). -/
namespace Go.Proofs.YtdloacfoegjnmaaGreat.Gr
open Go.RowKit Go.Proofs.YtdloacfoegjnmaaGreat Go.Proofs.YtdloacfoegjnmaaGreat.Ut Go.Proofs.YtdloacfoegjnmaaGreat.Tk
set_option linter.unusedVariables false
set_option linter.unusedSimpArgs false

/-- A word, and how many. -/
abbrev Ct := ByteArray × Int
def ctC (l : List Ct) : List Value := l.flatMap fun c => [.string c.1, .int .i64 c.2]
theorem ctC_len (l : List Ct) : (ctC l).length = l.length * 2 := by
  induction l with
  | nil => rfl
  | cons f fs ih => simp [ctC] at *; omega
theorem ctC_app (l m : List Ct) : ctC (l ++ m) = ctC l ++ ctC m := by simp [ctC]
theorem ctC_snoc (l : List Ct) (c : Ct) : ctC (l ++ [c]) = ctC l ++ [.string c.1, .int .i64 c.2] := by simp [ctC]
theorem ctC_get : ∀ (l : List Ct) (k : Nat) (h : k < l.length), (ctC l)[k * 2]? = some (.string l[k].1) ∧ (ctC l)[k * 2 + 1]? = some (.int .i64 l[k].2)
  | f :: fs, 0, _ => ⟨rfl, rfl⟩
  | f :: fs, k + 1, h => by
    have ih := ctC_get fs k (by simpa using h)
    have e1 : (k + 1) * 2 = k * 2 + 2 := by omega
    have e2 : (k + 1) * 2 + 1 = (k * 2 + 1) + 2 := by omega
    rw [e2, e1]
    exact ih
theorem ctC_one (l : List Ct) : ∀ u ∈ ctC l, u.oneCell' = true := by
  intro u hu
  unfold ctC at hu
  obtain ⟨f, _, hf⟩ := List.mem_flatMap.1 hu
  simp at hf
  rcases hf with rfl | rfl <;> rfl
theorem cts_at {w : World} {B n : Nat} {A : Option Addr} {l : List Ct} (h : Reads w B 2 A n (ctC l)) {k : Nat} (hk : k < l.length) :
    ∃ b o, A = some ⟨b, o, none⟩ ∧ b < B ∧ w.cell? ⟨b, o + k * 2, none⟩ = some (.string l[k].1) ∧ w.cell? ⟨b, o + k * 2 + 1, none⟩ = some (.int .i64 l[k].2) := by
  have hl := h.1
  rw [ctC_len] at hl
  obtain ⟨b, o, e, hb, hc⟩ := h.2 (by omega)
  have g := ctC_get l k hk
  refine ⟨b, o, e, hb, hc _ _ g.1, ?_⟩
  have := hc _ _ g.2
  rwa [← Nat.add_assoc] at this
theorem cts_len {w : World} {B n : Nat} {A : Option Addr} {l : List Ct} (h : Reads w B 2 A n (ctC l)) : l.length = n := by
  have := h.1
  rw [ctC_len] at this
  omega

def cut60 (s : ByteArray) : ByteArray := s.extract 0 60
theorem cut60_size (s : ByteArray) : (cut60 s).size ≤ 60 := by unfold cut60; rw [ByteArray.size_extract]; omega
theorem cut60_few (s : ByteArray) (h : s.size ≤ 60) : cut60 s = s := by
  unfold cut60
  rw [← of_str (s.extract 0 60), Lib.extract_data, List.drop_zero, List.take_of_length_le (by rw [bsize]; omega), of_str]
def shortR (l : List Ct) : List Ct := (l.take 30).map fun c => (cut60 c.1, c.2)
theorem shortR_len (l : List Ct) : (shortR l).length ≤ 30 := by unfold shortR; rw [List.length_map, List.length_take]; omega
theorem shortR_sz (l : List Ct) : ∀ c ∈ shortR l, c.1.size ≤ 60 := by
  intro c hc
  obtain ⟨x, _, rfl⟩ := List.mem_map.1 hc
  exact cut60_size _

/-- What one count must be, the one before it known. -/
def ltS (a b : ByteArray) : Bool := Op.bytesLess a.toList b.toList
def okK (l : List Ct) (k : Nat) : Bool :=
  match l[k]? with
  | none => true
  | some c => isW c.1.data.toList && decide (1 ≤ c.2) && decide (c.2 ≤ 1099511627776) && (decide (k = 0) || (match l[k - 1]? with | none => true | some p => ltS p.1 c.1))
def okR (l : List Ct) : Bool := (List.range l.length).all (okK l)
theorem okR_no {l : List Ct} {k : Nat} (hk : k < l.length) (h : okK l k = false) : okR l = false := by
  unfold okR
  rw [List.all_eq_false]
  exact ⟨k, List.mem_range.2 hk, by rw [h]; decide⟩
theorem okR_yes {l : List Ct} (h : ∀ k, k < l.length → okK l k = true) : okR l = true := by
  unfold okR
  rw [List.all_eq_true]
  exact fun k hk => h k (List.mem_range.1 hk)
theorem okK_eq {l : List Ct} {k : Nat} (hk : k < l.length) : okK l k = (isW l[k].1.data.toList && decide (1 ≤ l[k].2) && decide (l[k].2 ≤ 1099511627776) && (decide (k = 0) || ltS (l[k - 1]'(by omega)).1 l[k].1)) := by
  unfold okK
  rw [List.getElem?_eq_getElem hk, List.getElem?_eq_getElem (show k - 1 < l.length by omega)]

/-- The sum, as a machine makes it. -/
def totR (l : List Ct) : Int := l.foldl (fun n c => IntKind.i64.wrap (n + c.2)) 0
theorem totR_snoc (l : List Ct) (k : Nat) (h : k < l.length) : totR (l.take (k + 1)) = IntKind.i64.wrap (totR (l.take k) + l[k].2) := by
  unfold totR
  rw [List.take_succ_eq_append_getElem h, List.foldl_append]
  rfl

/-- A row of the call's own. -/
def CtPost (ty : TypeId) (w : World) (l : List Ct) (e : Ending) (w' : World) : Prop := ∃ v, e = .returned v ∧ w'.ownsRow w.heap.size ty 2 v l.length (ctC l) ∧ Below w.heap.size w w'
/-- The same, on the way. -/
structure Cts (ty : TypeId) (w wr : World) (v : Value) (l : List Ct) : Prop where
  own : wr.ownsRow w.heap.size ty 2 v l.length (ctC l)
  bel : Below w.heap.size w wr
theorem Cts.start (ty : TypeId) (w : World) : Cts ty w w (.slice none 0 0) [] := ⟨World.ownsRow_nil _ _ _ _, Below.refl _ _⟩
theorem Cts.below {ty : TypeId} {w wr w2 : World} {v : Value} {l : List Ct} (h : Cts ty w wr v l) (hb : Below wr.heap.size wr w2) : Cts ty w w2 v l := ⟨h.own.kept (grow_of_below hb none) (by cases hv : v.ownBlock <;> simp), h.bel.trans (hb.mono h.bel.size)⟩
theorem Cts.put {ty : TypeId} {w wr w2 : World} {v v' : Value} {l : List Ct} {x : Ct} (h : Cts ty w wr v l)
    (hp : w2.ownsRow w.heap.size ty 2 v' (l.length + 1) (ctC l ++ [.string x.1, .int .i64 x.2])) (hg : wr.grownBy w2 v.ownBlock) : Cts ty w w2 v' (l ++ [x]) := by
  refine ⟨?_, h.bel.grown hg h.bel.size (fun k hk => (h.own.lt k hk).1)⟩
  rw [ctC_snoc, List.length_append]
  exact hp
theorem rcount_info : (Tryz.prog.info? 87).map (fun i => (i.zero, i.size, i.bytes)) = some (some (.agg #[.string ByteArray.empty, .int .i64 0]), 2, 24) := by kernel_rfl
theorem gcount_info : (Tryz.prog.info? 62).map (fun i => (i.zero, i.size, i.bytes)) = some (some (.agg #[.string ByteArray.empty, .int .i64 0]), 2, 24) := by kernel_rfl
end Go.Proofs.YtdloacfoegjnmaaGreat.Gr
end

section
/- SLICED by slice.py -/
/- loggialaw30.short, of; Total, twice: the walks. -/
namespace Go.Proofs.YtdloacfoegjnmaaGreat.Gr
open Go.RowKit Go.Proofs.YtdloacfoegjnmaaGreat Go.Proofs.YtdloacfoegjnmaaGreat.Ut Go.Proofs.YtdloacfoegjnmaaGreat.Tk
set_option linter.unusedVariables false
set_option maxRecDepth 20000
set_option linter.unusedSimpArgs false

end Go.Proofs.YtdloacfoegjnmaaGreat.Gr
end

section
/- SLICED by slice.py -/
/- loggialaw30.of; Total, twice: the walks (printed by gen_grb.py). -/
namespace Go.Proofs.YtdloacfoegjnmaaGreat.Gr
open Go.RowKit Go.Proofs.YtdloacfoegjnmaaGreat Go.Proofs.YtdloacfoegjnmaaGreat.Ut Go.Proofs.YtdloacfoegjnmaaGreat.Tk
set_option maxRecDepth 20000
set_option linter.unusedSimpArgs false
set_option linter.unusedVariables false

set_option maxHeartbeats 1600000 in
theorem total_any (A : Option Addr) (n c : Nat) (l : List Ct) (w : World) (hR : Reads w w.heap.size 2 A n (ctC l)) (hn : n ≤ 8796093021952) :
    Calls Tryz.prog 17 #[.slice A n c] w fun e w' => e = .returned (.int .i64 (totR l)) ∧ Below w.heap.size w w' := by
  have hl := cts_len hR
  have HR := Lib.hid hR
  have Hl := Lib.hid hl
  clear hR hl
  go_enter Tryz.func17, Tryz.ntmps17
  go_wp2_with fail
  go_loopw [3, 8] (fun v i wr => ∃ k : Nat, k ≤ n ∧ i = .int .i64 (k : Nat) ∧ v = .int .i64 (totR (l.take k)) ∧ Below w.heap.size w wr) (fun _ i _ => n - (intOf i).toNat)
  case atStart => exact ⟨0, Nat.zero_le _, rfl, rfl, Below.refl _ _⟩
  case round =>
    obtain ⟨k, hk, rfl, rfl, hb⟩ := hrel
    by_cases hlt : k < n
    · have hki : (k : Int) < (n : Int) := by omega
      have hki0 : (0 : Int) ≤ (k : Int) := by omega
      have hkl : k < l.length := by rw [Hl.out]; exact hlt
      obtain ⟨tb, tq, rfl, htb, hd1, hd2⟩ := cts_at HR.out hkl
      have hc1 := (hb.cell (p := ⟨tb, tq + k * 2, none⟩) htb).trans hd1
      have hc2 := (hb.cell (p := ⟨tb, tq + k * 2 + 1, none⟩) htb).trans hd2
      have hts := totR_snoc l k hkl
      have Hts := Lib.hid hts
      have Hb := Lib.hid hb
      clear hd1 hd2 hts
      generalize l[k] = xx at *
      obtain ⟨x, y⟩ := xx
      generalize totR (l.take k) = T at *
      have hsum : IntKind.i64.wrap (T + y) = totR (l.take (k + 1)) := Hts.out.symm
      simp only at hc1 hc2
      generalize hT1 : totR (l.take (k + 1)) = T1 at *
      have HT1 := Lib.hid hT1
      clear Hts hT1
      go_wp2
      go_roundw
      case rel => exact ⟨k + 1, by omega, by go_num, by rw [HT1.out], Hb.out.alloc Hb.out.size _⟩
      case measure => simp [intOf]; omega
    · have h1 : (n : Int) ≤ (k : Int) := by omega
      have hall : l.take k = l := List.take_of_length_le (by rw [Hl.out]; omega)
      have Hb := Lib.hid hb
      rw [hall]
      clear hb hall
      go_wp2
      go_ret
      exact ⟨rfl, Hb.out⟩

end Go.Proofs.YtdloacfoegjnmaaGreat.Gr
end
