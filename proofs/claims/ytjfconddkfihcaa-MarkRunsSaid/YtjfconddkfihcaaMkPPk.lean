/- Where a text's words stand: plain. No program. -/
import Derived.Test.YtjfconddkfihcaaPkMatchTellsRow3
namespace Go.Proofs.Ytjfconddkfihcaa.Mk
open Go.RowKit Go.Proofs.Ytjfconddkfihcaa Go.Proofs.Ytjfconddkfihcaa.Ut

def tailS (f : Option Nat) (k : Nat) : List (Nat × Nat) := match f with | none => [] | some a => [(a, k)]
def spF : Nat → List UInt8 → Nat → Option Nat → List (Nat × Nat)
  | 0, _, k, f => tailS f k
  | n + 1, l, k, f => if l = [] then tailS f k else
    if isWord ((dec l).1 : Int) then spF n (l.drop (dec l).2) (k + (dec l).2) (some (f.getD k)) else tailS f k ++ spF n (l.drop (dec l).2) (k + (dec l).2) none
/-- The spans of the runs of what is left, from place k on; a run may have begun. -/
def sp (l : List UInt8) (k : Nat) (f : Option Nat) : List (Nat × Nat) := spF l.length l k f
theorem spF_eq : ∀ (n m : Nat) (l : List UInt8) (k : Nat) (f : Option Nat), l.length ≤ n → l.length ≤ m → spF n l k f = spF m l k f
  | 0, 0, _, _, _, _, _ => rfl
  | 0, m + 1, l, k, f, h, _ => by
    obtain rfl : l = [] := List.length_eq_zero_iff.1 (by omega)
    simp [spF]
  | n + 1, 0, l, k, f, _, h => by
    obtain rfl : l = [] := List.length_eq_zero_iff.1 (by omega)
    simp [spF]
  | n + 1, m + 1, l, k, f, h1, h2 => by
    unfold spF
    by_cases hl : l = []
    · rw [if_pos hl, if_pos hl]
    · rw [if_neg hl, if_neg hl]
      have hd := dec_size l hl
      have h3 : (l.drop (dec l).2).length = l.length - (dec l).2 := List.length_drop
      rw [spF_eq n m _ _ _ (by omega) (by omega), spF_eq n m _ _ _ (by omega) (by omega)]
theorem sp_nil (k : Nat) (f : Option Nat) : sp [] k f = tailS f k := rfl
theorem sp_word (l : List UInt8) (k : Nat) (f : Option Nat) (h : l ≠ []) (hw : isWord ((dec l).1 : Int) = true) : sp l k f = sp (l.drop (dec l).2) (k + (dec l).2) (some (f.getD k)) := by
  have hd := dec_size l h
  have h3 : (l.drop (dec l).2).length = l.length - (dec l).2 := List.length_drop
  unfold sp
  obtain ⟨n, hn⟩ : ∃ n, l.length = n + 1 := ⟨l.length - 1, by omega⟩
  rw [hn, spF, if_neg h, if_pos hw]
  exact spF_eq _ _ _ _ _ (by omega) (Nat.le_refl _)
theorem sp_gap (l : List UInt8) (k : Nat) (f : Option Nat) (h : l ≠ []) (hw : isWord ((dec l).1 : Int) = false) : sp l k f = tailS f k ++ sp (l.drop (dec l).2) (k + (dec l).2) none := by
  have hd := dec_size l h
  have h3 : (l.drop (dec l).2).length = l.length - (dec l).2 := List.length_drop
  unfold sp
  obtain ⟨n, hn⟩ : ∃ n, l.length = n + 1 := ⟨l.length - 1, by omega⟩
  rw [hn, spF, if_neg h, hw, if_neg (by decide)]
  rw [spF_eq n _ _ _ none (by omega) (Nat.le_refl _)]
/-- One span a word. -/
theorem sp_len : ∀ (n : Nat) (l : List UInt8) (k : Nat) (f : Option Nat) (c : List Nat), l.length ≤ n → (f = none ↔ c = []) → (sp l k f).length = (Tk.runs c (runes l)).length := by
  intro n
  induction n with
  | zero =>
    intro l k f c h hf
    obtain rfl : l = [] := List.length_eq_zero_iff.1 (by omega)
    rw [sp_nil, runes_nil, Tk.runs_nil]
    unfold tailS Tk.last
    cases f with
    | none => rw [if_pos (hf.1 rfl)]; rfl
    | some a => rw [if_neg (fun e => by have := hf.2 e; cases this)]; rfl
  | succ n ih =>
    intro l k f c h hf
    by_cases hl : l = []
    · subst hl
      rw [sp_nil, runes_nil, Tk.runs_nil]
      unfold tailS Tk.last
      cases f with
      | none => rw [if_pos (hf.1 rfl)]; rfl
      | some a => rw [if_neg (fun e => by have := hf.2 e; cases this)]; rfl
    · have hd := dec_size l hl
      have h3 : (l.drop (dec l).2).length = l.length - (dec l).2 := List.length_drop
      rw [runes_cons l hl, Tk.runs_cons]
      cases hw : isWord ((dec l).1 : Int)
      · rw [sp_gap l k f hl hw, if_neg (by decide), List.length_append, List.length_append, ih _ _ none [] (by omega) (by simp)]
        congr 1
        unfold tailS Tk.last
        cases f with
        | none => rw [if_pos (hf.1 rfl)]; rfl
        | some a => rw [if_neg (fun e => by have := hf.2 e; cases this)]; rfl
      · rw [sp_word l k f hl hw, if_pos rfl]
        exact ih _ _ _ _ (by omega) (by simp)
theorem sp_words (s : List UInt8) : (sp s 0 none).length = (Tk.words s).length := by
  unfold Tk.words
  rw [List.length_map]
  exact sp_len s.length s 0 none [] (Nat.le_refl _) (by simp)
/-- Spans that rise, from place e on, in a text of n bytes. -/
def okS (e n : Nat) : List (Nat × Nat) → Prop
  | [] => True
  | x :: t => e ≤ x.1 ∧ x.1 < x.2 ∧ x.2 ≤ n ∧ okS x.2 n t
theorem okS_from {e e' n : Nat} (h : e' ≤ e) : ∀ {l : List (Nat × Nat)}, okS e n l → okS e' n l
  | [], _ => trivial
  | _ :: _, ⟨h1, h2, h3, h4⟩ => ⟨Nat.le_trans h h1, h2, h3, h4⟩
theorem sp_ok : ∀ (n : Nat) (l : List UInt8) (k : Nat) (f : Option Nat) (e : Nat), l.length ≤ n → (∀ a, f = some a → e ≤ a ∧ a < k) → e ≤ k → okS e (k + l.length) (sp l k f) := by
  intro n
  induction n with
  | zero =>
    intro l k f e h hf he
    obtain rfl : l = [] := List.length_eq_zero_iff.1 (by omega)
    rw [sp_nil]
    cases f with
    | none => trivial
    | some a => exact ⟨(hf a rfl).1, (hf a rfl).2, Nat.le_refl _, trivial⟩
  | succ n ih =>
    intro l k f e h hf he
    by_cases hl : l = []
    · subst hl
      rw [sp_nil]
      cases f with
      | none => trivial
      | some a => exact ⟨(hf a rfl).1, (hf a rfl).2, Nat.le_refl _, trivial⟩
    · have hd := dec_size l hl
      have h3 : (l.drop (dec l).2).length = l.length - (dec l).2 := List.length_drop
      have h4 : k + (dec l).2 + (l.drop (dec l).2).length = k + l.length := by omega
      cases hw : isWord ((dec l).1 : Int)
      · rw [sp_gap l k f hl hw]
        have hr := ih (l.drop (dec l).2) (k + (dec l).2) none k (by omega) (fun a h => by cases h) (by omega)
        rw [h4] at hr
        cases f with
        | none => exact okS_from he hr
        | some a => exact ⟨(hf a rfl).1, (hf a rfl).2, by omega, hr⟩
      · rw [sp_word l k f hl hw]
        have hr := ih (l.drop (dec l).2) (k + (dec l).2) (some (f.getD k)) e (by omega) (fun a h => by
          injection h with h
          subst h
          cases f with
          | none => simp; omega
          | some a => have := hf a rfl; simp; omega) (by omega)
        rw [h4] at hr
        exact hr
theorem spans_ok (s : List UInt8) : okS 0 s.length (sp s 0 none) := by
  have := sp_ok s.length s 0 none 0 (Nat.le_refl _) (fun a h => by cases h) (Nat.le_refl _)
  rwa [Nat.zero_add] at this
theorem okS_get {n : Nat} : ∀ {e : Nat} {l : List (Nat × Nat)}, okS e n l → ∀ i (h : i < l.length), e ≤ l[i].1 ∧ l[i].1 < l[i].2 ∧ l[i].2 ≤ n ∧ ∀ h' : i + 1 < l.length, l[i].2 ≤ l[i + 1].1
  | e, x :: t, h, 0, _ => ⟨h.1, h.2.1, h.2.2.1, fun h' => by
    have := okS_get h.2.2.2 0 (by simpa using h')
    exact this.1⟩
  | e, x :: t, h, i + 1, hi => by
    have := okS_get h.2.2.2 i (by simpa using hi)
    have h1 := h.1
    have h2 := h.2.1
    refine ⟨by simp only [List.getElem_cons_succ]; omega, this.2.1, this.2.2.1, fun h' => this.2.2.2 (by simpa using h')⟩
theorem sp_count (s : List UInt8) : (sp s 0 none).length ≤ s.length := by
  rw [sp_words]
  unfold Tk.words
  rw [List.length_map]
  have h1 : ∀ (l c : List Nat), (Tk.runs c l).length ≤ l.length + (if c = [] then 0 else 1) := by
    intro l
    induction l with
    | nil => intro c; rw [Tk.runs_nil]; unfold Tk.last; split <;> simp
    | cons r t ih =>
      intro c
      rw [Tk.runs_cons]
      split
      · have := ih (c ++ [r])
        rw [if_neg (by simp)] at this
        rw [List.length_cons]
        split <;> omega
      · have := ih []
        rw [if_pos rfl] at this
        rw [List.length_append, List.length_cons]
        unfold Tk.last
        by_cases hc : c = []
        · rw [if_pos hc, if_pos hc, List.length_nil]; omega
        · rw [if_neg hc, if_neg hc, List.length_singleton]; omega
  have h2 := h1 (runes s) []
  have h3 := runes_len s
  rw [if_pos rfl] at h2
  omega
/-- Spans as cells. -/
def spC (l : List (Nat × Nat)) : List Value := l.flatMap fun x => [.int .i64 (x.1 : Nat), .int .i64 (x.2 : Nat)]
theorem spC_snoc (l : List (Nat × Nat)) (x : Nat × Nat) : spC (l ++ [x]) = spC l ++ [.int .i64 (x.1 : Nat), .int .i64 (x.2 : Nat)] := by simp [spC]
theorem spC_len (l : List (Nat × Nat)) : (spC l).length = l.length * 2 := by
  induction l with
  | nil => rfl
  | cons f fs ih => simp [spC] at *; omega
theorem spC_get : ∀ (l : List (Nat × Nat)) (k : Nat) (h : k < l.length), (spC l)[k * 2]? = some (.int .i64 (l[k].1 : Nat)) ∧ (spC l)[k * 2 + 1]? = some (.int .i64 (l[k].2 : Nat))
  | f :: fs, 0, _ => ⟨rfl, rfl⟩
  | f :: fs, k + 1, h => by
    have ih := spC_get fs k (by simpa using h)
    have e1 : (k + 1) * 2 = k * 2 + 2 := by omega
    have e2 : (k + 1) * 2 + 1 = (k * 2 + 1) + 2 := by omega
    rw [e2, e1]
    exact ih
end Go.Proofs.Ytjfconddkfihcaa.Mk
