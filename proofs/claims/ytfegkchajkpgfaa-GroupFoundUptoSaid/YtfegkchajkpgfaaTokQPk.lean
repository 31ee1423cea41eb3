/- Plain facts on words of words, folded texts, names and terms. No program. -/
import Derived.Test.YtfegkchajkpgfaaPkGroupRowsRow10
namespace Go.Proofs.Ytfegkchajkpgfaa.Tk
open Go.RowKit Go.Proofs.Ytfegkchajkpgfaa.Ut

/-- A rune, lower case. -/
def low (r : Nat) : Nat := (lower (r : Int)).toNat
theorem low_cast (r : Nat) (h : Ut.Good r) : ((low r : Nat) : Int) = lower (r : Int) := Int.toNat_of_nonneg (lower_good r h).1
theorem low_good (r : Nat) (h : Ut.Good r) : Ut.Good (low r) := (lower_good r h).2
theorem low_word (r : Nat) (h : Ut.Good r) : isWord (low r : Nat) = isWord (r : Int) := by rw [low_cast r h, lower_word]
theorem low_low (r : Nat) (h : Ut.Good r) : lower ((low r : Nat) : Int) = lower (r : Int) := by rw [low_cast r h, lower_lower]
/-- How many runes of a word are told. -/
def wordN (a : List UInt8) : List Nat → Nat
  | [] => 0
  | r :: t => if 32 < a.length + (enc (lower (r : Int))).length then 0 else wordN (a ++ enc (lower (r : Int))) t + 1
theorem wordN_cons (a : List UInt8) (r : Nat) (t : List Nat) : wordN a (r :: t) = if 32 < a.length + (enc (lower (r : Int))).length then 0 else wordN (a ++ enc (lower (r : Int))) t + 1 := rfl
theorem wordGo_take : ∀ (l : List Nat) (a : List UInt8), wordGo a (l.take (wordN a l)) = wordGo a l
  | [], a => rfl
  | r :: t, a => by
    rw [wordN_cons, wordGo_cons]
    split
    · rename_i h
      simp only [List.take_zero]
      rfl
    · rename_i h
      rw [List.take_succ_cons, wordGo_cons, if_neg h, wordGo_take]
theorem wordGo_enc : ∀ (l : List Nat) (a : List UInt8), wordGo a l = a ++ encode ((ints (l.take (wordN a l))).map lower)
  | [], a => by simp [wordGo, ints, encode]
  | r :: t, a => by
    rw [wordN_cons, wordGo_cons]
    split
    · simp [ints, encode]
    · rw [List.take_succ_cons, wordGo_enc t]
      simp [ints, encode]
theorem wordN_pos (r : Nat) (t : List Nat) : 1 ≤ wordN [] (r :: t) := by
  rw [wordN_cons, if_neg (by have := (enc_len (lower (r : Int))).2; simp; omega)]
  omega
theorem wordGo_low : ∀ (l : List Nat) (a : List UInt8), (∀ r ∈ l, Ut.Good r) → wordGo a (l.map low) = wordGo a l
  | [], a, _ => rfl
  | r :: t, a, h => by
    rw [List.map_cons, wordGo_cons, wordGo_cons, low_low r (h r (by simp)), wordGo_low t _ (fun x hx => h x (by simp [hx]))]
theorem word_low (l : List Nat) (h : ∀ r ∈ l, Ut.Good r) : word (l.map low) = word l := wordGo_low l [] h
/-- The runes of a word that are told. -/
def told (l : List Nat) : List Nat := (l.take (wordN [] l)).map low
theorem word_told (l : List Nat) (h : ∀ r ∈ l, Ut.Good r) : word (told l) = word l := by
  unfold told
  rw [word_low _ (fun r hr => h r (List.mem_of_mem_take hr))]
  exact wordGo_take l []
theorem runes_word (l : List Nat) (h : ∀ r ∈ l, Ut.Good r) (t : List UInt8) : runes (word l ++ t) = told l ++ runes t := by
  have e : word l = encode ((ints (l.take (wordN [] l))).map lower) := by
    have := wordGo_enc l []
    rw [List.nil_append] at this
    exact this
  rw [e, runes_encode, fix_lower _ (fun r hr => h r (List.mem_of_mem_take hr))]
  rfl
theorem told_ne (l : List Nat) (h : l ≠ []) : told l ≠ [] := by
  obtain ⟨r, t, rfl⟩ : ∃ r t, l = r :: t := by cases l with | nil => exact absurd rfl h | cons r t => exact ⟨r, t, rfl⟩
  intro e
  have h1 := wordN_pos r t
  have h2 := congrArg List.length e
  unfold told at h2
  rw [List.length_map, List.length_take, List.length_cons, List.length_nil] at h2
  omega
/-- A run of runes: some, all of words. -/
def Run (l : List Nat) : Prop := l ≠ [] ∧ (∀ r ∈ l, Ut.Good r) ∧ ∀ r ∈ l, isWord (r : Int) = true
theorem told_run (l : List Nat) (h : Run l) : Run (told l) := by
  refine ⟨told_ne l h.1, ?_, ?_⟩
  · intro r hr
    unfold told at hr
    obtain ⟨x, hx, rfl⟩ := List.mem_map.1 hr
    exact low_good x (h.2.1 x (List.mem_of_mem_take hx))
  · intro r hr
    unfold told at hr
    obtain ⟨x, hx, rfl⟩ := List.mem_map.1 hr
    rw [low_word x (h.2.1 x (List.mem_of_mem_take hx))]
    exact h.2.2 x (List.mem_of_mem_take hx)
theorem runs_all : ∀ (m c x : List Nat), (∀ r ∈ m, isWord (r : Int) = true) → runs c (m ++ x) = runs (c ++ m) x
  | [], c, x, _ => by simp
  | r :: m, c, x, h => by
    rw [List.cons_append, runs_cons, h r (by simp), if_pos rfl, runs_all m (c ++ [r]) x (fun y hy => h y (by simp [hy]))]
    simp
theorem runs_sep (m x : List Nat) (b : Nat) (h : Run m) (hb : isWord (b : Int) = false) : runs [] (m ++ b :: x) = m :: runs [] x := by
  rw [runs_all m [] _ h.2.2, List.nil_append, runs_cons, hb, if_neg (by decide)]
  rw [last, if_neg h.1]; rfl
theorem runs_one (m : List Nat) (h : Run m) : runs [] m = [m] := by
  have := runs_all m [] [] h.2.2
  rw [List.append_nil] at this
  rw [this, List.nil_append, runs_nil]
  rw [last, if_neg h.1]
theorem runs_are : ∀ (l c : List Nat), (∀ r ∈ l, Ut.Good r) → (∀ r ∈ c, Ut.Good r ∧ isWord (r : Int) = true) → ∀ m ∈ runs c l, Run m
  | [], c, _, hc, m, hm => by
    rw [runs_nil] at hm
    unfold last at hm
    split at hm
    · cases hm
    · simp only [List.mem_singleton] at hm
      subst hm
      exact ⟨by assumption, fun r hr => (hc r hr).1, fun r hr => (hc r hr).2⟩
  | r :: t, c, hl, hc, m, hm => by
    rw [runs_cons] at hm
    split at hm
    · rename_i hw
      refine runs_are t (c ++ [r]) (fun x hx => hl x (by simp [hx])) (fun x hx => ?_) m hm
      rcases List.mem_append.1 hx with hx | hx
      · exact hc x hx
      · simp only [List.mem_singleton] at hx
        subst hx
        exact ⟨hl x (by simp), hw⟩
    · rcases List.mem_append.1 hm with hm | hm
      · unfold last at hm
        split at hm
        · cases hm
        · simp only [List.mem_singleton] at hm
          subst hm
          exact ⟨by assumption, fun r hr => (hc r hr).1, fun r hr => (hc r hr).2⟩
      · exact runs_are t [] (fun x hx => hl x (by simp [hx])) (fun x hx => by cases hx) m hm
theorem text_runs (s : List UInt8) : ∀ m ∈ runs [] (runes s), Run m := runs_are _ _ (runes_good s) (fun x hx => by cases hx)
/-- Words, a blank behind each. -/
def joined (ws : List (List UInt8)) : List UInt8 := ws.flatMap (· ++ [32])
theorem joined_cons (w : List UInt8) (ws : List (List UInt8)) : joined (w :: ws) = w ++ 32 :: joined ws := by simp [joined]
theorem joined_snoc (w : List UInt8) (ws : List (List UInt8)) : joined (ws ++ [w]) = joined ws ++ (w ++ [32]) := by simp [joined]
theorem runes_blank (t : List UInt8) : runes (32 :: t) = 32 :: runes t := by
  rw [runes_cons _ (by simp)]
  have e : dec (32 :: t) = (32, 1) := by rw [dec_cons]; simp
  rw [e]; rfl
theorem blank_no : isWord ((32 : Nat) : Int) = false := by decide
theorem runs_joined : ∀ (L : List (List Nat)), (∀ m ∈ L, Run m) → runs [] (runes (joined (L.map word))) = L.map told
  | [], _ => rfl
  | m :: L, h => by
    rw [List.map_cons, joined_cons, runes_word m (h m (by simp)).2.1, runes_blank, runs_sep _ _ _ (told_run m (h m (by simp))) blank_no,
      runs_joined L (fun x hx => h x (by simp [hx])), List.map_cons]
theorem words_joined (s : List UInt8) : words (joined (words s)) = words s := by
  unfold words
  rw [runs_joined _ (text_runs s), List.map_map]
  exact List.map_congr_left fun m hm => word_told m (text_runs s m hm).2.1
theorem words_word (s : List UInt8) : ∀ w ∈ words s, words w = [w] ∧ w.length ≤ 32 := by
  intro w hw
  unfold words at hw
  obtain ⟨m, hm, rfl⟩ := List.mem_map.1 hw
  have hr := text_runs s m hm
  refine ⟨?_, word_len m⟩
  have e := runes_word m hr.2.1 []
  rw [List.append_nil, runes_nil, List.append_nil] at e
  unfold words
  rw [e, runs_one _ (told_run m hr)]
  show [word (told m)] = [word m]
  rw [word_told m hr.2.1]
theorem runs_low : ∀ (l c : List Nat), (∀ r ∈ l, Ut.Good r) → runs (c.map low) (l.map low) = (runs c l).map (List.map low)
  | [], c, _ => by
    rw [List.map_nil, runs_nil, runs_nil]
    unfold last
    by_cases h : c = []
    · subst h; rfl
    · rw [if_neg h, if_neg (by simpa using h)]; rfl
  | r :: t, c, h => by
    rw [List.map_cons, runs_cons, runs_cons, low_word r (h r (by simp))]
    by_cases hw : isWord (r : Int) = true
    · rw [if_pos hw, if_pos hw, ← runs_low t (c ++ [r]) (fun x hx => h x (by simp [hx]))]
      simp
    · rw [if_neg hw, if_neg hw, List.map_append, ← runs_low t [] (fun x hx => h x (by simp [hx]))]
      congr 1
      unfold last
      by_cases hc : c = []
      · subst hc; rfl
      · rw [if_neg hc, if_neg (by simpa using hc)]; rfl
theorem words_fold (s : List UInt8) : words (fold s) = words s := by
  unfold words
  have e : runes (fold s) = (runes s).map low := runes_fold s
  have h := runs_low (runes s) [] (runes_good s)
  rw [List.map_nil] at h
  rw [e, h, List.map_map]
  exact List.map_congr_left fun m hm => word_low m (text_runs s m hm).2.1

/-- Is a text a word? -/
def isW (s : List UInt8) : Bool := words s == [s]
theorem isW_len (s : List UInt8) (h : 32 < s.length) : isW s = false := by
  unfold isW
  rw [beq_eq_false_iff_ne]
  intro e
  have := (words_word s s (by rw [e]; simp)).2
  omega
/-- Is a byte one of a name? Is a text a name? -/
def nameB (c : UInt8) : Bool := c.toNat == 95 || (decide (48 ≤ c.toNat) && decide (c.toNat ≤ 57)) || (decide (97 ≤ c.toNat) && decide (c.toNat ≤ 122))
def isN (s : List UInt8) : Bool := decide (1 ≤ s.length) && decide (s.length ≤ 32) && s.all nameB
/-- Where the first colon stands, or the text's length. -/
def colonAt (s : List UInt8) : Nat := s.findIdx (· == 58)
/-- A term's name, and its word. -/
def term (a b : List UInt8) : List UInt8 := a ++ 58 :: b
def splitOk (s : List UInt8) : Bool := decide (colonAt s < s.length) && isN (s.take (colonAt s)) && isW (s.drop (colonAt s + 1))
theorem isN_no (a : List UInt8) (h : isN a = true) : ∀ x ∈ a, (x == 58) = false := by
  intro x hx
  unfold isN at h
  rw [Bool.and_eq_true, List.all_eq_true] at h
  have hb := h.2 x hx
  rw [beq_eq_false_iff_ne]
  rintro rfl
  revert hb
  decide
theorem colonAt_term (a b : List UInt8) (h : isN a = true) : colonAt (term a b) = a.length := by
  have hn := isN_no a h
  unfold colonAt term
  clear h
  induction a with
  | nil => simp [List.findIdx_cons]
  | cons x a ih =>
    rw [List.cons_append, List.findIdx_cons, hn x (by simp), cond_false, ih (fun y hy => hn y (by simp [hy])), List.length_cons]
theorem split_term (a b : List UInt8) (h : isN a = true) (hb : isW b = true) : splitOk (term a b) = true ∧ (term a b).take (colonAt (term a b)) = a ∧ (term a b).drop (colonAt (term a b) + 1) = b := by
  have e := colonAt_term a b h
  have e1 : (term a b).take a.length = a := by unfold term; simp
  have e2 : (term a b).drop (a.length + 1) = b := by unfold term; simp
  unfold splitOk
  rw [e, e1, e2, h, hb]
  refine ⟨?_, rfl, rfl⟩
  simp [term]
theorem split_back (s : List UInt8) (h : splitOk s = true) : term (s.take (colonAt s)) (s.drop (colonAt s + 1)) = s := by
  unfold splitOk at h
  simp only [Bool.and_eq_true, decide_eq_true_eq] at h
  have h1 : (s[colonAt s]'h.1.1 == 58) = true := by
    have := List.findIdx_getElem (p := (· == 58)) (xs := s) (w := h.1.1)
    exact this
  unfold term
  rw [← (beq_iff_eq.1 h1), ← List.drop_eq_getElem_cons h.1.1, List.take_append_drop]
end Go.Proofs.Ytfegkchajkpgfaa.Tk
