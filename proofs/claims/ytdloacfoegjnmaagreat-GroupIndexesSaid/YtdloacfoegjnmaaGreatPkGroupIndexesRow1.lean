/- Plain facts on runes: what stands at a text's head, all runes, a rune's bytes, lower case. No program. -/
import Derived.Test.YtdloacfoegjnmaaGreatProg
import Derived.Lib.Hide
import Derived.Lib.Strings
import Derived.Test.YtdloacfoegjnmaaGreatPkGroupIndexesRow0
section
namespace Go.Proofs.YtdloacfoegjnmaaGreat.Ut
open Go.RowKit

def cont (b : UInt8) : Bool := b.toNat / 64 == 2
def acc (n : Nat) (l : List UInt8) : Nat := l.foldl (fun n x => n * 64 + x.toNat % 64) n
theorem acc_nil (n : Nat) : acc n [] = n := rfl
theorem acc_snoc (n : Nat) (l : List UInt8) (x : UInt8) : acc n (l ++ [x]) = acc n l * 64 + x.toNat % 64 := by
  unfold acc; rw [List.foldl_append]; rfl
/-- Is it a rune of that form? -/
def fits (m : Nat) (t : List UInt8) (k lo hi : Nat) : Bool :=
  decide (k - 1 ≤ t.length) && ((t.take (k - 1)).all cont && (decide (lo ≤ acc m (t.take (k - 1))) && (decide (acc m (t.take (k - 1)) ≤ hi) && !(decide (55296 ≤ acc m (t.take (k - 1))) && decide (acc m (t.take (k - 1)) ≤ 57343)))))
def form (m : Nat) (t : List UInt8) (k lo hi : Nat) : Nat × Nat := if fits m t k lo hi then (acc m (t.take (k - 1)), k) else (65533, 1)
/-- The rune at a text's head, and its size. -/
def dec : List UInt8 → Nat × Nat
  | [] => (0, 0)
  | b :: t =>
    if b.toNat < 128 then (b.toNat, 1)
    else if b.toNat / 32 = 6 then form (b.toNat % 32) t 2 128 2047
    else if b.toNat / 16 = 14 then form (b.toNat % 16) t 3 2048 65535
    else if b.toNat / 8 = 30 then form (b.toNat % 8) t 4 65536 1114111
    else (65533, 1)
theorem dec_cons (b : UInt8) (t : List UInt8) : dec (b :: t) =
    if b.toNat < 128 then (b.toNat, 1)
    else if b.toNat / 32 = 6 then form (b.toNat % 32) t 2 128 2047
    else if b.toNat / 16 = 14 then form (b.toNat % 16) t 3 2048 65535
    else if b.toNat / 8 = 30 then form (b.toNat % 8) t 4 65536 1114111
    else (65533, 1) := rfl
theorem form_size (m : Nat) (t : List UInt8) (k lo hi : Nat) (hk : 1 ≤ k) (hk4 : k ≤ 4) : 1 ≤ (form m t k lo hi).2 ∧ (form m t k lo hi).2 ≤ t.length + 1 ∧ (form m t k lo hi).2 ≤ 4 := by
  unfold form
  by_cases h : fits m t k lo hi = true
  · rw [if_pos h]
    simp only [fits, Bool.and_eq_true, decide_eq_true_eq] at h
    have h1 := h.1
    exact ⟨hk, by show k ≤ _; omega, hk4⟩
  · rw [if_neg h]
    exact ⟨Nat.le_refl _, by show 1 ≤ _; omega, by decide⟩
theorem dec_size (l : List UInt8) (h : l ≠ []) : 1 ≤ (dec l).2 ∧ (dec l).2 ≤ l.length ∧ (dec l).2 ≤ 4 := by
  match l, h with
  | b :: t, _ =>
    rw [dec_cons]
    by_cases h1 : b.toNat < 128
    · rw [if_pos h1]; simp
    · rw [if_neg h1]
      by_cases h2 : b.toNat / 32 = 6
      · rw [if_pos h2]; exact form_size _ _ _ _ _ (by omega) (by omega)
      · rw [if_neg h2]
        by_cases h3 : b.toNat / 16 = 14
        · rw [if_pos h3]; exact form_size _ _ _ _ _ (by omega) (by omega)
        · rw [if_neg h3]
          by_cases h4 : b.toNat / 8 = 30
          · rw [if_pos h4]; exact form_size _ _ _ _ _ (by omega) (by omega)
          · rw [if_neg h4]; simp
theorem form_rune (m : Nat) (t : List UInt8) (k lo hi : Nat) (hhi : hi ≤ 1114111) : (form m t k lo hi).1 ≤ 1114111 ∧ ¬ (55296 ≤ (form m t k lo hi).1 ∧ (form m t k lo hi).1 ≤ 57343) := by
  unfold form
  by_cases h : fits m t k lo hi = true
  · rw [if_pos h]
    simp only [fits, Bool.and_eq_true, decide_eq_true_eq, Bool.not_eq_true', Bool.and_eq_false_iff, decide_eq_false_iff_not] at h
    obtain ⟨_, _, _, h4, h5⟩ := h
    refine ⟨by show acc _ _ ≤ _; omega, ?_⟩
    show ¬ (55296 ≤ acc _ _ ∧ acc _ _ ≤ 57343)
    omega
  · rw [if_neg h]; simp
/-- What stands at a text's head is a rune that has bytes. -/
theorem dec_rune (l : List UInt8) : (dec l).1 ≤ 1114111 ∧ ¬ (55296 ≤ (dec l).1 ∧ (dec l).1 ≤ 57343) := by
  match l with
  | [] => simp [dec]
  | b :: t =>
    rw [dec_cons]
    by_cases h1 : b.toNat < 128
    · rw [if_pos h1]; simp; omega
    · rw [if_neg h1]
      by_cases h2 : b.toNat / 32 = 6
      · rw [if_pos h2]; exact form_rune _ _ _ _ _ (by omega)
      · rw [if_neg h2]
        by_cases h3 : b.toNat / 16 = 14
        · rw [if_pos h3]; exact form_rune _ _ _ _ _ (by omega)
        · rw [if_neg h3]
          by_cases h4 : b.toNat / 8 = 30
          · rw [if_pos h4]; exact form_rune _ _ _ _ _ (by omega)
          · rw [if_neg h4]; simp

/-- All runes. -/
def runesF : Nat → List UInt8 → List Nat
  | 0, _ => []
  | n + 1, l => if l = [] then [] else (dec l).1 :: runesF n (l.drop (dec l).2)
def runes (l : List UInt8) : List Nat := runesF l.length l
theorem runesF_eq : ∀ (n m : Nat) (l : List UInt8), l.length ≤ n → l.length ≤ m → runesF n l = runesF m l
  | 0, 0, _, _, _ => rfl
  | 0, m + 1, l, h, _ => by
    have : l = [] := List.eq_nil_of_length_eq_zero (by omega)
    subst this; simp [runesF]
  | n + 1, 0, l, _, h => by
    have : l = [] := List.eq_nil_of_length_eq_zero (by omega)
    subst this; simp [runesF]
  | n + 1, m + 1, l, h1, h2 => by
    unfold runesF
    by_cases h : l = []
    · rw [if_pos h, if_pos h]
    · rw [if_neg h, if_neg h]
      have := dec_size l h
      rw [runesF_eq n m (l.drop (dec l).2) (by rw [List.length_drop]; omega) (by rw [List.length_drop]; omega)]
theorem runes_nil : runes [] = [] := rfl
theorem runes_cons (l : List UInt8) (h : l ≠ []) : runes l = (dec l).1 :: runes (l.drop (dec l).2) := by
  have hs := dec_size l h
  have hl : 0 < l.length := by
    rcases l with _ | ⟨a, t⟩
    · exact absurd rfl h
    · simp
  obtain ⟨n, hn⟩ : ∃ n, l.length = n + 1 := ⟨l.length - 1, by omega⟩
  unfold runes
  rw [hn]
  show (if l = [] then [] else (dec l).1 :: runesF n (l.drop (dec l).2)) = _
  rw [if_neg h, runesF_eq n (l.drop (dec l).2).length _ (by rw [List.length_drop]; omega) (Nat.le_refl _)]
theorem runes_len (l : List UInt8) : (runes l).length ≤ l.length := by
  have key : ∀ (n : Nat) (l : List UInt8), l.length ≤ n → (runesF n l).length ≤ l.length := by
    intro n
    induction n with
    | zero => intro l _; simp [runesF]
    | succ n ih =>
      intro l hl
      unfold runesF
      by_cases h : l = []
      · rw [if_pos h]; simp
      · rw [if_neg h]
        have hs := dec_size l h
        have := ih (l.drop (dec l).2) (by rw [List.length_drop]; omega)
        rw [List.length_drop] at this
        simp only [List.length_cons]
        omega
  exact key _ l (Nat.le_refl _)
/-- Every rune of a text has bytes. -/
def Good (r : Nat) : Prop := r ≤ 1114111 ∧ ¬ (55296 ≤ r ∧ r ≤ 57343)
theorem runes_good (l : List UInt8) : ∀ r ∈ runes l, Good r := by
  have key : ∀ (n : Nat) (l : List UInt8), ∀ r ∈ runesF n l, Good r := by
    intro n
    induction n with
    | zero => intro l r h; simp [runesF] at h
    | succ n ih =>
      intro l r h
      unfold runesF at h
      by_cases he : l = []
      · rw [if_pos he] at h; simp at h
      · rw [if_neg he] at h
        rcases List.mem_cons.1 h with rfl | h
        · exact dec_rune l
        · exact ih _ r h
  exact key _ l

/-- A rune that has no bytes is told as the wrong one. -/
def fix (r : Int) : Nat := if r < 0 ∨ 1114111 < r ∨ (55296 ≤ r ∧ r ≤ 57343) then 65533 else r.toNat
theorem fix_good (r : Int) : Good (fix r) := by
  unfold fix Good
  by_cases h : r < 0 ∨ 1114111 < r ∨ (55296 ≤ r ∧ r ≤ 57343)
  · rw [if_pos h]; omega
  · rw [if_neg h]; omega
theorem fix_of_good (r : Nat) (h : Good r) : fix r = r := by
  unfold fix Good at *
  rw [if_neg (by omega)]; omega
def B (n : Nat) : UInt8 := UInt8.ofNat n
theorem B_toNat (n : Nat) (h : n < 256) : (B n).toNat = n := by
  unfold B; rw [UInt8.toNat_ofNat']; exact Nat.mod_eq_of_lt (by simpa using h)
/-- A rune's bytes. -/
def encN (r : Nat) : List UInt8 :=
  if r < 128 then [B r]
  else if r < 2048 then [B (192 + r / 64), B (128 + r % 64)]
  else if r < 65536 then [B (224 + r / 4096), B (128 + r / 64 % 64), B (128 + r % 64)]
  else [B (240 + r / 262144), B (128 + r / 4096 % 64), B (128 + r / 64 % 64), B (128 + r % 64)]
def enc (r : Int) : List UInt8 := encN (fix r)
def encode (rs : List Int) : List UInt8 := rs.flatMap enc
theorem encode_nil : encode [] = [] := rfl
theorem encode_snoc (rs : List Int) (r : Int) : encode (rs ++ [r]) = encode rs ++ enc r := by simp [encode]
theorem enc_len (r : Int) : 1 ≤ (enc r).length ∧ (enc r).length ≤ 4 := by
  unfold enc encN
  by_cases h1 : fix r < 128
  · rw [if_pos h1]; simp
  · rw [if_neg h1]
    by_cases h2 : fix r < 2048
    · rw [if_pos h2]; simp
    · rw [if_neg h2]
      by_cases h3 : fix r < 65536
      · rw [if_pos h3]; simp
      · rw [if_neg h3]; simp
theorem encode_len (rs : List Int) : (encode rs).length ≤ 4 * rs.length := by
  induction rs with
  | nil => simp [encode]
  | cons r rs ih =>
    have := enc_len r
    have e : encode (r :: rs) = enc r ++ encode rs := by simp [encode]
    rw [e, List.length_append, List.length_cons]
    omega

/-- There and back: what stands at the head of a rune's bytes is the rune. -/
theorem dec_enc (r : Nat) (h : Good r) (t : List UInt8) : dec (encN r ++ t) = (r, (encN r).length) := by
  unfold Good at h
  unfold encN
  by_cases h1 : r < 128
  · rw [if_pos h1]
    simp only [List.cons_append, List.nil_append, dec, B_toNat r (by omega), if_pos h1, List.length_singleton]
  · rw [if_neg h1]
    by_cases h2 : r < 2048
    · rw [if_pos h2]
      simp only [List.cons_append, List.nil_append, dec, B_toNat (192 + r / 64) (by omega)]
      rw [if_neg (by omega), if_pos (by omega)]
      have e1 := B_toNat (128 + r % 64) (by omega)
      have ea : acc ((192 + r / 64) % 32) ((B (128 + r % 64) :: t).take 1) = r := by
        simp only [List.take_succ_cons, List.take_zero, acc, List.foldl_cons, List.foldl_nil, e1]
        omega
      have ef : fits ((192 + r / 64) % 32) (B (128 + r % 64) :: t) 2 128 2047 = true := by
        simp only [fits, show 2 - 1 = 1 from rfl, ea, Bool.and_eq_true, decide_eq_true_eq, Bool.not_eq_true', Bool.and_eq_false_iff, decide_eq_false_iff_not]
        refine ⟨by simp, ?_, by omega, by omega, by omega⟩
        simp only [List.take_succ_cons, List.take_zero, List.all_cons, List.all_nil, Bool.and_true, cont, e1, beq_iff_eq]
        omega
      unfold form
      rw [if_pos ef, show 2 - 1 = 1 from rfl, ea]
      rfl
    · rw [if_neg h2]
      by_cases h3 : r < 65536
      · rw [if_pos h3]
        simp only [List.cons_append, List.nil_append, dec, B_toNat (224 + r / 4096) (by omega)]
        rw [if_neg (by omega), if_neg (by omega), if_pos (by omega)]
        have e1 := B_toNat (128 + r / 64 % 64) (by omega)
        have e2 := B_toNat (128 + r % 64) (by omega)
        have ea : acc ((224 + r / 4096) % 16) ((B (128 + r / 64 % 64) :: B (128 + r % 64) :: t).take 2) = r := by
          simp only [List.take_succ_cons, List.take_zero, acc, List.foldl_cons, List.foldl_nil, e1, e2]
          omega
        have ef : fits ((224 + r / 4096) % 16) (B (128 + r / 64 % 64) :: B (128 + r % 64) :: t) 3 2048 65535 = true := by
          simp only [fits, show 3 - 1 = 2 from rfl, ea, Bool.and_eq_true, decide_eq_true_eq, Bool.not_eq_true', Bool.and_eq_false_iff, decide_eq_false_iff_not]
          refine ⟨by simp, ?_, by omega, by omega, by omega⟩
          simp only [List.take_succ_cons, List.take_zero, List.all_cons, List.all_nil, Bool.and_true, cont, e1, e2, beq_iff_eq, Bool.and_eq_true]
          omega
        unfold form
        rw [if_pos ef, show 3 - 1 = 2 from rfl, ea]
        rfl
      · rw [if_neg h3]
        simp only [List.cons_append, List.nil_append, dec, B_toNat (240 + r / 262144) (by omega)]
        rw [if_neg (by omega), if_neg (by omega), if_neg (by omega), if_pos (by omega)]
        have e1 := B_toNat (128 + r / 4096 % 64) (by omega)
        have e2 := B_toNat (128 + r / 64 % 64) (by omega)
        have e3 := B_toNat (128 + r % 64) (by omega)
        have ea : acc ((240 + r / 262144) % 8) ((B (128 + r / 4096 % 64) :: B (128 + r / 64 % 64) :: B (128 + r % 64) :: t).take 3) = r := by
          simp only [List.take_succ_cons, List.take_zero, acc, List.foldl_cons, List.foldl_nil, e1, e2, e3]
          omega
        have ef : fits ((240 + r / 262144) % 8) (B (128 + r / 4096 % 64) :: B (128 + r / 64 % 64) :: B (128 + r % 64) :: t) 4 65536 1114111 = true := by
          simp only [fits, show 4 - 1 = 3 from rfl, ea, Bool.and_eq_true, decide_eq_true_eq, Bool.not_eq_true', Bool.and_eq_false_iff, decide_eq_false_iff_not]
          refine ⟨by simp, ?_, by omega, by omega, by omega⟩
          simp only [List.take_succ_cons, List.take_zero, List.all_cons, List.all_nil, Bool.and_true, cont, e1, e2, e3, beq_iff_eq, Bool.and_eq_true]
          omega
        unfold form
        rw [if_pos ef, show 4 - 1 = 3 from rfl, ea]
        rfl
theorem encN_ne (r : Nat) : encN r ≠ [] := by
  unfold encN
  by_cases h1 : r < 128
  · rw [if_pos h1]; simp
  · rw [if_neg h1]
    by_cases h2 : r < 2048
    · rw [if_pos h2]; simp
    · rw [if_neg h2]
      by_cases h3 : r < 65536
      · rw [if_pos h3]; simp
      · rw [if_neg h3]; simp
/-- The runes of runes' bytes. -/
theorem runes_encode (rs : List Int) (t : List UInt8) : runes (encode rs ++ t) = rs.map fix ++ runes t := by
  induction rs with
  | nil => rfl
  | cons r rs ih =>
    have e : encode (r :: rs) ++ t = encN (fix r) ++ (encode rs ++ t) := by simp [encode, enc]
    rw [e, runes_cons _ (by simp [encN_ne]), dec_enc _ (fix_good r), List.drop_left, ih]
    rfl

/-- Lower case. -/
def lower (r : Int) : Int :=
  if (65 ≤ r ∧ r ≤ 90) ∨ (192 ≤ r ∧ r ≤ 222 ∧ r ≠ 215) ∨ (913 ≤ r ∧ r ≤ 939 ∧ r ≠ 930) ∨ (1040 ≤ r ∧ r ≤ 1071) then r + 32
  else if 1024 ≤ r ∧ r ≤ 1039 then r + 80 else r
/-- A part of a word. -/
def isWord (r : Int) : Bool :=
  decide ((48 ≤ r ∧ r ≤ 57) ∨ (65 ≤ r ∧ r ≤ 90) ∨ (97 ≤ r ∧ r ≤ 122) ∨ (192 ≤ r ∧ r ≤ 255 ∧ r ≠ 215 ∧ r ≠ 247) ∨ (913 ≤ r ∧ r ≤ 974 ∧ r ≠ 930) ∨ (1024 ≤ r ∧ r ≤ 1119))
theorem lower_lower (r : Int) : lower (lower r) = lower r := by
  unfold lower
  repeat' split
  all_goals omega
theorem lower_good (r : Nat) (h : Good r) : 0 ≤ lower r ∧ Good (lower r).toNat := by
  unfold lower Good at *
  repeat' split
  all_goals omega
theorem lower_word (r : Int) : isWord (lower r) = isWord r := by
  unfold lower isWord
  rw [Bool.eq_iff_iff]
  simp only [decide_eq_true_eq]
  repeat' split
  all_goals omega
def ints (l : List Nat) : List Int := l.map Int.ofNat
/-- A text in lower case. -/
def fold (l : List UInt8) : List UInt8 := encode ((ints (runes l)).map lower)
def valid (l : List UInt8) : Bool := encode (ints (runes l)) == l
theorem fix_ints (l : List Nat) (h : ∀ r ∈ l, Good r) : (ints l).map fix = l := by
  unfold ints
  rw [List.map_map]
  conv => rhs; rw [← List.map_id l]
  exact List.map_congr_left fun r hr => fix_of_good r (h r hr)
theorem fix_lower (l : List Nat) (h : ∀ r ∈ l, Good r) : ((ints l).map lower).map fix = l.map (fun r : Nat => (lower (r : Int)).toNat) := by
  unfold ints
  rw [List.map_map, List.map_map]
  refine List.map_congr_left fun r hr => ?_
  have hg := lower_good r (h r hr)
  show fix (lower (r : Int)) = _
  have := fix_of_good _ hg.2
  rwa [Int.toNat_of_nonneg hg.1] at this
theorem runes_fold (l : List UInt8) : runes (fold l) = (runes l).map (fun r : Nat => (lower (r : Int)).toNat) := by
  have := runes_encode ((ints (runes l)).map lower) []
  rw [List.append_nil, runes_nil, List.append_nil, fix_lower _ (runes_good l)] at this
  exact this
theorem fold_fold (l : List UInt8) : fold (fold l) = fold l := by
  unfold fold
  congr 1
  have e := runes_fold l
  unfold fold at e
  rw [e]
  unfold ints
  rw [List.map_map, List.map_map, List.map_map]
  refine List.map_congr_left fun r hr => ?_
  have hg := lower_good r (runes_good l r hr)
  show lower (Int.ofNat (lower (r : Int)).toNat) = lower (r : Int)
  rw [show Int.ofNat (lower (r : Int)).toNat = lower (r : Int) from Int.toNat_of_nonneg hg.1, lower_lower]
theorem valid_fold (l : List UInt8) : valid (fold l) = true := by
  unfold valid
  rw [beq_iff_eq, runes_fold]
  unfold fold ints
  congr 1
  rw [List.map_map, List.map_map]
  refine List.map_congr_left fun r hr => ?_
  exact Int.toNat_of_nonneg (lower_good r (runes_good l r hr)).1
theorem valid_encode (rs : List Int) : valid (encode rs) = true := by
  have e := runes_encode rs []
  rw [List.append_nil, runes_nil, List.append_nil] at e
  unfold valid
  rw [beq_iff_eq, e]
  unfold encode ints
  clear e
  induction rs with
  | nil => rfl
  | cons r rs ih =>
    rw [List.map_cons, List.map_cons, List.flatMap_cons, List.flatMap_cons, ih]
    congr 1
    show encN (fix (fix r : Nat)) = encN (fix r)
    rw [fix_of_good _ (fix_good r)]
end Go.Proofs.YtdloacfoegjnmaaGreat.Ut
end

section
/- Plain facts on words of texts. No program. -/
namespace Go.Proofs.YtdloacfoegjnmaaGreat.Tk
open Go.RowKit Go.Proofs.YtdloacfoegjnmaaGreat.Ut

/-- A word of runes, cut: as many runes, lower case, as have 32 bytes at most. -/
def wordGo (a : List UInt8) : List Nat → List UInt8
  | [] => a
  | r :: t => if 32 < a.length + (enc (lower (r : Int))).length then a else wordGo (a ++ enc (lower (r : Int))) t
def word (l : List Nat) : List UInt8 := wordGo [] l
theorem wordGo_cons (a : List UInt8) (r : Nat) (t : List Nat) : wordGo a (r :: t) = if 32 < a.length + (enc (lower (r : Int))).length then a else wordGo (a ++ enc (lower (r : Int))) t := rfl
theorem wordGo_len : ∀ (l : List Nat) (a : List UInt8), a.length ≤ 32 → (wordGo a l).length ≤ 32
  | [], a, h => h
  | r :: t, a, h => by
    rw [wordGo_cons]
    split
    · exact h
    · exact wordGo_len t _ (by rw [List.length_append]; omega)
theorem word_len (l : List Nat) : (word l).length ≤ 32 := wordGo_len l [] (by simp)
/-- The runs of runes that are parts of words. -/
def last (c : List Nat) : List (List Nat) := if c = [] then [] else [c]
def runs (c : List Nat) : List Nat → List (List Nat)
  | [] => last c
  | r :: t => if isWord (r : Int) then runs (c ++ [r]) t else last c ++ runs [] t
theorem runs_nil (c : List Nat) : runs c [] = last c := rfl
theorem runs_cons (c : List Nat) (r : Nat) (t : List Nat) : runs c (r :: t) = if isWord (r : Int) then runs (c ++ [r]) t else last c ++ runs [] t := rfl
theorem runs_end : ∀ (l c : List Nat) (b : Nat), isWord (b : Int) = false → runs c (l ++ [b]) = runs c l
  | [], c, b, h => by
    rw [List.nil_append, runs_cons, h, if_neg (by decide), runs_nil, runs_nil]
    simp [last]
  | r :: t, c, b, h => by
    rw [List.cons_append, runs_cons, runs_cons, runs_end t _ b h, runs_end t _ b h]
/-- A text's words. -/
def words (s : List UInt8) : List (List UInt8) := (runs [] (runes s)).map word
end Go.Proofs.YtdloacfoegjnmaaGreat.Tk
end

section
/- Plain facts on words of words, folded texts, names and terms. No program. -/
namespace Go.Proofs.YtdloacfoegjnmaaGreat.Tk
open Go.RowKit Go.Proofs.YtdloacfoegjnmaaGreat.Ut

/-- A rune, lower case. -/
def low (r : Nat) : Nat := (lower (r : Int)).toNat
theorem low_cast (r : Nat) (h : Ut.Good r) : ((low r : Nat) : Int) = lower (r : Int) := Int.toNat_of_nonneg (lower_good r h).1
theorem low_good (r : Nat) (h : Ut.Good r) : Ut.Good (low r) := (lower_good r h).2
theorem low_word (r : Nat) (h : Ut.Good r) : isWord (low r : Nat) = isWord (r : Int) := by rw [low_cast r h, lower_word]
theorem low_low (r : Nat) (h : Ut.Good r) : lower ((low r : Nat) : Int) = lower (r : Int) := by rw [low_cast r h, lower_lower]
/-- How many runes of a word are told. -/
def wordN (a : List UInt8) : List Nat → Nat
  | [] => 0
  | r :: t => if 32 < a.length + (enc (lower (r : Int))).length then 0 else wordN (a ++ enc (lower (r : Int))) t + 1
theorem wordN_cons (a : List UInt8) (r : Nat) (t : List Nat) : wordN a (r :: t) = if 32 < a.length + (enc (lower (r : Int))).length then 0 else wordN (a ++ enc (lower (r : Int))) t + 1 := rfl
theorem wordGo_take : ∀ (l : List Nat) (a : List UInt8), wordGo a (l.take (wordN a l)) = wordGo a l
  | [], a => rfl
  | r :: t, a => by
    rw [wordN_cons, wordGo_cons]
    split
    · rename_i h
      simp only [List.take_zero]
      rfl
    · rename_i h
      rw [List.take_succ_cons, wordGo_cons, if_neg h, wordGo_take]
theorem wordGo_enc : ∀ (l : List Nat) (a : List UInt8), wordGo a l = a ++ encode ((ints (l.take (wordN a l))).map lower)
  | [], a => by simp [wordGo, ints, encode]
  | r :: t, a => by
    rw [wordN_cons, wordGo_cons]
    split
    · simp [ints, encode]
    · rw [List.take_succ_cons, wordGo_enc t]
      simp [ints, encode]
theorem wordN_pos (r : Nat) (t : List Nat) : 1 ≤ wordN [] (r :: t) := by
  rw [wordN_cons, if_neg (by have := (enc_len (lower (r : Int))).2; simp; omega)]
  omega
theorem wordGo_low : ∀ (l : List Nat) (a : List UInt8), (∀ r ∈ l, Ut.Good r) → wordGo a (l.map low) = wordGo a l
  | [], a, _ => rfl
  | r :: t, a, h => by
    rw [List.map_cons, wordGo_cons, wordGo_cons, low_low r (h r (by simp)), wordGo_low t _ (fun x hx => h x (by simp [hx]))]
theorem word_low (l : List Nat) (h : ∀ r ∈ l, Ut.Good r) : word (l.map low) = word l := wordGo_low l [] h
/-- The runes of a word that are told. -/
def told (l : List Nat) : List Nat := (l.take (wordN [] l)).map low
theorem word_told (l : List Nat) (h : ∀ r ∈ l, Ut.Good r) : word (told l) = word l := by
  unfold told
  rw [word_low _ (fun r hr => h r (List.mem_of_mem_take hr))]
  exact wordGo_take l []
theorem runes_word (l : List Nat) (h : ∀ r ∈ l, Ut.Good r) (t : List UInt8) : runes (word l ++ t) = told l ++ runes t := by
  have e : word l = encode ((ints (l.take (wordN [] l))).map lower) := by
    have := wordGo_enc l []
    rw [List.nil_append] at this
    exact this
  rw [e, runes_encode, fix_lower _ (fun r hr => h r (List.mem_of_mem_take hr))]
  rfl
theorem told_ne (l : List Nat) (h : l ≠ []) : told l ≠ [] := by
  obtain ⟨r, t, rfl⟩ : ∃ r t, l = r :: t := by cases l with | nil => exact absurd rfl h | cons r t => exact ⟨r, t, rfl⟩
  intro e
  have h1 := wordN_pos r t
  have h2 := congrArg List.length e
  unfold told at h2
  rw [List.length_map, List.length_take, List.length_cons, List.length_nil] at h2
  omega
/-- A run of runes: some, all of words. -/
def Run (l : List Nat) : Prop := l ≠ [] ∧ (∀ r ∈ l, Ut.Good r) ∧ ∀ r ∈ l, isWord (r : Int) = true
theorem told_run (l : List Nat) (h : Run l) : Run (told l) := by
  refine ⟨told_ne l h.1, ?_, ?_⟩
  · intro r hr
    unfold told at hr
    obtain ⟨x, hx, rfl⟩ := List.mem_map.1 hr
    exact low_good x (h.2.1 x (List.mem_of_mem_take hx))
  · intro r hr
    unfold told at hr
    obtain ⟨x, hx, rfl⟩ := List.mem_map.1 hr
    rw [low_word x (h.2.1 x (List.mem_of_mem_take hx))]
    exact h.2.2 x (List.mem_of_mem_take hx)
theorem runs_all : ∀ (m c x : List Nat), (∀ r ∈ m, isWord (r : Int) = true) → runs c (m ++ x) = runs (c ++ m) x
  | [], c, x, _ => by simp
  | r :: m, c, x, h => by
    rw [List.cons_append, runs_cons, h r (by simp), if_pos rfl, runs_all m (c ++ [r]) x (fun y hy => h y (by simp [hy]))]
    simp
theorem runs_sep (m x : List Nat) (b : Nat) (h : Run m) (hb : isWord (b : Int) = false) : runs [] (m ++ b :: x) = m :: runs [] x := by
  rw [runs_all m [] _ h.2.2, List.nil_append, runs_cons, hb, if_neg (by decide)]
  rw [last, if_neg h.1]; rfl
theorem runs_one (m : List Nat) (h : Run m) : runs [] m = [m] := by
  have := runs_all m [] [] h.2.2
  rw [List.append_nil] at this
  rw [this, List.nil_append, runs_nil]
  rw [last, if_neg h.1]
theorem runs_are : ∀ (l c : List Nat), (∀ r ∈ l, Ut.Good r) → (∀ r ∈ c, Ut.Good r ∧ isWord (r : Int) = true) → ∀ m ∈ runs c l, Run m
  | [], c, _, hc, m, hm => by
    rw [runs_nil] at hm
    unfold last at hm
    split at hm
    · cases hm
    · simp only [List.mem_singleton] at hm
      subst hm
      exact ⟨by assumption, fun r hr => (hc r hr).1, fun r hr => (hc r hr).2⟩
  | r :: t, c, hl, hc, m, hm => by
    rw [runs_cons] at hm
    split at hm
    · rename_i hw
      refine runs_are t (c ++ [r]) (fun x hx => hl x (by simp [hx])) (fun x hx => ?_) m hm
      rcases List.mem_append.1 hx with hx | hx
      · exact hc x hx
      · simp only [List.mem_singleton] at hx
        subst hx
        exact ⟨hl x (by simp), hw⟩
    · rcases List.mem_append.1 hm with hm | hm
      · unfold last at hm
        split at hm
        · cases hm
        · simp only [List.mem_singleton] at hm
          subst hm
          exact ⟨by assumption, fun r hr => (hc r hr).1, fun r hr => (hc r hr).2⟩
      · exact runs_are t [] (fun x hx => hl x (by simp [hx])) (fun x hx => by cases hx) m hm
theorem text_runs (s : List UInt8) : ∀ m ∈ runs [] (runes s), Run m := runs_are _ _ (runes_good s) (fun x hx => by cases hx)
/-- Words, a blank behind each. -/
def joined (ws : List (List UInt8)) : List UInt8 := ws.flatMap (· ++ [32])
theorem joined_cons (w : List UInt8) (ws : List (List UInt8)) : joined (w :: ws) = w ++ 32 :: joined ws := by simp [joined]
theorem joined_snoc (w : List UInt8) (ws : List (List UInt8)) : joined (ws ++ [w]) = joined ws ++ (w ++ [32]) := by simp [joined]
theorem runes_blank (t : List UInt8) : runes (32 :: t) = 32 :: runes t := by
  rw [runes_cons _ (by simp)]
  have e : dec (32 :: t) = (32, 1) := by rw [dec_cons]; simp
  rw [e]; rfl
theorem blank_no : isWord ((32 : Nat) : Int) = false := by decide
theorem runs_joined : ∀ (L : List (List Nat)), (∀ m ∈ L, Run m) → runs [] (runes (joined (L.map word))) = L.map told
  | [], _ => rfl
  | m :: L, h => by
    rw [List.map_cons, joined_cons, runes_word m (h m (by simp)).2.1, runes_blank, runs_sep _ _ _ (told_run m (h m (by simp))) blank_no,
      runs_joined L (fun x hx => h x (by simp [hx])), List.map_cons]
theorem words_joined (s : List UInt8) : words (joined (words s)) = words s := by
  unfold words
  rw [runs_joined _ (text_runs s), List.map_map]
  exact List.map_congr_left fun m hm => word_told m (text_runs s m hm).2.1
theorem words_word (s : List UInt8) : ∀ w ∈ words s, words w = [w] ∧ w.length ≤ 32 := by
  intro w hw
  unfold words at hw
  obtain ⟨m, hm, rfl⟩ := List.mem_map.1 hw
  have hr := text_runs s m hm
  refine ⟨?_, word_len m⟩
  have e := runes_word m hr.2.1 []
  rw [List.append_nil, runes_nil, List.append_nil] at e
  unfold words
  rw [e, runs_one _ (told_run m hr)]
  show [word (told m)] = [word m]
  rw [word_told m hr.2.1]
theorem runs_low : ∀ (l c : List Nat), (∀ r ∈ l, Ut.Good r) → runs (c.map low) (l.map low) = (runs c l).map (List.map low)
  | [], c, _ => by
    rw [List.map_nil, runs_nil, runs_nil]
    unfold last
    by_cases h : c = []
    · subst h; rfl
    · rw [if_neg h, if_neg (by simpa using h)]; rfl
  | r :: t, c, h => by
    rw [List.map_cons, runs_cons, runs_cons, low_word r (h r (by simp))]
    by_cases hw : isWord (r : Int) = true
    · rw [if_pos hw, if_pos hw, ← runs_low t (c ++ [r]) (fun x hx => h x (by simp [hx]))]
      simp
    · rw [if_neg hw, if_neg hw, List.map_append, ← runs_low t [] (fun x hx => h x (by simp [hx]))]
      congr 1
      unfold last
      by_cases hc : c = []
      · subst hc; rfl
      · rw [if_neg hc, if_neg (by simpa using hc)]; rfl
theorem words_fold (s : List UInt8) : words (fold s) = words s := by
  unfold words
  have e : runes (fold s) = (runes s).map low := runes_fold s
  have h := runs_low (runes s) [] (runes_good s)
  rw [List.map_nil] at h
  rw [e, h, List.map_map]
  exact List.map_congr_left fun m hm => word_low m (text_runs s m hm).2.1

/-- Is a text a word? -/
def isW (s : List UInt8) : Bool := words s == [s]
theorem isW_len (s : List UInt8) (h : 32 < s.length) : isW s = false := by
  unfold isW
  rw [beq_eq_false_iff_ne]
  intro e
  have := (words_word s s (by rw [e]; simp)).2
  omega
/-- Is a byte one of a name? Is a text a name? -/
def nameB (c : UInt8) : Bool := c.toNat == 95 || (decide (48 ≤ c.toNat) && decide (c.toNat ≤ 57)) || (decide (97 ≤ c.toNat) && decide (c.toNat ≤ 122))
def isN (s : List UInt8) : Bool := decide (1 ≤ s.length) && decide (s.length ≤ 32) && s.all nameB
/-- Where the first colon stands, or the text's length. -/
def colonAt (s : List UInt8) : Nat := s.findIdx (· == 58)
/-- A term's name, and its word. -/
def term (a b : List UInt8) : List UInt8 := a ++ 58 :: b
def splitOk (s : List UInt8) : Bool := decide (colonAt s < s.length) && isN (s.take (colonAt s)) && isW (s.drop (colonAt s + 1))
theorem isN_no (a : List UInt8) (h : isN a = true) : ∀ x ∈ a, (x == 58) = false := by
  intro x hx
  unfold isN at h
  rw [Bool.and_eq_true, List.all_eq_true] at h
  have hb := h.2 x hx
  rw [beq_eq_false_iff_ne]
  rintro rfl
  revert hb
  decide
theorem colonAt_term (a b : List UInt8) (h : isN a = true) : colonAt (term a b) = a.length := by
  have hn := isN_no a h
  unfold colonAt term
  clear h
  induction a with
  | nil => simp [List.findIdx_cons]
  | cons x a ih =>
    rw [List.cons_append, List.findIdx_cons, hn x (by simp), cond_false, ih (fun y hy => hn y (by simp [hy])), List.length_cons]
theorem split_term (a b : List UInt8) (h : isN a = true) (hb : isW b = true) : splitOk (term a b) = true ∧ (term a b).take (colonAt (term a b)) = a ∧ (term a b).drop (colonAt (term a b) + 1) = b := by
  have e := colonAt_term a b h
  have e1 : (term a b).take a.length = a := by unfold term; simp
  have e2 : (term a b).drop (a.length + 1) = b := by unfold term; simp
  unfold splitOk
  rw [e, e1, e2, h, hb]
  refine ⟨?_, rfl, rfl⟩
  simp [term]
theorem split_back (s : List UInt8) (h : splitOk s = true) : term (s.take (colonAt s)) (s.drop (colonAt s + 1)) = s := by
  unfold splitOk at h
  simp only [Bool.and_eq_true, decide_eq_true_eq] at h
  have h1 : (s[colonAt s]'h.1.1 == 58) = true := by
    have := List.findIdx_getElem (p := (· == 58)) (xs := s) (w := h.1.1)
    exact this
  unfold term
  rw [← (beq_iff_eq.1 h1), ← List.drop_eq_getElem_cons h.1.1, List.take_append_drop]
end Go.Proofs.YtdloacfoegjnmaaGreat.Tk
end

section
/- The walks of package utf: spans, lower case, words. -/
namespace Go.Proofs.YtdloacfoegjnmaaGreat.Ut
open Go.RowKit

def inB (f t b r : Int) : Bool := decide (f ≤ r) && (decide (r ≤ t) && decide (r ≠ b))
theorem inB_yes {f t b r : Int} (h : f ≤ r ∧ r ≤ t ∧ r ≠ b) : inB f t b r = true := by
  unfold inB; simp [h.1, h.2.1, h.2.2]
theorem inB_no {f t b r : Int} (h : r < f ∨ t < r ∨ r = b) : inB f t b r = false := by
  unfold inB
  simp only [Bool.and_eq_false_iff, decide_eq_false_iff_not]
  omega

theorem in_any (f t b r : Int) (w : World) :
    Calls Tryz.prog 84 #[.agg #[.int .i64 f, .int .i64 t, .int .i64 b], .int .i64 r] w fun e w' => e = .returned (.bool (inB f t b r)) ∧ Below w.heap.size w w' := by
  have hb : Below w.heap.size w (w.alloc (.cells #[.int .i64 f, .int .i64 t, .int .i64 b] 137)) := (Below.refl _ _).alloc (Nat.le_refl _) _
  have Hb := Lib.hid hb
  clear hb
  by_cases h1 : f ≤ r
  · by_cases h2 : r ≤ t
    · by_cases h3 : r = b
      · have e : inB f t b r = false := inB_no (by omega)
        rw [e]
        have h4 : (r == b) = true := by simp [h3]
        have h5 : (r != b) = false := by simp [h3]
        clear h3 e
        go_enter Tryz.func84, Tryz.ntmps84
        go_wp2
        go_ret
        exact ⟨rfl, Hb.out⟩
      · have e : inB f t b r = true := inB_yes ⟨h1, h2, h3⟩
        rw [e]
        have h4 : (r == b) = false := by simp [h3]
        have h5 : (r != b) = true := by simp [h3]
        clear h3 e
        go_enter Tryz.func84, Tryz.ntmps84
        go_wp2
        go_ret
        exact ⟨rfl, Hb.out⟩
    · have e : inB f t b r = false := inB_no (by omega)
      rw [e]
      clear e
      go_enter Tryz.func84, Tryz.ntmps84
      go_wp2
      go_ret
      exact ⟨rfl, Hb.out⟩
  · have e : inB f t b r = false := inB_no (by omega)
    rw [e]
    clear e
    go_enter Tryz.func84, Tryz.ntmps84
    go_wp2
    go_ret
    exact ⟨rfl, Hb.out⟩

def halfB (r : Int) : Bool := decide (55296 ≤ r) && decide (r ≤ 57343)
theorem half_any (r : Int) (w : World) : Calls Tryz.prog 117 #[.int .i64 r] w fun e w' => e = .returned (.bool (halfB r)) ∧ w = w' := by
  by_cases h1 : 55296 ≤ r
  · by_cases h2 : r ≤ 57343
    · have e : halfB r = true := by simp [halfB, h1, h2]
      rw [e]; clear e
      go_enter Tryz.func117, Tryz.ntmps117
      go_wp2
      go_ret
      exact ⟨rfl, rfl⟩
    · have e : halfB r = false := by simp [halfB, h2]
      rw [e]; clear e
      go_enter Tryz.func117, Tryz.ntmps117
      go_wp2
      go_ret
      exact ⟨rfl, rfl⟩
  · have e : halfB r = false := by simp [halfB, h1]
    rw [e]; clear e
    go_enter Tryz.func117, Tryz.ntmps117
    go_wp2
    go_ret
    exact ⟨rfl, rfl⟩

def upA : Array Value := #[.int .i64 65, .int .i64 90, .int .i64 (-1), .int .i64 192, .int .i64 222, .int .i64 215, .int .i64 913, .int .i64 939, .int .i64 930, .int .i64 1040, .int .i64 1071, .int .i64 (-1)]
def upZ : Array Value := #[.int .i64 0, .int .i64 0, .int .i64 0, .int .i64 0, .int .i64 0, .int .i64 0, .int .i64 0, .int .i64 0, .int .i64 0, .int .i64 0, .int .i64 0, .int .i64 0]
theorem upA_one : upA.all (·.oneCell') = true := by simp [upA, Value.oneCell']
def upf : Nat → Int
  | 0 => 65
  | 1 => 192
  | 2 => 913
  | _ => 1040
def upt : Nat → Int
  | 0 => 90
  | 1 => 222
  | 2 => 939
  | _ => 1071
def upb : Nat → Int
  | 0 => (-1)
  | 1 => 215
  | 2 => 930
  | _ => (-1)
theorem idx_up0 (w : World) : (Instr.index 174 (.agg upA) (.int .i64 0)).run Tryz.prog w = .ok (.agg #[.int .i64 65, .int .i64 90, .int .i64 (-1)]) w := by kernel_rfl
theorem idx_up1 (w : World) : (Instr.index 174 (.agg upA) (.int .i64 1)).run Tryz.prog w = .ok (.agg #[.int .i64 192, .int .i64 222, .int .i64 215]) w := by kernel_rfl
theorem idx_up2 (w : World) : (Instr.index 174 (.agg upA) (.int .i64 2)).run Tryz.prog w = .ok (.agg #[.int .i64 913, .int .i64 939, .int .i64 930]) w := by kernel_rfl
theorem idx_up3 (w : World) : (Instr.index 174 (.agg upA) (.int .i64 3)).run Tryz.prog w = .ok (.agg #[.int .i64 1040, .int .i64 1071, .int .i64 (-1)]) w := by kernel_rfl
theorem idx_up (j : Nat) (hj : j < 4) (w : World) : (Instr.index 174 (.agg upA) (.int .i64 (j : Int))).run Tryz.prog w = .ok (.agg #[.int .i64 (upf j), .int .i64 (upt j), .int .i64 (upb j)]) w := by
  match j, hj with
  | 0, _ => exact idx_up0 w
  | 1, _ => exact idx_up1 w
  | 2, _ => exact idx_up2 w
  | 3, _ => exact idx_up3 w

def wdA : Array Value := #[.int .i64 48, .int .i64 57, .int .i64 (-1), .int .i64 65, .int .i64 90, .int .i64 (-1), .int .i64 97, .int .i64 122, .int .i64 (-1), .int .i64 192, .int .i64 255, .int .i64 215, .int .i64 913, .int .i64 974, .int .i64 930, .int .i64 1024, .int .i64 1119, .int .i64 (-1)]
def wdZ : Array Value := #[.int .i64 0, .int .i64 0, .int .i64 0, .int .i64 0, .int .i64 0, .int .i64 0, .int .i64 0, .int .i64 0, .int .i64 0, .int .i64 0, .int .i64 0, .int .i64 0, .int .i64 0, .int .i64 0, .int .i64 0, .int .i64 0, .int .i64 0, .int .i64 0]
theorem wdA_one : wdA.all (·.oneCell') = true := by simp [wdA, Value.oneCell']
def wdf : Nat → Int
  | 0 => 48
  | 1 => 65
  | 2 => 97
  | 3 => 192
  | 4 => 913
  | _ => 1024
def wdt : Nat → Int
  | 0 => 57
  | 1 => 90
  | 2 => 122
  | 3 => 255
  | 4 => 974
  | _ => 1119
def wdb : Nat → Int
  | 0 => (-1)
  | 1 => (-1)
  | 2 => (-1)
  | 3 => 215
  | 4 => 930
  | _ => (-1)
theorem idx_wd0 (w : World) : (Instr.index 138 (.agg wdA) (.int .i64 0)).run Tryz.prog w = .ok (.agg #[.int .i64 48, .int .i64 57, .int .i64 (-1)]) w := by kernel_rfl
theorem idx_wd1 (w : World) : (Instr.index 138 (.agg wdA) (.int .i64 1)).run Tryz.prog w = .ok (.agg #[.int .i64 65, .int .i64 90, .int .i64 (-1)]) w := by kernel_rfl
theorem idx_wd2 (w : World) : (Instr.index 138 (.agg wdA) (.int .i64 2)).run Tryz.prog w = .ok (.agg #[.int .i64 97, .int .i64 122, .int .i64 (-1)]) w := by kernel_rfl
theorem idx_wd3 (w : World) : (Instr.index 138 (.agg wdA) (.int .i64 3)).run Tryz.prog w = .ok (.agg #[.int .i64 192, .int .i64 255, .int .i64 215]) w := by kernel_rfl
theorem idx_wd4 (w : World) : (Instr.index 138 (.agg wdA) (.int .i64 4)).run Tryz.prog w = .ok (.agg #[.int .i64 913, .int .i64 974, .int .i64 930]) w := by kernel_rfl
theorem idx_wd5 (w : World) : (Instr.index 138 (.agg wdA) (.int .i64 5)).run Tryz.prog w = .ok (.agg #[.int .i64 1024, .int .i64 1119, .int .i64 (-1)]) w := by kernel_rfl
theorem idx_wd (j : Nat) (hj : j < 6) (w : World) : (Instr.index 138 (.agg wdA) (.int .i64 (j : Int))).run Tryz.prog w = .ok (.agg #[.int .i64 (wdf j), .int .i64 (wdt j), .int .i64 (wdb j)]) w := by
  match j, hj with
  | 0, _ => exact idx_wd0 w
  | 1, _ => exact idx_wd1 w
  | 2, _ => exact idx_wd2 w
  | 3, _ => exact idx_wd3 w
  | 4, _ => exact idx_wd4 w
  | 5, _ => exact idx_wd5 w

theorem up_in (r : Int) (j : Nat) (hj : j < 4) (h : inB (upf j) (upt j) (upb j) r = true) : lower r = r + 32 ∧ r ≤ 1071 ∧ 0 ≤ r := by
  unfold inB at h
  simp only [Bool.and_eq_true, decide_eq_true_eq] at h
  unfold lower
  match j, hj with
  | 0, _ => simp only [upf, upt, upb] at h; exact ⟨by rw [if_pos (by omega)], by omega, by omega⟩
  | 1, _ => simp only [upf, upt, upb] at h; exact ⟨by rw [if_pos (by omega)], by omega, by omega⟩
  | 2, _ => simp only [upf, upt, upb] at h; exact ⟨by rw [if_pos (by omega)], by omega, by omega⟩
  | 3, _ => simp only [upf, upt, upb] at h; exact ⟨by rw [if_pos (by omega)], by omega, by omega⟩
theorem inB_false {f t b r : Int} (h : inB f t b r = false) : ¬ (f ≤ r ∧ r ≤ t ∧ r ≠ b) := by
  intro c
  rw [inB_yes c] at h
  cases h
theorem up_out (r : Int) (h : ∀ j, j < 4 → inB (upf j) (upt j) (upb j) r = false) : lower r = if 1024 ≤ r ∧ r ≤ 1039 then r + 80 else r := by
  have h0 := inB_false (h 0 (by omega))
  have h1 := inB_false (h 1 (by omega))
  have h2 := inB_false (h 2 (by omega))
  have h3 := inB_false (h 3 (by omega))
  simp only [upf, upt, upb] at h0 h1 h2 h3
  unfold lower
  rw [if_neg (by omega)]
theorem wd_in (r : Int) (j : Nat) (hj : j < 6) (h : inB (wdf j) (wdt j) (wdb j) r = true) : isWord r = (r != 247) := by
  unfold inB at h
  simp only [Bool.and_eq_true, decide_eq_true_eq] at h
  unfold isWord
  rw [Bool.eq_iff_iff, decide_eq_true_eq, bne_iff_ne]
  match j, hj with
  | 0, _ => simp only [wdf, wdt, wdb] at h; omega
  | 1, _ => simp only [wdf, wdt, wdb] at h; omega
  | 2, _ => simp only [wdf, wdt, wdb] at h; omega
  | 3, _ => simp only [wdf, wdt, wdb] at h; omega
  | 4, _ => simp only [wdf, wdt, wdb] at h; omega
  | 5, _ => simp only [wdf, wdt, wdb] at h; omega
theorem wd_out (r : Int) (h : ∀ j, j < 6 → inB (wdf j) (wdt j) (wdb j) r = false) : isWord r = false := by
  have h0 := inB_false (h 0 (by omega))
  have h1 := inB_false (h 1 (by omega))
  have h2 := inB_false (h 2 (by omega))
  have h3 := inB_false (h 3 (by omega))
  have h4 := inB_false (h 4 (by omega))
  have h5 := inB_false (h 5 (by omega))
  simp only [wdf, wdt, wdb] at h0 h1 h2 h3 h4 h5
  unfold isWord
  rw [decide_eq_false_iff_not]
  omega

set_option maxRecDepth 20000 in
set_option maxHeartbeats 800000 in
theorem lower_any (r : Int) (w : World) : Calls Tryz.prog 86 #[.int .i64 r] w fun e w' => e = .returned (.int .i64 (lower r)) ∧ Below w.heap.size w w' := by
  have hb : Below w.heap.size w ((w.alloc (.cells upZ 174)).setRow w.heap.size upA) := below_setRow ((Below.refl _ _).alloc (Nat.le_refl _) _) (Nat.le_refl _) _
  have hh := setRow_heap (w.alloc (.cells upZ 174)) w.heap.size upZ upA 174 (0, 0) (heap_alloc_new w _)
  have Hb := Lib.hid hb
  clear hb
  go_enter Tryz.func86, Tryz.ntmps86
  go_wp2_with (first
    | (refine wpList_store_row (o := ⟨none, .store 174 _ _, _, _, _, _⟩) rfl 174 _ _ rfl w.heap.size upA rfl rfl 174 upZ (heap_alloc_new w _) (by kernel_rfl) rfl upA_one ?_)
    | (refine wpList_load_row (o := ⟨some 11, .load 174 _, _, _, _, _⟩) rfl 174 _ rfl w.heap.size rfl 174 upA (0, 0) _ hh Tryz.underlying174 rfl (by kernel_rfl) ?_))
  clear hh
  go_loopw [12] (fun i wr => ∃ j : Nat, j ≤ 4 ∧ i = .int .i64 j ∧ (∀ i, i < j → inB (upf i) (upt i) (upb i) r = false) ∧ Below w.heap.size w wr) (fun i _ => 4 - (intOf i).toNat)
  case atStart => exact ⟨0, by omega, rfl, fun i h => by omega, Hb.out⟩
  case round =>
    obtain ⟨j, hj, rfl, hno, hb⟩ := hrel
    have Hno := Lib.hid hno
    clear hno
    by_cases hj4 : j < 4
    · have hix := idx_up j hj4
      by_cases hin : inB (upf j) (upt j) (upb j) r = true
      · have hl := up_in r j hj4 hin
        have hr1 := hl.2.1
        have hr0 := hl.2.2
        have Hl := Lib.hid hl.1
        clear hl
        go_wp2_with (go_at_call 84; refine (calls_from (hb.alloc hb.size _) (in_any _ _ _ _ _)).mono ?_; rintro e w' ⟨rfl, hb⟩)
        go_ret
        exact ⟨by rw [Hl.out]; rfl, hb⟩
      · have hinf : inB (upf j) (upt j) (upb j) r = false := by simpa using hin
        have Hin := Lib.hid hinf
        clear hin
        go_wp2_with (go_at_call 84; refine (calls_from (hb.alloc hb.size _) (in_any _ _ _ _ _)).mono ?_; rintro e w' ⟨rfl, hb⟩)
        go_roundw
        case rel => exact ⟨j + 1, by omega, by go_num, fun i h => by
          by_cases e : i = j
          · subst e; exact Hin.out
          · exact Hno.out i (by omega), hb⟩
        case measure => simp [intOf]; omega
    · obtain rfl : j = 4 := by omega
      have hl := up_out r Hno.out
      by_cases h5 : 1024 ≤ r ∧ r ≤ 1039
      · rw [if_pos h5] at hl
        have e5 : inB 1024 1039 (-1) r = true := inB_yes (by omega)
        have h51 := h5.1
        have h52 := h5.2
        have Hl := Lib.hid hl
        clear hl h5
        go_wp2_with (go_at_call 84; refine (calls_from hb (in_any _ _ _ _ _)).mono ?_; rintro e w' ⟨rfl, hb⟩)
        go_ret
        exact ⟨by rw [Hl.out]; rfl, hb⟩
      · rw [if_neg h5] at hl
        have e5 : inB 1024 1039 (-1) r = false := inB_no (by omega)
        have Hl := Lib.hid hl
        clear hl h5
        go_wp2_with (go_at_call 84; refine (calls_from hb (in_any _ _ _ _ _)).mono ?_; rintro e w' ⟨rfl, hb⟩)
        go_ret
        exact ⟨by rw [Hl.out]; rfl, hb⟩

set_option maxRecDepth 20000 in
set_option maxHeartbeats 800000 in
theorem word_any (r : Int) (w : World) : Calls Tryz.prog 71 #[.int .i64 r] w fun e w' => e = .returned (.bool (isWord r)) ∧ Below w.heap.size w w' := by
  have hb : Below w.heap.size w ((w.alloc (.cells wdZ 138)).setRow w.heap.size wdA) := below_setRow ((Below.refl _ _).alloc (Nat.le_refl _) _) (Nat.le_refl _) _
  have hh := setRow_heap (w.alloc (.cells wdZ 138)) w.heap.size wdZ wdA 138 (0, 0) (heap_alloc_new w _)
  have Hb := Lib.hid hb
  clear hb
  go_enter Tryz.func71, Tryz.ntmps71
  go_wp2_with (first
    | (refine wpList_store_row (o := ⟨none, .store 138 _ _, _, _, _, _⟩) rfl 138 _ _ rfl w.heap.size wdA rfl rfl 138 wdZ (heap_alloc_new w _) (by kernel_rfl) rfl wdA_one ?_)
    | (refine wpList_load_row (o := ⟨some 13, .load 138 _, _, _, _, _⟩) rfl 138 _ rfl w.heap.size rfl 138 wdA (0, 0) _ hh Tryz.underlying138 rfl (by kernel_rfl) ?_))
  clear hh
  go_loopw [14] (fun i wr => ∃ j : Nat, j ≤ 6 ∧ i = .int .i64 j ∧ (∀ i, i < j → inB (wdf i) (wdt i) (wdb i) r = false) ∧ Below w.heap.size w wr) (fun i _ => 6 - (intOf i).toNat)
  case atStart => exact ⟨0, by omega, rfl, fun i h => by omega, Hb.out⟩
  case round =>
    obtain ⟨j, hj, rfl, hno, hb⟩ := hrel
    have Hno := Lib.hid hno
    clear hno
    by_cases hj6 : j < 6
    · have hix := idx_wd j hj6
      by_cases hin : inB (wdf j) (wdt j) (wdb j) r = true
      · have Hl := Lib.hid (wd_in r j hj6 hin)
        go_wp2_with (go_at_call 84; refine (calls_from (hb.alloc hb.size _) (in_any _ _ _ _ _)).mono ?_; rintro e w' ⟨rfl, hb⟩)
        go_ret
        exact ⟨by rw [Hl.out]; rfl, hb⟩
      · have hinf : inB (wdf j) (wdt j) (wdb j) r = false := by simpa using hin
        have Hin := Lib.hid hinf
        clear hin
        go_wp2_with (go_at_call 84; refine (calls_from (hb.alloc hb.size _) (in_any _ _ _ _ _)).mono ?_; rintro e w' ⟨rfl, hb⟩)
        go_roundw
        case rel => exact ⟨j + 1, by omega, by go_num, fun i h => by
          by_cases e : i = j
          · subst e; exact Hin.out
          · exact Hno.out i (by omega), hb⟩
        case measure => simp [intOf]; omega
    · obtain rfl : j = 6 := by omega
      have Hl := Lib.hid (wd_out r Hno.out)
      go_wp2
      go_ret
      exact ⟨by rw [Hl.out]; rfl, hb⟩
end Go.Proofs.YtdloacfoegjnmaaGreat.Ut
end
