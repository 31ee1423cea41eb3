/- Plain facts on runes: what stands at a text's head, all runes, a rune's bytes, lower case. No program. -/
import Derived.Test.YtjfconddkfihcaaProg
import Derived.Lib.Hide
import Derived.Lib.Strings
import Derived.Test.YtjfconddkfihcaaPkMarkHitsRow0
section
namespace Go.Proofs.Ytjfconddkfihcaa.Ut
open Go.RowKit

def cont (b : UInt8) : Bool := b.toNat / 64 == 2
def acc (n : Nat) (l : List UInt8) : Nat := l.foldl (fun n x => n * 64 + x.toNat % 64) n
theorem acc_nil (n : Nat) : acc n [] = n := rfl
theorem acc_snoc (n : Nat) (l : List UInt8) (x : UInt8) : acc n (l ++ [x]) = acc n l * 64 + x.toNat % 64 := by
  unfold acc; rw [List.foldl_append]; rfl
/-- Is it a rune of that form? -/
def fits (m : Nat) (t : List UInt8) (k lo hi : Nat) : Bool :=
  decide (k - 1 ≤ t.length) && ((t.take (k - 1)).all cont && (decide (lo ≤ acc m (t.take (k - 1))) && (decide (acc m (t.take (k - 1)) ≤ hi) && !(decide (55296 ≤ acc m (t.take (k - 1))) && decide (acc m (t.take (k - 1)) ≤ 57343)))))
def form (m : Nat) (t : List UInt8) (k lo hi : Nat) : Nat × Nat := if fits m t k lo hi then (acc m (t.take (k - 1)), k) else (65533, 1)
/-- The rune at a text's head, and its size. -/
def dec : List UInt8 → Nat × Nat
  | [] => (0, 0)
  | b :: t =>
    if b.toNat < 128 then (b.toNat, 1)
    else if b.toNat / 32 = 6 then form (b.toNat % 32) t 2 128 2047
    else if b.toNat / 16 = 14 then form (b.toNat % 16) t 3 2048 65535
    else if b.toNat / 8 = 30 then form (b.toNat % 8) t 4 65536 1114111
    else (65533, 1)
theorem dec_cons (b : UInt8) (t : List UInt8) : dec (b :: t) =
    if b.toNat < 128 then (b.toNat, 1)
    else if b.toNat / 32 = 6 then form (b.toNat % 32) t 2 128 2047
    else if b.toNat / 16 = 14 then form (b.toNat % 16) t 3 2048 65535
    else if b.toNat / 8 = 30 then form (b.toNat % 8) t 4 65536 1114111
    else (65533, 1) := rfl
theorem form_size (m : Nat) (t : List UInt8) (k lo hi : Nat) (hk : 1 ≤ k) (hk4 : k ≤ 4) : 1 ≤ (form m t k lo hi).2 ∧ (form m t k lo hi).2 ≤ t.length + 1 ∧ (form m t k lo hi).2 ≤ 4 := by
  unfold form
  by_cases h : fits m t k lo hi = true
  · rw [if_pos h]
    simp only [fits, Bool.and_eq_true, decide_eq_true_eq] at h
    have h1 := h.1
    exact ⟨hk, by show k ≤ _; omega, hk4⟩
  · rw [if_neg h]
    exact ⟨Nat.le_refl _, by show 1 ≤ _; omega, by decide⟩
theorem dec_size (l : List UInt8) (h : l ≠ []) : 1 ≤ (dec l).2 ∧ (dec l).2 ≤ l.length ∧ (dec l).2 ≤ 4 := by
  match l, h with
  | b :: t, _ =>
    rw [dec_cons]
    by_cases h1 : b.toNat < 128
    · rw [if_pos h1]; simp
    · rw [if_neg h1]
      by_cases h2 : b.toNat / 32 = 6
      · rw [if_pos h2]; exact form_size _ _ _ _ _ (by omega) (by omega)
      · rw [if_neg h2]
        by_cases h3 : b.toNat / 16 = 14
        · rw [if_pos h3]; exact form_size _ _ _ _ _ (by omega) (by omega)
        · rw [if_neg h3]
          by_cases h4 : b.toNat / 8 = 30
          · rw [if_pos h4]; exact form_size _ _ _ _ _ (by omega) (by omega)
          · rw [if_neg h4]; simp
theorem form_rune (m : Nat) (t : List UInt8) (k lo hi : Nat) (hhi : hi ≤ 1114111) : (form m t k lo hi).1 ≤ 1114111 ∧ ¬ (55296 ≤ (form m t k lo hi).1 ∧ (form m t k lo hi).1 ≤ 57343) := by
  unfold form
  by_cases h : fits m t k lo hi = true
  · rw [if_pos h]
    simp only [fits, Bool.and_eq_true, decide_eq_true_eq, Bool.not_eq_true', Bool.and_eq_false_iff, decide_eq_false_iff_not] at h
    obtain ⟨_, _, _, h4, h5⟩ := h
    refine ⟨by show acc _ _ ≤ _; omega, ?_⟩
    show ¬ (55296 ≤ acc _ _ ∧ acc _ _ ≤ 57343)
    omega
  · rw [if_neg h]; simp
/-- What stands at a text's head is a rune that has bytes. -/
theorem dec_rune (l : List UInt8) : (dec l).1 ≤ 1114111 ∧ ¬ (55296 ≤ (dec l).1 ∧ (dec l).1 ≤ 57343) := by
  match l with
  | [] => simp [dec]
  | b :: t =>
    rw [dec_cons]
    by_cases h1 : b.toNat < 128
    · rw [if_pos h1]; simp; omega
    · rw [if_neg h1]
      by_cases h2 : b.toNat / 32 = 6
      · rw [if_pos h2]; exact form_rune _ _ _ _ _ (by omega)
      · rw [if_neg h2]
        by_cases h3 : b.toNat / 16 = 14
        · rw [if_pos h3]; exact form_rune _ _ _ _ _ (by omega)
        · rw [if_neg h3]
          by_cases h4 : b.toNat / 8 = 30
          · rw [if_pos h4]; exact form_rune _ _ _ _ _ (by omega)
          · rw [if_neg h4]; simp

/-- All runes. -/
def runesF : Nat → List UInt8 → List Nat
  | 0, _ => []
  | n + 1, l => if l = [] then [] else (dec l).1 :: runesF n (l.drop (dec l).2)
def runes (l : List UInt8) : List Nat := runesF l.length l
theorem runesF_eq : ∀ (n m : Nat) (l : List UInt8), l.length ≤ n → l.length ≤ m → runesF n l = runesF m l
  | 0, 0, _, _, _ => rfl
  | 0, m + 1, l, h, _ => by
    have : l = [] := List.eq_nil_of_length_eq_zero (by omega)
    subst this; simp [runesF]
  | n + 1, 0, l, _, h => by
    have : l = [] := List.eq_nil_of_length_eq_zero (by omega)
    subst this; simp [runesF]
  | n + 1, m + 1, l, h1, h2 => by
    unfold runesF
    by_cases h : l = []
    · rw [if_pos h, if_pos h]
    · rw [if_neg h, if_neg h]
      have := dec_size l h
      rw [runesF_eq n m (l.drop (dec l).2) (by rw [List.length_drop]; omega) (by rw [List.length_drop]; omega)]
theorem runes_nil : runes [] = [] := rfl
theorem runes_cons (l : List UInt8) (h : l ≠ []) : runes l = (dec l).1 :: runes (l.drop (dec l).2) := by
  have hs := dec_size l h
  have hl : 0 < l.length := by
    rcases l with _ | ⟨a, t⟩
    · exact absurd rfl h
    · simp
  obtain ⟨n, hn⟩ : ∃ n, l.length = n + 1 := ⟨l.length - 1, by omega⟩
  unfold runes
  rw [hn]
  show (if l = [] then [] else (dec l).1 :: runesF n (l.drop (dec l).2)) = _
  rw [if_neg h, runesF_eq n (l.drop (dec l).2).length _ (by rw [List.length_drop]; omega) (Nat.le_refl _)]
theorem runes_len (l : List UInt8) : (runes l).length ≤ l.length := by
  have key : ∀ (n : Nat) (l : List UInt8), l.length ≤ n → (runesF n l).length ≤ l.length := by
    intro n
    induction n with
    | zero => intro l _; simp [runesF]
    | succ n ih =>
      intro l hl
      unfold runesF
      by_cases h : l = []
      · rw [if_pos h]; simp
      · rw [if_neg h]
        have hs := dec_size l h
        have := ih (l.drop (dec l).2) (by rw [List.length_drop]; omega)
        rw [List.length_drop] at this
        simp only [List.length_cons]
        omega
  exact key _ l (Nat.le_refl _)
/-- Every rune of a text has bytes. -/
def Good (r : Nat) : Prop := r ≤ 1114111 ∧ ¬ (55296 ≤ r ∧ r ≤ 57343)
theorem runes_good (l : List UInt8) : ∀ r ∈ runes l, Good r := by
  have key : ∀ (n : Nat) (l : List UInt8), ∀ r ∈ runesF n l, Good r := by
    intro n
    induction n with
    | zero => intro l r h; simp [runesF] at h
    | succ n ih =>
      intro l r h
      unfold runesF at h
      by_cases he : l = []
      · rw [if_pos he] at h; simp at h
      · rw [if_neg he] at h
        rcases List.mem_cons.1 h with rfl | h
        · exact dec_rune l
        · exact ih _ r h
  exact key _ l

/-- A rune that has no bytes is told as the wrong one. -/
def fix (r : Int) : Nat := if r < 0 ∨ 1114111 < r ∨ (55296 ≤ r ∧ r ≤ 57343) then 65533 else r.toNat
theorem fix_good (r : Int) : Good (fix r) := by
  unfold fix Good
  by_cases h : r < 0 ∨ 1114111 < r ∨ (55296 ≤ r ∧ r ≤ 57343)
  · rw [if_pos h]; omega
  · rw [if_neg h]; omega
theorem fix_of_good (r : Nat) (h : Good r) : fix r = r := by
  unfold fix Good at *
  rw [if_neg (by omega)]; omega
def B (n : Nat) : UInt8 := UInt8.ofNat n
theorem B_toNat (n : Nat) (h : n < 256) : (B n).toNat = n := by
  unfold B; rw [UInt8.toNat_ofNat']; exact Nat.mod_eq_of_lt (by simpa using h)
/-- A rune's bytes. -/
def encN (r : Nat) : List UInt8 :=
  if r < 128 then [B r]
  else if r < 2048 then [B (192 + r / 64), B (128 + r % 64)]
  else if r < 65536 then [B (224 + r / 4096), B (128 + r / 64 % 64), B (128 + r % 64)]
  else [B (240 + r / 262144), B (128 + r / 4096 % 64), B (128 + r / 64 % 64), B (128 + r % 64)]
def enc (r : Int) : List UInt8 := encN (fix r)
def encode (rs : List Int) : List UInt8 := rs.flatMap enc
theorem encode_nil : encode [] = [] := rfl
theorem encode_snoc (rs : List Int) (r : Int) : encode (rs ++ [r]) = encode rs ++ enc r := by simp [encode]
theorem enc_len (r : Int) : 1 ≤ (enc r).length ∧ (enc r).length ≤ 4 := by
  unfold enc encN
  by_cases h1 : fix r < 128
  · rw [if_pos h1]; simp
  · rw [if_neg h1]
    by_cases h2 : fix r < 2048
    · rw [if_pos h2]; simp
    · rw [if_neg h2]
      by_cases h3 : fix r < 65536
      · rw [if_pos h3]; simp
      · rw [if_neg h3]; simp
theorem encode_len (rs : List Int) : (encode rs).length ≤ 4 * rs.length := by
  induction rs with
  | nil => simp [encode]
  | cons r rs ih =>
    have := enc_len r
    have e : encode (r :: rs) = enc r ++ encode rs := by simp [encode]
    rw [e, List.length_append, List.length_cons]
    omega

/-- There and back: what stands at the head of a rune's bytes is the rune. -/
theorem dec_enc (r : Nat) (h : Good r) (t : List UInt8) : dec (encN r ++ t) = (r, (encN r).length) := by
  unfold Good at h
  unfold encN
  by_cases h1 : r < 128
  · rw [if_pos h1]
    simp only [List.cons_append, List.nil_append, dec, B_toNat r (by omega), if_pos h1, List.length_singleton]
  · rw [if_neg h1]
    by_cases h2 : r < 2048
    · rw [if_pos h2]
      simp only [List.cons_append, List.nil_append, dec, B_toNat (192 + r / 64) (by omega)]
      rw [if_neg (by omega), if_pos (by omega)]
      have e1 := B_toNat (128 + r % 64) (by omega)
      have ea : acc ((192 + r / 64) % 32) ((B (128 + r % 64) :: t).take 1) = r := by
        simp only [List.take_succ_cons, List.take_zero, acc, List.foldl_cons, List.foldl_nil, e1]
        omega
      have ef : fits ((192 + r / 64) % 32) (B (128 + r % 64) :: t) 2 128 2047 = true := by
        simp only [fits, show 2 - 1 = 1 from rfl, ea, Bool.and_eq_true, decide_eq_true_eq, Bool.not_eq_true', Bool.and_eq_false_iff, decide_eq_false_iff_not]
        refine ⟨by simp, ?_, by omega, by omega, by omega⟩
        simp only [List.take_succ_cons, List.take_zero, List.all_cons, List.all_nil, Bool.and_true, cont, e1, beq_iff_eq]
        omega
      unfold form
      rw [if_pos ef, show 2 - 1 = 1 from rfl, ea]
      rfl
    · rw [if_neg h2]
      by_cases h3 : r < 65536
      · rw [if_pos h3]
        simp only [List.cons_append, List.nil_append, dec, B_toNat (224 + r / 4096) (by omega)]
        rw [if_neg (by omega), if_neg (by omega), if_pos (by omega)]
        have e1 := B_toNat (128 + r / 64 % 64) (by omega)
        have e2 := B_toNat (128 + r % 64) (by omega)
        have ea : acc ((224 + r / 4096) % 16) ((B (128 + r / 64 % 64) :: B (128 + r % 64) :: t).take 2) = r := by
          simp only [List.take_succ_cons, List.take_zero, acc, List.foldl_cons, List.foldl_nil, e1, e2]
          omega
        have ef : fits ((224 + r / 4096) % 16) (B (128 + r / 64 % 64) :: B (128 + r % 64) :: t) 3 2048 65535 = true := by
          simp only [fits, show 3 - 1 = 2 from rfl, ea, Bool.and_eq_true, decide_eq_true_eq, Bool.not_eq_true', Bool.and_eq_false_iff, decide_eq_false_iff_not]
          refine ⟨by simp, ?_, by omega, by omega, by omega⟩
          simp only [List.take_succ_cons, List.take_zero, List.all_cons, List.all_nil, Bool.and_true, cont, e1, e2, beq_iff_eq, Bool.and_eq_true]
          omega
        unfold form
        rw [if_pos ef, show 3 - 1 = 2 from rfl, ea]
        rfl
      · rw [if_neg h3]
        simp only [List.cons_append, List.nil_append, dec, B_toNat (240 + r / 262144) (by omega)]
        rw [if_neg (by omega), if_neg (by omega), if_neg (by omega), if_pos (by omega)]
        have e1 := B_toNat (128 + r / 4096 % 64) (by omega)
        have e2 := B_toNat (128 + r / 64 % 64) (by omega)
        have e3 := B_toNat (128 + r % 64) (by omega)
        have ea : acc ((240 + r / 262144) % 8) ((B (128 + r / 4096 % 64) :: B (128 + r / 64 % 64) :: B (128 + r % 64) :: t).take 3) = r := by
          simp only [List.take_succ_cons, List.take_zero, acc, List.foldl_cons, List.foldl_nil, e1, e2, e3]
          omega
        have ef : fits ((240 + r / 262144) % 8) (B (128 + r / 4096 % 64) :: B (128 + r / 64 % 64) :: B (128 + r % 64) :: t) 4 65536 1114111 = true := by
          simp only [fits, show 4 - 1 = 3 from rfl, ea, Bool.and_eq_true, decide_eq_true_eq, Bool.not_eq_true', Bool.and_eq_false_iff, decide_eq_false_iff_not]
          refine ⟨by simp, ?_, by omega, by omega, by omega⟩
          simp only [List.take_succ_cons, List.take_zero, List.all_cons, List.all_nil, Bool.and_true, cont, e1, e2, e3, beq_iff_eq, Bool.and_eq_true]
          omega
        unfold form
        rw [if_pos ef, show 4 - 1 = 3 from rfl, ea]
        rfl
theorem encN_ne (r : Nat) : encN r ≠ [] := by
  unfold encN
  by_cases h1 : r < 128
  · rw [if_pos h1]; simp
  · rw [if_neg h1]
    by_cases h2 : r < 2048
    · rw [if_pos h2]; simp
    · rw [if_neg h2]
      by_cases h3 : r < 65536
      · rw [if_pos h3]; simp
      · rw [if_neg h3]; simp
/-- The runes of runes' bytes. -/
theorem runes_encode (rs : List Int) (t : List UInt8) : runes (encode rs ++ t) = rs.map fix ++ runes t := by
  induction rs with
  | nil => rfl
  | cons r rs ih =>
    have e : encode (r :: rs) ++ t = encN (fix r) ++ (encode rs ++ t) := by simp [encode, enc]
    rw [e, runes_cons _ (by simp [encN_ne]), dec_enc _ (fix_good r), List.drop_left, ih]
    rfl

/-- Lower case. -/
def lower (r : Int) : Int :=
  if (65 ≤ r ∧ r ≤ 90) ∨ (192 ≤ r ∧ r ≤ 222 ∧ r ≠ 215) ∨ (913 ≤ r ∧ r ≤ 939 ∧ r ≠ 930) ∨ (1040 ≤ r ∧ r ≤ 1071) then r + 32
  else if 1024 ≤ r ∧ r ≤ 1039 then r + 80 else r
/-- A part of a word. -/
def isWord (r : Int) : Bool :=
  decide ((48 ≤ r ∧ r ≤ 57) ∨ (65 ≤ r ∧ r ≤ 90) ∨ (97 ≤ r ∧ r ≤ 122) ∨ (192 ≤ r ∧ r ≤ 255 ∧ r ≠ 215 ∧ r ≠ 247) ∨ (913 ≤ r ∧ r ≤ 974 ∧ r ≠ 930) ∨ (1024 ≤ r ∧ r ≤ 1119))
theorem lower_lower (r : Int) : lower (lower r) = lower r := by
  unfold lower
  repeat' split
  all_goals omega
theorem lower_good (r : Nat) (h : Good r) : 0 ≤ lower r ∧ Good (lower r).toNat := by
  unfold lower Good at *
  repeat' split
  all_goals omega
theorem lower_word (r : Int) : isWord (lower r) = isWord r := by
  unfold lower isWord
  rw [Bool.eq_iff_iff]
  simp only [decide_eq_true_eq]
  repeat' split
  all_goals omega
def ints (l : List Nat) : List Int := l.map Int.ofNat
/-- A text in lower case. -/
def fold (l : List UInt8) : List UInt8 := encode ((ints (runes l)).map lower)
def valid (l : List UInt8) : Bool := encode (ints (runes l)) == l
theorem fix_ints (l : List Nat) (h : ∀ r ∈ l, Good r) : (ints l).map fix = l := by
  unfold ints
  rw [List.map_map]
  conv => rhs; rw [← List.map_id l]
  exact List.map_congr_left fun r hr => fix_of_good r (h r hr)
theorem fix_lower (l : List Nat) (h : ∀ r ∈ l, Good r) : ((ints l).map lower).map fix = l.map (fun r : Nat => (lower (r : Int)).toNat) := by
  unfold ints
  rw [List.map_map, List.map_map]
  refine List.map_congr_left fun r hr => ?_
  have hg := lower_good r (h r hr)
  show fix (lower (r : Int)) = _
  have := fix_of_good _ hg.2
  rwa [Int.toNat_of_nonneg hg.1] at this
theorem runes_fold (l : List UInt8) : runes (fold l) = (runes l).map (fun r : Nat => (lower (r : Int)).toNat) := by
  have := runes_encode ((ints (runes l)).map lower) []
  rw [List.append_nil, runes_nil, List.append_nil, fix_lower _ (runes_good l)] at this
  exact this
theorem fold_fold (l : List UInt8) : fold (fold l) = fold l := by
  unfold fold
  congr 1
  have e := runes_fold l
  unfold fold at e
  rw [e]
  unfold ints
  rw [List.map_map, List.map_map, List.map_map]
  refine List.map_congr_left fun r hr => ?_
  have hg := lower_good r (runes_good l r hr)
  show lower (Int.ofNat (lower (r : Int)).toNat) = lower (r : Int)
  rw [show Int.ofNat (lower (r : Int)).toNat = lower (r : Int) from Int.toNat_of_nonneg hg.1, lower_lower]
theorem valid_fold (l : List UInt8) : valid (fold l) = true := by
  unfold valid
  rw [beq_iff_eq, runes_fold]
  unfold fold ints
  congr 1
  rw [List.map_map, List.map_map]
  refine List.map_congr_left fun r hr => ?_
  exact Int.toNat_of_nonneg (lower_good r (runes_good l r hr)).1
theorem valid_encode (rs : List Int) : valid (encode rs) = true := by
  have e := runes_encode rs []
  rw [List.append_nil, runes_nil, List.append_nil] at e
  unfold valid
  rw [beq_iff_eq, e]
  unfold encode ints
  clear e
  induction rs with
  | nil => rfl
  | cons r rs ih =>
    rw [List.map_cons, List.map_cons, List.flatMap_cons, List.flatMap_cons, ih]
    congr 1
    show encN (fix (fix r : Nat)) = encN (fix r)
    rw [fix_of_good _ (fix_good r)]
end Go.Proofs.Ytjfconddkfihcaa.Ut
end

section
/- Plain facts on words of texts. No program. -/
namespace Go.Proofs.Ytjfconddkfihcaa.Tk
open Go.RowKit Go.Proofs.Ytjfconddkfihcaa.Ut

/-- A word of runes, cut: as many runes, lower case, as have 32 bytes at most. -/
def wordGo (a : List UInt8) : List Nat → List UInt8
  | [] => a
  | r :: t => if 32 < a.length + (enc (lower (r : Int))).length then a else wordGo (a ++ enc (lower (r : Int))) t
def word (l : List Nat) : List UInt8 := wordGo [] l
theorem wordGo_cons (a : List UInt8) (r : Nat) (t : List Nat) : wordGo a (r :: t) = if 32 < a.length + (enc (lower (r : Int))).length then a else wordGo (a ++ enc (lower (r : Int))) t := rfl
theorem wordGo_len : ∀ (l : List Nat) (a : List UInt8), a.length ≤ 32 → (wordGo a l).length ≤ 32
  | [], a, h => h
  | r :: t, a, h => by
    rw [wordGo_cons]
    split
    · exact h
    · exact wordGo_len t _ (by rw [List.length_append]; omega)
theorem word_len (l : List Nat) : (word l).length ≤ 32 := wordGo_len l [] (by simp)
/-- The runs of runes that are parts of words. -/
def last (c : List Nat) : List (List Nat) := if c = [] then [] else [c]
def runs (c : List Nat) : List Nat → List (List Nat)
  | [] => last c
  | r :: t => if isWord (r : Int) then runs (c ++ [r]) t else last c ++ runs [] t
theorem runs_nil (c : List Nat) : runs c [] = last c := rfl
theorem runs_cons (c : List Nat) (r : Nat) (t : List Nat) : runs c (r :: t) = if isWord (r : Int) then runs (c ++ [r]) t else last c ++ runs [] t := rfl
theorem runs_end : ∀ (l c : List Nat) (b : Nat), isWord (b : Int) = false → runs c (l ++ [b]) = runs c l
  | [], c, b, h => by
    rw [List.nil_append, runs_cons, h, if_neg (by decide), runs_nil, runs_nil]
    simp [last]
  | r :: t, c, b, h => by
    rw [List.cons_append, runs_cons, runs_cons, runs_end t _ b h, runs_end t _ b h]
/-- A text's words. -/
def words (s : List UInt8) : List (List UInt8) := (runs [] (runes s)).map word
end Go.Proofs.Ytjfconddkfihcaa.Tk
end

section
/- Plain facts on phrases, beginnings, and what a query matches. No program. -/
namespace Go.Proofs.Ytjfconddkfihcaa.Qy
open Go.RowKit Go.Proofs.Ytjfconddkfihcaa Go.Proofs.Ytjfconddkfihcaa.Ut

/-- Do words stand from the i-th on? -/
def stands (T : List (List UInt8)) (ws : List ByteArray) (i : Nat) : Bool := ((T.drop i).take ws.length) == ws.map (fun s => s.data.toList)
/-- Where words stand, of the first k places. -/
def phrTo (T : List (List UInt8)) (ws : List ByteArray) (k : Nat) : List Nat := (List.range k).filter (stands T ws)
def phr (T : List (List UInt8)) (ws : List ByteArray) : List Nat := if ws = [] then [] else phrTo T ws T.length
theorem phrTo_succ (T : List (List UInt8)) (ws : List ByteArray) (k : Nat) : phrTo T ws (k + 1) = phrTo T ws k ++ if stands T ws k then [k] else [] := by
  unfold phrTo
  rw [List.range_succ, List.filter_append]
  by_cases h : stands T ws k <;> simp [h]
theorem phrTo_len (T : List (List UInt8)) (ws : List ByteArray) (k : Nat) : (phrTo T ws k).length ≤ k := by
  have := List.length_filter_le (stands T ws) (List.range k)
  rwa [List.length_range] at this
theorem stands_short (T : List (List UInt8)) (ws : List ByteArray) (i : Nat) (h : T.length - i < ws.length) : stands T ws i = false := by
  unfold stands
  rw [beq_eq_false_iff_ne]
  intro e
  have := congrArg List.length e
  simp at this
  omega
/-- Once too few words are left, none more stand. -/
theorem phrTo_short (T : List (List UInt8)) (ws : List ByteArray) (k : Nat) (h : T.length - k < ws.length) : ∀ j, k ≤ j → phrTo T ws j = phrTo T ws k := by
  intro j hj
  induction j with
  | zero => obtain rfl : k = 0 := by omega
            rfl
  | succ j ih =>
    by_cases e : k = j + 1
    · rw [e]
    · rw [phrTo_succ, stands_short T ws j (by omega), if_neg (by decide), List.append_nil]
      exact ih (by omega)
/-- So far the words stand. -/
def standsTo (T : List (List UInt8)) (ws : List ByteArray) (i k : Nat) : Bool := ((T.drop i).take k) == (ws.take k).map (fun s => s.data.toList)
theorem standsTo_zero (T : List (List UInt8)) (ws : List ByteArray) (i : Nat) : standsTo T ws i 0 = true := by simp [standsTo]
theorem standsTo_all (T : List (List UInt8)) (ws : List ByteArray) (i : Nat) : standsTo T ws i ws.length = stands T ws i := by unfold standsTo stands; rw [List.take_length]
theorem standsTo_succ (T : List (List UInt8)) (ws : List ByteArray) (i k : Nat) (h1 : i + k < T.length) (h2 : k < ws.length) : standsTo T ws i (k + 1) = (standsTo T ws i k && (T[i + k] == ws[k].data.toList)) := by
  unfold standsTo
  have e1 : (T.drop i).take (k + 1) = (T.drop i).take k ++ [T[i + k]] := by
    rw [List.take_succ_eq_append_getElem (by simp; omega)]
    simp
  have e2 : (ws.take (k + 1)).map (fun s => s.data.toList) = (ws.take k).map (fun s => s.data.toList) ++ [ws[k].data.toList] := by
    rw [List.take_succ_eq_append_getElem h2, List.map_append]; rfl
  have hl : ((T.drop i).take k).length = ((ws.take k).map (fun s => s.data.toList)).length := by simp; omega
  rw [e1, e2, Bool.eq_iff_iff]
  simp only [beq_iff_eq, Bool.and_eq_true]
  constructor
  · intro e
    have := List.append_inj e hl
    exact ⟨this.1, by simpa using this.2⟩
  · rintro ⟨a, b⟩
    rw [a, b]
theorem standsTo_no (T : List (List UInt8)) (ws : List ByteArray) (i k : Nat) (hk : k ≤ ws.length) (h : standsTo T ws i k = false) : stands T ws i = false := by
  unfold standsTo stands at *
  rw [beq_eq_false_iff_ne] at *
  intro e
  apply h
  have := congrArg (List.take k) e
  rw [List.take_take, Nat.min_eq_left hk] at this
  rw [this, List.map_take]

/-- Does a text begin so? -/
def begins (t : List UInt8) (p : ByteArray) : Bool := p.data.toList.isPrefixOf t
/-- Does a leaf match a text? -/
def leafT (k : Int) (ws : List ByteArray) (T : List (List UInt8)) : Bool :=
  if k = 3 then (match ws with | [p] => T.any (begins · p) | _ => false)
  else if k = 2 then decide (ws.length = 1) && decide (0 < (phr T ws).length)
  else decide (0 < (phr T ws).length)
def leafB (k : Int) (nm : ByteArray) (ws : List ByteArray) (fs : List (ByteArray × ByteArray)) : Bool := fs.any fun f => f.1.data.toList == nm.data.toList && leafT k ws (Tk.words f.2.data.toList)
mutual
/-- Does a query match fields? -/
def matchB (fs : List (ByteArray × ByteArray)) : Q → Bool
  | .mk k nm ws l => if k = 1 then true else if k = 2 ∨ k = 3 ∨ k = 4 then leafB k nm ws fs else if k = 5 then matchAll fs l else if k = 6 then matchSome fs l else if k = 7 then matchNone fs l else false
def matchAll (fs : List (ByteArray × ByteArray)) : List Q → Bool
  | [] => true
  | q :: l => matchB fs q && matchAll fs l
def matchSome (fs : List (ByteArray × ByteArray)) : List Q → Bool
  | [] => false
  | q :: l => matchB fs q || matchSome fs l
def matchNone (fs : List (ByteArray × ByteArray)) : List Q → Bool
  | [q] => !matchB fs q
  | _ => false
end
theorem matchAll_eq (fs : List (ByteArray × ByteArray)) : ∀ l, matchAll fs l = l.all (matchB fs)
  | [] => by simp [matchAll]
  | q :: l => by simp [matchAll, matchAll_eq fs l]
theorem matchSome_eq (fs : List (ByteArray × ByteArray)) : ∀ l, matchSome fs l = l.any (matchB fs)
  | [] => by simp [matchSome]
  | q :: l => by simp [matchSome, matchSome_eq fs l]
theorem matchB_eq (fs : List (ByteArray × ByteArray)) (k : Int) (nm : ByteArray) (ws : List ByteArray) (l : List Q) :
    matchB fs (.mk k nm ws l) = if k = 1 then true else if k = 2 ∨ k = 3 ∨ k = 4 then leafB k nm ws fs else if k = 5 then l.all (matchB fs) else if k = 6 then l.any (matchB fs) else if k = 7 then matchNone fs l else false := by
  rw [matchB, matchAll_eq, matchSome_eq]
end Go.Proofs.Ytjfconddkfihcaa.Qy
end

section
/- The walks of package utf: spans, lower case, words. -/
namespace Go.Proofs.Ytjfconddkfihcaa.Ut
open Go.RowKit

def inB (f t b r : Int) : Bool := decide (f ≤ r) && (decide (r ≤ t) && decide (r ≠ b))
theorem inB_yes {f t b r : Int} (h : f ≤ r ∧ r ≤ t ∧ r ≠ b) : inB f t b r = true := by
  unfold inB; simp [h.1, h.2.1, h.2.2]
theorem inB_no {f t b r : Int} (h : r < f ∨ t < r ∨ r = b) : inB f t b r = false := by
  unfold inB
  simp only [Bool.and_eq_false_iff, decide_eq_false_iff_not]
  omega

theorem in_any (f t b r : Int) (w : World) :
    Calls Try.prog 102 #[.agg #[.int .i64 f, .int .i64 t, .int .i64 b], .int .i64 r] w fun e w' => e = .returned (.bool (inB f t b r)) ∧ Below w.heap.size w w' := by
  have hb : Below w.heap.size w (w.alloc (.cells #[.int .i64 f, .int .i64 t, .int .i64 b] 133)) := (Below.refl _ _).alloc (Nat.le_refl _) _
  have Hb := Lib.hid hb
  clear hb
  by_cases h1 : f ≤ r
  · by_cases h2 : r ≤ t
    · by_cases h3 : r = b
      · have e : inB f t b r = false := inB_no (by omega)
        rw [e]
        have h4 : (r == b) = true := by simp [h3]
        have h5 : (r != b) = false := by simp [h3]
        clear h3 e
        go_enter Try.func102, Try.ntmps102
        go_wp2
        go_ret
        exact ⟨rfl, Hb.out⟩
      · have e : inB f t b r = true := inB_yes ⟨h1, h2, h3⟩
        rw [e]
        have h4 : (r == b) = false := by simp [h3]
        have h5 : (r != b) = true := by simp [h3]
        clear h3 e
        go_enter Try.func102, Try.ntmps102
        go_wp2
        go_ret
        exact ⟨rfl, Hb.out⟩
    · have e : inB f t b r = false := inB_no (by omega)
      rw [e]
      clear e
      go_enter Try.func102, Try.ntmps102
      go_wp2
      go_ret
      exact ⟨rfl, Hb.out⟩
  · have e : inB f t b r = false := inB_no (by omega)
    rw [e]
    clear e
    go_enter Try.func102, Try.ntmps102
    go_wp2
    go_ret
    exact ⟨rfl, Hb.out⟩

def halfB (r : Int) : Bool := decide (55296 ≤ r) && decide (r ≤ 57343)
theorem half_any (r : Int) (w : World) : Calls Try.prog 108 #[.int .i64 r] w fun e w' => e = .returned (.bool (halfB r)) ∧ w = w' := by
  by_cases h1 : 55296 ≤ r
  · by_cases h2 : r ≤ 57343
    · have e : halfB r = true := by simp [halfB, h1, h2]
      rw [e]; clear e
      go_enter Try.func108, Try.ntmps108
      go_wp2
      go_ret
      exact ⟨rfl, rfl⟩
    · have e : halfB r = false := by simp [halfB, h2]
      rw [e]; clear e
      go_enter Try.func108, Try.ntmps108
      go_wp2
      go_ret
      exact ⟨rfl, rfl⟩
  · have e : halfB r = false := by simp [halfB, h1]
    rw [e]; clear e
    go_enter Try.func108, Try.ntmps108
    go_wp2
    go_ret
    exact ⟨rfl, rfl⟩

def upA : Array Value := #[.int .i64 65, .int .i64 90, .int .i64 (-1), .int .i64 192, .int .i64 222, .int .i64 215, .int .i64 913, .int .i64 939, .int .i64 930, .int .i64 1040, .int .i64 1071, .int .i64 (-1)]
def upZ : Array Value := #[.int .i64 0, .int .i64 0, .int .i64 0, .int .i64 0, .int .i64 0, .int .i64 0, .int .i64 0, .int .i64 0, .int .i64 0, .int .i64 0, .int .i64 0, .int .i64 0]
theorem upA_one : upA.all (·.oneCell') = true := by simp [upA, Value.oneCell']
def upf : Nat → Int
  | 0 => 65
  | 1 => 192
  | 2 => 913
  | _ => 1040
def upt : Nat → Int
  | 0 => 90
  | 1 => 222
  | 2 => 939
  | _ => 1071
def upb : Nat → Int
  | 0 => (-1)
  | 1 => 215
  | 2 => 930
  | _ => (-1)
theorem idx_up0 (w : World) : (Instr.index 138 (.agg upA) (.int .i64 0)).run Try.prog w = .ok (.agg #[.int .i64 65, .int .i64 90, .int .i64 (-1)]) w := by kernel_rfl
theorem idx_up1 (w : World) : (Instr.index 138 (.agg upA) (.int .i64 1)).run Try.prog w = .ok (.agg #[.int .i64 192, .int .i64 222, .int .i64 215]) w := by kernel_rfl
theorem idx_up2 (w : World) : (Instr.index 138 (.agg upA) (.int .i64 2)).run Try.prog w = .ok (.agg #[.int .i64 913, .int .i64 939, .int .i64 930]) w := by kernel_rfl
theorem idx_up3 (w : World) : (Instr.index 138 (.agg upA) (.int .i64 3)).run Try.prog w = .ok (.agg #[.int .i64 1040, .int .i64 1071, .int .i64 (-1)]) w := by kernel_rfl
theorem idx_up (j : Nat) (hj : j < 4) (w : World) : (Instr.index 138 (.agg upA) (.int .i64 (j : Int))).run Try.prog w = .ok (.agg #[.int .i64 (upf j), .int .i64 (upt j), .int .i64 (upb j)]) w := by
  match j, hj with
  | 0, _ => exact idx_up0 w
  | 1, _ => exact idx_up1 w
  | 2, _ => exact idx_up2 w
  | 3, _ => exact idx_up3 w

def wdA : Array Value := #[.int .i64 48, .int .i64 57, .int .i64 (-1), .int .i64 65, .int .i64 90, .int .i64 (-1), .int .i64 97, .int .i64 122, .int .i64 (-1), .int .i64 192, .int .i64 255, .int .i64 215, .int .i64 913, .int .i64 974, .int .i64 930, .int .i64 1024, .int .i64 1119, .int .i64 (-1)]
def wdZ : Array Value := #[.int .i64 0, .int .i64 0, .int .i64 0, .int .i64 0, .int .i64 0, .int .i64 0, .int .i64 0, .int .i64 0, .int .i64 0, .int .i64 0, .int .i64 0, .int .i64 0, .int .i64 0, .int .i64 0, .int .i64 0, .int .i64 0, .int .i64 0, .int .i64 0]
theorem wdA_one : wdA.all (·.oneCell') = true := by simp [wdA, Value.oneCell']
def wdf : Nat → Int
  | 0 => 48
  | 1 => 65
  | 2 => 97
  | 3 => 192
  | 4 => 913
  | _ => 1024
def wdt : Nat → Int
  | 0 => 57
  | 1 => 90
  | 2 => 122
  | 3 => 255
  | 4 => 974
  | _ => 1119
def wdb : Nat → Int
  | 0 => (-1)
  | 1 => (-1)
  | 2 => (-1)
  | 3 => 215
  | 4 => 930
  | _ => (-1)
theorem idx_wd0 (w : World) : (Instr.index 134 (.agg wdA) (.int .i64 0)).run Try.prog w = .ok (.agg #[.int .i64 48, .int .i64 57, .int .i64 (-1)]) w := by kernel_rfl
theorem idx_wd1 (w : World) : (Instr.index 134 (.agg wdA) (.int .i64 1)).run Try.prog w = .ok (.agg #[.int .i64 65, .int .i64 90, .int .i64 (-1)]) w := by kernel_rfl
theorem idx_wd2 (w : World) : (Instr.index 134 (.agg wdA) (.int .i64 2)).run Try.prog w = .ok (.agg #[.int .i64 97, .int .i64 122, .int .i64 (-1)]) w := by kernel_rfl
theorem idx_wd3 (w : World) : (Instr.index 134 (.agg wdA) (.int .i64 3)).run Try.prog w = .ok (.agg #[.int .i64 192, .int .i64 255, .int .i64 215]) w := by kernel_rfl
theorem idx_wd4 (w : World) : (Instr.index 134 (.agg wdA) (.int .i64 4)).run Try.prog w = .ok (.agg #[.int .i64 913, .int .i64 974, .int .i64 930]) w := by kernel_rfl
theorem idx_wd5 (w : World) : (Instr.index 134 (.agg wdA) (.int .i64 5)).run Try.prog w = .ok (.agg #[.int .i64 1024, .int .i64 1119, .int .i64 (-1)]) w := by kernel_rfl
theorem idx_wd (j : Nat) (hj : j < 6) (w : World) : (Instr.index 134 (.agg wdA) (.int .i64 (j : Int))).run Try.prog w = .ok (.agg #[.int .i64 (wdf j), .int .i64 (wdt j), .int .i64 (wdb j)]) w := by
  match j, hj with
  | 0, _ => exact idx_wd0 w
  | 1, _ => exact idx_wd1 w
  | 2, _ => exact idx_wd2 w
  | 3, _ => exact idx_wd3 w
  | 4, _ => exact idx_wd4 w
  | 5, _ => exact idx_wd5 w

theorem up_in (r : Int) (j : Nat) (hj : j < 4) (h : inB (upf j) (upt j) (upb j) r = true) : lower r = r + 32 ∧ r ≤ 1071 ∧ 0 ≤ r := by
  unfold inB at h
  simp only [Bool.and_eq_true, decide_eq_true_eq] at h
  unfold lower
  match j, hj with
  | 0, _ => simp only [upf, upt, upb] at h; exact ⟨by rw [if_pos (by omega)], by omega, by omega⟩
  | 1, _ => simp only [upf, upt, upb] at h; exact ⟨by rw [if_pos (by omega)], by omega, by omega⟩
  | 2, _ => simp only [upf, upt, upb] at h; exact ⟨by rw [if_pos (by omega)], by omega, by omega⟩
  | 3, _ => simp only [upf, upt, upb] at h; exact ⟨by rw [if_pos (by omega)], by omega, by omega⟩
theorem inB_false {f t b r : Int} (h : inB f t b r = false) : ¬ (f ≤ r ∧ r ≤ t ∧ r ≠ b) := by
  intro c
  rw [inB_yes c] at h
  cases h
theorem up_out (r : Int) (h : ∀ j, j < 4 → inB (upf j) (upt j) (upb j) r = false) : lower r = if 1024 ≤ r ∧ r ≤ 1039 then r + 80 else r := by
  have h0 := inB_false (h 0 (by omega))
  have h1 := inB_false (h 1 (by omega))
  have h2 := inB_false (h 2 (by omega))
  have h3 := inB_false (h 3 (by omega))
  simp only [upf, upt, upb] at h0 h1 h2 h3
  unfold lower
  rw [if_neg (by omega)]
theorem wd_in (r : Int) (j : Nat) (hj : j < 6) (h : inB (wdf j) (wdt j) (wdb j) r = true) : isWord r = (r != 247) := by
  unfold inB at h
  simp only [Bool.and_eq_true, decide_eq_true_eq] at h
  unfold isWord
  rw [Bool.eq_iff_iff, decide_eq_true_eq, bne_iff_ne]
  match j, hj with
  | 0, _ => simp only [wdf, wdt, wdb] at h; omega
  | 1, _ => simp only [wdf, wdt, wdb] at h; omega
  | 2, _ => simp only [wdf, wdt, wdb] at h; omega
  | 3, _ => simp only [wdf, wdt, wdb] at h; omega
  | 4, _ => simp only [wdf, wdt, wdb] at h; omega
  | 5, _ => simp only [wdf, wdt, wdb] at h; omega
theorem wd_out (r : Int) (h : ∀ j, j < 6 → inB (wdf j) (wdt j) (wdb j) r = false) : isWord r = false := by
  have h0 := inB_false (h 0 (by omega))
  have h1 := inB_false (h 1 (by omega))
  have h2 := inB_false (h 2 (by omega))
  have h3 := inB_false (h 3 (by omega))
  have h4 := inB_false (h 4 (by omega))
  have h5 := inB_false (h 5 (by omega))
  simp only [wdf, wdt, wdb] at h0 h1 h2 h3 h4 h5
  unfold isWord
  rw [decide_eq_false_iff_not]
  omega

set_option maxRecDepth 20000 in
set_option maxHeartbeats 800000 in
theorem lower_any (r : Int) (w : World) : Calls Try.prog 81 #[.int .i64 r] w fun e w' => e = .returned (.int .i64 (lower r)) ∧ Below w.heap.size w w' := by
  have hb : Below w.heap.size w ((w.alloc (.cells upZ 138)).setRow w.heap.size upA) := below_setRow ((Below.refl _ _).alloc (Nat.le_refl _) _) (Nat.le_refl _) _
  have hh := setRow_heap (w.alloc (.cells upZ 138)) w.heap.size upZ upA 138 (0, 0) (heap_alloc_new w _)
  have Hb := Lib.hid hb
  clear hb
  go_enter Try.func81, Try.ntmps81
  go_wp2_with (first
    | (refine wpList_store_row (o := ⟨none, .store 138 _ _, _, _, _, _⟩) rfl 138 _ _ rfl w.heap.size upA rfl rfl 138 upZ (heap_alloc_new w _) (by kernel_rfl) rfl upA_one ?_)
    | (refine wpList_load_row (o := ⟨some 11, .load 138 _, _, _, _, _⟩) rfl 138 _ rfl w.heap.size rfl 138 upA (0, 0) _ hh Try.underlying138 rfl (by kernel_rfl) ?_))
  clear hh
  go_loopw [12] (fun i wr => ∃ j : Nat, j ≤ 4 ∧ i = .int .i64 j ∧ (∀ i, i < j → inB (upf i) (upt i) (upb i) r = false) ∧ Below w.heap.size w wr) (fun i _ => 4 - (intOf i).toNat)
  case atStart => exact ⟨0, by omega, rfl, fun i h => by omega, Hb.out⟩
  case round =>
    obtain ⟨j, hj, rfl, hno, hb⟩ := hrel
    have Hno := Lib.hid hno
    clear hno
    by_cases hj4 : j < 4
    · have hix := idx_up j hj4
      by_cases hin : inB (upf j) (upt j) (upb j) r = true
      · have hl := up_in r j hj4 hin
        have hr1 := hl.2.1
        have hr0 := hl.2.2
        have Hl := Lib.hid hl.1
        clear hl
        go_wp2_with (go_at_call 102; refine (calls_from (hb.alloc hb.size _) (in_any _ _ _ _ _)).mono ?_; rintro e w' ⟨rfl, hb⟩)
        go_ret
        exact ⟨by rw [Hl.out]; rfl, hb⟩
      · have hinf : inB (upf j) (upt j) (upb j) r = false := by simpa using hin
        have Hin := Lib.hid hinf
        clear hin
        go_wp2_with (go_at_call 102; refine (calls_from (hb.alloc hb.size _) (in_any _ _ _ _ _)).mono ?_; rintro e w' ⟨rfl, hb⟩)
        go_roundw
        case rel => exact ⟨j + 1, by omega, by go_num, fun i h => by
          by_cases e : i = j
          · subst e; exact Hin.out
          · exact Hno.out i (by omega), hb⟩
        case measure => simp [intOf]; omega
    · obtain rfl : j = 4 := by omega
      have hl := up_out r Hno.out
      by_cases h5 : 1024 ≤ r ∧ r ≤ 1039
      · rw [if_pos h5] at hl
        have e5 : inB 1024 1039 (-1) r = true := inB_yes (by omega)
        have h51 := h5.1
        have h52 := h5.2
        have Hl := Lib.hid hl
        clear hl h5
        go_wp2_with (go_at_call 102; refine (calls_from hb (in_any _ _ _ _ _)).mono ?_; rintro e w' ⟨rfl, hb⟩)
        go_ret
        exact ⟨by rw [Hl.out]; rfl, hb⟩
      · rw [if_neg h5] at hl
        have e5 : inB 1024 1039 (-1) r = false := inB_no (by omega)
        have Hl := Lib.hid hl
        clear hl h5
        go_wp2_with (go_at_call 102; refine (calls_from hb (in_any _ _ _ _ _)).mono ?_; rintro e w' ⟨rfl, hb⟩)
        go_ret
        exact ⟨by rw [Hl.out]; rfl, hb⟩

set_option maxRecDepth 20000 in
set_option maxHeartbeats 800000 in
theorem word_any (r : Int) (w : World) : Calls Try.prog 75 #[.int .i64 r] w fun e w' => e = .returned (.bool (isWord r)) ∧ Below w.heap.size w w' := by
  have hb : Below w.heap.size w ((w.alloc (.cells wdZ 134)).setRow w.heap.size wdA) := below_setRow ((Below.refl _ _).alloc (Nat.le_refl _) _) (Nat.le_refl _) _
  have hh := setRow_heap (w.alloc (.cells wdZ 134)) w.heap.size wdZ wdA 134 (0, 0) (heap_alloc_new w _)
  have Hb := Lib.hid hb
  clear hb
  go_enter Try.func75, Try.ntmps75
  go_wp2_with (first
    | (refine wpList_store_row (o := ⟨none, .store 134 _ _, _, _, _, _⟩) rfl 134 _ _ rfl w.heap.size wdA rfl rfl 134 wdZ (heap_alloc_new w _) (by kernel_rfl) rfl wdA_one ?_)
    | (refine wpList_load_row (o := ⟨some 13, .load 134 _, _, _, _, _⟩) rfl 134 _ rfl w.heap.size rfl 134 wdA (0, 0) _ hh Try.underlying134 rfl (by kernel_rfl) ?_))
  clear hh
  go_loopw [14] (fun i wr => ∃ j : Nat, j ≤ 6 ∧ i = .int .i64 j ∧ (∀ i, i < j → inB (wdf i) (wdt i) (wdb i) r = false) ∧ Below w.heap.size w wr) (fun i _ => 6 - (intOf i).toNat)
  case atStart => exact ⟨0, by omega, rfl, fun i h => by omega, Hb.out⟩
  case round =>
    obtain ⟨j, hj, rfl, hno, hb⟩ := hrel
    have Hno := Lib.hid hno
    clear hno
    by_cases hj6 : j < 6
    · have hix := idx_wd j hj6
      by_cases hin : inB (wdf j) (wdt j) (wdb j) r = true
      · have Hl := Lib.hid (wd_in r j hj6 hin)
        go_wp2_with (go_at_call 102; refine (calls_from (hb.alloc hb.size _) (in_any _ _ _ _ _)).mono ?_; rintro e w' ⟨rfl, hb⟩)
        go_ret
        exact ⟨by rw [Hl.out]; rfl, hb⟩
      · have hinf : inB (wdf j) (wdt j) (wdb j) r = false := by simpa using hin
        have Hin := Lib.hid hinf
        clear hin
        go_wp2_with (go_at_call 102; refine (calls_from (hb.alloc hb.size _) (in_any _ _ _ _ _)).mono ?_; rintro e w' ⟨rfl, hb⟩)
        go_roundw
        case rel => exact ⟨j + 1, by omega, by go_num, fun i h => by
          by_cases e : i = j
          · subst e; exact Hin.out
          · exact Hno.out i (by omega), hb⟩
        case measure => simp [intOf]; omega
    · obtain rfl : j = 6 := by omega
      have Hl := Lib.hid (wd_out r Hno.out)
      go_wp2
      go_ret
      exact ⟨by rw [Hl.out]; rfl, hb⟩
end Go.Proofs.Ytjfconddkfihcaa.Ut
end
