/- Plain facts on runes: what stands at a text's head, all runes, a rune's bytes, lower case. No program. -/
import Derived.Test.YtioekhiaoajgfaaGreatPkMemidxForksRow0
namespace Go.Proofs.YtioekhiaoajgfaaGreat.Ut
open Go.RowKit

def cont (b : UInt8) : Bool := b.toNat / 64 == 2
def acc (n : Nat) (l : List UInt8) : Nat := l.foldl (fun n x => n * 64 + x.toNat % 64) n
theorem acc_nil (n : Nat) : acc n [] = n := rfl
theorem acc_snoc (n : Nat) (l : List UInt8) (x : UInt8) : acc n (l ++ [x]) = acc n l * 64 + x.toNat % 64 := by
  unfold acc; rw [List.foldl_append]; rfl
/-- Is it a rune of that form? -/
def fits (m : Nat) (t : List UInt8) (k lo hi : Nat) : Bool :=
  decide (k - 1 ≤ t.length) && ((t.take (k - 1)).all cont && (decide (lo ≤ acc m (t.take (k - 1))) && (decide (acc m (t.take (k - 1)) ≤ hi) && !(decide (55296 ≤ acc m (t.take (k - 1))) && decide (acc m (t.take (k - 1)) ≤ 57343)))))
def form (m : Nat) (t : List UInt8) (k lo hi : Nat) : Nat × Nat := if fits m t k lo hi then (acc m (t.take (k - 1)), k) else (65533, 1)
/-- The rune at a text's head, and its size. -/
def dec : List UInt8 → Nat × Nat
  | [] => (0, 0)
  | b :: t =>
    if b.toNat < 128 then (b.toNat, 1)
    else if b.toNat / 32 = 6 then form (b.toNat % 32) t 2 128 2047
    else if b.toNat / 16 = 14 then form (b.toNat % 16) t 3 2048 65535
    else if b.toNat / 8 = 30 then form (b.toNat % 8) t 4 65536 1114111
    else (65533, 1)
theorem dec_cons (b : UInt8) (t : List UInt8) : dec (b :: t) =
    if b.toNat < 128 then (b.toNat, 1)
    else if b.toNat / 32 = 6 then form (b.toNat % 32) t 2 128 2047
    else if b.toNat / 16 = 14 then form (b.toNat % 16) t 3 2048 65535
    else if b.toNat / 8 = 30 then form (b.toNat % 8) t 4 65536 1114111
    else (65533, 1) := rfl
theorem form_size (m : Nat) (t : List UInt8) (k lo hi : Nat) (hk : 1 ≤ k) (hk4 : k ≤ 4) : 1 ≤ (form m t k lo hi).2 ∧ (form m t k lo hi).2 ≤ t.length + 1 ∧ (form m t k lo hi).2 ≤ 4 := by
  unfold form
  by_cases h : fits m t k lo hi = true
  · rw [if_pos h]
    simp only [fits, Bool.and_eq_true, decide_eq_true_eq] at h
    have h1 := h.1
    exact ⟨hk, by show k ≤ _; omega, hk4⟩
  · rw [if_neg h]
    exact ⟨Nat.le_refl _, by show 1 ≤ _; omega, by decide⟩
theorem dec_size (l : List UInt8) (h : l ≠ []) : 1 ≤ (dec l).2 ∧ (dec l).2 ≤ l.length ∧ (dec l).2 ≤ 4 := by
  match l, h with
  | b :: t, _ =>
    rw [dec_cons]
    by_cases h1 : b.toNat < 128
    · rw [if_pos h1]; simp
    · rw [if_neg h1]
      by_cases h2 : b.toNat / 32 = 6
      · rw [if_pos h2]; exact form_size _ _ _ _ _ (by omega) (by omega)
      · rw [if_neg h2]
        by_cases h3 : b.toNat / 16 = 14
        · rw [if_pos h3]; exact form_size _ _ _ _ _ (by omega) (by omega)
        · rw [if_neg h3]
          by_cases h4 : b.toNat / 8 = 30
          · rw [if_pos h4]; exact form_size _ _ _ _ _ (by omega) (by omega)
          · rw [if_neg h4]; simp
theorem form_rune (m : Nat) (t : List UInt8) (k lo hi : Nat) (hhi : hi ≤ 1114111) : (form m t k lo hi).1 ≤ 1114111 ∧ ¬ (55296 ≤ (form m t k lo hi).1 ∧ (form m t k lo hi).1 ≤ 57343) := by
  unfold form
  by_cases h : fits m t k lo hi = true
  · rw [if_pos h]
    simp only [fits, Bool.and_eq_true, decide_eq_true_eq, Bool.not_eq_true', Bool.and_eq_false_iff, decide_eq_false_iff_not] at h
    obtain ⟨_, _, _, h4, h5⟩ := h
    refine ⟨by show acc _ _ ≤ _; omega, ?_⟩
    show ¬ (55296 ≤ acc _ _ ∧ acc _ _ ≤ 57343)
    omega
  · rw [if_neg h]; simp
/-- What stands at a text's head is a rune that has bytes. -/
theorem dec_rune (l : List UInt8) : (dec l).1 ≤ 1114111 ∧ ¬ (55296 ≤ (dec l).1 ∧ (dec l).1 ≤ 57343) := by
  match l with
  | [] => simp [dec]
  | b :: t =>
    rw [dec_cons]
    by_cases h1 : b.toNat < 128
    · rw [if_pos h1]; simp; omega
    · rw [if_neg h1]
      by_cases h2 : b.toNat / 32 = 6
      · rw [if_pos h2]; exact form_rune _ _ _ _ _ (by omega)
      · rw [if_neg h2]
        by_cases h3 : b.toNat / 16 = 14
        · rw [if_pos h3]; exact form_rune _ _ _ _ _ (by omega)
        · rw [if_neg h3]
          by_cases h4 : b.toNat / 8 = 30
          · rw [if_pos h4]; exact form_rune _ _ _ _ _ (by omega)
          · rw [if_neg h4]; simp

/-- All runes. -/
def runesF : Nat → List UInt8 → List Nat
  | 0, _ => []
  | n + 1, l => if l = [] then [] else (dec l).1 :: runesF n (l.drop (dec l).2)
def runes (l : List UInt8) : List Nat := runesF l.length l
theorem runesF_eq : ∀ (n m : Nat) (l : List UInt8), l.length ≤ n → l.length ≤ m → runesF n l = runesF m l
  | 0, 0, _, _, _ => rfl
  | 0, m + 1, l, h, _ => by
    have : l = [] := List.eq_nil_of_length_eq_zero (by omega)
    subst this; simp [runesF]
  | n + 1, 0, l, _, h => by
    have : l = [] := List.eq_nil_of_length_eq_zero (by omega)
    subst this; simp [runesF]
  | n + 1, m + 1, l, h1, h2 => by
    unfold runesF
    by_cases h : l = []
    · rw [if_pos h, if_pos h]
    · rw [if_neg h, if_neg h]
      have := dec_size l h
      rw [runesF_eq n m (l.drop (dec l).2) (by rw [List.length_drop]; omega) (by rw [List.length_drop]; omega)]
theorem runes_nil : runes [] = [] := rfl
theorem runes_cons (l : List UInt8) (h : l ≠ []) : runes l = (dec l).1 :: runes (l.drop (dec l).2) := by
  have hs := dec_size l h
  have hl : 0 < l.length := by
    rcases l with _ | ⟨a, t⟩
    · exact absurd rfl h
    · simp
  obtain ⟨n, hn⟩ : ∃ n, l.length = n + 1 := ⟨l.length - 1, by omega⟩
  unfold runes
  rw [hn]
  show (if l = [] then [] else (dec l).1 :: runesF n (l.drop (dec l).2)) = _
  rw [if_neg h, runesF_eq n (l.drop (dec l).2).length _ (by rw [List.length_drop]; omega) (Nat.le_refl _)]
theorem runes_len (l : List UInt8) : (runes l).length ≤ l.length := by
  have key : ∀ (n : Nat) (l : List UInt8), l.length ≤ n → (runesF n l).length ≤ l.length := by
    intro n
    induction n with
    | zero => intro l _; simp [runesF]
    | succ n ih =>
      intro l hl
      unfold runesF
      by_cases h : l = []
      · rw [if_pos h]; simp
      · rw [if_neg h]
        have hs := dec_size l h
        have := ih (l.drop (dec l).2) (by rw [List.length_drop]; omega)
        rw [List.length_drop] at this
        simp only [List.length_cons]
        omega
  exact key _ l (Nat.le_refl _)
/-- Every rune of a text has bytes. -/
def Good (r : Nat) : Prop := r ≤ 1114111 ∧ ¬ (55296 ≤ r ∧ r ≤ 57343)
theorem runes_good (l : List UInt8) : ∀ r ∈ runes l, Good r := by
  have key : ∀ (n : Nat) (l : List UInt8), ∀ r ∈ runesF n l, Good r := by
    intro n
    induction n with
    | zero => intro l r h; simp [runesF] at h
    | succ n ih =>
      intro l r h
      unfold runesF at h
      by_cases he : l = []
      · rw [if_pos he] at h; simp at h
      · rw [if_neg he] at h
        rcases List.mem_cons.1 h with rfl | h
        · exact dec_rune l
        · exact ih _ r h
  exact key _ l

/-- A rune that has no bytes is told as the wrong one. -/
def fix (r : Int) : Nat := if r < 0 ∨ 1114111 < r ∨ (55296 ≤ r ∧ r ≤ 57343) then 65533 else r.toNat
theorem fix_good (r : Int) : Good (fix r) := by
  unfold fix Good
  by_cases h : r < 0 ∨ 1114111 < r ∨ (55296 ≤ r ∧ r ≤ 57343)
  · rw [if_pos h]; omega
  · rw [if_neg h]; omega
theorem fix_of_good (r : Nat) (h : Good r) : fix r = r := by
  unfold fix Good at *
  rw [if_neg (by omega)]; omega
def B (n : Nat) : UInt8 := UInt8.ofNat n
theorem B_toNat (n : Nat) (h : n < 256) : (B n).toNat = n := by
  unfold B; rw [UInt8.toNat_ofNat']; exact Nat.mod_eq_of_lt (by simpa using h)
/-- A rune's bytes. -/
def encN (r : Nat) : List UInt8 :=
  if r < 128 then [B r]
  else if r < 2048 then [B (192 + r / 64), B (128 + r % 64)]
  else if r < 65536 then [B (224 + r / 4096), B (128 + r / 64 % 64), B (128 + r % 64)]
  else [B (240 + r / 262144), B (128 + r / 4096 % 64), B (128 + r / 64 % 64), B (128 + r % 64)]
def enc (r : Int) : List UInt8 := encN (fix r)
def encode (rs : List Int) : List UInt8 := rs.flatMap enc
theorem encode_nil : encode [] = [] := rfl
theorem encode_snoc (rs : List Int) (r : Int) : encode (rs ++ [r]) = encode rs ++ enc r := by simp [encode]
theorem enc_len (r : Int) : 1 ≤ (enc r).length ∧ (enc r).length ≤ 4 := by
  unfold enc encN
  by_cases h1 : fix r < 128
  · rw [if_pos h1]; simp
  · rw [if_neg h1]
    by_cases h2 : fix r < 2048
    · rw [if_pos h2]; simp
    · rw [if_neg h2]
      by_cases h3 : fix r < 65536
      · rw [if_pos h3]; simp
      · rw [if_neg h3]; simp
theorem encode_len (rs : List Int) : (encode rs).length ≤ 4 * rs.length := by
  induction rs with
  | nil => simp [encode]
  | cons r rs ih =>
    have := enc_len r
    have e : encode (r :: rs) = enc r ++ encode rs := by simp [encode]
    rw [e, List.length_append, List.length_cons]
    omega

/-- There and back: what stands at the head of a rune's bytes is the rune. -/
theorem dec_enc (r : Nat) (h : Good r) (t : List UInt8) : dec (encN r ++ t) = (r, (encN r).length) := by
  unfold Good at h
  unfold encN
  by_cases h1 : r < 128
  · rw [if_pos h1]
    simp only [List.cons_append, List.nil_append, dec, B_toNat r (by omega), if_pos h1, List.length_singleton]
  · rw [if_neg h1]
    by_cases h2 : r < 2048
    · rw [if_pos h2]
      simp only [List.cons_append, List.nil_append, dec, B_toNat (192 + r / 64) (by omega)]
      rw [if_neg (by omega), if_pos (by omega)]
      have e1 := B_toNat (128 + r % 64) (by omega)
      have ea : acc ((192 + r / 64) % 32) ((B (128 + r % 64) :: t).take 1) = r := by
        simp only [List.take_succ_cons, List.take_zero, acc, List.foldl_cons, List.foldl_nil, e1]
        omega
      have ef : fits ((192 + r / 64) % 32) (B (128 + r % 64) :: t) 2 128 2047 = true := by
        simp only [fits, show 2 - 1 = 1 from rfl, ea, Bool.and_eq_true, decide_eq_true_eq, Bool.not_eq_true', Bool.and_eq_false_iff, decide_eq_false_iff_not]
        refine ⟨by simp, ?_, by omega, by omega, by omega⟩
        simp only [List.take_succ_cons, List.take_zero, List.all_cons, List.all_nil, Bool.and_true, cont, e1, beq_iff_eq]
        omega
      unfold form
      rw [if_pos ef, show 2 - 1 = 1 from rfl, ea]
      rfl
    · rw [if_neg h2]
      by_cases h3 : r < 65536
      · rw [if_pos h3]
        simp only [List.cons_append, List.nil_append, dec, B_toNat (224 + r / 4096) (by omega)]
        rw [if_neg (by omega), if_neg (by omega), if_pos (by omega)]
        have e1 := B_toNat (128 + r / 64 % 64) (by omega)
        have e2 := B_toNat (128 + r % 64) (by omega)
        have ea : acc ((224 + r / 4096) % 16) ((B (128 + r / 64 % 64) :: B (128 + r % 64) :: t).take 2) = r := by
          simp only [List.take_succ_cons, List.take_zero, acc, List.foldl_cons, List.foldl_nil, e1, e2]
          omega
        have ef : fits ((224 + r / 4096) % 16) (B (128 + r / 64 % 64) :: B (128 + r % 64) :: t) 3 2048 65535 = true := by
          simp only [fits, show 3 - 1 = 2 from rfl, ea, Bool.and_eq_true, decide_eq_true_eq, Bool.not_eq_true', Bool.and_eq_false_iff, decide_eq_false_iff_not]
          refine ⟨by simp, ?_, by omega, by omega, by omega⟩
          simp only [List.take_succ_cons, List.take_zero, List.all_cons, List.all_nil, Bool.and_true, cont, e1, e2, beq_iff_eq, Bool.and_eq_true]
          omega
        unfold form
        rw [if_pos ef, show 3 - 1 = 2 from rfl, ea]
        rfl
      · rw [if_neg h3]
        simp only [List.cons_append, List.nil_append, dec, B_toNat (240 + r / 262144) (by omega)]
        rw [if_neg (by omega), if_neg (by omega), if_neg (by omega), if_pos (by omega)]
        have e1 := B_toNat (128 + r / 4096 % 64) (by omega)
        have e2 := B_toNat (128 + r / 64 % 64) (by omega)
        have e3 := B_toNat (128 + r % 64) (by omega)
        have ea : acc ((240 + r / 262144) % 8) ((B (128 + r / 4096 % 64) :: B (128 + r / 64 % 64) :: B (128 + r % 64) :: t).take 3) = r := by
          simp only [List.take_succ_cons, List.take_zero, acc, List.foldl_cons, List.foldl_nil, e1, e2, e3]
          omega
        have ef : fits ((240 + r / 262144) % 8) (B (128 + r / 4096 % 64) :: B (128 + r / 64 % 64) :: B (128 + r % 64) :: t) 4 65536 1114111 = true := by
          simp only [fits, show 4 - 1 = 3 from rfl, ea, Bool.and_eq_true, decide_eq_true_eq, Bool.not_eq_true', Bool.and_eq_false_iff, decide_eq_false_iff_not]
          refine ⟨by simp, ?_, by omega, by omega, by omega⟩
          simp only [List.take_succ_cons, List.take_zero, List.all_cons, List.all_nil, Bool.and_true, cont, e1, e2, e3, beq_iff_eq, Bool.and_eq_true]
          omega
        unfold form
        rw [if_pos ef, show 4 - 1 = 3 from rfl, ea]
        rfl
theorem encN_ne (r : Nat) : encN r ≠ [] := by
  unfold encN
  by_cases h1 : r < 128
  · rw [if_pos h1]; simp
  · rw [if_neg h1]
    by_cases h2 : r < 2048
    · rw [if_pos h2]; simp
    · rw [if_neg h2]
      by_cases h3 : r < 65536
      · rw [if_pos h3]; simp
      · rw [if_neg h3]; simp
/-- The runes of runes' bytes. -/
theorem runes_encode (rs : List Int) (t : List UInt8) : runes (encode rs ++ t) = rs.map fix ++ runes t := by
  induction rs with
  | nil => rfl
  | cons r rs ih =>
    have e : encode (r :: rs) ++ t = encN (fix r) ++ (encode rs ++ t) := by simp [encode, enc]
    rw [e, runes_cons _ (by simp [encN_ne]), dec_enc _ (fix_good r), List.drop_left, ih]
    rfl

/-- Lower case. -/
def lower (r : Int) : Int :=
  if (65 ≤ r ∧ r ≤ 90) ∨ (192 ≤ r ∧ r ≤ 222 ∧ r ≠ 215) ∨ (913 ≤ r ∧ r ≤ 939 ∧ r ≠ 930) ∨ (1040 ≤ r ∧ r ≤ 1071) then r + 32
  else if 1024 ≤ r ∧ r ≤ 1039 then r + 80 else r
/-- A part of a word. -/
def isWord (r : Int) : Bool :=
  decide ((48 ≤ r ∧ r ≤ 57) ∨ (65 ≤ r ∧ r ≤ 90) ∨ (97 ≤ r ∧ r ≤ 122) ∨ (192 ≤ r ∧ r ≤ 255 ∧ r ≠ 215 ∧ r ≠ 247) ∨ (913 ≤ r ∧ r ≤ 974 ∧ r ≠ 930) ∨ (1024 ≤ r ∧ r ≤ 1119))
theorem lower_lower (r : Int) : lower (lower r) = lower r := by
  unfold lower
  repeat' split
  all_goals omega
theorem lower_good (r : Nat) (h : Good r) : 0 ≤ lower r ∧ Good (lower r).toNat := by
  unfold lower Good at *
  repeat' split
  all_goals omega
theorem lower_word (r : Int) : isWord (lower r) = isWord r := by
  unfold lower isWord
  rw [Bool.eq_iff_iff]
  simp only [decide_eq_true_eq]
  repeat' split
  all_goals omega
def ints (l : List Nat) : List Int := l.map Int.ofNat
/-- A text in lower case. -/
def fold (l : List UInt8) : List UInt8 := encode ((ints (runes l)).map lower)
def valid (l : List UInt8) : Bool := encode (ints (runes l)) == l
theorem fix_ints (l : List Nat) (h : ∀ r ∈ l, Good r) : (ints l).map fix = l := by
  unfold ints
  rw [List.map_map]
  conv => rhs; rw [← List.map_id l]
  exact List.map_congr_left fun r hr => fix_of_good r (h r hr)
theorem fix_lower (l : List Nat) (h : ∀ r ∈ l, Good r) : ((ints l).map lower).map fix = l.map (fun r : Nat => (lower (r : Int)).toNat) := by
  unfold ints
  rw [List.map_map, List.map_map]
  refine List.map_congr_left fun r hr => ?_
  have hg := lower_good r (h r hr)
  show fix (lower (r : Int)) = _
  have := fix_of_good _ hg.2
  rwa [Int.toNat_of_nonneg hg.1] at this
theorem runes_fold (l : List UInt8) : runes (fold l) = (runes l).map (fun r : Nat => (lower (r : Int)).toNat) := by
  have := runes_encode ((ints (runes l)).map lower) []
  rw [List.append_nil, runes_nil, List.append_nil, fix_lower _ (runes_good l)] at this
  exact this
theorem fold_fold (l : List UInt8) : fold (fold l) = fold l := by
  unfold fold
  congr 1
  have e := runes_fold l
  unfold fold at e
  rw [e]
  unfold ints
  rw [List.map_map, List.map_map, List.map_map]
  refine List.map_congr_left fun r hr => ?_
  have hg := lower_good r (runes_good l r hr)
  show lower (Int.ofNat (lower (r : Int)).toNat) = lower (r : Int)
  rw [show Int.ofNat (lower (r : Int)).toNat = lower (r : Int) from Int.toNat_of_nonneg hg.1, lower_lower]
theorem valid_fold (l : List UInt8) : valid (fold l) = true := by
  unfold valid
  rw [beq_iff_eq, runes_fold]
  unfold fold ints
  congr 1
  rw [List.map_map, List.map_map]
  refine List.map_congr_left fun r hr => ?_
  exact Int.toNat_of_nonneg (lower_good r (runes_good l r hr)).1
theorem valid_encode (rs : List Int) : valid (encode rs) = true := by
  have e := runes_encode rs []
  rw [List.append_nil, runes_nil, List.append_nil] at e
  unfold valid
  rw [beq_iff_eq, e]
  unfold encode ints
  clear e
  induction rs with
  | nil => rfl
  | cons r rs ih =>
    rw [List.map_cons, List.map_cons, List.flatMap_cons, List.flatMap_cons, ih]
    congr 1
    show encN (fix (fix r : Nat)) = encN (fix r)
    rw [fix_of_good _ (fix_good r)]
end Go.Proofs.YtioekhiaoajgfaaGreat.Ut
