/- Plain facts on words of texts. No program. -/
import Derived.Test.YtlfpfkallgkjdaaGreatProg
import Derived.Lib.Hide
import Derived.Lib.Strings
import Derived.Deep.QuietTactic
import Derived.BigQuiet
import Derived.Test.YtlfpfkallgkjdaaGreatPkAlertManyRow1
section
namespace Go.Proofs.YtlfpfkallgkjdaaGreat.Tk
open Go.RowKit Go.Proofs.YtlfpfkallgkjdaaGreat.Ut

/-- A word of runes, cut: as many runes, lower case, as have 32 bytes at most. -/
def wordGo (a : List UInt8) : List Nat → List UInt8
  | [] => a
  | r :: t => if 32 < a.length + (enc (lower (r : Int))).length then a else wordGo (a ++ enc (lower (r : Int))) t
def word (l : List Nat) : List UInt8 := wordGo [] l
theorem wordGo_cons (a : List UInt8) (r : Nat) (t : List Nat) : wordGo a (r :: t) = if 32 < a.length + (enc (lower (r : Int))).length then a else wordGo (a ++ enc (lower (r : Int))) t := rfl
theorem wordGo_len : ∀ (l : List Nat) (a : List UInt8), a.length ≤ 32 → (wordGo a l).length ≤ 32
  | [], a, h => h
  | r :: t, a, h => by
    rw [wordGo_cons]
    split
    · exact h
    · exact wordGo_len t _ (by rw [List.length_append]; omega)
theorem word_len (l : List Nat) : (word l).length ≤ 32 := wordGo_len l [] (by simp)
/-- The runs of runes that are parts of words. -/
def last (c : List Nat) : List (List Nat) := if c = [] then [] else [c]
def runs (c : List Nat) : List Nat → List (List Nat)
  | [] => last c
  | r :: t => if isWord (r : Int) then runs (c ++ [r]) t else last c ++ runs [] t
theorem runs_nil (c : List Nat) : runs c [] = last c := rfl
theorem runs_cons (c : List Nat) (r : Nat) (t : List Nat) : runs c (r :: t) = if isWord (r : Int) then runs (c ++ [r]) t else last c ++ runs [] t := rfl
theorem runs_end : ∀ (l c : List Nat) (b : Nat), isWord (b : Int) = false → runs c (l ++ [b]) = runs c l
  | [], c, b, h => by
    rw [List.nil_append, runs_cons, h, if_neg (by decide), runs_nil, runs_nil]
    simp [last]
  | r :: t, c, b, h => by
    rw [List.cons_append, runs_cons, runs_cons, runs_end t _ b h, runs_end t _ b h]
/-- A text's words. -/
def words (s : List UInt8) : List (List UInt8) := (runs [] (runes s)).map word
end Go.Proofs.YtlfpfkallgkjdaaGreat.Tk
end

section
/- Plain facts on words of words, folded texts, names and terms. No program. -/
namespace Go.Proofs.YtlfpfkallgkjdaaGreat.Tk
open Go.RowKit Go.Proofs.YtlfpfkallgkjdaaGreat.Ut

/-- A rune, lower case. -/
def low (r : Nat) : Nat := (lower (r : Int)).toNat
theorem low_cast (r : Nat) (h : Ut.Good r) : ((low r : Nat) : Int) = lower (r : Int) := Int.toNat_of_nonneg (lower_good r h).1
theorem low_good (r : Nat) (h : Ut.Good r) : Ut.Good (low r) := (lower_good r h).2
theorem low_word (r : Nat) (h : Ut.Good r) : isWord (low r : Nat) = isWord (r : Int) := by rw [low_cast r h, lower_word]
theorem low_low (r : Nat) (h : Ut.Good r) : lower ((low r : Nat) : Int) = lower (r : Int) := by rw [low_cast r h, lower_lower]
/-- How many runes of a word are told. -/
def wordN (a : List UInt8) : List Nat → Nat
  | [] => 0
  | r :: t => if 32 < a.length + (enc (lower (r : Int))).length then 0 else wordN (a ++ enc (lower (r : Int))) t + 1
theorem wordN_cons (a : List UInt8) (r : Nat) (t : List Nat) : wordN a (r :: t) = if 32 < a.length + (enc (lower (r : Int))).length then 0 else wordN (a ++ enc (lower (r : Int))) t + 1 := rfl
theorem wordGo_take : ∀ (l : List Nat) (a : List UInt8), wordGo a (l.take (wordN a l)) = wordGo a l
  | [], a => rfl
  | r :: t, a => by
    rw [wordN_cons, wordGo_cons]
    split
    · rename_i h
      simp only [List.take_zero]
      rfl
    · rename_i h
      rw [List.take_succ_cons, wordGo_cons, if_neg h, wordGo_take]
theorem wordGo_enc : ∀ (l : List Nat) (a : List UInt8), wordGo a l = a ++ encode ((ints (l.take (wordN a l))).map lower)
  | [], a => by simp [wordGo, ints, encode]
  | r :: t, a => by
    rw [wordN_cons, wordGo_cons]
    split
    · simp [ints, encode]
    · rw [List.take_succ_cons, wordGo_enc t]
      simp [ints, encode]
theorem wordN_pos (r : Nat) (t : List Nat) : 1 ≤ wordN [] (r :: t) := by
  rw [wordN_cons, if_neg (by have := (enc_len (lower (r : Int))).2; simp; omega)]
  omega
theorem wordGo_low : ∀ (l : List Nat) (a : List UInt8), (∀ r ∈ l, Ut.Good r) → wordGo a (l.map low) = wordGo a l
  | [], a, _ => rfl
  | r :: t, a, h => by
    rw [List.map_cons, wordGo_cons, wordGo_cons, low_low r (h r (by simp)), wordGo_low t _ (fun x hx => h x (by simp [hx]))]
theorem word_low (l : List Nat) (h : ∀ r ∈ l, Ut.Good r) : word (l.map low) = word l := wordGo_low l [] h
/-- The runes of a word that are told. -/
def told (l : List Nat) : List Nat := (l.take (wordN [] l)).map low
theorem word_told (l : List Nat) (h : ∀ r ∈ l, Ut.Good r) : word (told l) = word l := by
  unfold told
  rw [word_low _ (fun r hr => h r (List.mem_of_mem_take hr))]
  exact wordGo_take l []
theorem runes_word (l : List Nat) (h : ∀ r ∈ l, Ut.Good r) (t : List UInt8) : runes (word l ++ t) = told l ++ runes t := by
  have e : word l = encode ((ints (l.take (wordN [] l))).map lower) := by
    have := wordGo_enc l []
    rw [List.nil_append] at this
    exact this
  rw [e, runes_encode, fix_lower _ (fun r hr => h r (List.mem_of_mem_take hr))]
  rfl
theorem told_ne (l : List Nat) (h : l ≠ []) : told l ≠ [] := by
  obtain ⟨r, t, rfl⟩ : ∃ r t, l = r :: t := by cases l with | nil => exact absurd rfl h | cons r t => exact ⟨r, t, rfl⟩
  intro e
  have h1 := wordN_pos r t
  have h2 := congrArg List.length e
  unfold told at h2
  rw [List.length_map, List.length_take, List.length_cons, List.length_nil] at h2
  omega
/-- A run of runes: some, all of words. -/
def Run (l : List Nat) : Prop := l ≠ [] ∧ (∀ r ∈ l, Ut.Good r) ∧ ∀ r ∈ l, isWord (r : Int) = true
theorem told_run (l : List Nat) (h : Run l) : Run (told l) := by
  refine ⟨told_ne l h.1, ?_, ?_⟩
  · intro r hr
    unfold told at hr
    obtain ⟨x, hx, rfl⟩ := List.mem_map.1 hr
    exact low_good x (h.2.1 x (List.mem_of_mem_take hx))
  · intro r hr
    unfold told at hr
    obtain ⟨x, hx, rfl⟩ := List.mem_map.1 hr
    rw [low_word x (h.2.1 x (List.mem_of_mem_take hx))]
    exact h.2.2 x (List.mem_of_mem_take hx)
theorem runs_all : ∀ (m c x : List Nat), (∀ r ∈ m, isWord (r : Int) = true) → runs c (m ++ x) = runs (c ++ m) x
  | [], c, x, _ => by simp
  | r :: m, c, x, h => by
    rw [List.cons_append, runs_cons, h r (by simp), if_pos rfl, runs_all m (c ++ [r]) x (fun y hy => h y (by simp [hy]))]
    simp
theorem runs_sep (m x : List Nat) (b : Nat) (h : Run m) (hb : isWord (b : Int) = false) : runs [] (m ++ b :: x) = m :: runs [] x := by
  rw [runs_all m [] _ h.2.2, List.nil_append, runs_cons, hb, if_neg (by decide)]
  rw [last, if_neg h.1]; rfl
theorem runs_one (m : List Nat) (h : Run m) : runs [] m = [m] := by
  have := runs_all m [] [] h.2.2
  rw [List.append_nil] at this
  rw [this, List.nil_append, runs_nil]
  rw [last, if_neg h.1]
theorem runs_are : ∀ (l c : List Nat), (∀ r ∈ l, Ut.Good r) → (∀ r ∈ c, Ut.Good r ∧ isWord (r : Int) = true) → ∀ m ∈ runs c l, Run m
  | [], c, _, hc, m, hm => by
    rw [runs_nil] at hm
    unfold last at hm
    split at hm
    · cases hm
    · simp only [List.mem_singleton] at hm
      subst hm
      exact ⟨by assumption, fun r hr => (hc r hr).1, fun r hr => (hc r hr).2⟩
  | r :: t, c, hl, hc, m, hm => by
    rw [runs_cons] at hm
    split at hm
    · rename_i hw
      refine runs_are t (c ++ [r]) (fun x hx => hl x (by simp [hx])) (fun x hx => ?_) m hm
      rcases List.mem_append.1 hx with hx | hx
      · exact hc x hx
      · simp only [List.mem_singleton] at hx
        subst hx
        exact ⟨hl x (by simp), hw⟩
    · rcases List.mem_append.1 hm with hm | hm
      · unfold last at hm
        split at hm
        · cases hm
        · simp only [List.mem_singleton] at hm
          subst hm
          exact ⟨by assumption, fun r hr => (hc r hr).1, fun r hr => (hc r hr).2⟩
      · exact runs_are t [] (fun x hx => hl x (by simp [hx])) (fun x hx => by cases hx) m hm
theorem text_runs (s : List UInt8) : ∀ m ∈ runs [] (runes s), Run m := runs_are _ _ (runes_good s) (fun x hx => by cases hx)
/-- Words, a blank behind each. -/
def joined (ws : List (List UInt8)) : List UInt8 := ws.flatMap (· ++ [32])
theorem joined_cons (w : List UInt8) (ws : List (List UInt8)) : joined (w :: ws) = w ++ 32 :: joined ws := by simp [joined]
theorem joined_snoc (w : List UInt8) (ws : List (List UInt8)) : joined (ws ++ [w]) = joined ws ++ (w ++ [32]) := by simp [joined]
theorem runes_blank (t : List UInt8) : runes (32 :: t) = 32 :: runes t := by
  rw [runes_cons _ (by simp)]
  have e : dec (32 :: t) = (32, 1) := by rw [dec_cons]; simp
  rw [e]; rfl
theorem blank_no : isWord ((32 : Nat) : Int) = false := by decide
theorem runs_joined : ∀ (L : List (List Nat)), (∀ m ∈ L, Run m) → runs [] (runes (joined (L.map word))) = L.map told
  | [], _ => rfl
  | m :: L, h => by
    rw [List.map_cons, joined_cons, runes_word m (h m (by simp)).2.1, runes_blank, runs_sep _ _ _ (told_run m (h m (by simp))) blank_no,
      runs_joined L (fun x hx => h x (by simp [hx])), List.map_cons]
theorem words_joined (s : List UInt8) : words (joined (words s)) = words s := by
  unfold words
  rw [runs_joined _ (text_runs s), List.map_map]
  exact List.map_congr_left fun m hm => word_told m (text_runs s m hm).2.1
theorem words_word (s : List UInt8) : ∀ w ∈ words s, words w = [w] ∧ w.length ≤ 32 := by
  intro w hw
  unfold words at hw
  obtain ⟨m, hm, rfl⟩ := List.mem_map.1 hw
  have hr := text_runs s m hm
  refine ⟨?_, word_len m⟩
  have e := runes_word m hr.2.1 []
  rw [List.append_nil, runes_nil, List.append_nil] at e
  unfold words
  rw [e, runs_one _ (told_run m hr)]
  show [word (told m)] = [word m]
  rw [word_told m hr.2.1]
theorem runs_low : ∀ (l c : List Nat), (∀ r ∈ l, Ut.Good r) → runs (c.map low) (l.map low) = (runs c l).map (List.map low)
  | [], c, _ => by
    rw [List.map_nil, runs_nil, runs_nil]
    unfold last
    by_cases h : c = []
    · subst h; rfl
    · rw [if_neg h, if_neg (by simpa using h)]; rfl
  | r :: t, c, h => by
    rw [List.map_cons, runs_cons, runs_cons, low_word r (h r (by simp))]
    by_cases hw : isWord (r : Int) = true
    · rw [if_pos hw, if_pos hw, ← runs_low t (c ++ [r]) (fun x hx => h x (by simp [hx]))]
      simp
    · rw [if_neg hw, if_neg hw, List.map_append, ← runs_low t [] (fun x hx => h x (by simp [hx]))]
      congr 1
      unfold last
      by_cases hc : c = []
      · subst hc; rfl
      · rw [if_neg hc, if_neg (by simpa using hc)]; rfl
theorem words_fold (s : List UInt8) : words (fold s) = words s := by
  unfold words
  have e : runes (fold s) = (runes s).map low := runes_fold s
  have h := runs_low (runes s) [] (runes_good s)
  rw [List.map_nil] at h
  rw [e, h, List.map_map]
  exact List.map_congr_left fun m hm => word_low m (text_runs s m hm).2.1

/-- Is a text a word? -/
def isW (s : List UInt8) : Bool := words s == [s]
theorem isW_len (s : List UInt8) (h : 32 < s.length) : isW s = false := by
  unfold isW
  rw [beq_eq_false_iff_ne]
  intro e
  have := (words_word s s (by rw [e]; simp)).2
  omega
/-- Is a byte one of a name? Is a text a name? -/
def nameB (c : UInt8) : Bool := c.toNat == 95 || (decide (48 ≤ c.toNat) && decide (c.toNat ≤ 57)) || (decide (97 ≤ c.toNat) && decide (c.toNat ≤ 122))
def isN (s : List UInt8) : Bool := decide (1 ≤ s.length) && decide (s.length ≤ 32) && s.all nameB
/-- Where the first colon stands, or the text's length. -/
def colonAt (s : List UInt8) : Nat := s.findIdx (· == 58)
/-- A term's name, and its word. -/
def term (a b : List UInt8) : List UInt8 := a ++ 58 :: b
def splitOk (s : List UInt8) : Bool := decide (colonAt s < s.length) && isN (s.take (colonAt s)) && isW (s.drop (colonAt s + 1))
theorem isN_no (a : List UInt8) (h : isN a = true) : ∀ x ∈ a, (x == 58) = false := by
  intro x hx
  unfold isN at h
  rw [Bool.and_eq_true, List.all_eq_true] at h
  have hb := h.2 x hx
  rw [beq_eq_false_iff_ne]
  rintro rfl
  revert hb
  decide
theorem colonAt_term (a b : List UInt8) (h : isN a = true) : colonAt (term a b) = a.length := by
  have hn := isN_no a h
  unfold colonAt term
  clear h
  induction a with
  | nil => simp [List.findIdx_cons]
  | cons x a ih =>
    rw [List.cons_append, List.findIdx_cons, hn x (by simp), cond_false, ih (fun y hy => hn y (by simp [hy])), List.length_cons]
theorem split_term (a b : List UInt8) (h : isN a = true) (hb : isW b = true) : splitOk (term a b) = true ∧ (term a b).take (colonAt (term a b)) = a ∧ (term a b).drop (colonAt (term a b) + 1) = b := by
  have e := colonAt_term a b h
  have e1 : (term a b).take a.length = a := by unfold term; simp
  have e2 : (term a b).drop (a.length + 1) = b := by unfold term; simp
  unfold splitOk
  rw [e, e1, e2, h, hb]
  refine ⟨?_, rfl, rfl⟩
  simp [term]
theorem split_back (s : List UInt8) (h : splitOk s = true) : term (s.take (colonAt s)) (s.drop (colonAt s + 1)) = s := by
  unfold splitOk at h
  simp only [Bool.and_eq_true, decide_eq_true_eq] at h
  have h1 : (s[colonAt s]'h.1.1 == 58) = true := by
    have := List.findIdx_getElem (p := (· == 58)) (xs := s) (w := h.1.1)
    exact this
  unfold term
  rw [← (beq_iff_eq.1 h1), ← List.drop_eq_getElem_cons h.1.1, List.take_append_drop]
end Go.Proofs.YtlfpfkallgkjdaaGreat.Tk
end

section
/- The walks of package utf: spans, lower case, words. -/
namespace Go.Proofs.YtlfpfkallgkjdaaGreat.Ut
open Go.RowKit

def inB (f t b r : Int) : Bool := decide (f ≤ r) && (decide (r ≤ t) && decide (r ≠ b))
theorem inB_yes {f t b r : Int} (h : f ≤ r ∧ r ≤ t ∧ r ≠ b) : inB f t b r = true := by
  unfold inB; simp [h.1, h.2.1, h.2.2]
theorem inB_no {f t b r : Int} (h : r < f ∨ t < r ∨ r = b) : inB f t b r = false := by
  unfold inB
  simp only [Bool.and_eq_false_iff, decide_eq_false_iff_not]
  omega

theorem in_any (f t b r : Int) (w : World) :
    Calls Tryz.prog 144 #[.agg #[.int .i64 f, .int .i64 t, .int .i64 b], .int .i64 r] w fun e w' => e = .returned (.bool (inB f t b r)) ∧ Below w.heap.size w w' := by
  have hb : Below w.heap.size w (w.alloc (.cells #[.int .i64 f, .int .i64 t, .int .i64 b] 210)) := (Below.refl _ _).alloc (Nat.le_refl _) _
  have Hb := Lib.hid hb
  clear hb
  by_cases h1 : f ≤ r
  · by_cases h2 : r ≤ t
    · by_cases h3 : r = b
      · have e : inB f t b r = false := inB_no (by omega)
        rw [e]
        have h4 : (r == b) = true := by simp [h3]
        have h5 : (r != b) = false := by simp [h3]
        clear h3 e
        go_enter Tryz.func144, Tryz.ntmps144
        go_wp2
        go_ret
        exact ⟨rfl, Hb.out⟩
      · have e : inB f t b r = true := inB_yes ⟨h1, h2, h3⟩
        rw [e]
        have h4 : (r == b) = false := by simp [h3]
        have h5 : (r != b) = true := by simp [h3]
        clear h3 e
        go_enter Tryz.func144, Tryz.ntmps144
        go_wp2
        go_ret
        exact ⟨rfl, Hb.out⟩
    · have e : inB f t b r = false := inB_no (by omega)
      rw [e]
      clear e
      go_enter Tryz.func144, Tryz.ntmps144
      go_wp2
      go_ret
      exact ⟨rfl, Hb.out⟩
  · have e : inB f t b r = false := inB_no (by omega)
    rw [e]
    clear e
    go_enter Tryz.func144, Tryz.ntmps144
    go_wp2
    go_ret
    exact ⟨rfl, Hb.out⟩

def halfB (r : Int) : Bool := decide (55296 ≤ r) && decide (r ≤ 57343)
theorem half_any (r : Int) (w : World) : Calls Tryz.prog 174 #[.int .i64 r] w fun e w' => e = .returned (.bool (halfB r)) ∧ w = w' := by
  by_cases h1 : 55296 ≤ r
  · by_cases h2 : r ≤ 57343
    · have e : halfB r = true := by simp [halfB, h1, h2]
      rw [e]; clear e
      go_enter Tryz.func174, Tryz.ntmps174
      go_wp2
      go_ret
      exact ⟨rfl, rfl⟩
    · have e : halfB r = false := by simp [halfB, h2]
      rw [e]; clear e
      go_enter Tryz.func174, Tryz.ntmps174
      go_wp2
      go_ret
      exact ⟨rfl, rfl⟩
  · have e : halfB r = false := by simp [halfB, h1]
    rw [e]; clear e
    go_enter Tryz.func174, Tryz.ntmps174
    go_wp2
    go_ret
    exact ⟨rfl, rfl⟩

def upA : Array Value := #[.int .i64 65, .int .i64 90, .int .i64 (-1), .int .i64 192, .int .i64 222, .int .i64 215, .int .i64 913, .int .i64 939, .int .i64 930, .int .i64 1040, .int .i64 1071, .int .i64 (-1)]
def upZ : Array Value := #[.int .i64 0, .int .i64 0, .int .i64 0, .int .i64 0, .int .i64 0, .int .i64 0, .int .i64 0, .int .i64 0, .int .i64 0, .int .i64 0, .int .i64 0, .int .i64 0]
theorem upA_one : upA.all (·.oneCell') = true := by simp [upA, Value.oneCell']
def upf : Nat → Int
  | 0 => 65
  | 1 => 192
  | 2 => 913
  | _ => 1040
def upt : Nat → Int
  | 0 => 90
  | 1 => 222
  | 2 => 939
  | _ => 1071
def upb : Nat → Int
  | 0 => (-1)
  | 1 => 215
  | 2 => 930
  | _ => (-1)
theorem idx_up0 (w : World) : (Instr.index 242 (.agg upA) (.int .i64 0)).run Tryz.prog w = .ok (.agg #[.int .i64 65, .int .i64 90, .int .i64 (-1)]) w := by kernel_rfl
theorem idx_up1 (w : World) : (Instr.index 242 (.agg upA) (.int .i64 1)).run Tryz.prog w = .ok (.agg #[.int .i64 192, .int .i64 222, .int .i64 215]) w := by kernel_rfl
theorem idx_up2 (w : World) : (Instr.index 242 (.agg upA) (.int .i64 2)).run Tryz.prog w = .ok (.agg #[.int .i64 913, .int .i64 939, .int .i64 930]) w := by kernel_rfl
theorem idx_up3 (w : World) : (Instr.index 242 (.agg upA) (.int .i64 3)).run Tryz.prog w = .ok (.agg #[.int .i64 1040, .int .i64 1071, .int .i64 (-1)]) w := by kernel_rfl
theorem idx_up (j : Nat) (hj : j < 4) (w : World) : (Instr.index 242 (.agg upA) (.int .i64 (j : Int))).run Tryz.prog w = .ok (.agg #[.int .i64 (upf j), .int .i64 (upt j), .int .i64 (upb j)]) w := by
  match j, hj with
  | 0, _ => exact idx_up0 w
  | 1, _ => exact idx_up1 w
  | 2, _ => exact idx_up2 w
  | 3, _ => exact idx_up3 w

def wdA : Array Value := #[.int .i64 48, .int .i64 57, .int .i64 (-1), .int .i64 65, .int .i64 90, .int .i64 (-1), .int .i64 97, .int .i64 122, .int .i64 (-1), .int .i64 192, .int .i64 255, .int .i64 215, .int .i64 913, .int .i64 974, .int .i64 930, .int .i64 1024, .int .i64 1119, .int .i64 (-1)]
def wdZ : Array Value := #[.int .i64 0, .int .i64 0, .int .i64 0, .int .i64 0, .int .i64 0, .int .i64 0, .int .i64 0, .int .i64 0, .int .i64 0, .int .i64 0, .int .i64 0, .int .i64 0, .int .i64 0, .int .i64 0, .int .i64 0, .int .i64 0, .int .i64 0, .int .i64 0]
theorem wdA_one : wdA.all (·.oneCell') = true := by simp [wdA, Value.oneCell']
def wdf : Nat → Int
  | 0 => 48
  | 1 => 65
  | 2 => 97
  | 3 => 192
  | 4 => 913
  | _ => 1024
def wdt : Nat → Int
  | 0 => 57
  | 1 => 90
  | 2 => 122
  | 3 => 255
  | 4 => 974
  | _ => 1119
def wdb : Nat → Int
  | 0 => (-1)
  | 1 => (-1)
  | 2 => (-1)
  | 3 => 215
  | 4 => 930
  | _ => (-1)
theorem idx_wd0 (w : World) : (Instr.index 211 (.agg wdA) (.int .i64 0)).run Tryz.prog w = .ok (.agg #[.int .i64 48, .int .i64 57, .int .i64 (-1)]) w := by kernel_rfl
theorem idx_wd1 (w : World) : (Instr.index 211 (.agg wdA) (.int .i64 1)).run Tryz.prog w = .ok (.agg #[.int .i64 65, .int .i64 90, .int .i64 (-1)]) w := by kernel_rfl
theorem idx_wd2 (w : World) : (Instr.index 211 (.agg wdA) (.int .i64 2)).run Tryz.prog w = .ok (.agg #[.int .i64 97, .int .i64 122, .int .i64 (-1)]) w := by kernel_rfl
theorem idx_wd3 (w : World) : (Instr.index 211 (.agg wdA) (.int .i64 3)).run Tryz.prog w = .ok (.agg #[.int .i64 192, .int .i64 255, .int .i64 215]) w := by kernel_rfl
theorem idx_wd4 (w : World) : (Instr.index 211 (.agg wdA) (.int .i64 4)).run Tryz.prog w = .ok (.agg #[.int .i64 913, .int .i64 974, .int .i64 930]) w := by kernel_rfl
theorem idx_wd5 (w : World) : (Instr.index 211 (.agg wdA) (.int .i64 5)).run Tryz.prog w = .ok (.agg #[.int .i64 1024, .int .i64 1119, .int .i64 (-1)]) w := by kernel_rfl
theorem idx_wd (j : Nat) (hj : j < 6) (w : World) : (Instr.index 211 (.agg wdA) (.int .i64 (j : Int))).run Tryz.prog w = .ok (.agg #[.int .i64 (wdf j), .int .i64 (wdt j), .int .i64 (wdb j)]) w := by
  match j, hj with
  | 0, _ => exact idx_wd0 w
  | 1, _ => exact idx_wd1 w
  | 2, _ => exact idx_wd2 w
  | 3, _ => exact idx_wd3 w
  | 4, _ => exact idx_wd4 w
  | 5, _ => exact idx_wd5 w

theorem up_in (r : Int) (j : Nat) (hj : j < 4) (h : inB (upf j) (upt j) (upb j) r = true) : lower r = r + 32 ∧ r ≤ 1071 ∧ 0 ≤ r := by
  unfold inB at h
  simp only [Bool.and_eq_true, decide_eq_true_eq] at h
  unfold lower
  match j, hj with
  | 0, _ => simp only [upf, upt, upb] at h; exact ⟨by rw [if_pos (by omega)], by omega, by omega⟩
  | 1, _ => simp only [upf, upt, upb] at h; exact ⟨by rw [if_pos (by omega)], by omega, by omega⟩
  | 2, _ => simp only [upf, upt, upb] at h; exact ⟨by rw [if_pos (by omega)], by omega, by omega⟩
  | 3, _ => simp only [upf, upt, upb] at h; exact ⟨by rw [if_pos (by omega)], by omega, by omega⟩
theorem inB_false {f t b r : Int} (h : inB f t b r = false) : ¬ (f ≤ r ∧ r ≤ t ∧ r ≠ b) := by
  intro c
  rw [inB_yes c] at h
  cases h
theorem up_out (r : Int) (h : ∀ j, j < 4 → inB (upf j) (upt j) (upb j) r = false) : lower r = if 1024 ≤ r ∧ r ≤ 1039 then r + 80 else r := by
  have h0 := inB_false (h 0 (by omega))
  have h1 := inB_false (h 1 (by omega))
  have h2 := inB_false (h 2 (by omega))
  have h3 := inB_false (h 3 (by omega))
  simp only [upf, upt, upb] at h0 h1 h2 h3
  unfold lower
  rw [if_neg (by omega)]
theorem wd_in (r : Int) (j : Nat) (hj : j < 6) (h : inB (wdf j) (wdt j) (wdb j) r = true) : isWord r = (r != 247) := by
  unfold inB at h
  simp only [Bool.and_eq_true, decide_eq_true_eq] at h
  unfold isWord
  rw [Bool.eq_iff_iff, decide_eq_true_eq, bne_iff_ne]
  match j, hj with
  | 0, _ => simp only [wdf, wdt, wdb] at h; omega
  | 1, _ => simp only [wdf, wdt, wdb] at h; omega
  | 2, _ => simp only [wdf, wdt, wdb] at h; omega
  | 3, _ => simp only [wdf, wdt, wdb] at h; omega
  | 4, _ => simp only [wdf, wdt, wdb] at h; omega
  | 5, _ => simp only [wdf, wdt, wdb] at h; omega
theorem wd_out (r : Int) (h : ∀ j, j < 6 → inB (wdf j) (wdt j) (wdb j) r = false) : isWord r = false := by
  have h0 := inB_false (h 0 (by omega))
  have h1 := inB_false (h 1 (by omega))
  have h2 := inB_false (h 2 (by omega))
  have h3 := inB_false (h 3 (by omega))
  have h4 := inB_false (h 4 (by omega))
  have h5 := inB_false (h 5 (by omega))
  simp only [wdf, wdt, wdb] at h0 h1 h2 h3 h4 h5
  unfold isWord
  rw [decide_eq_false_iff_not]
  omega

set_option maxRecDepth 20000 in
set_option maxHeartbeats 800000 in
theorem lower_any (r : Int) (w : World) : Calls Tryz.prog 146 #[.int .i64 r] w fun e w' => e = .returned (.int .i64 (lower r)) ∧ Below w.heap.size w w' := by
  have hb : Below w.heap.size w ((w.alloc (.cells upZ 242)).setRow w.heap.size upA) := below_setRow ((Below.refl _ _).alloc (Nat.le_refl _) _) (Nat.le_refl _) _
  have hh := setRow_heap (w.alloc (.cells upZ 242)) w.heap.size upZ upA 242 (0, 0) (heap_alloc_new w _)
  have Hb := Lib.hid hb
  clear hb
  go_enter Tryz.func146, Tryz.ntmps146
  go_wp2_with (first
    | (refine wpList_store_row (o := ⟨none, .store 242 _ _, _, _, _, _⟩) rfl 242 _ _ rfl w.heap.size upA rfl rfl 242 upZ (heap_alloc_new w _) (by kernel_rfl) rfl upA_one ?_)
    | (refine wpList_load_row (o := ⟨some 11, .load 242 _, _, _, _, _⟩) rfl 242 _ rfl w.heap.size rfl 242 upA (0, 0) _ hh Tryz.underlying242 rfl (by kernel_rfl) ?_))
  clear hh
  go_loopw [12] (fun i wr => ∃ j : Nat, j ≤ 4 ∧ i = .int .i64 j ∧ (∀ i, i < j → inB (upf i) (upt i) (upb i) r = false) ∧ Below w.heap.size w wr) (fun i _ => 4 - (intOf i).toNat)
  case atStart => exact ⟨0, by omega, rfl, fun i h => by omega, Hb.out⟩
  case round =>
    obtain ⟨j, hj, rfl, hno, hb⟩ := hrel
    have Hno := Lib.hid hno
    clear hno
    by_cases hj4 : j < 4
    · have hix := idx_up j hj4
      by_cases hin : inB (upf j) (upt j) (upb j) r = true
      · have hl := up_in r j hj4 hin
        have hr1 := hl.2.1
        have hr0 := hl.2.2
        have Hl := Lib.hid hl.1
        clear hl
        go_wp2_with (go_at_call 144; refine (calls_from (hb.alloc hb.size _) (in_any _ _ _ _ _)).mono ?_; rintro e w' ⟨rfl, hb⟩)
        go_ret
        exact ⟨by rw [Hl.out]; rfl, hb⟩
      · have hinf : inB (upf j) (upt j) (upb j) r = false := by simpa using hin
        have Hin := Lib.hid hinf
        clear hin
        go_wp2_with (go_at_call 144; refine (calls_from (hb.alloc hb.size _) (in_any _ _ _ _ _)).mono ?_; rintro e w' ⟨rfl, hb⟩)
        go_roundw
        case rel => exact ⟨j + 1, by omega, by go_num, fun i h => by
          by_cases e : i = j
          · subst e; exact Hin.out
          · exact Hno.out i (by omega), hb⟩
        case measure => simp [intOf]; omega
    · obtain rfl : j = 4 := by omega
      have hl := up_out r Hno.out
      by_cases h5 : 1024 ≤ r ∧ r ≤ 1039
      · rw [if_pos h5] at hl
        have e5 : inB 1024 1039 (-1) r = true := inB_yes (by omega)
        have h51 := h5.1
        have h52 := h5.2
        have Hl := Lib.hid hl
        clear hl h5
        go_wp2_with (go_at_call 144; refine (calls_from hb (in_any _ _ _ _ _)).mono ?_; rintro e w' ⟨rfl, hb⟩)
        go_ret
        exact ⟨by rw [Hl.out]; rfl, hb⟩
      · rw [if_neg h5] at hl
        have e5 : inB 1024 1039 (-1) r = false := inB_no (by omega)
        have Hl := Lib.hid hl
        clear hl h5
        go_wp2_with (go_at_call 144; refine (calls_from hb (in_any _ _ _ _ _)).mono ?_; rintro e w' ⟨rfl, hb⟩)
        go_ret
        exact ⟨by rw [Hl.out]; rfl, hb⟩

set_option maxRecDepth 20000 in
set_option maxHeartbeats 800000 in
theorem word_any (r : Int) (w : World) : Calls Tryz.prog 109 #[.int .i64 r] w fun e w' => e = .returned (.bool (isWord r)) ∧ Below w.heap.size w w' := by
  have hb : Below w.heap.size w ((w.alloc (.cells wdZ 211)).setRow w.heap.size wdA) := below_setRow ((Below.refl _ _).alloc (Nat.le_refl _) _) (Nat.le_refl _) _
  have hh := setRow_heap (w.alloc (.cells wdZ 211)) w.heap.size wdZ wdA 211 (0, 0) (heap_alloc_new w _)
  have Hb := Lib.hid hb
  clear hb
  go_enter Tryz.func109, Tryz.ntmps109
  go_wp2_with (first
    | (refine wpList_store_row (o := ⟨none, .store 211 _ _, _, _, _, _⟩) rfl 211 _ _ rfl w.heap.size wdA rfl rfl 211 wdZ (heap_alloc_new w _) (by kernel_rfl) rfl wdA_one ?_)
    | (refine wpList_load_row (o := ⟨some 13, .load 211 _, _, _, _, _⟩) rfl 211 _ rfl w.heap.size rfl 211 wdA (0, 0) _ hh Tryz.underlying211 rfl (by kernel_rfl) ?_))
  clear hh
  go_loopw [14] (fun i wr => ∃ j : Nat, j ≤ 6 ∧ i = .int .i64 j ∧ (∀ i, i < j → inB (wdf i) (wdt i) (wdb i) r = false) ∧ Below w.heap.size w wr) (fun i _ => 6 - (intOf i).toNat)
  case atStart => exact ⟨0, by omega, rfl, fun i h => by omega, Hb.out⟩
  case round =>
    obtain ⟨j, hj, rfl, hno, hb⟩ := hrel
    have Hno := Lib.hid hno
    clear hno
    by_cases hj6 : j < 6
    · have hix := idx_wd j hj6
      by_cases hin : inB (wdf j) (wdt j) (wdb j) r = true
      · have Hl := Lib.hid (wd_in r j hj6 hin)
        go_wp2_with (go_at_call 144; refine (calls_from (hb.alloc hb.size _) (in_any _ _ _ _ _)).mono ?_; rintro e w' ⟨rfl, hb⟩)
        go_ret
        exact ⟨by rw [Hl.out]; rfl, hb⟩
      · have hinf : inB (wdf j) (wdt j) (wdb j) r = false := by simpa using hin
        have Hin := Lib.hid hinf
        clear hin
        go_wp2_with (go_at_call 144; refine (calls_from (hb.alloc hb.size _) (in_any _ _ _ _ _)).mono ?_; rintro e w' ⟨rfl, hb⟩)
        go_roundw
        case rel => exact ⟨j + 1, by omega, by go_num, fun i h => by
          by_cases e : i = j
          · subst e; exact Hin.out
          · exact Hno.out i (by omega), hb⟩
        case measure => simp [intOf]; omega
    · obtain rfl : j = 6 := by omega
      have Hl := Lib.hid (wd_out r Hno.out)
      go_wp2
      go_ret
      exact ⟨by rw [Hl.out]; rfl, hb⟩
end Go.Proofs.YtlfpfkallgkjdaaGreat.Ut
end

section
/- The walk of utf.Decode. -/
namespace Go.Proofs.YtlfpfkallgkjdaaGreat.Ut
open Go.RowKit
set_option maxRecDepth 20000

def f3 : Array Value := #[.int .i64 2, .int .u8 224, .int .u8 192, .int .i64 128, .int .i64 2047, .int .i64 (-1), .int .i64 3, .int .u8 240, .int .u8 224, .int .i64 2048, .int .i64 65535, .int .i64 (-1), .int .i64 4, .int .u8 248, .int .u8 240, .int .i64 65536, .int .i64 1114111, .int .i64 (-1)]
def z3 : Array Value := #[.int .i64 0, .int .u8 0, .int .u8 0, .int .i64 0, .int .i64 0, .int .i64 0, .int .i64 0, .int .u8 0, .int .u8 0, .int .i64 0, .int .i64 0, .int .i64 0, .int .i64 0, .int .u8 0, .int .u8 0, .int .i64 0, .int .i64 0, .int .i64 0]
theorem f3_one : f3.all (·.oneCell') = true := by simp [f3, Value.oneCell']
set_option maxHeartbeats 400000 in
theorem forms_any (w : World) : Calls Tryz.prog 173 #[] w fun e w' => e = .returned (.agg f3) ∧ Below w.heap.size w w' := by
  go_enter Tryz.func173, Tryz.ntmps173
  go_wp2_with (refine wpList_store_row (o := ⟨none, .store 239 _ _, _, _, _, _⟩) rfl 239 _ _ rfl w.heap.size f3 rfl rfl 239 z3 (heap_alloc_new w _) (by kernel_rfl) rfl f3_one ?_)
  have hh := setRow_heap (w.alloc (.cells z3 239)) w.heap.size z3 f3 239 (0, 0) (heap_alloc_new w _)
  exact bodyPost_ret (results_cell rfl rfl (run_loadVar_row _ w.heap.size 239 239 f3 (0, 0) _ hh Tryz.underlying239 rfl (by kernel_rfl))) rfl ⟨rfl, below_setRow ((Below.refl _ _).alloc (Nat.le_refl _) _) (Nat.le_refl _) _⟩
theorem idx_f0 (w : World) : (Instr.index 239 (.agg f3) (.int .i64 0)).run Tryz.prog w = .ok (.agg #[.int .i64 2, .int .u8 224, .int .u8 192, .int .i64 128, .int .i64 2047, .int .i64 (-1)]) w := by kernel_rfl
theorem idx_f1 (w : World) : (Instr.index 239 (.agg f3) (.int .i64 1)).run Tryz.prog w = .ok (.agg #[.int .i64 3, .int .u8 240, .int .u8 224, .int .i64 2048, .int .i64 65535, .int .i64 (-1)]) w := by kernel_rfl
theorem idx_f2 (w : World) : (Instr.index 239 (.agg f3) (.int .i64 2)).run Tryz.prog w = .ok (.agg #[.int .i64 4, .int .u8 248, .int .u8 240, .int .i64 65536, .int .i64 1114111, .int .i64 (-1)]) w := by kernel_rfl

/-- The rune at a place. -/
def decAt (s : ByteArray) (a : Int) : Nat × Nat := if a < 0 then (0, 0) else dec (s.data.toList.drop a.toNat)
theorem drop_cons (s : ByteArray) (k : Nat) (h : k < s.size) : s.data.toList.drop k = s[k] :: s.data.toList.drop (k + 1) := by
  rw [List.drop_eq_getElem_cons (by rw [bsize]; exact h)]; rfl
theorem drop_out (s : ByteArray) (k : Nat) (h : s.size ≤ k) : s.data.toList.drop k = [] := List.drop_of_length_le (by rw [bsize]; exact h)

theorem dec_out (s : ByteArray) (a : Int) (w : World) (h : a < 0 ∨ (s.size : Int) ≤ a) :
    Calls Tryz.prog 143 #[.string s, .int .i64 a] w fun e w' => e = .returned (.tuple #[.int .i64 0, .int .i64 0]) ∧ w = w' := by
  by_cases h0 : a < 0
  · go_enter Tryz.func143, Tryz.ntmps143
    go_wp2
    go_ret2
    exact ⟨rfl, rfl⟩
  · have h1 : (s.size : Int) ≤ a := by omega
    go_enter Tryz.func143, Tryz.ntmps143
    go_wp2
    go_ret2
    exact ⟨rfl, rfl⟩
theorem dec_low (s : ByteArray) (k m : Nat) (w : World) (hk : k < s.size) (hm : (s[k]).toNat = m) (h : m < 128) :
    Calls Tryz.prog 143 #[.string s, .int .i64 (k : Int)] w fun e w' => e = .returned (.tuple #[.int .i64 (m : Int), .int .i64 1]) ∧ w = w' := by
  have h0 : ¬ (k : Int) < 0 := by omega
  have h1 : ¬ (s.size : Int) ≤ (k : Int) := by omega
  have h2 : (m : Int) < 128 := by omega
  go_enter Tryz.func143, Tryz.ntmps143
  go_wp2
  go_ret2
  exact ⟨rfl, rfl⟩

theorem mask_all : ∀ m : Fin 256, ((bits BinOp.and IntKind.u8 ((m.val : Nat) : Int) 224 != 192) = !decide (m.val / 32 = 6)) ∧ ((bits BinOp.and IntKind.u8 ((m.val : Nat) : Int) 240 != 224) = !decide (m.val / 16 = 14)) ∧ ((bits BinOp.and IntKind.u8 ((m.val : Nat) : Int) 248 != 240) = !decide (m.val / 8 = 30)) ∧
    bits BinOp.andNot IntKind.u8 ((m.val : Nat) : Int) 224 = ((m.val % 32 : Nat) : Int) ∧ bits BinOp.andNot IntKind.u8 ((m.val : Nat) : Int) 240 = ((m.val % 16 : Nat) : Int) ∧ bits BinOp.andNot IntKind.u8 ((m.val : Nat) : Int) 248 = ((m.val % 8 : Nat) : Int) ∧
    bits BinOp.and IntKind.u8 ((m.val : Nat) : Int) 63 = ((m.val % 64 : Nat) : Int) ∧ (bits BinOp.and IntKind.u8 ((m.val : Nat) : Int) 192 == 128) = (m.val / 64 == 2) := by decide +kernel
theorem mask0 (m : Nat) (h : m < 256) : (bits BinOp.and IntKind.u8 (m : Int) 224 != 192) = !decide (m / 32 = 6) := (mask_all ⟨m, h⟩).1
theorem mask1 (m : Nat) (h : m < 256) : (bits BinOp.and IntKind.u8 (m : Int) 240 != 224) = !decide (m / 16 = 14) := (mask_all ⟨m, h⟩).2.1
theorem mask2 (m : Nat) (h : m < 256) : (bits BinOp.and IntKind.u8 (m : Int) 248 != 240) = !decide (m / 8 = 30) := (mask_all ⟨m, h⟩).2.2.1
theorem andn0 (m : Nat) (h : m < 256) : bits BinOp.andNot IntKind.u8 (m : Int) 224 = ((m % 32 : Nat) : Int) := (mask_all ⟨m, h⟩).2.2.2.1
theorem andn1 (m : Nat) (h : m < 256) : bits BinOp.andNot IntKind.u8 (m : Int) 240 = ((m % 16 : Nat) : Int) := (mask_all ⟨m, h⟩).2.2.2.2.1
theorem andn2 (m : Nat) (h : m < 256) : bits BinOp.andNot IntKind.u8 (m : Int) 248 = ((m % 8 : Nat) : Int) := (mask_all ⟨m, h⟩).2.2.2.2.2.1
theorem low6 (m : Nat) (h : m < 256) : bits BinOp.and IntKind.u8 (m : Int) 63 = ((m % 64 : Nat) : Int) := (mask_all ⟨m, h⟩).2.2.2.2.2.2.1
theorem high2 (m : Nat) (h : m < 256) : (bits BinOp.and IntKind.u8 (m : Int) 192 == 128) = (m / 64 == 2) := (mask_all ⟨m, h⟩).2.2.2.2.2.2.2
theorem acc_lt (m : Nat) (l : List UInt8) (hm : m < 32) (hl : l.length ≤ 3) : acc m l < 16777216 := by
  match l, hl with
  | [], _ => simp only [acc, List.foldl_nil]; omega
  | [a], _ => simp only [acc, List.foldl_cons, List.foldl_nil]; omega
  | [a, b], _ => simp only [acc, List.foldl_cons, List.foldl_nil]; omega
  | [a, b, c], _ => simp only [acc, List.foldl_cons, List.foldl_nil]; omega
theorem or_shift (a y : Nat) (ha : a < 16777216) (hy : y < 64) : bits BinOp.or IntKind.i64 ((a : Int) * 64) ((y : Nat) : Int) = ((a * 64 + y : Nat) : Int) := by
  have e : (a : Int) * 64 = ((a * 64 : Nat) : Int) := by omega
  rw [e]
  have h1 : (BitVec.ofInt 64 ((a * 64 : Nat) : Int)).toNat = a * 64 := by
    rw [BitVec.ofInt_natCast, BitVec.toNat_ofNat]; exact Nat.mod_eq_of_lt (by omega)
  have h2 : (BitVec.ofInt 64 ((y : Nat) : Int)).toNat = y := by
    rw [BitVec.ofInt_natCast, BitVec.toNat_ofNat]; exact Nat.mod_eq_of_lt (by omega)
  show IntKind.i64.wrap ((BitVec.ofInt 64 ((a * 64 : Nat) : Int) ||| BitVec.ofInt 64 ((y : Nat) : Int)).toNat : Int) = _
  rw [BitVec.toNat_or, h1, h2, IntKind.wrap_i64]
  have h3 : a * 64 ||| y = a * 64 + y := by
    have := Nat.shiftLeft_add_eq_or_of_lt (i := 6) (b := y) (by omega) a
    rw [Nat.shiftLeft_eq] at this
    exact this.symm
  rw [h3]
  omega
/-- A cut of a text, as the walk makes it. -/
theorem sub_at (s : ByteArray) (k n : Nat) (hn : 1 ≤ n) (h : k + n ≤ s.size) : ∃ u : ByteArray, u.size = n - 1 ∧ u.data.toList = (s.data.toList.drop (k + 1)).take (n - 1) ∧
    ∀ W : World, (Instr.slice 9 (.string s) (some (.int .i64 ((k : Int) + 1))) (some (.int .i64 ((k : Int) + (n : Int)))) none).run Tryz.prog W = .ok (.string u) W := by
  refine ⟨s.extract (k + 1) (k + n), by rw [ByteArray.size_extract]; omega, ?_, fun W => ?_⟩
  · have := Go.Lib.extract_data s (k + 1) (k + n)
    rw [this]
    congr 1
    omega
  · rw [run_slice_string W 9 s .i64 .i64 _ _ Tryz.underlying9 (by omega) (by omega) (by omega)]
    congr 3
theorem form_eq (m : Nat) (t : List UInt8) (k lo hi : Nat) (h : k - 1 ≤ t.length) (e : Bool) (he : (((t.take (k - 1)).all cont && inB lo hi (-1) (acc m (t.take (k - 1)) : Nat)) && !halfB (acc m (t.take (k - 1)) : Nat)) = e) :
    form m t k lo hi = if e then (acc m (t.take (k - 1)), k) else (65533, 1) := by
  unfold form fits
  subst he
  have e2 : inB lo hi (-1) (acc m (t.take (k - 1)) : Nat) = (decide (lo ≤ acc m (t.take (k - 1))) && decide (acc m (t.take (k - 1)) ≤ hi)) := by
    unfold inB
    rw [show decide ((acc m (t.take (k - 1)) : Nat) ≠ (-1 : Int)) = true from by rw [decide_eq_true_eq]; omega, Bool.and_true]
    congr 1 <;> rw [decide_eq_decide] <;> omega
  have e3 : halfB (acc m (t.take (k - 1)) : Nat) = (decide (55296 ≤ acc m (t.take (k - 1))) && decide (acc m (t.take (k - 1)) ≤ 57343)) := by
    unfold halfB
    congr 1 <;> rw [decide_eq_decide] <;> omega
  rw [e2, e3, show decide (k - 1 ≤ t.length) = true from by simpa using h, Bool.true_and, Bool.and_assoc, Bool.and_assoc]
theorem form_short (m : Nat) (t : List UInt8) (k lo hi : Nat) (h : t.length < k - 1) : form m t k lo hi = (65533, 1) := by
  unfold form fits
  rw [show decide (k - 1 ≤ t.length) = false from by simp; omega, Bool.false_and, if_neg (by simp)]
end Go.Proofs.YtlfpfkallgkjdaaGreat.Ut
end

section
/- The walk of utf.Decode at runes of 2 bytes. -/
namespace Go.Proofs.YtlfpfkallgkjdaaGreat.Ut
open Go.RowKit
set_option maxRecDepth 20000

set_option maxRecDepth 100000 in
set_option maxHeartbeats 3200000 in
theorem dec_form0 (s : ByteArray) (k m : Nat) (w : World) (hk : k < s.size) (hm : (s[k]).toNat = m) (h128 : 128 ≤ m) (h256 : m < 256) (hq : m / 32 = 6) (hs : s.size ≤ 140737488351232) :
    Calls Tryz.prog 143 #[.string s, .int .i64 (k : Int)] w fun e w' =>
      e = .returned (.tuple #[.int .i64 ((form (m % 32) (s.data.toList.drop (k + 1)) 2 128 2047).1 : Nat), .int .i64 ((form (m % 32) (s.data.toList.drop (k + 1)) 2 128 2047).2 : Nat)]) ∧ Below w.heap.size w w' := by
  have h0 : ¬ (k : Int) < 0 := by omega
  have h1 : ¬ (s.size : Int) ≤ (k : Int) := by omega
  have h2 : ¬ (m : Int) < 128 := by omega
  have hm0 := mask0 m h256
  have hm1 := mask1 m h256
  have hm2 := mask2 m h256
  rw [show decide (m / 32 = 6) = true from by simp; omega] at hm0
  rw [show decide (m / 16 = 14) = false from by simp; omega] at hm1
  rw [show decide (m / 8 = 30) = false from by simp; omega] at hm2
  simp only [Bool.not_true, Bool.not_false] at hm0 hm1 hm2
  have i0 := idx_f0
  have i1 := idx_f1
  have i2 := idx_f2
  by_cases hlen : k + 2 ≤ s.size
  · obtain ⟨u, hus, hul, hsl⟩ : ∃ u : ByteArray, u.size = 1 ∧ u.data.toList = (s.data.toList.drop (k + 1)).take 1 ∧ ∀ W : World, (Instr.slice 9 (.string s) (some (.int .i64 ((k : Int) + 1))) (some (.int .i64 ((k : Int) + 2))) none).run Tryz.prog W = .ok (.string u) W := sub_at s k 2 (by omega) hlen
    obtain ⟨cap, C, fr, hconv, hC⟩ := bytes_conv (P := Tryz.prog) 9 205 5 u Tryz.underlying9 Tryz.underlying205 Tryz.underlying5
    have han := andn0 m h256
    rw [hus] at hconv
    have Hul := Lib.hid hul
    have Hus := Lib.hid hus
    have HC := Lib.hid hC
    have Fin := Lib.hid (form_eq (m % 32) (s.data.toList.drop (k + 1)) 2 128 2047 (by rw [List.length_drop, bsize]; omega))
    rw [show 2 - 1 = 1 from rfl, ← hul] at Fin
    clear hul hus hC
    go_enter Tryz.func143, Tryz.ntmps143
    go_wp2_with (go_at_call 173; refine (forms_any _).mono ?_; rintro e w1 ⟨rfl, hb1⟩)
    refine wp_loop_rounds 4 ?_
    rw [rounds_succ]
    go_wp2_with fail
    have hb0 : Below w.heap.size w (((w1.alloc (.cells #[.int .i64 2, .int .u8 224, .int .u8 192, .int .i64 128, .int .i64 2047, .int .i64 (-1)] 238)).alloc (.cells (C (w1.alloc (.cells #[.int .i64 2, .int .u8 224, .int .u8 192, .int .i64 128, .int .i64 2047, .int .i64 (-1)] 238))) 5 (fr (w1.alloc (.cells #[.int .i64 2, .int .u8 224, .int .u8 192, .int .i64 128, .int .i64 2047, .int .i64 (-1)] 238))))).drew) :=
      (((hb1).alloc (by have := hb1.size; simp; omega) _).alloc (by have := hb1.size; simp; omega) _).drew
    have hk0 : Blk (((w1.alloc (.cells #[.int .i64 2, .int .u8 224, .int .u8 192, .int .i64 128, .int .i64 2047, .int .i64 (-1)] 238)).alloc (.cells (C (w1.alloc (.cells #[.int .i64 2, .int .u8 224, .int .u8 192, .int .i64 128, .int .i64 2047, .int .i64 (-1)] 238))) 5 (fr (w1.alloc (.cells #[.int .i64 2, .int .u8 224, .int .u8 192, .int .i64 128, .int .i64 2047, .int .i64 (-1)] 238))))).drew) (w1.heap.size) 238 #[.int .i64 2, .int .u8 224, .int .u8 192, .int .i64 128, .int .i64 2047, .int .i64 (-1)] := by
      have := ((Blk.new w1 238 #[.int .i64 2, .int .u8 224, .int .u8 192, .int .i64 128, .int .i64 2047, .int .i64 (-1)]).alloc (.cells (C (w1.alloc (.cells #[.int .i64 2, .int .u8 224, .int .u8 192, .int .i64 128, .int .i64 2047, .int .i64 (-1)] 238))) 5 (fr (w1.alloc (.cells #[.int .i64 2, .int .u8 224, .int .u8 192, .int .i64 128, .int .i64 2047, .int .i64 (-1)] 238))))).drew
      simpa using this
    have hc0 : ∀ (i : Nat) (h : i < u.size), (((w1.alloc (.cells #[.int .i64 2, .int .u8 224, .int .u8 192, .int .i64 128, .int .i64 2047, .int .i64 (-1)] 238)).alloc (.cells (C (w1.alloc (.cells #[.int .i64 2, .int .u8 224, .int .u8 192, .int .i64 128, .int .i64 2047, .int .i64 (-1)] 238))) 5 (fr (w1.alloc (.cells #[.int .i64 2, .int .u8 224, .int .u8 192, .int .i64 128, .int .i64 2047, .int .i64 (-1)] 238))))).drew).cell? ⟨w1.heap.size + 1, i, none⟩ = some (.int .u8 ((u[i]).toNat : Int)) := fun i h => by
      have := cell_new2 w1 (.cells #[.int .i64 2, .int .u8 224, .int .u8 192, .int .i64 128, .int .i64 2047, .int .i64 (-1)] 238) (C (w1.alloc (.cells #[.int .i64 2, .int .u8 224, .int .u8 192, .int .i64 128, .int .i64 2047, .int .i64 (-1)] 238))) 5 (fr (w1.alloc (.cells #[.int .i64 2, .int .u8 224, .int .u8 192, .int .i64 128, .int .i64 2047, .int .i64 (-1)] 238))) i
      have h2 := HC.out (w1.alloc (.cells #[.int .i64 2, .int .u8 224, .int .u8 192, .int .i64 128, .int .i64 2047, .int .i64 (-1)] 238)) i h
      try simp only [World.size_alloc] at this
      exact this.trans h2
    have Hb0 := Lib.hid hb0
    have Hk0 := Lib.hid hk0
    have Hc0 := Lib.hid hc0
    clear hb0 hk0 hc0
    go_loopw [9, 10, 63] (fun r o i wr => ∃ j : Nat, j ≤ 1 ∧ i = .int .i64 j ∧ r = .int .i64 (acc (m % 32) (u.data.toList.take j) : Nat) ∧ o = .bool ((u.data.toList.take j).all cont) ∧ Below w.heap.size w wr ∧ Blk wr (w1.heap.size) 238 #[.int .i64 2, .int .u8 224, .int .u8 192, .int .i64 128, .int .i64 2047, .int .i64 (-1)] ∧
        ∀ (i : Nat) (h : i < u.size), wr.cell? ⟨w1.heap.size + 1, i, none⟩ = some (.int .u8 ((u[i]).toNat : Int))) (fun _ _ i _ => 1 - (intOf i).toNat)
    case atStart => exact ⟨0, by omega, rfl, by simp [acc_nil], rfl, Hb0.out, Hk0.out, Hc0.out⟩
    case round =>
      obtain ⟨j, hj, rfl, hr, ho, hb, hkb, hcl⟩ := hrel
      by_cases hjn : j < 1
      · have hju : j < u.size := by rw [Hus.out]; exact hjn
        have hcx := hcl j hju
        have hx := (u[j]).toNat_lt
        have e63 := low6 _ hx
        have e192 := high2 _ hx
        have hts := take_snoc u j hju
        have ha := acc_snoc (m % 32) (u.data.toList.take j) u[j]
        have hal : ((u.data.toList.take j) ++ [u[j]]).all cont = ((u.data.toList.take j).all cont && (u[j].toNat / 64 == 2)) := by rw [List.all_append]; simp [cont]
        rw [← hts] at ha hal
        have hlt := acc_lt (m % 32) (u.data.toList.take j) (by omega) (by rw [List.length_take]; omega)
        have hor : bits BinOp.or IntKind.i64 ((acc (m % 32) (u.data.toList.take j) : Int) * 64) ((u[j].toNat : Int) % 64) = ((acc (m % 32) (u.data.toList.take j) * 64 + u[j].toNat % 64 : Nat) : Int) := by
          rw [show ((u[j].toNat : Int) % 64) = ((u[j].toNat % 64 : Nat) : Int) from by omega]
          exact or_shift (acc (m % 32) (u.data.toList.take j)) (u[j].toNat % 64) hlt (by omega)
        have Ha := Lib.hid ha
        have Hal := Lib.hid hal
        have Hcl := Lib.hid hcl
        have Hkb := Lib.hid hkb
        have Hb := Lib.hid hb
        clear ha hal hcl hkb hb hts
        generalize acc (m % 32) (u.data.toList.take j) = a at *
        generalize (u.data.toList.take j).all cont = ob at *
        generalize hxe : u[j].toNat = x at *
        have Hxe := Lib.hid hxe
        clear hxe
        generalize hcb : (x / 64 == 2) = cb at *
        have Hcb := Lib.hid hcb
        clear hcb
        subst hr ho
        cases ob
        · go_wp2
          go_roundw
          case rel => exact ⟨j + 1, by omega, by go_num, by rw [Ha.out]; first | rfl | go_num, by rw [Hal.out]; rfl, Hb.out, Hkb.out, Hcl.out⟩
          case measure => simp [intOf]; omega
        · go_wp2
          go_roundw
          case rel => exact ⟨j + 1, by omega, by go_num, by rw [Ha.out]; first | rfl | go_num, by rw [Hal.out]; rfl, Hb.out, Hkb.out, Hcl.out⟩
          case measure => simp [intOf]; omega
      · obtain rfl : j = 1 := by omega
        have htk : u.data.toList.take 1 = u.data.toList := List.take_of_length_le (by rw [bsize, Hus.out]; exact Nat.le_refl _)
        rw [htk] at hr ho
        have c3 := hkb.cell 3
        have c4 := hkb.cell 4
        have c5 := hkb.cell 5
        have c0 := hkb.cell 0
        have hwz : w.heap.size ≤ wr.heap.size := hb.size
        have hlt := acc_lt (m % 32) u.data.toList (by omega) (by rw [bsize, Hus.out]; omega)
        have hkl := hkb.lt
        clear hcl htk hkb
        generalize acc (m % 32) u.data.toList = a at *
        generalize u.data.toList.all cont = ob at *
        subst hr ho
        cases ob
        · have fin := Lib.hid (Fin.out false rfl)
          clear Fin
          go_wp2_with (first | (go_at_call 144; refine (calls_from hb (in_any _ _ _ _ _)).mono ?_; rintro e w' ⟨rfl, hb⟩) | (go_at_call 174; refine (half_any _ _).mono ?_; rintro e w' ⟨rfl, rfl⟩))
          rw [rounds_succ]
          go_wp2_with fail
          have hb := hb.alloc hb.size (.cells #[.int .i64 3, .int .u8 240, .int .u8 224, .int .i64 2048, .int .i64 65535, .int .i64 (-1)] 238)
          rw [rounds_succ]
          go_wp2_with fail
          have hb := hb.alloc hb.size (.cells #[.int .i64 4, .int .u8 248, .int .u8 240, .int .i64 65536, .int .i64 1114111, .int .i64 (-1)] 238)
          rw [rounds_succ]
          go_wp2_with fail
          go_ret2
          exact ⟨by rw [fin.out]; rfl, hb⟩
        · by_cases hin : inB 128 2047 (-1) (a : Int) = true
          · by_cases hh : halfB (a : Int) = true
            · have fin := Lib.hid (Fin.out false (by rw [show inB ((128 : Nat) : Int) ((2047 : Nat) : Int) (-1) (a : Int) = true from hin, hh]; rfl))
              clear Fin
              go_wp2_with (first | (go_at_call 144; refine (calls_from hb (in_any _ _ _ _ _)).mono ?_; rintro e w' ⟨rfl, hb⟩) | (go_at_call 174; refine (half_any _ _).mono ?_; rintro e w' ⟨rfl, rfl⟩))
              rw [rounds_succ]
              go_wp2_with fail
              have hb := hb.alloc hb.size (.cells #[.int .i64 3, .int .u8 240, .int .u8 224, .int .i64 2048, .int .i64 65535, .int .i64 (-1)] 238)
              rw [rounds_succ]
              go_wp2_with fail
              have hb := hb.alloc hb.size (.cells #[.int .i64 4, .int .u8 248, .int .u8 240, .int .i64 65536, .int .i64 1114111, .int .i64 (-1)] 238)
              rw [rounds_succ]
              go_wp2_with fail
              go_ret2
              exact ⟨by rw [fin.out]; rfl, hb⟩
            · have hhf : halfB (a : Int) = false := by simpa using hh
              have fin := Lib.hid (Fin.out true (by rw [show inB ((128 : Nat) : Int) ((2047 : Nat) : Int) (-1) (a : Int) = true from hin, hhf]; rfl))
              clear Fin hh
              go_wp2_with (first | (go_at_call 144; refine (in_any _ _ _ _ _).mono ?_; rintro e w3 ⟨rfl, hb3⟩; have c03 := (hb3.cell (p := ⟨w1.heap.size, 0, none⟩) hkl).trans c0) | (go_at_call 174; refine (half_any _ _).mono ?_; rintro e w' ⟨rfl, rfl⟩))
              go_quiet (fail)
              go_wp2
              go_ret2
              exact ⟨by rw [fin.out]; rfl, below_drewN (hb.trans (hb3.mono hb.size)) _⟩
          · have hinf : inB 128 2047 (-1) (a : Int) = false := by simpa using hin
            have fin := Lib.hid (Fin.out false (by rw [show inB ((128 : Nat) : Int) ((2047 : Nat) : Int) (-1) (a : Int) = false from hinf]; rfl))
            clear Fin hin
            go_wp2_with (first | (go_at_call 144; refine (calls_from hb (in_any _ _ _ _ _)).mono ?_; rintro e w' ⟨rfl, hb⟩) | (go_at_call 174; refine (half_any _ _).mono ?_; rintro e w' ⟨rfl, rfl⟩))
            rw [rounds_succ]
            go_wp2_with fail
            have hb := hb.alloc hb.size (.cells #[.int .i64 3, .int .u8 240, .int .u8 224, .int .i64 2048, .int .i64 65535, .int .i64 (-1)] 238)
            rw [rounds_succ]
            go_wp2_with fail
            have hb := hb.alloc hb.size (.cells #[.int .i64 4, .int .u8 248, .int .u8 240, .int .i64 65536, .int .i64 1114111, .int .i64 (-1)] 238)
            rw [rounds_succ]
            go_wp2_with fail
            go_ret2
            exact ⟨by rw [fin.out]; rfl, hb⟩
  · have fin := Lib.hid (form_short (m % 32) (s.data.toList.drop (k + 1)) 2 128 2047 (by rw [List.length_drop, bsize]; omega))
    have hsh : (s.size : Int) - (k : Int) < 2 := by omega
    go_enter Tryz.func143, Tryz.ntmps143
    go_wp2_with (go_at_call 173; refine (forms_any _).mono ?_; rintro e w1 ⟨rfl, hb1⟩)
    refine wp_loop_rounds 4 ?_
    rw [rounds_succ]
    go_wp2_with fail
    rw [rounds_succ]
    go_wp2_with fail
    rw [rounds_succ]
    go_wp2_with fail
    rw [rounds_succ]
    go_wp2_with fail
    go_ret2
    exact ⟨by rw [fin.out]; rfl, ((hb1.alloc hb1.size _).alloc (by have := hb1.size; simp; omega) _).alloc (by have := hb1.size; simp; omega) _⟩
end Go.Proofs.YtlfpfkallgkjdaaGreat.Ut
end
