/- Plain facts on words of texts. No program. -/
import Derived.Test.YtjfconddkfihcaaUtfP
namespace Go.Proofs.Ytjfconddkfihcaa.Tk
open Go.RowKit Go.Proofs.Ytjfconddkfihcaa.Ut

/-- A word of runes, cut: as many runes, lower case, as have 32 bytes at most. -/
def wordGo (a : List UInt8) : List Nat → List UInt8
  | [] => a
  | r :: t => if 32 < a.length + (enc (lower (r : Int))).length then a else wordGo (a ++ enc (lower (r : Int))) t
def word (l : List Nat) : List UInt8 := wordGo [] l
theorem wordGo_cons (a : List UInt8) (r : Nat) (t : List Nat) : wordGo a (r :: t) = if 32 < a.length + (enc (lower (r : Int))).length then a else wordGo (a ++ enc (lower (r : Int))) t := rfl
theorem wordGo_len : ∀ (l : List Nat) (a : List UInt8), a.length ≤ 32 → (wordGo a l).length ≤ 32
  | [], a, h => h
  | r :: t, a, h => by
    rw [wordGo_cons]
    split
    · exact h
    · exact wordGo_len t _ (by rw [List.length_append]; omega)
theorem word_len (l : List Nat) : (word l).length ≤ 32 := wordGo_len l [] (by simp)
/-- The runs of runes that are parts of words. -/
def last (c : List Nat) : List (List Nat) := if c = [] then [] else [c]
def runs (c : List Nat) : List Nat → List (List Nat)
  | [] => last c
  | r :: t => if isWord (r : Int) then runs (c ++ [r]) t else last c ++ runs [] t
theorem runs_nil (c : List Nat) : runs c [] = last c := rfl
theorem runs_cons (c : List Nat) (r : Nat) (t : List Nat) : runs c (r :: t) = if isWord (r : Int) then runs (c ++ [r]) t else last c ++ runs [] t := rfl
theorem runs_end : ∀ (l c : List Nat) (b : Nat), isWord (b : Int) = false → runs c (l ++ [b]) = runs c l
  | [], c, b, h => by
    rw [List.nil_append, runs_cons, h, if_neg (by decide), runs_nil, runs_nil]
    simp [last]
  | r :: t, c, b, h => by
    rw [List.cons_append, runs_cons, runs_cons, runs_end t _ b h, runs_end t _ b h]
/-- A text's words. -/
def words (s : List UInt8) : List (List UInt8) := (runs [] (runes s)).map word
end Go.Proofs.Ytjfconddkfihcaa.Tk
