/- Plain facts on words of texts. No program. -/
import Derived.Test.YtjfconddkfihcaaUtfPPk
import Derived.Test.YtjfconddkfihcaaPkMatchTellsRow1
section
namespace Go.Proofs.Ytjfconddkfihcaa.Tk
open Go.RowKit Go.Proofs.Ytjfconddkfihcaa.Ut

/-- A word of runes, cut: as many runes, lower case, as have 32 bytes at most. -/
def wordGo (a : List UInt8) : List Nat → List UInt8
  | [] => a
  | r :: t => if 32 < a.length + (enc (lower (r : Int))).length then a else wordGo (a ++ enc (lower (r : Int))) t
def word (l : List Nat) : List UInt8 := wordGo [] l
theorem wordGo_cons (a : List UInt8) (r : Nat) (t : List Nat) : wordGo a (r :: t) = if 32 < a.length + (enc (lower (r : Int))).length then a else wordGo (a ++ enc (lower (r : Int))) t := rfl
theorem wordGo_len : ∀ (l : List Nat) (a : List UInt8), a.length ≤ 32 → (wordGo a l).length ≤ 32
  | [], a, h => h
  | r :: t, a, h => by
    rw [wordGo_cons]
    split
    · exact h
    · exact wordGo_len t _ (by rw [List.length_append]; omega)
theorem word_len (l : List Nat) : (word l).length ≤ 32 := wordGo_len l [] (by simp)
/-- The runs of runes that are parts of words. -/
def last (c : List Nat) : List (List Nat) := if c = [] then [] else [c]
def runs (c : List Nat) : List Nat → List (List Nat)
  | [] => last c
  | r :: t => if isWord (r : Int) then runs (c ++ [r]) t else last c ++ runs [] t
theorem runs_nil (c : List Nat) : runs c [] = last c := rfl
theorem runs_cons (c : List Nat) (r : Nat) (t : List Nat) : runs c (r :: t) = if isWord (r : Int) then runs (c ++ [r]) t else last c ++ runs [] t := rfl
theorem runs_end : ∀ (l c : List Nat) (b : Nat), isWord (b : Int) = false → runs c (l ++ [b]) = runs c l
  | [], c, b, h => by
    rw [List.nil_append, runs_cons, h, if_neg (by decide), runs_nil, runs_nil]
    simp [last]
  | r :: t, c, b, h => by
    rw [List.cons_append, runs_cons, runs_cons, runs_end t _ b h, runs_end t _ b h]
/-- A text's words. -/
def words (s : List UInt8) : List (List UInt8) := (runs [] (runes s)).map word
end Go.Proofs.Ytjfconddkfihcaa.Tk
end

section
/- Plain facts on phrases, beginnings, and what a query matches. No program. -/
namespace Go.Proofs.Ytjfconddkfihcaa.Qy
open Go.RowKit Go.Proofs.Ytjfconddkfihcaa Go.Proofs.Ytjfconddkfihcaa.Ut

/-- Do words stand from the i-th on? -/
def stands (T : List (List UInt8)) (ws : List ByteArray) (i : Nat) : Bool := ((T.drop i).take ws.length) == ws.map (fun s => s.data.toList)
/-- Where words stand, of the first k places. -/
def phrTo (T : List (List UInt8)) (ws : List ByteArray) (k : Nat) : List Nat := (List.range k).filter (stands T ws)
def phr (T : List (List UInt8)) (ws : List ByteArray) : List Nat := if ws = [] then [] else phrTo T ws T.length
theorem phrTo_succ (T : List (List UInt8)) (ws : List ByteArray) (k : Nat) : phrTo T ws (k + 1) = phrTo T ws k ++ if stands T ws k then [k] else [] := by
  unfold phrTo
  rw [List.range_succ, List.filter_append]
  by_cases h : stands T ws k <;> simp [h]
theorem phrTo_len (T : List (List UInt8)) (ws : List ByteArray) (k : Nat) : (phrTo T ws k).length ≤ k := by
  have := List.length_filter_le (stands T ws) (List.range k)
  rwa [List.length_range] at this
theorem stands_short (T : List (List UInt8)) (ws : List ByteArray) (i : Nat) (h : T.length - i < ws.length) : stands T ws i = false := by
  unfold stands
  rw [beq_eq_false_iff_ne]
  intro e
  have := congrArg List.length e
  simp at this
  omega
/-- Once too few words are left, none more stand. -/
theorem phrTo_short (T : List (List UInt8)) (ws : List ByteArray) (k : Nat) (h : T.length - k < ws.length) : ∀ j, k ≤ j → phrTo T ws j = phrTo T ws k := by
  intro j hj
  induction j with
  | zero => obtain rfl : k = 0 := by omega
            rfl
  | succ j ih =>
    by_cases e : k = j + 1
    · rw [e]
    · rw [phrTo_succ, stands_short T ws j (by omega), if_neg (by decide), List.append_nil]
      exact ih (by omega)
/-- So far the words stand. -/
def standsTo (T : List (List UInt8)) (ws : List ByteArray) (i k : Nat) : Bool := ((T.drop i).take k) == (ws.take k).map (fun s => s.data.toList)
theorem standsTo_zero (T : List (List UInt8)) (ws : List ByteArray) (i : Nat) : standsTo T ws i 0 = true := by simp [standsTo]
theorem standsTo_all (T : List (List UInt8)) (ws : List ByteArray) (i : Nat) : standsTo T ws i ws.length = stands T ws i := by unfold standsTo stands; rw [List.take_length]
theorem standsTo_succ (T : List (List UInt8)) (ws : List ByteArray) (i k : Nat) (h1 : i + k < T.length) (h2 : k < ws.length) : standsTo T ws i (k + 1) = (standsTo T ws i k && (T[i + k] == ws[k].data.toList)) := by
  unfold standsTo
  have e1 : (T.drop i).take (k + 1) = (T.drop i).take k ++ [T[i + k]] := by
    rw [List.take_succ_eq_append_getElem (by simp; omega)]
    simp
  have e2 : (ws.take (k + 1)).map (fun s => s.data.toList) = (ws.take k).map (fun s => s.data.toList) ++ [ws[k].data.toList] := by
    rw [List.take_succ_eq_append_getElem h2, List.map_append]; rfl
  have hl : ((T.drop i).take k).length = ((ws.take k).map (fun s => s.data.toList)).length := by simp; omega
  rw [e1, e2, Bool.eq_iff_iff]
  simp only [beq_iff_eq, Bool.and_eq_true]
  constructor
  · intro e
    have := List.append_inj e hl
    exact ⟨this.1, by simpa using this.2⟩
  · rintro ⟨a, b⟩
    rw [a, b]
theorem standsTo_no (T : List (List UInt8)) (ws : List ByteArray) (i k : Nat) (hk : k ≤ ws.length) (h : standsTo T ws i k = false) : stands T ws i = false := by
  unfold standsTo stands at *
  rw [beq_eq_false_iff_ne] at *
  intro e
  apply h
  have := congrArg (List.take k) e
  rw [List.take_take, Nat.min_eq_left hk] at this
  rw [this, List.map_take]

/-- Does a text begin so? -/
def begins (t : List UInt8) (p : ByteArray) : Bool := p.data.toList.isPrefixOf t
/-- Does a leaf match a text? -/
def leafT (k : Int) (ws : List ByteArray) (T : List (List UInt8)) : Bool :=
  if k = 3 then (match ws with | [p] => T.any (begins · p) | _ => false)
  else if k = 2 then decide (ws.length = 1) && decide (0 < (phr T ws).length)
  else decide (0 < (phr T ws).length)
def leafB (k : Int) (nm : ByteArray) (ws : List ByteArray) (fs : List (ByteArray × ByteArray)) : Bool := fs.any fun f => f.1.data.toList == nm.data.toList && leafT k ws (Tk.words f.2.data.toList)
mutual
/-- Does a query match fields? -/
def matchB (fs : List (ByteArray × ByteArray)) : Q → Bool
  | .mk k nm ws l => if k = 1 then true else if k = 2 ∨ k = 3 ∨ k = 4 then leafB k nm ws fs else if k = 5 then matchAll fs l else if k = 6 then matchSome fs l else if k = 7 then matchNone fs l else false
def matchAll (fs : List (ByteArray × ByteArray)) : List Q → Bool
  | [] => true
  | q :: l => matchB fs q && matchAll fs l
def matchSome (fs : List (ByteArray × ByteArray)) : List Q → Bool
  | [] => false
  | q :: l => matchB fs q || matchSome fs l
def matchNone (fs : List (ByteArray × ByteArray)) : List Q → Bool
  | [q] => !matchB fs q
  | _ => false
end
theorem matchAll_eq (fs : List (ByteArray × ByteArray)) : ∀ l, matchAll fs l = l.all (matchB fs)
  | [] => by simp [matchAll]
  | q :: l => by simp [matchAll, matchAll_eq fs l]
theorem matchSome_eq (fs : List (ByteArray × ByteArray)) : ∀ l, matchSome fs l = l.any (matchB fs)
  | [] => by simp [matchSome]
  | q :: l => by simp [matchSome, matchSome_eq fs l]
theorem matchB_eq (fs : List (ByteArray × ByteArray)) (k : Int) (nm : ByteArray) (ws : List ByteArray) (l : List Q) :
    matchB fs (.mk k nm ws l) = if k = 1 then true else if k = 2 ∨ k = 3 ∨ k = 4 then leafB k nm ws fs else if k = 5 then l.all (matchB fs) else if k = 6 then l.any (matchB fs) else if k = 7 then matchNone fs l else false := by
  rw [matchB, matchAll_eq, matchSome_eq]
end Go.Proofs.Ytjfconddkfihcaa.Qy
end
