/- Pieces of texts, and what is read of them: plain. No program. -/
import Derived.BigQuiet
import Derived.Maps.AppendAt
import Derived.Laws.AppendOwn
import Derived.Below
import Derived.Lib.Hide
import Derived.Test.YtlfpfkallgkjdaaGreatPkAlertManyRow1
import Derived.Test.YtlfpfkallgkjdaaGreatPkAlertManyRow2
import Derived.Test.YtlfpfkallgkjdaaGreatPkAlertManyRow4
import Derived.Test.YtlfpfkallgkjdaaGreatPkAlertManyRow8
section
namespace Go.Proofs.YtlfpfkallgkjdaaGreat.Qp
open Go.RowKit Go.Proofs.YtlfpfkallgkjdaaGreat Go.Proofs.YtlfpfkallgkjdaaGreat.Ut Go.Proofs.YtlfpfkallgkjdaaGreat.Tk Go.Proofs.YtlfpfkallgkjdaaGreat.Qy

abbrev P := List UInt8
/-- A blank; a byte that ends a piece that is not quoted. -/
def blank (c : UInt8) : Bool := c == 32 || c == 9
def ends (c : UInt8) : Bool := c == 32 || c == 9 || c == 40 || c == 41 || c == 34
/-- How many bytes a quoted piece has that stands first; 0: it has no end. -/
def quoteAt (s : P) : Nat := s.findIdx (· == 34)
def quotedN (s : P) : Nat := if quoteAt s.tail < s.tail.length then quoteAt s.tail + 2 else 0
def endAt (s : P) : Nat := s.findIdx ends
/-- How many bytes the piece has that stands first; 0: it is none. -/
def pieceN (s : P) : Nat :=
  if s.head? = some 40 ∨ s.head? = some 41 then 1
  else if s.head? = some 34 then quotedN s
  else if s[endAt s]? = some 34 ∧ s[endAt s - 1]? = some 58 then (if quotedN (s.drop (endAt s)) = 0 then 0 else endAt s + quotedN (s.drop (endAt s)))
  else endAt s
def piecesF : Nat → P → Option (List P)
  | 0, _ => some []
  | _ + 1, [] => some []
  | n + 1, c :: t => if blank c then piecesF n t else if pieceN (c :: t) = 0 then none else (piecesF n ((c :: t).drop (pieceN (c :: t)))).map (fun l => (c :: t).take (pieceN (c :: t)) :: l)
/-- A text's pieces. -/
def pieces (s : P) : Option (List P) := piecesF s.length s
theorem piecesF_more : ∀ (n : Nat) (s : P), s.length ≤ n → piecesF n s = piecesF s.length s := by
  intro n
  induction n using Nat.strongRecOn with
  | ind n ih =>
    intro s h
    match n, s, ih, h with
    | 0, [], _, _ => rfl
    | n + 1, [], _, _ => rfl
    | n + 1, c :: t, ih, h =>
      rw [List.length_cons] at h ⊢
      by_cases hn : n = t.length
      · rw [hn]
      have hd : ((c :: t).drop (pieceN (c :: t))).length ≤ t.length + 1 - pieceN (c :: t) := by simp
      have e1 := ih n (by omega) t (by omega)
      show (if blank c then piecesF n t else _) = (if blank c then piecesF t.length t else _)
      rw [e1]
      split
      · rfl
      · by_cases h0 : pieceN (c :: t) = 0
        · rw [if_pos h0, if_pos h0]
        · rw [if_neg h0, if_neg h0, ih n (by omega) _ (by omega), ih t.length (by omega) ((c :: t).drop (pieceN (c :: t))) (by omega)]
theorem pieces_nil : pieces [] = some [] := rfl
theorem pieces_blank (c : UInt8) (t : P) (h : blank c = true) : pieces (c :: t) = pieces t := by
  show (if blank c then piecesF t.length t else _) = _
  rw [if_pos h]; rfl
theorem pieces_cons (c : UInt8) (t : P) (h : blank c = false) : pieces (c :: t) = if pieceN (c :: t) = 0 then none else (pieces ((c :: t).drop (pieceN (c :: t)))).map (fun l => (c :: t).take (pieceN (c :: t)) :: l) := by
  show (if blank c then piecesF t.length t else if pieceN (c :: t) = 0 then none else (piecesF t.length ((c :: t).drop (pieceN (c :: t)))).map (fun l => (c :: t).take (pieceN (c :: t)) :: l)) = _
  rw [h, if_neg (by decide)]
  by_cases h0 : pieceN (c :: t) = 0
  · rw [if_pos h0, if_pos h0]
  · rw [if_neg h0, if_neg h0, piecesF_more t.length _ (by simp; omega)]; rfl

theorem findIdx_is (p : UInt8 → Bool) (s : P) : (∀ x ∈ s.take (s.findIdx p), p x = false) ∧ (∀ h : s.findIdx p < s.length, p s[s.findIdx p] = true) ∧ s.findIdx p ≤ s.length := by
  refine ⟨fun x hx => ?_, fun h => List.findIdx_getElem (w := h), List.findIdx_le_length⟩
  obtain ⟨i, hi, rfl⟩ := List.getElem_of_mem hx
  rw [List.length_take] at hi
  rw [List.getElem_take]
  exact List.not_of_lt_findIdx (p := p) (xs := s) (i := i) (by omega)
theorem findIdx_of (p : UInt8 → Bool) (s : P) (k : Nat) (h1 : ∀ x ∈ s.take k, p x = false) (hk : k ≤ s.length) (h2 : ∀ h : k < s.length, p s[k] = true) : s.findIdx p = k := by
  rcases Nat.lt_or_ge k s.length with h | h
  · refine (List.findIdx_eq h).2 ⟨h2 h, fun j hj => ?_⟩
    exact h1 _ (List.mem_iff_getElem.2 ⟨j, by rw [List.length_take]; omega, by rw [List.getElem_take]⟩)
  · have e : k = s.length := by omega
    subst e
    rw [List.take_length] at h1
    exact List.findIdx_eq_length.2 h1
theorem quotedN_le (s : P) : quotedN s ≤ s.length := by
  unfold quotedN
  split
  · rename_i h
    rw [List.length_tail] at h
    omega
  · omega
theorem pieceN_le (s : P) : pieceN s ≤ s.length := by
  unfold pieceN
  split
  · rename_i h
    cases s with
    | nil => simp at h
    | cons c t => simp
  · split
    · exact quotedN_le s
    · have h1 := (findIdx_is ends s).2.2
      have h2 := quotedN_le (s.drop (endAt s))
      rw [List.length_drop] at h2
      unfold endAt at *
      split
      · split
        · omega
        · omega
      · exact h1
/-- A piece: something; a quote that stands in it is not its end. -/
structure Pc (s : P) : Prop where
  ne : s ≠ []
  qt : quoteAt s < s.length → quoteAt s + 2 ≤ s.length
theorem quoteAt_end (s : P) : quoteAt (s.take (endAt s)) = (s.take (endAt s)).length := by
  unfold quoteAt
  refine List.findIdx_eq_length.2 fun x hx => ?_
  have := (findIdx_is ends s).1 x hx
  unfold ends at this
  simp only [Bool.or_eq_false_iff] at this
  exact this.2
theorem pieceN_pc (c : UInt8) (t : P) (hb : blank c = false) (h : pieceN (c :: t) ≠ 0) : Pc ((c :: t).take (pieceN (c :: t))) := by
  have hle := pieceN_le (c :: t)
  have hlen : ((c :: t).take (pieceN (c :: t))).length = pieceN (c :: t) := by rw [List.length_take]; omega
  refine ⟨fun e => by rw [e] at hlen; simp at hlen; omega, fun hq => ?_⟩
  have hno : ∀ (l : P), (∀ x ∈ l, ends x = false) → quoteAt l = l.length := fun l hl => by
    unfold quoteAt
    refine List.findIdx_eq_length.2 fun x hx => ?_
    have := hl x hx
    unfold ends at this
    simp only [Bool.or_eq_false_iff] at this
    exact this.2
  rw [hlen]
  unfold pieceN at hq h hlen ⊢
  by_cases h1 : (c :: t).head? = some 40 ∨ (c :: t).head? = some 41
  · rw [if_pos h1] at hq hlen ⊢
    exfalso
    simp only [List.take_succ_cons, List.take_zero] at hq
    simp only [List.head?_cons, Option.some.injEq] at h1
    rcases h1 with rfl | rfl <;> simp [quoteAt, List.findIdx_cons] at hq
  · rw [if_neg h1] at hq h hlen ⊢
    by_cases h2 : (c :: t).head? = some 34
    · rw [if_pos h2] at hq h hlen ⊢
      simp only [List.head?_cons, Option.some.injEq] at h2
      subst h2
      unfold quotedN at h ⊢
      by_cases h3 : quoteAt ((34 : UInt8) :: t).tail < ((34 : UInt8) :: t).tail.length
      · rw [if_pos h3]
        have : quoteAt ((34 : UInt8) :: t).tail + 2 = (quoteAt t + 1) + 1 := rfl
        rw [this, List.take_succ_cons]
        simp [quoteAt, List.findIdx_cons]
      · rw [if_neg h3] at h
        exact absurd rfl h
    · rw [if_neg h2] at hq h hlen ⊢
      have hen := findIdx_is ends (c :: t)
      by_cases h3 : (c :: t)[endAt (c :: t)]? = some 34 ∧ (c :: t)[endAt (c :: t) - 1]? = some 58
      · rw [if_pos h3] at hq h hlen ⊢
        by_cases h4 : quotedN ((c :: t).drop (endAt (c :: t))) = 0
        · rw [if_pos h4] at h
          exact absurd rfl h
        · rw [if_neg h4] at hq h hlen ⊢
          -- the first quote stands at endAt; the quoted part has two bytes at least
          have hlt : endAt (c :: t) < (c :: t).length := by
            rcases Nat.lt_or_ge (endAt (c :: t)) (c :: t).length with hh | hh
            · exact hh
            · rw [List.getElem?_eq_none hh] at h3; simp at h3
          have hq2 : 2 ≤ quotedN ((c :: t).drop (endAt (c :: t))) := by
            unfold quotedN at h4 ⊢
            split
            · omega
            · rename_i hh; rw [if_neg hh] at h4; exact absurd rfl h4
          have hqa : quoteAt ((c :: t).take (endAt (c :: t) + quotedN ((c :: t).drop (endAt (c :: t))))) ≤ endAt (c :: t) := by
            rcases Nat.lt_or_ge (endAt (c :: t)) (quoteAt ((c :: t).take (endAt (c :: t) + quotedN ((c :: t).drop (endAt (c :: t)))))) with hh | hh
            · exfalso
              have := List.not_of_lt_findIdx (p := (· == (34 : UInt8))) hh
              rw [List.getElem_take] at this
              have h3' := h3.1
              rw [List.getElem?_eq_getElem hlt, Option.some.injEq] at h3'
              rw [h3'] at this
              simp at this
            · exact hh
          omega
      · rw [if_neg h3] at hq h hlen ⊢
        exfalso
        have := hno _ hen.1
        unfold endAt at hq
        omega
theorem pieces_pc : ∀ (n : Nat) (s : P) (l : List P), s.length ≤ n → pieces s = some l → ∀ x ∈ l, Pc x ∧ x.length ≤ s.length := by
  intro n
  induction n with
  | zero =>
    intro s l h e x hx
    have : s = [] := List.length_eq_zero_iff.1 (by omega)
    subst this
    rw [pieces_nil] at e
    injection e with e
    subst e
    cases hx
  | succ n ih =>
    intro s l h e x hx
    cases s with
    | nil =>
      rw [pieces_nil] at e
      injection e with e
      subst e
      cases hx
    | cons c t =>
      rw [List.length_cons] at h ⊢
      by_cases hb : blank c = true
      · rw [pieces_blank c t hb] at e
        have := ih t l (by omega) e x hx
        exact ⟨this.1, by omega⟩
      · have hb' : blank c = false := by simpa using hb
        rw [pieces_cons c t hb'] at e
        by_cases h0 : pieceN (c :: t) = 0
        · rw [if_pos h0] at e; cases e
        · rw [if_neg h0] at e
          obtain ⟨l', h1, h2⟩ := Option.map_eq_some_iff.1 e
          subst h2
          rcases List.mem_cons.1 hx with rfl | hx
          · exact ⟨pieceN_pc c t hb' h0, by rw [List.length_take, List.length_cons]; omega⟩
          · have := ih _ l' (by simp; omega) h1 x hx
            refine ⟨this.1, ?_⟩
            have h3 := this.2
            rw [List.length_drop, List.length_cons] at h3
            omega
theorem pieces_many : ∀ (n : Nat) (s : P) (l : List P), s.length ≤ n → pieces s = some l → l.length ≤ s.length := by
  intro n
  induction n with
  | zero =>
    intro s l h e
    have : s = [] := List.length_eq_zero_iff.1 (by omega)
    subst this
    rw [pieces_nil] at e
    injection e with e
    subst e
    simp
  | succ n ih =>
    intro s l h e
    cases s with
    | nil =>
      rw [pieces_nil] at e
      injection e with e
      subst e
      simp
    | cons c t =>
      rw [List.length_cons] at h ⊢
      by_cases hb : blank c = true
      · rw [pieces_blank c t hb] at e
        have := ih t l (by omega) e
        omega
      · have hb' : blank c = false := by simpa using hb
        rw [pieces_cons c t hb'] at e
        by_cases h0 : pieceN (c :: t) = 0
        · rw [if_pos h0] at e; cases e
        · rw [if_neg h0] at e
          obtain ⟨l', h1, h2⟩ := Option.map_eq_some_iff.1 e
          subst h2
          have := ih _ l' (by simp; omega) h1
          simp at this ⊢
          omega

/-- The words that are no leaf. -/
def NOT : P := [78, 79, 84]
def AND : P := [65, 78, 68]
def OR : P := [79, 82]
def LP : P := [40]
def RP : P := [41]
def msg : P := [109, 115, 103]
/-- Queries: of words, of a piece. -/
def wordsQ (nm : P) (l : List P) : Option Q := if l = [] then none else if l.length = 1 then some (.mk 2 (str nm) (l.map str) []) else some (.mk 4 (str nm) (l.map str) [])
def sepAt (s : P) : Nat := s.findIdx (fun c => c == 58 || c == 34)
/-- Has a piece a name? The name, what stands behind it. -/
def named (s : P) : Bool := s[sepAt s]? == some 58
def nameOf (s : P) : P := if named s then s.take (sepAt s) else msg
def restOf (s : P) : P := if named s then s.drop (sepAt s + 1) else s
def leafQ (s : P) : Option Q :=
  if s = [42] then some (.mk 1 ByteArray.empty [] [])
  else if isN (nameOf s) = false ∨ restOf s = [] then none
  else if (restOf s).head? = some 34 then wordsQ (nameOf s) (words (((restOf s).take ((restOf s).length - 1)).drop 1))
  else if (restOf s).getLast? = some 42 then
    (if (restOf s).length = 1 then some (.mk 3 (str (nameOf s)) [ByteArray.empty] []) else if (words (restOf s).dropLast).length = 1 then some (.mk 3 (str (nameOf s)) ((words (restOf s).dropLast).map str) []) else none)
  else wordsQ (nameOf s) (words (restOf s))
def notQ (q : Q) : Q := .mk 7 ByteArray.empty [] [q]
def oneQ (k : Int) (l : List Q) : Q := match l with | [q] => q | l => .mk k ByteArray.empty [] l
/-- What is being read. -/
inductive Md where
  | part | and (a : List Q) | or (a : List Q) | andT (a : List Q) | orT (a : List Q)
def word1 (s : P) : Bool := s != NOT && s != LP && s != RP && s != AND && s != OR
def closed : Option (Q × List P) → Option (Q × List P)
  | some (q, s :: r) => if s = RP then some (q, r) else none
  | _ => none
def stops (l : List P) : Bool := match l with | [] => true | s :: _ => s == RP || s == OR
/-- What is read of pieces, and what is left of them. -/
inductive R : Md → List P → Option (Q × List P) → Prop
  | pnil : R .part [] none
  | pnot {s t o} (hs : s = NOT) (h : R .part t o) : R .part (s :: t) (o.map fun x => (notQ x.1, x.2))
  | plp {s t o} (hs : s = LP) (h : R (.or []) t o) : R .part (s :: t) (closed o)
  | pbad {s t} (hs : s = RP ∨ s = AND ∨ s = OR) : R .part (s :: t) none
  | pleaf {s t} (hs : word1 s = true) : R .part (s :: t) ((leafQ s).map fun q => (q, t))
  | and0 {a l} (h : R .part l none) : R (.and a) l none
  | and1 {a l q r o} (h : R .part l (some (q, r))) (h2 : R (.andT (a ++ [q])) r o) : R (.and a) l o
  | andE {a l} (h : stops l = true) : R (.andT a) l (some (oneQ 5 a, l))
  | andA {a s t o} (hs : s = AND) (h : R (.and a) t o) : R (.andT a) (s :: t) o
  | andN {a s t o} (hs : stops (s :: t) = false) (hn : s ≠ AND) (h : R (.and a) (s :: t) o) : R (.andT a) (s :: t) o
  | or0 {a l} (h : R (.and []) l none) : R (.or a) l none
  | or1 {a l q r o} (h : R (.and []) l (some (q, r))) (h2 : R (.orT (a ++ [q])) r o) : R (.or a) l o
  | orE {a l} (h : l.head? ≠ some OR) : R (.orT a) l (some (oneQ 6 a, l))
  | orO {a s t o} (hs : s = OR) (h : R (.or a) t o) : R (.orT a) (s :: t) o
theorem NOT_w : word1 NOT = false := by decide
theorem LP_w : word1 LP = false := by decide
theorem RP_w : word1 RP = false := by decide
theorem AND_w : word1 AND = false := by decide
theorem OR_w : word1 OR = false := by decide
theorem R.det {m : Md} {l : List P} {o : Option (Q × List P)} (h : R m l o) : ∀ o', R m l o' → o = o' := by
  have nw : ∀ s, word1 s = true → s ≠ NOT ∧ s ≠ LP ∧ s ≠ RP ∧ s ≠ AND ∧ s ≠ OR := fun s hs => by
    refine ⟨?_, ?_, ?_, ?_, ?_⟩ <;> (rintro rfl; revert hs; decide)
  induction h with
  | pnil => intro o' h'; cases h'; rfl
  | pnot hs h ih =>
    intro o' h'
    cases h' with
    | pnot _ h => rw [ih _ h]
    | plp hs' _ => rw [hs] at hs'; exact absurd hs' (by decide)
    | pbad hs' => rw [hs] at hs'; exact absurd hs' (by decide)
    | pleaf hs' => exact absurd hs (nw _ hs').1
  | plp hs h ih =>
    intro o' h'
    cases h' with
    | plp _ h => rw [ih _ h]
    | pnot hs' _ => rw [hs] at hs'; exact absurd hs' (by decide)
    | pbad hs' => rw [hs] at hs'; exact absurd hs' (by decide)
    | pleaf hs' => exact absurd hs (nw _ hs').2.1
  | pbad hs =>
    intro o' h'
    cases h' with
    | pbad _ => rfl
    | pnot hs' _ => rw [hs'] at hs; exact absurd hs (by decide)
    | plp hs' _ => rw [hs'] at hs; exact absurd hs (by decide)
    | pleaf hs' =>
      have := nw _ hs'
      rcases hs with e | e | e
      · exact absurd e this.2.2.1
      · exact absurd e this.2.2.2.1
      · exact absurd e this.2.2.2.2
  | pleaf hs =>
    intro o' h'
    have := nw _ hs
    cases h' with
    | pleaf _ => rfl
    | pnot hs' _ => exact absurd hs' this.1
    | plp hs' _ => exact absurd hs' this.2.1
    | pbad hs' =>
      rcases hs' with e | e | e
      · exact absurd e this.2.2.1
      · exact absurd e this.2.2.2.1
      · exact absurd e this.2.2.2.2
  | and0 h ih =>
    intro o' h'
    cases h' with
    | and0 _ => rfl
    | and1 h _ => exact absurd (ih _ h) (by simp)
  | and1 h h2 ih ih2 =>
    intro o' h'
    cases h' with
    | and0 h => exact absurd (ih _ h) (by simp)
    | and1 h h2 =>
      have := ih _ h
      simp only [Option.some.injEq, Prod.mk.injEq] at this
      obtain ⟨rfl, rfl⟩ := this
      exact ih2 _ h2
  | andE h =>
    intro o' h'
    cases h' with
    | andE _ => rfl
    | andA hs _ => rw [hs] at h; exact absurd h (by simp [stops]; decide)
    | andN hs _ _ => rw [h] at hs; cases hs
  | andA hs h ih =>
    intro o' h'
    cases h' with
    | andE h => rw [hs] at h; exact absurd h (by simp [stops]; decide)
    | andA _ h => exact ih _ h
    | andN _ hn _ => exact absurd hs hn
  | andN hs hn h ih =>
    intro o' h'
    cases h' with
    | andE h => rw [h] at hs; cases hs
    | andA hs _ => exact absurd hs hn
    | andN _ _ h => exact ih _ h
  | or0 h ih =>
    intro o' h'
    cases h' with
    | or0 _ => rfl
    | or1 h _ => exact absurd (ih _ h) (by simp)
  | or1 h h2 ih ih2 =>
    intro o' h'
    cases h' with
    | or0 h => exact absurd (ih _ h) (by simp)
    | or1 h h2 =>
      have := ih _ h
      simp only [Option.some.injEq, Prod.mk.injEq] at this
      obtain ⟨rfl, rfl⟩ := this
      exact ih2 _ h2
  | orE h =>
    intro o' h'
    cases h' with
    | orE _ => rfl
    | orO hs _ => rw [hs] at h; exact absurd rfl h
  | orO hs h ih =>
    intro o' h'
    cases h' with
    | orE h => rw [hs] at h; exact absurd rfl h
    | orO _ h => exact ih _ h
/-- What is left is no more than there was. -/
theorem R.less {m : Md} {l : List P} {o : Option (Q × List P)} (h : R m l o) : ∀ q r, o = some (q, r) → (∃ k, r = l.drop k ∧ k ≤ l.length ∧ ((m = .part ∨ (∃ a, m = .and a) ∨ ∃ a, m = .or a) → 1 ≤ k)) := by
  induction h with
  | pnil => intro q r e; cases e
  | pnot hs h ih =>
    intro q r e
    obtain ⟨⟨q', r'⟩, h1, h2⟩ := Option.map_eq_some_iff.1 e
    simp only [Prod.mk.injEq] at h2
    obtain ⟨_, rfl⟩ := h2
    obtain ⟨k, rfl, hk, _⟩ := ih q' _ h1
    exact ⟨k + 1, rfl, by simp; omega, fun _ => by omega⟩
  | @plp s t o hs h ih =>
    intro q r e
    match o, e, ih with
    | some (q', s' :: r'), e, ih =>
      by_cases hp : s' = RP
      · have e2 : closed (some (q', s' :: r')) = some (q', r') := if_pos hp
        rw [e2] at e
        simp only [Option.some.injEq, Prod.mk.injEq] at e
        obtain ⟨rfl, rfl⟩ := e
        obtain ⟨k, h1, hk, _⟩ := ih q' _ rfl
        refine ⟨k + 2, ?_, ?_, fun _ => by omega⟩
        · show _ = t.drop (k + 1)
          rw [← List.drop_drop, ← h1]; rfl
        · have := congrArg List.length h1
          simp at this ⊢
          omega
      · have e2 : closed (some (q', s' :: r')) = none := if_neg hp
        rw [e2] at e
        cases e
    | some (q', []), e, _ => cases e
    | none, e, _ => cases e
  | pbad hs => intro q r e; cases e
  | pleaf hs =>
    intro q r e
    obtain ⟨q', h1, h2⟩ := Option.map_eq_some_iff.1 e
    simp only [Prod.mk.injEq] at h2
    obtain ⟨_, rfl⟩ := h2
    exact ⟨1, rfl, by simp, fun _ => by omega⟩
  | and0 h ih => intro q r e; cases e
  | and1 h h2 ih ih2 =>
    intro q r e
    obtain ⟨k, rfl, hk, h1⟩ := ih _ _ rfl
    obtain ⟨k2, rfl, hk2, _⟩ := ih2 q r e
    rw [List.length_drop] at hk2
    have := h1 (.inl rfl)
    exact ⟨k + k2, by rw [List.drop_drop], by omega, fun _ => by omega⟩
  | andE h => intro q r e; simp only [Option.some.injEq, Prod.mk.injEq] at e; obtain ⟨_, rfl⟩ := e; exact ⟨0, rfl, by omega, fun h => by simp at h⟩
  | andA hs h ih => intro q r e; obtain ⟨k, rfl, hk, _⟩ := ih q r e; exact ⟨k + 1, rfl, by simp; omega, fun _ => by omega⟩
  | andN hs hn h ih => intro q r e; obtain ⟨k, rfl, hk, _⟩ := ih q r e; exact ⟨k, rfl, hk, fun h => by simp at h⟩
  | or0 h ih => intro q r e; cases e
  | or1 h h2 ih ih2 =>
    intro q r e
    obtain ⟨k, rfl, hk, h1⟩ := ih _ _ rfl
    obtain ⟨k2, rfl, hk2, _⟩ := ih2 q r e
    rw [List.length_drop] at hk2
    have := h1 (.inr (.inl ⟨_, rfl⟩))
    exact ⟨k + k2, by rw [List.drop_drop], by omega, fun _ => by omega⟩
  | orE h => intro q r e; simp only [Option.some.injEq, Prod.mk.injEq] at e; obtain ⟨_, rfl⟩ := e; exact ⟨0, rfl, by omega, fun h => by simp at h⟩
  | orO hs h ih => intro q r e; obtain ⟨k, rfl, hk, _⟩ := ih q r e; exact ⟨k + 1, rfl, by simp; omega, fun _ => by omega⟩
end Go.Proofs.YtlfpfkallgkjdaaGreat.Qp
end

section
/- qparse: ends, quoted, piece: the walks. -/
namespace Go.Proofs.YtlfpfkallgkjdaaGreat.Qp
open Go.RowKit Go.Proofs.YtlfpfkallgkjdaaGreat Go.Proofs.YtlfpfkallgkjdaaGreat.Ut Go.Proofs.YtlfpfkallgkjdaaGreat.Tk Go.Proofs.YtlfpfkallgkjdaaGreat.Qy
set_option maxRecDepth 20000
set_option linter.unusedSimpArgs false

theorem indexB (l : List UInt8) (c : UInt8) : (0 ≤ Lib.indexByte l c) ↔ c ∈ l := by
  rw [index_c]
  unfold atC
  by_cases h : c ∈ l
  · have : l.findIdx (· == c) < l.length := List.findIdx_lt_length.2 ⟨c, h, by simp⟩
    rw [if_pos this]
    simp [h]
  · have : ¬ l.findIdx (· == c) < l.length := fun e => by
      obtain ⟨x, hx, he⟩ := List.findIdx_lt_length.1 e
      rw [beq_iff_eq.1 he] at hx
      exact h hx
    rw [if_neg this]
    simp [h]
theorem ret_int {k : IntKind} {a b : Int} (h : b = a) : Ending.returned (.int k a) = .returned (.int k b) := by rw [h]
def endsS : ByteArray := ⟨#[32, 9, 40, 41, 34]⟩
theorem ends_ix (c : UInt8) : decide (0 ≤ Lib.indexByte endsS.data.toList c) = ends c := by
  rw [Bool.eq_iff_iff, decide_eq_true_iff, indexB]
  unfold ends endsS
  simp [or_assoc]
theorem ends_any (c : UInt8) (w : World) : Calls Tryz.prog 141 #[.int .u8 (c.toNat : Int)] w fun e w' => e = .returned (.bool (ends c)) ∧ w = w' := by
  have c0 := (Tryz.strings_IndexByte endsS (c.toNat : Int) w)
  have e0 : (c.toNat : Int).toNat.toUInt8 = c := by simp
  rw [e0] at c0
  have hx := ends_ix c
  generalize Lib.indexByte endsS.data.toList c = r at *
  rw [← hx]
  clear hx e0
  go_enter Tryz.func141, Tryz.ntmps141
  go_wp2_with (go_at_call 171; refine c0.mono ?_; rintro e w' ⟨rfl, rfl⟩)
  go_ret
  exact ⟨rfl, rfl⟩

/-- The text behind its first byte. -/
def tailS (s : ByteArray) : ByteArray := s.extract 1 s.size
theorem tailS_data (s : ByteArray) : (tailS s).data.toList = s.data.toList.tail := by
  unfold tailS; rw [Lib.extract_data, List.take_of_length_le (by rw [List.length_drop, bsize]; omega), List.drop_one]
set_option maxHeartbeats 400000 in
theorem quoted_any (s : ByteArray) (w : World) (h1 : 1 ≤ s.size) (hs : s.size ≤ 1048576) : Calls Tryz.prog 140 #[.string s] w fun e w' => e = .returned (.int .i64 (quotedN s.data.toList : Nat)) ∧ w = w' := by
  have c0 := (Tryz.strings_IndexByte (tailS s) 34 w)
  have e0 : (34 : Int).toNat.toUInt8 = 34 := by decide
  rw [e0, tailS_data, index_c] at c0
  have F1 : Hid (tailS s = s.extract 1 s.size) := rfl
  have hq : Hid (quotedN s.data.toList = if atC 34 s.data.toList.tail < s.data.toList.tail.length then atC 34 s.data.toList.tail + 2 else 0) := rfl
  have hl : s.data.toList.tail.length ≤ 1048576 := by rw [List.length_tail, bsize]; omega
  generalize atC 34 s.data.toList.tail = k at *
  generalize s.data.toList.tail.length = n at *
  by_cases hk : k < n
  · rw [if_pos hk] at c0
    have F2 : Hid (quotedN s.data.toList = k + 2) := Lib.hid (by rw [hq.out, if_pos hk])
    rw [F2.out]
    have hk2 : (k : Int) ≤ 1048576 := by omega
    clear hq hk
    go_enter Tryz.func140, Tryz.ntmps140
    go_wp2_with (go_at_call 171; (try rw [← F1.out]); refine c0.mono ?_; rintro e w' ⟨rfl, rfl⟩)
    go_ret
    exact ⟨by go_num, rfl⟩
  · rw [if_neg hk] at c0
    have F2 : Hid (quotedN s.data.toList = 0) := Lib.hid (by rw [hq.out, if_neg hk])
    rw [F2.out]
    clear hq hk
    go_enter Tryz.func140, Tryz.ntmps140
    go_wp2_with (go_at_call 171; (try rw [← F1.out]); refine c0.mono ?_; rintro e w' ⟨rfl, rfl⟩)
    go_ret
    exact ⟨rfl, rfl⟩

/-- The text behind its first n bytes; its first n bytes. -/
def dropS (n : Nat) (s : ByteArray) : ByteArray := s.extract n s.size
theorem dropS_data (n : Nat) (s : ByteArray) : (dropS n s).data.toList = s.data.toList.drop n := by
  unfold dropS; rw [Lib.extract_data, List.take_of_length_le (by rw [List.length_drop, bsize]; omega)]
theorem dropS_size (n : Nat) (s : ByteArray) : (dropS n s).size = s.size - n := by unfold dropS; rw [ByteArray.size_extract]; omega
theorem quoted_drop (s : ByteArray) (k : Nat) (w : World) (h1 : k < s.size) (hs : s.size ≤ 1048576) : Calls Tryz.prog 140 #[.string (s.extract k s.size)] w fun e w' => e = .returned (.int .i64 (quotedN (s.data.toList.drop k) : Nat)) ∧ w = w' := by
  have := quoted_any (dropS k s) w (by rw [dropS_size]; omega) (by rw [dropS_size]; omega)
  rw [dropS_data] at this
  exact this
theorem get_of (s : ByteArray) (k : Nat) (h : k < s.size) : s.data.toList[k]? = some s[k] := by
  rw [List.getElem?_eq_getElem (by rw [bsize]; exact h)]; rfl
theorem u8_eq (c d : UInt8) : ((c.toNat : Int) == (d.toNat : Int)) = (c == d) := by
  rw [Bool.eq_iff_iff, beq_iff_eq, beq_iff_eq]
  constructor
  · intro h
    exact UInt8.toNat_inj.1 (by omega)
  · rintro rfl; rfl
set_option maxHeartbeats 1600000 in
theorem piece_any (s : ByteArray) (w : World) (h1 : 0 < s.size) (hs : s.size ≤ 1048576) : Calls Tryz.prog 98 #[.string s] w fun e w' => e = .returned (.int .i64 (pieceN s.data.toList : Nat)) ∧ w = w' := by
  have hh : s.data.toList.head? = some s[0] := by rw [← get_of s 0 h1]; cases s.data.toList <;> rfl
  have u0 := u8_eq s[0] 40
  have u1 := u8_eq s[0] 41
  have u2 := u8_eq s[0] 34
  simp only [show (UInt8.toNat 40 : Int) = 40 from rfl, show (UInt8.toNat 41 : Int) = 41 from rfl, show (UInt8.toNat 34 : Int) = 34 from rfl] at u0 u1 u2
  by_cases e0 : s[0] = 40
  · have e1 : pieceN s.data.toList = 1 := by unfold pieceN; rw [hh, if_pos (.inl (by rw [e0]))]
    have t0 : ((s[0].toNat : Int) == 40) = true := by rw [u0]; exact beq_iff_eq.2 e0
    rw [e1]
    clear e1 hh u0 u1 u2 e0
    go_enter Tryz.func98, Tryz.ntmps98
    go_wp2
    go_ret
    exact ⟨rfl, rfl⟩
  have t0 : ((s[0].toNat : Int) == 40) = false := by rw [u0]; exact beq_eq_false_iff_ne.2 e0
  by_cases e1 : s[0] = 41
  · have e2 : pieceN s.data.toList = 1 := by unfold pieceN; rw [hh, if_pos (.inr (by rw [e1]))]
    have t1 : ((s[0].toNat : Int) == 41) = true := by rw [u1]; exact beq_iff_eq.2 e1
    rw [e2]
    clear e2 hh u0 u1 u2 e0 e1
    go_enter Tryz.func98, Tryz.ntmps98
    go_wp2
    go_ret
    exact ⟨rfl, rfl⟩
  have t1 : ((s[0].toNat : Int) == 41) = false := by rw [u1]; exact beq_eq_false_iff_ne.2 e1
  have hno : ¬ (s.data.toList.head? = some 40 ∨ s.data.toList.head? = some 41) := by rw [hh]; simp [e0, e1]
  by_cases e2 : s[0] = 34
  · have e3 : pieceN s.data.toList = quotedN s.data.toList := by unfold pieceN; rw [if_neg hno, hh, e2, if_pos rfl]
    have t2 : ((s[0].toNat : Int) == 34) = true := by rw [u2]; exact beq_iff_eq.2 e2
    have c0 := quoted_any s w (by omega) hs
    rw [e3]
    clear e3 hno hh u0 u1 u2 e0 e1 e2
    generalize quotedN s.data.toList = r at *
    go_enter Tryz.func98, Tryz.ntmps98
    go_wp2_with (go_at_call 140; refine c0.mono ?_; rintro e w' ⟨rfl, rfl⟩)
    go_ret
    exact ⟨rfl, rfl⟩
  have t2 : ((s[0].toNat : Int) == 34) = false := by rw [u2]; exact beq_eq_false_iff_ne.2 e2
  have e3 : pieceN s.data.toList = if s.data.toList[endAt s.data.toList]? = some 34 ∧ s.data.toList[endAt s.data.toList - 1]? = some 58 then (if quotedN (s.data.toList.drop (endAt s.data.toList)) = 0 then 0 else endAt s.data.toList + quotedN (s.data.toList.drop (endAt s.data.toList))) else endAt s.data.toList := by
    unfold pieceN; rw [if_neg hno, hh, if_neg (by simpa using e2)]
  have E3 := Lib.hid e3
  have E2 := Lib.hid e2
  have Hend := Lib.hid (findIdx_of ends s.data.toList)
  clear e3 hno hh u0 u1 u2 e0 e1 e2
  go_enter Tryz.func98, Tryz.ntmps98
  go_wp2_with fail
  go_loopw [3] (fun i wr => ∃ k : Nat, k ≤ s.size ∧ i = .int .i64 k ∧ w = wr ∧ Hid (∀ x ∈ s.data.toList.take k, ends x = false)) (fun i _ => s.size - (intOf i).toNat)
  case atStart => exact ⟨0, Nat.zero_le _, rfl, rfl, Lib.hid (fun x hx => by simp at hx)⟩
  case round =>
    obtain ⟨k, hk, rfl, rfl, hal⟩ := hrel
    -- behind the loop: what stands at k
    have hk0 : (0 : Int) ≤ (k : Int) := by omega
    by_cases hlt : k < s.size
    · have hts := take_snoc s k hlt
      by_cases he : ends s[k] = true
      · have Hk : Hid (endAt s.data.toList = k) := Lib.hid (Hend.out k hal.out (by rw [bsize]; omega) (fun _ => he))
        have u3 := u8_eq s[k] 34
        rw [show (UInt8.toNat 34 : Int) = 34 from rfl] at u3
        by_cases q : s[k] = 34
        · have t3 : ((s[k].toNat : Int) == 34) = true := by rw [u3]; exact beq_iff_eq.2 q
          obtain ⟨j, rfl⟩ : ∃ j, k = j + 1 := by
            match k with
            | 0 => exact absurd q E2.out
            | j + 1 => exact ⟨j, rfl⟩
          have hj : j < s.size := by omega
          have u4 := u8_eq s[j] 58
          rw [show (UInt8.toNat 58 : Int) = 58 from rfl] at u4
          have g1 := get_of s (j + 1) hlt
          have g2 := get_of s j hj
          have c2 := quoted_drop s (j + 1) w hlt hs
          have hj0 : (0 : Int) ≤ (j : Int) := by omega
          have e8 : ((j + 1 : Nat) : Int) = (j : Int) + 1 := by omega
          by_cases q2 : s[j] = 58
          · have t4 : ((s[j].toNat : Int) == 58) = true := by rw [u4]; exact beq_iff_eq.2 q2
            have E4 : Hid (pieceN s.data.toList = if quotedN (s.data.toList.drop (j + 1)) = 0 then 0 else j + 1 + quotedN (s.data.toList.drop (j + 1))) := Lib.hid (by
              rw [E3.out, Hk.out, Nat.add_sub_cancel, g1, g2, q, q2, if_pos ⟨rfl, rfl⟩])
            have hq := quotedN_le (s.data.toList.drop (j + 1))
            rw [List.length_drop, bsize] at hq
            clear u3 u4 g1 g2 q q2 hts hal Hk E3 Hend
            generalize quotedN (s.data.toList.drop (j + 1)) = r at *
            by_cases hr : r = 0
            · subst hr
              have E5 : Hid (pieceN s.data.toList = 0) := Lib.hid (by rw [E4.out]; rfl)
              clear E4 hq
              go_wp2_with (first | (go_at_call 141; refine (ends_any s[j + 1] _).mono ?_; rintro e w' ⟨rfl, rfl⟩) | (go_at_call 140; refine c2.mono ?_; rintro e w' ⟨rfl, rfl⟩))
              go_ret
              exact ⟨ret_int (by rw [E5.out]; first | rfl | omega), rfl⟩
            · have E5 : Hid (pieceN s.data.toList = j + 1 + r) := Lib.hid (by rw [E4.out, if_neg hr])
              have hr' : ((r : Int) == 0) = false := by rw [beq_eq_false_iff_ne]; omega
              clear E4 hr
              go_wp2_with (first | (go_at_call 141; refine (ends_any s[j + 1] _).mono ?_; rintro e w' ⟨rfl, rfl⟩) | (go_at_call 140; refine c2.mono ?_; rintro e w' ⟨rfl, rfl⟩))
              go_ret
              exact ⟨ret_int (by rw [E5.out]; first | rfl | omega), rfl⟩
          · have t4 : ((s[j].toNat : Int) == 58) = false := by rw [u4]; exact beq_eq_false_iff_ne.2 q2
            have E5 : Hid (pieceN s.data.toList = j + 1) := Lib.hid (by
              rw [E3.out, Hk.out, Nat.add_sub_cancel, g1, g2, if_neg (by simp [q2])])
            clear u3 u4 g1 g2 q q2 hts hal Hk E3 Hend c2
            go_wp2_with (go_at_call 141; refine (ends_any s[j + 1] _).mono ?_; rintro e w' ⟨rfl, rfl⟩)
            go_ret
            exact ⟨ret_int (by rw [E5.out]; omega), rfl⟩
        · have t3 : ((s[k].toNat : Int) == 34) = false := by rw [u3]; exact beq_eq_false_iff_ne.2 q
          have g1 := get_of s k hlt
          have E5 : Hid (pieceN s.data.toList = k) := Lib.hid (by
            rw [E3.out, Hk.out, g1, if_neg (by simp [q])])
          clear u3 g1 q hts hal Hk E3 Hend
          go_wp2_with (go_at_call 141; refine (ends_any s[k] _).mono ?_; rintro e w' ⟨rfl, rfl⟩)
          go_ret
          exact ⟨ret_int (by rw [E5.out]), rfl⟩
      · have he' : ends s[k] = false := by simpa using he
        have Hnx : Hid (∀ x ∈ s.data.toList.take (k + 1), ends x = false) := Lib.hid (fun x hx => by
          rw [hts, List.mem_append] at hx
          rcases hx with hx | hx
          · exact hal.out x hx
          · rw [List.mem_singleton] at hx; rw [hx]; exact he')
        clear hts hal he E3 Hend
        go_wp2_with (go_at_call 141; refine (ends_any s[k] _).mono ?_; rintro e w' ⟨rfl, rfl⟩)
        go_roundw
        case rel => exact ⟨k + 1, by omega, by go_num, by first | rfl | trivial, Hnx⟩
        case measure => simp [intOf]; omega
    · obtain rfl : k = s.size := by omega
      have hn : s.data.toList[s.size]? = none := List.getElem?_eq_none (by rw [bsize]; omega)
      have Hk : Hid (endAt s.data.toList = s.size) := Lib.hid (Hend.out s.size hal.out (by rw [bsize]; omega) (fun h => absurd h (by rw [bsize]; omega)))
      have E5 : Hid (pieceN s.data.toList = s.size) := Lib.hid (by
        rw [E3.out, Hk.out, hn, if_neg (by simp)])
      clear hal hn Hk E3 Hend
      go_wp2
      go_ret
      exact ⟨ret_int (by rw [E5.out]), rfl⟩
end Go.Proofs.YtlfpfkallgkjdaaGreat.Qp
end

section
/- qparse.Pieces: the walk. -/
namespace Go.Proofs.YtlfpfkallgkjdaaGreat.Qp
open Go.RowKit Go.Proofs.YtlfpfkallgkjdaaGreat Go.Proofs.YtlfpfkallgkjdaaGreat.Ut Go.Proofs.YtlfpfkallgkjdaaGreat.Tk Go.Proofs.YtlfpfkallgkjdaaGreat.Qy
set_option maxRecDepth 20000
set_option linter.unusedSimpArgs false

/-- A text's pieces, in a row of the call's own; or none. -/
def PcsPost (w : World) (o : Option (List P)) (e : Ending) (w' : World) : Prop :=
  match o with
  | some l => ∃ v, e = .returned (.tuple #[v, .bool true]) ∧ w'.ownsRow w.heap.size 9 1 v l.length (sv l) ∧ Below w.heap.size w w'
  | none => e = .returned (.tuple #[.slice none 0 0, .bool false]) ∧ Below w.heap.size w w'
def szOf : Value → Nat | .string x => x.size | _ => 0
theorem szOf_str (x : ByteArray) : szOf (.string x) = x.size := rfl
theorem dl_nil (s : ByteArray) (h : s.size = 0) : s.data.toList = [] := List.length_eq_zero_iff.1 (by rw [bsize]; exact h)
theorem dl_cons (s : ByteArray) (h : 0 < s.size) : s.data.toList = s[0] :: s.data.toList.drop 1 := by
  have e : s[0] = s.data.toList[0]'(by rw [bsize]; exact h) := rfl
  rw [e]
  exact (List.drop_eq_getElem_cons (i := 0) (by rw [bsize]; exact h))
set_option maxHeartbeats 1600000 in
theorem pieces_any (s : ByteArray) (w : World) (hs : s.size ≤ 1048576) : Calls Tryz.prog 60 #[.string s] w (PcsPost w (pieces s.data.toList)) := by
  obtain ⟨i0, hi0, hz0, hz1, hz2⟩ := info_parts str_info
  have Hs := Lib.hid hs
  clear hs
  go_enter Tryz.func60, Tryz.ntmps60
  go_wp2_with fail
  go_loopw [0, 4] (fun x v wr => ∃ (r : ByteArray) (acc : List P), x = .string r ∧ r.size ≤ s.size ∧ Hid (pieces s.data.toList = (pieces r.data.toList).map (acc ++ ·)) ∧ acc.length + r.size ≤ 1048576 ∧ Strs w wr v acc) (fun x _ _ => szOf x)
  case atStart => exact ⟨s, [], rfl, Nat.le_refl _, Lib.hid (by simp), by simpa using Hs.out, ⟨World.ownsRow_nil _ _ _ _, Below.refl _ _⟩⟩
  case round =>
    obtain ⟨r0, acc, rfl, hr0, hpc, hac, hT⟩ := hrel
    have HT := Lib.hid hT
    clear hT
    have Ro := Lib.hid (Nat.le_refl r0.size)
    go_wp2_with fail
    go_loopw [0] (fun x wi => ∃ r : ByteArray, x = .string r ∧ r.size ≤ r0.size ∧ Hid (pieces r.data.toList = pieces r0.data.toList) ∧ wr = wi) (fun x _ => szOf x)
    case atStart => exact ⟨r0, rfl, Nat.le_refl _, Lib.hid rfl, rfl⟩
    case round =>
      obtain ⟨r, rfl, hr, hpr, rfl⟩ := hrel
      have Hpc : Hid (pieces s.data.toList = (pieces r.data.toList).map (acc ++ ·)) := Lib.hid (by rw [hpr.out]; exact hpc.out)
      by_cases h0 : r.size = 0
      · have hd := dl_nil r h0
        have hd2 : r.toList = [] := by rw [tl]; exact hd
        have Fin : Hid (pieces s.data.toList = some acc) := Lib.hid (by rw [Hpc.out, hd, pieces_nil]; simp)
        clear hd h0
        go_wp2_with fail
        go_ret2
        exact (by rw [Fin.out]; exact ⟨_, rfl, HT.out.own, HT.out.bel⟩)
      · have h1 : 0 < r.size := by omega
        have hd := dl_cons r h1
        have he1 : r.toList.isEmpty = false := by rw [tl, hd]; rfl
        have u0 := u8_eq r[0] 32
        have u1 := u8_eq r[0] 9
        simp only [show (UInt8.toNat 32 : Int) = 32 from rfl, show (UInt8.toNat 9 : Int) = 9 from rfl] at u0 u1
        have hdp := dropS_data 1 r
        have hds := dropS_size 1 r
        have hb0 : blank r[0] = (r[0] == 32 || r[0] == 9) := rfl
        by_cases hb : blank r[0] = true
        · have Hn : Hid (pieces (dropS 1 r).data.toList = pieces r0.data.toList) := Lib.hid (by rw [hdp, ← hpr.out, hd, pieces_blank _ _ hb]; rfl)
          have hb2 : ((r[0].toNat : Int) == 32) = true ∨ (((r[0].toNat : Int) == 32) = false ∧ ((r[0].toNat : Int) == 9) = true) := by
            rw [u0, u1]
            rw [hb0] at hb
            cases h9 : r[0] == 32 with
            | true => exact .inl rfl
            | false => rw [h9] at hb; exact .inr ⟨rfl, by simpa using hb⟩
          have hdS : Hid (dropS 1 r = r.extract 1 r.size) := rfl
          have hsz : Hid ((r.extract 1 r.size).size = r.size - 1) := Lib.hid (by rw [← hdS.out]; exact hds)
          clear hd u0 u1 hdp hds hb0 hb h0 Hpc hpr
          rcases hb2 with t0 | ⟨t0, t1⟩
          all_goals
            go_wp2_with fail
            go_roundw
            case rel => exact ⟨dropS 1 r, rfl, by rw [hdS.out, hsz.out]; omega, Hn, by first | rfl | trivial⟩
            case measure => simp [szOf]; omega
        · have hb' : blank r[0] = false := by simpa using hb
          have t0 : ((r[0].toNat : Int) == 32) = false := by
            rw [u0]; rw [hb0] at hb'; simp only [Bool.or_eq_false_iff] at hb'; exact hb'.1
          have t1 : ((r[0].toNat : Int) == 9) = false := by
            rw [u1]; rw [hb0] at hb'; simp only [Bool.or_eq_false_iff] at hb'; exact hb'.2
          have c0 := piece_any r wr h1 (by have := Hs.out; omega)
          have hle := pieceN_le r.data.toList
          rw [bsize] at hle
          have hpn : Hid (pieces r.data.toList = if pieceN r.data.toList = 0 then none else (pieces (r.data.toList.drop (pieceN r.data.toList))).map (fun l => r.data.toList.take (pieceN r.data.toList) :: l)) := Lib.hid (by
            have := pieces_cons r[0] (r.data.toList.drop 1) hb'
            rw [← hd] at this
            exact this)
          clear hd u0 u1 hdp hds hb0 hb hb' hpr
          generalize pieceN r.data.toList = n at *
          have hn0 : (0 : Int) ≤ (n : Int) := by omega
          have hn1 : (n : Int) ≤ (r.size : Int) := by omega
          by_cases hn : n = 0
          · have Fin : Hid (pieces s.data.toList = none) := Lib.hid (by rw [Hpc.out, hpn.out, if_pos hn]; rfl)
            subst hn
            clear hpn Hpc
            go_wp2_with (go_at_call 98; refine c0.mono ?_; rintro e w' ⟨rfl, rfl⟩)
            go_ret2
            exact (by rw [Fin.out]; exact ⟨rfl, HT.out.bel⟩)
          · have hn' : ((n : Int) == 0) = false := by rw [beq_eq_false_iff_ne]; omega
            have Hx : Hid (r.extract 0 n = str (r.data.toList.take n)) := Lib.hid (by
              rw [← of_str (r.extract 0 n), Lib.extract_data]; simp)
            have Hn : Hid (pieces s.data.toList = (pieces (dropS n r).data.toList).map ((acc ++ [r.data.toList.take n]) ++ ·)) := Lib.hid (by
              rw [Hpc.out, hpn.out, if_neg hn, dropS_data, Option.map_map]
              congr 1
              funext l
              simp)
            have hdS : Hid (dropS n r = r.extract n r.size) := rfl
            have hds := dropS_size n r
            have Hsz : Hid ((r.extract n r.size).size = r.size - n) := Lib.hid (by rw [← hdS.out]; exact hds)
            have hown := HT.out.own
            have hbs := HT.out.bel.size
            have hnpos : 0 < n := by omega
            clear hpn Hpc hn hds h0
            generalize r.data.toList.take n = x at *
            go_wp2_with (first
              | (go_at_call 98; refine c0.mono ?_; rintro e w' ⟨rfl, rfl⟩)
              | (at_builtin; refine wpList_append_own _ rfl _ _ 49 rfl w.heap.size 9 i0 _ 1 16 Tryz.underlying49 hi0 hz0 hz1 hz2 rfl (by decide) _ _ _ rfl (hown.alloc _) ⟨wr.heap.size, 0, none⟩ 1 1 [.string (r.extract 0 n)] rfl rfl ?d1 ?d2 ?d3 ?d4 ?d5 ?_))
            case d1 => exact World.news_of_block (cs := #[.string (r.extract 0 n)]) (t := 9) (fr := (0, 0)) (heap_alloc_new wr _)
            case d2 => intro u hu; simp at hu; subst hu; rfl
            case d3 => unfold maxLen; omega
            case d4 => omega
            case d5 => simp; omega
            intro v' w5 hown5 hg5 _
            rw [Hx.out] at hown5
            have HT5 := Lib.hid ((HT.out.below ((Below.refl _ _).alloc (Nat.le_refl _) _)).put hown5 hg5)
            clear hown5 hg5 hown
            go_wp2_with fail
            go_roundw
            case rel => exact ⟨dropS n r, acc ++ [x], rfl, by rw [hdS.out, Hsz.out]; omega, Hn, by rw [hdS.out, Hsz.out, List.length_append, List.length_singleton]; omega, HT5.out⟩
            case measure => simp [szOf, Hsz.out]; omega
end Go.Proofs.YtlfpfkallgkjdaaGreat.Qp
end

section
/- Rows whose blocks are of some kind. No program. -/
namespace Go.Proofs.YtlfpfkallgkjdaaGreat.Qp
open Go.RowKit Go.Proofs.YtlfpfkallgkjdaaGreat Go.Proofs.YtlfpfkallgkjdaaGreat.Qy

/-- A slice value that reads as a list; its block is one of S. -/
def ReadsS (w : World) (S : Nat → Prop) (size : Nat) (A : Option Addr) (n : Nat) (xs : List Value) : Prop :=
  xs.length = n * size ∧ (0 < n → ∃ b o, A = some ⟨b, o, none⟩ ∧ S b ∧ ∀ j u, xs[j]? = some u → w.cell? ⟨b, o + j, none⟩ = some u)
section
variable {w w' : World} {S S' : Nat → Prop} {size n : Nat} {A : Option Addr} {xs : List Value}
theorem ReadsS.keep (h : ReadsS w S size A n xs) (hk : ∀ b o, S b → w'.cell? ⟨b, o, none⟩ = w.cell? ⟨b, o, none⟩) : ReadsS w' S size A n xs :=
  ⟨h.1, fun hn => by
    obtain ⟨b, o, e, hb, hc⟩ := h.2 hn
    exact ⟨b, o, e, hb, fun j u hu => (hk b _ hb).trans (hc j u hu)⟩⟩
theorem ReadsS.mono (h : ReadsS w S size A n xs) (hS : ∀ b, S b → S' b) : ReadsS w S' size A n xs :=
  ⟨h.1, fun hn => by
    obtain ⟨b, o, e, hb, hc⟩ := h.2 hn
    exact ⟨b, o, e, hS b hb, hc⟩⟩
theorem ReadsS.reads {B : Nat} (h : ReadsS w S size A n xs) (hS : ∀ b, S b → b < B) : Reads w B size A n xs :=
  ⟨h.1, fun hn => by
    obtain ⟨b, o, e, hb, hc⟩ := h.2 hn
    exact ⟨b, o, e, hS b hb, hc⟩⟩
theorem ReadsS.none_ : ReadsS w S size A 0 [] := ⟨by simp, fun h => absurd h (by omega)⟩
theorem ReadsS.of_own {base : Nat} {e : TypeId} {c : Nat} (h : w.ownsRow base e size (.slice A n c) n xs) : ReadsS w (fun b => base ≤ b ∧ b < w.heap.size ∧ (Value.slice A n c).ownBlock = some b) size A n xs := by
  refine ⟨h.1, fun hn => ?_⟩
  have hlt := h.lt
  rcases h.2 with ⟨hv, h0⟩ | ⟨g, cap, cur, hv, _, hg, _⟩
  · omega
  · have hA : A = some ⟨g, 0, none⟩ := by injection hv
    subst hA
    refine ⟨_, _, rfl, ⟨(hlt g rfl).1, (hlt g rfl).2, rfl⟩, fun j u hu => ?_⟩
    have := h.cells (g := g) rfl j u hu
    have hadd : (⟨g, 0, none⟩ : Addr).add j = ⟨g, j, none⟩ := by unfold Addr.add; split <;> simp_all
    rw [hadd] at this
    rw [Nat.zero_add]; exact this
end
end Go.Proofs.YtlfpfkallgkjdaaGreat.Qp
end
