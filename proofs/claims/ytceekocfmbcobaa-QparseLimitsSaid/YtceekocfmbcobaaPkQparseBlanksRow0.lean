/- Pieces of a text put together anew: plain. -/
import Derived.Test.YtceekocfmbcobaaPkQparseReadsRow24
import Derived.Test.YtceekocfmbcobaaQpWPk
section
namespace Go.Proofs.Ytceekocfmbcobaa.Qp
open Go.RowKit Go.Proofs.Ytceekocfmbcobaa Go.Proofs.Ytceekocfmbcobaa.Ut Go.Proofs.Ytceekocfmbcobaa.Tk Go.Proofs.Ytceekocfmbcobaa.Qy

theorem quotedN_cons (c : UInt8) (s : P) : quotedN (c :: s) = if quoteAt s < s.length then quoteAt s + 2 else 0 := rfl
theorem quotedN_app (s t : P) (h : quotedN s ≠ 0) : quotedN (s.take (quotedN s) ++ t) = quotedN s := by
  cases s with
  | nil => exact absurd rfl h
  | cons c s =>
    by_cases hk : quoteAt s < s.length
    · have e : quotedN (c :: s) = quoteAt s + 2 := by rw [quotedN_cons, if_pos hk]
      rw [e]
      have e1 : (c :: s).take (quoteAt s + 2) ++ t = c :: (s.take (quoteAt s + 1) ++ t) := rfl
      have e2 : quoteAt (s.take (quoteAt s + 1) ++ t) = quoteAt s := by
        refine findIdx_of _ _ _ (fun x hx => ?_) (by rw [List.length_append, List.length_take]; omega) (fun hlt => ?_)
        · rw [List.take_append_of_le_length (by rw [List.length_take]; omega), List.take_take, Nat.min_eq_left (by omega)] at hx
          exact (findIdx_is (· == 34) s).1 x hx
        · rw [List.getElem_append_left (by rw [List.length_take]; omega), List.getElem_take]
          exact (findIdx_is (· == 34) s).2.1 hk
      rw [e1, quotedN_cons, e2, if_pos (by rw [List.length_append, List.length_take]; omega)]
    · have e : quotedN (c :: s) = 0 := by rw [quotedN_cons, if_neg hk]
      exact absurd e h
/-- A piece, whatever ends it. -/
theorem pieceN_app (s : P) (b : UInt8) (u : P) (hb : ends b = true) (h34 : b ≠ 34) (h : pieceN s ≠ 0) : pieceN (s.take (pieceN s) ++ b :: u) = pieceN s := by
  have hne : s ≠ [] := fun e => by subst e; exact h (by decide)
  have hle := pieceN_le s
  obtain ⟨c, s', rfl⟩ : ∃ c s', s = c :: s' := by cases s with | nil => exact absurd rfl hne | cons c s' => exact ⟨c, s', rfl⟩
  generalize hx : (c :: s').take (pieceN (c :: s')) ++ b :: u = x
  have hh : x.head? = (c :: s').head? := by
    rw [← hx]
    obtain ⟨n, hn⟩ : ∃ n, pieceN (c :: s') = n + 1 := ⟨pieceN (c :: s') - 1, by omega⟩
    rw [hn, List.take_succ_cons]; rfl
  unfold pieceN at h hx ⊢
  rw [hh]
  by_cases h1 : (c :: s').head? = some 40 ∨ (c :: s').head? = some 41
  · rw [if_pos h1, if_pos h1]
  · rw [if_neg h1] at h hx ⊢
    rw [if_neg h1]
    by_cases h2 : (c :: s').head? = some 34
    · rw [if_pos h2] at h hx ⊢
      rw [if_pos h2, ← hx]
      exact quotedN_app _ _ h
    · rw [if_neg h2] at h hx ⊢
      rw [if_neg h2]
      have hen := findIdx_is ends (c :: s')
      by_cases h3 : (c :: s')[endAt (c :: s')]? = some 34 ∧ (c :: s')[endAt (c :: s') - 1]? = some 58
      · rw [if_pos h3] at h hx ⊢
        by_cases h4 : quotedN ((c :: s').drop (endAt (c :: s'))) = 0
        · rw [if_pos h4] at h; exact absurd rfl h
        · rw [if_neg h4] at h hx ⊢
          have hlt : endAt (c :: s') < (c :: s').length := by
            rcases Nat.lt_or_ge (endAt (c :: s')) (c :: s').length with hh | hh
            · exact hh
            · rw [List.getElem?_eq_none hh] at h3; simp at h3
          have hq2 : 0 < quotedN ((c :: s').drop (endAt (c :: s'))) := by omega
          have hql := quotedN_le ((c :: s').drop (endAt (c :: s')))
          rw [List.length_drop] at hql
          have hgx : ∀ i, i < endAt (c :: s') + quotedN ((c :: s').drop (endAt (c :: s'))) → x[i]? = (c :: s')[i]? := fun i hi => by
            rw [← hx, List.getElem?_append_left (by rw [List.length_take]; omega), List.getElem?_take, if_pos hi]
          have hex : endAt x = endAt (c :: s') := by
            refine findIdx_of ends x _ (fun y hy => ?_) (by rw [← hx, List.length_append, List.length_take]; omega) (fun hl => ?_)
            · rw [← hx, List.take_append_of_le_length (by rw [List.length_take]; omega), List.take_take, Nat.min_eq_left (by omega)] at hy
              exact hen.1 y hy
            · have := hgx (endAt (c :: s')) (by omega)
              rw [List.getElem?_eq_getElem hl, h3.1, Option.some.injEq] at this
              rw [this]; rfl
          have hdr : x.drop (endAt (c :: s')) = ((c :: s').drop (endAt (c :: s'))).take (quotedN ((c :: s').drop (endAt (c :: s')))) ++ b :: u := by
            rw [← hx, List.drop_append_of_le_length (by rw [List.length_take]; omega), List.drop_take, Nat.add_sub_cancel_left]
          rw [hex, hgx _ (by omega), hgx _ (by omega), if_pos h3, hdr, quotedN_app _ _ h4, if_neg h4]
      · rw [if_neg h3] at h hx ⊢
        have hel : endAt (c :: s') ≤ (c :: s').length := hen.2.2
        have hex : endAt x = endAt (c :: s') := by
          refine findIdx_of ends x _ (fun y hy => ?_) (by rw [← hx, List.length_append, List.length_take]; omega) (fun hl => ?_)
          · rw [← hx, List.take_append_of_le_length (by rw [List.length_take]; omega), List.take_take, Nat.min_self] at hy
            exact hen.1 y hy
          · have : x[endAt (c :: s')]? = some b := by
              rw [← hx, List.getElem?_append_right (by rw [List.length_take]; omega), List.length_take, Nat.min_eq_left hel, Nat.sub_self]; rfl
            rw [List.getElem?_eq_getElem hl, Option.some.injEq] at this
            rw [this]; exact hb
        have hxb : x[endAt (c :: s')]? = some b := by
          rw [← hx, List.getElem?_append_right (by rw [List.length_take]; omega), List.length_take, Nat.min_eq_left hel, Nat.sub_self]; rfl
        rw [hex, hxb, if_neg (by rintro ⟨e, _⟩; injection e with e; exact h34 e)]
/-- A piece as it stands alone. -/
def Whole (x : P) : Prop := (∃ c t, x = c :: t ∧ blank c = false) ∧ ∀ b u, ends b = true → b ≠ 34 → pieceN (x ++ b :: u) = x.length
theorem pieces_whole : ∀ (n : Nat) (s : P) (l : List P), s.length ≤ n → pieces s = some l → ∀ x ∈ l, Whole x := by
  intro n
  induction n with
  | zero =>
    intro s l h e x hx
    have : s = [] := List.length_eq_zero_iff.1 (by omega)
    subst this
    rw [pieces_nil] at e
    injection e with e
    subst e
    cases hx
  | succ n ih =>
    intro s l h e x hx
    cases s with
    | nil =>
      rw [pieces_nil] at e
      injection e with e
      subst e
      cases hx
    | cons c t =>
      rw [List.length_cons] at h
      by_cases hb : blank c = true
      · rw [pieces_blank c t hb] at e
        exact ih t l (by omega) e x hx
      · have hb' : blank c = false := by simpa using hb
        rw [pieces_cons c t hb'] at e
        by_cases h0 : pieceN (c :: t) = 0
        · rw [if_pos h0] at e; cases e
        · rw [if_neg h0] at e
          obtain ⟨l', h1, h2⟩ := Option.map_eq_some_iff.1 e
          subst h2
          rcases List.mem_cons.1 hx with rfl | hx
          · have hle := pieceN_le (c :: t)
            refine ⟨?_, fun b u h3 h4 => ?_⟩
            · obtain ⟨k, hk⟩ : ∃ k, pieceN (c :: t) = k + 1 := ⟨pieceN (c :: t) - 1, by omega⟩
              exact ⟨c, t.take k, by rw [hk]; rfl, hb'⟩
            · rw [pieceN_app _ b u h3 h4 h0, List.length_take]; omega
          · exact ih _ l' (by simp; omega) h1 x hx
theorem pieces_one (x : P) (h : Whole x) (b : UInt8) (u : P) (hb : ends b = true) (h34 : b ≠ 34) : pieces (x ++ b :: u) = (pieces (b :: u)).map (fun l => x :: l) := by
  obtain ⟨⟨c, t, rfl, hc⟩, hN⟩ := h
  have hn := hN b u hb h34
  have e : (c :: t) ++ b :: u = c :: (t ++ b :: u) := rfl
  rw [e] at hn ⊢
  rw [pieces_cons c _ hc, hn, if_neg (by simp)]
  have e1 : (c :: (t ++ b :: u)).drop (c :: t).length = b :: u := by rw [← e, List.drop_left]
  have e2 : (c :: (t ++ b :: u)).take (c :: t).length = c :: t := by rw [← e, List.take_left]
  rw [e1, e2]
/-- Pieces with blanks behind each. -/
def join1 (x : P) (b : Bool) : P := x ++ 32 :: (if b then [9] else [])
def joinB (f : Nat → Bool) (k : Nat) : List P → P
  | [] => []
  | x :: l => join1 x (f k) ++ joinB f (k + 1) l
theorem pieces_joinB (f : Nat → Bool) : ∀ (l : List P) (k : Nat), (∀ x ∈ l, Whole x) → pieces (joinB f k l) = some l
  | [], _, _ => rfl
  | x :: l, k, h => by
    have ih := pieces_joinB f l (k + 1) (fun y hy => h y (by simp [hy]))
    unfold joinB join1
    rw [List.append_assoc, List.cons_append, pieces_one x (h x (by simp)) 32 _ (by decide) (by decide), pieces_blank 32 _ (by decide)]
    cases f k with
    | true =>
      show (pieces (9 :: joinB f (k + 1) l)).map _ = _
      rw [pieces_blank 9 _ (by decide), ih]; rfl
    | false =>
      show (pieces (joinB f (k + 1) l)).map _ = _
      rw [ih]; rfl
theorem joinB_snoc (f : Nat → Bool) (x : P) : ∀ (l : List P) (k : Nat), joinB f k (l ++ [x]) = joinB f k l ++ join1 x (f (k + l.length))
  | [], k => by simp [joinB]
  | y :: l, k => by
    rw [List.cons_append, joinB, joinB, joinB_snoc f x l (k + 1), List.append_assoc, List.length_cons]
    congr 4
    omega
end Go.Proofs.Ytceekocfmbcobaa.Qp
end

section
/- Blanks between the pieces: plain. -/
namespace Go.Proofs.Ytceekocfmbcobaa.Qp
open Go.RowKit Go.Proofs.Ytceekocfmbcobaa Go.Proofs.Ytceekocfmbcobaa.Ut Go.Proofs.Ytceekocfmbcobaa.Tk Go.Proofs.Ytceekocfmbcobaa.Qy

theorem pieces_flat : ∀ (n : Nat) (s : P) (l : List P), s.length ≤ n → pieces s = some l → l.flatten.length ≤ s.length := by
  intro n
  induction n with
  | zero =>
    intro s l h e
    have : s = [] := List.length_eq_zero_iff.1 (by omega)
    subst this
    rw [pieces_nil] at e
    injection e with e
    subst e
    exact Nat.le_refl _
  | succ n ih =>
    intro s l h e
    cases s with
    | nil =>
      rw [pieces_nil] at e
      injection e with e
      subst e
      exact Nat.le_refl _
    | cons c t =>
      rw [List.length_cons] at h
      by_cases hb : blank c = true
      · rw [pieces_blank c t hb] at e
        have := ih t l (by omega) e
        rw [List.length_cons]; omega
      · have hb' : blank c = false := by simpa using hb
        rw [pieces_cons c t hb'] at e
        by_cases h0 : pieceN (c :: t) = 0
        · rw [if_pos h0] at e; cases e
        · rw [if_neg h0] at e
          obtain ⟨l', h1, h2⟩ := Option.map_eq_some_iff.1 e
          subst h2
          have hle := pieceN_le (c :: t)
          have := ih _ l' (by rw [List.length_drop, List.length_cons]; omega) h1
          rw [List.length_drop] at this
          rw [List.flatten_cons, List.length_append, List.length_take]
          omega
theorem joinB_len (f : Nat → Bool) : ∀ (l : List P) (k : Nat), (joinB f k l).length ≤ l.flatten.length + 2 * l.length
  | [], _ => Nat.le_refl _
  | x :: l, k => by
    have := joinB_len f l (k + 1)
    rw [joinB, join1, List.flatten_cons, List.length_append, List.length_append, List.length_append, List.length_cons, List.length_cons]
    have : (if f k then [9] else [] : P).length ≤ 1 := by cases f k <;> decide
    omega
theorem flat_take (l : List P) (k : Nat) : (l.take k).flatten.length ≤ l.flatten.length := by
  conv => rhs; rw [← List.take_append_drop k l]
  rw [List.flatten_append, List.length_append]; omega
/-- The text with k pieces put behind. -/
def gap (f : Nat → Bool) (L : List P) (k : Nat) : P := 32 :: joinB f 0 (L.take k)
theorem gap_len (f : Nat → Bool) (L : List P) (k : Nat) : (gap f L k).length ≤ 1 + L.flatten.length + 2 * L.length := by
  have h1 := joinB_len f (L.take k) 0
  have h2 := flat_take L k
  rw [gap, List.length_cons]
  rw [List.length_take] at h1
  omega
theorem gap_yes (f : Nat → Bool) (L : List P) (k : Nat) (h : k < L.length) (hf : f k = true) : str (gap f L (k + 1)) = (str (gap f L k) ++ (str L[k] ++ ⟨#[32]⟩)) ++ ⟨#[9]⟩ := by
  have e1 : (⟨#[32]⟩ : ByteArray) = str [32] := rfl
  have e2 : (⟨#[9]⟩ : ByteArray) = str [9] := rfl
  rw [e1, e2, str_app, str_app, str_app]
  congr 1
  rw [gap, gap, List.take_succ_eq_append_getElem h, joinB_snoc, List.length_take, Nat.zero_add, Nat.min_eq_left (by omega), join1, hf]
  simp
theorem gap_no (f : Nat → Bool) (L : List P) (k : Nat) (h : k < L.length) (hf : f k = false) : str (gap f L (k + 1)) = str (gap f L k) ++ (str L[k] ++ ⟨#[32]⟩) := by
  have e1 : (⟨#[32]⟩ : ByteArray) = str [32] := rfl
  rw [e1, str_app, str_app]
  congr 1
  rw [gap, gap, List.take_succ_eq_append_getElem h, joinB_snoc, List.length_take, Nat.zero_add, Nat.min_eq_left (by omega), join1, hf]
  simp
theorem gap_all (f : Nat → Bool) (s : P) (L : List P) (h : pieces s = some L) : pieces (gap f L L.length) = some L := by
  rw [gap, pieces_blank 32 _ (by decide), List.take_length]
  exact pieces_joinB f L 0 (pieces_whole _ s L (Nat.le_refl _) h)
def oddAt (zs : List Int) (k : Nat) : Bool := match zs[k]? with | some z => z % 2 == 1 | none => false
theorem oddAt_none {zs : List Int} {k : Nat} (h : ¬ k < zs.length) : oddAt zs k = false := by
  unfold oddAt; rw [List.getElem?_eq_none (by omega)]
theorem oddAt_some {zs : List Int} {k : Nat} (h : k < zs.length) : oddAt zs k = (zs[k] % 2 == 1) := by
  unfold oddAt; rw [List.getElem?_eq_getElem h]
theorem PrsR.pcs {s t : P} {e : Int} {o : Option Q} (h : PrsR s e o) (hs : s.length ≤ 1024) (ht : t.length ≤ 1024) (hp : pieces t = pieces s) : PrsR t e o := by
  cases h with
  | long h => omega
  | noPieces _ h1 => exact .noPieces ht (by rw [hp, h1])
  | bad _ h1 h2 => exact .bad ht (by rw [hp, h1]) h2
  | left _ h1 h2 h3 => exact .left ht (by rw [hp, h1]) h2 h3
  | many _ h1 h2 h3 => exact .many ht (by rw [hp, h1]) h2 h3
  | deep _ h1 h2 h3 h4 => exact .deep ht (by rw [hp, h1]) h2 h3 h4
  | ok _ h1 h2 h3 h4 => exact .ok ht (by rw [hp, h1]) h2 h3 h4
end Go.Proofs.Ytceekocfmbcobaa.Qp
end
