/- Queries in parentheses: plain. -/
import Derived.Test.YtceekocfmbcobaaPkQparseBlanksRow0
namespace Go.Proofs.Ytceekocfmbcobaa.Qp
open Go.RowKit Go.Proofs.Ytceekocfmbcobaa Go.Proofs.Ytceekocfmbcobaa.Ut Go.Proofs.Ytceekocfmbcobaa.Tk Go.Proofs.Ytceekocfmbcobaa.Qy

theorem R.ext {m : Md} {l : List P} {o : Option (Q × List P)} (h : R m l o) : ∀ q r, o = some (q, r) → ∀ u, R m (l ++ RP :: u) (some (q, r ++ RP :: u)) := by
  induction h with
  | pnil => intro q r e; cases e
  | pnot hs h ih =>
    intro q r e u
    obtain ⟨⟨q', r'⟩, h1, h2⟩ := Option.map_eq_some_iff.1 e
    simp only [Prod.mk.injEq] at h2
    obtain ⟨rfl, rfl⟩ := h2
    have := R.pnot hs (ih q' r' h1 u)
    exact this
  | @plp s t o hs h ih =>
    intro q r e u
    match o, e, h, ih with
    | some (q', s' :: r'), e, h, ih =>
      by_cases hp' : s' = RP
      · have e2 : closed (some (q', s' :: r')) = some (q', r') := if_pos hp'
        rw [e2] at e
        simp only [Option.some.injEq, Prod.mk.injEq] at e
        obtain ⟨rfl, rfl⟩ := e
        have := R.plp hs (ih q' _ rfl u)
        have e3 : closed (some (q', s' :: r' ++ RP :: u)) = some (q', r' ++ RP :: u) := if_pos hp'
        rw [e3] at this
        exact this
      · have e2 : closed (some (q', s' :: r')) = none := if_neg hp'
        rw [e2] at e
        cases e
    | some (q', []), e, _, _ => cases e
    | none, e, _, _ => cases e
  | pbad hs => intro q r e; cases e
  | @pleaf s t hs =>
    intro q r e u
    obtain ⟨q', h1, h2⟩ := Option.map_eq_some_iff.1 e
    simp only [Prod.mk.injEq] at h2
    obtain ⟨rfl, rfl⟩ := h2
    have := R.pleaf (s := s) (t := t ++ RP :: u) hs
    rw [h1] at this
    exact this
  | and0 h ih => intro q r e; cases e
  | and1 h h2 ih ih2 => intro q r e u; exact .and1 (ih _ _ rfl u) (ih2 _ _ e u)
  | @andE a l h =>
    intro q r e u
    simp only [Option.some.injEq, Prod.mk.injEq] at e
    obtain ⟨rfl, rfl⟩ := e
    refine .andE ?_
    cases l with
    | nil => rfl
    | cons s l => exact h
  | andA hs h ih => intro q r e u; exact .andA hs (ih _ _ e u)
  | andN hs hn h ih => intro q r e u; exact .andN hs hn (ih _ _ e u)
  | or0 h ih => intro q r e; cases e
  | or1 h h2 ih ih2 => intro q r e u; exact .or1 (ih _ _ rfl u) (ih2 _ _ e u)
  | @orE a l h =>
    intro q r e u
    simp only [Option.some.injEq, Prod.mk.injEq] at e
    obtain ⟨rfl, rfl⟩ := e
    refine .orE ?_
    cases l with
    | nil => show some RP ≠ some OR; decide
    | cons s l => exact h
  | orO hs h ih => intro q r e u; exact .orO hs (ih _ _ e u)
theorem R.par {l : List P} {q : Q} (h : R (.or []) l (some (q, []))) (u : List P) : R .part (LP :: (l ++ RP :: u)) (some (q, u)) := by
  have := R.plp (s := LP) rfl (h.ext q [] rfl u)
  exact this
theorem quotedN_more (s t : P) (h : quotedN s ≠ 0) : quotedN (s ++ t) = quotedN s := by
  cases s with
  | nil => exact absurd rfl h
  | cons c s =>
    by_cases hk : quoteAt s < s.length
    · have e2 : quoteAt (s ++ t) = quoteAt s := by
        refine findIdx_of _ _ _ (fun x hx => ?_) (by rw [List.length_append]; omega) (fun hlt => ?_)
        · rw [List.take_append_of_le_length (by omega)] at hx
          exact (findIdx_is (· == 34) s).1 x hx
        · rw [List.getElem_append_left hk]
          exact (findIdx_is (· == 34) s).2.1 hk
      rw [List.cons_append, quotedN_cons, quotedN_cons, e2, if_pos hk, if_pos (by rw [List.length_append]; omega)]
    · have e : quotedN (c :: s) = 0 := by rw [quotedN_cons, if_neg hk]
      exact absurd e h
theorem pieceN_more (s u : P) (h : pieceN s ≠ 0) : pieceN (s ++ 41 :: u) = pieceN s := by
  have hne : s ≠ [] := fun e => by subst e; exact h (by decide)
  obtain ⟨c, s', rfl⟩ : ∃ c s', s = c :: s' := by cases s with | nil => exact absurd rfl hne | cons c s' => exact ⟨c, s', rfl⟩
  have hh : ((c :: s') ++ 41 :: u).head? = (c :: s').head? := rfl
  have hen := findIdx_is ends (c :: s')
  have hel : endAt (c :: s') ≤ (c :: s').length := hen.2.2
  have hex : endAt ((c :: s') ++ 41 :: u) = endAt (c :: s') := by
    refine findIdx_of ends _ _ (fun y hy => ?_) (by rw [List.length_append]; omega) (fun hl => ?_)
    · rw [List.take_append_of_le_length hel] at hy
      exact hen.1 y hy
    · rcases Nat.lt_or_ge (endAt (c :: s')) (c :: s').length with h2 | h2
      · rw [List.getElem_append_left h2]
        exact hen.2.1 h2
      · have : ((c :: s') ++ 41 :: u)[endAt (c :: s')]? = some 41 := by
          rw [List.getElem?_append_right h2, Nat.le_antisymm hel h2, Nat.sub_self]; rfl
        rw [List.getElem?_eq_getElem hl, Option.some.injEq] at this
        rw [this]; rfl
  have hdr : ((c :: s') ++ 41 :: u).drop (endAt (c :: s')) = (c :: s').drop (endAt (c :: s')) ++ 41 :: u := List.drop_append_of_le_length hel
  unfold pieceN at h ⊢
  rw [hh, hex]
  by_cases h1 : (c :: s').head? = some 40 ∨ (c :: s').head? = some 41
  · rw [if_pos h1, if_pos h1]
  · rw [if_neg h1] at h ⊢
    rw [if_neg h1]
    by_cases h2 : (c :: s').head? = some 34
    · rw [if_pos h2] at h ⊢
      rw [if_pos h2]
      exact quotedN_more _ _ h
    · rw [if_neg h2] at h ⊢
      rw [if_neg h2]
      rcases Nat.lt_or_ge (endAt (c :: s')) (c :: s').length with h5 | h5
      · have g1 : ((c :: s') ++ 41 :: u)[endAt (c :: s')]? = (c :: s')[endAt (c :: s')]? := List.getElem?_append_left h5
        have g2 : ((c :: s') ++ 41 :: u)[endAt (c :: s') - 1]? = (c :: s')[endAt (c :: s') - 1]? := List.getElem?_append_left (by omega)
        rw [g1, g2, hdr]
        by_cases h3 : (c :: s')[endAt (c :: s')]? = some 34 ∧ (c :: s')[endAt (c :: s') - 1]? = some 58
        · rw [if_pos h3] at h ⊢
          rw [if_pos h3]
          by_cases h4 : quotedN ((c :: s').drop (endAt (c :: s'))) = 0
          · rw [if_pos h4] at h; exact absurd rfl h
          · rw [quotedN_more _ _ h4]
        · rw [if_neg h3, if_neg h3]
      · have g1 : ((c :: s') ++ 41 :: u)[endAt (c :: s')]? = some 41 := by
          rw [List.getElem?_append_right h5, Nat.le_antisymm hel h5, Nat.sub_self]; rfl
        rw [g1, if_neg (by rintro ⟨e, _⟩; revert e; decide), List.getElem?_eq_none h5, if_neg (by rintro ⟨e, _⟩; cases e)]
theorem pieces_close : ∀ (n : Nat) (s : P) (l : List P) (u : P), s.length ≤ n → pieces s = some l → pieces (s ++ 41 :: u) = (pieces (41 :: u)).map (l ++ ·) := by
  intro n
  induction n with
  | zero =>
    intro s l u h e
    have : s = [] := List.length_eq_zero_iff.1 (by omega)
    subst this
    rw [pieces_nil] at e
    injection e with e
    subst e
    simp
  | succ n ih =>
    intro s l u h e
    cases s with
    | nil =>
      rw [pieces_nil] at e
      injection e with e
      subst e
      simp
    | cons c t =>
      rw [List.length_cons] at h
      by_cases hb : blank c = true
      · rw [pieces_blank c t hb] at e
        rw [List.cons_append, pieces_blank c _ hb]
        exact ih t l u (by omega) e
      · have hb' : blank c = false := by simpa using hb
        rw [pieces_cons c t hb'] at e
        by_cases h0 : pieceN (c :: t) = 0
        · rw [if_pos h0] at e; cases e
        · rw [if_neg h0] at e
          obtain ⟨l', h1, h2⟩ := Option.map_eq_some_iff.1 e
          subst h2
          have hle := pieceN_le (c :: t)
          have := ih _ l' u (by rw [List.length_drop, List.length_cons]; omega) h1
          have hm := pieceN_more (c :: t) u h0
          rw [List.cons_append] at hm ⊢
          rw [pieces_cons c _ hb', hm, if_neg h0]
          have e1 : (c :: (t ++ 41 :: u)).drop (pieceN (c :: t)) = (c :: t).drop (pieceN (c :: t)) ++ 41 :: u := by rw [← List.cons_append, List.drop_append_of_le_length hle]
          have e2 : (c :: (t ++ 41 :: u)).take (pieceN (c :: t)) = (c :: t).take (pieceN (c :: t)) := by rw [← List.cons_append, List.take_append_of_le_length hle]
          rw [e1, e2, this, Option.map_map]
          rfl
theorem pieces_lp (u : P) : pieces (40 :: u) = (pieces u).map (LP :: ·) := by
  have h : pieceN (40 :: u) = 1 := by unfold pieceN; rw [if_pos (.inl rfl)]
  rw [pieces_cons 40 u (by decide), h, if_neg (by decide)]
  rfl
theorem pieces_rp (u : P) : pieces (41 :: u) = (pieces u).map (RP :: ·) := by
  have h : pieceN (41 :: u) = 1 := by unfold pieceN; rw [if_pos (.inr rfl)]
  rw [pieces_cons 41 u (by decide), h, if_neg (by decide)]
  rfl
theorem pieces_par {s u : P} {l m : List P} (h : pieces s = some l) (hu : pieces u = some m) : pieces (40 :: (s ++ 41 :: u)) = some (LP :: (l ++ RP :: m)) := by
  rw [pieces_lp, pieces_close _ s l u (Nat.le_refl _) h, pieces_rp, hu]; rfl
theorem pieces_sp (u : P) : pieces (32 :: u) = pieces u := pieces_blank 32 u (by decide)
theorem pieces_or (u : P) : pieces (79 :: 82 :: 32 :: u) = (pieces u).map (OR :: ·) := by
  have := pieces_one OR (pieces_whole 2 OR [OR] (by decide) (by decide) OR (by simp)) 32 u (by decide) (by decide)
  rw [pieces_sp] at this
  exact this
theorem pieces_and (u : P) : pieces (65 :: 78 :: 68 :: 32 :: u) = (pieces u).map (AND :: ·) := by
  have := pieces_one AND (pieces_whole 3 AND [AND] (by decide) (by decide) AND (by simp)) 32 u (by decide) (by decide)
  rw [pieces_sp] at this
  exact this
theorem pieces_not (u : P) : pieces (78 :: 79 :: 84 :: 32 :: u) = (pieces u).map (NOT :: ·) := by
  have := pieces_one NOT (pieces_whole 3 NOT [NOT] (by decide) (by decide) NOT (by simp)) 32 u (by decide) (by decide)
  rw [pieces_sp] at this
  exact this
/-- A text that is read whole, as pieces. -/
structure Okp (s : P) (l : List P) (q : Q) : Prop where
  pcs : pieces s = some l
  rd : R (.or []) l (some (q, []))
  many : manyB q = false
  deep : depthN q ≤ 12
theorem PrsR.okp {s : P} {o : Option Q} (h : PrsR s 0 o) (hd : depthN (o.getD noQ) ≤ 12) : ∃ l q, o = some q ∧ Okp s l q := by
  cases h with
  | @ok l q _ hp hr hm _ => exact ⟨l, q, rfl, hp, hr, hm, hd⟩
theorem Okp.part {s : P} {l : List P} {q : Q} (h : Okp s l q) (u : List P) : R .part (LP :: (l ++ RP :: u)) (some (q, u)) := h.rd.par u
def orQ (x y z : Q) : Q := .mk 6 ByteArray.empty [] [x, .mk 5 ByteArray.empty [] [y, z]]
def nandQ (x y : Q) : Q := .mk 5 ByteArray.empty [] [.mk 7 ByteArray.empty [] [x], y]
theorem binds1 {a b c : P} {la lb lc : List P} {x y z : Q} (ha : Okp a la x) (hb : Okp b lb y) (hc : Okp c lc z) (h1 : a.length ≤ 100) (h2 : b.length ≤ 100) (h3 : c.length ≤ 100) :
    PrsR (40 :: (a ++ 41 :: 32 :: 79 :: 82 :: 32 :: 40 :: (b ++ 41 :: 32 :: 65 :: 78 :: 68 :: 32 :: 40 :: (c ++ 41 :: [])))) 0 (some (orQ x y z)) := by
  have e3 := pieces_par (u := []) hc.pcs pieces_nil
  have e2 : pieces (32 :: 65 :: 78 :: 68 :: 32 :: 40 :: (c ++ 41 :: [])) = some (AND :: LP :: (lc ++ RP :: [])) := by rw [pieces_sp, pieces_and, e3]; rfl
  have e1 := pieces_par hb.pcs e2
  have e0 : pieces (32 :: 79 :: 82 :: 32 :: 40 :: (b ++ 41 :: 32 :: 65 :: 78 :: 68 :: 32 :: 40 :: (c ++ 41 :: []))) = some (OR :: LP :: (lb ++ RP :: AND :: LP :: (lc ++ RP :: []))) := by rw [pieces_sp, pieces_or, e1]; rfl
  refine .ok (by simp only [List.length_cons, List.length_append, List.length_nil]; omega) (pieces_par ha.pcs e0) ?_ ?_ ?_
  · have r1 : R (.and []) (LP :: (la ++ RP :: OR :: LP :: (lb ++ RP :: AND :: LP :: (lc ++ RP :: [])))) (some (x, OR :: LP :: (lb ++ RP :: AND :: LP :: (lc ++ RP :: [])))) := .and1 (ha.part _) (.andE (by rfl))
    have r3 : R (.and [y]) (LP :: (lc ++ RP :: [])) (some (.mk 5 ByteArray.empty [] [y, z], [])) := .and1 (hc.part _) (.andE (by rfl))
    have r2 : R (.and []) (LP :: (lb ++ RP :: AND :: LP :: (lc ++ RP :: []))) (some (.mk 5 ByteArray.empty [] [y, z], [])) := .and1 (hb.part _) (.andA rfl r3)
    exact .or1 r1 (.orO rfl (.or1 r2 (.orE (by simp))))
  · simp [orQ, manyB_eq, manyL, ha.many, hb.many, hc.many]
  · have := ha.deep; have := hb.deep; have := hc.deep
    rw [orQ, depthN_eq, depthL, depthL, depthL, depthN_eq, depthL, depthL, depthL]
    omega
theorem binds2 {a b : P} {la lb : List P} {x y : Q} (ha : Okp a la x) (hb : Okp b lb y) (h1 : a.length ≤ 100) (h2 : b.length ≤ 100) :
    PrsR (78 :: 79 :: 84 :: 32 :: 40 :: (a ++ 41 :: 32 :: 40 :: (b ++ 41 :: []))) 0 (some (nandQ x y)) := by
  have e2 := pieces_par (u := []) hb.pcs pieces_nil
  have e1 : pieces (32 :: 40 :: (b ++ 41 :: [])) = some (LP :: (lb ++ RP :: [])) := by rw [pieces_sp, e2]
  have e0 : pieces (78 :: 79 :: 84 :: 32 :: 40 :: (a ++ 41 :: 32 :: 40 :: (b ++ 41 :: []))) = some (NOT :: LP :: (la ++ RP :: LP :: (lb ++ RP :: []))) := by rw [pieces_not, pieces_par ha.pcs e1]; rfl
  refine .ok (by simp only [List.length_cons, List.length_append, List.length_nil]; omega) e0 ?_ ?_ ?_
  · have r1 : R .part (NOT :: LP :: (la ++ RP :: LP :: (lb ++ RP :: []))) (some (notQ x, LP :: (lb ++ RP :: []))) := R.pnot rfl (ha.part _)
    have r2 : R (.and [notQ x]) (LP :: (lb ++ RP :: [])) (some (nandQ x y, [])) := .and1 (hb.part _) (.andE (by rfl))
    exact .or1 (.and1 r1 (.andN (by rfl) (by decide) r2)) (.orE (by simp))
  · simp [nandQ, manyB_eq, manyL, ha.many, hb.many]
  · have := ha.deep; have := hb.deep
    rw [nandQ, depthN_eq, depthL, depthL, depthL, depthN_eq, depthL, depthL]
    omega
theorem binds3 {a : P} {la : List P} {x : Q} (ha : Okp a la x) (h1 : a.length ≤ 100) : PrsR (40 :: 40 :: (a ++ 41 :: 41 :: [])) 0 (some x) := by
  have e1 : pieces (40 :: (a ++ 41 :: 41 :: [])) = some (LP :: (la ++ RP :: RP :: [])) := pieces_par ha.pcs (by rw [pieces_rp, pieces_nil]; rfl)
  have e0 : pieces (40 :: 40 :: (a ++ 41 :: 41 :: [])) = some (LP :: LP :: (la ++ RP :: RP :: [])) := by rw [pieces_lp, e1]; rfl
  refine .ok (by simp only [List.length_cons, List.length_append, List.length_nil]; omega) e0 ?_ ha.many (Nat.le_trans ha.deep (by decide))
  have r1 : R (.or []) (LP :: (la ++ [RP])) (some (x, [])) := .or1 (.and1 (ha.part _) (.andE (by rfl))) (.orE (by simp))
  have r2 := r1.par []
  rw [List.cons_append, List.append_assoc] at r2
  exact .or1 (.and1 r2 (.andE (by rfl))) (.orE (by simp))
end Go.Proofs.Ytceekocfmbcobaa.Qp
