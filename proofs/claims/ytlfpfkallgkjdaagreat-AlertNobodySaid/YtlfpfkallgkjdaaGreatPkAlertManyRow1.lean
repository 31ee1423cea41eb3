/- Kept queries, by rising numbers: plain. (No program in sight.) -/
import Derived.Sort.Walk0
import Derived.Test.YtlfpfkallgkjdaaGreatPkAlertManyRow0
section
namespace Go.Proofs.YtlfpfkallgkjdaaGreat.Al
set_option linter.unusedVariables false
set_option linter.unusedSimpArgs false

section
variable {κ : Type}
/-- What is kept: numbers, rising. -/
abbrev UpI (l : List (Int × κ)) : Prop := l.Pairwise (fun x y => x.1 < y.1)
/-- Where a number is, or would be. -/
def pos : List (Int × κ) → Int → Nat
  | [], _ => 0
  | x :: l, i => if x.1 < i then pos l i + 1 else 0
/-- What is kept by a number. -/
def get : List (Int × κ) → Int → Option κ
  | [], _ => none
  | x :: l, i => if x.1 = i then some x.2 else get l i
theorem pos_cons (x : Int × κ) (l : List (Int × κ)) (i : Int) : pos (x :: l) i = if x.1 < i then pos l i + 1 else 0 := rfl
theorem get_cons (x : Int × κ) (l : List (Int × κ)) (i : Int) : get (x :: l) i = if x.1 = i then some x.2 else get l i := rfl
/-- One more, or another one, kept. -/
def put (l : List (Int × κ)) (i : Int) (k : κ) : List (Int × κ) := l.take (pos l i) ++ (i, k) :: l.drop (pos l i + (if (get l i).isSome then 1 else 0))
/-- One kept no more. -/
def drop (l : List (Int × κ)) (i : Int) : List (Int × κ) := if (get l i).isSome then l.take (pos l i) ++ l.drop (pos l i + 1) else l
theorem pos_le : ∀ (l : List (Int × κ)) (i : Int), pos l i ≤ l.length
  | [], i => Nat.le_refl _
  | x :: l, i => by
    have ih := pos_le l i
    unfold pos
    split
    · rw [List.length_cons]; omega
    · exact Nat.zero_le _
theorem pos_lt : ∀ {l : List (Int × κ)} {i : Int} {k : Nat} (h : k < pos l i) (h2 : k < l.length), l[k].1 < i
  | [], i, k, h, h2 => by simp at h2
  | x :: l, i, k, h, h2 => by
    unfold pos at h
    split at h
    · rename_i c
      cases k with
      | zero => exact c
      | succ k => exact pos_lt (l := l) (i := i) (by omega) (by simpa using h2)
    · omega
theorem pos_at : ∀ {l : List (Int × κ)} {i : Int} (h : pos l i < l.length), ¬ l[pos l i].1 < i
  | [], i, h => by simp at h
  | x :: l, i, h => by
    by_cases c : x.1 < i
    · have e : pos (x :: l) i = pos l i + 1 := by rw [pos_cons, if_pos c]
      have h2 : pos l i < l.length := by rw [e] at h; simpa using h
      have := pos_at (l := l) (i := i) h2
      simpa [e] using this
    · have e : pos (x :: l) i = 0 := by rw [pos_cons, if_neg c]
      simpa [e] using c
theorem get_none_lt : ∀ {l : List (Int × κ)} {i : Int}, (∀ x ∈ l, i < x.1) → get l i = none
  | [], i, h => rfl
  | x :: l, i, h => by
    unfold get
    rw [if_neg (by have := h x (List.mem_cons_self ..); omega)]
    exact get_none_lt (fun y hy => h y (List.mem_cons_of_mem _ hy))
theorem get_none_gt : ∀ {l : List (Int × κ)} {i : Int}, (∀ x ∈ l, x.1 < i) → get l i = none
  | [], i, h => rfl
  | x :: l, i, h => by
    unfold get
    rw [if_neg (by have := h x (List.mem_cons_self ..); omega)]
    exact get_none_gt (fun y hy => h y (List.mem_cons_of_mem _ hy))
theorem get_app : ∀ (a b : List (Int × κ)) (i : Int), get (a ++ b) i = (get a i).or (get b i)
  | [], b, i => by simp [get]
  | x :: a, b, i => by
    rw [List.cons_append, get_cons, get_cons]
    split
    · rfl
    · exact get_app a b i
theorem get_mem : ∀ {l : List (Int × κ)} {i : Int} {k : κ}, get l i = some k → (i, k) ∈ l
  | [], i, k, h => by cases h
  | x :: l, i, k, h => by
    unfold get at h
    split at h
    · rename_i c
      injection h with h
      subst c h
      exact List.mem_cons_self ..
    · exact List.mem_cons_of_mem _ (get_mem h)
theorem mem_get : ∀ {l : List (Int × κ)}, UpI l → ∀ {x : Int × κ}, x ∈ l → get l x.1 = some x.2
  | [], _, x, h => (by cases h)
  | y :: l, hu, x, h => by
    obtain ⟨h1, h2⟩ := List.pairwise_cons.1 hu
    unfold get
    rcases List.mem_cons.1 h with rfl | h
    · rw [if_pos rfl]
    · rw [if_neg (by have := h1 x h; omega)]
      exact mem_get h2 h
/-- The three parts of a row. -/
theorem parts {l : List (Int × κ)} (hu : UpI l) (i : Int) : (∀ x ∈ l.take (pos l i), x.1 < i) ∧ (∀ x ∈ l.drop (pos l i + (if (get l i).isSome then 1 else 0)), i < x.1) ∧ ((get l i).isSome = true ↔ ∃ h : pos l i < l.length, l[pos l i].1 = i) := by
  have hlt : ∀ x ∈ l.take (pos l i), x.1 < i := fun x hx => by
    obtain ⟨k, hk, rfl⟩ := List.mem_iff_getElem.1 hx
    rw [List.length_take] at hk
    rw [List.getElem_take]
    exact pos_lt (by omega) (by omega)
  have hge : ∀ x ∈ l.drop (pos l i), ¬ x.1 < i := fun x hx => by
    obtain ⟨k, hk, rfl⟩ := List.mem_iff_getElem.1 hx
    rw [List.length_drop] at hk
    rw [List.getElem_drop]
    have h0 := pos_at (l := l) (i := i) (by omega)
    rcases Nat.eq_zero_or_pos k with rfl | hp
    · simpa using h0
    · have := List.pairwise_iff_getElem.1 hu (pos l i) (pos l i + k) (by omega) (by omega) (by omega)
      omega
  have hiff : (get l i).isSome = true ↔ ∃ h : pos l i < l.length, l[pos l i].1 = i := by
    constructor
    · intro h
      cases hg : get l i with
      | none => rw [hg] at h; cases h
      | some k =>
        obtain ⟨j, hj, e⟩ := List.mem_iff_getElem.1 (get_mem hg)
        have e1 : l[j].1 = i := by rw [e]
        have h1 : ¬ j < pos l i := fun h => by have := pos_lt h hj; omega
        have h2 : pos l i < l.length := by omega
        have h3 := pos_at h2
        refine ⟨h2, ?_⟩
        rcases Nat.lt_or_ge (pos l i) j with h4 | h4
        · have := List.pairwise_iff_getElem.1 hu (pos l i) j h2 hj h4
          omega
        · have h5 : pos l i = j := by omega
          simp only [h5]
          exact e1
    · rintro ⟨h, e⟩
      have := mem_get hu (List.getElem_mem h)
      rw [e] at this
      rw [this]
      rfl
  refine ⟨hlt, fun x hx => ?_, hiff⟩
  split at hx
  · rename_i hs
    obtain ⟨h, e⟩ := hiff.1 hs
    obtain ⟨k, hk, rfl⟩ := List.mem_iff_getElem.1 hx
    rw [List.length_drop] at hk
    rw [List.getElem_drop]
    have := List.pairwise_iff_getElem.1 hu (pos l i) (pos l i + 1 + k) h (by omega) (by omega)
    omega
  · rename_i hs
    rw [Nat.add_zero] at hx
    have h1 := hge x hx
    obtain ⟨k, hk, rfl⟩ := List.mem_iff_getElem.1 hx
    rw [List.length_drop] at hk
    rw [List.getElem_drop] at h1 ⊢
    rcases Nat.eq_zero_or_pos k with rfl | hp
    · have h2 : l[pos l i].1 ≠ i := fun e => hs (hiff.2 ⟨by omega, e⟩)
      have h3 : ¬ l[pos l i].1 < i := by simpa using h1
      simp only [Nat.add_zero]
      omega
    · have h2 := pos_at (l := l) (i := i) (by omega)
      have := List.pairwise_iff_getElem.1 hu (pos l i) (pos l i + k) (by omega) (by omega) (by omega)
      omega
theorem put_up {l : List (Int × κ)} (hu : UpI l) (i : Int) (k : κ) : UpI (put l i k) := by
  obtain ⟨h1, h2, _⟩ := parts hu i
  unfold put
  refine List.pairwise_append.2 ⟨hu.sublist (List.take_sublist _ _), List.pairwise_cons.2 ⟨fun y hy => h2 y hy, hu.sublist (List.drop_sublist _ _)⟩, fun x hx y hy => ?_⟩
  have hx' := h1 x hx
  rcases List.mem_cons.1 hy with rfl | hy
  · exact hx'
  · have := h2 y hy; omega
theorem drop_up {l : List (Int × κ)} (hu : UpI l) (i : Int) : UpI (drop l i) := by
  unfold drop
  split
  · rw [← List.eraseIdx_eq_take_drop_succ]
    exact hu.sublist (List.eraseIdx_sublist _ _)
  · exact hu
theorem get_split {l : List (Int × κ)} (hu : UpI l) (i j : Int) (hne : j ≠ i) : get l j = (get (l.take (pos l i)) j).or (get (l.drop (pos l i + (if (get l i).isSome then 1 else 0))) j) := by
  obtain ⟨_, _, h3⟩ := parts hu i
  by_cases hs : (get l i).isSome = true
  · obtain ⟨h, e⟩ := h3.1 hs
    rw [if_pos hs]
    have e1 : l = l.take (pos l i) ++ (l[pos l i] :: l.drop (pos l i + 1)) := by rw [← List.drop_eq_getElem_cons h, List.take_append_drop]
    have e2 : get l j = get (l.take (pos l i) ++ (l[pos l i] :: l.drop (pos l i + 1))) j := congrArg (fun m => get m j) e1
    rw [e2, get_app]
    congr 1
    show (if l[pos l i].1 = j then some l[pos l i].2 else get (l.drop (pos l i + 1)) j) = _
    rw [if_neg (by rw [e]; exact fun h => hne h.symm)]
  · rw [if_neg hs, Nat.add_zero, ← get_app, List.take_append_drop]
theorem get_put {l : List (Int × κ)} (hu : UpI l) (i : Int) (k : κ) (j : Int) : get (put l i k) j = if j = i then some k else get l j := by
  obtain ⟨h1, h2, _⟩ := parts hu i
  unfold put
  rw [get_app]
  by_cases hj : j = i
  · subst hj
    rw [if_pos rfl, get_none_gt h1]
    show (none.or (if j = j then some k else _)) = _
    rw [if_pos rfl]
    rfl
  · rw [if_neg hj, get_split hu i j hj]
    congr 1
    show (if i = j then some k else _) = _
    rw [if_neg (fun h => hj h.symm)]
theorem get_drop {l : List (Int × κ)} (hu : UpI l) (i j : Int) : get (drop l i) j = if j = i then none else get l j := by
  obtain ⟨h1, h2, h3⟩ := parts hu i
  by_cases hs : (get l i).isSome = true
  · unfold drop
    rw [if_pos hs] at h2 ⊢
    rw [get_app]
    by_cases hj : j = i
    · subst hj
      rw [if_pos rfl, get_none_gt h1, get_none_lt h2]
      rfl
    · rw [if_neg hj, get_split hu i j hj, if_pos hs]
  · unfold drop
    rw [if_neg hs]
    by_cases hj : j = i
    · subst hj
      rw [if_pos rfl]
      cases h : get l j with
      | none => rfl
      | some k => rw [h] at hs; exact absurd rfl hs
    · rw [if_neg hj]
theorem put_len {l : List (Int × κ)} (hu : UpI l) (i : Int) (k : κ) : (put l i k).length = if (get l i).isSome then l.length else l.length + 1 := by
  obtain ⟨_, _, h3⟩ := parts hu i
  have hle := pos_le l i
  unfold put
  rw [List.length_append, List.length_cons, List.length_take, List.length_drop]
  split
  · rename_i hs
    obtain ⟨h, _⟩ := h3.1 hs
    omega
  · omega
theorem drop_len {l : List (Int × κ)} (hu : UpI l) (i : Int) : (drop l i).length = if (get l i).isSome then l.length - 1 else l.length := by
  obtain ⟨_, _, h3⟩ := parts hu i
  unfold drop
  split
  · rename_i hs
    obtain ⟨h, _⟩ := h3.1 hs
    rw [List.length_append, List.length_take, List.length_drop]
    omega
  · rfl
/-- What is kept behind a drop and a put is what is kept behind the put. -/
theorem put_drop {l : List (Int × κ)} (hu : UpI l) (i : Int) (k : κ) (j : Int) : get (put (drop l i) i k) j = get (put l i k) j := by
  rw [get_put (drop_up hu i), get_put hu, get_drop hu]
  split <;> rfl
/-- Rows of rising numbers that keep the same are the same. -/
theorem get_one : ∀ {l m : List (Int × κ)}, UpI l → UpI m → (∀ i, get l i = get m i) → l = m
  | [], [], _, _, _ => rfl
  | [], y :: m, _, _, h => by have := h y.1; simp [get] at this
  | x :: l, [], _, _, h => by have := h x.1; simp [get] at this
  | x :: l, y :: m, hl, hm, h => by
    obtain ⟨l1, l2⟩ := List.pairwise_cons.1 hl
    obtain ⟨m1, m2⟩ := List.pairwise_cons.1 hm
    have hx : get (y :: m) x.1 = some x.2 := by rw [← h]; simp [get]
    have hy : get (x :: l) y.1 = some y.2 := by rw [h]; simp [get]
    have e : x.1 = y.1 := by
      rcases List.mem_cons.1 (get_mem hx) with e | e
      · exact congrArg Prod.fst e
      · rcases List.mem_cons.1 (get_mem hy) with f | f
        · exact (congrArg Prod.fst f).symm
        · have h1 : y.1 < x.1 := m1 _ e
          have h2 : x.1 < y.1 := l1 _ f
          omega
    have e2 : x.2 = y.2 := by
      have : get (y :: m) x.1 = some y.2 := by rw [e]; simp [get]
      rw [hx] at this
      injection this
    have exy : x = y := Prod.ext e e2
    subst exy
    congr 1
    refine get_one l2 m2 (fun i => ?_)
    by_cases hi : x.1 = i
    · subst hi
      rw [get_none_lt l1, get_none_lt m1]
    · have := h i
      rwa [get_cons, get_cons, if_neg hi, if_neg hi] at this
end
end Go.Proofs.YtlfpfkallgkjdaaGreat.Al
end

section
/- Queries, as they lie in memory. No program. -/
namespace Go.Proofs.YtlfpfkallgkjdaaGreat.Qy
open Go.RowKit Go.Proofs.YtlfpfkallgkjdaaGreat

/-- A query. -/
inductive Q where
  | mk (kind : Int) (name : ByteArray) (words : List ByteArray) (l : List Q)
def Q.kind : Q → Int | .mk k _ _ _ => k
def Q.name : Q → ByteArray | .mk _ n _ _ => n
def Q.words : Q → List ByteArray | .mk _ _ w _ => w
def Q.l : Q → List Q | .mk _ _ _ l => l
theorem Q.ind {p : Q → Prop} (h : ∀ k n ws l, (∀ x ∈ l, p x) → p (.mk k n ws l)) : ∀ q, p q := by
  intro q
  refine Q.rec (motive_1 := p) (motive_2 := fun l => ∀ x ∈ l, p x) (fun k n ws l hl => h k n ws l hl) (by simp) (fun x l hx hl => ?_) q
  intro y hy
  rcases List.mem_cons.1 hy with rfl | hy
  · exact hx
  · exact hl y hy

theorem flat_get {k : Nat} : ∀ {vss : List (List Value)} (_ : ∀ v ∈ vss, v.length = k) (i j : Nat) (hi : i < vss.length) (_ : j < k), vss.flatten[i * k + j]? = (vss[i])[j]?
  | v :: vss, h, 0, j, _, _ => by
    have hv := h v (by simp)
    rw [List.flatten_cons, Nat.zero_mul, Nat.zero_add, List.getElem?_append_left (by omega)]
    rfl
  | v :: vss, h, i + 1, j, hi, hj => by
    have hv := h v (by simp)
    have ih := flat_get (fun x hx => h x (List.mem_cons_of_mem _ hx)) i j (by simpa using hi) hj
    have e : (i + 1) * k + j = v.length + (i * k + j) := by rw [hv, Nat.add_mul, Nat.one_mul]; omega
    rw [List.flatten_cons, e, List.getElem?_append_right (by omega), Nat.add_sub_cancel_left, ih]
    rfl

/-- A query's four cells, and what lies behind them, below block B. -/
inductive QAt (w : World) (B : Nat) : Q → List Value → Prop
  | mk {k : Int} {nm : ByteArray} {ws : List ByteArray} {l : List Q} {A C : Option Addr} {n c m d : Nat} (vss : List (List Value)) (hn : ws.length = n) (hw : Reads w B 1 A n (ws.map Value.string)) (hm : l.length = m) (hv : vss.length = m)
      (h4 : ∀ v ∈ vss, v.length = 4) (hl : Reads w B 4 C m vss.flatten) (kids : ∀ i (h : i < l.length) (h' : i < vss.length), QAt w B l[i] vss[i]) : QAt w B (.mk k nm ws l) [.int .i64 k, .string nm, .slice A n c, .slice C m d]
theorem QAt.keep {w w' : World} {B : Nat} (hk : ∀ b o, b < B → w'.cell? ⟨b, o, none⟩ = w.cell? ⟨b, o, none⟩) {q : Q} {vs : List Value} (h : QAt w B q vs) : QAt w' B q vs := by
  induction h with
  | mk vss hn hw hm hv h4 hl _ ih => exact .mk vss hn (hw.keep hk) hm hv h4 (hl.keep hk) ih
theorem QAt.lower {w w' : World} {B : Nat} {q : Q} {vs : List Value} (h : QAt w B q vs) (hb : Below B w w') : QAt w' B q vs := h.keep fun _ _ hp => hb.cell hp
theorem QAt.more {w : World} {B B' : Nat} {q : Q} {vs : List Value} (h : QAt w B q vs) (hB : B ≤ B') : QAt w B' q vs := by
  induction h with
  | mk vss hn hw hm hv h4 hl _ ih => exact .mk vss hn (hw.more hB) hm hv h4 (hl.more hB) ih
theorem QAt.grow {w w' : World} {q : Q} {vs : List Value} (h : QAt w w.heap.size q vs) (hb : Below w.heap.size w w') : QAt w' w'.heap.size q vs := (h.lower hb).more hb.size
/-- The parts. -/
structure QIs (w : World) (B : Nat) (k : Int) (nm : ByteArray) (ws : List ByteArray) (l : List Q) (A : Option Addr) (n : Nat) (C : Option Addr) (m : Nat) : Prop where
  wn : ws.length = n
  wds : Reads w B 1 A n (ws.map Value.string)
  lm : l.length = m
  kid : ∀ i (h : i < l.length), ∃ b o v, C = some ⟨b, o, none⟩ ∧ b < B ∧ QAt w B l[i] v ∧ ∀ j u, v[j]? = some u → w.cell? ⟨b, o + (i * 4 + j), none⟩ = some u
theorem QAt.is {w : World} {B : Nat} {k : Int} {nm : ByteArray} {ws : List ByteArray} {l : List Q} {vs : List Value} (h : QAt w B (.mk k nm ws l) vs) :
    ∃ A n c C m d, vs = [.int .i64 k, .string nm, .slice A n c, .slice C m d] ∧ QIs w B k nm ws l A n C m := by
  cases h with
  | @mk _ _ _ _ A C n c m d vss hn hw hm hv h4 hl kids =>
    refine ⟨A, n, c, C, m, d, rfl, hn, hw, hm, fun i hi => ?_⟩
    obtain ⟨b, o, e, hb, hc⟩ := hl.2 (by omega)
    have hi' : i < vss.length := by omega
    refine ⟨b, o, vss[i], e, hb, kids i hi hi', fun j u hu => ?_⟩
    have hj : j < 4 := by
      have h1 := (List.getElem?_eq_some_iff.1 hu).1
      rw [h4 _ (List.getElem_mem hi')] at h1
      exact h1
    exact hc _ _ ((flat_get h4 i j hi' hj).trans hu)
theorem QAt.len {w : World} {B : Nat} {q : Q} {vs : List Value} (h : QAt w B q vs) : vs.length = 4 := by cases h; rfl
/-- The cells of the i-th part. -/
theorem QIs.at_ {w : World} {B : Nat} {k : Int} {nm : ByteArray} {ws : List ByteArray} {l : List Q} {A C : Option Addr} {n m : Nat} (h : QIs w B k nm ws l A n C m) {i : Nat} (hi : i < l.length) :
    ∃ b o A' n' c' C' m' d', C = some ⟨b, o, none⟩ ∧ b < B ∧ QAt w B l[i] [.int .i64 l[i].kind, .string l[i].name, .slice A' n' c', .slice C' m' d'] ∧
      w.cell? ⟨b, o + i * 4, none⟩ = some (.int .i64 l[i].kind) ∧ w.cell? ⟨b, o + i * 4 + 1, none⟩ = some (.string l[i].name) ∧ w.cell? ⟨b, o + i * 4 + 2, none⟩ = some (.slice A' n' c') ∧ w.cell? ⟨b, o + i * 4 + 3, none⟩ = some (.slice C' m' d') := by
  obtain ⟨b, o, v, e, hb, hq, hc⟩ := h.kid i hi
  generalize l[i] = q at *
  obtain ⟨k', nm', ws', l'⟩ := q
  obtain ⟨A', n', c', C', m', d', rfl, _⟩ := hq.is
  exact ⟨b, o, A', n', c', C', m', d', e, hb, hq, by simpa [Q.kind] using hc 0 _ rfl, by simpa [Nat.add_assoc, Q.name] using hc 1 _ rfl, by simpa [Nat.add_assoc] using hc 2 _ rfl, by simpa [Nat.add_assoc] using hc 3 _ rfl⟩

/-- Fields of an event, as cells. -/
def fldC (fs : List (ByteArray × ByteArray)) : List Value := fs.flatMap fun f => [.string f.1, .string f.2]
theorem fldC_len (fs : List (ByteArray × ByteArray)) : (fldC fs).length = fs.length * 2 := by
  induction fs with
  | nil => rfl
  | cons f fs ih => simp [fldC] at *; omega
theorem fldC_get : ∀ (fs : List (ByteArray × ByteArray)) (k : Nat) (h : k < fs.length), (fldC fs)[k * 2]? = some (.string fs[k].1) ∧ (fldC fs)[k * 2 + 1]? = some (.string fs[k].2)
  | f :: fs, 0, _ => ⟨rfl, rfl⟩
  | f :: fs, k + 1, h => by
    have ih := fldC_get fs k (by simpa using h)
    have e1 : (k + 1) * 2 = k * 2 + 2 := by omega
    have e2 : (k + 1) * 2 + 1 = (k * 2 + 1) + 2 := by omega
    rw [e2, e1]
    exact ih
theorem fields_at {w : World} {B n : Nat} {A : Option Addr} {fs : List (ByteArray × ByteArray)} (h : Reads w B 2 A n (fldC fs)) {k : Nat} (hk : k < fs.length) :
    ∃ b o, A = some ⟨b, o, none⟩ ∧ b < B ∧ w.cell? ⟨b, o + k * 2, none⟩ = some (.string fs[k].1) ∧ w.cell? ⟨b, o + k * 2 + 1, none⟩ = some (.string fs[k].2) := by
  have hl := h.1
  rw [fldC_len] at hl
  obtain ⟨b, o, e, hb, hc⟩ := h.2 (by omega)
  have g := fldC_get fs k hk
  refine ⟨b, o, e, hb, hc _ _ g.1, ?_⟩
  have := hc _ _ g.2
  rwa [← Nat.add_assoc] at this
theorem fields_len {w : World} {B n : Nat} {A : Option Addr} {fs : List (ByteArray × ByteArray)} (h : Reads w B 2 A n (fldC fs)) : fs.length = n := by
  have := h.1
  rw [fldC_len] at this
  omega
end Go.Proofs.YtlfpfkallgkjdaaGreat.Qy
end

section
/- Kept queries: under which term each is, and which an event is near: plain. (No program in sight.) -/
namespace Go.Proofs.YtlfpfkallgkjdaaGreat.Al
open Go.Proofs.YtlfpfkallgkjdaaGreat Go.Proofs.YtlfpfkallgkjdaaGreat.Qy
set_option linter.unusedVariables false
set_option linter.unusedSimpArgs false

/-- A query that is kept: its text, what it says, the terms that it needs. -/
structure Kp where
  text : ByteArray
  q : Q
  needs : List ByteArray
/-- Its first needed term (empty: there is none). -/
def first (k : Kp) : ByteArray := k.needs.headD ByteArray.empty
/-- Which are under a term. -/
def Und (l : List (Int × Kp)) (s : ByteArray) (i : Int) : Prop := ∃ k, get l i = some k ∧ first k = s
theorem und_put {l : List (Int × Kp)} (hu : UpI l) (i : Int) (k : Kp) (s : ByteArray) (j : Int) : Und (put l i k) s j ↔ (j = i ∧ first k = s) ∨ (j ≠ i ∧ Und l s j) := by
  unfold Und
  rw [get_put hu]
  by_cases h : j = i
  · simp [h]
  · simp [h]
theorem und_drop {l : List (Int × Kp)} (hu : UpI l) (i : Int) (s : ByteArray) (j : Int) : Und (drop l i) s j ↔ j ≠ i ∧ Und l s j := by
  unfold Und
  rw [get_drop hu]
  by_cases h : j = i
  · simp [h]
  · simp [h]
theorem und_nil (s : ByteArray) (j : Int) : ¬ Und [] s j := fun ⟨k, h, _⟩ => by cases h
/-- Has an event all terms that a query needs? T: the event's terms. -/
def nearB (T : ByteArray → Bool) (k : Kp) : Bool := k.needs.all T
/-- The numbers of those that an event is near. -/
def nearL (T : ByteArray → Bool) (l : List (Int × Kp)) : List Int := (l.filter (fun x => nearB T x.2)).map (·.1)
theorem near_first {T : ByteArray → Bool} {k : Kp} (h : nearB T k = true) : first k = ByteArray.empty ∨ T (first k) = true := by
  unfold nearB at h
  unfold first
  cases hn : k.needs with
  | nil => exact .inl rfl
  | cons s t =>
    rw [hn, List.all_cons, Bool.and_eq_true] at h
    exact .inr h.1
theorem nearL_up {T : ByteArray → Bool} {l : List (Int × Kp)} (hu : UpI l) : (nearL T l).Pairwise (· < ·) := by
  unfold nearL
  rw [List.pairwise_map]
  exact hu.sublist List.filter_sublist
theorem nearL_mem {T : ByteArray → Bool} {l : List (Int × Kp)} (hu : UpI l) (i : Int) : i ∈ nearL T l ↔ ∃ k, get l i = some k ∧ nearB T k = true := by
  unfold nearL
  rw [List.mem_map]
  constructor
  · rintro ⟨x, hx, rfl⟩
    obtain ⟨h1, h2⟩ := List.mem_filter.1 hx
    exact ⟨x.2, mem_get hu h1, h2⟩
  · rintro ⟨k, h1, h2⟩
    exact ⟨(i, k), List.mem_filter.2 ⟨get_mem h1, h2⟩, rfl⟩
/-- Numbers in any order, each once, sorted, are the rising row of them. -/
theorem sort_ids {L R : List Int} (hL : L.Nodup) (hR : R.Pairwise (· < ·)) (h : ∀ i, i ∈ L ↔ i ∈ R) : (L.mergeSort fun x y => decide (x ≤ y)) = R := by
  have hp : (L.mergeSort fun x y => decide (x ≤ y)).Perm R := (List.mergeSort_perm _ _).trans ((List.perm_ext_iff_of_nodup hL (hR.imp (fun {x y} h e => by omega))).2 h)
  have hs : (L.mergeSort fun x y => decide (x ≤ y)).Pairwise (fun x y => x ≤ y) :=
    (List.pairwise_mergeSort (le := fun x y : Int => decide (x ≤ y)) (fun a b c h1 h2 => by simp only [decide_eq_true_eq] at *; omega) (fun a b => by simp only [Bool.or_eq_true, decide_eq_true_eq]; omega) L).imp (fun {x y} h => of_decide_eq_true h)
  exact hp.eq_of_pairwise (le := fun x y : Int => x ≤ y) (fun a b _ _ h1 h2 => by omega) hs (hR.imp (fun {x y} h => by omega))
/-- Those that are hit: of those that are near. -/
theorem ask_near (T : ByteArray → Bool) (m : Kp → Bool) (l : List (Int × Kp)) (h : ∀ x ∈ l, m x.2 = true → nearB T x.2 = true) : ((l.filter (fun x => nearB T x.2)).filter (fun x => m x.2)).map (·.1) = (l.filter (fun x => m x.2)).map (·.1) := by
  congr 1
  rw [List.filter_filter]
  refine List.filter_congr (fun x hx => ?_)
  cases hm : m x.2 with
  | false => simp
  | true => simp [h x hx hm]
end Go.Proofs.YtlfpfkallgkjdaaGreat.Al
end

section
/- Plain facts on runes: what stands at a text's head, all runes, a rune's bytes, lower case. No program. -/
namespace Go.Proofs.YtlfpfkallgkjdaaGreat.Ut
open Go.RowKit

def cont (b : UInt8) : Bool := b.toNat / 64 == 2
def acc (n : Nat) (l : List UInt8) : Nat := l.foldl (fun n x => n * 64 + x.toNat % 64) n
theorem acc_nil (n : Nat) : acc n [] = n := rfl
theorem acc_snoc (n : Nat) (l : List UInt8) (x : UInt8) : acc n (l ++ [x]) = acc n l * 64 + x.toNat % 64 := by
  unfold acc; rw [List.foldl_append]; rfl
/-- Is it a rune of that form? -/
def fits (m : Nat) (t : List UInt8) (k lo hi : Nat) : Bool :=
  decide (k - 1 ≤ t.length) && ((t.take (k - 1)).all cont && (decide (lo ≤ acc m (t.take (k - 1))) && (decide (acc m (t.take (k - 1)) ≤ hi) && !(decide (55296 ≤ acc m (t.take (k - 1))) && decide (acc m (t.take (k - 1)) ≤ 57343)))))
def form (m : Nat) (t : List UInt8) (k lo hi : Nat) : Nat × Nat := if fits m t k lo hi then (acc m (t.take (k - 1)), k) else (65533, 1)
/-- The rune at a text's head, and its size. -/
def dec : List UInt8 → Nat × Nat
  | [] => (0, 0)
  | b :: t =>
    if b.toNat < 128 then (b.toNat, 1)
    else if b.toNat / 32 = 6 then form (b.toNat % 32) t 2 128 2047
    else if b.toNat / 16 = 14 then form (b.toNat % 16) t 3 2048 65535
    else if b.toNat / 8 = 30 then form (b.toNat % 8) t 4 65536 1114111
    else (65533, 1)
theorem dec_cons (b : UInt8) (t : List UInt8) : dec (b :: t) =
    if b.toNat < 128 then (b.toNat, 1)
    else if b.toNat / 32 = 6 then form (b.toNat % 32) t 2 128 2047
    else if b.toNat / 16 = 14 then form (b.toNat % 16) t 3 2048 65535
    else if b.toNat / 8 = 30 then form (b.toNat % 8) t 4 65536 1114111
    else (65533, 1) := rfl
theorem form_size (m : Nat) (t : List UInt8) (k lo hi : Nat) (hk : 1 ≤ k) (hk4 : k ≤ 4) : 1 ≤ (form m t k lo hi).2 ∧ (form m t k lo hi).2 ≤ t.length + 1 ∧ (form m t k lo hi).2 ≤ 4 := by
  unfold form
  by_cases h : fits m t k lo hi = true
  · rw [if_pos h]
    simp only [fits, Bool.and_eq_true, decide_eq_true_eq] at h
    have h1 := h.1
    exact ⟨hk, by show k ≤ _; omega, hk4⟩
  · rw [if_neg h]
    exact ⟨Nat.le_refl _, by show 1 ≤ _; omega, by decide⟩
theorem dec_size (l : List UInt8) (h : l ≠ []) : 1 ≤ (dec l).2 ∧ (dec l).2 ≤ l.length ∧ (dec l).2 ≤ 4 := by
  match l, h with
  | b :: t, _ =>
    rw [dec_cons]
    by_cases h1 : b.toNat < 128
    · rw [if_pos h1]; simp
    · rw [if_neg h1]
      by_cases h2 : b.toNat / 32 = 6
      · rw [if_pos h2]; exact form_size _ _ _ _ _ (by omega) (by omega)
      · rw [if_neg h2]
        by_cases h3 : b.toNat / 16 = 14
        · rw [if_pos h3]; exact form_size _ _ _ _ _ (by omega) (by omega)
        · rw [if_neg h3]
          by_cases h4 : b.toNat / 8 = 30
          · rw [if_pos h4]; exact form_size _ _ _ _ _ (by omega) (by omega)
          · rw [if_neg h4]; simp
theorem form_rune (m : Nat) (t : List UInt8) (k lo hi : Nat) (hhi : hi ≤ 1114111) : (form m t k lo hi).1 ≤ 1114111 ∧ ¬ (55296 ≤ (form m t k lo hi).1 ∧ (form m t k lo hi).1 ≤ 57343) := by
  unfold form
  by_cases h : fits m t k lo hi = true
  · rw [if_pos h]
    simp only [fits, Bool.and_eq_true, decide_eq_true_eq, Bool.not_eq_true', Bool.and_eq_false_iff, decide_eq_false_iff_not] at h
    obtain ⟨_, _, _, h4, h5⟩ := h
    refine ⟨by show acc _ _ ≤ _; omega, ?_⟩
    show ¬ (55296 ≤ acc _ _ ∧ acc _ _ ≤ 57343)
    omega
  · rw [if_neg h]; simp
/-- What stands at a text's head is a rune that has bytes. -/
theorem dec_rune (l : List UInt8) : (dec l).1 ≤ 1114111 ∧ ¬ (55296 ≤ (dec l).1 ∧ (dec l).1 ≤ 57343) := by
  match l with
  | [] => simp [dec]
  | b :: t =>
    rw [dec_cons]
    by_cases h1 : b.toNat < 128
    · rw [if_pos h1]; simp; omega
    · rw [if_neg h1]
      by_cases h2 : b.toNat / 32 = 6
      · rw [if_pos h2]; exact form_rune _ _ _ _ _ (by omega)
      · rw [if_neg h2]
        by_cases h3 : b.toNat / 16 = 14
        · rw [if_pos h3]; exact form_rune _ _ _ _ _ (by omega)
        · rw [if_neg h3]
          by_cases h4 : b.toNat / 8 = 30
          · rw [if_pos h4]; exact form_rune _ _ _ _ _ (by omega)
          · rw [if_neg h4]; simp

/-- All runes. -/
def runesF : Nat → List UInt8 → List Nat
  | 0, _ => []
  | n + 1, l => if l = [] then [] else (dec l).1 :: runesF n (l.drop (dec l).2)
def runes (l : List UInt8) : List Nat := runesF l.length l
theorem runesF_eq : ∀ (n m : Nat) (l : List UInt8), l.length ≤ n → l.length ≤ m → runesF n l = runesF m l
  | 0, 0, _, _, _ => rfl
  | 0, m + 1, l, h, _ => by
    have : l = [] := List.eq_nil_of_length_eq_zero (by omega)
    subst this; simp [runesF]
  | n + 1, 0, l, _, h => by
    have : l = [] := List.eq_nil_of_length_eq_zero (by omega)
    subst this; simp [runesF]
  | n + 1, m + 1, l, h1, h2 => by
    unfold runesF
    by_cases h : l = []
    · rw [if_pos h, if_pos h]
    · rw [if_neg h, if_neg h]
      have := dec_size l h
      rw [runesF_eq n m (l.drop (dec l).2) (by rw [List.length_drop]; omega) (by rw [List.length_drop]; omega)]
theorem runes_nil : runes [] = [] := rfl
theorem runes_cons (l : List UInt8) (h : l ≠ []) : runes l = (dec l).1 :: runes (l.drop (dec l).2) := by
  have hs := dec_size l h
  have hl : 0 < l.length := by
    rcases l with _ | ⟨a, t⟩
    · exact absurd rfl h
    · simp
  obtain ⟨n, hn⟩ : ∃ n, l.length = n + 1 := ⟨l.length - 1, by omega⟩
  unfold runes
  rw [hn]
  show (if l = [] then [] else (dec l).1 :: runesF n (l.drop (dec l).2)) = _
  rw [if_neg h, runesF_eq n (l.drop (dec l).2).length _ (by rw [List.length_drop]; omega) (Nat.le_refl _)]
theorem runes_len (l : List UInt8) : (runes l).length ≤ l.length := by
  have key : ∀ (n : Nat) (l : List UInt8), l.length ≤ n → (runesF n l).length ≤ l.length := by
    intro n
    induction n with
    | zero => intro l _; simp [runesF]
    | succ n ih =>
      intro l hl
      unfold runesF
      by_cases h : l = []
      · rw [if_pos h]; simp
      · rw [if_neg h]
        have hs := dec_size l h
        have := ih (l.drop (dec l).2) (by rw [List.length_drop]; omega)
        rw [List.length_drop] at this
        simp only [List.length_cons]
        omega
  exact key _ l (Nat.le_refl _)
/-- Every rune of a text has bytes. -/
def Good (r : Nat) : Prop := r ≤ 1114111 ∧ ¬ (55296 ≤ r ∧ r ≤ 57343)
theorem runes_good (l : List UInt8) : ∀ r ∈ runes l, Good r := by
  have key : ∀ (n : Nat) (l : List UInt8), ∀ r ∈ runesF n l, Good r := by
    intro n
    induction n with
    | zero => intro l r h; simp [runesF] at h
    | succ n ih =>
      intro l r h
      unfold runesF at h
      by_cases he : l = []
      · rw [if_pos he] at h; simp at h
      · rw [if_neg he] at h
        rcases List.mem_cons.1 h with rfl | h
        · exact dec_rune l
        · exact ih _ r h
  exact key _ l

/-- A rune that has no bytes is told as the wrong one. -/
def fix (r : Int) : Nat := if r < 0 ∨ 1114111 < r ∨ (55296 ≤ r ∧ r ≤ 57343) then 65533 else r.toNat
theorem fix_good (r : Int) : Good (fix r) := by
  unfold fix Good
  by_cases h : r < 0 ∨ 1114111 < r ∨ (55296 ≤ r ∧ r ≤ 57343)
  · rw [if_pos h]; omega
  · rw [if_neg h]; omega
theorem fix_of_good (r : Nat) (h : Good r) : fix r = r := by
  unfold fix Good at *
  rw [if_neg (by omega)]; omega
def B (n : Nat) : UInt8 := UInt8.ofNat n
theorem B_toNat (n : Nat) (h : n < 256) : (B n).toNat = n := by
  unfold B; rw [UInt8.toNat_ofNat']; exact Nat.mod_eq_of_lt (by simpa using h)
/-- A rune's bytes. -/
def encN (r : Nat) : List UInt8 :=
  if r < 128 then [B r]
  else if r < 2048 then [B (192 + r / 64), B (128 + r % 64)]
  else if r < 65536 then [B (224 + r / 4096), B (128 + r / 64 % 64), B (128 + r % 64)]
  else [B (240 + r / 262144), B (128 + r / 4096 % 64), B (128 + r / 64 % 64), B (128 + r % 64)]
def enc (r : Int) : List UInt8 := encN (fix r)
def encode (rs : List Int) : List UInt8 := rs.flatMap enc
theorem encode_nil : encode [] = [] := rfl
theorem encode_snoc (rs : List Int) (r : Int) : encode (rs ++ [r]) = encode rs ++ enc r := by simp [encode]
theorem enc_len (r : Int) : 1 ≤ (enc r).length ∧ (enc r).length ≤ 4 := by
  unfold enc encN
  by_cases h1 : fix r < 128
  · rw [if_pos h1]; simp
  · rw [if_neg h1]
    by_cases h2 : fix r < 2048
    · rw [if_pos h2]; simp
    · rw [if_neg h2]
      by_cases h3 : fix r < 65536
      · rw [if_pos h3]; simp
      · rw [if_neg h3]; simp
theorem encode_len (rs : List Int) : (encode rs).length ≤ 4 * rs.length := by
  induction rs with
  | nil => simp [encode]
  | cons r rs ih =>
    have := enc_len r
    have e : encode (r :: rs) = enc r ++ encode rs := by simp [encode]
    rw [e, List.length_append, List.length_cons]
    omega

/-- There and back: what stands at the head of a rune's bytes is the rune. -/
theorem dec_enc (r : Nat) (h : Good r) (t : List UInt8) : dec (encN r ++ t) = (r, (encN r).length) := by
  unfold Good at h
  unfold encN
  by_cases h1 : r < 128
  · rw [if_pos h1]
    simp only [List.cons_append, List.nil_append, dec, B_toNat r (by omega), if_pos h1, List.length_singleton]
  · rw [if_neg h1]
    by_cases h2 : r < 2048
    · rw [if_pos h2]
      simp only [List.cons_append, List.nil_append, dec, B_toNat (192 + r / 64) (by omega)]
      rw [if_neg (by omega), if_pos (by omega)]
      have e1 := B_toNat (128 + r % 64) (by omega)
      have ea : acc ((192 + r / 64) % 32) ((B (128 + r % 64) :: t).take 1) = r := by
        simp only [List.take_succ_cons, List.take_zero, acc, List.foldl_cons, List.foldl_nil, e1]
        omega
      have ef : fits ((192 + r / 64) % 32) (B (128 + r % 64) :: t) 2 128 2047 = true := by
        simp only [fits, show 2 - 1 = 1 from rfl, ea, Bool.and_eq_true, decide_eq_true_eq, Bool.not_eq_true', Bool.and_eq_false_iff, decide_eq_false_iff_not]
        refine ⟨by simp, ?_, by omega, by omega, by omega⟩
        simp only [List.take_succ_cons, List.take_zero, List.all_cons, List.all_nil, Bool.and_true, cont, e1, beq_iff_eq]
        omega
      unfold form
      rw [if_pos ef, show 2 - 1 = 1 from rfl, ea]
      rfl
    · rw [if_neg h2]
      by_cases h3 : r < 65536
      · rw [if_pos h3]
        simp only [List.cons_append, List.nil_append, dec, B_toNat (224 + r / 4096) (by omega)]
        rw [if_neg (by omega), if_neg (by omega), if_pos (by omega)]
        have e1 := B_toNat (128 + r / 64 % 64) (by omega)
        have e2 := B_toNat (128 + r % 64) (by omega)
        have ea : acc ((224 + r / 4096) % 16) ((B (128 + r / 64 % 64) :: B (128 + r % 64) :: t).take 2) = r := by
          simp only [List.take_succ_cons, List.take_zero, acc, List.foldl_cons, List.foldl_nil, e1, e2]
          omega
        have ef : fits ((224 + r / 4096) % 16) (B (128 + r / 64 % 64) :: B (128 + r % 64) :: t) 3 2048 65535 = true := by
          simp only [fits, show 3 - 1 = 2 from rfl, ea, Bool.and_eq_true, decide_eq_true_eq, Bool.not_eq_true', Bool.and_eq_false_iff, decide_eq_false_iff_not]
          refine ⟨by simp, ?_, by omega, by omega, by omega⟩
          simp only [List.take_succ_cons, List.take_zero, List.all_cons, List.all_nil, Bool.and_true, cont, e1, e2, beq_iff_eq, Bool.and_eq_true]
          omega
        unfold form
        rw [if_pos ef, show 3 - 1 = 2 from rfl, ea]
        rfl
      · rw [if_neg h3]
        simp only [List.cons_append, List.nil_append, dec, B_toNat (240 + r / 262144) (by omega)]
        rw [if_neg (by omega), if_neg (by omega), if_neg (by omega), if_pos (by omega)]
        have e1 := B_toNat (128 + r / 4096 % 64) (by omega)
        have e2 := B_toNat (128 + r / 64 % 64) (by omega)
        have e3 := B_toNat (128 + r % 64) (by omega)
        have ea : acc ((240 + r / 262144) % 8) ((B (128 + r / 4096 % 64) :: B (128 + r / 64 % 64) :: B (128 + r % 64) :: t).take 3) = r := by
          simp only [List.take_succ_cons, List.take_zero, acc, List.foldl_cons, List.foldl_nil, e1, e2, e3]
          omega
        have ef : fits ((240 + r / 262144) % 8) (B (128 + r / 4096 % 64) :: B (128 + r / 64 % 64) :: B (128 + r % 64) :: t) 4 65536 1114111 = true := by
          simp only [fits, show 4 - 1 = 3 from rfl, ea, Bool.and_eq_true, decide_eq_true_eq, Bool.not_eq_true', Bool.and_eq_false_iff, decide_eq_false_iff_not]
          refine ⟨by simp, ?_, by omega, by omega, by omega⟩
          simp only [List.take_succ_cons, List.take_zero, List.all_cons, List.all_nil, Bool.and_true, cont, e1, e2, e3, beq_iff_eq, Bool.and_eq_true]
          omega
        unfold form
        rw [if_pos ef, show 4 - 1 = 3 from rfl, ea]
        rfl
theorem encN_ne (r : Nat) : encN r ≠ [] := by
  unfold encN
  by_cases h1 : r < 128
  · rw [if_pos h1]; simp
  · rw [if_neg h1]
    by_cases h2 : r < 2048
    · rw [if_pos h2]; simp
    · rw [if_neg h2]
      by_cases h3 : r < 65536
      · rw [if_pos h3]; simp
      · rw [if_neg h3]; simp
/-- The runes of runes' bytes. -/
theorem runes_encode (rs : List Int) (t : List UInt8) : runes (encode rs ++ t) = rs.map fix ++ runes t := by
  induction rs with
  | nil => rfl
  | cons r rs ih =>
    have e : encode (r :: rs) ++ t = encN (fix r) ++ (encode rs ++ t) := by simp [encode, enc]
    rw [e, runes_cons _ (by simp [encN_ne]), dec_enc _ (fix_good r), List.drop_left, ih]
    rfl

/-- Lower case. -/
def lower (r : Int) : Int :=
  if (65 ≤ r ∧ r ≤ 90) ∨ (192 ≤ r ∧ r ≤ 222 ∧ r ≠ 215) ∨ (913 ≤ r ∧ r ≤ 939 ∧ r ≠ 930) ∨ (1040 ≤ r ∧ r ≤ 1071) then r + 32
  else if 1024 ≤ r ∧ r ≤ 1039 then r + 80 else r
/-- A part of a word. -/
def isWord (r : Int) : Bool :=
  decide ((48 ≤ r ∧ r ≤ 57) ∨ (65 ≤ r ∧ r ≤ 90) ∨ (97 ≤ r ∧ r ≤ 122) ∨ (192 ≤ r ∧ r ≤ 255 ∧ r ≠ 215 ∧ r ≠ 247) ∨ (913 ≤ r ∧ r ≤ 974 ∧ r ≠ 930) ∨ (1024 ≤ r ∧ r ≤ 1119))
theorem lower_lower (r : Int) : lower (lower r) = lower r := by
  unfold lower
  repeat' split
  all_goals omega
theorem lower_good (r : Nat) (h : Good r) : 0 ≤ lower r ∧ Good (lower r).toNat := by
  unfold lower Good at *
  repeat' split
  all_goals omega
theorem lower_word (r : Int) : isWord (lower r) = isWord r := by
  unfold lower isWord
  rw [Bool.eq_iff_iff]
  simp only [decide_eq_true_eq]
  repeat' split
  all_goals omega
def ints (l : List Nat) : List Int := l.map Int.ofNat
/-- A text in lower case. -/
def fold (l : List UInt8) : List UInt8 := encode ((ints (runes l)).map lower)
def valid (l : List UInt8) : Bool := encode (ints (runes l)) == l
theorem fix_ints (l : List Nat) (h : ∀ r ∈ l, Good r) : (ints l).map fix = l := by
  unfold ints
  rw [List.map_map]
  conv => rhs; rw [← List.map_id l]
  exact List.map_congr_left fun r hr => fix_of_good r (h r hr)
theorem fix_lower (l : List Nat) (h : ∀ r ∈ l, Good r) : ((ints l).map lower).map fix = l.map (fun r : Nat => (lower (r : Int)).toNat) := by
  unfold ints
  rw [List.map_map, List.map_map]
  refine List.map_congr_left fun r hr => ?_
  have hg := lower_good r (h r hr)
  show fix (lower (r : Int)) = _
  have := fix_of_good _ hg.2
  rwa [Int.toNat_of_nonneg hg.1] at this
theorem runes_fold (l : List UInt8) : runes (fold l) = (runes l).map (fun r : Nat => (lower (r : Int)).toNat) := by
  have := runes_encode ((ints (runes l)).map lower) []
  rw [List.append_nil, runes_nil, List.append_nil, fix_lower _ (runes_good l)] at this
  exact this
theorem fold_fold (l : List UInt8) : fold (fold l) = fold l := by
  unfold fold
  congr 1
  have e := runes_fold l
  unfold fold at e
  rw [e]
  unfold ints
  rw [List.map_map, List.map_map, List.map_map]
  refine List.map_congr_left fun r hr => ?_
  have hg := lower_good r (runes_good l r hr)
  show lower (Int.ofNat (lower (r : Int)).toNat) = lower (r : Int)
  rw [show Int.ofNat (lower (r : Int)).toNat = lower (r : Int) from Int.toNat_of_nonneg hg.1, lower_lower]
theorem valid_fold (l : List UInt8) : valid (fold l) = true := by
  unfold valid
  rw [beq_iff_eq, runes_fold]
  unfold fold ints
  congr 1
  rw [List.map_map, List.map_map]
  refine List.map_congr_left fun r hr => ?_
  exact Int.toNat_of_nonneg (lower_good r (runes_good l r hr)).1
theorem valid_encode (rs : List Int) : valid (encode rs) = true := by
  have e := runes_encode rs []
  rw [List.append_nil, runes_nil, List.append_nil] at e
  unfold valid
  rw [beq_iff_eq, e]
  unfold encode ints
  clear e
  induction rs with
  | nil => rfl
  | cons r rs ih =>
    rw [List.map_cons, List.map_cons, List.flatMap_cons, List.flatMap_cons, ih]
    congr 1
    show encN (fix (fix r : Nat)) = encN (fix r)
    rw [fix_of_good _ (fix_good r)]
end Go.Proofs.YtlfpfkallgkjdaaGreat.Ut
end
