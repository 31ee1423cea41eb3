/- Plain facts on rows of buckets. No program. -/
import Derived.Test.YthhklbjhlfejfaaBase
namespace Go.Proofs.Ythhklbjhlfejfaa.Hi
open Go.RowKit

abbrev Bk := Int × Int
/-- The first bucket from k on. -/
def pos (l : List Bk) (k : Int) : Nat := l.findIdx fun x => decide (k ≤ x.1)
theorem pos_le (l : List Bk) (k : Int) : pos l k ≤ l.length := List.findIdx_le_length
theorem pos_lt (l : List Bk) (k : Int) (i : Nat) (h : i < pos l k) : ∃ hl : i < l.length, l[i].1 < k := by
  have hl : i < l.length := Nat.lt_of_lt_of_le h (pos_le l k)
  refine ⟨hl, ?_⟩
  have := List.not_of_lt_findIdx h
  simpa using this
theorem pos_at (l : List Bk) (k : Int) (h : pos l k < l.length) : k ≤ (l[pos l k]'h).1 := by
  have := List.findIdx_getElem (p := fun x : Bk => decide (k ≤ x.1)) (xs := l) (w := h)
  exact of_decide_eq_true this
theorem pos_eq (l : List Bk) (k : Int) (i : Nat) (hi : i ≤ l.length) (h1 : ∀ a (h : a < i), (l[a]'(by omega)).1 < k) (h2 : ∀ h : i < l.length, k ≤ l[i].1) : pos l k = i := by
  rcases Nat.lt_trichotomy (pos l k) i with h | h | h
  · have hp := pos_at l k (by omega)
    have := h1 (pos l k) h
    omega
  · exact h
  · obtain ⟨hl, hlt⟩ := pos_lt l k i h
    have := h2 hl
    omega
/-- Rising. -/
def Up (l : List Bk) : Prop := ∀ i (h : i + 1 < l.length), (l[i]'(by omega)).1 < l[i + 1].1
theorem Up.lt {l : List Bk} (h : Up l) : ∀ (i j : Nat) (hij : i < j) (hj : j < l.length), (l[i]'(by omega)).1 < l[j].1 := by
  intro i j hij
  induction j with
  | zero => omega
  | succ j ih =>
    intro hj
    have h1 := h j hj
    by_cases e : i = j
    · subst e; exact h1
    · have := ih (by omega) (by omega); omega
theorem Up.nil : Up [] := fun i h => by simp at h
def mostN : Int := 1099511627776
/-- A row with n more in a bucket; false: it would have too many. -/
def putF (l : List Bk) (k n : Int) : List Bk × Bool :=
  if pos l k < l.length ∧ (l.getD (pos l k) (0, 0)).1 = k then
    (if mostN < n ∨ mostN - n < (l.getD (pos l k) (0, 0)).2 then ([], false) else (l.set (pos l k) (k, (l.getD (pos l k) (0, 0)).2 + n), true))
  else (l.take (pos l k) ++ (k, n) :: l.drop (pos l k), decide (n ≤ mostN))
/-- Is a row, at a place, that of a bucket? -/
def found (l : List Bk) (k : Int) : Bool := decide (pos l k < l.length) && decide ((l.getD (pos l k) (0, 0)).1 = k)

/-- Buckets, as cells. -/
def bkV (x : Bk) : List Value := [.int .i64 x.1, .int .i64 x.2]
def bkC (l : List Bk) : List Value := l.flatMap bkV
theorem bkC_len (l : List Bk) : (bkC l).length = l.length * 2 := by
  induction l with
  | nil => rfl
  | cons x l ih => simp [bkC, bkV] at *; omega
theorem bkC_app (a b : List Bk) : bkC (a ++ b) = bkC a ++ bkC b := by simp [bkC]
theorem bkC_one : ∀ (l : List Bk), ∀ u ∈ bkC l, u.oneCell' = true := by
  intro l u hu
  simp only [bkC, List.mem_flatMap] at hu
  obtain ⟨x, _, hx⟩ := hu
  simp only [bkV, List.mem_cons, List.not_mem_nil, or_false] at hx
  rcases hx with rfl | rfl <;> rfl
theorem bkC_get : ∀ (l : List Bk) (k : Nat) (h : k < l.length), (bkC l)[k * 2]? = some (.int .i64 l[k].1) ∧ (bkC l)[k * 2 + 1]? = some (.int .i64 l[k].2)
  | x :: l, 0, _ => ⟨rfl, rfl⟩
  | x :: l, k + 1, h => by
    have ih := bkC_get l k (by simpa using h)
    have e1 : (k + 1) * 2 = k * 2 + 2 := by omega
    have e2 : (k + 1) * 2 + 1 = (k * 2 + 1) + 2 := by omega
    rw [e2, e1]
    exact ih
theorem bkC_take (l : List Bk) (k : Nat) : bkC (l.take k) = (bkC l).take (k * 2) := by
  induction l generalizing k with
  | nil => simp [bkC]
  | cons x l ih =>
    cases k with
    | zero => simp [bkC]
    | succ k =>
      have e1 : (k + 1) * 2 = k * 2 + 2 := by omega
      rw [List.take_succ_cons, e1]
      show bkV x ++ bkC (l.take k) = (bkV x ++ bkC l).take (k * 2 + 2)
      rw [ih k, show k * 2 + 2 = (bkV x).length + k * 2 from by simp [bkV]; omega, List.take_length_add_append]
theorem bkC_drop (l : List Bk) (k : Nat) : bkC (l.drop k) = (bkC l).drop (k * 2) := by
  induction l generalizing k with
  | nil => simp [bkC]
  | cons x l ih =>
    cases k with
    | zero => simp [bkC]
    | succ k =>
      have e1 : (k + 1) * 2 = k * 2 + 2 := by omega
      rw [List.drop_succ_cons, e1]
      show bkC (l.drop k) = (bkV x ++ bkC l).drop (k * 2 + 2)
      rw [ih k, show k * 2 + 2 = (bkV x).length + k * 2 from by simp [bkV]; omega, List.drop_length_add_append]
theorem bkC_set (l : List Bk) (k : Nat) (a n : Int) (h : k < l.length) (ha : l[k].1 = a) : (bkC l).set (k * 2 + 1) (.int .i64 n) = bkC (l.set k (a, n)) := by
  induction l generalizing k with
  | nil => simp at h
  | cons x l ih =>
    cases k with
    | zero =>
      simp only [List.getElem_cons_zero] at ha
      subst ha
      simp [bkC, bkV]
    | succ k =>
      have e2 : (k + 1) * 2 + 1 = (k * 2 + 1) + 2 := by omega
      rw [e2]
      show bkV x ++ (bkC l).set (k * 2 + 1) _ = bkV x ++ bkC (l.set k (a, n))
      rw [ih k (by simpa using h) (by simpa using ha)]
/-- The k-th bucket of a row that reads so. -/
theorem bks_at {w : World} {B n : Nat} {A : Option Addr} {l : List Bk} (h : Reads w B 2 A n (bkC l)) (hn : l.length = n) {k : Nat} (hk : k < l.length) :
    ∃ b o, A = some ⟨b, o, none⟩ ∧ b < B ∧ w.cell? ⟨b, o + k * 2, none⟩ = some (.int .i64 l[k].1) ∧ w.cell? ⟨b, o + k * 2 + 1, none⟩ = some (.int .i64 l[k].2) := by
  obtain ⟨b, o, e, hb, hc⟩ := h.2 (by omega)
  have g := bkC_get l k hk
  refine ⟨b, o, e, hb, hc _ _ g.1, ?_⟩
  have := hc _ _ g.2
  rw [← Nat.add_assoc] at this
  exact this
end Go.Proofs.Ythhklbjhlfejfaa.Hi
