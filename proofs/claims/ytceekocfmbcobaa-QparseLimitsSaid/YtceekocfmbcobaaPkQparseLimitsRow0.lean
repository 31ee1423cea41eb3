/- Long texts, queries of many parts, deep ones: plain. -/
import Derived.Test.YtceekocfmbcobaaQpZaPk
import Derived.Test.YtceekocfmbcobaaPkQparseReadsRow36
section
namespace Go.Proofs.Ytceekocfmbcobaa.Qp
open Go.RowKit Go.Proofs.Ytceekocfmbcobaa Go.Proofs.Ytceekocfmbcobaa.Ut Go.Proofs.Ytceekocfmbcobaa.Tk Go.Proofs.Ytceekocfmbcobaa.Qy

/-- 'NOT ' so many times. -/
def nots (k : Nat) : P := (List.replicate k ([78, 79, 84, 32] : P)).flatten
theorem nots_snoc (k : Nat) : nots (k + 1) = nots k ++ [78, 79, 84, 32] := by
  unfold nots; rw [List.replicate_succ', List.flatten_append]; simp
theorem nots_cons (k : Nat) : nots (k + 1) = 78 :: 79 :: 84 :: 32 :: nots k := by
  unfold nots; rw [List.replicate_succ, List.flatten_cons]; rfl
theorem nots_len (k : Nat) : (nots k).length = 4 * k := by
  induction k with
  | zero => rfl
  | succ k ih => rw [nots_snoc, List.length_append, ih]; show 4 * k + 4 = _; omega
theorem nots_pcs (k : Nat) : pieces (nots k ++ [97]) = some (List.replicate k NOT ++ [[97]]) := by
  induction k with
  | zero => decide
  | succ k ih => rw [nots_cons, List.cons_append, List.cons_append, List.cons_append, List.cons_append, pieces_not, ih]; rfl
def nq : Nat → Q
  | 0 => tq 97
  | k + 1 => notQ (nq k)
theorem nq_part (k : Nat) : R .part (List.replicate k NOT ++ [[97]]) (some (nq k, [])) := by
  induction k with
  | zero => exact part_a 97 _ _ (by decide) lf97
  | succ k ih => rw [List.replicate_succ]; exact R.pnot rfl ih
theorem nq_deep (k : Nat) : depthN (nq k) = k + 1 := by
  induction k with
  | zero => simp [nq, tq, depthN_eq, depthL]
  | succ k ih => rw [nq, notQ, depthN_eq, depthL, depthL, ih]; omega
theorem nq_many (k : Nat) : manyB (nq k) = false := by
  induction k with
  | zero => simp [nq, tq, manyB_eq, manyL]
  | succ k ih => rw [nq, notQ, manyB_eq, manyL, manyL, ih]; rfl
theorem deep_prs (k : Nat) (hk : k < 40) : ∃ e o, PrsR (nots k ++ [97]) e o ∧ ((e = 0 ∧ k < 16) ∨ (e = 171 ∧ ¬ k < 16)) := by
  have hl : (nots k ++ [97]).length ≤ 1024 := by rw [List.length_append, nots_len]; show 4 * k + 1 ≤ _; omega
  have hr : R (.or []) (List.replicate k NOT ++ [[97]]) (some (nq k, [])) := .or1 (.and1 (nq_part k) (.andE rfl)) (.orE (by simp))
  by_cases h : k < 16
  · exact ⟨0, _, .ok hl (nots_pcs k) hr (nq_many k) (by rw [nq_deep]; omega), .inl ⟨rfl, h⟩⟩
  · exact ⟨171, _, .deep hl (nots_pcs k) hr (nq_many k) (by rw [nq_deep]; omega), .inr ⟨rfl, h⟩⟩
/-- ' OR b' so many times. -/
def ors (k : Nat) : P := (List.replicate k ([32, 79, 82, 32, 98] : P)).flatten
theorem ors_snoc (k : Nat) : ors (k + 1) = ors k ++ [32, 79, 82, 32, 98] := by
  unfold ors; rw [List.replicate_succ', List.flatten_append]; simp
theorem ors_cons (k : Nat) : ors (k + 1) = 32 :: 79 :: 82 :: 32 :: 98 :: ors k := by
  unfold ors; rw [List.replicate_succ, List.flatten_cons]; rfl
theorem ors_len (k : Nat) : (ors k).length = 5 * k := by
  induction k with
  | zero => rfl
  | succ k ih => rw [ors_snoc, List.length_append, ih]; show 5 * k + 5 = _; omega
def orsL : Nat → List P
  | 0 => []
  | k + 1 => OR :: [98] :: orsL k
theorem ors_pcs : ∀ (k : Nat) (c : UInt8), Whole [c] → pieces [c] = some [[c]] → pieces (c :: ors k) = some ([c] :: orsL k)
  | 0, _, _, h => h
  | k + 1, c, hw, h => by
    have := pieces_one [c] hw 32 (79 :: 82 :: 32 :: 98 :: ors k) (by decide) (by decide)
    rw [pieces_sp, pieces_or, ors_pcs k 98 (pieces_whole 1 [98] [[98]] (by decide) (by decide) [98] (by simp)) (by decide)] at this
    rw [ors_cons]
    exact this
theorem orsL_stops (k : Nat) : stops (orsL k) = true := by cases k <;> rfl
theorem ors_rd : ∀ (k : Nat) (a : List Q), R (.orT a) (orsL k) (some (oneQ 6 (a ++ List.replicate k (tq 98)), []))
  | 0, a => by rw [List.replicate_zero, List.append_nil]; exact .orE (by simp [orsL])
  | k + 1, a => by
    have := ors_rd k (a ++ [tq 98])
    rw [List.append_assoc] at this
    rw [List.replicate_succ]
    exact .orO rfl (.or1 (.and1 (part_a 98 _ _ (by decide) lf98) (.andE (orsL_stops k))) this)
theorem manyL_rep (k : Nat) : manyL (List.replicate k (tq 98)) = false := by
  induction k with
  | zero => rfl
  | succ k ih => rw [List.replicate_succ, manyL, ih]; simp [tq, manyB_eq, manyL]
theorem depthL_rep (k : Nat) : depthL (List.replicate k (tq 98)) ≤ 1 := by
  induction k with
  | zero => exact Nat.zero_le _
  | succ k ih =>
    have h1 : depthN (tq 98) = 1 := by simp [tq, depthN_eq, depthL]
    rw [List.replicate_succ, depthL, h1]; omega
theorem many_prs (j : Nat) (hj : j < 50) : ∃ e o, PrsR (97 :: ors j) e o ∧ ((e = 0 ∧ j < 32) ∨ (e = 3 ∧ ¬ j < 32)) := by
  have hl : (97 :: ors j).length ≤ 1024 := by rw [List.length_cons, ors_len]; omega
  have hp := ors_pcs j 97 (pieces_whole 1 [97] [[97]] (by decide) (by decide) [97] (by simp)) (by decide)
  have hr : R (.or []) ([97] :: orsL j) (some (oneQ 6 (tq 97 :: List.replicate j (tq 98)), [])) := .or1 (.and1 (part_a 97 _ _ (by decide) lf97) (.andE (orsL_stops j))) (ors_rd j [tq 97])
  have h97 : manyB (tq 97) = false := by simp [tq, manyB_eq, manyL]
  have d97 : depthN (tq 97) = 1 := by simp [tq, depthN_eq, depthL]
  cases j with
  | zero => exact ⟨0, _, .ok hl hp hr h97 (by show depthN (tq 97) ≤ 16; rw [d97]; decide), .inl ⟨rfl, by decide⟩⟩
  | succ j =>
    have e : oneQ 6 (tq 97 :: List.replicate (j + 1) (tq 98)) = .mk 6 ByteArray.empty [] (tq 97 :: List.replicate (j + 1) (tq 98)) := rfl
    rw [e] at hr
    by_cases h : j + 1 < 32
    · refine ⟨0, _, .ok hl hp hr ?_ ?_, .inl ⟨rfl, h⟩⟩
      · rw [manyB_eq, manyL, manyL_rep, h97, decide_eq_false (by rw [List.length_cons, List.length_replicate]; omega)]; rfl
      · have := depthL_rep (j + 1)
        rw [depthN_eq, depthL, d97]; omega
    · refine ⟨3, _, .many hl hp hr ?_, .inr ⟨rfl, h⟩⟩
      rw [manyB_eq, decide_eq_true (by rw [List.length_cons, List.length_replicate]; omega)]; rfl
end Go.Proofs.Ytceekocfmbcobaa.Qp
end

section
/- Long texts: plain. -/
namespace Go.Proofs.Ytceekocfmbcobaa.Qp
open Go.RowKit Go.Proofs.Ytceekocfmbcobaa Go.Proofs.Ytceekocfmbcobaa.Ut Go.Proofs.Ytceekocfmbcobaa.Tk Go.Proofs.Ytceekocfmbcobaa.Qy
set_option maxRecDepth 20000

def aN (n : Nat) : P := List.replicate n 97
theorem aN_words : words (aN 1024) = [aN 32] := by decide +kernel
theorem aN_pcs : pieces (aN 1024) = some [aN 1024] := by decide +kernel
def lq : Q := .mk 2 (str msg) [str (aN 32)] []
theorem aN_name : named (aN 1024) = false := by decide +kernel
theorem aN_leaf : leafQ (aN 1024) = some lq := by
  have e1 : nameOf (aN 1024) = msg := by unfold nameOf; rw [aN_name]; rfl
  have e2 : restOf (aN 1024) = aN 1024 := by unfold restOf; rw [aN_name]; rfl
  have e3 : aN 1024 ≠ [42] := by decide +kernel
  have e4 : aN 1024 ≠ [] := by decide +kernel
  have e5 : (aN 1024).head? ≠ some 34 := by decide +kernel
  have e6 : (aN 1024).getLast? ≠ some 42 := by decide +kernel
  unfold leafQ
  rw [e1, e2, if_neg e3, if_neg (by
    rintro (h | h)
    · exact absurd h (by decide)
    · exact e4 h), if_neg e5, if_neg e6, aN_words]
  rfl
theorem aN_word1 : word1 (aN 1024) = true := by decide +kernel
theorem long_prs (n : Nat) (hn : n < 3) : ∃ e o, PrsR (aN (1024 + n)) e o ∧ ((e = 0 ∧ o = some lq ∧ n = 0) ∨ (e = 2 ∧ o = none ∧ 0 < n)) := by
  by_cases h : n = 0
  · subst h
    have hl : R .part [aN 1024] (some (lq, [])) := by
      have := R.pleaf (t := []) aN_word1
      rw [aN_leaf] at this
      exact this
    exact ⟨0, _, .ok (by rw [aN, List.length_replicate]; decide) aN_pcs (.or1 (.and1 hl (.andE rfl)) (.orE (by simp))) (by simp [lq, manyB_eq, manyL, oneQ]) (by simp [lq, depthN_eq, depthL, oneQ]), .inl ⟨rfl, rfl, rfl⟩⟩
  · exact ⟨2, none, .long (by rw [aN, List.length_replicate]; omega), .inr ⟨rfl, rfl, by omega⟩⟩
end Go.Proofs.Ytceekocfmbcobaa.Qp
end
