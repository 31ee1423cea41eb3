/- Where a query matches, each term that it needs is there: the plain law. -/
import Derived.Test.YtjfconddkfihcaaPkMatchTellsRow25
import Derived.Test.YtjfconddkfihcaaTokLPk
namespace Go.Proofs.Ytjfconddkfihcaa.Qy
open Go.RowKit Go.Proofs.Ytjfconddkfihcaa Go.Proofs.Ytjfconddkfihcaa.Ut Go.Proofs.Ytjfconddkfihcaa.Tk

theorem phr_pos (T : List (List UInt8)) (ws : List ByteArray) : 0 < (phr T ws).length ↔ ws ≠ [] ∧ ∃ i, i < T.length ∧ stands T ws i = true := by
  unfold phr
  by_cases h : ws = []
  · rw [if_pos h]; simp [h]
  · rw [if_neg h]
    unfold phrTo
    rw [List.length_pos_iff_exists_mem]
    simp [List.mem_filter, h]
theorem stands_get (T : List (List UInt8)) (ws : List ByteArray) (i j : Nat) (h : stands T ws i = true) (hj : j < ws.length) : T[i + j]? = some ws[j].data.toList := by
  unfold stands at h
  rw [beq_iff_eq] at h
  have e := congrArg (fun l => l[j]?) h
  simp only [List.getElem?_take, if_pos hj, List.getElem?_drop, List.getElem?_map, List.getElem?_eq_getElem hj, Option.map_some] at e
  exact e
theorem stands_one (T : List (List UInt8)) (b : ByteArray) (i : Nat) (h : T[i]? = some b.data.toList) : stands T [b] i = true := by
  obtain ⟨hi, e⟩ := List.getElem?_eq_some_iff.1 h
  unfold stands
  rw [beq_iff_eq]
  have := standsTo_succ T [b] i 0 (by omega) (by simp)
  rw [standsTo_zero] at this
  simp only [Nat.add_zero, List.getElem_cons_zero, Bool.true_and, e, beq_self_eq_true] at this
  unfold standsTo at this
  rw [beq_iff_eq] at this
  simpa using this
theorem phr_one {T : List (List UInt8)} {ws : List ByteArray} {b : ByteArray} (h : 0 < (phr T ws).length) (hb : b ∈ ws) : 0 < (phr T [b]).length := by
  obtain ⟨_, i, hi, hs⟩ := (phr_pos T ws).1 h
  obtain ⟨j, hj, rfl⟩ := List.getElem_of_mem hb
  have hg := stands_get T ws i j hs hj
  exact (phr_pos T _).2 ⟨by simp, i + j, (List.getElem?_eq_some_iff.1 hg).1, stands_one T _ _ hg⟩
/-- What a term's query matches. -/
theorem leaf_one {k : Int} {nm b : ByteArray} {ws : List ByteArray} {fs : List (ByteArray × ByteArray)} (hk : k = 4 ∨ k = 2) (h : leafB k nm ws fs = true) (hb : b ∈ ws) : leafB 2 nm [b] fs = true := by
  unfold leafB at *
  rw [List.any_eq_true] at *
  obtain ⟨f, hf, h⟩ := h
  rw [Bool.and_eq_true] at h
  refine ⟨f, hf, ?_⟩
  rw [Bool.and_eq_true]
  refine ⟨h.1, ?_⟩
  have hp : 0 < (phr (Tk.words f.2.data.toList) ws).length := by
    have h2 := h.2
    unfold leafT at h2
    rcases hk with rfl | rfl
    · simpa using h2
    · simp at h2; exact h2.2
  have := phr_one hp hb
  unfold leafT
  simp [this]
theorem mem_needsIn : ∀ (l : List Q) acc x, x ∈ needsIn acc l ↔ x ∈ acc ∨ ∃ q ∈ l, x ∈ needs q
  | [], acc, x => by simp [needsIn]
  | q :: l, acc, x => by
    rw [needsIn, mem_needsIn l, mem_addL]
    simp [or_assoc]
/-- **Where a query matches, each term that it needs is there.** -/
theorem needs_hit (fs : List (ByteArray × ByteArray)) : ∀ q, matchB fs q = true → ∀ t ∈ needs q, ∃ a b, termOk a b = true ∧ t = termV a b ∧ matchB fs (.mk 2 a [b] []) = true := by
  refine Q.ind (fun k nm ws l ih hm t ht => ?_)
  rw [matchB_eq] at hm
  rw [needs_eq] at ht
  by_cases h : k = 4 ∨ (k = 2 ∧ ws.length = 1)
  · rw [if_pos h] at ht
    have h1 : k ≠ 1 := by omega
    rw [if_neg h1, if_pos (by omega)] at hm
    rw [mem_addL] at ht
    rcases ht with ht | ht
    · cases ht
    · unfold termsL at ht
      obtain ⟨b, hb, ht⟩ := List.mem_flatMap.1 ht
      unfold termL at ht
      by_cases ho : termOk nm b = true
      · rw [if_pos ho] at ht
        refine ⟨nm, b, ho, by simpa using ht, ?_⟩
        rw [matchB_eq]
        have := leaf_one (by omega) hm hb
        simp [this]
      · rw [if_neg ho] at ht; cases ht
  · rw [if_neg h] at ht
    by_cases h5 : k = 5
    · subst h5
      rw [if_pos rfl, mem_needsIn] at ht
      rcases ht with ht | ⟨q, hq, ht⟩
      · cases ht
      · refine ih q hq ?_ t ht
        simp at hm
        exact hm q hq
    · rw [if_neg h5] at ht; cases ht
/-- A term is short. -/
theorem termV_size (a b : ByteArray) (h : termOk a b = true) : (termV a b).size ≤ 65 ∧ b.size ≤ 32 := by
  unfold termOk at h
  rw [Bool.and_eq_true] at h
  have h1 : a.data.toList.length ≤ 32 := by
    have := h.1
    unfold isN at this
    simp only [Bool.and_eq_true, decide_eq_true_eq] at this
    exact this.1.2
  have h2 : b.data.toList.length ≤ 32 := by
    refine Classical.byContradiction fun hc => ?_
    have := isW_len _ (by omega : 32 < b.data.toList.length)
    rw [h.2] at this
    cases this
  refine ⟨?_, by rw [bsize] at h2; exact h2⟩
  unfold termV
  rw [str_size]
  unfold term
  simp only [List.length_append, List.length_cons]
  omega
end Go.Proofs.Ytjfconddkfihcaa.Qy
