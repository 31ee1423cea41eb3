/- Bytes turned within four that follow one another: plain words. -/
import Derived.Test.YtceekocfmbcobaaPkCursorFollowsRow35
namespace Go.Proofs.Ytceekocfmbcobaa.Cu
open Go.RowKit Go.Proofs.Ytceekocfmbcobaa Go.Proofs.Ytceekocfmbcobaa.Cr

/-- The first r bytes behind the k-th, turned. -/
structure Mix (L M : List UInt8) (k r : Nat) (b : List UInt8) : Prop where
  len : M.length = L.length
  at_ : ∀ j, M[j]? = if k ≤ j ∧ j < k + r then (L[j]?).map (fun c => c ^^^ b.getD (j - k) 0) else L[j]?
theorem Mix.start (L : List UInt8) (k : Nat) (b : List UInt8) : Mix L L k 0 b := ⟨rfl, fun j => by rw [if_neg (by omega)]⟩
theorem Mix.step {L M : List UInt8} {k r : Nat} {b : List UInt8} (h : Mix L M k r b) (x : UInt8) (hx : M[k + r]? = some x) : Mix L (M.set (k + r) (x ^^^ b.getD r 0)) k (r + 1) b := by
  refine ⟨by rw [List.length_set, h.len], fun j => ?_⟩
  have hlt : k + r < M.length := (List.getElem?_eq_some_iff.1 hx).1
  rw [List.getElem?_set]
  by_cases e : k + r = j
  · subst e
    have h1 := h.at_ (k + r)
    rw [if_neg (by omega)] at h1
    rw [if_pos rfl, if_pos hlt, if_pos (by omega), ← h1, hx, show k + r - k = r by omega]
    rfl
  · rw [if_neg e, h.at_ j]
    by_cases h1 : k ≤ j ∧ j < k + r
    · rw [if_pos h1, if_pos (by omega)]
    · rw [if_neg h1, if_neg (by omega)]
def tb (b : List UInt8) (r : Nat) : Bool := (b.take r).any fun c => c != 0
theorem tb_succ (b : List UInt8) (r : Nat) (h : r < b.length) : tb b (r + 1) = (tb b r || (b.getD r 0 != 0)) := by
  unfold tb
  rw [List.take_succ_eq_append_getElem h, List.any_append]
  simp [List.getD, List.getElem?_eq_getElem h]
theorem Mix.same {L M : List UInt8} {k r : Nat} {b : List UInt8} (h : Mix L M k r b) (hb : tb b r = false) : M = L := by
  apply List.ext_getElem?
  intro j
  rw [h.at_ j]
  split
  · rename_i hj
    have h0 : b.getD (j - k) 0 = 0 := by
      by_cases hl : j - k < b.length
      · have hm : b[j - k] ∈ b.take r := by
          rw [List.mem_take_iff_getElem]
          exact ⟨j - k, by omega, rfl⟩
        have := List.any_eq_false.1 hb _ hm
        simp only [List.getD, List.getElem?_eq_getElem hl, Option.getD_some]
        simpa using this
      · simp [List.getD, List.getElem?_eq_none (by omega : b.length ≤ j - k)]
    rw [h0]
    cases L[j]? <;> simp
  · rfl
theorem xor_ne {a c : UInt8} (h : c ≠ 0) : a ^^^ c ≠ a := by
  intro e
  apply h
  have : a ^^^ (a ^^^ c) = a ^^^ a := by rw [e]
  rwa [← UInt8.xor_assoc, UInt8.xor_self, UInt8.zero_xor] at this
/-- Bytes of a cursor that are turned are no cursor's. -/
theorem Mix.turned {L M : List UInt8} {k r : Nat} {b : List UInt8} (h : Mix L M k r b) (hb : tb b r = true) (h4 : r ≤ 4) (hk : k + r ≤ L.length) {n n' : Nat} {q q' : List UInt8} (hL : L = enc n q) (hM : M = enc n' q') : False := by
  have e1 : L.take k = M.take k := by
    apply List.ext_getElem?
    intro j
    rw [List.getElem?_take, List.getElem?_take]
    split
    · rw [h.at_ j, if_neg (by omega)]
    · rfl
  have e2 : L.drop (k + r) = M.drop (k + r) := by
    apply List.ext_getElem?
    intro j
    rw [List.getElem?_drop, List.getElem?_drop, h.at_, if_neg (by omega)]
  have f1 : L.take k ++ (L.drop k).take r ++ L.drop (k + r) = L := by
    rw [List.append_assoc, ← List.drop_drop, List.take_append_drop, List.take_append_drop]
  have f2 : L.take k ++ (M.drop k).take r ++ L.drop (k + r) = M := by
    rw [e1, e2, List.append_assoc, ← List.drop_drop, List.take_append_drop, List.take_append_drop]
  have e3 := enc_turned (f1.trans hL) (f2.trans hM) (by rw [List.length_take, List.length_take, List.length_drop, List.length_drop, h.len]) (by rw [List.length_take]; omega)
  obtain ⟨c, hc, hcn⟩ := List.any_eq_true.1 hb
  obtain ⟨i, hi, rfl⟩ := List.mem_take_iff_getElem.1 hc
  have hir : i < r := by omega
  have g1 : ((L.drop k).take r)[i]? = ((M.drop k).take r)[i]? := by rw [e3]
  have hM2 : M[k + i]? = (L[k + i]?).map (fun c => c ^^^ b[i]) := by
    rw [h.at_, if_pos ⟨by omega, by omega⟩, show k + i - k = i by omega]
    simp [List.getD, List.getElem?_eq_getElem (show i < b.length by omega)]
  rw [List.getElem?_take, List.getElem?_take, if_pos hir, List.getElem?_drop, List.getElem?_drop, hM2, List.getElem?_eq_getElem (by omega)] at g1
  simp only [if_pos hir, Option.map_some, Option.some.injEq] at g1
  exact xor_ne (by simpa using hcn) g1.symm
end Go.Proofs.Ytceekocfmbcobaa.Cu
