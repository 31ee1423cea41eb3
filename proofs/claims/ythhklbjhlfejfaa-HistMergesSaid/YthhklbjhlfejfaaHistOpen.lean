/- A row of buckets that came in, opened. -/
import Derived.Test.YthhklbjhlfejfaaOpen
import Derived.Test.YthhklbjhlfejfaaHistP
import Derived.Deep.SlicePairs
namespace Go.Proofs.Ythhklbjhlfejfaa.Hi
open Go.RowKit Go.ChangeShapes Go.WideShapes Go.ChangeAt Go.Deep
section
variable {H : Type} {enc : TypeId × Value → H} {P : Program} {W : World} {base : Nat} {t e : TypeId} {v : Value} {d : DataW H} {p : List MemPlace} {f0 f1 : Field}
theorem bks_in2 (ht : P.underlying t = some (.slice e)) (he : P.underlying e = some (.struct #[f0, f1])) (ce : P.cellsOf e = 2) (o0 : f0.offset = 0) (o1 : f1.offset = 1) (c0 : P.cellsOf f0.type = 1) (c1 : P.cellsOf f1.type = 1)
    (i0 : P.underlying f0.type = some (.int .i64)) (i1 : P.underlying f1.type = some (.int .i64)) (hv : Value.okWide P W .any base t v) (h : DataW.Trod enc P W 0 (fun _ => true) true t v d p) :
    ∃ (A : Option Addr) (cap : Nat) (l : List Bk), v = .slice A l.length cap ∧ Reads W W.heap.size 2 A l.length (bkC l) ∧ (∀ b ∈ l, (Lit.int .i64 b.1).wf = true ∧ (Lit.int .i64 b.2).wf = true) ∧ l.length ≤ cap ∧ (A = none → cap = 0) := by
  obtain ⟨A, len, cap, rfl⟩ := okWide_slice ht hv
  obtain ⟨fuel, hf⟩ := h
  rcases open_slice_pairs ht he ce o0 o1 c0 c1 hf with ⟨hcs, _⟩ | ⟨a, l, c, m, n, V0, V1, D0, D1, P0, P1, hcs, _, hl, hm, hmm, hx, hcell⟩
  · simp [Value.cells] at hcs
    obtain ⟨rfl, rfl, rfl⟩ := hcs
    exact ⟨none, 0, [], rfl, Reads.none_, by simp, by simp, fun _ => rfl⟩
  · simp [Value.cells] at hcs
    obtain ⟨rfl, rfl, rfl⟩ := hcs
    have hlm : len ≤ m := by rw [hmm]; split <;> omega
    have each : ∀ i : Nat, ∃ q : Bk, i < len → W.cell? (a.add (i * 2)) = some (.int .i64 q.1) ∧ W.cell? (a.add (i * 2 + 1)) = some (.int .i64 q.2) ∧ (Lit.int .i64 q.1).wf = true ∧ (Lit.int .i64 q.2).wf = true := fun i => by
      by_cases hi : i < len
      · obtain ⟨h0, h1, t0, t1⟩ := hcell i (by omega)
        obtain ⟨x, hx0, _, wx⟩ := DataW.trod_int i0 t0
        obtain ⟨y, hy0, _, wy⟩ := DataW.trod_int i1 t1
        simp only [List.cons.injEq, and_true] at hx0 hy0
        rw [hx0] at h0
        rw [hy0] at h1
        exact ⟨(x, y), fun _ => ⟨h0, h1, wx, wy⟩⟩
      · exact ⟨(0, 0), fun h => absurd h hi⟩
    obtain ⟨f, hf'⟩ := Classical.skolem.1 each
    have hlen : ((List.range len).map f).length = len := by simp
    refine ⟨some a, cap, (List.range len).map f, by rw [hlen], ?_, fun b hb => ?_, by rw [hlen]; exact hl, fun h => by cases h⟩
    · rw [hlen]
      refine ⟨by rw [bkC_len, hlen], fun hn => ?_⟩
      obtain ⟨b, o, sp⟩ := a
      have h0 := (hf' 0 hn).1
      have hsp : sp = none := by simpa [Addr.add] using World.cell?_spot h0
      subst hsp
      have hadd : ∀ j, (⟨b, o, none⟩ : Addr).add j = ⟨b, o + j, none⟩ := fun j => by unfold Addr.add; split <;> simp_all
      have hbl : b < W.heap.size := World.block_lt_of_cell? W _ (by rw [hadd] at h0; exact h0)
      refine ⟨b, o, rfl, hbl, fun j u hu => ?_⟩
      have hj : j < len * 2 := by
        have := (List.getElem?_eq_some_iff.1 hu).1
        rw [bkC_len, hlen] at this
        exact this
      have hi : j / 2 < ((List.range len).map f).length := by rw [hlen]; omega
      have hg := bkC_get _ _ hi
      have hfi := hf' (j / 2) (by omega)
      have hget : ((List.range len).map f)[j / 2]'hi = f (j / 2) := by simp
      rw [hget] at hg
      rw [hadd, hadd] at hfi
      rcases Nat.mod_two_eq_zero_or_one j with e0 | e1
      · have e : j = j / 2 * 2 := by omega
        rw [e] at hu ⊢
        rw [hg.1] at hu
        rw [← hu]
        exact hfi.1
      · have e : j = j / 2 * 2 + 1 := by omega
        rw [e] at hu ⊢
        rw [hg.2] at hu
        rw [← hu]
        exact hfi.2.1
    · obtain ⟨i, hi, rfl⟩ := List.mem_map.1 hb
      have := hf' i (by simpa using hi)
      exact this.2.2
theorem bks_in (ht : P.underlying t = some (.slice e)) (he : P.underlying e = some (.struct #[f0, f1])) (ce : P.cellsOf e = 2) (o0 : f0.offset = 0) (o1 : f1.offset = 1) (c0 : P.cellsOf f0.type = 1) (c1 : P.cellsOf f1.type = 1)
    (i0 : P.underlying f0.type = some (.int .i64)) (i1 : P.underlying f1.type = some (.int .i64)) (hv : Value.okWide P W .any base t v) (h : DataW.Trod enc P W 0 (fun _ => true) true t v d p) :
    ∃ (A : Option Addr) (cap : Nat) (l : List Bk), v = .slice A l.length cap ∧ Reads W W.heap.size 2 A l.length (bkC l) ∧ (∀ b ∈ l, (Lit.int .i64 b.1).wf = true ∧ (Lit.int .i64 b.2).wf = true) ∧ l.length ≤ cap := by
  obtain ⟨A, cap, l, e, R, W, C, _⟩ := bks_in2 ht he ce o0 o1 c0 c1 i0 i1 hv h
  exact ⟨A, cap, l, e, R, W, C⟩
end
end Go.Proofs.Ythhklbjhlfejfaa.Hi
