/- A row of ints that came in; nil has no room. -/
import Derived.Test.YthhklbjhlfejfaaOpen
namespace Go.Proofs.Ythhklbjhlfejfaa
open Go.RowKit Go.ChangeShapes Go.WideShapes Go.ChangeAt
section
variable {H : Type} {enc : TypeId × Value → H} {P : Program} {W : World} {base : Nat} {t e : TypeId} {v : Value} {d : DataW H} {p : List MemPlace}
theorem ints_in2 {k : IntKind} {by_ : Nat} (ht : P.underlying t = some (.slice e)) (he : P.underlying e = some (.int k)) (hc : P.cellsOf e = 1) (hb : P.bytesOf e = by_) (hv : Value.okWide P W .any base t v)
    (h : DataW.Trod enc P W 0 (fun _ => true) true t v d p) (hw : ∀ n ∈ d.weights P t, n ≤ 140737488351232) :
    ∃ (A : Option Addr) (len cap : Nat) (zs : List Int), v = .slice A len cap ∧ Reads W W.heap.size 1 A len (zs.map (Value.int k)) ∧ (∀ n ∈ zs, (Lit.int k n).wf = true) ∧ len * by_ ≤ 140737488351232 ∧ zs.length = len ∧ len ≤ cap ∧ (A = none → cap = 0) := by
  obtain ⟨A, len, cap, rfl⟩ := okWide_slice ht hv
  obtain ⟨fuel, hf⟩ := h
  rcases open_ints ht he hc hf with ⟨hcs, _⟩ | ⟨a, l, c, zs, hcs, _, hl, hm, hz, hx, hcell, hwz⟩
  · simp [Value.cells] at hcs
    obtain ⟨rfl, rfl, rfl⟩ := hcs
    exact ⟨_, _, _, [], rfl, Reads.none_, by simp, by omega, rfl, by omega, fun _ => rfl⟩
  · simp [Value.cells] at hcs
    obtain ⟨rfl, rfl, rfl⟩ := hcs
    simp only [Prod.mk.injEq] at hx
    have hd : d = .slice (lits k (zs.take len)) (lits k (zs.drop len)) := hx.1
    subst hd
    have hlen : zs.length = cap := by simpa using hz
    have h1 := hw ((zs.take len).length * by_ + (zs.drop len).length * by_) (by
      simp only [DataW.weights, ht, lits, List.length_map, hb, ← Nat.add_mul]
      exact List.mem_cons_self)
    have hle : len * by_ ≤ 140737488351232 := by
      rw [List.length_take, Nat.min_eq_left (by omega)] at h1; omega
    refine ⟨_, _, _, zs.take len, rfl, ?_, fun n hn => hwz n (List.mem_of_mem_take hn), hle, by rw [List.length_take]; omega, by omega, fun h => by cases h⟩
    rw [← range_map_getD zs 0 len (by omega), List.map_map]
    by_cases h0 : 0 < len
    · exact Reads.of_in rfl (World.block_lt_of_cell? W _ (by simpa [Addr.add] using hcell 0 (by omega))) (fun i hi => hcell i (by omega))
    · obtain rfl : len = 0 := by omega
      exact Reads.none_
end
end Go.Proofs.Ythhklbjhlfejfaa
