/- Arguments that came in, opened to what the walks ask. -/
import Derived.Test.YtambdddahbgelaaBase
import Derived.ProofKit
import Derived.OpenShut
import Derived.ShutString
import Derived.ChangeOld
import Derived.SliceStrings
import Derived.SizedLaws
namespace Go.Proofs.Ytambdddahbgelaa
open Go.RowKit Go.ChangeShapes Go.WideShapes Go.ChangeAt
section
variable {H : Type} {enc : TypeId × Value → H} {P : Program} {W : World} {base : Nat} {t e : TypeId} {v : Value} {d : DataW H} {p : List MemPlace}

theorem weights_le {ts : List TypeId} {ds : List (DataW H)} (h : (DataW.weightsEach P ts ds).all (· ≤ reachBytes) = true) {j : Nat} (ht : ts[j]? = some t) (hd : ds[j]? = some d) : ∀ n ∈ d.weights P t, n ≤ 140737488351232 := by
  intro n hn
  have := List.all_eq_true.1 h _ (DataW.weights_mem_each ht hd n hn)
  have e : reachBytes = 140737488351232 := by decide
  rw [← e]
  simpa using this

theorem weightsAll_mem {e : TypeId} {y : DataW H} : ∀ {l : List (DataW H)}, y ∈ l → ∀ n ∈ y.weights P e, n ∈ DataW.weightsAll P e l
  | [], h, _, _ => by cases h
  | x :: l, h, n, hn => by
    simp only [DataW.weightsAll, List.mem_append]
    rcases List.mem_cons.1 h with rfl | h
    · exact Or.inl hn
    · exact Or.inr (weightsAll_mem h n hn)

theorem range_map_getD {α : Type} (l : List α) (x : α) (n : Nat) (h : n ≤ l.length) : (List.range n).map (fun i => l.getD i x) = l.take n := by
  apply List.ext_getElem
  · simp; omega
  · intro i h1 h2
    simp at h1
    simp [List.getD_eq_getElem?_getD, List.getElem?_eq_getElem (show i < l.length by omega)]

/-- A string. -/
theorem str_in (ht : P.underlying t = some .string) (hv : Value.okWide P W .any base t v) (h : DataW.Trod enc P W 0 (fun _ => true) true t v d p) (hw : ∀ n ∈ d.weights P t, n ≤ 140737488351232) :
    ∃ s, v = .string s ∧ s.size ≤ 140737488351232 := by
  obtain ⟨s, rfl, rfl, rfl, hs⟩ := Go.ChangeMaps.open_string ht hv h
  refine ⟨s, rfl, ?_⟩
  have := hw s.data.toList.length (by simp [DataW.weights])
  rwa [bsize] at this

/-- A slice of strings. -/
theorem strs_in (ht : P.underlying t = some (.slice e)) (he : P.underlying e = some .string) (hc : P.cellsOf e = 1) (hb16 : P.bytesOf e = 16) (hv : Value.okWide P W .any base t v)
    (h : DataW.Trod enc P W 0 (fun _ => true) true t v d p) (hw : ∀ n ∈ d.weights P t, n ≤ 140737488351232) :
    ∃ (A : Option Addr) (len cap : Nat) (ss : List ByteArray), v = .slice A len cap ∧ Reads W W.heap.size 1 A len (ss.map Value.string) ∧ (∀ s ∈ ss, s.size ≤ 140737488351232) ∧ len ≤ 8796093021952 ∧ len ≤ cap := by
  obtain ⟨A, len, cap, rfl⟩ := okWide_slice ht hv
  obtain ⟨fuel, hf⟩ := h
  rcases open_strings ht he hc hf with ⟨hcs, _⟩ | ⟨a, l, c, ss, hcs, _, hl, hm, hz, hx, hcell, hws⟩
  · simp [Value.cells] at hcs
    obtain ⟨rfl, rfl, rfl⟩ := hcs
    exact ⟨_, _, _, [], rfl, Reads.none_, by simp, by omega, by omega⟩
  · simp [Value.cells] at hcs
    obtain ⟨rfl, rfl, rfl⟩ := hcs
    simp only [Prod.mk.injEq] at hx
    have hd : d = .slice (strs (ss.take len)) (strs (ss.drop len)) := hx.1
    subst hd
    have hlen : ss.length = cap := by simpa using hz
    have h1 := hw ((ss.take len).length * 16 + (ss.drop len).length * 16) (by
      simp only [DataW.weights, ht, strs, List.length_map, hb16, ← Nat.add_mul]
      exact List.mem_cons_self)
    have hle : len ≤ 8796093021952 := by
      rw [List.length_take, List.length_drop] at h1; omega
    refine ⟨_, _, _, ss.take len, rfl, ?_, ?_, hle, by omega⟩
    · rw [← range_map_getD ss ByteArray.empty len (by omega), List.map_map]
      by_cases h0 : 0 < len
      · exact Reads.of_in rfl (World.block_lt_of_cell? W _ (by simpa [Addr.add] using hcell 0 (by omega))) (fun i hi => hcell i (by omega))
      · obtain rfl : len = 0 := by omega
        exact Reads.none_
    · intro s hs
      have hm : (.lit (.string s.data.toList) : DataW H) ∈ strs (ss.take len) := List.mem_map.2 ⟨s, hs, rfl⟩
      have := hw s.data.toList.length (by
        simp only [DataW.weights, ht]
        exact List.mem_cons_of_mem _ (List.mem_append_left _ (weightsAll_mem hm _ (by simp [DataW.weights]))))
      rwa [bsize] at this

/-- A slice of integers of one kind. -/
theorem ints_in {k : IntKind} {by_ : Nat} (ht : P.underlying t = some (.slice e)) (he : P.underlying e = some (.int k)) (hc : P.cellsOf e = 1) (hb : P.bytesOf e = by_) (hv : Value.okWide P W .any base t v)
    (h : DataW.Trod enc P W 0 (fun _ => true) true t v d p) (hw : ∀ n ∈ d.weights P t, n ≤ 140737488351232) :
    ∃ (A : Option Addr) (len cap : Nat) (zs : List Int), v = .slice A len cap ∧ Reads W W.heap.size 1 A len (zs.map (Value.int k)) ∧ (∀ n ∈ zs, (Lit.int k n).wf = true) ∧ len * by_ ≤ 140737488351232 ∧ zs.length = len ∧ len ≤ cap := by
  obtain ⟨A, len, cap, rfl⟩ := okWide_slice ht hv
  obtain ⟨fuel, hf⟩ := h
  rcases open_ints ht he hc hf with ⟨hcs, _⟩ | ⟨a, l, c, zs, hcs, _, hl, hm, hz, hx, hcell, hwz⟩
  · simp [Value.cells] at hcs
    obtain ⟨rfl, rfl, rfl⟩ := hcs
    exact ⟨_, _, _, [], rfl, Reads.none_, by simp, by omega, rfl, by omega⟩
  · simp [Value.cells] at hcs
    obtain ⟨rfl, rfl, rfl⟩ := hcs
    simp only [Prod.mk.injEq] at hx
    have hd : d = .slice (lits k (zs.take len)) (lits k (zs.drop len)) := hx.1
    subst hd
    have hlen : zs.length = cap := by simpa using hz
    have h1 := hw ((zs.take len).length * by_ + (zs.drop len).length * by_) (by
      simp only [DataW.weights, ht, lits, List.length_map, hb, ← Nat.add_mul]
      exact List.mem_cons_self)
    have hle : len * by_ ≤ 140737488351232 := by
      rw [List.length_take, Nat.min_eq_left (by omega)] at h1; omega
    refine ⟨_, _, _, zs.take len, rfl, ?_, fun n hn => hwz n (List.mem_of_mem_take hn), hle, by rw [List.length_take]; omega, by omega⟩
    rw [← range_map_getD zs 0 len (by omega), List.map_map]
    by_cases h0 : 0 < len
    · exact Reads.of_in rfl (World.block_lt_of_cell? W _ (by simpa [Addr.add] using hcell 0 (by omega))) (fun i hi => hcell i (by omega))
    · obtain rfl : len = 0 := by omega
      exact Reads.none_
end
end Go.Proofs.Ytambdddahbgelaa
