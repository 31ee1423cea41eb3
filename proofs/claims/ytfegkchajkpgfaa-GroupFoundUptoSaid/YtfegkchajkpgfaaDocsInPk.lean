/- Events, docs that came in, opened out of a law's arguments. -/
import Derived.Deep.Strs
import Derived.Test.YtfegkchajkpgfaaPkGroupRowsRow2
namespace Go.Proofs.Ytfegkchajkpgfaa.Qy
set_option maxRecDepth 20000
open Go.RowKit Go.ChangeShapes Go.WideShapes Go.ChangeAt Go.Deep Go.Joins Go.Proofs.Ytfegkchajkpgfaa
section
variable {H : Type} {enc : TypeId × Value → H} {W : World} {base : Nat}
theorem field_cells : Try.prog.cellsOf 130 = 2 := by kernel_rfl
theorem field_bytes : Try.prog.bytesOf 130 = 32 := by kernel_rfl
theorem doc_cells : Try.prog.cellsOf 43 = 3 := by kernel_rfl
theorem doc_bytes : Try.prog.bytesOf 43 = 40 := by kernel_rfl
theorem event_cells : Try.prog.cellsOf 41 = 2 := by kernel_rfl
theorem int_cells : Try.prog.cellsOf 3 = 1 := by kernel_rfl
theorem fields_cells : Try.prog.cellsOf 39 = 1 := by kernel_rfl
theorem len_two {α : Type} {l : List α} (h : l.length = 2) : ∃ a b, l = [a, b] := by
  match l, h with
  | [a, b], _ => exact ⟨a, b, rfl⟩
theorem nil_addr {t e : TypeId} {fuel : Nat} {P : Program} {A : Option Addr} {len cap : Nat} {x : DataW H × List MemPlace} (ht : P.underlying t = some (.slice e)) (h : DataW.trod enc P W 0 (fun _ => true) true fuel t [.slice A len cap] = some x) : A = none → cap = 0 := by
  rcases open_slice ht h with ⟨hcs, _⟩ | ⟨a, len, cap, m, n, D, Pl, hcs, _⟩
  · simp only [List.cons.injEq, and_true, Value.slice.injEq] at hcs
    exact fun _ => hcs.2.2
  · simp only [List.cons.injEq, and_true, Value.slice.injEq] at hcs
    intro h
    rw [h] at hcs
    cases hcs.1
/-- A row of fields that came in. -/
theorem fields_in {fuel : Nat} {v : Value} {x : DataW H × List MemPlace} (h : DataW.trod enc Try.prog W 0 (fun _ => true) true fuel 39 [v] = some x) (hw : ∀ n ∈ x.1.weights Try.prog 39, n ≤ 140737488351232) :
    ∃ (F : Option Addr) (n c : Nat) (fs : List (ByteArray × ByteArray)), v = .slice F n c ∧ Reads W W.heap.size 2 F n (fldC fs) ∧ fs.length = n ∧ n ≤ 8796093021952 ∧ n ≤ c ∧ (F = none → c = 0) ∧ ∀ f ∈ fs, f.1.size ≤ 140737488351232 ∧ f.2.size ≤ 140737488351232 := by
  obtain ⟨A, len, cap, vss, ds, spare, rfl, hl, hv, h2, hR, hd, hx, hall⟩ := slice_at Try.underlying39 field_cells (by omega) h
  have hnil := nil_addr Try.underlying39 h
  have each : ∀ i : Nat, ∃ f : ByteArray × ByteArray, ∀ (h1 : i < vss.length) (h2 : i < ds.length), vss[i] = [.string f.1, .string f.2] ∧ ds[i] = .agg [.lit (.string f.1.data.toList), .lit (.string f.2.data.toList)] := fun i => by
    by_cases hi : i < vss.length ∧ i < ds.length
    · obtain ⟨n, y, g1, g2⟩ := hall i hi.1 hi.2
      obtain ⟨y0, y1, n', rfl, hlen, t0, t1⟩ := trod_struct2 Try.underlying130 g1
      have hvl := h2 _ (List.getElem_mem hi.1)
      obtain ⟨u0, u1, hu⟩ := len_two hvl
      rw [hu] at t0 t1
      simp only [string_cells, List.drop_zero, List.drop_succ_cons, List.take_succ_cons, List.take_zero] at t0 t1
      obtain ⟨s0, e0, rfl, _⟩ := DataW.trod_string Try.underlying9 t0
      obtain ⟨s1, e1, rfl, _⟩ := DataW.trod_string Try.underlying9 t1
      simp only [List.cons.injEq, and_true] at e0 e1
      subst e0 e1
      exact ⟨(s0, s1), fun _ _ => ⟨hu, g2.symm⟩⟩
    · exact ⟨(ByteArray.empty, ByteArray.empty), fun h1 h2 => absurd ⟨h1, h2⟩ hi⟩
  obtain ⟨f, hf⟩ := Classical.skolem.1 each
  have hlen : ((List.range len).map f).length = len := by simp
  have e : vss.flatten = fldC ((List.range len).map f) := by
    apply List.ext_getElem?
    intro j
    by_cases hj : j < len * 2
    · have hi : j / 2 < vss.length := by omega
      have hg := fldC_get ((List.range len).map f) (j / 2) (by rw [hlen]; omega)
      have hfi := (hf (j / 2) hi (by omega)).1
      have hget : ((List.range len).map f)[j / 2]'(by rw [hlen]; omega) = f (j / 2) := by simp
      rw [hget] at hg
      rcases Nat.mod_two_eq_zero_or_one j with e0 | e1
      · have h0 := flat_get h2 (j / 2) 0 hi (by omega)
        have e : j = j / 2 * 2 := by omega
        rw [hfi, Nat.add_zero] at h0
        rw [e, h0, hg.1]
        rfl
      · have h0 := flat_get h2 (j / 2) 1 hi (by omega)
        have e : j = j / 2 * 2 + 1 := by omega
        rw [hfi] at h0
        rw [e, h0, hg.2]
        rfl
    · rw [List.getElem?_eq_none (by rw [flat_len h2]; omega), List.getElem?_eq_none (by rw [fldC_len, hlen]; omega)]
  rw [e] at hR
  have hbd : len ≤ 8796093021952 ∧ ∀ i, i < len → (f i).1.size ≤ 140737488351232 ∧ (f i).2.size ≤ 140737488351232 := by
    rcases hx with hx | ⟨h0, _⟩
    · rw [hx] at hw
      have h3 := weights_len Try.underlying39 hw
      rw [field_bytes] at h3
      refine ⟨by omega, fun i hi => ?_⟩
      have hm : ds[i]'(by omega) ∈ ds := List.getElem_mem _
      have h4 := weights_elem Try.underlying39 hw hm
      rw [(hf i (by omega) (by omega)).2] at h4
      have g0 := weights_part (j := 0) Try.underlying130 h4 rfl rfl (f i).1.data.toList.length (by simp [DataW.weights])
      have g1 := weights_part (j := 1) Try.underlying130 h4 rfl rfl (f i).2.data.toList.length (by simp [DataW.weights])
      rw [bsize] at g0 g1
      exact ⟨g0, g1⟩
    · exact ⟨by omega, fun i hi => by omega⟩
  exact ⟨A, len, cap, _, rfl, hR, hlen, hbd.1, hl, hnil, fun s hs => by
    obtain ⟨i, hi, rfl⟩ := List.mem_map.1 hs
    exact hbd.2 i (by simpa using hi)⟩
/-- An event that came in, from its two cells. -/
theorem event_at {fuel : Nat} {cs : List Value} {x : DataW H × List MemPlace} (h : DataW.trod enc Try.prog W 0 (fun _ => true) true fuel 41 cs = some x) (hw : ∀ n ∈ x.1.weights Try.prog 41, n ≤ 140737488351232) :
    ∃ (t : Int) (F : Option Addr) (n c : Nat) (fs : List (ByteArray × ByteArray)), cs = [.int .i64 t, .slice F n c] ∧ Reads W W.heap.size 2 F n (fldC fs) ∧ fs.length = n ∧ n ≤ 8796093021952 ∧ n ≤ c ∧ (F = none → c = 0) ∧ (Lit.int .i64 t).wf = true ∧ ∀ f ∈ fs, f.1.size ≤ 140737488351232 ∧ f.2.size ≤ 140737488351232 := by
  obtain ⟨y0, y1, n', rfl, hlen, t0, t1⟩ := trod_struct2 Try.underlying41 h
  rw [event_cells] at hlen
  match cs, hlen with
  | [u0, u1], _ =>
    simp only [int_cells, fields_cells, List.drop_zero, List.drop_succ_cons, List.take_succ_cons, List.take_zero] at t0 t1
    obtain ⟨k, e0, rfl, wk⟩ := DataW.trod_int Try.underlying3 t0
    simp only [List.cons.injEq, and_true] at e0
    subst e0
    obtain ⟨F, n, c, fs, rfl, hR, h1, h2, h3, h4, h5⟩ := fields_in t1 (weights_part (j := 1) Try.underlying41 hw rfl rfl)
    exact ⟨k, F, n, c, fs, rfl, hR, h1, h2, h3, h4, wk, h5⟩
/-- A doc that came in, from its three cells. -/
theorem doc_at {fuel : Nat} {cs : List Value} {x : DataW H × List MemPlace} (h : DataW.trod enc Try.prog W 0 (fun _ => true) true fuel 43 cs = some x) (hw : ∀ n ∈ x.1.weights Try.prog 43, n ≤ 140737488351232) :
    ∃ d : Dc, DcV W W.heap.size d cs ∧ (Lit.int .i64 d.seq).wf = true ∧ (Lit.int .i64 d.at_).wf = true ∧ ∀ f ∈ d.fs, f.1.size ≤ 140737488351232 ∧ f.2.size ≤ 140737488351232 := by
  obtain ⟨y0, y1, n', rfl, hlen, t0, t1⟩ := trod_struct2 Try.underlying43 h
  rw [doc_cells] at hlen
  match cs, hlen with
  | [u0, u1, u2], _ =>
    simp only [int_cells, event_cells, List.drop_zero, List.drop_succ_cons, List.take_succ_cons, List.take_zero] at t0 t1
    obtain ⟨k, e0, rfl, wk⟩ := DataW.trod_int Try.underlying3 t0
    simp only [List.cons.injEq, and_true] at e0
    subst e0
    obtain ⟨t, F, n, c, fs, e1, hR, h1, h2, h3, h4, wt, h5⟩ := event_at t1 (weights_part (j := 1) Try.underlying43 hw rfl rfl)
    simp only [List.cons.injEq, and_true] at e1
    obtain ⟨rfl, rfl⟩ := e1
    exact ⟨⟨k, t, fs⟩, ⟨F, n, c, rfl, hR, h1, h2, h3, h4⟩, wk, wt, h5⟩
theorem docs_in {v : Value} {d : DataW H} {p : List MemPlace} (hv : Value.okWide Try.prog W .any base 28 v) (h : DataW.Trod enc Try.prog W 0 (fun _ => true) true 28 v d p) (hw : ∀ n ∈ d.weights Try.prog 28, n ≤ 140737488351232) :
    ∃ (A : Option Addr) (n c : Nat) (l : List Dc), v = .slice A n c ∧ DocsAt W W.heap.size A n l ∧ n ≤ 8796093021952 ∧ n ≤ c ∧ (A = none → c = 0) ∧ (∀ d ∈ l, (Lit.int .i64 d.seq).wf = true ∧ (Lit.int .i64 d.at_).wf = true) ∧ ∀ d ∈ l, ∀ f ∈ d.fs, f.1.size ≤ 140737488351232 ∧ f.2.size ≤ 140737488351232 := by
  obtain ⟨A0, n0, c0, rfl⟩ := okWide_slice Try.underlying28 hv
  obtain ⟨fuel, hf⟩ := h
  have hf : DataW.trod enc Try.prog W 0 (fun _ => true) true fuel 28 [.slice A0 n0 c0] = some (d, p) := by simpa [Value.cells] using hf
  have hnil := nil_addr Try.underlying28 hf
  obtain ⟨A, len, cap, vss, ds, spare, e, hl, hvl, h3, hR, hd, hx, hall⟩ := slice_at Try.underlying28 doc_cells (by omega) hf
  injection e with ea el ec
  subst ea el ec
  have hcap : n0 ≤ 8796093021952 := by
    rcases hx with hx | ⟨z0, _⟩
    · have hx : d = .slice ds spare := hx
      rw [hx] at hw
      have := weights_len Try.underlying28 hw
      rw [doc_bytes] at this
      omega
    · omega
  have each : ∀ i : Nat, ∃ d : Dc, ∀ (h1 : i < vss.length), DcV W W.heap.size d vss[i] ∧ (Lit.int .i64 d.seq).wf = true ∧ (Lit.int .i64 d.at_).wf = true ∧ ∀ f ∈ d.fs, f.1.size ≤ 140737488351232 ∧ f.2.size ≤ 140737488351232 := fun i => by
    by_cases hi : i < vss.length
    · obtain ⟨n', y, g1, g2⟩ := hall i hi (by omega)
      have hm : ds[i]'(by omega) ∈ ds := List.getElem_mem _
      rcases hx with hx | ⟨z0, _⟩
      · have hx : d = .slice ds spare := hx
        rw [hx] at hw
        obtain ⟨q, hq⟩ := doc_at g1 (by rw [g2]; exact weights_elem Try.underlying28 hw hm)
        exact ⟨q, fun _ => hq⟩
      · omega
    · exact ⟨⟨0, 0, []⟩, fun h => absurd h hi⟩
  obtain ⟨f, hf'⟩ := Classical.skolem.1 each
  refine ⟨A0, n0, c0, (List.range n0).map f, rfl, ⟨by simp, vss, hvl, hR, fun i h1 h2 => ?_⟩, hcap, hl, hnil, fun x hx => ?_, fun x hx => ?_⟩
  · have := (hf' i h2).1
    simpa using this
  · obtain ⟨i, hi, rfl⟩ := List.mem_map.1 hx
    have hi' : i < n0 := by simpa using hi
    exact ⟨(hf' i (by omega)).2.1, (hf' i (by omega)).2.2.1⟩
  · obtain ⟨i, hi, rfl⟩ := List.mem_map.1 hx
    have hi' : i < n0 := by simpa using hi
    exact (hf' i (by omega)).2.2.2
end
end Go.Proofs.Ytfegkchajkpgfaa.Qy
