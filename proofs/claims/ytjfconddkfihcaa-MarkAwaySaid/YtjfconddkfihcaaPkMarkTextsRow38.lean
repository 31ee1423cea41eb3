/- Queries, events, docs that came in, opened. -/
import Derived.Deep.Slices
import Derived.Deep.Strs
import Derived.Lib.SmallJoins
import Derived.Deep.SlicePairs
import Derived.Test.YtjfconddkfihcaaPkMarkTextsRow0
import Derived.Test.YtjfconddkfihcaaMatchBPk
import Derived.Test.YtjfconddkfihcaaPkMarkTextsRow37
section
namespace Go.Proofs.Ytjfconddkfihcaa.Qy
set_option maxRecDepth 20000
open Go.RowKit Go.ChangeShapes Go.WideShapes Go.ChangeAt Go.Deep Go.Joins Go.Proofs.Ytjfconddkfihcaa
section
variable {H : Type} {enc : TypeId × Value → H} {P : Program} {W : World} {t e : TypeId}

theorem flat_len {k : Nat} : ∀ {vss : List (List Value)} (_ : ∀ v ∈ vss, v.length = k), vss.flatten.length = vss.length * k
  | [], _ => by simp
  | v :: vss, h => by
    rw [List.flatten_cons, List.length_append, h v (by simp), flat_len (fun x hx => h x (List.mem_cons_of_mem _ hx)), List.length_cons, Nat.add_mul, Nat.one_mul, Nat.add_comm]
/-- A slice that came in, element by element. -/
theorem slice_at {k fuel : Nat} {v : Value} {x : DataW H × List MemPlace} (ht : P.underlying t = some (.slice e)) (hc : P.cellsOf e = k) (hk : 0 < k) (h : DataW.trod enc P W 0 (fun _ => true) true fuel t [v] = some x) :
    ∃ (A : Option Addr) (len cap : Nat) (vss : List (List Value)) (ds spare : List (DataW H)), v = .slice A len cap ∧ len ≤ cap ∧ vss.length = len ∧ (∀ u ∈ vss, u.length = k) ∧ Reads W W.heap.size k A len vss.flatten ∧ ds.length = len ∧
      (x.1 = .slice ds spare ∨ (len = 0 ∧ ds = [])) ∧ ∀ i (h1 : i < vss.length) (h2 : i < ds.length), ∃ n y, DataW.trod enc P W 0 (fun _ => true) true n e vss[i] = some y ∧ y.1 = ds[i] := by
  rcases open_slice ht h with ⟨hcs, _⟩ | ⟨a, len, cap, m, n, D, Pl, hcs, _, hl, hm, hmm, rfl, hx⟩
  · simp only [List.cons.injEq, and_true] at hcs
    exact ⟨none, 0, 0, [], [], [], hcs, Nat.le_refl _, rfl, by simp, Reads.none_, rfl, .inr ⟨rfl, rfl⟩, fun i h1 => absurd h1 (by simp)⟩
  · simp only [List.cons.injEq, and_true] at hcs
    have hlm : len ≤ m := by rw [hmm]; split <;> omega
    have each : ∀ i : Nat, ∃ cs' : List Value, i < len → W.cells? 0 (a.add (i * P.cellsOf e)) (P.cellsOf e) = some cs' ∧ DataW.trod enc P W 0 (fun _ => true) true n e cs' = some (D i, Pl i) := fun i => by
      by_cases hi : i < len
      · obtain ⟨cs', h1, h2⟩ := hx i (by omega)
        exact ⟨cs', fun _ => ⟨h1, h2⟩⟩
      · exact ⟨[], fun h => absurd h hi⟩
    obtain ⟨f, hf⟩ := Classical.skolem.1 each
    rw [hc] at hf
    have hlen : ((List.range len).map f).length = len := by simp
    have h4 : ∀ u ∈ (List.range len).map f, u.length = k := fun u hu => by
      obtain ⟨i, hi, rfl⟩ := List.mem_map.1 hu
      exact (World.cells?_some (hf i (by simpa using hi)).1).2.1
    refine ⟨some a, len, cap, (List.range len).map f, (List.range len).map D, _, hcs, hl, hlen, h4, ?_, by simp, .inl rfl, fun i h1 h2 => ?_⟩
    · have hfl : ((List.range len).map f).flatten.length = len * k := by rw [flat_len h4, hlen]
      refine ⟨hfl, fun hn => ?_⟩
      obtain ⟨b, o, sp⟩ := a
      have hc0 := (World.cells?_some (hf 0 hn).1).2.2 0 hk
      have hl0 := (World.cells?_some (hf 0 hn).1).2.1
      rw [List.getElem?_eq_getElem (by omega)] at hc0
      have hsp : sp = none := by simpa [Addr.add] using World.cell?_spot hc0
      subst hsp
      have hadd : ∀ o' j, (⟨b, o', none⟩ : Addr).add j = ⟨b, o' + j, none⟩ := fun o' j => by unfold Addr.add; split <;> simp_all
      have hbl : b < W.heap.size := by
        have := World.block_lt_of_cell? W _ hc0
        simpa [block_of_add] using this
      refine ⟨b, o, rfl, hbl, fun j u hu => ?_⟩
      have hj : j < len * k := by
        have := (List.getElem?_eq_some_iff.1 hu).1
        rw [hfl] at this
        exact this
      have hi : j / k < len := (Nat.div_lt_iff_lt_mul hk).2 hj
      have hr : j % k < k := Nat.mod_lt _ hk
      have ej : j = j / k * k + j % k := by rw [Nat.mul_comm]; exact (Nat.div_add_mod j k).symm
      have hg := flat_get h4 (j / k) (j % k) (by rw [hlen]; exact hi) hr
      rw [← ej] at hg
      rw [hg] at hu
      have hc := (World.cells?_some (hf (j / k) hi).1).2.2 (j % k) hr
      rw [hadd, hadd, Nat.add_assoc, ← ej] at hc
      rw [hc, ← hu]
      simp
    · have hi : i < len := by rw [hlen] at h1; exact h1
      refine ⟨n, (D i, Pl i), ?_, by simp⟩
      have := (hf i hi).2
      simpa using this

theorem weights_part {fs : Array Field} {parts : List (DataW H)} {j : Nat} {u : TypeId} {d : DataW H} (ht : P.underlying t = some (.struct fs)) (hw : ∀ n ∈ (DataW.agg parts).weights P t, n ≤ 140737488351232)
    (h1 : (fs.toList.map (·.type))[j]? = some u) (h2 : parts[j]? = some d) : ∀ n ∈ d.weights P u, n ≤ 140737488351232 := by
  intro n hn
  apply hw
  simp only [DataW.weights, ht]
  exact DataW.weights_mem_each h1 h2 n hn
theorem weights_elem {ds spare : List (DataW H)} {d : DataW H} (ht : P.underlying t = some (.slice e)) (hw : ∀ n ∈ (DataW.slice ds spare).weights P t, n ≤ 140737488351232) (hd : d ∈ ds) : ∀ n ∈ d.weights P e, n ≤ 140737488351232 := by
  intro n hn
  apply hw
  simp only [DataW.weights, ht]
  exact List.mem_cons_of_mem _ (List.mem_append_left _ (weightsAll_mem hd n hn))
theorem weights_len {ds spare : List (DataW H)} (ht : P.underlying t = some (.slice e)) (hw : ∀ n ∈ (DataW.slice ds spare).weights P t, n ≤ 140737488351232) : ds.length * P.bytesOf e ≤ 140737488351232 := by
  have := hw ((ds.length + spare.length) * P.bytesOf e) (by
    simp only [DataW.weights, ht]
    exact List.mem_cons_self)
  rw [Nat.add_mul] at this
  omega

/-- A row of strings that came in, wherever it lies. -/
theorem strs_at {fuel : Nat} {v : Value} {x : DataW H × List MemPlace} (ht : P.underlying t = some (.slice e)) (he : P.underlying e = some .string) (hc : P.cellsOf e = 1) (hb16 : P.bytesOf e = 16)
    (h : DataW.trod enc P W 0 (fun _ => true) true fuel t [v] = some x) (hw : ∀ n ∈ x.1.weights P t, n ≤ 140737488351232) :
    ∃ (A : Option Addr) (len cap : Nat) (ss : List ByteArray), v = .slice A len cap ∧ len ≤ cap ∧ Reads W W.heap.size 1 A len (ss.map Value.string) ∧ ss.length = len ∧ len ≤ 8796093021952 ∧ ∀ s ∈ ss, s.size ≤ 140737488351232 := by
  obtain ⟨A, len, cap, vss, ds, spare, rfl, hl, hv, h1, hR, hd, hx, hall⟩ := slice_at ht hc (by omega) h
  have each : ∀ i : Nat, ∃ s : ByteArray, ∀ (h1 : i < vss.length) (h2 : i < ds.length), vss[i] = [.string s] ∧ ds[i] = .lit (.string s.data.toList) := fun i => by
    by_cases hi : i < vss.length ∧ i < ds.length
    · obtain ⟨n, y, h1, h2⟩ := hall i hi.1 hi.2
      obtain ⟨s, e1, rfl, _⟩ := DataW.trod_string he h1
      exact ⟨s, fun _ _ => ⟨e1, h2.symm⟩⟩
    · exact ⟨ByteArray.empty, fun h1 h2 => absurd ⟨h1, h2⟩ hi⟩
  obtain ⟨f, hf⟩ := Classical.skolem.1 each
  have hlen : ((List.range len).map f).length = len := by simp
  have e : vss.flatten = ((List.range len).map f).map Value.string := by
    apply List.ext_getElem?
    intro j
    by_cases hj : j < len
    · have h := flat_get h1 j 0 (by omega) (by omega)
      rw [Nat.mul_one, Nat.add_zero, (hf j (by omega) (by omega)).1] at h
      rw [h]
      simp [List.getElem?_range hj]
    · rw [List.getElem?_eq_none (by rw [flat_len h1]; omega), List.getElem?_eq_none (by simp; omega)]
  rw [e] at hR
  have hbd : len ≤ 8796093021952 ∧ ∀ i, i < len → (f i).size ≤ 140737488351232 := by
    rcases hx with hx | ⟨h0, _⟩
    · rw [hx] at hw
      have h2 := weights_len ht hw
      rw [hb16] at h2
      refine ⟨by omega, fun i hi => ?_⟩
      have hm : ds[i]'(by omega) ∈ ds := List.getElem_mem _
      have h3 := weights_elem ht hw hm
      rw [(hf i (by omega) (by omega)).2] at h3
      have := h3 (f i).data.toList.length (by simp [DataW.weights])
      rwa [bsize] at this
    · exact ⟨by omega, fun i hi => by omega⟩
  exact ⟨A, len, cap, _, rfl, hl, hR, hlen, hbd.1, fun s hs => by
    obtain ⟨i, hi, rfl⟩ := List.mem_map.1 hs
    exact hbd.2 i (by simpa using hi)⟩
end

section
variable {H : Type} {enc : TypeId × Value → H} {W : World}
theorem query_cells : Try.prog.cellsOf 37 = 4 := by kernel_rfl
theorem string_cells : Try.prog.cellsOf 9 = 1 := by kernel_rfl
theorem string_bytes : Try.prog.bytesOf 9 = 16 := by kernel_rfl
theorem query_bytes : Try.prog.bytesOf 37 = 72 := by kernel_rfl
theorem kind_cells : Try.prog.cellsOf 34 = 1 := by kernel_rfl
theorem strs_cells : Try.prog.cellsOf 28 = 1 := by kernel_rfl
theorem queries_cells : Try.prog.cellsOf 35 = 1 := by kernel_rfl
/-- A query that came in, from its four cells. -/
theorem query_at : ∀ (sz : Nat) (fuel : Nat) (cs : List Value) (x : DataW H × List MemPlace), SizeOf.sizeOf x.1 ≤ sz → DataW.trod enc Try.prog W 0 (fun _ => true) true fuel 37 cs = some x → (∀ n ∈ x.1.weights Try.prog 37, n ≤ 140737488351232) →
    ∃ q, QAt W W.heap.size q cs ∧ QSz q := by
  intro sz
  induction sz with
  | zero =>
    intro fuel cs x hs h _
    obtain ⟨y0, y1, y2, y3, n, rfl, _⟩ := trod_struct4 Try.underlying37 h
    simp at hs
  | succ sz ih =>
    intro fuel cs x hs h hw
    obtain ⟨y0, y1, y2, y3, n, rfl, hlen, h0, h1, h2, h3⟩ := trod_struct4 Try.underlying37 h
    rw [query_cells] at hlen
    match cs, hlen with
    | [c0, c1, c2, c3], _ =>
      simp only [kind_cells, string_cells, strs_cells, queries_cells, List.drop_zero, List.drop_succ_cons, List.take_succ_cons, List.take_zero] at h0 h1 h2 h3
      obtain ⟨k, e0, rfl, _⟩ := DataW.trod_int Try.underlying34 h0
      obtain ⟨nm, e1, rfl, _⟩ := DataW.trod_string Try.underlying9 h1
      simp only [List.cons.injEq, and_true] at e0 e1
      subst e0 e1
      obtain ⟨WA, m, wc, ws, rfl, _, hR, hwl, hm2, _⟩ := strs_at Try.underlying28 Try.underlying9 string_cells string_bytes h2 (weights_part (j := 2) Try.underlying37 hw rfl rfl)
      obtain ⟨CA, len, cap, vss, ds, spare, rfl, _, hv, h4, hL, hd, hx, hall⟩ := slice_at Try.underlying35 query_cells (by omega) h3
      have hw3 := weights_part (j := 3) (d := y3.1) Try.underlying37 hw rfl rfl
      have each : ∀ i : Nat, ∃ q : Q, ∀ (h1 : i < vss.length), QAt W W.heap.size q vss[i] ∧ QSz q := fun i => by
        by_cases hi : i < vss.length
        · obtain ⟨n', y, g1, g2⟩ := hall i hi (by omega)
          have hm : ds[i]'(by omega) ∈ ds := List.getElem_mem _
          rcases hx with hx | ⟨z0, _⟩
          · have hsz : SizeOf.sizeOf y.1 ≤ sz := by
              have a1 := List.sizeOf_lt_of_mem hm
              rw [g2]
              rw [hx] at hs
              simp at hs
              omega
            rw [hx] at hw3
            obtain ⟨q, hq⟩ := ih n' _ y hsz g1 (by rw [g2]; exact weights_elem Try.underlying35 hw3 hm)
            exact ⟨q, fun _ => hq⟩
          · omega
        · exact ⟨.mk 0 ByteArray.empty [] [], fun h => absurd h hi⟩
      obtain ⟨f, hf⟩ := Classical.skolem.1 each
      have hll : ((List.range len).map f).length = len := by simp
      have hcap : len ≤ 8796093021952 := by
        rcases hx with hx | ⟨z0, _⟩
        · rw [hx] at hw3
          have := weights_len Try.underlying35 hw3
          rw [query_bytes] at this
          omega
        · omega
      refine ⟨.mk k nm ws ((List.range len).map f), .mk vss hwl hR hll hv h4 hL (fun i h1 h2 => ?_), .mk (by omega) (by omega) (fun y hy => ?_)⟩
      · have := (hf i h2).1
        simpa using this
      · obtain ⟨i, hi, rfl⟩ := List.mem_map.1 hy
        exact (hf i (by rw [hv]; simpa using hi)).2
end
end Go.Proofs.Ytjfconddkfihcaa.Qy
end

section
/- A row of spans that came in, opened. -/
namespace Go.Proofs.Ytjfconddkfihcaa.Mk
open Go.RowKit Go.Proofs.Ytjfconddkfihcaa.Qy Go.ChangeShapes Go.WideShapes Go.ChangeAt Go.Deep
section
variable {H : Type} {enc : TypeId × Value → H} {P : Program} {W : World} {base : Nat} {t e : TypeId} {v : Value} {d : DataW H} {p : List MemPlace} {f0 f1 : Field}
theorem spans_in (ht : P.underlying t = some (.slice e)) (he : P.underlying e = some (.struct #[f0, f1])) (ce : P.cellsOf e = 2) (o0 : f0.offset = 0) (o1 : f1.offset = 1) (c0 : P.cellsOf f0.type = 1) (c1 : P.cellsOf f1.type = 1)
    (i0 : P.underlying f0.type = some (.int .i64)) (i1 : P.underlying f1.type = some (.int .i64)) (hv : Value.okWide P W .any base t v) (h : DataW.Trod enc P W 0 (fun _ => true) true t v d p) (hb : P.bytesOf e = 16) (hw : ∀ n ∈ d.weights P t, n ≤ 140737488351232) :
    ∃ (A : Option Addr) (cap : Nat) (l : List (Int × Int)), v = .slice A l.length cap ∧ Reads W W.heap.size 2 A l.length (spZ l) ∧ (∀ b ∈ l, (Lit.int .i64 b.1).wf = true ∧ (Lit.int .i64 b.2).wf = true) ∧ l.length ≤ cap ∧ l.length ≤ 8796093021952 := by
  obtain ⟨A, len, cap, rfl⟩ := okWide_slice ht hv
  obtain ⟨fuel, hf⟩ := h
  rcases open_slice_pairs ht he ce o0 o1 c0 c1 hf with ⟨hcs, _⟩ | ⟨a, l, c, m, n, V0, V1, D0, D1, P0, P1, hcs, _, hl, hm, hmm, hx, hcell⟩
  · simp [Value.cells] at hcs
    obtain ⟨rfl, rfl, rfl⟩ := hcs
    exact ⟨none, 0, [], rfl, Reads.none_, by simp, by simp, by simp⟩
  · simp [Value.cells] at hcs
    obtain ⟨rfl, rfl, rfl⟩ := hcs
    have hlm : len ≤ m := by rw [hmm]; split <;> omega
    have each : ∀ i : Nat, ∃ q : (Int × Int), i < len → W.cell? (a.add (i * 2)) = some (.int .i64 q.1) ∧ W.cell? (a.add (i * 2 + 1)) = some (.int .i64 q.2) ∧ (Lit.int .i64 q.1).wf = true ∧ (Lit.int .i64 q.2).wf = true := fun i => by
      by_cases hi : i < len
      · obtain ⟨h0, h1, t0, t1⟩ := hcell i (by omega)
        obtain ⟨x, hx0, _, wx⟩ := DataW.trod_int i0 t0
        obtain ⟨y, hy0, _, wy⟩ := DataW.trod_int i1 t1
        simp only [List.cons.injEq, and_true] at hx0 hy0
        rw [hx0] at h0
        rw [hy0] at h1
        exact ⟨(x, y), fun _ => ⟨h0, h1, wx, wy⟩⟩
      · exact ⟨(0, 0), fun h => absurd h hi⟩
    obtain ⟨f, hf'⟩ := Classical.skolem.1 each
    have hlen : ((List.range len).map f).length = len := by simp
    refine ⟨some a, cap, (List.range len).map f, by rw [hlen], ?_, fun b hb => ?_, by rw [hlen]; exact hl, ?_⟩
    · rw [hlen]
      refine ⟨by rw [spZ_len, hlen], fun hn => ?_⟩
      obtain ⟨b, o, sp⟩ := a
      have h0 := (hf' 0 hn).1
      have hsp : sp = none := by simpa [Addr.add] using World.cell?_spot h0
      subst hsp
      have hadd : ∀ j, (⟨b, o, none⟩ : Addr).add j = ⟨b, o + j, none⟩ := fun j => by unfold Addr.add; split <;> simp_all
      have hbl : b < W.heap.size := World.block_lt_of_cell? W _ (by rw [hadd] at h0; exact h0)
      refine ⟨b, o, rfl, hbl, fun j u hu => ?_⟩
      have hj : j < len * 2 := by
        have := (List.getElem?_eq_some_iff.1 hu).1
        rw [spZ_len, hlen] at this
        exact this
      have hi : j / 2 < ((List.range len).map f).length := by rw [hlen]; omega
      have hg := spZ_get _ _ hi
      have hfi := hf' (j / 2) (by omega)
      have hget : ((List.range len).map f)[j / 2]'hi = f (j / 2) := by simp
      rw [hget] at hg
      rw [hadd, hadd] at hfi
      rcases Nat.mod_two_eq_zero_or_one j with e0 | e1
      · have e : j = j / 2 * 2 := by omega
        rw [e] at hu ⊢
        rw [hg.1] at hu
        rw [← hu]
        exact hfi.1
      · have e : j = j / 2 * 2 + 1 := by omega
        rw [e] at hu ⊢
        rw [hg.2] at hu
        rw [← hu]
        exact hfi.2.1
    · obtain ⟨i, hi, rfl⟩ := List.mem_map.1 hb
      have := hf' i (by simpa using hi)
      exact this.2.2
    · obtain ⟨rfl, rfl⟩ := Prod.mk.inj hx
      have := weights_len ht hw
      rw [hb] at this
      simp at this ⊢
      omega
end
end Go.Proofs.Ytjfconddkfihcaa.Mk
end
