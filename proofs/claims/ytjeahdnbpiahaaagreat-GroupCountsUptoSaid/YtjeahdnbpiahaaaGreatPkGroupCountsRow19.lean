/- Queries, events, docs that came in, opened out of a law's arguments. -/
import Derived.Deep.Strs
import Derived.Outline
import Derived.BigQuiet
import Derived.Deep.QuietTactic
import Derived.Test.YtjeahdnbpiahaaaGreatPkGroupCountsRow18
import Derived.Test.YtjeahdnbpiahaaaGreatPkGroupCountsRow11
section
namespace Go.Proofs.YtjeahdnbpiahaaaGreat.Qy
set_option maxRecDepth 20000
open Go.RowKit Go.ChangeShapes Go.WideShapes Go.ChangeAt Go.Deep Go.Joins Go.Proofs.YtjeahdnbpiahaaaGreat
section
variable {H : Type} {enc : TypeId × Value → H} {W : World} {base : Nat}
theorem field_cells : Tryz.prog.cellsOf 60 = 2 := by kernel_rfl
theorem field_bytes : Tryz.prog.bytesOf 60 = 32 := by kernel_rfl
theorem doc_cells : Tryz.prog.cellsOf 48 = 3 := by kernel_rfl
theorem doc_bytes : Tryz.prog.bytesOf 48 = 40 := by kernel_rfl
theorem event_cells : Tryz.prog.cellsOf 46 = 2 := by kernel_rfl
theorem int_cells : Tryz.prog.cellsOf 3 = 1 := by kernel_rfl
theorem fields_cells : Tryz.prog.cellsOf 44 = 1 := by kernel_rfl
theorem len_two {α : Type} {l : List α} (h : l.length = 2) : ∃ a b, l = [a, b] := by
  match l, h with
  | [a, b], _ => exact ⟨a, b, rfl⟩
theorem nil_addr {t e : TypeId} {fuel : Nat} {P : Program} {A : Option Addr} {len cap : Nat} {x : DataW H × List MemPlace} (ht : P.underlying t = some (.slice e)) (h : DataW.trod enc P W 0 (fun _ => true) true fuel t [.slice A len cap] = some x) : A = none → cap = 0 := by
  rcases open_slice ht h with ⟨hcs, _⟩ | ⟨a, len, cap, m, n, D, Pl, hcs, _⟩
  · simp only [List.cons.injEq, and_true, Value.slice.injEq] at hcs
    exact fun _ => hcs.2.2
  · simp only [List.cons.injEq, and_true, Value.slice.injEq] at hcs
    intro h
    rw [h] at hcs
    cases hcs.1
/-- A row of fields that came in. -/
theorem fields_in {fuel : Nat} {v : Value} {x : DataW H × List MemPlace} (h : DataW.trod enc Tryz.prog W 0 (fun _ => true) true fuel 44 [v] = some x) (hw : ∀ n ∈ x.1.weights Tryz.prog 44, n ≤ 140737488351232) :
    ∃ (F : Option Addr) (n c : Nat) (fs : List (ByteArray × ByteArray)), v = .slice F n c ∧ Reads W W.heap.size 2 F n (fldC fs) ∧ fs.length = n ∧ n ≤ 8796093021952 ∧ n ≤ c ∧ (F = none → c = 0) ∧ ∀ f ∈ fs, f.1.size ≤ 140737488351232 ∧ f.2.size ≤ 140737488351232 := by
  obtain ⟨A, len, cap, vss, ds, spare, rfl, hl, hv, h2, hR, hd, hx, hall⟩ := slice_at Tryz.underlying44 field_cells (by omega) h
  have hnil := nil_addr Tryz.underlying44 h
  have each : ∀ i : Nat, ∃ f : ByteArray × ByteArray, ∀ (h1 : i < vss.length) (h2 : i < ds.length), vss[i] = [.string f.1, .string f.2] ∧ ds[i] = .agg [.lit (.string f.1.data.toList), .lit (.string f.2.data.toList)] := fun i => by
    by_cases hi : i < vss.length ∧ i < ds.length
    · obtain ⟨n, y, g1, g2⟩ := hall i hi.1 hi.2
      obtain ⟨y0, y1, n', rfl, hlen, t0, t1⟩ := trod_struct2 Tryz.underlying60 g1
      have hvl := h2 _ (List.getElem_mem hi.1)
      obtain ⟨u0, u1, hu⟩ := len_two hvl
      rw [hu] at t0 t1
      simp only [string_cells, List.drop_zero, List.drop_succ_cons, List.take_succ_cons, List.take_zero] at t0 t1
      obtain ⟨s0, e0, rfl, _⟩ := DataW.trod_string Tryz.underlying9 t0
      obtain ⟨s1, e1, rfl, _⟩ := DataW.trod_string Tryz.underlying9 t1
      simp only [List.cons.injEq, and_true] at e0 e1
      subst e0 e1
      exact ⟨(s0, s1), fun _ _ => ⟨hu, g2.symm⟩⟩
    · exact ⟨(ByteArray.empty, ByteArray.empty), fun h1 h2 => absurd ⟨h1, h2⟩ hi⟩
  obtain ⟨f, hf⟩ := Classical.skolem.1 each
  have hlen : ((List.range len).map f).length = len := by simp
  have e : vss.flatten = fldC ((List.range len).map f) := by
    apply List.ext_getElem?
    intro j
    by_cases hj : j < len * 2
    · have hi : j / 2 < vss.length := by omega
      have hg := fldC_get ((List.range len).map f) (j / 2) (by rw [hlen]; omega)
      have hfi := (hf (j / 2) hi (by omega)).1
      have hget : ((List.range len).map f)[j / 2]'(by rw [hlen]; omega) = f (j / 2) := by simp
      rw [hget] at hg
      rcases Nat.mod_two_eq_zero_or_one j with e0 | e1
      · have h0 := flat_get h2 (j / 2) 0 hi (by omega)
        have e : j = j / 2 * 2 := by omega
        rw [hfi, Nat.add_zero] at h0
        rw [e, h0, hg.1]
        rfl
      · have h0 := flat_get h2 (j / 2) 1 hi (by omega)
        have e : j = j / 2 * 2 + 1 := by omega
        rw [hfi] at h0
        rw [e, h0, hg.2]
        rfl
    · rw [List.getElem?_eq_none (by rw [flat_len h2]; omega), List.getElem?_eq_none (by rw [fldC_len, hlen]; omega)]
  rw [e] at hR
  have hbd : len ≤ 8796093021952 ∧ ∀ i, i < len → (f i).1.size ≤ 140737488351232 ∧ (f i).2.size ≤ 140737488351232 := by
    rcases hx with hx | ⟨h0, _⟩
    · rw [hx] at hw
      have h3 := weights_len Tryz.underlying44 hw
      rw [field_bytes] at h3
      refine ⟨by omega, fun i hi => ?_⟩
      have hm : ds[i]'(by omega) ∈ ds := List.getElem_mem _
      have h4 := weights_elem Tryz.underlying44 hw hm
      rw [(hf i (by omega) (by omega)).2] at h4
      have g0 := weights_part (j := 0) Tryz.underlying60 h4 rfl rfl (f i).1.data.toList.length (by simp [DataW.weights])
      have g1 := weights_part (j := 1) Tryz.underlying60 h4 rfl rfl (f i).2.data.toList.length (by simp [DataW.weights])
      rw [bsize] at g0 g1
      exact ⟨g0, g1⟩
    · exact ⟨by omega, fun i hi => by omega⟩
  exact ⟨A, len, cap, _, rfl, hR, hlen, hbd.1, hl, hnil, fun s hs => by
    obtain ⟨i, hi, rfl⟩ := List.mem_map.1 hs
    exact hbd.2 i (by simpa using hi)⟩
/-- An event that came in, from its two cells. -/
theorem event_at {fuel : Nat} {cs : List Value} {x : DataW H × List MemPlace} (h : DataW.trod enc Tryz.prog W 0 (fun _ => true) true fuel 46 cs = some x) (hw : ∀ n ∈ x.1.weights Tryz.prog 46, n ≤ 140737488351232) :
    ∃ (t : Int) (F : Option Addr) (n c : Nat) (fs : List (ByteArray × ByteArray)), cs = [.int .i64 t, .slice F n c] ∧ Reads W W.heap.size 2 F n (fldC fs) ∧ fs.length = n ∧ n ≤ 8796093021952 ∧ n ≤ c ∧ (F = none → c = 0) ∧ (Lit.int .i64 t).wf = true ∧ ∀ f ∈ fs, f.1.size ≤ 140737488351232 ∧ f.2.size ≤ 140737488351232 := by
  obtain ⟨y0, y1, n', rfl, hlen, t0, t1⟩ := trod_struct2 Tryz.underlying46 h
  rw [event_cells] at hlen
  match cs, hlen with
  | [u0, u1], _ =>
    simp only [int_cells, fields_cells, List.drop_zero, List.drop_succ_cons, List.take_succ_cons, List.take_zero] at t0 t1
    obtain ⟨k, e0, rfl, wk⟩ := DataW.trod_int Tryz.underlying3 t0
    simp only [List.cons.injEq, and_true] at e0
    subst e0
    obtain ⟨F, n, c, fs, rfl, hR, h1, h2, h3, h4, h5⟩ := fields_in t1 (weights_part (j := 1) Tryz.underlying46 hw rfl rfl)
    exact ⟨k, F, n, c, fs, rfl, hR, h1, h2, h3, h4, wk, h5⟩
/-- A doc that came in, from its three cells. -/
theorem doc_at {fuel : Nat} {cs : List Value} {x : DataW H × List MemPlace} (h : DataW.trod enc Tryz.prog W 0 (fun _ => true) true fuel 48 cs = some x) (hw : ∀ n ∈ x.1.weights Tryz.prog 48, n ≤ 140737488351232) :
    ∃ d : Dc, DcV W W.heap.size d cs ∧ (Lit.int .i64 d.seq).wf = true ∧ (Lit.int .i64 d.at_).wf = true ∧ ∀ f ∈ d.fs, f.1.size ≤ 140737488351232 ∧ f.2.size ≤ 140737488351232 := by
  obtain ⟨y0, y1, n', rfl, hlen, t0, t1⟩ := trod_struct2 Tryz.underlying48 h
  rw [doc_cells] at hlen
  match cs, hlen with
  | [u0, u1, u2], _ =>
    simp only [int_cells, event_cells, List.drop_zero, List.drop_succ_cons, List.take_succ_cons, List.take_zero] at t0 t1
    obtain ⟨k, e0, rfl, wk⟩ := DataW.trod_int Tryz.underlying3 t0
    simp only [List.cons.injEq, and_true] at e0
    subst e0
    obtain ⟨t, F, n, c, fs, e1, hR, h1, h2, h3, h4, wt, h5⟩ := event_at t1 (weights_part (j := 1) Tryz.underlying48 hw rfl rfl)
    simp only [List.cons.injEq, and_true] at e1
    obtain ⟨rfl, rfl⟩ := e1
    exact ⟨⟨k, t, fs⟩, ⟨F, n, c, rfl, hR, h1, h2, h3, h4⟩, wk, wt, h5⟩
theorem docs_in {v : Value} {d : DataW H} {p : List MemPlace} (hv : Value.okWide Tryz.prog W .any base 22 v) (h : DataW.Trod enc Tryz.prog W 0 (fun _ => true) true 22 v d p) (hw : ∀ n ∈ d.weights Tryz.prog 22, n ≤ 140737488351232) :
    ∃ (A : Option Addr) (n c : Nat) (l : List Dc), v = .slice A n c ∧ DocsAt W W.heap.size A n l ∧ n ≤ 8796093021952 ∧ n ≤ c ∧ (A = none → c = 0) ∧ (∀ d ∈ l, (Lit.int .i64 d.seq).wf = true ∧ (Lit.int .i64 d.at_).wf = true) ∧ ∀ d ∈ l, ∀ f ∈ d.fs, f.1.size ≤ 140737488351232 ∧ f.2.size ≤ 140737488351232 := by
  obtain ⟨A0, n0, c0, rfl⟩ := okWide_slice Tryz.underlying22 hv
  obtain ⟨fuel, hf⟩ := h
  have hf : DataW.trod enc Tryz.prog W 0 (fun _ => true) true fuel 22 [.slice A0 n0 c0] = some (d, p) := by simpa [Value.cells] using hf
  have hnil := nil_addr Tryz.underlying22 hf
  obtain ⟨A, len, cap, vss, ds, spare, e, hl, hvl, h3, hR, hd, hx, hall⟩ := slice_at Tryz.underlying22 doc_cells (by omega) hf
  injection e with ea el ec
  subst ea el ec
  have hcap : n0 ≤ 8796093021952 := by
    rcases hx with hx | ⟨z0, _⟩
    · have hx : d = .slice ds spare := hx
      rw [hx] at hw
      have := weights_len Tryz.underlying22 hw
      rw [doc_bytes] at this
      omega
    · omega
  have each : ∀ i : Nat, ∃ d : Dc, ∀ (h1 : i < vss.length), DcV W W.heap.size d vss[i] ∧ (Lit.int .i64 d.seq).wf = true ∧ (Lit.int .i64 d.at_).wf = true ∧ ∀ f ∈ d.fs, f.1.size ≤ 140737488351232 ∧ f.2.size ≤ 140737488351232 := fun i => by
    by_cases hi : i < vss.length
    · obtain ⟨n', y, g1, g2⟩ := hall i hi (by omega)
      have hm : ds[i]'(by omega) ∈ ds := List.getElem_mem _
      rcases hx with hx | ⟨z0, _⟩
      · have hx : d = .slice ds spare := hx
        rw [hx] at hw
        obtain ⟨q, hq⟩ := doc_at g1 (by rw [g2]; exact weights_elem Tryz.underlying22 hw hm)
        exact ⟨q, fun _ => hq⟩
      · omega
    · exact ⟨⟨0, 0, []⟩, fun h => absurd h hi⟩
  obtain ⟨f, hf'⟩ := Classical.skolem.1 each
  refine ⟨A0, n0, c0, (List.range n0).map f, rfl, ⟨by simp, vss, hvl, hR, fun i h1 h2 => ?_⟩, hcap, hl, hnil, fun x hx => ?_, fun x hx => ?_⟩
  · have := (hf' i h2).1
    simpa using this
  · obtain ⟨i, hi, rfl⟩ := List.mem_map.1 hx
    have hi' : i < n0 := by simpa using hi
    exact ⟨(hf' i (by omega)).2.1, (hf' i (by omega)).2.2.1⟩
  · obtain ⟨i, hi, rfl⟩ := List.mem_map.1 hx
    have hi' : i < n0 := by simpa using hi
    exact (hf' i (by omega)).2.2.2
theorem event_in {v : Value} {d : DataW H} {p : List MemPlace} (hv : Value.okWide Tryz.prog W .any base 46 v) (h : DataW.Trod enc Tryz.prog W 0 (fun _ => true) true 46 v d p) (hw : ∀ n ∈ d.weights Tryz.prog 46, n ≤ 140737488351232) :
    ∃ (t : Int) (F : Option Addr) (n c : Nat) (fs : List (ByteArray × ByteArray)), v = .agg #[.int .i64 t, .slice F n c] ∧ Reads W W.heap.size 2 F n (fldC fs) ∧ fs.length = n ∧ n ≤ 8796093021952 ∧ n ≤ c ∧ (F = none → c = 0) ∧ (Lit.int .i64 t).wf = true ∧ ∀ f ∈ fs, f.1.size ≤ 140737488351232 ∧ f.2.size ≤ 140737488351232 := by
  obtain ⟨cs, rfl, _⟩ := okWide_struct Tryz.underlying46 hv
  obtain ⟨fuel, hf⟩ := h
  obtain ⟨t, F, n, c, fs, e, r⟩ := event_at hf hw
  obtain rfl : cs = #[.int .i64 t, .slice F n c] := by
    have e : cs.toList = _ := e
    exact Array.toList_inj.1 e
  exact ⟨t, F, n, c, fs, rfl, r⟩
theorem query_in {v : Value} {d : DataW H} {p : List MemPlace} (hv : Value.okWide Tryz.prog W .any base 27 v) (h : DataW.Trod enc Tryz.prog W 0 (fun _ => true) true 27 v d p) (hw : ∀ n ∈ d.weights Tryz.prog 27, n ≤ 140737488351232) :
    ∃ (a0 a1 a2 a3 : Value) (q : Q), v = .agg #[a0, a1, a2, a3] ∧ QAt W W.heap.size q [a0, a1, a2, a3] ∧ QSz q := by
  obtain ⟨cs, rfl, _⟩ := okWide_struct Tryz.underlying27 hv
  obtain ⟨fuel, hf⟩ := h
  obtain ⟨q, hq, hs⟩ := query_at _ _ _ _ (Nat.le_refl _) hf hw
  obtain ⟨k, nm, ws, l⟩ := q
  obtain ⟨A, n, c, C, m, d, e, _⟩ := hq.is
  have e' : cs = #[.int .i64 k, .string nm, .slice A n c, .slice C m d] := by
    have e : cs.toList = _ := e
    exact Array.toList_inj.1 e
  subst e'
  exact ⟨_, _, _, _, _, rfl, hq, hs⟩
end
end Go.Proofs.YtjeahdnbpiahaaaGreat.Qy
end

section
/- Counts of words: plain. No program in sight (but for the cells of a row). -/
namespace Go.Proofs.YtjeahdnbpiahaaaGreat.Gr
open Go.RowKit Go.Proofs.YtjeahdnbpiahaaaGreat Go.Proofs.YtjeahdnbpiahaaaGreat.Ut Go.Proofs.YtjeahdnbpiahaaaGreat.Tk
set_option linter.unusedVariables false
set_option linter.unusedSimpArgs false

/-- A word, and how many. -/
abbrev Ct := ByteArray × Int
def ctC (l : List Ct) : List Value := l.flatMap fun c => [.string c.1, .int .i64 c.2]
theorem ctC_len (l : List Ct) : (ctC l).length = l.length * 2 := by
  induction l with
  | nil => rfl
  | cons f fs ih => simp [ctC] at *; omega
theorem ctC_app (l m : List Ct) : ctC (l ++ m) = ctC l ++ ctC m := by simp [ctC]
theorem ctC_snoc (l : List Ct) (c : Ct) : ctC (l ++ [c]) = ctC l ++ [.string c.1, .int .i64 c.2] := by simp [ctC]
theorem ctC_get : ∀ (l : List Ct) (k : Nat) (h : k < l.length), (ctC l)[k * 2]? = some (.string l[k].1) ∧ (ctC l)[k * 2 + 1]? = some (.int .i64 l[k].2)
  | f :: fs, 0, _ => ⟨rfl, rfl⟩
  | f :: fs, k + 1, h => by
    have ih := ctC_get fs k (by simpa using h)
    have e1 : (k + 1) * 2 = k * 2 + 2 := by omega
    have e2 : (k + 1) * 2 + 1 = (k * 2 + 1) + 2 := by omega
    rw [e2, e1]
    exact ih
theorem ctC_one (l : List Ct) : ∀ u ∈ ctC l, u.oneCell' = true := by
  intro u hu
  unfold ctC at hu
  obtain ⟨f, _, hf⟩ := List.mem_flatMap.1 hu
  simp at hf
  rcases hf with rfl | rfl <;> rfl
theorem cts_at {w : World} {B n : Nat} {A : Option Addr} {l : List Ct} (h : Reads w B 2 A n (ctC l)) {k : Nat} (hk : k < l.length) :
    ∃ b o, A = some ⟨b, o, none⟩ ∧ b < B ∧ w.cell? ⟨b, o + k * 2, none⟩ = some (.string l[k].1) ∧ w.cell? ⟨b, o + k * 2 + 1, none⟩ = some (.int .i64 l[k].2) := by
  have hl := h.1
  rw [ctC_len] at hl
  obtain ⟨b, o, e, hb, hc⟩ := h.2 (by omega)
  have g := ctC_get l k hk
  refine ⟨b, o, e, hb, hc _ _ g.1, ?_⟩
  have := hc _ _ g.2
  rwa [← Nat.add_assoc] at this
theorem cts_len {w : World} {B n : Nat} {A : Option Addr} {l : List Ct} (h : Reads w B 2 A n (ctC l)) : l.length = n := by
  have := h.1
  rw [ctC_len] at this
  omega

def cut60 (s : ByteArray) : ByteArray := s.extract 0 60
theorem cut60_size (s : ByteArray) : (cut60 s).size ≤ 60 := by unfold cut60; rw [ByteArray.size_extract]; omega
theorem cut60_few (s : ByteArray) (h : s.size ≤ 60) : cut60 s = s := by
  unfold cut60
  rw [← of_str (s.extract 0 60), Lib.extract_data, List.drop_zero, List.take_of_length_le (by rw [bsize]; omega), of_str]
def shortR (l : List Ct) : List Ct := (l.take 30).map fun c => (cut60 c.1, c.2)
theorem shortR_len (l : List Ct) : (shortR l).length ≤ 30 := by unfold shortR; rw [List.length_map, List.length_take]; omega
theorem shortR_sz (l : List Ct) : ∀ c ∈ shortR l, c.1.size ≤ 60 := by
  intro c hc
  obtain ⟨x, _, rfl⟩ := List.mem_map.1 hc
  exact cut60_size _

/-- What one count must be, the one before it known. -/
def ltS (a b : ByteArray) : Bool := Op.bytesLess a.toList b.toList
def okK (l : List Ct) (k : Nat) : Bool :=
  match l[k]? with
  | none => true
  | some c => isW c.1.data.toList && decide (1 ≤ c.2) && decide (c.2 ≤ 1099511627776) && (decide (k = 0) || (match l[k - 1]? with | none => true | some p => ltS p.1 c.1))
def okR (l : List Ct) : Bool := (List.range l.length).all (okK l)
theorem okR_no {l : List Ct} {k : Nat} (hk : k < l.length) (h : okK l k = false) : okR l = false := by
  unfold okR
  rw [List.all_eq_false]
  exact ⟨k, List.mem_range.2 hk, by rw [h]; decide⟩
theorem okR_yes {l : List Ct} (h : ∀ k, k < l.length → okK l k = true) : okR l = true := by
  unfold okR
  rw [List.all_eq_true]
  exact fun k hk => h k (List.mem_range.1 hk)
theorem okK_eq {l : List Ct} {k : Nat} (hk : k < l.length) : okK l k = (isW l[k].1.data.toList && decide (1 ≤ l[k].2) && decide (l[k].2 ≤ 1099511627776) && (decide (k = 0) || ltS (l[k - 1]'(by omega)).1 l[k].1)) := by
  unfold okK
  rw [List.getElem?_eq_getElem hk, List.getElem?_eq_getElem (show k - 1 < l.length by omega)]

/-- The sum, as a machine makes it. -/
def totR (l : List Ct) : Int := l.foldl (fun n c => IntKind.i64.wrap (n + c.2)) 0
theorem totR_snoc (l : List Ct) (k : Nat) (h : k < l.length) : totR (l.take (k + 1)) = IntKind.i64.wrap (totR (l.take k) + l[k].2) := by
  unfold totR
  rw [List.take_succ_eq_append_getElem h, List.foldl_append]
  rfl

/-- A row of the call's own. -/
def CtPost (ty : TypeId) (w : World) (l : List Ct) (e : Ending) (w' : World) : Prop := ∃ v, e = .returned v ∧ w'.ownsRow w.heap.size ty 2 v l.length (ctC l) ∧ Below w.heap.size w w'
/-- The same, on the way. -/
structure Cts (ty : TypeId) (w wr : World) (v : Value) (l : List Ct) : Prop where
  own : wr.ownsRow w.heap.size ty 2 v l.length (ctC l)
  bel : Below w.heap.size w wr
theorem Cts.start (ty : TypeId) (w : World) : Cts ty w w (.slice none 0 0) [] := ⟨World.ownsRow_nil _ _ _ _, Below.refl _ _⟩
theorem Cts.below {ty : TypeId} {w wr w2 : World} {v : Value} {l : List Ct} (h : Cts ty w wr v l) (hb : Below wr.heap.size wr w2) : Cts ty w w2 v l := ⟨h.own.kept (grow_of_below hb none) (by cases hv : v.ownBlock <;> simp), h.bel.trans (hb.mono h.bel.size)⟩
theorem Cts.put {ty : TypeId} {w wr w2 : World} {v v' : Value} {l : List Ct} {x : Ct} (h : Cts ty w wr v l)
    (hp : w2.ownsRow w.heap.size ty 2 v' (l.length + 1) (ctC l ++ [.string x.1, .int .i64 x.2])) (hg : wr.grownBy w2 v.ownBlock) : Cts ty w w2 v' (l ++ [x]) := by
  refine ⟨?_, h.bel.grown hg h.bel.size (fun k hk => (h.own.lt k hk).1)⟩
  rw [ctC_snoc, List.length_append]
  exact hp
theorem rcount_info : (Tryz.prog.info? 71).map (fun i => (i.zero, i.size, i.bytes)) = some (some (.agg #[.string ByteArray.empty, .int .i64 0]), 2, 24) := by kernel_rfl
theorem gcount_info : (Tryz.prog.info? 54).map (fun i => (i.zero, i.size, i.bytes)) = some (some (.agg #[.string ByteArray.empty, .int .i64 0]), 2, 24) := by kernel_rfl
end Go.Proofs.YtjeahdnbpiahaaaGreat.Gr
end

section
/- loggialaw30.short, of; Total, twice: the walks. -/
namespace Go.Proofs.YtjeahdnbpiahaaaGreat.Gr
open Go.RowKit Go.Proofs.YtjeahdnbpiahaaaGreat Go.Proofs.YtjeahdnbpiahaaaGreat.Ut Go.Proofs.YtjeahdnbpiahaaaGreat.Tk
set_option linter.unusedVariables false
set_option maxRecDepth 20000
set_option linter.unusedSimpArgs false

end Go.Proofs.YtjeahdnbpiahaaaGreat.Gr
end
