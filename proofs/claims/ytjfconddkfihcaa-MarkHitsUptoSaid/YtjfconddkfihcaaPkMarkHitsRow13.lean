/- Queries, events, docs that came in, opened out of a law's arguments. -/
import Derived.Deep.Strs
import Derived.Lib.SlicesS
import Derived.Test.YtjfconddkfihcaaPkMarkHitsRow12
import Derived.Test.YtjfconddkfihcaaPkMarkHitsRow7
import Derived.Test.YtjfconddkfihcaaPkMarkHitsRow1
section
namespace Go.Proofs.Ytjfconddkfihcaa.Qy
set_option maxRecDepth 20000
open Go.RowKit Go.ChangeShapes Go.WideShapes Go.ChangeAt Go.Deep Go.Joins Go.Proofs.Ytjfconddkfihcaa
section
variable {H : Type} {enc : TypeId × Value → H} {W : World} {base : Nat}
theorem field_cells : Try.prog.cellsOf 54 = 2 := by kernel_rfl
theorem field_bytes : Try.prog.bytesOf 54 = 32 := by kernel_rfl
theorem doc_cells : Try.prog.cellsOf 80 = 3 := by kernel_rfl
theorem doc_bytes : Try.prog.bytesOf 80 = 40 := by kernel_rfl
theorem event_cells : Try.prog.cellsOf 49 = 2 := by kernel_rfl
theorem int_cells : Try.prog.cellsOf 3 = 1 := by kernel_rfl
theorem fields_cells : Try.prog.cellsOf 47 = 1 := by kernel_rfl
theorem len_two {α : Type} {l : List α} (h : l.length = 2) : ∃ a b, l = [a, b] := by
  match l, h with
  | [a, b], _ => exact ⟨a, b, rfl⟩
theorem nil_addr {t e : TypeId} {fuel : Nat} {P : Program} {A : Option Addr} {len cap : Nat} {x : DataW H × List MemPlace} (ht : P.underlying t = some (.slice e)) (h : DataW.trod enc P W 0 (fun _ => true) true fuel t [.slice A len cap] = some x) : A = none → cap = 0 := by
  rcases open_slice ht h with ⟨hcs, _⟩ | ⟨a, len, cap, m, n, D, Pl, hcs, _⟩
  · simp only [List.cons.injEq, and_true, Value.slice.injEq] at hcs
    exact fun _ => hcs.2.2
  · simp only [List.cons.injEq, and_true, Value.slice.injEq] at hcs
    intro h
    rw [h] at hcs
    cases hcs.1
/-- A row of fields that came in. -/
theorem fields_in {fuel : Nat} {v : Value} {x : DataW H × List MemPlace} (h : DataW.trod enc Try.prog W 0 (fun _ => true) true fuel 47 [v] = some x) (hw : ∀ n ∈ x.1.weights Try.prog 47, n ≤ 140737488351232) :
    ∃ (F : Option Addr) (n c : Nat) (fs : List (ByteArray × ByteArray)), v = .slice F n c ∧ Reads W W.heap.size 2 F n (fldC fs) ∧ fs.length = n ∧ n ≤ 8796093021952 ∧ n ≤ c ∧ (F = none → c = 0) ∧ ∀ f ∈ fs, f.1.size ≤ 140737488351232 ∧ f.2.size ≤ 140737488351232 := by
  obtain ⟨A, len, cap, vss, ds, spare, rfl, hl, hv, h2, hR, hd, hx, hall⟩ := slice_at Try.underlying47 field_cells (by omega) h
  have hnil := nil_addr Try.underlying47 h
  have each : ∀ i : Nat, ∃ f : ByteArray × ByteArray, ∀ (h1 : i < vss.length) (h2 : i < ds.length), vss[i] = [.string f.1, .string f.2] ∧ ds[i] = .agg [.lit (.string f.1.data.toList), .lit (.string f.2.data.toList)] := fun i => by
    by_cases hi : i < vss.length ∧ i < ds.length
    · obtain ⟨n, y, g1, g2⟩ := hall i hi.1 hi.2
      obtain ⟨y0, y1, n', rfl, hlen, t0, t1⟩ := trod_struct2 Try.underlying54 g1
      have hvl := h2 _ (List.getElem_mem hi.1)
      obtain ⟨u0, u1, hu⟩ := len_two hvl
      rw [hu] at t0 t1
      simp only [string_cells, List.drop_zero, List.drop_succ_cons, List.take_succ_cons, List.take_zero] at t0 t1
      obtain ⟨s0, e0, rfl, _⟩ := DataW.trod_string Try.underlying9 t0
      obtain ⟨s1, e1, rfl, _⟩ := DataW.trod_string Try.underlying9 t1
      simp only [List.cons.injEq, and_true] at e0 e1
      subst e0 e1
      exact ⟨(s0, s1), fun _ _ => ⟨hu, g2.symm⟩⟩
    · exact ⟨(ByteArray.empty, ByteArray.empty), fun h1 h2 => absurd ⟨h1, h2⟩ hi⟩
  obtain ⟨f, hf⟩ := Classical.skolem.1 each
  have hlen : ((List.range len).map f).length = len := by simp
  have e : vss.flatten = fldC ((List.range len).map f) := by
    apply List.ext_getElem?
    intro j
    by_cases hj : j < len * 2
    · have hi : j / 2 < vss.length := by omega
      have hg := fldC_get ((List.range len).map f) (j / 2) (by rw [hlen]; omega)
      have hfi := (hf (j / 2) hi (by omega)).1
      have hget : ((List.range len).map f)[j / 2]'(by rw [hlen]; omega) = f (j / 2) := by simp
      rw [hget] at hg
      rcases Nat.mod_two_eq_zero_or_one j with e0 | e1
      · have h0 := flat_get h2 (j / 2) 0 hi (by omega)
        have e : j = j / 2 * 2 := by omega
        rw [hfi, Nat.add_zero] at h0
        rw [e, h0, hg.1]
        rfl
      · have h0 := flat_get h2 (j / 2) 1 hi (by omega)
        have e : j = j / 2 * 2 + 1 := by omega
        rw [hfi] at h0
        rw [e, h0, hg.2]
        rfl
    · rw [List.getElem?_eq_none (by rw [flat_len h2]; omega), List.getElem?_eq_none (by rw [fldC_len, hlen]; omega)]
  rw [e] at hR
  have hbd : len ≤ 8796093021952 ∧ ∀ i, i < len → (f i).1.size ≤ 140737488351232 ∧ (f i).2.size ≤ 140737488351232 := by
    rcases hx with hx | ⟨h0, _⟩
    · rw [hx] at hw
      have h3 := weights_len Try.underlying47 hw
      rw [field_bytes] at h3
      refine ⟨by omega, fun i hi => ?_⟩
      have hm : ds[i]'(by omega) ∈ ds := List.getElem_mem _
      have h4 := weights_elem Try.underlying47 hw hm
      rw [(hf i (by omega) (by omega)).2] at h4
      have g0 := weights_part (j := 0) Try.underlying54 h4 rfl rfl (f i).1.data.toList.length (by simp [DataW.weights])
      have g1 := weights_part (j := 1) Try.underlying54 h4 rfl rfl (f i).2.data.toList.length (by simp [DataW.weights])
      rw [bsize] at g0 g1
      exact ⟨g0, g1⟩
    · exact ⟨by omega, fun i hi => by omega⟩
  exact ⟨A, len, cap, _, rfl, hR, hlen, hbd.1, hl, hnil, fun s hs => by
    obtain ⟨i, hi, rfl⟩ := List.mem_map.1 hs
    exact hbd.2 i (by simpa using hi)⟩
/-- An event that came in, from its two cells. -/
theorem event_at {fuel : Nat} {cs : List Value} {x : DataW H × List MemPlace} (h : DataW.trod enc Try.prog W 0 (fun _ => true) true fuel 49 cs = some x) (hw : ∀ n ∈ x.1.weights Try.prog 49, n ≤ 140737488351232) :
    ∃ (t : Int) (F : Option Addr) (n c : Nat) (fs : List (ByteArray × ByteArray)), cs = [.int .i64 t, .slice F n c] ∧ Reads W W.heap.size 2 F n (fldC fs) ∧ fs.length = n ∧ n ≤ 8796093021952 ∧ n ≤ c ∧ (F = none → c = 0) ∧ (Lit.int .i64 t).wf = true ∧ ∀ f ∈ fs, f.1.size ≤ 140737488351232 ∧ f.2.size ≤ 140737488351232 := by
  obtain ⟨y0, y1, n', rfl, hlen, t0, t1⟩ := trod_struct2 Try.underlying49 h
  rw [event_cells] at hlen
  match cs, hlen with
  | [u0, u1], _ =>
    simp only [int_cells, fields_cells, List.drop_zero, List.drop_succ_cons, List.take_succ_cons, List.take_zero] at t0 t1
    obtain ⟨k, e0, rfl, wk⟩ := DataW.trod_int Try.underlying3 t0
    simp only [List.cons.injEq, and_true] at e0
    subst e0
    obtain ⟨F, n, c, fs, rfl, hR, h1, h2, h3, h4, h5⟩ := fields_in t1 (weights_part (j := 1) Try.underlying49 hw rfl rfl)
    exact ⟨k, F, n, c, fs, rfl, hR, h1, h2, h3, h4, wk, h5⟩
/-- A doc that came in, from its three cells. -/
theorem doc_at {fuel : Nat} {cs : List Value} {x : DataW H × List MemPlace} (h : DataW.trod enc Try.prog W 0 (fun _ => true) true fuel 80 cs = some x) (hw : ∀ n ∈ x.1.weights Try.prog 80, n ≤ 140737488351232) :
    ∃ d : Dc, DcV W W.heap.size d cs ∧ (Lit.int .i64 d.seq).wf = true ∧ (Lit.int .i64 d.at_).wf = true ∧ ∀ f ∈ d.fs, f.1.size ≤ 140737488351232 ∧ f.2.size ≤ 140737488351232 := by
  obtain ⟨y0, y1, n', rfl, hlen, t0, t1⟩ := trod_struct2 Try.underlying80 h
  rw [doc_cells] at hlen
  match cs, hlen with
  | [u0, u1, u2], _ =>
    simp only [int_cells, event_cells, List.drop_zero, List.drop_succ_cons, List.take_succ_cons, List.take_zero] at t0 t1
    obtain ⟨k, e0, rfl, wk⟩ := DataW.trod_int Try.underlying3 t0
    simp only [List.cons.injEq, and_true] at e0
    subst e0
    obtain ⟨t, F, n, c, fs, e1, hR, h1, h2, h3, h4, wt, h5⟩ := event_at t1 (weights_part (j := 1) Try.underlying80 hw rfl rfl)
    simp only [List.cons.injEq, and_true] at e1
    obtain ⟨rfl, rfl⟩ := e1
    exact ⟨⟨k, t, fs⟩, ⟨F, n, c, rfl, hR, h1, h2, h3, h4⟩, wk, wt, h5⟩
theorem docs_in {v : Value} {d : DataW H} {p : List MemPlace} (hv : Value.okWide Try.prog W .any base 75 v) (h : DataW.Trod enc Try.prog W 0 (fun _ => true) true 75 v d p) (hw : ∀ n ∈ d.weights Try.prog 75, n ≤ 140737488351232) :
    ∃ (A : Option Addr) (n c : Nat) (l : List Dc), v = .slice A n c ∧ DocsAt W W.heap.size A n l ∧ n ≤ 8796093021952 ∧ n ≤ c ∧ (A = none → c = 0) ∧ (∀ d ∈ l, (Lit.int .i64 d.seq).wf = true ∧ (Lit.int .i64 d.at_).wf = true) ∧ ∀ d ∈ l, ∀ f ∈ d.fs, f.1.size ≤ 140737488351232 ∧ f.2.size ≤ 140737488351232 := by
  obtain ⟨A0, n0, c0, rfl⟩ := okWide_slice Try.underlying75 hv
  obtain ⟨fuel, hf⟩ := h
  have hf : DataW.trod enc Try.prog W 0 (fun _ => true) true fuel 75 [.slice A0 n0 c0] = some (d, p) := by simpa [Value.cells] using hf
  have hnil := nil_addr Try.underlying75 hf
  obtain ⟨A, len, cap, vss, ds, spare, e, hl, hvl, h3, hR, hd, hx, hall⟩ := slice_at Try.underlying75 doc_cells (by omega) hf
  injection e with ea el ec
  subst ea el ec
  have hcap : n0 ≤ 8796093021952 := by
    rcases hx with hx | ⟨z0, _⟩
    · have hx : d = .slice ds spare := hx
      rw [hx] at hw
      have := weights_len Try.underlying75 hw
      rw [doc_bytes] at this
      omega
    · omega
  have each : ∀ i : Nat, ∃ d : Dc, ∀ (h1 : i < vss.length), DcV W W.heap.size d vss[i] ∧ (Lit.int .i64 d.seq).wf = true ∧ (Lit.int .i64 d.at_).wf = true ∧ ∀ f ∈ d.fs, f.1.size ≤ 140737488351232 ∧ f.2.size ≤ 140737488351232 := fun i => by
    by_cases hi : i < vss.length
    · obtain ⟨n', y, g1, g2⟩ := hall i hi (by omega)
      have hm : ds[i]'(by omega) ∈ ds := List.getElem_mem _
      rcases hx with hx | ⟨z0, _⟩
      · have hx : d = .slice ds spare := hx
        rw [hx] at hw
        obtain ⟨q, hq⟩ := doc_at g1 (by rw [g2]; exact weights_elem Try.underlying75 hw hm)
        exact ⟨q, fun _ => hq⟩
      · omega
    · exact ⟨⟨0, 0, []⟩, fun h => absurd h hi⟩
  obtain ⟨f, hf'⟩ := Classical.skolem.1 each
  refine ⟨A0, n0, c0, (List.range n0).map f, rfl, ⟨by simp, vss, hvl, hR, fun i h1 h2 => ?_⟩, hcap, hl, hnil, fun x hx => ?_, fun x hx => ?_⟩
  · have := (hf' i h2).1
    simpa using this
  · obtain ⟨i, hi, rfl⟩ := List.mem_map.1 hx
    have hi' : i < n0 := by simpa using hi
    exact ⟨(hf' i (by omega)).2.1, (hf' i (by omega)).2.2.1⟩
  · obtain ⟨i, hi, rfl⟩ := List.mem_map.1 hx
    have hi' : i < n0 := by simpa using hi
    exact (hf' i (by omega)).2.2.2
theorem event_in {v : Value} {d : DataW H} {p : List MemPlace} (hv : Value.okWide Try.prog W .any base 49 v) (h : DataW.Trod enc Try.prog W 0 (fun _ => true) true 49 v d p) (hw : ∀ n ∈ d.weights Try.prog 49, n ≤ 140737488351232) :
    ∃ (t : Int) (F : Option Addr) (n c : Nat) (fs : List (ByteArray × ByteArray)), v = .agg #[.int .i64 t, .slice F n c] ∧ Reads W W.heap.size 2 F n (fldC fs) ∧ fs.length = n ∧ n ≤ 8796093021952 ∧ n ≤ c ∧ (F = none → c = 0) ∧ (Lit.int .i64 t).wf = true ∧ ∀ f ∈ fs, f.1.size ≤ 140737488351232 ∧ f.2.size ≤ 140737488351232 := by
  obtain ⟨cs, rfl, _⟩ := okWide_struct Try.underlying49 hv
  obtain ⟨fuel, hf⟩ := h
  obtain ⟨t, F, n, c, fs, e, r⟩ := event_at hf hw
  obtain rfl : cs = #[.int .i64 t, .slice F n c] := by
    have e : cs.toList = _ := e
    exact Array.toList_inj.1 e
  exact ⟨t, F, n, c, fs, rfl, r⟩
theorem query_in {v : Value} {d : DataW H} {p : List MemPlace} (hv : Value.okWide Try.prog W .any base 37 v) (h : DataW.Trod enc Try.prog W 0 (fun _ => true) true 37 v d p) (hw : ∀ n ∈ d.weights Try.prog 37, n ≤ 140737488351232) :
    ∃ (a0 a1 a2 a3 : Value) (q : Q), v = .agg #[a0, a1, a2, a3] ∧ QAt W W.heap.size q [a0, a1, a2, a3] ∧ QSz q := by
  obtain ⟨cs, rfl, _⟩ := okWide_struct Try.underlying37 hv
  obtain ⟨fuel, hf⟩ := h
  obtain ⟨q, hq, hs⟩ := query_at _ _ _ _ (Nat.le_refl _) hf hw
  obtain ⟨k, nm, ws, l⟩ := q
  obtain ⟨A, n, c, C, m, d, e, _⟩ := hq.is
  have e' : cs = #[.int .i64 k, .string nm, .slice A n c, .slice C m d] := by
    have e : cs.toList = _ := e
    exact Array.toList_inj.1 e
  subst e'
  exact ⟨_, _, _, _, _, rfl, hq, hs⟩
end
end Go.Proofs.Ytjfconddkfihcaa.Qy
end

section
/- token.Term, Split; strings.Cut at a colon: the walks. -/
namespace Go.Proofs.Ytjfconddkfihcaa.Tk
open Go.RowKit Go.Proofs.Ytjfconddkfihcaa.Ut
set_option maxRecDepth 20000

theorem colon_index (s : ByteArray) : Lib.indexByte s.data.toList 58 = if colonAt s.data.toList < s.size then ((colonAt s.data.toList : Nat) : Int) else -1 := by
  rw [← bsize]
  unfold colonAt
  generalize s.data.toList = l
  induction l with
  | nil => rfl
  | cons x l ih =>
    rw [Lib.indexByte, List.findIdx_cons]
    by_cases hx : (x == 58) = true
    · rw [hx]; simp
    · have hx' : (x == 58) = false := by simpa using hx
      rw [hx', ih]
      simp only [Bool.false_eq_true, if_false, cond_false, List.length_cons]
      generalize l.findIdx (fun x => x == 58) = n
      by_cases h : n < l.length
      · have h' : n + 1 < l.length + 1 := by omega
        rw [if_pos h, if_pos h', if_neg (by simp)]
        simp
      · have h' : ¬ n + 1 < l.length + 1 := by omega
        rw [if_neg h, if_neg h']
        simp

def colonS : ByteArray := ⟨#[58]⟩
theorem index_colon (s : ByteArray) (w : World) : Calls Try.prog 127 #[.string s, .string colonS] w fun e w' => e = .returned (.int .i64 (if colonAt s.data.toList < s.size then ((colonAt s.data.toList : Nat) : Int) else -1)) ∧ w = w' :=
  (Try.stringslite_Index_one s 58 w).mono fun _ _ ⟨he, hw⟩ => ⟨by rw [he, colon_index], hw.symm⟩
/-- Before the first colon; behind it. -/
def bef (s : ByteArray) : ByteArray := s.extract 0 (colonAt s.data.toList)
def beh (s : ByteArray) : ByteArray := s.extract (colonAt s.data.toList + 1) s.size
theorem bef_data (s : ByteArray) : (bef s).data.toList = s.data.toList.take (colonAt s.data.toList) := by unfold bef; rw [Lib.extract_data]; simp
theorem beh_data (s : ByteArray) : (beh s).data.toList = s.data.toList.drop (colonAt s.data.toList + 1) := by
  unfold beh; rw [Lib.extract_data, List.take_of_length_le (by rw [List.length_drop, bsize]; omega)]
theorem bef_size (s : ByteArray) : (bef s).size ≤ s.size := by unfold bef; rw [ByteArray.size_extract]; omega
theorem beh_size (s : ByteArray) : (beh s).size ≤ s.size := by unfold beh; rw [ByteArray.size_extract]; omega

set_option maxHeartbeats 400000 in
theorem lcut_yes (s : ByteArray) (w : World) (hs : s.size ≤ 1048576) (h : colonAt s.data.toList < s.size) : Calls Try.prog 107 #[.string s, .string colonS] w fun e w' => e = .returned (.tuple #[.string (bef s), .string (beh s), .bool true]) ∧ Below w.heap.size w w' := by
  have c := index_colon s w
  rw [if_pos h] at c
  have F1 : Hid (bef s = s.extract 0 (colonAt s.data.toList)) := rfl
  have F2 : Hid (beh s = s.extract (colonAt s.data.toList + 1) s.size) := rfl
  have hcs : colonS.size = 1 := rfl
  generalize colonAt s.data.toList = k at *
  generalize bef s = x at *
  generalize beh s = y at *
  have h0 : (0 : Int) ≤ (k : Int) := by omega
  have h1 : (k : Int) ≤ (s.size : Int) := by omega
  have h2 : IntKind.i64.wrap ((k : Int) + 1) = (k : Int) + 1 := IntWalk.i64_in _ (by omega)
  have h3 : (0 : Int) ≤ (k : Int) + 1 := by omega
  have h4 : (k : Int) + 1 ≤ (s.size : Int) := by omega
  go_enter Try.func107, Try.ntmps107
  go_wp2_with (go_at_call 127; refine c.mono ?_; rintro e w' ⟨rfl, rfl⟩)
  go_region
  go_wp2
  go_ret3
  rw [F1.out, F2.out]
  exact ⟨rfl, (Below.refl _ _).drew⟩
theorem lcut_no (s : ByteArray) (w : World) (h : ¬ colonAt s.data.toList < s.size) : Calls Try.prog 107 #[.string s, .string colonS] w fun e w' => e = .returned (.tuple #[.string s, .string ByteArray.empty, .bool false]) ∧ Below w.heap.size w w' := by
  have c := index_colon s w
  rw [if_neg h] at c
  clear h
  go_enter Try.func107, Try.ntmps107
  go_wp2_with (go_at_call 127; refine c.mono ?_; rintro e w' ⟨rfl, rfl⟩)
  go_ret3
  exact ⟨rfl, Below.refl _ _⟩
theorem cut_yes (s : ByteArray) (w : World) (hs : s.size ≤ 1048576) (h : colonAt s.data.toList < s.size) : Calls Try.prog 79 #[.string s, .string colonS] w fun e w' => e = .returned (.tuple #[.string (bef s), .string (beh s), .bool true]) ∧ Below w.heap.size w w' := by
  have c := lcut_yes s w hs h
  go_enter Try.func79, Try.ntmps79
  go_wp2_with (go_at_call 107; refine c.mono ?_; rintro e w2 ⟨rfl, hb2⟩)
  go_ret3
  exact ⟨rfl, hb2⟩
theorem cut_no (s : ByteArray) (w : World) (h : ¬ colonAt s.data.toList < s.size) : Calls Try.prog 79 #[.string s, .string colonS] w fun e w' => e = .returned (.tuple #[.string s, .string ByteArray.empty, .bool false]) ∧ Below w.heap.size w w' := by
  have c := lcut_no s w h
  go_enter Try.func79, Try.ntmps79
  go_wp2_with (go_at_call 107; refine c.mono ?_; rintro e w2 ⟨rfl, hb2⟩)
  go_ret3
  exact ⟨rfl, hb2⟩

/-- A term of two texts, or none. -/
def termV (a b : ByteArray) : ByteArray := str (term a.data.toList b.data.toList)
def termOk (a b : ByteArray) : Bool := isN a.data.toList && isW b.data.toList
theorem termV_eq (a b : ByteArray) : a ++ colonS ++ b = termV a b := by
  have h : ∀ x y : ByteArray, (x ++ y).data.toList = x.data.toList ++ y.data.toList := fun x y => by simp
  rw [← of_str (a ++ colonS ++ b)]
  unfold termV term
  rw [h, h]
  simp [colonS]
set_option maxHeartbeats 400000 in
theorem term_noB (a b : ByteArray) (w : World) (ha : a.size ≤ 140737488351232) (hb : b.size ≤ 140737488351232) (h : termOk a b = false) : Calls Try.prog 42 #[.string a, .string b] w fun e w' => e = .returned (.tuple #[.string ByteArray.empty, .int .i64 1]) ∧ Below w.heap.size w w' := by
  have c1 := isName_anyB a w ha
  by_cases hn : isN a.data.toList = true
  · have hw : isW b.data.toList = false := by unfold termOk at h; rw [hn, Bool.true_and] at h; exact h
    have c2 := fun wx => isWord_anyB b wx hb
    rw [hn] at c1
    rw [hw] at c2
    have C2 := Lib.hid c2
    clear hn hw c2 h
    go_enter Try.func42, Try.ntmps42
    go_wp2_with (first | (go_at_call 48; refine c1.mono ?_; rintro e w2 ⟨rfl, hb2⟩) | (go_at_call 46; refine (C2.out _).mono ?_; rintro e w3 ⟨rfl, hb3⟩))
    go_ret2
    exact ⟨rfl, hb2.trans (hb3.mono hb2.size)⟩
  · have hn' : isN a.data.toList = false := by simpa using hn
    rw [hn'] at c1
    clear hn hn' h
    go_enter Try.func42, Try.ntmps42
    go_wp2_with (go_at_call 48; refine c1.mono ?_; rintro e w2 ⟨rfl, hb2⟩)
    go_ret2
    exact ⟨rfl, hb2⟩
theorem term_no (a b : ByteArray) (w : World) (ha : a.size ≤ 1048576) (hb : b.size ≤ 1048576) (h : termOk a b = false) : Calls Try.prog 42 #[.string a, .string b] w fun e w' => e = .returned (.tuple #[.string ByteArray.empty, .int .i64 1]) ∧ Below w.heap.size w w' :=
  term_noB a b w (by omega) (by omega) h
set_option maxHeartbeats 400000 in
theorem term_yesB (a b : ByteArray) (w : World) (ha : a.size ≤ 140737488351232) (hb : b.size ≤ 140737488351232) (h : termOk a b = true) : Calls Try.prog 42 #[.string a, .string b] w fun e w' => e = .returned (.tuple #[.string (termV a b), .int .i64 0]) ∧ Below w.heap.size w w' := by
  unfold termOk at h
  rw [Bool.and_eq_true] at h
  have c1 := isName_anyB a w ha
  have c2 := fun wx => isWord_anyB b wx hb
  rw [h.1] at c1
  rw [h.2] at c2
  have C2 := Lib.hid c2
  have F : Hid (a ++ colonS ++ b = termV a b) := Lib.hid (termV_eq a b)
  clear h c2
  generalize termV a b = t at *
  go_enter Try.func42, Try.ntmps42
  go_wp2_with (first | (go_at_call 48; refine c1.mono ?_; rintro e w2 ⟨rfl, hb2⟩) | (go_at_call 46; refine (C2.out _).mono ?_; rintro e w3 ⟨rfl, hb3⟩))
  go_ret2
  rw [← F.out]
  exact ⟨rfl, hb2.trans (hb3.mono hb2.size)⟩

theorem term_yes (a b : ByteArray) (w : World) (ha : a.size ≤ 1048576) (hb : b.size ≤ 1048576) (h : termOk a b = true) : Calls Try.prog 42 #[.string a, .string b] w fun e w' => e = .returned (.tuple #[.string (termV a b), .int .i64 0]) ∧ Below w.heap.size w w' :=
  term_yesB a b w (by omega) (by omega) h
/-- What Split hands back. -/
def splitV (s : ByteArray) : Value := if splitOk s.data.toList = true then .tuple #[.string (bef s), .string (beh s), .bool true] else .tuple #[.string ByteArray.empty, .string ByteArray.empty, .bool false]
set_option maxHeartbeats 800000 in
theorem split_any (s : ByteArray) (w : World) (hs : s.size ≤ 1048576) : Calls Try.prog 44 #[.string s] w fun e w' => e = .returned (splitV s) ∧ Below w.heap.size w w' := by
  by_cases h : colonAt s.data.toList < s.size
  · have c0 := cut_yes s w hs h
    have c1 := fun wx => isName_any (bef s) wx (by have := bef_size s; omega)
    have c2 := fun wx => isWord_any (beh s) wx (by have := beh_size s; omega)
    have F : Hid (splitOk s.data.toList = (isN (bef s).data.toList && isW (beh s).data.toList)) := Lib.hid (by
      unfold splitOk; rw [bef_data, beh_data, decide_eq_true (by rw [bsize]; exact h), Bool.true_and])
    have G : Hid (splitV s = if splitOk s.data.toList = true then .tuple #[.string (bef s), .string (beh s), .bool true] else .tuple #[.string ByteArray.empty, .string ByteArray.empty, .bool false]) := rfl
    generalize splitV s = sp at *
    generalize bef s = x at *
    generalize beh s = y at *
    by_cases hn : isN x.data.toList = true
    · rw [hn] at c1 F
      by_cases hw : isW y.data.toList = true
      · rw [hw] at c2 F
        have G2 : Hid (sp = .tuple #[.string x, .string y, .bool true]) := Lib.hid (by rw [G.out, F.out]; rfl)
        have C1 := Lib.hid c1
        have C2 := Lib.hid c2
        clear hn hw c1 c2 h
        go_enter Try.func44, Try.ntmps44
        go_wp2_with (first | (go_at_call 79; refine c0.mono ?_; rintro e w1 ⟨rfl, hb1⟩) | (go_at_call 48; refine (C1.out _).mono ?_; rintro e w2 ⟨rfl, hb2⟩) | (go_at_call 46; refine (C2.out _).mono ?_; rintro e w3 ⟨rfl, hb3⟩))
        go_ret3
        exact ⟨by rw [G2.out]; rfl, (hb1.trans (hb2.mono hb1.size)).trans (hb3.mono (Nat.le_trans hb1.size hb2.size))⟩
      · have hw' : isW y.data.toList = false := by simpa using hw
        rw [hw'] at c2 F
        have G2 : Hid (sp = .tuple #[.string ByteArray.empty, .string ByteArray.empty, .bool false]) := Lib.hid (by rw [G.out, F.out]; rfl)
        have C1 := Lib.hid c1
        have C2 := Lib.hid c2
        clear hn hw hw' c1 c2 h
        go_enter Try.func44, Try.ntmps44
        go_wp2_with (first | (go_at_call 79; refine c0.mono ?_; rintro e w1 ⟨rfl, hb1⟩) | (go_at_call 48; refine (C1.out _).mono ?_; rintro e w2 ⟨rfl, hb2⟩) | (go_at_call 46; refine (C2.out _).mono ?_; rintro e w3 ⟨rfl, hb3⟩))
        go_ret3
        exact ⟨by rw [G2.out]; rfl, (hb1.trans (hb2.mono hb1.size)).trans (hb3.mono (Nat.le_trans hb1.size hb2.size))⟩
    · have hn' : isN x.data.toList = false := by simpa using hn
      rw [hn'] at c1 F
      have G2 : Hid (sp = .tuple #[.string ByteArray.empty, .string ByteArray.empty, .bool false]) := Lib.hid (by rw [G.out, F.out]; rfl)
      have C1 := Lib.hid c1
      clear hn hn' c1 c2 h
      go_enter Try.func44, Try.ntmps44
      go_wp2_with (first | (go_at_call 79; refine c0.mono ?_; rintro e w1 ⟨rfl, hb1⟩) | (go_at_call 48; refine (C1.out _).mono ?_; rintro e w2 ⟨rfl, hb2⟩))
      go_ret3
      exact ⟨by rw [G2.out]; rfl, hb1.trans (hb2.mono hb1.size)⟩
  · have c0 := cut_no s w h
    have G2 : Hid (splitV s = .tuple #[.string ByteArray.empty, .string ByteArray.empty, .bool false]) := Lib.hid (by
      unfold splitV splitOk; rw [decide_eq_false (by rw [bsize]; exact h)]; rfl)
    clear h
    generalize splitV s = sp at *
    go_enter Try.func44, Try.ntmps44
    go_wp2_with (go_at_call 79; refine c0.mono ?_; rintro e w1 ⟨rfl, hb1⟩)
    go_ret3
    exact ⟨by rw [G2.out]; rfl, hb1⟩
end Go.Proofs.Ytjfconddkfihcaa.Tk
end

section
/- What a query needs. No program. -/
namespace Go.Proofs.Ytjfconddkfihcaa.Qy
open Go.RowKit Go.Proofs.Ytjfconddkfihcaa

/-- One more, once. -/
def add1 (l : List ByteArray) (t : ByteArray) : List ByteArray := if Lib.containsS l t = true then l else l ++ [t]
def addL (l ts : List ByteArray) : List ByteArray := ts.foldl add1 l
theorem addL_nil (l : List ByteArray) : addL l [] = l := rfl
theorem addL_one (l : List ByteArray) (t : ByteArray) : addL l [t] = add1 l t := rfl
theorem addL_append (l a b : List ByteArray) : addL l (a ++ b) = addL (addL l a) b := List.foldl_append
theorem addL_take (l ts : List ByteArray) (k : Nat) (h : k < ts.length) : addL l (ts.take (k + 1)) = add1 (addL l (ts.take k)) ts[k] := by
  rw [List.take_succ_eq_append_getElem h, addL_append]; rfl
theorem add1_len (l : List ByteArray) (t : ByteArray) : (add1 l t).length ≤ l.length + 1 ∧ l.length ≤ (add1 l t).length := by
  unfold add1; split <;> simp
theorem addL_len (ts : List ByteArray) : ∀ l, (addL l ts).length ≤ l.length + ts.length := by
  induction ts with
  | nil => intro l; simp [addL]
  | cons t r ih =>
    intro l
    have h1 := ih (add1 l t)
    have h2 := (add1_len l t).1
    have h3 : addL l (t :: r) = addL (add1 l t) r := rfl
    rw [h3, List.length_cons]
    omega
theorem mem_add1 (l : List ByteArray) (t x : ByteArray) : x ∈ add1 l t ↔ x ∈ l ∨ x = t := by
  unfold add1
  by_cases h : Lib.containsS l t = true
  · rw [if_pos h]
    have := (Lib.containsS_iff l t).1 h
    constructor
    · exact .inl
    · rintro (h | rfl) <;> assumption
  · rw [if_neg h]; simp
theorem mem_addL (ts : List ByteArray) : ∀ l x, x ∈ addL l ts ↔ x ∈ l ∨ x ∈ ts := by
  induction ts with
  | nil => intro l x; simp [addL]
  | cons t r ih =>
    intro l x
    have h3 : addL l (t :: r) = addL (add1 l t) r := rfl
    rw [h3, ih, mem_add1, List.mem_cons, or_assoc]

def termL (nm w : ByteArray) : List ByteArray := if Tk.termOk nm w = true then [Tk.termV nm w] else []
def termsL (nm : ByteArray) (ws : List ByteArray) : List ByteArray := ws.flatMap (termL nm)
theorem termsL_take (nm : ByteArray) (ws : List ByteArray) (k : Nat) (h : k < ws.length) : termsL nm (ws.take (k + 1)) = termsL nm (ws.take k) ++ termL nm ws[k] := by
  unfold termsL
  rw [List.take_succ_eq_append_getElem h, List.flatMap_append]
  simp
theorem termL_len (nm w : ByteArray) : (termL nm w).length ≤ 1 := by unfold termL; split <;> simp
theorem termsL_len (nm : ByteArray) : ∀ ws, (termsL nm ws).length ≤ ws.length
  | [] => by simp [termsL]
  | w :: r => by
    have h := termsL_len nm r
    have h1 := termL_len nm w
    have h2 : termsL nm (w :: r) = termL nm w ++ termsL nm r := by simp [termsL]
    rw [h2, List.length_append, List.length_cons]
    omega
mutual
/-- What a query needs. -/
def needs : Q → List ByteArray
  | .mk k nm ws l => if k = 4 ∨ (k = 2 ∧ ws.length = 1) then addL [] (termsL nm ws) else if k = 5 then needsIn [] l else []
def needsIn (acc : List ByteArray) : List Q → List ByteArray
  | [] => acc
  | q :: l => needsIn (addL acc (needs q)) l
end
theorem needsIn_eq : ∀ (l : List Q) acc, needsIn acc l = l.foldl (fun a q => addL a (needs q)) acc
  | [], acc => by simp [needsIn]
  | q :: l, acc => by rw [needsIn, needsIn_eq l]; rfl
theorem needsIn_take (l : List Q) (acc : List ByteArray) (k : Nat) (h : k < l.length) : needsIn acc (l.take (k + 1)) = addL (needsIn acc (l.take k)) (needs l[k]) := by
  rw [needsIn_eq, needsIn_eq, List.take_succ_eq_append_getElem h, List.foldl_append]; rfl
theorem needs_eq (k : Int) (nm : ByteArray) (ws : List ByteArray) (l : List Q) : needs (.mk k nm ws l) = if k = 4 ∨ (k = 2 ∧ ws.length = 1) then addL [] (termsL nm ws) else if k = 5 then needsIn [] l else [] := by rw [needs]
mutual
/-- How large a query is. -/
def wq : Q → Nat
  | .mk _ _ ws l => 1 + ws.length + wqs l
def wqs : List Q → Nat
  | [] => 0
  | q :: l => wq q + wqs l
end
theorem wq_eq (k : Int) (nm : ByteArray) (ws : List ByteArray) (l : List Q) : wq (.mk k nm ws l) = 1 + ws.length + wqs l := by rw [wq]
theorem wqs_append : ∀ a b, wqs (a ++ b) = wqs a + wqs b
  | [], b => by simp [wqs]
  | q :: a, b => by rw [List.cons_append, wqs, wqs, wqs_append a b]; omega
theorem wqs_take (l : List Q) (k : Nat) (h : k < l.length) : wqs (l.take (k + 1)) = wqs (l.take k) + wq l[k] := by
  rw [List.take_succ_eq_append_getElem h, wqs_append]
  simp [wqs]
theorem wqs_take_le (l : List Q) (k : Nat) : wqs (l.take k) ≤ wqs l := by
  have h := wqs_append (l.take k) (l.drop k)
  rw [List.take_append_drop] at h
  omega
theorem wqs_mem : ∀ (l : List Q) (q : Q), q ∈ l → wq q ≤ wqs l
  | x :: l, q, h => by
    rw [wqs]
    rcases List.mem_cons.1 h with rfl | h
    · omega
    · have := wqs_mem l q h
      omega
theorem wqs_pos : ∀ (l : List Q), l.length ≤ wqs l
  | [] => by simp [wqs]
  | .mk k nm ws r :: l => by
    have := wqs_pos l
    rw [wqs, wq, List.length_cons]
    omega
/-- Not more terms than it is large. -/
theorem needsIn_len : ∀ (l : List Q) (acc : List ByteArray), (∀ q ∈ l, (needs q).length ≤ wq q) → (needsIn acc l).length ≤ acc.length + wqs l
  | [], acc, _ => by simp [needsIn, wqs]
  | q :: l, acc, h => by
    have h1 := needsIn_len l (addL acc (needs q)) (fun x hx => h x (List.mem_cons_of_mem _ hx))
    have h2 := addL_len (needs q) acc
    have h3 := h q (by simp)
    rw [needsIn, wqs]
    omega
theorem needs_len : ∀ q, (needs q).length ≤ wq q := by
  refine Q.ind (fun k nm ws l ih => ?_)
  rw [needs_eq, wq_eq]
  split
  · have h1 := addL_len (termsL nm ws) []
    have h2 := termsL_len nm ws
    simp only [List.length_nil] at h1
    omega
  · split
    · have h1 := needsIn_len l [] ih
      simp only [List.length_nil] at h1
      omega
    · simp
end Go.Proofs.Ytjfconddkfihcaa.Qy
end
