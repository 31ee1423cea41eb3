/- Events, docs that came in, opened out of a law's arguments. -/
import Derived.Deep.Strs
import Derived.Laws.IdiomArrays
import Derived.Test.YtceekocfmbcobaaPkCursorFollowsRow1
import Derived.Test.YtceekocfmbcobaaPkCursorFollowsRow0
section
namespace Go.Proofs.Ytceekocfmbcobaa.Qy
set_option maxRecDepth 20000
open Go.RowKit Go.ChangeShapes Go.WideShapes Go.ChangeAt Go.Deep Go.Joins Go.Proofs.Ytceekocfmbcobaa
section
variable {H : Type} {enc : TypeId × Value → H} {W : World} {base : Nat}
theorem field_cells : Try.prog.cellsOf 107 = 2 := by kernel_rfl
theorem field_bytes : Try.prog.bytesOf 107 = 32 := by kernel_rfl
theorem doc_cells : Try.prog.cellsOf 71 = 3 := by kernel_rfl
theorem doc_bytes : Try.prog.bytesOf 71 = 40 := by kernel_rfl
theorem event_cells : Try.prog.cellsOf 69 = 2 := by kernel_rfl
theorem int_cells : Try.prog.cellsOf 3 = 1 := by kernel_rfl
theorem fields_cells : Try.prog.cellsOf 67 = 1 := by kernel_rfl
theorem len_two {α : Type} {l : List α} (h : l.length = 2) : ∃ a b, l = [a, b] := by
  match l, h with
  | [a, b], _ => exact ⟨a, b, rfl⟩
theorem nil_addr {t e : TypeId} {fuel : Nat} {P : Program} {A : Option Addr} {len cap : Nat} {x : DataW H × List MemPlace} (ht : P.underlying t = some (.slice e)) (h : DataW.trod enc P W 0 (fun _ => true) true fuel t [.slice A len cap] = some x) : A = none → cap = 0 := by
  rcases open_slice ht h with ⟨hcs, _⟩ | ⟨a, len, cap, m, n, D, Pl, hcs, _⟩
  · simp only [List.cons.injEq, and_true, Value.slice.injEq] at hcs
    exact fun _ => hcs.2.2
  · simp only [List.cons.injEq, and_true, Value.slice.injEq] at hcs
    intro h
    rw [h] at hcs
    cases hcs.1
/-- A row of fields that came in. -/
theorem fields_in {fuel : Nat} {v : Value} {x : DataW H × List MemPlace} (h : DataW.trod enc Try.prog W 0 (fun _ => true) true fuel 67 [v] = some x) (hw : ∀ n ∈ x.1.weights Try.prog 67, n ≤ 140737488351232) :
    ∃ (F : Option Addr) (n c : Nat) (fs : List (ByteArray × ByteArray)), v = .slice F n c ∧ Reads W W.heap.size 2 F n (fldC fs) ∧ fs.length = n ∧ n ≤ 8796093021952 ∧ n ≤ c ∧ (F = none → c = 0) ∧ ∀ f ∈ fs, f.1.size ≤ 140737488351232 ∧ f.2.size ≤ 140737488351232 := by
  obtain ⟨A, len, cap, vss, ds, spare, rfl, hl, hv, h2, hR, hd, hx, hall⟩ := slice_at Try.underlying67 field_cells (by omega) h
  have hnil := nil_addr Try.underlying67 h
  have each : ∀ i : Nat, ∃ f : ByteArray × ByteArray, ∀ (h1 : i < vss.length) (h2 : i < ds.length), vss[i] = [.string f.1, .string f.2] ∧ ds[i] = .agg [.lit (.string f.1.data.toList), .lit (.string f.2.data.toList)] := fun i => by
    by_cases hi : i < vss.length ∧ i < ds.length
    · obtain ⟨n, y, g1, g2⟩ := hall i hi.1 hi.2
      obtain ⟨y0, y1, n', rfl, hlen, t0, t1⟩ := trod_struct2 Try.underlying107 g1
      have hvl := h2 _ (List.getElem_mem hi.1)
      obtain ⟨u0, u1, hu⟩ := len_two hvl
      rw [hu] at t0 t1
      simp only [string_cells, List.drop_zero, List.drop_succ_cons, List.take_succ_cons, List.take_zero] at t0 t1
      obtain ⟨s0, e0, rfl, _⟩ := DataW.trod_string Try.underlying9 t0
      obtain ⟨s1, e1, rfl, _⟩ := DataW.trod_string Try.underlying9 t1
      simp only [List.cons.injEq, and_true] at e0 e1
      subst e0 e1
      exact ⟨(s0, s1), fun _ _ => ⟨hu, g2.symm⟩⟩
    · exact ⟨(ByteArray.empty, ByteArray.empty), fun h1 h2 => absurd ⟨h1, h2⟩ hi⟩
  obtain ⟨f, hf⟩ := Classical.skolem.1 each
  have hlen : ((List.range len).map f).length = len := by simp
  have e : vss.flatten = fldC ((List.range len).map f) := by
    apply List.ext_getElem?
    intro j
    by_cases hj : j < len * 2
    · have hi : j / 2 < vss.length := by omega
      have hg := fldC_get ((List.range len).map f) (j / 2) (by rw [hlen]; omega)
      have hfi := (hf (j / 2) hi (by omega)).1
      have hget : ((List.range len).map f)[j / 2]'(by rw [hlen]; omega) = f (j / 2) := by simp
      rw [hget] at hg
      rcases Nat.mod_two_eq_zero_or_one j with e0 | e1
      · have h0 := flat_get h2 (j / 2) 0 hi (by omega)
        have e : j = j / 2 * 2 := by omega
        rw [hfi, Nat.add_zero] at h0
        rw [e, h0, hg.1]
        rfl
      · have h0 := flat_get h2 (j / 2) 1 hi (by omega)
        have e : j = j / 2 * 2 + 1 := by omega
        rw [hfi] at h0
        rw [e, h0, hg.2]
        rfl
    · rw [List.getElem?_eq_none (by rw [flat_len h2]; omega), List.getElem?_eq_none (by rw [fldC_len, hlen]; omega)]
  rw [e] at hR
  have hbd : len ≤ 8796093021952 ∧ ∀ i, i < len → (f i).1.size ≤ 140737488351232 ∧ (f i).2.size ≤ 140737488351232 := by
    rcases hx with hx | ⟨h0, _⟩
    · rw [hx] at hw
      have h3 := weights_len Try.underlying67 hw
      rw [field_bytes] at h3
      refine ⟨by omega, fun i hi => ?_⟩
      have hm : ds[i]'(by omega) ∈ ds := List.getElem_mem _
      have h4 := weights_elem Try.underlying67 hw hm
      rw [(hf i (by omega) (by omega)).2] at h4
      have g0 := weights_part (j := 0) Try.underlying107 h4 rfl rfl (f i).1.data.toList.length (by simp [DataW.weights])
      have g1 := weights_part (j := 1) Try.underlying107 h4 rfl rfl (f i).2.data.toList.length (by simp [DataW.weights])
      rw [bsize] at g0 g1
      exact ⟨g0, g1⟩
    · exact ⟨by omega, fun i hi => by omega⟩
  exact ⟨A, len, cap, _, rfl, hR, hlen, hbd.1, hl, hnil, fun s hs => by
    obtain ⟨i, hi, rfl⟩ := List.mem_map.1 hs
    exact hbd.2 i (by simpa using hi)⟩
/-- An event that came in, from its two cells. -/
theorem event_at {fuel : Nat} {cs : List Value} {x : DataW H × List MemPlace} (h : DataW.trod enc Try.prog W 0 (fun _ => true) true fuel 69 cs = some x) (hw : ∀ n ∈ x.1.weights Try.prog 69, n ≤ 140737488351232) :
    ∃ (t : Int) (F : Option Addr) (n c : Nat) (fs : List (ByteArray × ByteArray)), cs = [.int .i64 t, .slice F n c] ∧ Reads W W.heap.size 2 F n (fldC fs) ∧ fs.length = n ∧ n ≤ 8796093021952 ∧ n ≤ c ∧ (F = none → c = 0) ∧ (Lit.int .i64 t).wf = true ∧ ∀ f ∈ fs, f.1.size ≤ 140737488351232 ∧ f.2.size ≤ 140737488351232 := by
  obtain ⟨y0, y1, n', rfl, hlen, t0, t1⟩ := trod_struct2 Try.underlying69 h
  rw [event_cells] at hlen
  match cs, hlen with
  | [u0, u1], _ =>
    simp only [int_cells, fields_cells, List.drop_zero, List.drop_succ_cons, List.take_succ_cons, List.take_zero] at t0 t1
    obtain ⟨k, e0, rfl, wk⟩ := DataW.trod_int Try.underlying3 t0
    simp only [List.cons.injEq, and_true] at e0
    subst e0
    obtain ⟨F, n, c, fs, rfl, hR, h1, h2, h3, h4, h5⟩ := fields_in t1 (weights_part (j := 1) Try.underlying69 hw rfl rfl)
    exact ⟨k, F, n, c, fs, rfl, hR, h1, h2, h3, h4, wk, h5⟩
/-- A doc that came in, from its three cells. -/
theorem doc_at {fuel : Nat} {cs : List Value} {x : DataW H × List MemPlace} (h : DataW.trod enc Try.prog W 0 (fun _ => true) true fuel 71 cs = some x) (hw : ∀ n ∈ x.1.weights Try.prog 71, n ≤ 140737488351232) :
    ∃ d : Dc, DcV W W.heap.size d cs ∧ (Lit.int .i64 d.seq).wf = true ∧ (Lit.int .i64 d.at_).wf = true ∧ ∀ f ∈ d.fs, f.1.size ≤ 140737488351232 ∧ f.2.size ≤ 140737488351232 := by
  obtain ⟨y0, y1, n', rfl, hlen, t0, t1⟩ := trod_struct2 Try.underlying71 h
  rw [doc_cells] at hlen
  match cs, hlen with
  | [u0, u1, u2], _ =>
    simp only [int_cells, event_cells, List.drop_zero, List.drop_succ_cons, List.take_succ_cons, List.take_zero] at t0 t1
    obtain ⟨k, e0, rfl, wk⟩ := DataW.trod_int Try.underlying3 t0
    simp only [List.cons.injEq, and_true] at e0
    subst e0
    obtain ⟨t, F, n, c, fs, e1, hR, h1, h2, h3, h4, wt, h5⟩ := event_at t1 (weights_part (j := 1) Try.underlying71 hw rfl rfl)
    simp only [List.cons.injEq, and_true] at e1
    obtain ⟨rfl, rfl⟩ := e1
    exact ⟨⟨k, t, fs⟩, ⟨F, n, c, rfl, hR, h1, h2, h3, h4⟩, wk, wt, h5⟩
theorem docs_in {v : Value} {d : DataW H} {p : List MemPlace} (hv : Value.okWide Try.prog W .any base 59 v) (h : DataW.Trod enc Try.prog W 0 (fun _ => true) true 59 v d p) (hw : ∀ n ∈ d.weights Try.prog 59, n ≤ 140737488351232) :
    ∃ (A : Option Addr) (n c : Nat) (l : List Dc), v = .slice A n c ∧ DocsAt W W.heap.size A n l ∧ n ≤ 8796093021952 ∧ n ≤ c ∧ (A = none → c = 0) ∧ (∀ d ∈ l, (Lit.int .i64 d.seq).wf = true ∧ (Lit.int .i64 d.at_).wf = true) ∧ ∀ d ∈ l, ∀ f ∈ d.fs, f.1.size ≤ 140737488351232 ∧ f.2.size ≤ 140737488351232 := by
  obtain ⟨A0, n0, c0, rfl⟩ := okWide_slice Try.underlying59 hv
  obtain ⟨fuel, hf⟩ := h
  have hf : DataW.trod enc Try.prog W 0 (fun _ => true) true fuel 59 [.slice A0 n0 c0] = some (d, p) := by simpa [Value.cells] using hf
  have hnil := nil_addr Try.underlying59 hf
  obtain ⟨A, len, cap, vss, ds, spare, e, hl, hvl, h3, hR, hd, hx, hall⟩ := slice_at Try.underlying59 doc_cells (by omega) hf
  injection e with ea el ec
  subst ea el ec
  have hcap : n0 ≤ 8796093021952 := by
    rcases hx with hx | ⟨z0, _⟩
    · have hx : d = .slice ds spare := hx
      rw [hx] at hw
      have := weights_len Try.underlying59 hw
      rw [doc_bytes] at this
      omega
    · omega
  have each : ∀ i : Nat, ∃ d : Dc, ∀ (h1 : i < vss.length), DcV W W.heap.size d vss[i] ∧ (Lit.int .i64 d.seq).wf = true ∧ (Lit.int .i64 d.at_).wf = true ∧ ∀ f ∈ d.fs, f.1.size ≤ 140737488351232 ∧ f.2.size ≤ 140737488351232 := fun i => by
    by_cases hi : i < vss.length
    · obtain ⟨n', y, g1, g2⟩ := hall i hi (by omega)
      have hm : ds[i]'(by omega) ∈ ds := List.getElem_mem _
      rcases hx with hx | ⟨z0, _⟩
      · have hx : d = .slice ds spare := hx
        rw [hx] at hw
        obtain ⟨q, hq⟩ := doc_at g1 (by rw [g2]; exact weights_elem Try.underlying59 hw hm)
        exact ⟨q, fun _ => hq⟩
      · omega
    · exact ⟨⟨0, 0, []⟩, fun h => absurd h hi⟩
  obtain ⟨f, hf'⟩ := Classical.skolem.1 each
  refine ⟨A0, n0, c0, (List.range n0).map f, rfl, ⟨by simp, vss, hvl, hR, fun i h1 h2 => ?_⟩, hcap, hl, hnil, fun x hx => ?_, fun x hx => ?_⟩
  · have := (hf' i h2).1
    simpa using this
  · obtain ⟨i, hi, rfl⟩ := List.mem_map.1 hx
    have hi' : i < n0 := by simpa using hi
    exact ⟨(hf' i (by omega)).2.1, (hf' i (by omega)).2.2.1⟩
  · obtain ⟨i, hi, rfl⟩ := List.mem_map.1 hx
    have hi' : i < n0 := by simpa using hi
    exact (hf' i (by omega)).2.2.2
end
end Go.Proofs.Ytceekocfmbcobaa.Qy
end

section
/- A cursor that came in. -/
namespace Go.Proofs.Ytceekocfmbcobaa.Cu
set_option maxRecDepth 20000
open Go.RowKit Go.ChangeShapes Go.WideShapes Go.ChangeAt Go.Deep Go.Joins Go.Proofs.Ytceekocfmbcobaa Go.Proofs.Ytceekocfmbcobaa.Qy
section
variable {H : Type} {enc : TypeId × Value → H} {W : World} {base : Nat}
theorem cursor_cells : Try.prog.cellsOf 45 = 2 := by kernel_rfl
theorem cursor_in {v : Value} {d : DataW H} {p : List MemPlace} (hv : Value.okWide Try.prog W .any base 45 v) (h : DataW.Trod enc Try.prog W 0 (fun _ => true) true 45 v d p) (hw : ∀ n ∈ d.weights Try.prog 45, n ≤ 140737488351232) :
    ∃ (a : Int) (q : ByteArray), v = .agg #[.int .i64 a, .string q] ∧ (Lit.int .i64 a).wf = true ∧ q.size ≤ 140737488351232 := by
  obtain ⟨cs, rfl, _⟩ := okWide_struct Try.underlying45 hv
  obtain ⟨fuel, hf⟩ := h
  obtain ⟨y0, y1, n', e0, hlen, t0, t1⟩ := trod_struct2 Try.underlying45 hf
  obtain ⟨rfl, rfl⟩ := Prod.mk.inj e0
  have hlen : cs.toList.length = Try.prog.cellsOf 45 := hlen
  rw [cursor_cells] at hlen
  obtain ⟨u0, u1, hu⟩ := len_two hlen
  obtain rfl : cs = #[u0, u1] := Array.toList_inj.1 hu
  simp only [Value.cells, int_cells, string_cells, List.drop_zero, List.drop_succ_cons, List.take_succ_cons, List.take_zero] at t0 t1
  obtain ⟨k, e0, h0, wk⟩ := DataW.trod_int Try.underlying3 t0
  obtain ⟨s, e1, h1, _⟩ := DataW.trod_string Try.underlying9 t1
  simp only [List.cons.injEq, and_true] at e0 e1
  subst e0 e1
  refine ⟨k, s, rfl, wk, ?_⟩
  have g1 := weights_part (j := 1) Try.underlying45 hw rfl rfl
  rw [h1] at g1
  have := g1 s.data.toList.length (by simp [DataW.weights])
  rwa [bsize] at this
theorem u8_of {z : Int} (h : (Lit.int .u8 z).wf = true) : ∃ y : UInt8, z = (y.toNat : Int) := by
  have : IntKind.u8.min ≤ z ∧ z ≤ IntKind.u8.max := by simpa [Lit.wf] using h
  have e1 : IntKind.u8.min = 0 := rfl
  have e2 : IntKind.u8.max = 255 := rfl
  exact ⟨UInt8.ofNat z.toNat, by rw [UInt8.toNat_ofNat']; omega⟩
theorem u16_of {z : Int} (h : (Lit.int .u16 z).wf = true) : ∃ t : Nat, t ≤ 65535 ∧ z = (t : Int) := by
  have : IntKind.u16.min ≤ z ∧ z ≤ IntKind.u16.max := by simpa [Lit.wf] using h
  have e1 : IntKind.u16.min = 0 := rfl
  have e2 : IntKind.u16.max = 65535 := rfl
  exact ⟨z.toNat, by omega, by omega⟩
theorem okWide_array {P : Program} {w : World} {r : Reach} {t e : TypeId} {n : Nat} {v : Value} (ht : P.underlying t = some (.array n e)) (h : Value.okWide P w r base t v) : ∃ cs, v = .agg cs ∧ cs.size = P.cellsOf t := by
  simp only [Value.okWide, ht] at h
  obtain ⟨cs, h1, h2, _⟩ := h
  exact ⟨cs, h1, h2⟩
theorem arr4_cells : Try.prog.cellsOf 57 = 4 := by kernel_rfl
theorem u8_cells : Try.prog.cellsOf 5 = 1 := by kernel_rfl
/-- Four bytes that came in. -/
theorem arr4_in {v : Value} {d : DataW H} {p : List MemPlace} (hv : Value.okWide Try.prog W .any base 57 v) (h : DataW.Trod enc Try.prog W 0 (fun _ => true) true 57 v d p) :
    ∃ y0 y1 y2 y3 : UInt8, v = .agg #[.int .u8 (y0.toNat : Int), .int .u8 (y1.toNat : Int), .int .u8 (y2.toNat : Int), .int .u8 (y3.toNat : Int)] := by
  obtain ⟨cs, rfl, hcs⟩ := okWide_array Try.underlying57 hv
  rw [arr4_cells] at hcs
  obtain ⟨c0, c1, c2, c3, rfl⟩ : ∃ c0 c1 c2 c3, cs = #[c0, c1, c2, c3] := by
    obtain ⟨l⟩ := cs
    match l, hcs with
    | [a, b, c, d], _ => exact ⟨a, b, c, d, rfl⟩
  obtain ⟨fuel, hf⟩ := h
  simp only [Value.cells] at hf
  obtain ⟨z0, z1, z2, z3, n, _, h0, h1, h2, h3⟩ := trod_array4 Try.underlying57 u8_cells hf
  obtain ⟨k0, e0, _, w0⟩ := DataW.trod_int Try.underlying5 h0
  obtain ⟨k1, e1, _, w1⟩ := DataW.trod_int Try.underlying5 h1
  obtain ⟨k2, e2, _, w2⟩ := DataW.trod_int Try.underlying5 h2
  obtain ⟨k3, e3, _, w3⟩ := DataW.trod_int Try.underlying5 h3
  simp only [List.cons.injEq, and_true] at e0 e1 e2 e3
  subst e0 e1 e2 e3
  obtain ⟨y0, rfl⟩ := u8_of w0
  obtain ⟨y1, rfl⟩ := u8_of w1
  obtain ⟨y2, rfl⟩ := u8_of w2
  obtain ⟨y3, rfl⟩ := u8_of w3
  exact ⟨y0, y1, y2, y3, rfl⟩
end
end Go.Proofs.Ytceekocfmbcobaa.Cu
end

section
/- Plain facts on runes: what stands at a text's head, all runes, a rune's bytes, lower case. No program. -/
namespace Go.Proofs.Ytceekocfmbcobaa.Ut
open Go.RowKit

def cont (b : UInt8) : Bool := b.toNat / 64 == 2
def acc (n : Nat) (l : List UInt8) : Nat := l.foldl (fun n x => n * 64 + x.toNat % 64) n
theorem acc_nil (n : Nat) : acc n [] = n := rfl
theorem acc_snoc (n : Nat) (l : List UInt8) (x : UInt8) : acc n (l ++ [x]) = acc n l * 64 + x.toNat % 64 := by
  unfold acc; rw [List.foldl_append]; rfl
/-- Is it a rune of that form? -/
def fits (m : Nat) (t : List UInt8) (k lo hi : Nat) : Bool :=
  decide (k - 1 ≤ t.length) && ((t.take (k - 1)).all cont && (decide (lo ≤ acc m (t.take (k - 1))) && (decide (acc m (t.take (k - 1)) ≤ hi) && !(decide (55296 ≤ acc m (t.take (k - 1))) && decide (acc m (t.take (k - 1)) ≤ 57343)))))
def form (m : Nat) (t : List UInt8) (k lo hi : Nat) : Nat × Nat := if fits m t k lo hi then (acc m (t.take (k - 1)), k) else (65533, 1)
/-- The rune at a text's head, and its size. -/
def dec : List UInt8 → Nat × Nat
  | [] => (0, 0)
  | b :: t =>
    if b.toNat < 128 then (b.toNat, 1)
    else if b.toNat / 32 = 6 then form (b.toNat % 32) t 2 128 2047
    else if b.toNat / 16 = 14 then form (b.toNat % 16) t 3 2048 65535
    else if b.toNat / 8 = 30 then form (b.toNat % 8) t 4 65536 1114111
    else (65533, 1)
theorem dec_cons (b : UInt8) (t : List UInt8) : dec (b :: t) =
    if b.toNat < 128 then (b.toNat, 1)
    else if b.toNat / 32 = 6 then form (b.toNat % 32) t 2 128 2047
    else if b.toNat / 16 = 14 then form (b.toNat % 16) t 3 2048 65535
    else if b.toNat / 8 = 30 then form (b.toNat % 8) t 4 65536 1114111
    else (65533, 1) := rfl
theorem form_size (m : Nat) (t : List UInt8) (k lo hi : Nat) (hk : 1 ≤ k) (hk4 : k ≤ 4) : 1 ≤ (form m t k lo hi).2 ∧ (form m t k lo hi).2 ≤ t.length + 1 ∧ (form m t k lo hi).2 ≤ 4 := by
  unfold form
  by_cases h : fits m t k lo hi = true
  · rw [if_pos h]
    simp only [fits, Bool.and_eq_true, decide_eq_true_eq] at h
    have h1 := h.1
    exact ⟨hk, by show k ≤ _; omega, hk4⟩
  · rw [if_neg h]
    exact ⟨Nat.le_refl _, by show 1 ≤ _; omega, by decide⟩
theorem dec_size (l : List UInt8) (h : l ≠ []) : 1 ≤ (dec l).2 ∧ (dec l).2 ≤ l.length ∧ (dec l).2 ≤ 4 := by
  match l, h with
  | b :: t, _ =>
    rw [dec_cons]
    by_cases h1 : b.toNat < 128
    · rw [if_pos h1]; simp
    · rw [if_neg h1]
      by_cases h2 : b.toNat / 32 = 6
      · rw [if_pos h2]; exact form_size _ _ _ _ _ (by omega) (by omega)
      · rw [if_neg h2]
        by_cases h3 : b.toNat / 16 = 14
        · rw [if_pos h3]; exact form_size _ _ _ _ _ (by omega) (by omega)
        · rw [if_neg h3]
          by_cases h4 : b.toNat / 8 = 30
          · rw [if_pos h4]; exact form_size _ _ _ _ _ (by omega) (by omega)
          · rw [if_neg h4]; simp
theorem form_rune (m : Nat) (t : List UInt8) (k lo hi : Nat) (hhi : hi ≤ 1114111) : (form m t k lo hi).1 ≤ 1114111 ∧ ¬ (55296 ≤ (form m t k lo hi).1 ∧ (form m t k lo hi).1 ≤ 57343) := by
  unfold form
  by_cases h : fits m t k lo hi = true
  · rw [if_pos h]
    simp only [fits, Bool.and_eq_true, decide_eq_true_eq, Bool.not_eq_true', Bool.and_eq_false_iff, decide_eq_false_iff_not] at h
    obtain ⟨_, _, _, h4, h5⟩ := h
    refine ⟨by show acc _ _ ≤ _; omega, ?_⟩
    show ¬ (55296 ≤ acc _ _ ∧ acc _ _ ≤ 57343)
    omega
  · rw [if_neg h]; simp
/-- What stands at a text's head is a rune that has bytes. -/
theorem dec_rune (l : List UInt8) : (dec l).1 ≤ 1114111 ∧ ¬ (55296 ≤ (dec l).1 ∧ (dec l).1 ≤ 57343) := by
  match l with
  | [] => simp [dec]
  | b :: t =>
    rw [dec_cons]
    by_cases h1 : b.toNat < 128
    · rw [if_pos h1]; simp; omega
    · rw [if_neg h1]
      by_cases h2 : b.toNat / 32 = 6
      · rw [if_pos h2]; exact form_rune _ _ _ _ _ (by omega)
      · rw [if_neg h2]
        by_cases h3 : b.toNat / 16 = 14
        · rw [if_pos h3]; exact form_rune _ _ _ _ _ (by omega)
        · rw [if_neg h3]
          by_cases h4 : b.toNat / 8 = 30
          · rw [if_pos h4]; exact form_rune _ _ _ _ _ (by omega)
          · rw [if_neg h4]; simp

/-- All runes. -/
def runesF : Nat → List UInt8 → List Nat
  | 0, _ => []
  | n + 1, l => if l = [] then [] else (dec l).1 :: runesF n (l.drop (dec l).2)
def runes (l : List UInt8) : List Nat := runesF l.length l
theorem runesF_eq : ∀ (n m : Nat) (l : List UInt8), l.length ≤ n → l.length ≤ m → runesF n l = runesF m l
  | 0, 0, _, _, _ => rfl
  | 0, m + 1, l, h, _ => by
    have : l = [] := List.eq_nil_of_length_eq_zero (by omega)
    subst this; simp [runesF]
  | n + 1, 0, l, _, h => by
    have : l = [] := List.eq_nil_of_length_eq_zero (by omega)
    subst this; simp [runesF]
  | n + 1, m + 1, l, h1, h2 => by
    unfold runesF
    by_cases h : l = []
    · rw [if_pos h, if_pos h]
    · rw [if_neg h, if_neg h]
      have := dec_size l h
      rw [runesF_eq n m (l.drop (dec l).2) (by rw [List.length_drop]; omega) (by rw [List.length_drop]; omega)]
theorem runes_nil : runes [] = [] := rfl
theorem runes_cons (l : List UInt8) (h : l ≠ []) : runes l = (dec l).1 :: runes (l.drop (dec l).2) := by
  have hs := dec_size l h
  have hl : 0 < l.length := by
    rcases l with _ | ⟨a, t⟩
    · exact absurd rfl h
    · simp
  obtain ⟨n, hn⟩ : ∃ n, l.length = n + 1 := ⟨l.length - 1, by omega⟩
  unfold runes
  rw [hn]
  show (if l = [] then [] else (dec l).1 :: runesF n (l.drop (dec l).2)) = _
  rw [if_neg h, runesF_eq n (l.drop (dec l).2).length _ (by rw [List.length_drop]; omega) (Nat.le_refl _)]
theorem runes_len (l : List UInt8) : (runes l).length ≤ l.length := by
  have key : ∀ (n : Nat) (l : List UInt8), l.length ≤ n → (runesF n l).length ≤ l.length := by
    intro n
    induction n with
    | zero => intro l _; simp [runesF]
    | succ n ih =>
      intro l hl
      unfold runesF
      by_cases h : l = []
      · rw [if_pos h]; simp
      · rw [if_neg h]
        have hs := dec_size l h
        have := ih (l.drop (dec l).2) (by rw [List.length_drop]; omega)
        rw [List.length_drop] at this
        simp only [List.length_cons]
        omega
  exact key _ l (Nat.le_refl _)
/-- Every rune of a text has bytes. -/
def Good (r : Nat) : Prop := r ≤ 1114111 ∧ ¬ (55296 ≤ r ∧ r ≤ 57343)
theorem runes_good (l : List UInt8) : ∀ r ∈ runes l, Good r := by
  have key : ∀ (n : Nat) (l : List UInt8), ∀ r ∈ runesF n l, Good r := by
    intro n
    induction n with
    | zero => intro l r h; simp [runesF] at h
    | succ n ih =>
      intro l r h
      unfold runesF at h
      by_cases he : l = []
      · rw [if_pos he] at h; simp at h
      · rw [if_neg he] at h
        rcases List.mem_cons.1 h with rfl | h
        · exact dec_rune l
        · exact ih _ r h
  exact key _ l

/-- A rune that has no bytes is told as the wrong one. -/
def fix (r : Int) : Nat := if r < 0 ∨ 1114111 < r ∨ (55296 ≤ r ∧ r ≤ 57343) then 65533 else r.toNat
theorem fix_good (r : Int) : Good (fix r) := by
  unfold fix Good
  by_cases h : r < 0 ∨ 1114111 < r ∨ (55296 ≤ r ∧ r ≤ 57343)
  · rw [if_pos h]; omega
  · rw [if_neg h]; omega
theorem fix_of_good (r : Nat) (h : Good r) : fix r = r := by
  unfold fix Good at *
  rw [if_neg (by omega)]; omega
def B (n : Nat) : UInt8 := UInt8.ofNat n
theorem B_toNat (n : Nat) (h : n < 256) : (B n).toNat = n := by
  unfold B; rw [UInt8.toNat_ofNat']; exact Nat.mod_eq_of_lt (by simpa using h)
/-- A rune's bytes. -/
def encN (r : Nat) : List UInt8 :=
  if r < 128 then [B r]
  else if r < 2048 then [B (192 + r / 64), B (128 + r % 64)]
  else if r < 65536 then [B (224 + r / 4096), B (128 + r / 64 % 64), B (128 + r % 64)]
  else [B (240 + r / 262144), B (128 + r / 4096 % 64), B (128 + r / 64 % 64), B (128 + r % 64)]
def enc (r : Int) : List UInt8 := encN (fix r)
def encode (rs : List Int) : List UInt8 := rs.flatMap enc
theorem encode_nil : encode [] = [] := rfl
theorem encode_snoc (rs : List Int) (r : Int) : encode (rs ++ [r]) = encode rs ++ enc r := by simp [encode]
theorem enc_len (r : Int) : 1 ≤ (enc r).length ∧ (enc r).length ≤ 4 := by
  unfold enc encN
  by_cases h1 : fix r < 128
  · rw [if_pos h1]; simp
  · rw [if_neg h1]
    by_cases h2 : fix r < 2048
    · rw [if_pos h2]; simp
    · rw [if_neg h2]
      by_cases h3 : fix r < 65536
      · rw [if_pos h3]; simp
      · rw [if_neg h3]; simp
theorem encode_len (rs : List Int) : (encode rs).length ≤ 4 * rs.length := by
  induction rs with
  | nil => simp [encode]
  | cons r rs ih =>
    have := enc_len r
    have e : encode (r :: rs) = enc r ++ encode rs := by simp [encode]
    rw [e, List.length_append, List.length_cons]
    omega

/-- There and back: what stands at the head of a rune's bytes is the rune. -/
theorem dec_enc (r : Nat) (h : Good r) (t : List UInt8) : dec (encN r ++ t) = (r, (encN r).length) := by
  unfold Good at h
  unfold encN
  by_cases h1 : r < 128
  · rw [if_pos h1]
    simp only [List.cons_append, List.nil_append, dec, B_toNat r (by omega), if_pos h1, List.length_singleton]
  · rw [if_neg h1]
    by_cases h2 : r < 2048
    · rw [if_pos h2]
      simp only [List.cons_append, List.nil_append, dec, B_toNat (192 + r / 64) (by omega)]
      rw [if_neg (by omega), if_pos (by omega)]
      have e1 := B_toNat (128 + r % 64) (by omega)
      have ea : acc ((192 + r / 64) % 32) ((B (128 + r % 64) :: t).take 1) = r := by
        simp only [List.take_succ_cons, List.take_zero, acc, List.foldl_cons, List.foldl_nil, e1]
        omega
      have ef : fits ((192 + r / 64) % 32) (B (128 + r % 64) :: t) 2 128 2047 = true := by
        simp only [fits, show 2 - 1 = 1 from rfl, ea, Bool.and_eq_true, decide_eq_true_eq, Bool.not_eq_true', Bool.and_eq_false_iff, decide_eq_false_iff_not]
        refine ⟨by simp, ?_, by omega, by omega, by omega⟩
        simp only [List.take_succ_cons, List.take_zero, List.all_cons, List.all_nil, Bool.and_true, cont, e1, beq_iff_eq]
        omega
      unfold form
      rw [if_pos ef, show 2 - 1 = 1 from rfl, ea]
      rfl
    · rw [if_neg h2]
      by_cases h3 : r < 65536
      · rw [if_pos h3]
        simp only [List.cons_append, List.nil_append, dec, B_toNat (224 + r / 4096) (by omega)]
        rw [if_neg (by omega), if_neg (by omega), if_pos (by omega)]
        have e1 := B_toNat (128 + r / 64 % 64) (by omega)
        have e2 := B_toNat (128 + r % 64) (by omega)
        have ea : acc ((224 + r / 4096) % 16) ((B (128 + r / 64 % 64) :: B (128 + r % 64) :: t).take 2) = r := by
          simp only [List.take_succ_cons, List.take_zero, acc, List.foldl_cons, List.foldl_nil, e1, e2]
          omega
        have ef : fits ((224 + r / 4096) % 16) (B (128 + r / 64 % 64) :: B (128 + r % 64) :: t) 3 2048 65535 = true := by
          simp only [fits, show 3 - 1 = 2 from rfl, ea, Bool.and_eq_true, decide_eq_true_eq, Bool.not_eq_true', Bool.and_eq_false_iff, decide_eq_false_iff_not]
          refine ⟨by simp, ?_, by omega, by omega, by omega⟩
          simp only [List.take_succ_cons, List.take_zero, List.all_cons, List.all_nil, Bool.and_true, cont, e1, e2, beq_iff_eq, Bool.and_eq_true]
          omega
        unfold form
        rw [if_pos ef, show 3 - 1 = 2 from rfl, ea]
        rfl
      · rw [if_neg h3]
        simp only [List.cons_append, List.nil_append, dec, B_toNat (240 + r / 262144) (by omega)]
        rw [if_neg (by omega), if_neg (by omega), if_neg (by omega), if_pos (by omega)]
        have e1 := B_toNat (128 + r / 4096 % 64) (by omega)
        have e2 := B_toNat (128 + r / 64 % 64) (by omega)
        have e3 := B_toNat (128 + r % 64) (by omega)
        have ea : acc ((240 + r / 262144) % 8) ((B (128 + r / 4096 % 64) :: B (128 + r / 64 % 64) :: B (128 + r % 64) :: t).take 3) = r := by
          simp only [List.take_succ_cons, List.take_zero, acc, List.foldl_cons, List.foldl_nil, e1, e2, e3]
          omega
        have ef : fits ((240 + r / 262144) % 8) (B (128 + r / 4096 % 64) :: B (128 + r / 64 % 64) :: B (128 + r % 64) :: t) 4 65536 1114111 = true := by
          simp only [fits, show 4 - 1 = 3 from rfl, ea, Bool.and_eq_true, decide_eq_true_eq, Bool.not_eq_true', Bool.and_eq_false_iff, decide_eq_false_iff_not]
          refine ⟨by simp, ?_, by omega, by omega, by omega⟩
          simp only [List.take_succ_cons, List.take_zero, List.all_cons, List.all_nil, Bool.and_true, cont, e1, e2, e3, beq_iff_eq, Bool.and_eq_true]
          omega
        unfold form
        rw [if_pos ef, show 4 - 1 = 3 from rfl, ea]
        rfl
theorem encN_ne (r : Nat) : encN r ≠ [] := by
  unfold encN
  by_cases h1 : r < 128
  · rw [if_pos h1]; simp
  · rw [if_neg h1]
    by_cases h2 : r < 2048
    · rw [if_pos h2]; simp
    · rw [if_neg h2]
      by_cases h3 : r < 65536
      · rw [if_pos h3]; simp
      · rw [if_neg h3]; simp
/-- The runes of runes' bytes. -/
theorem runes_encode (rs : List Int) (t : List UInt8) : runes (encode rs ++ t) = rs.map fix ++ runes t := by
  induction rs with
  | nil => rfl
  | cons r rs ih =>
    have e : encode (r :: rs) ++ t = encN (fix r) ++ (encode rs ++ t) := by simp [encode, enc]
    rw [e, runes_cons _ (by simp [encN_ne]), dec_enc _ (fix_good r), List.drop_left, ih]
    rfl

/-- Lower case. -/
def lower (r : Int) : Int :=
  if (65 ≤ r ∧ r ≤ 90) ∨ (192 ≤ r ∧ r ≤ 222 ∧ r ≠ 215) ∨ (913 ≤ r ∧ r ≤ 939 ∧ r ≠ 930) ∨ (1040 ≤ r ∧ r ≤ 1071) then r + 32
  else if 1024 ≤ r ∧ r ≤ 1039 then r + 80 else r
/-- A part of a word. -/
def isWord (r : Int) : Bool :=
  decide ((48 ≤ r ∧ r ≤ 57) ∨ (65 ≤ r ∧ r ≤ 90) ∨ (97 ≤ r ∧ r ≤ 122) ∨ (192 ≤ r ∧ r ≤ 255 ∧ r ≠ 215 ∧ r ≠ 247) ∨ (913 ≤ r ∧ r ≤ 974 ∧ r ≠ 930) ∨ (1024 ≤ r ∧ r ≤ 1119))
theorem lower_lower (r : Int) : lower (lower r) = lower r := by
  unfold lower
  repeat' split
  all_goals omega
theorem lower_good (r : Nat) (h : Good r) : 0 ≤ lower r ∧ Good (lower r).toNat := by
  unfold lower Good at *
  repeat' split
  all_goals omega
theorem lower_word (r : Int) : isWord (lower r) = isWord r := by
  unfold lower isWord
  rw [Bool.eq_iff_iff]
  simp only [decide_eq_true_eq]
  repeat' split
  all_goals omega
def ints (l : List Nat) : List Int := l.map Int.ofNat
/-- A text in lower case. -/
def fold (l : List UInt8) : List UInt8 := encode ((ints (runes l)).map lower)
def valid (l : List UInt8) : Bool := encode (ints (runes l)) == l
theorem fix_ints (l : List Nat) (h : ∀ r ∈ l, Good r) : (ints l).map fix = l := by
  unfold ints
  rw [List.map_map]
  conv => rhs; rw [← List.map_id l]
  exact List.map_congr_left fun r hr => fix_of_good r (h r hr)
theorem fix_lower (l : List Nat) (h : ∀ r ∈ l, Good r) : ((ints l).map lower).map fix = l.map (fun r : Nat => (lower (r : Int)).toNat) := by
  unfold ints
  rw [List.map_map, List.map_map]
  refine List.map_congr_left fun r hr => ?_
  have hg := lower_good r (h r hr)
  show fix (lower (r : Int)) = _
  have := fix_of_good _ hg.2
  rwa [Int.toNat_of_nonneg hg.1] at this
theorem runes_fold (l : List UInt8) : runes (fold l) = (runes l).map (fun r : Nat => (lower (r : Int)).toNat) := by
  have := runes_encode ((ints (runes l)).map lower) []
  rw [List.append_nil, runes_nil, List.append_nil, fix_lower _ (runes_good l)] at this
  exact this
theorem fold_fold (l : List UInt8) : fold (fold l) = fold l := by
  unfold fold
  congr 1
  have e := runes_fold l
  unfold fold at e
  rw [e]
  unfold ints
  rw [List.map_map, List.map_map, List.map_map]
  refine List.map_congr_left fun r hr => ?_
  have hg := lower_good r (runes_good l r hr)
  show lower (Int.ofNat (lower (r : Int)).toNat) = lower (r : Int)
  rw [show Int.ofNat (lower (r : Int)).toNat = lower (r : Int) from Int.toNat_of_nonneg hg.1, lower_lower]
theorem valid_fold (l : List UInt8) : valid (fold l) = true := by
  unfold valid
  rw [beq_iff_eq, runes_fold]
  unfold fold ints
  congr 1
  rw [List.map_map, List.map_map]
  refine List.map_congr_left fun r hr => ?_
  exact Int.toNat_of_nonneg (lower_good r (runes_good l r hr)).1
theorem valid_encode (rs : List Int) : valid (encode rs) = true := by
  have e := runes_encode rs []
  rw [List.append_nil, runes_nil, List.append_nil] at e
  unfold valid
  rw [beq_iff_eq, e]
  unfold encode ints
  clear e
  induction rs with
  | nil => rfl
  | cons r rs ih =>
    rw [List.map_cons, List.map_cons, List.flatMap_cons, List.flatMap_cons, ih]
    congr 1
    show encN (fix (fix r : Nat)) = encN (fix r)
    rw [fix_of_good _ (fix_good r)]
end Go.Proofs.Ytceekocfmbcobaa.Ut
end
