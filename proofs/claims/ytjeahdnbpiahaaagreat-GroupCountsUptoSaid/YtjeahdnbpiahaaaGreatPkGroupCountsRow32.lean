/- Docs that came in, and how large they are. -/
import Derived.Test.YtjeahdnbpiahaaaGreatRows
import Derived.Laws.StructEq
import Derived.RegionTactic
import Derived.ChangeAlike
import Derived.BigRegion
import Derived.Outline
import Derived.Test.YtjeahdnbpiahaaaGreatPkGroupCountsRow19
import Derived.Test.YtjeahdnbpiahaaaGreatPkGroupCountsRow31
import Derived.Test.YtjeahdnbpiahaaaGreatPkGroupCountsRow23
import Derived.Test.YtjeahdnbpiahaaaGreatPkGroupCountsRow18
import Derived.Test.YtjeahdnbpiahaaaGreatPhrAPk
section
namespace Go.Proofs.YtjeahdnbpiahaaaGreat.Gr
set_option maxRecDepth 20000
set_option linter.unusedSimpArgs false
set_option linter.unusedVariables false
open Go.RowKit Go.ChangeShapes Go.WideShapes Go.ChangeAt Go.Deep Go.Joins Go.Proofs.YtjeahdnbpiahaaaGreat Go.Proofs.YtjeahdnbpiahaaaGreat.Qy Go.Proofs.YtjeahdnbpiahaaaGreat.Ut Go.Proofs.YtjeahdnbpiahaaaGreat.Tk
section
variable {H : Type} {enc : TypeId × Value → H} {W : World} {base : Nat}
theorem bk_pos (d : DataW H) : 1 ≤ Rows.uptoBulk d := by
  cases d with
  | lit l => cases l <;> simp [Rows.uptoBulk]
  | _ => simp [Rows.uptoBulk]
theorem bk_str (s : ByteArray) : Rows.uptoBulk (DataW.lit (H := H) (.string s.data.toList)) = s.size + 1 := by
  simp only [Rows.uptoBulk, bsize]
theorem bk_slice (ds spare : List (DataW H)) : Rows.uptoBulkAll ds ≤ Rows.uptoBulk (.slice ds spare) := by simp only [Rows.uptoBulk]; omega
theorem sum_bk : ∀ (ds : List (DataW H)) (g : Nat → Nat), (∀ i (h : i < ds.length), g i ≤ Rows.uptoBulk ds[i]) → ((List.range ds.length).map g).sum ≤ Rows.uptoBulkAll ds
  | [], g, _ => by simp
  | d :: ds, g, h => by
    have ih := sum_bk ds (fun i => g (i + 1)) (fun i hi => h (i + 1) (by simpa using hi))
    have h0 := h 0 (by simp)
    rw [List.length_cons, List.range_succ_eq_map, List.map_cons, List.sum_cons, List.map_map]
    simp only [Rows.uptoBulkAll]
    have h0 : g 0 ≤ Rows.uptoBulk d := h0
    have e : (g ∘ Nat.succ) = fun i => g (i + 1) := rfl
    rw [e]
    omega
/-- The bytes of all fields' texts, and one for each field. -/
def txF (fs : List (ByteArray × ByteArray)) : Nat := (fs.map fun f => f.2.size + 1).sum
theorem txF_len : ∀ (fs : List (ByteArray × ByteArray)), fs.length ≤ txF fs
  | [] => Nat.zero_le _
  | f :: fs => by
    have ih := txF_len fs
    unfold txF at *
    rw [List.map_cons, List.sum_cons, List.length_cons]
    omega
def txt (l : List Dc) : Nat := (l.map fun d => txF d.fs).sum
theorem wds_txF (name : ByteArray) : ∀ (fs : List (ByteArray × ByteArray)), (wdsF name fs).length ≤ txF fs
  | [] => Nat.zero_le _
  | f :: fs => by
    have ih := wds_txF name fs
    unfold wdsF txF at *
    rw [List.flatMap_cons, List.length_append, List.map_cons, List.sum_cons]
    have h : (if f.1 = name then (words f.2.data.toList).map str else []).length ≤ f.2.size := by
      split
      · rw [List.length_map]; exact words_len f.2
      · exact Nat.zero_le _
    omega
theorem totW_txt (name : ByteArray) : ∀ (l : List Dc), totW name l ≤ txt l
  | [] => Nat.zero_le _
  | d :: l => by
    have ih := totW_txt name l
    have h := wds_txF name d.fs
    unfold totW txt at *
    rw [List.map_cons, List.map_cons, List.sum_cons, List.sum_cons]
    omega
theorem txF_mem : ∀ (fs : List (ByteArray × ByteArray)), ∀ f ∈ fs, f.2.size ≤ txF fs
  | [], f, h => (nomatch h)
  | g :: fs, f, h => by
    unfold txF
    rw [List.map_cons, List.sum_cons]
    rcases List.mem_cons.1 h with rfl | h
    · omega
    · have := txF_mem fs f h
      unfold txF at this
      omega
theorem txt_mem : ∀ (l : List Dc), ∀ d ∈ l, txF d.fs ≤ txt l
  | [], d, h => (nomatch h)
  | e :: l, d, h => by
    unfold txt
    rw [List.map_cons, List.sum_cons]
    rcases List.mem_cons.1 h with rfl | h
    · omega
    · have := txt_mem l d h
      unfold txt at this
      omega
theorem fields_inS {fuel : Nat} {v : Value} {x : DataW H × List MemPlace} (h : DataW.trod enc Tryz.prog W 0 (fun _ => true) true fuel 44 [v] = some x) (hw : ∀ n ∈ x.1.weights Tryz.prog 44, n ≤ 140737488351232) :
    ∃ (F : Option Addr) (n c : Nat) (fs : List (ByteArray × ByteArray)), v = .slice F n c ∧ Reads W W.heap.size 2 F n (fldC fs) ∧ fs.length = n ∧ n ≤ 8796093021952 ∧ n ≤ c ∧ (F = none → c = 0) ∧ txF fs ≤ Rows.uptoBulk x.1 := by
  obtain ⟨A, len, cap, vss, ds, spare, rfl, hl, hv, h2, hR, hd, hx, hall⟩ := slice_at Tryz.underlying44 field_cells (by omega) h
  have hnil := nil_addr Tryz.underlying44 h
  have each : ∀ i : Nat, ∃ f : ByteArray × ByteArray, ∀ (h1 : i < vss.length) (h2 : i < ds.length), vss[i] = [.string f.1, .string f.2] ∧ ds[i] = .agg [.lit (.string f.1.data.toList), .lit (.string f.2.data.toList)] := fun i => by
    by_cases hi : i < vss.length ∧ i < ds.length
    · obtain ⟨n, y, g1, g2⟩ := hall i hi.1 hi.2
      obtain ⟨y0, y1, n', rfl, hlen, t0, t1⟩ := trod_struct2 Tryz.underlying60 g1
      have hvl := h2 _ (List.getElem_mem hi.1)
      obtain ⟨u0, u1, hu⟩ := len_two hvl
      rw [hu] at t0 t1
      simp only [string_cells, List.drop_zero, List.drop_succ_cons, List.take_succ_cons, List.take_zero] at t0 t1
      obtain ⟨s0, e0, rfl, _⟩ := DataW.trod_string Tryz.underlying9 t0
      obtain ⟨s1, e1, rfl, _⟩ := DataW.trod_string Tryz.underlying9 t1
      simp only [List.cons.injEq, and_true] at e0 e1
      subst e0 e1
      exact ⟨(s0, s1), fun _ _ => ⟨hu, g2.symm⟩⟩
    · exact ⟨(ByteArray.empty, ByteArray.empty), fun h1 h2 => absurd ⟨h1, h2⟩ hi⟩
  obtain ⟨f, hf⟩ := Classical.skolem.1 each
  have hlen : ((List.range len).map f).length = len := by simp
  have e : vss.flatten = fldC ((List.range len).map f) := by
    apply List.ext_getElem?
    intro j
    by_cases hj : j < len * 2
    · have hi : j / 2 < vss.length := by omega
      have hg := fldC_get ((List.range len).map f) (j / 2) (by rw [hlen]; omega)
      have hfi := (hf (j / 2) hi (by omega)).1
      have hget : ((List.range len).map f)[j / 2]'(by rw [hlen]; omega) = f (j / 2) := by simp
      rw [hget] at hg
      rcases Nat.mod_two_eq_zero_or_one j with e0 | e1
      · have h0 := flat_get h2 (j / 2) 0 hi (by omega)
        have e : j = j / 2 * 2 := by omega
        rw [hfi, Nat.add_zero] at h0
        rw [e, h0, hg.1]
        rfl
      · have h0 := flat_get h2 (j / 2) 1 hi (by omega)
        have e : j = j / 2 * 2 + 1 := by omega
        rw [hfi] at h0
        rw [e, h0, hg.2]
        rfl
    · rw [List.getElem?_eq_none (by rw [flat_len h2]; omega), List.getElem?_eq_none (by rw [fldC_len, hlen]; omega)]
  rw [e] at hR
  have hbd : len ≤ 8796093021952 ∧ txF ((List.range len).map f) ≤ Rows.uptoBulk x.1 := by
    rcases hx with hx | ⟨h0, _⟩
    · rw [hx] at hw
      have h3 := weights_len Tryz.underlying44 hw
      rw [field_bytes] at h3
      rw [hx]
      have hb := bk_slice ds spare
      refine ⟨by omega, ?_⟩
      have hsum := sum_bk ds (fun i => (f i).2.size + 1) (fun i hi => by
        have hm := (hf i (by omega) hi).2
        rw [hm]
        have b0 := bk_str (H := H) (f i).1
        have b1 := bk_str (H := H) (f i).2
        simp only [Rows.uptoBulk, Rows.uptoBulkAll] at b0 b1 ⊢
        omega)
      rw [hd] at hsum
      unfold txF
      rw [List.map_map]
      exact Nat.le_trans hsum hb
    · subst h0
      exact ⟨by omega, by simp [txF]⟩
  exact ⟨A, len, cap, _, rfl, hR, hlen, hbd.1, hl, hnil, hbd.2⟩
theorem event_atS {fuel : Nat} {cs : List Value} {x : DataW H × List MemPlace} (h : DataW.trod enc Tryz.prog W 0 (fun _ => true) true fuel 46 cs = some x) (hw : ∀ n ∈ x.1.weights Tryz.prog 46, n ≤ 140737488351232) :
    ∃ (t : Int) (F : Option Addr) (n c : Nat) (fs : List (ByteArray × ByteArray)), cs = [.int .i64 t, .slice F n c] ∧ Reads W W.heap.size 2 F n (fldC fs) ∧ fs.length = n ∧ n ≤ 8796093021952 ∧ n ≤ c ∧ (F = none → c = 0) ∧ txF fs ≤ Rows.uptoBulk x.1 := by
  obtain ⟨y0, y1, n', rfl, hlen, t0, t1⟩ := trod_struct2 Tryz.underlying46 h
  rw [event_cells] at hlen
  match cs, hlen with
  | [u0, u1], _ =>
    simp only [int_cells, fields_cells, List.drop_zero, List.drop_succ_cons, List.take_succ_cons, List.take_zero] at t0 t1
    obtain ⟨k, e0, rfl, wk⟩ := DataW.trod_int Tryz.underlying3 t0
    simp only [List.cons.injEq, and_true] at e0
    subst e0
    obtain ⟨F, n, c, fs, rfl, hR, h1, h2, h3, h4, h5⟩ := fields_inS t1 (weights_part (j := 1) Tryz.underlying46 hw rfl rfl)
    exact ⟨k, F, n, c, fs, rfl, hR, h1, h2, h3, h4, by simp only [Rows.uptoBulk, Rows.uptoBulkAll]; omega⟩
theorem doc_atS {fuel : Nat} {cs : List Value} {x : DataW H × List MemPlace} (h : DataW.trod enc Tryz.prog W 0 (fun _ => true) true fuel 48 cs = some x) (hw : ∀ n ∈ x.1.weights Tryz.prog 48, n ≤ 140737488351232) :
    ∃ d : Dc, DcV W W.heap.size d cs ∧ txF d.fs ≤ Rows.uptoBulk x.1 := by
  obtain ⟨y0, y1, n', rfl, hlen, t0, t1⟩ := trod_struct2 Tryz.underlying48 h
  rw [doc_cells] at hlen
  match cs, hlen with
  | [u0, u1, u2], _ =>
    simp only [int_cells, event_cells, List.drop_zero, List.drop_succ_cons, List.take_succ_cons, List.take_zero] at t0 t1
    obtain ⟨k, e0, rfl, wk⟩ := DataW.trod_int Tryz.underlying3 t0
    simp only [List.cons.injEq, and_true] at e0
    subst e0
    obtain ⟨t, F, n, c, fs, e1, hR, h1, h2, h3, h4, h5⟩ := event_atS t1 (weights_part (j := 1) Tryz.underlying48 hw rfl rfl)
    simp only [List.cons.injEq, and_true] at e1
    obtain ⟨rfl, rfl⟩ := e1
    exact ⟨⟨k, t, fs⟩, ⟨F, n, c, rfl, hR, h1, h2, h3, h4⟩, by simp only [Rows.uptoBulk, Rows.uptoBulkAll]; show txF fs ≤ _; omega⟩
theorem docs_inS {v : Value} {d : DataW H} {p : List MemPlace} (hv : Value.okWide Tryz.prog W .any base 22 v) (h : DataW.Trod enc Tryz.prog W 0 (fun _ => true) true 22 v d p) (hw : ∀ n ∈ d.weights Tryz.prog 22, n ≤ 140737488351232) :
    ∃ (A : Option Addr) (n c : Nat) (l : List Dc), v = .slice A n c ∧ DocsAt W W.heap.size A n l ∧ n ≤ 8796093021952 ∧ txt l ≤ Rows.uptoBulk d := by
  obtain ⟨A0, n0, c0, rfl⟩ := okWide_slice Tryz.underlying22 hv
  obtain ⟨fuel, hf⟩ := h
  have hf : DataW.trod enc Tryz.prog W 0 (fun _ => true) true fuel 22 [.slice A0 n0 c0] = some (d, p) := by simpa [Value.cells] using hf
  obtain ⟨A, len, cap, vss, ds, spare, e, hl, hvl, h3, hR, hd, hx, hall⟩ := slice_at Tryz.underlying22 doc_cells (by omega) hf
  injection e with ea el ec
  subst ea el ec
  have each : ∀ i : Nat, ∃ d : Dc, ∀ (h1 : i < vss.length) (h2 : i < ds.length), DcV W W.heap.size d vss[i] ∧ txF d.fs ≤ Rows.uptoBulk ds[i] := fun i => by
    by_cases hi : i < vss.length
    · obtain ⟨n', y, g1, g2⟩ := hall i hi (by omega)
      have hm : ds[i]'(by omega) ∈ ds := List.getElem_mem _
      rcases hx with hx | ⟨z0, _⟩
      · have hx : d = .slice ds spare := hx
        rw [hx] at hw
        obtain ⟨q, hq1, hq2⟩ := doc_atS g1 (by rw [g2]; exact weights_elem Tryz.underlying22 hw hm)
        exact ⟨q, fun _ _ => ⟨hq1, by rw [← g2]; exact hq2⟩⟩
      · omega
    · exact ⟨⟨0, 0, []⟩, fun h => absurd h hi⟩
  obtain ⟨f, hf'⟩ := Classical.skolem.1 each
  have hbd : n0 ≤ 8796093021952 ∧ txt ((List.range n0).map f) ≤ Rows.uptoBulk d := by
    rcases hx with hx | ⟨z0, _⟩
    · have hx : d = .slice ds spare := hx
      rw [hx] at hw ⊢
      have := weights_len Tryz.underlying22 hw
      rw [doc_bytes] at this
      refine ⟨by omega, ?_⟩
      have hsum := sum_bk ds (fun i => txF (f i).fs) (fun i hi => (hf' i (by omega) hi).2)
      rw [hd] at hsum
      unfold txt
      rw [List.map_map]
      exact Nat.le_trans hsum (bk_slice ds spare)
    · subst z0
      exact ⟨by omega, by simp [txt]⟩
  refine ⟨A0, n0, c0, (List.range n0).map f, rfl, ⟨by simp, vss, hvl, hR, fun i h1 h2 => ?_⟩, hbd.1, hbd.2⟩
  have := (hf' i h2 (by omega)).1
  simpa using this
theorem u8_rng {a : Int} (h : (Lit.int .u8 a).wf = true) : 0 ≤ a ∧ a ≤ 255 := by
  simp [Lit.wf, IntKind.min, IntKind.max, IntKind.signed, IntKind.bits] at h
  omega
end
end Go.Proofs.YtjeahdnbpiahaaaGreat.Gr
end

section
/- loggiaref07: SameWords, Same at equal rows; the law's cut. -/
namespace Go.Proofs.YtjeahdnbpiahaaaGreat.Tk
open Go.RowKit Go.Proofs.YtjeahdnbpiahaaaGreat.Ut
set_option maxRecDepth 20000

theorem sv_get (ws : List (List UInt8)) (k : Nat) (h : k < ws.length) : (sv ws)[k]? = some (.string (str ws[k])) := by simp [sv, List.getElem?_eq_getElem h]
theorem tok_self (s : ByteArray) (n : Int) (w : World) : (binOp .neq 81 (.agg #[.string s, .int .i64 n]) (.agg #[.string s, .int .i64 n])).run Tryz.prog w = .ok (.bool false) w := by
  have u1 := Tryz.underlying9
  have u3 := Tryz.underlying3
  have a1 := Tryz.isAgg9
  have z1 := Tryz.sizeOf9
  have a3 := Tryz.isAgg3
  have z3 := Tryz.sizeOf3
  have hS : Tryz.prog.underlying 81 = some (.struct (Tryz.prog.fieldsOf 81)) := by kernel_rfl
  have hp : Tryz.prog.stoodInHeld 81 = false := by kernel_rfl
  rw [run_neq_struct, show (10000 : Nat) = 9999 + 1 from rfl, run_equalIn_agg w 9999 81 _ _ hS hp]
  simp only [Program.fieldsOf, Tryz.underlying81]
  go_simp

/-- A text's first bytes. -/
def ct (n : Nat) (s : ByteArray) : ByteArray := s.extract 0 (min s.size n)
theorem ct_size (n : Nat) (s : ByteArray) : (ct n s).size ≤ n := by unfold ct; rw [ByteArray.size_extract]; omega
end Go.Proofs.YtjeahdnbpiahaaaGreat.Tk
end

section
/- loggialaw19.Few: the walk. -/
namespace Go.Proofs.YtjeahdnbpiahaaaGreat.Qy
open Go.RowKit Go.Proofs.YtjeahdnbpiahaaaGreat Go.Proofs.YtjeahdnbpiahaaaGreat.Ut Go.Proofs.YtjeahdnbpiahaaaGreat.Tk
set_option maxRecDepth 20000
set_option linter.unusedSimpArgs false

def cutF (f : ByteArray × ByteArray) : ByteArray × ByteArray := (f.1, ct 300 f.2)
def fewF (d : Dc) : Dc := ⟨d.seq, d.at_, (d.fs.take 8).map cutF⟩
def fewD (ds : List Dc) : List Dc := (ds.take 40).map fewF
/-- Docs of the call's own, handed back. -/
def DocPost (w : World) (ds : List Dc) (e : Ending) (w' : World) : Prop := ∃ v, e = .returned v ∧ DocsOwn w w' v ds
theorem doc_info : (Tryz.prog.info? 48).map (fun i => (i.zero, i.size, i.bytes)) = some (some (.agg #[.int .i64 0, .int .i64 0, .slice none 0 0]), 3, 40) := by kernel_rfl
theorem fld_info : (Tryz.prog.info? 60).map (fun i => (i.zero, i.size, i.bytes)) = some (some (.agg #[.string ByteArray.empty, .string ByteArray.empty]), 2, 32) := by kernel_rfl
theorem fldC_snoc (fs : List (ByteArray × ByteArray)) (f : ByteArray × ByteArray) : fldC (fs ++ [f]) = fldC fs ++ [.string f.1, .string f.2] := by simp [fldC]

theorem own_succ {w : World} {base : Nat} {e : TypeId} {size n : Nat} {v : Value} {xs : List Value} (h : w.ownsRow base e size v (n + 1) xs) : ∃ g q, v = .slice (some ⟨g, 0, none⟩) (n + 1) q := by
  rcases h.2 with ⟨_, h0⟩ | ⟨g, cap, cur, hv, _⟩
  · omega
  · exact ⟨g, cap, hv⟩
theorem grownBy_setC (w : World) (h o : Nat) (u : Value) : w.grownBy (w.setCell ⟨h, o, none⟩ u) (some h) :=
  ⟨rfl, rfl, rfl, by simp [World.setCell], fun k _ hne => Below.heap_setCell _ _ _ _ (fun e => hne (by rw [e]))⟩
/-- A row of the call's own, as it stands. -/
theorem own_shape2 {w : World} {base : Nat} {e : TypeId} {size n : Nat} {v : Value} {xs : List Value} (h : w.ownsRow base e size v n xs) :
    ∃ A c, v = .slice A n c ∧ Reads w w.heap.size size A n xs ∧ n ≤ c ∧ (A = none → c = 0) ∧ (0 < n → ∃ g, A = some ⟨g, 0, none⟩ ∧ ∃ cur, w.heap[g]? = some (.cells cur e (0, 0))) := by
  obtain ⟨A, c, rfl, hR⟩ := own_shape h
  refine ⟨A, c, rfl, hR, ?_⟩
  rcases h.2 with ⟨hv, h0⟩ | ⟨g, cap, cur, hv, _, hg, hnc, _⟩
  · injection hv with _ _ hc
    exact ⟨by omega, fun _ => hc, fun h => by omega⟩
  · injection hv with hA _ hc
    exact ⟨by omega, fun e => (by rw [hA] at e; cases e), fun _ => ⟨g, hA, cur, hg⟩⟩
/-- What is being collected of a doc's fields. -/
structure Flds (wo wq : World) (pd : Nat) (s a : Int) (fs : List (ByteArray × ByteArray)) : Prop where
  ex : ∃ v, Blk wq pd 48 #[.int .i64 s, .int .i64 a, v] ∧ wq.ownsRow (wo.heap.size + 1) 60 2 v fs.length (fldC fs)
  bel : Below wo.heap.size wo wq
  ge : pd = wo.heap.size

end Go.Proofs.YtjeahdnbpiahaaaGreat.Qy
end
