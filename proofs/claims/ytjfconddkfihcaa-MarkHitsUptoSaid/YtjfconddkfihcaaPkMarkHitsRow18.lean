/- Queries that came in, and how large they are. -/
import Derived.Test.YtjfconddkfihcaaRows
import Derived.Test.YtjfconddkfihcaaPkMarkHitsRow12
import Derived.Test.YtjfconddkfihcaaNeedBPk
import Derived.Test.YtjfconddkfihcaaPkMarkHitsRow13
import Derived.Test.YtjfconddkfihcaaPkMarkHitsRow1
section
namespace Go.Proofs.Ytjfconddkfihcaa.Qy
set_option maxRecDepth 20000
open Go.RowKit Go.ChangeShapes Go.WideShapes Go.ChangeAt Go.Deep Go.Joins Go.Proofs.Ytjfconddkfihcaa
section
variable {H : Type} {enc : TypeId × Value → H} {P : Program} {W : World} {t e : TypeId}

theorem bk_pos (d : DataW H) : 1 ≤ Rows.uptoBulk d := by
  cases d with
  | lit l => cases l <;> simp [Rows.uptoBulk]
  | _ => simp [Rows.uptoBulk]
theorem bk_mem {d : DataW H} {ds : List (DataW H)} (h : d ∈ ds) : Rows.uptoBulk d ≤ Rows.uptoBulkAll ds := by
  induction ds with
  | nil => cases h
  | cons x r ih =>
    simp only [Rows.uptoBulkAll]
    rcases List.mem_cons.1 h with rfl | h
    · omega
    · have := ih h; omega
theorem bk_len (ds : List (DataW H)) : ds.length ≤ Rows.uptoBulkAll ds := by
  induction ds with
  | nil => simp [Rows.uptoBulkAll]
  | cons x r ih => have := bk_pos x; simp only [Rows.uptoBulkAll, List.length_cons]; omega
theorem bk_str (s : ByteArray) : Rows.uptoBulk (DataW.lit (H := H) (.string s.data.toList)) = s.size + 1 := by
  simp only [Rows.uptoBulk, bsize]
theorem bk_slice (ds spare : List (DataW H)) : Rows.uptoBulkAll ds ≤ Rows.uptoBulk (.slice ds spare) := by simp only [Rows.uptoBulk]; omega
theorem QTx.more {b b' : Nat} (hb : b ≤ b') {q : Q} (h : QTx b q) : QTx b' q := by
  induction h with
  | mk h1 h2 _ ih => exact .mk (by omega) (fun x hx => Nat.le_trans (h2 x hx) hb) ih
theorem wqs_le : ∀ (l : List Q) (ds : List (DataW H)), l.length = ds.length → (∀ i (h1 : i < l.length) (h2 : i < ds.length), wq l[i] ≤ Rows.uptoBulk ds[i]) → wqs l ≤ Rows.uptoBulkAll ds
  | [], [], _, _ => by simp [wqs]
  | q :: l, d :: ds, hl, h => by
    have h0 := h 0 (by simp) (by simp)
    have h1 := wqs_le l ds (by simpa using hl) (fun i a b => by
      have := h (i + 1) (by simp; omega) (by simp; omega)
      simpa using this)
    rw [wqs]
    simp only [Rows.uptoBulkAll]
    simp at h0
    omega
  | [], _ :: _, hl, _ => by simp at hl
  | _ :: _, [], hl, _ => by simp at hl

theorem strs_bk {fuel : Nat} {v : Value} {x : DataW H × List MemPlace} (ht : P.underlying t = some (.slice e)) (he : P.underlying e = some .string) (hc : P.cellsOf e = 1) (hb16 : P.bytesOf e = 16)
    (h : DataW.trod enc P W 0 (fun _ => true) true fuel t [v] = some x) (hw : ∀ n ∈ x.1.weights P t, n ≤ 140737488351232) :
    ∃ (A : Option Addr) (len cap : Nat) (ss : List ByteArray), v = .slice A len cap ∧ Reads W W.heap.size 1 A len (ss.map Value.string) ∧ ss.length = len ∧ len ≤ 8796093021952 ∧ (∀ s ∈ ss, s.size ≤ 140737488351232) ∧ ss.length ≤ Rows.uptoBulk x.1 ∧ ∀ s ∈ ss, s.size ≤ Rows.uptoBulk x.1 := by
  obtain ⟨A, len, cap, vss, ds, spare, rfl, hl, hv, h1, hR, hd, hx, hall⟩ := slice_at ht hc (by omega) h
  obtain ⟨A', len', cap', ss, e1, _, hR', hs, h2, h3⟩ := strs_at ht he hc hb16 h hw
  injection e1 with ea el ec
  subst ea el ec
  refine ⟨_, _, _, ss, rfl, hR', hs, h2, h3, ?_⟩
  rcases hx with hx | ⟨h0, _⟩
  · rw [hx]
    have hb := bk_slice ds spare
    have hlen := bk_len ds
    refine ⟨by omega, fun s hm => ?_⟩
    obtain ⟨i, hi, rfl⟩ := List.getElem_of_mem hm
    obtain ⟨n, y, g1, g2⟩ := hall i (by omega) (by omega)
    obtain ⟨s', f1, rfl, _⟩ := DataW.trod_string he g1
    have hf := flat_get h1 i 0 (by omega) (by omega)
    obtain ⟨b, o, e2, _, hc1⟩ := hR.2 (by omega)
    obtain ⟨b', o', e3, _, hc2⟩ := hR'.2 (by omega)
    rw [e2] at e3
    injection e3 with e3
    injection e3 with eb eo
    subst eb eo
    have k1 := hc1 (i * 1 + 0) _ (by rw [hf, f1]; rfl)
    have k2 := hc2 i (.string ss[i]) (by rw [List.getElem?_map, List.getElem?_eq_getElem hi]; rfl)
    rw [Nat.mul_one, Nat.add_zero] at k1
    rw [k1] at k2
    injection k2 with k2
    injection k2 with k2
    have hm2 := bk_mem (List.getElem_mem (show i < ds.length by omega))
    rw [← g2] at hm2
    simp only [] at hm2
    rw [bk_str, k2] at hm2
    omega
  · have : ss = [] := List.length_eq_zero_iff.1 (by omega)
    subst this
    exact ⟨by simp, fun s hs => by simp at hs⟩
end
section
variable {H : Type} {enc : TypeId × Value → H} {W : World}
/-- A query that came in, from its four cells, and how large it is. -/
theorem query_bk : ∀ (sz : Nat) (fuel : Nat) (cs : List Value) (x : DataW H × List MemPlace), SizeOf.sizeOf x.1 ≤ sz → DataW.trod enc Try.prog W 0 (fun _ => true) true fuel 37 cs = some x → (∀ n ∈ x.1.weights Try.prog 37, n ≤ 140737488351232) →
    ∃ q, QAt W W.heap.size q cs ∧ QSz q ∧ wq q ≤ Rows.uptoBulk x.1 ∧ QTx (Rows.uptoBulk x.1) q := by
  intro sz
  induction sz with
  | zero =>
    intro fuel cs x hs h _
    obtain ⟨y0, y1, y2, y3, n, rfl, _⟩ := trod_struct4 Try.underlying37 h
    simp at hs
  | succ sz ih =>
    intro fuel cs x hs h hw
    obtain ⟨y0, y1, y2, y3, n, rfl, hlen, h0, h1, h2, h3⟩ := trod_struct4 Try.underlying37 h
    rw [query_cells] at hlen
    match cs, hlen with
    | [c0, c1, c2, c3], _ =>
      simp only [kind_cells, string_cells, strs_cells, queries_cells, List.drop_zero, List.drop_succ_cons, List.take_succ_cons, List.take_zero] at h0 h1 h2 h3
      obtain ⟨k, e0, rfl, _⟩ := DataW.trod_int Try.underlying34 h0
      obtain ⟨nm, e1, rfl, _⟩ := DataW.trod_string Try.underlying9 h1
      simp only [List.cons.injEq, and_true] at e0 e1
      subst e0 e1
      obtain ⟨WA, m, wc, ws, rfl, hR, hwl, hm2, _, hwb, hwt⟩ := strs_bk Try.underlying28 Try.underlying9 string_cells string_bytes h2 (weights_part (j := 2) Try.underlying37 hw rfl rfl)
      obtain ⟨CA, len, cap, vss, ds, spare, rfl, _, hv, h4, hL, hd, hx, hall⟩ := slice_at Try.underlying35 query_cells (by omega) h3
      have hw3 := weights_part (j := 3) (d := y3.1) Try.underlying37 hw rfl rfl
      have each : ∀ i : Nat, ∃ q : Q, ∀ (h1 : i < vss.length) (h2 : i < ds.length), QAt W W.heap.size q vss[i] ∧ QSz q ∧ wq q ≤ Rows.uptoBulk ds[i] ∧ QTx (Rows.uptoBulk ds[i]) q := fun i => by
        by_cases hi : i < vss.length
        · obtain ⟨n', y, g1, g2⟩ := hall i hi (by omega)
          have hm : ds[i]'(by omega) ∈ ds := List.getElem_mem _
          rcases hx with hx | ⟨z0, _⟩
          · have hsz : SizeOf.sizeOf y.1 ≤ sz := by
              have a1 := List.sizeOf_lt_of_mem hm
              rw [g2]
              rw [hx] at hs
              simp at hs
              omega
            rw [hx] at hw3
            obtain ⟨q, hq⟩ := ih n' _ y hsz g1 (by rw [g2]; exact weights_elem Try.underlying35 hw3 hm)
            rw [g2] at hq
            exact ⟨q, fun _ _ => hq⟩
          · omega
        · exact ⟨.mk 0 ByteArray.empty [] [], fun h => absurd h hi⟩
      obtain ⟨f, hf⟩ := Classical.skolem.1 each
      have hll : ((List.range len).map f).length = len := by simp
      have hcap : len ≤ 8796093021952 := by
        rcases hx with hx | ⟨z0, _⟩
        · rw [hx] at hw3
          have := weights_len Try.underlying35 hw3
          rw [query_bytes] at this
          omega
        · omega
      have hbk : Rows.uptoBulkAll ds ≤ Rows.uptoBulk y3.1 := by
        rcases hx with hx | ⟨_, hx⟩
        · rw [hx]; exact bk_slice _ _
        · rw [hx]; simp [Rows.uptoBulkAll]
      have hwqs : wqs ((List.range len).map f) ≤ Rows.uptoBulkAll ds := wqs_le _ _ (by simp [hd]) (fun i a b => by
        have := (hf i (by omega) b).2.2.1
        simpa using this)
      refine ⟨.mk k nm ws ((List.range len).map f), .mk vss hwl hR hll hv h4 hL (fun i h1 h2 => ?_), .mk (by omega) (by omega) (fun y hy => ?_), ?_, .mk ?_ (fun x hx => ?_) (fun y hy => ?_)⟩
      · have := (hf i h2 (by omega)).1
        simpa using this
      · obtain ⟨i, hi, rfl⟩ := List.mem_map.1 hy
        have hi' : i < len := by simpa using hi
        exact (hf i (by omega) (by omega)).2.1
      · rw [wq_eq]
        simp only [Rows.uptoBulk, Rows.uptoBulkAll]
        omega
      · have := bk_str (H := H) nm
        simp only [Rows.uptoBulk, Rows.uptoBulkAll] at this ⊢
        omega
      · have := hwt x hx
        simp only [Rows.uptoBulk, Rows.uptoBulkAll]
        omega
      · obtain ⟨i, hi, rfl⟩ := List.mem_map.1 hy
        have hi' : i < len := by simpa using hi
        have hm := bk_mem (List.getElem_mem (show i < ds.length by omega))
        refine QTx.more ?_ (hf i (by omega) (by omega)).2.2.2
        simp only [Rows.uptoBulk, Rows.uptoBulkAll]
        omega
theorem query_inB {base : Nat} {v : Value} {d : DataW H} {p : List MemPlace} (hv : Value.okWide Try.prog W .any base 37 v) (h : DataW.Trod enc Try.prog W 0 (fun _ => true) true 37 v d p) (hw : ∀ n ∈ d.weights Try.prog 37, n ≤ 140737488351232) :
    ∃ (a0 a1 a2 a3 : Value) (q : Q), v = .agg #[a0, a1, a2, a3] ∧ QAt W W.heap.size q [a0, a1, a2, a3] ∧ QSz q ∧ wq q ≤ Rows.uptoBulk d ∧ QTx (Rows.uptoBulk d) q := by
  obtain ⟨cs, rfl, _⟩ := okWide_struct Try.underlying37 hv
  obtain ⟨fuel, hf⟩ := h
  obtain ⟨q, hq, hs, h1, h2⟩ := query_bk _ _ _ _ (Nat.le_refl _) hf hw
  obtain ⟨k, nm, ws, l⟩ := q
  obtain ⟨A, n, c, C, m, d, e, _⟩ := hq.is
  have e' : cs = #[.int .i64 k, .string nm, .slice A n c, .slice C m d] := by
    have e : cs.toList = _ := e
    exact Array.toList_inj.1 e
  subst e'
  exact ⟨_, _, _, _, _, rfl, hq, hs, h1, h2⟩
end
end Go.Proofs.Ytjfconddkfihcaa.Qy
end

section
/- An event that came in, and how large it is. -/
namespace Go.Proofs.Ytjfconddkfihcaa.Qy
set_option maxRecDepth 20000
open Go.RowKit Go.ChangeShapes Go.WideShapes Go.ChangeAt Go.Deep Go.Joins Go.Proofs.Ytjfconddkfihcaa
section
variable {H : Type} {enc : TypeId × Value → H} {W : World} {base : Nat}
/-- A row of fields that came in, and how large it is. -/
theorem fields_inB {fuel : Nat} {v : Value} {x : DataW H × List MemPlace} (h : DataW.trod enc Try.prog W 0 (fun _ => true) true fuel 47 [v] = some x) (hw : ∀ n ∈ x.1.weights Try.prog 47, n ≤ 140737488351232) :
    ∃ (F : Option Addr) (n c : Nat) (fs : List (ByteArray × ByteArray)), v = .slice F n c ∧ Reads W W.heap.size 2 F n (fldC fs) ∧ fs.length = n ∧ n ≤ 8796093021952 ∧ n ≤ Rows.uptoBulk x.1 ∧ ∀ f ∈ fs, f.1.size ≤ Rows.uptoBulk x.1 ∧ f.2.size ≤ Rows.uptoBulk x.1 := by
  obtain ⟨A, len, cap, vss, ds, spare, rfl, hl, hv, h2, hR, hd, hx, hall⟩ := slice_at Try.underlying47 field_cells (by omega) h
  have each : ∀ i : Nat, ∃ f : ByteArray × ByteArray, ∀ (h1 : i < vss.length) (h2 : i < ds.length), vss[i] = [.string f.1, .string f.2] ∧ ds[i] = .agg [.lit (.string f.1.data.toList), .lit (.string f.2.data.toList)] := fun i => by
    by_cases hi : i < vss.length ∧ i < ds.length
    · obtain ⟨n, y, g1, g2⟩ := hall i hi.1 hi.2
      obtain ⟨y0, y1, n', rfl, hlen, t0, t1⟩ := trod_struct2 Try.underlying54 g1
      have hvl := h2 _ (List.getElem_mem hi.1)
      obtain ⟨u0, u1, hu⟩ := len_two hvl
      rw [hu] at t0 t1
      simp only [string_cells, List.drop_zero, List.drop_succ_cons, List.take_succ_cons, List.take_zero] at t0 t1
      obtain ⟨s0, e0, rfl, _⟩ := DataW.trod_string Try.underlying9 t0
      obtain ⟨s1, e1, rfl, _⟩ := DataW.trod_string Try.underlying9 t1
      simp only [List.cons.injEq, and_true] at e0 e1
      subst e0 e1
      exact ⟨(s0, s1), fun _ _ => ⟨hu, g2.symm⟩⟩
    · exact ⟨(ByteArray.empty, ByteArray.empty), fun h1 h2 => absurd ⟨h1, h2⟩ hi⟩
  obtain ⟨f, hf⟩ := Classical.skolem.1 each
  have hlen : ((List.range len).map f).length = len := by simp
  have e : vss.flatten = fldC ((List.range len).map f) := by
    apply List.ext_getElem?
    intro j
    by_cases hj : j < len * 2
    · have hi : j / 2 < vss.length := by omega
      have hg := fldC_get ((List.range len).map f) (j / 2) (by rw [hlen]; omega)
      have hfi := (hf (j / 2) hi (by omega)).1
      have hget : ((List.range len).map f)[j / 2]'(by rw [hlen]; omega) = f (j / 2) := by simp
      rw [hget] at hg
      rcases Nat.mod_two_eq_zero_or_one j with e0 | e1
      · have h0 := flat_get h2 (j / 2) 0 hi (by omega)
        have e : j = j / 2 * 2 := by omega
        rw [hfi, Nat.add_zero] at h0
        rw [e, h0, hg.1]
        rfl
      · have h0 := flat_get h2 (j / 2) 1 hi (by omega)
        have e : j = j / 2 * 2 + 1 := by omega
        rw [hfi] at h0
        rw [e, h0, hg.2]
        rfl
    · rw [List.getElem?_eq_none (by rw [flat_len h2]; omega), List.getElem?_eq_none (by rw [fldC_len, hlen]; omega)]
  rw [e] at hR
  have hbd : len ≤ 8796093021952 ∧ len ≤ Rows.uptoBulk x.1 ∧ ∀ i, i < len → (f i).1.size ≤ Rows.uptoBulk x.1 ∧ (f i).2.size ≤ Rows.uptoBulk x.1 := by
    rcases hx with hx | ⟨h0, _⟩
    · rw [hx] at hw
      have h3 := weights_len Try.underlying47 hw
      rw [field_bytes] at h3
      rw [hx]
      have hb := bk_slice ds spare
      have hlen' := bk_len ds
      refine ⟨by omega, by omega, fun i hi => ?_⟩
      have hm := bk_mem (List.getElem_mem (show i < ds.length by omega))
      rw [(hf i (by omega) (by omega)).2] at hm
      have b0 := bk_str (H := H) (f i).1
      have b1 := bk_str (H := H) (f i).2
      simp only [Rows.uptoBulk, Rows.uptoBulkAll] at hm b0 b1 hb ⊢
      omega
    · exact ⟨by omega, by omega, fun i hi => by omega⟩
  exact ⟨A, len, cap, _, rfl, hR, hlen, hbd.1, hbd.2.1, fun s hs => by
    obtain ⟨i, hi, rfl⟩ := List.mem_map.1 hs
    exact hbd.2.2 i (by simpa using hi)⟩
theorem event_inB {v : Value} {d : DataW H} {p : List MemPlace} (hv : Value.okWide Try.prog W .any base 49 v) (h : DataW.Trod enc Try.prog W 0 (fun _ => true) true 49 v d p) (hw : ∀ n ∈ d.weights Try.prog 49, n ≤ 140737488351232) :
    ∃ (t : Int) (F : Option Addr) (n c : Nat) (fs : List (ByteArray × ByteArray)), v = .agg #[.int .i64 t, .slice F n c] ∧ Reads W W.heap.size 2 F n (fldC fs) ∧ fs.length = n ∧ n ≤ 8796093021952 ∧ n ≤ Rows.uptoBulk d ∧ ∀ f ∈ fs, f.1.size ≤ Rows.uptoBulk d ∧ f.2.size ≤ Rows.uptoBulk d := by
  obtain ⟨cs, rfl, _⟩ := okWide_struct Try.underlying49 hv
  obtain ⟨fuel, h⟩ := h
  have h : DataW.trod enc Try.prog W 0 (fun _ => true) true fuel 49 cs.toList = some (d, p) := h
  obtain ⟨y0, y1, n', e, hlen, t0, t1⟩ := trod_struct2 Try.underlying49 h
  have hd : d = .agg [y0.1, y1.1] := by
    have := congrArg Prod.fst e
    exact this
  subst hd
  rw [event_cells] at hlen
  obtain ⟨u0, u1, hu⟩ := len_two hlen
  rw [hu] at t0 t1
  simp only [int_cells, fields_cells, List.drop_zero, List.drop_succ_cons, List.take_succ_cons, List.take_zero] at t0 t1
  obtain ⟨k, e0, rfl, wk⟩ := DataW.trod_int Try.underlying3 t0
  simp only [List.cons.injEq, and_true] at e0
  subst e0
  obtain ⟨F, n, c, fs, rfl, hR, h1, h2, h3, h4⟩ := fields_inB t1 (weights_part (j := 1) Try.underlying49 hw rfl rfl)
  obtain rfl : cs = #[.int .i64 k, .slice F n c] := Array.toList_inj.1 hu
  have hle : Rows.uptoBulk y1.1 ≤ Rows.uptoBulk (DataW.agg [((DataW.lit (.int .i64 k) : DataW H), ([] : List MemPlace)).1, y1.1] : DataW H) := by
    simp only [Rows.uptoBulk, Rows.uptoBulkAll]
    omega
  exact ⟨k, F, n, c, fs, rfl, hR, h1, h2, by omega, fun f hf => by have := h4 f hf; omega⟩
end
end Go.Proofs.Ytjfconddkfihcaa.Qy
end

section
/- Where a text's words stand: plain. No program. -/
namespace Go.Proofs.Ytjfconddkfihcaa.Mk
open Go.RowKit Go.Proofs.Ytjfconddkfihcaa Go.Proofs.Ytjfconddkfihcaa.Ut

def tailS (f : Option Nat) (k : Nat) : List (Nat × Nat) := match f with | none => [] | some a => [(a, k)]
def spF : Nat → List UInt8 → Nat → Option Nat → List (Nat × Nat)
  | 0, _, k, f => tailS f k
  | n + 1, l, k, f => if l = [] then tailS f k else
    if isWord ((dec l).1 : Int) then spF n (l.drop (dec l).2) (k + (dec l).2) (some (f.getD k)) else tailS f k ++ spF n (l.drop (dec l).2) (k + (dec l).2) none
/-- The spans of the runs of what is left, from place k on; a run may have begun. -/
def sp (l : List UInt8) (k : Nat) (f : Option Nat) : List (Nat × Nat) := spF l.length l k f
theorem spF_eq : ∀ (n m : Nat) (l : List UInt8) (k : Nat) (f : Option Nat), l.length ≤ n → l.length ≤ m → spF n l k f = spF m l k f
  | 0, 0, _, _, _, _, _ => rfl
  | 0, m + 1, l, k, f, h, _ => by
    obtain rfl : l = [] := List.length_eq_zero_iff.1 (by omega)
    simp [spF]
  | n + 1, 0, l, k, f, _, h => by
    obtain rfl : l = [] := List.length_eq_zero_iff.1 (by omega)
    simp [spF]
  | n + 1, m + 1, l, k, f, h1, h2 => by
    unfold spF
    by_cases hl : l = []
    · rw [if_pos hl, if_pos hl]
    · rw [if_neg hl, if_neg hl]
      have hd := dec_size l hl
      have h3 : (l.drop (dec l).2).length = l.length - (dec l).2 := List.length_drop
      rw [spF_eq n m _ _ _ (by omega) (by omega), spF_eq n m _ _ _ (by omega) (by omega)]
theorem sp_nil (k : Nat) (f : Option Nat) : sp [] k f = tailS f k := rfl
theorem sp_word (l : List UInt8) (k : Nat) (f : Option Nat) (h : l ≠ []) (hw : isWord ((dec l).1 : Int) = true) : sp l k f = sp (l.drop (dec l).2) (k + (dec l).2) (some (f.getD k)) := by
  have hd := dec_size l h
  have h3 : (l.drop (dec l).2).length = l.length - (dec l).2 := List.length_drop
  unfold sp
  obtain ⟨n, hn⟩ : ∃ n, l.length = n + 1 := ⟨l.length - 1, by omega⟩
  rw [hn, spF, if_neg h, if_pos hw]
  exact spF_eq _ _ _ _ _ (by omega) (Nat.le_refl _)
theorem sp_gap (l : List UInt8) (k : Nat) (f : Option Nat) (h : l ≠ []) (hw : isWord ((dec l).1 : Int) = false) : sp l k f = tailS f k ++ sp (l.drop (dec l).2) (k + (dec l).2) none := by
  have hd := dec_size l h
  have h3 : (l.drop (dec l).2).length = l.length - (dec l).2 := List.length_drop
  unfold sp
  obtain ⟨n, hn⟩ : ∃ n, l.length = n + 1 := ⟨l.length - 1, by omega⟩
  rw [hn, spF, if_neg h, hw, if_neg (by decide)]
  rw [spF_eq n _ _ _ none (by omega) (Nat.le_refl _)]
/-- One span a word. -/
theorem sp_len : ∀ (n : Nat) (l : List UInt8) (k : Nat) (f : Option Nat) (c : List Nat), l.length ≤ n → (f = none ↔ c = []) → (sp l k f).length = (Tk.runs c (runes l)).length := by
  intro n
  induction n with
  | zero =>
    intro l k f c h hf
    obtain rfl : l = [] := List.length_eq_zero_iff.1 (by omega)
    rw [sp_nil, runes_nil, Tk.runs_nil]
    unfold tailS Tk.last
    cases f with
    | none => rw [if_pos (hf.1 rfl)]; rfl
    | some a => rw [if_neg (fun e => by have := hf.2 e; cases this)]; rfl
  | succ n ih =>
    intro l k f c h hf
    by_cases hl : l = []
    · subst hl
      rw [sp_nil, runes_nil, Tk.runs_nil]
      unfold tailS Tk.last
      cases f with
      | none => rw [if_pos (hf.1 rfl)]; rfl
      | some a => rw [if_neg (fun e => by have := hf.2 e; cases this)]; rfl
    · have hd := dec_size l hl
      have h3 : (l.drop (dec l).2).length = l.length - (dec l).2 := List.length_drop
      rw [runes_cons l hl, Tk.runs_cons]
      cases hw : isWord ((dec l).1 : Int)
      · rw [sp_gap l k f hl hw, if_neg (by decide), List.length_append, List.length_append, ih _ _ none [] (by omega) (by simp)]
        congr 1
        unfold tailS Tk.last
        cases f with
        | none => rw [if_pos (hf.1 rfl)]; rfl
        | some a => rw [if_neg (fun e => by have := hf.2 e; cases this)]; rfl
      · rw [sp_word l k f hl hw, if_pos rfl]
        exact ih _ _ _ _ (by omega) (by simp)
theorem sp_words (s : List UInt8) : (sp s 0 none).length = (Tk.words s).length := by
  unfold Tk.words
  rw [List.length_map]
  exact sp_len s.length s 0 none [] (Nat.le_refl _) (by simp)
/-- Spans that rise, from place e on, in a text of n bytes. -/
def okS (e n : Nat) : List (Nat × Nat) → Prop
  | [] => True
  | x :: t => e ≤ x.1 ∧ x.1 < x.2 ∧ x.2 ≤ n ∧ okS x.2 n t
theorem okS_from {e e' n : Nat} (h : e' ≤ e) : ∀ {l : List (Nat × Nat)}, okS e n l → okS e' n l
  | [], _ => trivial
  | _ :: _, ⟨h1, h2, h3, h4⟩ => ⟨Nat.le_trans h h1, h2, h3, h4⟩
theorem sp_ok : ∀ (n : Nat) (l : List UInt8) (k : Nat) (f : Option Nat) (e : Nat), l.length ≤ n → (∀ a, f = some a → e ≤ a ∧ a < k) → e ≤ k → okS e (k + l.length) (sp l k f) := by
  intro n
  induction n with
  | zero =>
    intro l k f e h hf he
    obtain rfl : l = [] := List.length_eq_zero_iff.1 (by omega)
    rw [sp_nil]
    cases f with
    | none => trivial
    | some a => exact ⟨(hf a rfl).1, (hf a rfl).2, Nat.le_refl _, trivial⟩
  | succ n ih =>
    intro l k f e h hf he
    by_cases hl : l = []
    · subst hl
      rw [sp_nil]
      cases f with
      | none => trivial
      | some a => exact ⟨(hf a rfl).1, (hf a rfl).2, Nat.le_refl _, trivial⟩
    · have hd := dec_size l hl
      have h3 : (l.drop (dec l).2).length = l.length - (dec l).2 := List.length_drop
      have h4 : k + (dec l).2 + (l.drop (dec l).2).length = k + l.length := by omega
      cases hw : isWord ((dec l).1 : Int)
      · rw [sp_gap l k f hl hw]
        have hr := ih (l.drop (dec l).2) (k + (dec l).2) none k (by omega) (fun a h => by cases h) (by omega)
        rw [h4] at hr
        cases f with
        | none => exact okS_from he hr
        | some a => exact ⟨(hf a rfl).1, (hf a rfl).2, by omega, hr⟩
      · rw [sp_word l k f hl hw]
        have hr := ih (l.drop (dec l).2) (k + (dec l).2) (some (f.getD k)) e (by omega) (fun a h => by
          injection h with h
          subst h
          cases f with
          | none => simp; omega
          | some a => have := hf a rfl; simp; omega) (by omega)
        rw [h4] at hr
        exact hr
theorem spans_ok (s : List UInt8) : okS 0 s.length (sp s 0 none) := by
  have := sp_ok s.length s 0 none 0 (Nat.le_refl _) (fun a h => by cases h) (Nat.le_refl _)
  rwa [Nat.zero_add] at this
theorem okS_get {n : Nat} : ∀ {e : Nat} {l : List (Nat × Nat)}, okS e n l → ∀ i (h : i < l.length), e ≤ l[i].1 ∧ l[i].1 < l[i].2 ∧ l[i].2 ≤ n ∧ ∀ h' : i + 1 < l.length, l[i].2 ≤ l[i + 1].1
  | e, x :: t, h, 0, _ => ⟨h.1, h.2.1, h.2.2.1, fun h' => by
    have := okS_get h.2.2.2 0 (by simpa using h')
    exact this.1⟩
  | e, x :: t, h, i + 1, hi => by
    have := okS_get h.2.2.2 i (by simpa using hi)
    have h1 := h.1
    have h2 := h.2.1
    refine ⟨by simp only [List.getElem_cons_succ]; omega, this.2.1, this.2.2.1, fun h' => this.2.2.2 (by simpa using h')⟩
theorem sp_count (s : List UInt8) : (sp s 0 none).length ≤ s.length := by
  rw [sp_words]
  unfold Tk.words
  rw [List.length_map]
  have h1 : ∀ (l c : List Nat), (Tk.runs c l).length ≤ l.length + (if c = [] then 0 else 1) := by
    intro l
    induction l with
    | nil => intro c; rw [Tk.runs_nil]; unfold Tk.last; split <;> simp
    | cons r t ih =>
      intro c
      rw [Tk.runs_cons]
      split
      · have := ih (c ++ [r])
        rw [if_neg (by simp)] at this
        rw [List.length_cons]
        split <;> omega
      · have := ih []
        rw [if_pos rfl] at this
        rw [List.length_append, List.length_cons]
        unfold Tk.last
        by_cases hc : c = []
        · rw [if_pos hc, if_pos hc, List.length_nil]; omega
        · rw [if_neg hc, if_neg hc, List.length_singleton]; omega
  have h2 := h1 (runes s) []
  have h3 := runes_len s
  rw [if_pos rfl] at h2
  omega
/-- Spans as cells. -/
def spC (l : List (Nat × Nat)) : List Value := l.flatMap fun x => [.int .i64 (x.1 : Nat), .int .i64 (x.2 : Nat)]
theorem spC_snoc (l : List (Nat × Nat)) (x : Nat × Nat) : spC (l ++ [x]) = spC l ++ [.int .i64 (x.1 : Nat), .int .i64 (x.2 : Nat)] := by simp [spC]
theorem spC_len (l : List (Nat × Nat)) : (spC l).length = l.length * 2 := by
  induction l with
  | nil => rfl
  | cons f fs ih => simp [spC] at *; omega
theorem spC_get : ∀ (l : List (Nat × Nat)) (k : Nat) (h : k < l.length), (spC l)[k * 2]? = some (.int .i64 (l[k].1 : Nat)) ∧ (spC l)[k * 2 + 1]? = some (.int .i64 (l[k].2 : Nat))
  | f :: fs, 0, _ => ⟨rfl, rfl⟩
  | f :: fs, k + 1, h => by
    have ih := spC_get fs k (by simpa using h)
    have e1 : (k + 1) * 2 = k * 2 + 2 := by omega
    have e2 : (k + 1) * 2 + 1 = (k * 2 + 1) + 2 := by omega
    rw [e2, e1]
    exact ih
end Go.Proofs.Ytjfconddkfihcaa.Mk
end
