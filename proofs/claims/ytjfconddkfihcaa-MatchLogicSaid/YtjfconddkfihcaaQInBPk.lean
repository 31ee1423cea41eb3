/- Queries that came in, and how large they are. -/
import Derived.Test.YtjfconddkfihcaaRows
import Derived.Test.YtjfconddkfihcaaPkMatchTellsRow23
import Derived.Test.YtjfconddkfihcaaNeedBPk
namespace Go.Proofs.Ytjfconddkfihcaa.Qy
set_option maxRecDepth 20000
open Go.RowKit Go.ChangeShapes Go.WideShapes Go.ChangeAt Go.Deep Go.Joins Go.Proofs.Ytjfconddkfihcaa
section
variable {H : Type} {enc : TypeId × Value → H} {P : Program} {W : World} {t e : TypeId}

theorem bk_pos (d : DataW H) : 1 ≤ Rows.uptoBulk d := by
  cases d with
  | lit l => cases l <;> simp [Rows.uptoBulk]
  | _ => simp [Rows.uptoBulk]
theorem bk_mem {d : DataW H} {ds : List (DataW H)} (h : d ∈ ds) : Rows.uptoBulk d ≤ Rows.uptoBulkAll ds := by
  induction ds with
  | nil => cases h
  | cons x r ih =>
    simp only [Rows.uptoBulkAll]
    rcases List.mem_cons.1 h with rfl | h
    · omega
    · have := ih h; omega
theorem bk_len (ds : List (DataW H)) : ds.length ≤ Rows.uptoBulkAll ds := by
  induction ds with
  | nil => simp [Rows.uptoBulkAll]
  | cons x r ih => have := bk_pos x; simp only [Rows.uptoBulkAll, List.length_cons]; omega
theorem bk_str (s : ByteArray) : Rows.uptoBulk (DataW.lit (H := H) (.string s.data.toList)) = s.size + 1 := by
  simp only [Rows.uptoBulk, bsize]
theorem bk_slice (ds spare : List (DataW H)) : Rows.uptoBulkAll ds ≤ Rows.uptoBulk (.slice ds spare) := by simp only [Rows.uptoBulk]; omega
theorem QTx.more {b b' : Nat} (hb : b ≤ b') {q : Q} (h : QTx b q) : QTx b' q := by
  induction h with
  | mk h1 h2 _ ih => exact .mk (by omega) (fun x hx => Nat.le_trans (h2 x hx) hb) ih
theorem wqs_le : ∀ (l : List Q) (ds : List (DataW H)), l.length = ds.length → (∀ i (h1 : i < l.length) (h2 : i < ds.length), wq l[i] ≤ Rows.uptoBulk ds[i]) → wqs l ≤ Rows.uptoBulkAll ds
  | [], [], _, _ => by simp [wqs]
  | q :: l, d :: ds, hl, h => by
    have h0 := h 0 (by simp) (by simp)
    have h1 := wqs_le l ds (by simpa using hl) (fun i a b => by
      have := h (i + 1) (by simp; omega) (by simp; omega)
      simpa using this)
    rw [wqs]
    simp only [Rows.uptoBulkAll]
    simp at h0
    omega
  | [], _ :: _, hl, _ => by simp at hl
  | _ :: _, [], hl, _ => by simp at hl

theorem strs_bk {fuel : Nat} {v : Value} {x : DataW H × List MemPlace} (ht : P.underlying t = some (.slice e)) (he : P.underlying e = some .string) (hc : P.cellsOf e = 1) (hb16 : P.bytesOf e = 16)
    (h : DataW.trod enc P W 0 (fun _ => true) true fuel t [v] = some x) (hw : ∀ n ∈ x.1.weights P t, n ≤ 140737488351232) :
    ∃ (A : Option Addr) (len cap : Nat) (ss : List ByteArray), v = .slice A len cap ∧ Reads W W.heap.size 1 A len (ss.map Value.string) ∧ ss.length = len ∧ len ≤ 8796093021952 ∧ (∀ s ∈ ss, s.size ≤ 140737488351232) ∧ ss.length ≤ Rows.uptoBulk x.1 ∧ ∀ s ∈ ss, s.size ≤ Rows.uptoBulk x.1 := by
  obtain ⟨A, len, cap, vss, ds, spare, rfl, hl, hv, h1, hR, hd, hx, hall⟩ := slice_at ht hc (by omega) h
  obtain ⟨A', len', cap', ss, e1, _, hR', hs, h2, h3⟩ := strs_at ht he hc hb16 h hw
  injection e1 with ea el ec
  subst ea el ec
  refine ⟨_, _, _, ss, rfl, hR', hs, h2, h3, ?_⟩
  rcases hx with hx | ⟨h0, _⟩
  · rw [hx]
    have hb := bk_slice ds spare
    have hlen := bk_len ds
    refine ⟨by omega, fun s hm => ?_⟩
    obtain ⟨i, hi, rfl⟩ := List.getElem_of_mem hm
    obtain ⟨n, y, g1, g2⟩ := hall i (by omega) (by omega)
    obtain ⟨s', f1, rfl, _⟩ := DataW.trod_string he g1
    have hf := flat_get h1 i 0 (by omega) (by omega)
    obtain ⟨b, o, e2, _, hc1⟩ := hR.2 (by omega)
    obtain ⟨b', o', e3, _, hc2⟩ := hR'.2 (by omega)
    rw [e2] at e3
    injection e3 with e3
    injection e3 with eb eo
    subst eb eo
    have k1 := hc1 (i * 1 + 0) _ (by rw [hf, f1]; rfl)
    have k2 := hc2 i (.string ss[i]) (by rw [List.getElem?_map, List.getElem?_eq_getElem hi]; rfl)
    rw [Nat.mul_one, Nat.add_zero] at k1
    rw [k1] at k2
    injection k2 with k2
    injection k2 with k2
    have hm2 := bk_mem (List.getElem_mem (show i < ds.length by omega))
    rw [← g2] at hm2
    simp only [] at hm2
    rw [bk_str, k2] at hm2
    omega
  · have : ss = [] := List.length_eq_zero_iff.1 (by omega)
    subst this
    exact ⟨by simp, fun s hs => by simp at hs⟩
end
section
variable {H : Type} {enc : TypeId × Value → H} {W : World}
/-- A query that came in, from its four cells, and how large it is. -/
theorem query_bk : ∀ (sz : Nat) (fuel : Nat) (cs : List Value) (x : DataW H × List MemPlace), SizeOf.sizeOf x.1 ≤ sz → DataW.trod enc Try.prog W 0 (fun _ => true) true fuel 37 cs = some x → (∀ n ∈ x.1.weights Try.prog 37, n ≤ 140737488351232) →
    ∃ q, QAt W W.heap.size q cs ∧ QSz q ∧ wq q ≤ Rows.uptoBulk x.1 ∧ QTx (Rows.uptoBulk x.1) q := by
  intro sz
  induction sz with
  | zero =>
    intro fuel cs x hs h _
    obtain ⟨y0, y1, y2, y3, n, rfl, _⟩ := trod_struct4 Try.underlying37 h
    simp at hs
  | succ sz ih =>
    intro fuel cs x hs h hw
    obtain ⟨y0, y1, y2, y3, n, rfl, hlen, h0, h1, h2, h3⟩ := trod_struct4 Try.underlying37 h
    rw [query_cells] at hlen
    match cs, hlen with
    | [c0, c1, c2, c3], _ =>
      simp only [kind_cells, string_cells, strs_cells, queries_cells, List.drop_zero, List.drop_succ_cons, List.take_succ_cons, List.take_zero] at h0 h1 h2 h3
      obtain ⟨k, e0, rfl, _⟩ := DataW.trod_int Try.underlying34 h0
      obtain ⟨nm, e1, rfl, _⟩ := DataW.trod_string Try.underlying9 h1
      simp only [List.cons.injEq, and_true] at e0 e1
      subst e0 e1
      obtain ⟨WA, m, wc, ws, rfl, hR, hwl, hm2, _, hwb, hwt⟩ := strs_bk Try.underlying28 Try.underlying9 string_cells string_bytes h2 (weights_part (j := 2) Try.underlying37 hw rfl rfl)
      obtain ⟨CA, len, cap, vss, ds, spare, rfl, _, hv, h4, hL, hd, hx, hall⟩ := slice_at Try.underlying35 query_cells (by omega) h3
      have hw3 := weights_part (j := 3) (d := y3.1) Try.underlying37 hw rfl rfl
      have each : ∀ i : Nat, ∃ q : Q, ∀ (h1 : i < vss.length) (h2 : i < ds.length), QAt W W.heap.size q vss[i] ∧ QSz q ∧ wq q ≤ Rows.uptoBulk ds[i] ∧ QTx (Rows.uptoBulk ds[i]) q := fun i => by
        by_cases hi : i < vss.length
        · obtain ⟨n', y, g1, g2⟩ := hall i hi (by omega)
          have hm : ds[i]'(by omega) ∈ ds := List.getElem_mem _
          rcases hx with hx | ⟨z0, _⟩
          · have hsz : SizeOf.sizeOf y.1 ≤ sz := by
              have a1 := List.sizeOf_lt_of_mem hm
              rw [g2]
              rw [hx] at hs
              simp at hs
              omega
            rw [hx] at hw3
            obtain ⟨q, hq⟩ := ih n' _ y hsz g1 (by rw [g2]; exact weights_elem Try.underlying35 hw3 hm)
            rw [g2] at hq
            exact ⟨q, fun _ _ => hq⟩
          · omega
        · exact ⟨.mk 0 ByteArray.empty [] [], fun h => absurd h hi⟩
      obtain ⟨f, hf⟩ := Classical.skolem.1 each
      have hll : ((List.range len).map f).length = len := by simp
      have hcap : len ≤ 8796093021952 := by
        rcases hx with hx | ⟨z0, _⟩
        · rw [hx] at hw3
          have := weights_len Try.underlying35 hw3
          rw [query_bytes] at this
          omega
        · omega
      have hbk : Rows.uptoBulkAll ds ≤ Rows.uptoBulk y3.1 := by
        rcases hx with hx | ⟨_, hx⟩
        · rw [hx]; exact bk_slice _ _
        · rw [hx]; simp [Rows.uptoBulkAll]
      have hwqs : wqs ((List.range len).map f) ≤ Rows.uptoBulkAll ds := wqs_le _ _ (by simp [hd]) (fun i a b => by
        have := (hf i (by omega) b).2.2.1
        simpa using this)
      refine ⟨.mk k nm ws ((List.range len).map f), .mk vss hwl hR hll hv h4 hL (fun i h1 h2 => ?_), .mk (by omega) (by omega) (fun y hy => ?_), ?_, .mk ?_ (fun x hx => ?_) (fun y hy => ?_)⟩
      · have := (hf i h2 (by omega)).1
        simpa using this
      · obtain ⟨i, hi, rfl⟩ := List.mem_map.1 hy
        have hi' : i < len := by simpa using hi
        exact (hf i (by omega) (by omega)).2.1
      · rw [wq_eq]
        simp only [Rows.uptoBulk, Rows.uptoBulkAll]
        omega
      · have := bk_str (H := H) nm
        simp only [Rows.uptoBulk, Rows.uptoBulkAll] at this ⊢
        omega
      · have := hwt x hx
        simp only [Rows.uptoBulk, Rows.uptoBulkAll]
        omega
      · obtain ⟨i, hi, rfl⟩ := List.mem_map.1 hy
        have hi' : i < len := by simpa using hi
        have hm := bk_mem (List.getElem_mem (show i < ds.length by omega))
        refine QTx.more ?_ (hf i (by omega) (by omega)).2.2.2
        simp only [Rows.uptoBulk, Rows.uptoBulkAll]
        omega
theorem query_inB {base : Nat} {v : Value} {d : DataW H} {p : List MemPlace} (hv : Value.okWide Try.prog W .any base 37 v) (h : DataW.Trod enc Try.prog W 0 (fun _ => true) true 37 v d p) (hw : ∀ n ∈ d.weights Try.prog 37, n ≤ 140737488351232) :
    ∃ (a0 a1 a2 a3 : Value) (q : Q), v = .agg #[a0, a1, a2, a3] ∧ QAt W W.heap.size q [a0, a1, a2, a3] ∧ QSz q ∧ wq q ≤ Rows.uptoBulk d ∧ QTx (Rows.uptoBulk d) q := by
  obtain ⟨cs, rfl, _⟩ := okWide_struct Try.underlying37 hv
  obtain ⟨fuel, hf⟩ := h
  obtain ⟨q, hq, hs, h1, h2⟩ := query_bk _ _ _ _ (Nat.le_refl _) hf hw
  obtain ⟨k, nm, ws, l⟩ := q
  obtain ⟨A, n, c, C, m, d, e, _⟩ := hq.is
  have e' : cs = #[.int .i64 k, .string nm, .slice A n c, .slice C m d] := by
    have e : cs.toList = _ := e
    exact Array.toList_inj.1 e
  subst e'
  exact ⟨_, _, _, _, _, rfl, hq, hs, h1, h2⟩
end
end Go.Proofs.Ytjfconddkfihcaa.Qy
