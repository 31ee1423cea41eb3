/- Batches in memory. (No walk.) -/
import Derived.Deep.Strs
import Derived.Maps.OwnSet
import Derived.Maps.RangeWalk
import Derived.Test.YtdloacfoegjnmaaGreatPkGroupIndexesRow12
import Derived.Test.YtdloacfoegjnmaaGreatPkGroupIndexesRow0
import Derived.Test.YtdloacfoegjnmaaGreatEvPPk
section
namespace Go.Proofs.YtdloacfoegjnmaaGreat.Mx
open Go.RowKit Go.Proofs.YtdloacfoegjnmaaGreat Go.Proofs.YtdloacfoegjnmaaGreat.Ut Go.Proofs.YtdloacfoegjnmaaGreat.Tk Go.Proofs.YtdloacfoegjnmaaGreat.Qy Go.Proofs.YtdloacfoegjnmaaGreat.Ev Go.Proofs.YtdloacfoegjnmaaGreat.Qp
set_option linter.unusedVariables false
set_option linter.unusedSimpArgs false
set_option maxRecDepth 20000

/-- A batch: its number, its events. -/
abbrev Bt := Int × List Evn
/-- A batch's two cells. -/
def BtV (w : World) (B : Nat) (b : Bt) (v : List Value) : Prop := ∃ A n c, v = [.int .i64 b.1, .slice A n c] ∧ EvsAt w B A n c b.2
theorem BtV.len {w : World} {B : Nat} {b : Bt} {v : List Value} (h : BtV w B b v) : v.length = 2 := by obtain ⟨A, n, c, rfl, _⟩ := h; rfl
theorem BtV.keep {w w' : World} {B : Nat} {b : Bt} {v : List Value} (h : BtV w B b v) (hk : ∀ b o, b < B → w'.cell? ⟨b, o, none⟩ = w.cell? ⟨b, o, none⟩) : BtV w' B b v := by
  obtain ⟨A, n, c, e, g⟩ := h
  exact ⟨A, n, c, e, g.keep hk⟩
theorem BtV.more {w : World} {B B' : Nat} {b : Bt} {v : List Value} (h : BtV w B b v) (hB : B ≤ B') : BtV w B' b v := by
  obtain ⟨A, n, c, e, g⟩ := h
  exact ⟨A, n, c, e, g.more hB⟩
/-- A row of batches, in blocks of R, their events below B. -/
structure BtsAt (w : World) (R : Nat → Prop) (B : Nat) (A : Option Addr) (n c : Nat) (l : List Bt) : Prop where
  ln : l.length = n
  cap : n ≤ c
  ex : ∃ vss : List (List Value), vss.length = n ∧ ReadsS w R 2 A n vss.flatten ∧ ∀ i (h : i < l.length) (h' : i < vss.length), BtV w B l[i] vss[i]
theorem BtsAt.keep {w w' : World} {R : Nat → Prop} {B n c : Nat} {A : Option Addr} {l : List Bt} (h : BtsAt w R B A n c l) (hr : ∀ b o, R b → w'.cell? ⟨b, o, none⟩ = w.cell? ⟨b, o, none⟩) (hk : ∀ b o, b < B → w'.cell? ⟨b, o, none⟩ = w.cell? ⟨b, o, none⟩) : BtsAt w' R B A n c l := by
  obtain ⟨vss, h1, h2, h3⟩ := h.ex
  exact ⟨h.ln, h.cap, vss, h1, h2.keep hr, fun i a b => (h3 i a b).keep hk⟩
theorem BtsAt.at_ {w : World} {R : Nat → Prop} {B n c : Nat} {A : Option Addr} {l : List Bt} (h : BtsAt w R B A n c l) {i : Nat} (hi : i < l.length) :
    ∃ b o E m k, A = some ⟨b, o, none⟩ ∧ R b ∧ w.cell? ⟨b, o + i * 2, none⟩ = some (.int .i64 l[i].1) ∧ w.cell? ⟨b, o + i * 2 + 1, none⟩ = some (.slice E m k) ∧ EvsAt w B E m k l[i].2 := by
  obtain ⟨vss, h1, h2, h3⟩ := h.ex
  have hl := h.ln
  have hi' : i < vss.length := by omega
  have h4 : ∀ v ∈ vss, v.length = 2 := fun v hv => by
    obtain ⟨j, hj, rfl⟩ := List.mem_iff_getElem.1 hv
    exact (h3 j (by omega) hj).len
  obtain ⟨E, m, k, e, g⟩ := h3 i hi hi'
  obtain ⟨b, o, eA, hb, hc⟩ := h2.2 (by omega)
  have f0 := flat_get h4 i 0 hi' (by omega)
  have f1 := flat_get h4 i 1 hi' (by omega)
  rw [e] at f0 f1
  have c0 := hc _ _ f0
  have c1 := hc _ _ f1
  rw [← Nat.add_assoc] at c1
  exact ⟨b, o, E, m, k, eA, hb, c0, c1, g⟩
theorem batch_info : (Tryz.prog.info? 35).map (fun i => (i.zero, i.size, i.bytes)) = some (some (.agg #[.int .i64 0, .slice none 0 0]), 2, 32) := by kernel_rfl
/-- Batches of the call's own that are being collected. -/
structure BOwn (w : World) (base B : Nat) (v : Value) (l : List Bt) : Prop where
  ex : ∃ vss : List (List Value), vss.length = l.length ∧ w.ownsRow base 35 2 v l.length vss.flatten ∧ ∀ i (h : i < l.length) (h' : i < vss.length), BtV w B l[i] vss[i]
theorem BOwn.start (w : World) (base B : Nat) : BOwn w base B (.slice none 0 0) [] := ⟨[], rfl, World.ownsRow_nil _ _ _ _, fun i h => absurd h (by simp)⟩
theorem BOwn.below {w w' : World} {base B : Nat} {v : Value} {l : List Bt} (h : BOwn w base B v l) (hb : Below w.heap.size w w') (hB : B ≤ w.heap.size) : BOwn w' base B v l := by
  obtain ⟨vss, h1, h2, h3⟩ := h.ex
  exact ⟨vss, h1, h2.kept (grow_of_below hb none) (by cases hv : v.ownBlock <;> simp), fun i a b => (h3 i a b).keep (fun b o hlt => hb.cell (Nat.lt_of_lt_of_le hlt hB))⟩
theorem BOwn.put {w w5 : World} {base B : Nat} {v v' : Value} {l : List Bt} {d : Bt} {u : List Value} {xs : List Value} (hx : ∃ vss : List (List Value), vss.length = l.length ∧ w.ownsRow base 35 2 v l.length vss.flatten ∧ (∀ i (h : i < l.length) (h' : i < vss.length), BtV w B l[i] vss[i]) ∧ xs = vss.flatten)
    (hp : w5.ownsRow base 35 2 v' (l.length + 1) (xs ++ u)) (hg : w.grownBy w5 v.ownBlock) (hd : BtV w B d u) (hB : B ≤ base) (hw : B ≤ w.heap.size) : BOwn w5 base B v' (l ++ [d]) := by
  obtain ⟨vss, h1, h2, h3, rfl⟩ := hx
  have keep : ∀ b o, b < B → w5.cell? ⟨b, o, none⟩ = w.cell? ⟨b, o, none⟩ := fun b o hlt => cell_same (hg.block b (Nat.lt_of_lt_of_le hlt hw) (fun e => by have := (h2.lt b e.symm).1; omega)) o
  refine ⟨vss ++ [u], by simp [h1], ?_, fun i a b => ?_⟩
  · rw [List.flatten_append, List.length_append]
    simpa using hp
  · by_cases hi : i < l.length
    · rw [List.getElem_append_left hi, List.getElem_append_left (by omega)]
      exact (h3 i hi (by omega)).keep keep
    · have hi' : i = l.length := by simp at a; omega
      subst hi'
      rw [List.getElem_append_right (by omega), List.getElem_append_right (by omega)]
      simp only [Nat.sub_self, h1, List.getElem_cons_zero]
      exact hd.keep keep
/-- Behind it the row can be read. -/
theorem BOwn.read {w : World} {base B : Nat} {v : Value} {l : List Bt} (h : BOwn w base B v l) : ∃ A c, v = .slice A l.length c ∧ BtsAt w (fun b => base ≤ b ∧ b < w.heap.size) B A l.length c l := by
  obtain ⟨vss, h1, h2, h3⟩ := h.ex
  obtain ⟨A, c, rfl, _, hc, hn, _⟩ := own_shape2 h2
  exact ⟨A, c, rfl, ⟨rfl, hc, vss, h1, (ReadsS.of_own h2).mono (fun b hb => ⟨hb.1, hb.2.1⟩), fun i a b => h3 i a b⟩⟩
end Go.Proofs.YtdloacfoegjnmaaGreat.Mx
end

section
/- Batches that came in, opened out of a law's arguments. -/
namespace Go.Proofs.YtdloacfoegjnmaaGreat.Mx
set_option maxRecDepth 20000
set_option linter.unusedVariables false
set_option linter.unusedSimpArgs false
open Go.RowKit Go.ChangeShapes Go.WideShapes Go.ChangeAt Go.Deep Go.Joins Go.Proofs.YtdloacfoegjnmaaGreat Go.Proofs.YtdloacfoegjnmaaGreat.Ut Go.Proofs.YtdloacfoegjnmaaGreat.Tk Go.Proofs.YtdloacfoegjnmaaGreat.Qy Go.Proofs.YtdloacfoegjnmaaGreat.Ev Go.Proofs.YtdloacfoegjnmaaGreat.Qp
section
variable {H : Type} {enc : TypeId × Value → H} {W : World} {base : Nat}
theorem field_cells : Tryz.prog.cellsOf 89 = 2 := by kernel_rfl
theorem field_bytes : Tryz.prog.bytesOf 89 = 32 := by kernel_rfl
theorem batch_cells : Tryz.prog.cellsOf 35 = 2 := by kernel_rfl
theorem batch_bytes : Tryz.prog.bytesOf 35 = 32 := by kernel_rfl
theorem event_cells : Tryz.prog.cellsOf 54 = 2 := by kernel_rfl
theorem event_bytes : Tryz.prog.bytesOf 54 = 32 := by kernel_rfl
theorem string_cells2 : Tryz.prog.cellsOf 9 = 1 := by kernel_rfl
theorem int_cells : Tryz.prog.cellsOf 3 = 1 := by kernel_rfl
theorem fields_cells : Tryz.prog.cellsOf 52 = 1 := by kernel_rfl
theorem events_cells : Tryz.prog.cellsOf 33 = 1 := by kernel_rfl
theorem len_two {α : Type} {l : List α} (h : l.length = 2) : ∃ a b, l = [a, b] := by
  match l, h with
  | [a, b], _ => exact ⟨a, b, rfl⟩
theorem nil_addr {t e : TypeId} {fuel : Nat} {P : Program} {A : Option Addr} {len cap : Nat} {x : DataW H × List MemPlace} (ht : P.underlying t = some (.slice e)) (h : DataW.trod enc P W 0 (fun _ => true) true fuel t [.slice A len cap] = some x) : A = none → cap = 0 := by
  rcases open_slice ht h with ⟨hcs, _⟩ | ⟨a, len, cap, m, n, D, Pl, hcs, _⟩
  · simp only [List.cons.injEq, and_true, Value.slice.injEq] at hcs
    exact fun _ => hcs.2.2
  · simp only [List.cons.injEq, and_true, Value.slice.injEq] at hcs
    intro h
    rw [h] at hcs
    cases hcs.1
/-- A row of fields that came in. -/
theorem fields_in {fuel : Nat} {v : Value} {x : DataW H × List MemPlace} (h : DataW.trod enc Tryz.prog W 0 (fun _ => true) true fuel 52 [v] = some x) (hw : ∀ n ∈ x.1.weights Tryz.prog 52, n ≤ 140737488351232) :
    ∃ (F : Option Addr) (n c : Nat) (fs : List (ByteArray × ByteArray)), v = .slice F n c ∧ FlAt W W.heap.size F n c fs := by
  obtain ⟨A, len, cap, vss, ds, spare, rfl, hl, hv, h2, hR, hd, hx, hall⟩ := slice_at Tryz.underlying52 field_cells (by omega) h
  have hnil := nil_addr Tryz.underlying52 h
  have each : ∀ i : Nat, ∃ f : ByteArray × ByteArray, ∀ (h1 : i < vss.length) (h2 : i < ds.length), vss[i] = [.string f.1, .string f.2] ∧ ds[i] = .agg [.lit (.string f.1.data.toList), .lit (.string f.2.data.toList)] := fun i => by
    by_cases hi : i < vss.length ∧ i < ds.length
    · obtain ⟨n, y, g1, g2⟩ := hall i hi.1 hi.2
      obtain ⟨y0, y1, n', rfl, hlen, t0, t1⟩ := trod_struct2 Tryz.underlying89 g1
      have hvl := h2 _ (List.getElem_mem hi.1)
      obtain ⟨u0, u1, hu⟩ := len_two hvl
      rw [hu] at t0 t1
      simp only [string_cells2, List.drop_zero, List.drop_succ_cons, List.take_succ_cons, List.take_zero] at t0 t1
      obtain ⟨s0, e0, rfl, _⟩ := DataW.trod_string Tryz.underlying9 t0
      obtain ⟨s1, e1, rfl, _⟩ := DataW.trod_string Tryz.underlying9 t1
      simp only [List.cons.injEq, and_true] at e0 e1
      subst e0 e1
      exact ⟨(s0, s1), fun _ _ => ⟨hu, g2.symm⟩⟩
    · exact ⟨(ByteArray.empty, ByteArray.empty), fun h1 h2 => absurd ⟨h1, h2⟩ hi⟩
  obtain ⟨f, hf⟩ := Classical.skolem.1 each
  have hlen : ((List.range len).map f).length = len := by simp
  have e : vss.flatten = fldC ((List.range len).map f) := by
    apply List.ext_getElem?
    intro j
    by_cases hj : j < len * 2
    · have hi : j / 2 < vss.length := by omega
      have hg := fldC_get ((List.range len).map f) (j / 2) (by rw [hlen]; omega)
      have hfi := (hf (j / 2) hi (by omega)).1
      have hget : ((List.range len).map f)[j / 2]'(by rw [hlen]; omega) = f (j / 2) := by simp
      rw [hget] at hg
      rcases Nat.mod_two_eq_zero_or_one j with e0 | e1
      · have h0 := flat_get h2 (j / 2) 0 hi (by omega)
        have e : j = j / 2 * 2 := by omega
        rw [hfi, Nat.add_zero] at h0
        rw [e, h0, hg.1]
        rfl
      · have h0 := flat_get h2 (j / 2) 1 hi (by omega)
        have e : j = j / 2 * 2 + 1 := by omega
        rw [hfi] at h0
        rw [e, h0, hg.2]
        rfl
    · rw [List.getElem?_eq_none (by rw [flat_len h2]; omega), List.getElem?_eq_none (by rw [fldC_len, hlen]; omega)]
  rw [e] at hR
  have hbd : len ≤ 8796093021952 ∧ ∀ i, i < len → (f i).1.size ≤ 140737488351232 ∧ (f i).2.size ≤ 140737488351232 := by
    rcases hx with hx | ⟨h0, _⟩
    · rw [hx] at hw
      have h3 := weights_len Tryz.underlying52 hw
      rw [field_bytes] at h3
      refine ⟨by omega, fun i hi => ?_⟩
      have hm : ds[i]'(by omega) ∈ ds := List.getElem_mem _
      have h4 := weights_elem Tryz.underlying52 hw hm
      rw [(hf i (by omega) (by omega)).2] at h4
      have g0 := weights_part (j := 0) Tryz.underlying89 h4 rfl rfl (f i).1.data.toList.length (by simp [DataW.weights])
      have g1 := weights_part (j := 1) Tryz.underlying89 h4 rfl rfl (f i).2.data.toList.length (by simp [DataW.weights])
      rw [bsize] at g0 g1
      exact ⟨g0, g1⟩
    · exact ⟨by omega, fun i hi => by omega⟩
  exact ⟨A, len, cap, _, rfl, hR, hlen, hbd.1, hl, fun s hs => by
    obtain ⟨i, hi, rfl⟩ := List.mem_map.1 hs
    exact hbd.2 i (by simpa using hi), hnil⟩
/-- An event that came in, from its two cells. -/
theorem event_at {fuel : Nat} {cs : List Value} {x : DataW H × List MemPlace} (h : DataW.trod enc Tryz.prog W 0 (fun _ => true) true fuel 54 cs = some x) (hw : ∀ n ∈ x.1.weights Tryz.prog 54, n ≤ 140737488351232) :
    ∃ e : Evn, EvV W W.heap.size e cs := by
  obtain ⟨y0, y1, n', rfl, hlen, t0, t1⟩ := trod_struct2 Tryz.underlying54 h
  rw [event_cells] at hlen
  match cs, hlen with
  | [u0, u1], _ =>
    simp only [int_cells, fields_cells, List.drop_zero, List.drop_succ_cons, List.take_succ_cons, List.take_zero] at t0 t1
    obtain ⟨k, e0, rfl, wk⟩ := DataW.trod_int Tryz.underlying3 t0
    simp only [List.cons.injEq, and_true] at e0
    subst e0
    obtain ⟨F, n, c, fs, rfl, hf⟩ := fields_in t1 (weights_part (j := 1) Tryz.underlying54 hw rfl rfl)
    exact ⟨(k, fs), F, n, c, rfl, hf⟩
/-- A row of events that came in. -/
theorem events_in {fuel : Nat} {v : Value} {x : DataW H × List MemPlace} (h : DataW.trod enc Tryz.prog W 0 (fun _ => true) true fuel 33 [v] = some x) (hw : ∀ n ∈ x.1.weights Tryz.prog 33, n ≤ 140737488351232) :
    ∃ (A : Option Addr) (n c : Nat) (l : List Evn), v = .slice A n c ∧ EvsAt W W.heap.size A n c l := by
  obtain ⟨A, len, cap, vss, ds, spare, rfl, hl, hvl, h3, hR, hd, hx, hall⟩ := slice_at Tryz.underlying33 event_cells (by omega) h
  have each : ∀ i : Nat, ∃ e : Evn, ∀ (h1 : i < vss.length), EvV W W.heap.size e vss[i] := fun i => by
    by_cases hi : i < vss.length
    · obtain ⟨n', y, g1, g2⟩ := hall i hi (by omega)
      have hm : ds[i]'(by omega) ∈ ds := List.getElem_mem _
      rcases hx with hx | ⟨z0, _⟩
      · rw [hx] at hw
        obtain ⟨q, hq⟩ := event_at g1 (by rw [g2]; exact weights_elem Tryz.underlying33 hw hm)
        exact ⟨q, fun _ => hq⟩
      · omega
    · exact ⟨(0, []), fun h => absurd h hi⟩
  obtain ⟨f, hf⟩ := Classical.skolem.1 each
  have hbd : len ≤ 4398046511104 := by
    rcases hx with hx | ⟨z0, _⟩
    · rw [hx] at hw
      have := weights_len Tryz.underlying33 hw
      rw [event_bytes] at this
      omega
    · omega
  refine ⟨A, len, cap, (List.range len).map f, rfl, by simp, hbd, hl, vss, hvl, hR, fun i h1 h2 => ?_⟩
  have := hf i h2
  simpa using this
/-- A batch that came in, from its two cells. -/
theorem batch_at {fuel : Nat} {cs : List Value} {x : DataW H × List MemPlace} (h : DataW.trod enc Tryz.prog W 0 (fun _ => true) true fuel 35 cs = some x) (hw : ∀ n ∈ x.1.weights Tryz.prog 35, n ≤ 140737488351232) :
    ∃ b : Bt, BtV W W.heap.size b cs ∧ (Lit.int .i64 b.1).wf = true := by
  obtain ⟨y0, y1, n', rfl, hlen, t0, t1⟩ := trod_struct2 Tryz.underlying35 h
  rw [batch_cells] at hlen
  match cs, hlen with
  | [u0, u1], _ =>
    simp only [int_cells, events_cells, List.drop_zero, List.drop_succ_cons, List.take_succ_cons, List.take_zero] at t0 t1
    obtain ⟨k, e0, rfl, wk⟩ := DataW.trod_int Tryz.underlying3 t0
    simp only [List.cons.injEq, and_true] at e0
    subst e0
    obtain ⟨F, n, c, l, rfl, hf⟩ := events_in t1 (weights_part (j := 1) Tryz.underlying35 hw rfl rfl)
    exact ⟨(k, l), ⟨F, n, c, rfl, hf⟩, wk⟩
/-- A row of batches that came in. -/
theorem batches_in {v : Value} {d : DataW H} {p : List MemPlace} (hv : Value.okWide Tryz.prog W .any base 22 v) (h : DataW.Trod enc Tryz.prog W 0 (fun _ => true) true 22 v d p) (hw : ∀ n ∈ d.weights Tryz.prog 22, n ≤ 140737488351232) :
    ∃ (A : Option Addr) (n c : Nat) (l : List Bt), v = .slice A n c ∧ BtsAt W (· < W.heap.size) W.heap.size A n c l ∧ n ≤ 4398046511104 ∧ ∀ b ∈ l, (Lit.int .i64 b.1).wf = true := by
  obtain ⟨A0, n0, c0, rfl⟩ := okWide_slice Tryz.underlying22 hv
  obtain ⟨fuel, hf⟩ := h
  have hf : DataW.trod enc Tryz.prog W 0 (fun _ => true) true fuel 22 [.slice A0 n0 c0] = some (d, p) := by simpa [Value.cells] using hf
  obtain ⟨A, len, cap, vss, ds, spare, e, hl, hvl, h3, hR, hd, hx, hall⟩ := slice_at Tryz.underlying22 batch_cells (by omega) hf
  injection e with ea el ec
  subst ea el ec
  have each : ∀ i : Nat, ∃ b : Bt, (Lit.int .i64 b.1).wf = true ∧ ∀ (h1 : i < vss.length), BtV W W.heap.size b vss[i] := fun i => by
    by_cases hi : i < vss.length
    · obtain ⟨n', y, g1, g2⟩ := hall i hi (by omega)
      have hm : ds[i]'(by omega) ∈ ds := List.getElem_mem _
      rcases hx with hx | ⟨z0, _⟩
      · have hx : d = .slice ds spare := hx
        rw [hx] at hw
        obtain ⟨q, hq, hwf⟩ := batch_at g1 (by rw [g2]; exact weights_elem Tryz.underlying22 hw hm)
        exact ⟨q, hwf, fun _ => hq⟩
      · omega
    · exact ⟨(0, []), rfl, fun h => absurd h hi⟩
  obtain ⟨f, hf'⟩ := Classical.skolem.1 each
  have hbd : n0 ≤ 4398046511104 := by
    rcases hx with hx | ⟨z0, _⟩
    · have hx : d = .slice ds spare := hx
      rw [hx] at hw
      have := weights_len Tryz.underlying22 hw
      rw [batch_bytes] at this
      omega
    · omega
  refine ⟨A0, n0, c0, (List.range n0).map f, rfl, ⟨by simp, hl, vss, hvl, hR, fun i h1 h2 => ?_⟩, hbd, fun b hb => ?_⟩
  · have := (hf' i).2 h2
    simpa using this
  · obtain ⟨i, _, rfl⟩ := List.mem_map.1 hb
    exact (hf' i).1
end
end Go.Proofs.YtdloacfoegjnmaaGreat.Mx
end

section
/- The hot index: where terms stand: plain. (No program in sight.) -/
namespace Go.Proofs.YtdloacfoegjnmaaGreat.Mx
open Go.RowKit Go.Proofs.YtdloacfoegjnmaaGreat Go.Proofs.YtdloacfoegjnmaaGreat.Ut Go.Proofs.YtdloacfoegjnmaaGreat.Tk Go.Proofs.YtdloacfoegjnmaaGreat.Qy Go.Proofs.YtdloacfoegjnmaaGreat.Ev
set_option linter.unusedVariables false
set_option linter.unusedSimpArgs false

/-- A post: a doc's place; the places in it. -/
abbrev Po := Nat × List Nat
/-- Where a term stands in an event. -/
def posOf (fs : List Fl) (s : ByteArray) : Option (List Nat) := ((addAll (raw fs)).find? (fun t => decide (t.1 = s))).map (·.2)
/-- A term's posts. -/
def postsT (ds : List (List Fl)) (s : ByteArray) : List Po := ds.zipIdx.filterMap (fun p => (posOf p.1 s).map (fun q => (p.2, q)))
theorem postsT_nil (s : ByteArray) : postsT [] s = [] := rfl
theorem postsT_snoc (ds : List (List Fl)) (fs : List Fl) (s : ByteArray) : postsT (ds ++ [fs]) s = postsT ds s ++ (match posOf fs s with | some q => [(ds.length, q)] | none => []) := by
  unfold postsT
  rw [List.zipIdx_append, List.filterMap_append]
  congr 1
  simp only [List.zipIdx_cons, List.zipIdx_nil, List.filterMap_cons, List.filterMap_nil, Nat.zero_add]
  cases posOf fs s <;> rfl
/-- A term's post more. -/
def addP (f : ByteArray → List Po) (i : Nat) (t : Tm) : ByteArray → List Po := fun s => if s = t.1 then f s ++ [(i, t.2)] else f s
theorem addP_all (i : Nat) : ∀ (T : List Tm) (f : ByteArray → List Po), T.Pairwise (fun x y => x.1 ≠ y.1) → ∀ s, (T.foldl (fun f t => addP f i t) f) s = f s ++ (match (T.find? (fun t => decide (t.1 = s))).map (·.2) with | some q => [(i, q)] | none => [])
  | [], f, _, s => by simp
  | t :: T, f, h, s => by
    obtain ⟨h1, h2⟩ := List.pairwise_cons.1 h
    rw [List.foldl_cons, addP_all i T (addP f i t) h2 s]
    unfold addP
    by_cases e : s = t.1
    · have hn : T.find? (fun x => decide (x.1 = s)) = none := by
        rw [List.find?_eq_none]
        intro x hx
        have := h1 x hx
        simp only [decide_eq_true_eq]
        intro e2
        exact this (by rw [e2, e])
      rw [hn, if_pos e, List.find?_cons]
      simp [e]
    · rw [if_neg e, List.find?_cons]
      have : decide (t.1 = s) = false := decide_eq_false (fun e2 => e e2.symm)
      simp only [this]
theorem terms_ne (fs : List Fl) : (addAll (raw fs)).Pairwise (fun x y => x.1 ≠ y.1) := (isTm_all (raw fs)).up.imp (fun {x y} h e => by rw [e, ltB_irrefl] at h; cases h)
/-- All terms of one doc more. -/
theorem posts_doc (ds : List (List Fl)) (fs : List Fl) (s : ByteArray) : ((addAll (raw fs)).foldl (fun f t => addP f ds.length t) (postsT ds)) s = postsT (ds ++ [fs]) s := by
  rw [addP_all _ _ _ (terms_ne fs), postsT_snoc]
  rfl
theorem posOf_ne {fs : List Fl} {s : ByteArray} {q : List Nat} (h : posOf fs s = some q) : q ≠ [] := by
  unfold posOf at h
  obtain ⟨t, ht, rfl⟩ := Option.map_eq_some_iff.1 h
  exact (((isTm_all (raw fs)).mem t).1 (List.mem_of_find?_eq_some ht)).1
/-- The sizes, the times of docs. -/
def szD : List Dc → Nat
  | [] => 0
  | d :: l => szE d.fs + szD l
def loD : List Dc → Int
  | [] => 0
  | d :: l => l.foldl (fun a e => min a e.at_) d.at_
def hiD : List Dc → Int
  | [] => 0
  | d :: l => l.foldl (fun a e => max a e.at_) d.at_
theorem szD_snoc (l : List Dc) (d : Dc) : szD (l ++ [d]) = szD l + szE d.fs := by
  induction l with
  | nil => simp [szD]
  | cons e l ih => simp only [List.cons_append, szD, ih]; omega
theorem loD_snoc (l : List Dc) (d : Dc) : loD (l ++ [d]) = if l = [] then d.at_ else min (loD l) d.at_ := by
  cases l with
  | nil => rfl
  | cons e l => simp [loD, List.foldl_append]
theorem hiD_snoc (l : List Dc) (d : Dc) : hiD (l ++ [d]) = if l = [] then d.at_ else max (hiD l) d.at_ := by
  cases l with
  | nil => rfl
  | cons e l => simp [hiD, List.foldl_append]
/-- What an index says of a batch. -/
def addE (ds : List Dc) (seq : Int) (l : List Evn) : Int :=
  if chkB seq l = 0 then (if ∃ d, ds.getLast? = some d ∧ seq ≠ d.seq + 1 then 140 else if 65536 < ds.length + l.length then 3 else 0) else chkB seq l
/-- What it has behind it. -/
def addD (ds : List Dc) (seq : Int) (l : List Evn) : List Dc := if addE ds seq l = 0 then ds ++ mkD seq l else ds
end Go.Proofs.YtdloacfoegjnmaaGreat.Mx
end

section
/- Maps in memory, their values as they stand. (No walk.) -/
namespace Go.Proofs.YtdloacfoegjnmaaGreat.Mv
open Go.RowKit Go.Maps Go.Proofs.YtdloacfoegjnmaaGreat
set_option linter.unusedVariables false
set_option linter.unusedSimpArgs false

/-- How a value reads: as it stands. -/
def rawR (v : Value) : Option (DataW Value × List MemPlace) := some (.held v, [])
theorem rawR_mk (v : Value) : rawR v = some (.held v, []) := rfl
theorem rawR_inv {v : Value} {d : DataW Value} {ps : List MemPlace} (h : rawR v = some (d, ps)) : d = .held v := by
  unfold rawR at h
  injection h with h
  injection h with h _
  exact h.symm
/-- Keys: texts, or numbers. -/
structure KeyLit (κ : Type) where
  lit : κ → Lit
  val : κ → Value
  inj : ∀ a b, lit a = lit b → a = b
  key : ∀ a, WideAt.IsKeyLit (lit a)
def litS : KeyLit ByteArray where
  lit s := .string s.data.toList
  val s := .string s
  inj a b h := by
    injection h with h
    have h3 : a.data = b.data := Array.toList_inj.1 h
    cases a; cases b; simp at h3; rw [h3]
  key a := by simp [WideAt.IsKeyLit]
def litI : KeyLit Int where
  lit i := .int .i64 i
  val i := .int .i64 i
  inj a b h := by injection h
  key a := by simp [WideAt.IsKeyLit]
section
variable {κ : Type} (L : KeyLit κ)
theorem same_dec [DecidableEq κ] (a b : κ) : (L.lit a).sameKey (L.lit b) = decide (a = b) := by
  by_cases h : a = b
  · subst h
    rw [WideAt.sameKey_self (L.key a)]
    simp
  · rw [Maps.sameKey_ne (fun e => h (L.inj _ _ e)), decide_eq_false h]
/-- The datum holds the table. -/
structure TabV (D : DataW Value) (f : κ → Option Value) : Prop where
  has : ∀ s, Maps.has D (L.lit s) = (f s).isSome
  val : ∀ s v, f s = some v → ∀ z, D.atKey (L.lit s) z = .held v
  key : ∀ kl, Maps.has D kl = true → ∃ s, kl = L.lit s
variable {L}
def noV : κ → Option Value := fun _ => none
def putV [DecidableEq κ] (f : κ → Option Value) (s : κ) (v : Value) : κ → Option Value := fun t => if t = s then some v else f t
def delV [DecidableEq κ] (f : κ → Option Value) (s : κ) : κ → Option Value := fun t => if t = s then none else f t
theorem TabV.none : TabV L (.map []) noV := ⟨fun s => rfl, fun s n h => (nomatch h), fun kl h => (nomatch h)⟩
theorem TabV.put [DecidableEq κ] {D : DataW Value} {f : κ → Option Value} (h : TabV L D f) (hm : IsMap D) (s : κ) (n : Value) : TabV L (D.put (L.lit s) (.held n)) (putV f s n) := by
  refine ⟨fun t => ?_, fun t m ht z => ?_, fun kl hk => ?_⟩
  · unfold putV
    by_cases e : t = s
    · subst e
      rw [has_put_same hm (L.key t), if_pos rfl]; rfl
    · rw [has_put_other (fun e' => e (L.inj _ _ e')), if_neg e]; exact h.has t
  · unfold putV at ht
    by_cases e : t = s
    · subst e
      rw [if_pos rfl] at ht
      injection ht with ht
      rw [atKey_put_same hm (L.key t), ht]
    · rw [if_neg e] at ht
      rw [atKey_put_other (fun e' => e (L.inj _ _ e'))]
      exact h.val t m ht z
  · by_cases e : kl = L.lit s
    · exact ⟨s, e⟩
    · rw [has_put_other e] at hk
      exact h.key kl hk
theorem TabV.del [DecidableEq κ] {D : DataW Value} {f : κ → Option Value} (h : TabV L D f) (s : κ) : TabV L (D.del (L.lit s)) (delV f s) := by
  refine ⟨fun t => ?_, fun t m ht z => ?_, fun kl hk => ?_⟩
  · unfold delV
    by_cases e : t = s
    · subst e
      rw [has_del_same, if_pos rfl]; rfl
    · rw [has_del_other (fun e' => e (L.inj _ _ e')), if_neg e]; exact h.has t
  · unfold delV at ht
    by_cases e : t = s
    · subst e
      rw [if_pos rfl] at ht
      cases ht
    · rw [if_neg e] at ht
      rw [atKey_del_other (fun e' => e (L.inj _ _ e'))]
      exact h.val t m ht z
  · by_cases e : kl = L.lit s
    · subst e
      rw [has_del_same] at hk
      cases hk
    · rw [has_del_other e] at hk
      exact h.key kl hk
theorem TabV.at_ {D : DataW Value} {f : κ → Option Value} (h : TabV L D f) {s : κ} {z v : Value} (hv : D.atKey (L.lit s) (.held z) = .held v) : v = (f s).getD z := by
  cases e : f s with
  | none =>
    have : Maps.has D (L.lit s) = false := by rw [h.has, e]; rfl
    rw [atKey_of_not_has this] at hv
    injection hv with hv
    exact hv.symm
  | some n =>
    rw [h.val s n e] at hv
    injection hv with hv
    exact hv.symm
theorem TabV.congr {D : DataW Value} {f g : κ → Option Value} (h : TabV L D f) (e : ∀ s, f s = g s) : TabV L D g := ⟨fun s => by rw [h.has, e], fun s v hv => h.val s v (by rw [e]; exact hv), h.key⟩
end
/-- A map in memory that holds the table. -/
structure MapV {κ : Type} (P : Program) (k : TypeId) (L : KeyLit κ) (w : World) (b n : Nat) (f : κ → Option Value) : Prop where
  ex : ∃ D, w.ownsMap P k rawR b n D ∧ TabV L D f
section
variable {κ : Type} {P : Program} {k : TypeId} {L : KeyLit κ} {w w' : World} {b n : Nat} {f g : κ → Option Value}
theorem MapV.made (P : Program) (k : TypeId) (L : KeyLit κ) (w : World) : MapV P k L (w.alloc (.map #[] 0)) w.heap.size 0 noV := ⟨⟨_, World.ownsMap_made w P k rawR, TabV.none⟩⟩
theorem MapV.kept {row : Option Nat} (h : MapV P k L w b n f) (hg : w.grownBy w' row) (hne : some b ≠ row) : MapV P k L w' b n f := by
  obtain ⟨D, h1, h2⟩ := h.ex
  exact ⟨⟨D, h1.kept hg hne, h2⟩⟩
theorem MapV.below (h : MapV P k L w b n f) (hb : Below w.heap.size w w') : MapV P k L w' b n f := h.kept (grow_of_below hb none) (by simp)
theorem MapV.lt (h : MapV P k L w b n f) : b < w.heap.size := by
  obtain ⟨D, h1, _⟩ := h.ex
  exact h1.lt
theorem MapV.same (h : MapV P k L w b n f) (e : w'.heap[b]? = w.heap[b]?) : MapV P k L w' b n f := by
  obtain ⟨D, ⟨es, clock, hb, r⟩, h2⟩ := h.ex
  exact ⟨⟨D, ⟨es, clock, e.trans hb, r⟩, h2⟩⟩
theorem MapV.congr (h : MapV P k L w b n f) (e : ∀ s, f s = g s) : MapV P k L w b n g := by
  obtain ⟨D, h1, h2⟩ := h.ex
  exact ⟨⟨D, h1, h2.congr e⟩⟩
theorem MapV.more (h : MapV P k L w b n f) {n' : Nat} (hn : n ≤ n') : MapV P k L w b n' f := by
  obtain ⟨D, h1, h2⟩ := h.ex
  exact ⟨⟨D, h1.mono hn, h2⟩⟩
theorem MapV.obj (h : MapV P k L w b n f) : ∃ es clock, w.heap[b]? = some (.map es clock) := by
  obtain ⟨D, ⟨es, clock, hb, _⟩, _⟩ := h.ex
  exact ⟨es, clock, hb⟩
/-- 'm[k]'. -/
theorem MapV.look {t e : TypeId} (h : MapV P k L w b n f) (K : Keyed P k) (ht : P.underlying t = some (.map k e)) {z : Value} (hz : (zeroValue e).run P w = .ok z w) (s : κ) (hkey : keyOf P k (L.val s) = some (L.lit s)) :
    (Instr.lookup t (.map (some b)) (L.val s) false).run P w = .ok ((f s).getD z) w := by
  obtain ⟨D, h1, h2⟩ := h.ex
  obtain ⟨v, ps, hrun, hv⟩ := h1.lookup K ht hz (rawR_mk z) hkey
  rw [hrun, h2.at_ (rawR_inv hv)]
/-- 'v, ok := m[k]'. -/
theorem MapV.look2 {t e : TypeId} (h : MapV P k L w b n f) (K : Keyed P k) (ht : P.underlying t = some (.map k e)) {z : Value} (hz : (zeroValue e).run P w = .ok z w) (s : κ) (hkey : keyOf P k (L.val s) = some (L.lit s)) :
    (Instr.lookup t (.map (some b)) (L.val s) true).run P w = .ok (.tuple #[(f s).getD z, .bool (f s).isSome]) w := by
  obtain ⟨D, h1, h2⟩ := h.ex
  obtain ⟨v, ps, hrun, hv⟩ := h1.look_ok K ht hz (rawR_mk z) hkey
  rw [hrun, h2.at_ (rawR_inv hv), h2.has]
/-- 'm[k] = v'. -/
theorem MapV.set [DecidableEq κ] {t e : TypeId} (h : MapV P k L w b n f) (K : Keyed P k) (ht : P.underlying t = some (.map k e)) (hn : n < maxLen) (s : κ) (hkey : keyOf P k (L.val s) = some (L.lit s)) (v : Value) :
    ∃ w', (Instr.mapUpdate t (.map (some b)) (L.val s) v).run P w = .ok () w' ∧ MapV P k L w' b (n + 1) (putV f s v) ∧ w.grownBy w' (some b) := by
  obtain ⟨D, h1, h2⟩ := h.ex
  obtain ⟨w', r1, r2, r3⟩ := h1.update K ht hn hkey (rawR_mk v)
  exact ⟨w', r1, ⟨_, r2, h2.put h1.isMap s v⟩, r3⟩
end
theorem wpList_set_v {κ : Type} [DecidableEq κ] {P : Program} {k : TypeId} {L : KeyLit κ} {w : World} {ops : Array Oper} {rest : List Oper} {o : Oper} {a : Act} {Q : Exit → Act → World → Prop}
    (hg : o.guard = none) (m x v : Operand) (t e : TypeId) (hop : o.op = Op.mapUpdate t m x v) (K : Keyed P k) (ht : P.underlying t = some (.map k e)) (b n : Nat) (f : κ → Option Value)
    (hm : a.eval m = .map (some b)) (h : MapV P k L w b n f) (hn : n < maxLen) (s : κ) (val : Value) (hx : a.eval x = L.val s) (hv : a.eval v = val) (hkey : keyOf P k (L.val s) = some (L.lit s))
    (hK : ∀ w', MapV P k L w' b (n + 1) (putV f s val) → w.grownBy w' (some b) → wpList P ops Q rest (a.put o.dst undef) w') : wpList P ops Q (o :: rest) a w := by
  refine wpList_plain hg fun K' hK' => ?_
  obtain ⟨w', hrun, r1, r2⟩ := h.set K ht hn s hkey val
  unfold Oper.wp
  simp [execOp, hop, hm, hx, hv, hrun, Result.andThen]
  exact hK' _ _ (hK w' r1 r2)
theorem wpList_look_v {κ : Type} {P : Program} {k : TypeId} {L : KeyLit κ} {w : World} {ops : Array Oper} {rest : List Oper} {o : Oper} {a : Act} {Q : Exit → Act → World → Prop}
    (hg : o.guard = none) (m x : Operand) (t e : TypeId) (hop : o.op = Op.lookup t m x false) (K : Keyed P k) (ht : P.underlying t = some (.map k e)) {z : Value} (hz : (zeroValue e).run P w = .ok z w) (b n : Nat) (f : κ → Option Value)
    (hm : a.eval m = .map (some b)) (h : MapV P k L w b n f) (s : κ) (hx : a.eval x = L.val s) (hkey : keyOf P k (L.val s) = some (L.lit s)) (v : Value) (hfv : (f s).getD z = v)
    (hK : wpList P ops Q rest (a.put o.dst v) w) : wpList P ops Q (o :: rest) a w := by
  refine wpList_plain hg fun K' hK' => ?_
  have hrun := h.look K ht hz s hkey
  unfold Oper.wp
  simp [execOp, hop, hm, hx, hrun, Result.andThen]
  rw [hfv]
  exact hK' _ _ hK
theorem wpList_look2_v {κ : Type} {P : Program} {k : TypeId} {L : KeyLit κ} {w : World} {ops : Array Oper} {rest : List Oper} {o : Oper} {a : Act} {Q : Exit → Act → World → Prop}
    (hg : o.guard = none) (m x : Operand) (t e : TypeId) (hop : o.op = Op.lookup t m x true) (K : Keyed P k) (ht : P.underlying t = some (.map k e)) {z : Value} (hz : (zeroValue e).run P w = .ok z w) (b n : Nat) (f : κ → Option Value)
    (hm : a.eval m = .map (some b)) (h : MapV P k L w b n f) (s : κ) (hx : a.eval x = L.val s) (hkey : keyOf P k (L.val s) = some (L.lit s)) (v : Value) (ok : Bool) (hfv : (f s).getD z = v) (hfo : (f s).isSome = ok)
    (hK : wpList P ops Q rest (a.put o.dst (.tuple #[v, .bool ok])) w) : wpList P ops Q (o :: rest) a w := by
  refine wpList_plain hg fun K' hK' => ?_
  have hrun := h.look2 K ht hz s hkey
  unfold Oper.wp
  simp [execOp, hop, hm, hx, hrun, Result.andThen]
  rw [hfv, hfo]
  exact hK' _ _ hK
end Go.Proofs.YtdloacfoegjnmaaGreat.Mv
end
