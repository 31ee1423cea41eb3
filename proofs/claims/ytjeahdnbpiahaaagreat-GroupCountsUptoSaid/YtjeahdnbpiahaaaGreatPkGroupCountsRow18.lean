/- Queries, events, docs that came in, opened. -/
import Derived.Deep.Slices
import Derived.Deep.Strs
import Derived.Lib.SmallJoins
import Derived.Test.YtjeahdnbpiahaaaGreatProg
import Derived.Lib.Hide
import Derived.Test.YtjeahdnbpiahaaaGreatPkGroupCountsRow1
import Derived.Test.YtjeahdnbpiahaaaGreatMatchBPk
section
namespace Go.Proofs.YtjeahdnbpiahaaaGreat.Qy
set_option maxRecDepth 20000
open Go.RowKit Go.ChangeShapes Go.WideShapes Go.ChangeAt Go.Deep Go.Joins Go.Proofs.YtjeahdnbpiahaaaGreat
section
variable {H : Type} {enc : TypeId × Value → H} {W : World}
theorem query_cells : Tryz.prog.cellsOf 27 = 4 := by kernel_rfl
theorem query_bytes : Tryz.prog.bytesOf 27 = 72 := by kernel_rfl
theorem kind_cells : Tryz.prog.cellsOf 23 = 1 := by kernel_rfl
theorem strs_cells : Tryz.prog.cellsOf 24 = 1 := by kernel_rfl
theorem queries_cells : Tryz.prog.cellsOf 25 = 1 := by kernel_rfl
/-- A query that came in, from its four cells. -/
theorem query_at : ∀ (sz : Nat) (fuel : Nat) (cs : List Value) (x : DataW H × List MemPlace), SizeOf.sizeOf x.1 ≤ sz → DataW.trod enc Tryz.prog W 0 (fun _ => true) true fuel 27 cs = some x → (∀ n ∈ x.1.weights Tryz.prog 27, n ≤ 140737488351232) →
    ∃ q, QAt W W.heap.size q cs ∧ QSz q := by
  intro sz
  induction sz with
  | zero =>
    intro fuel cs x hs h _
    obtain ⟨y0, y1, y2, y3, n, rfl, _⟩ := trod_struct4 Tryz.underlying27 h
    simp at hs
  | succ sz ih =>
    intro fuel cs x hs h hw
    obtain ⟨y0, y1, y2, y3, n, rfl, hlen, h0, h1, h2, h3⟩ := trod_struct4 Tryz.underlying27 h
    rw [query_cells] at hlen
    match cs, hlen with
    | [c0, c1, c2, c3], _ =>
      simp only [kind_cells, string_cells, strs_cells, queries_cells, List.drop_zero, List.drop_succ_cons, List.take_succ_cons, List.take_zero] at h0 h1 h2 h3
      obtain ⟨k, e0, rfl, _⟩ := DataW.trod_int Tryz.underlying23 h0
      obtain ⟨nm, e1, rfl, _⟩ := DataW.trod_string Tryz.underlying9 h1
      simp only [List.cons.injEq, and_true] at e0 e1
      subst e0 e1
      obtain ⟨WA, m, wc, ws, rfl, _, hR, hwl, hm2, _⟩ := strs_at Tryz.underlying24 Tryz.underlying9 string_cells string_bytes h2 (weights_part (j := 2) Tryz.underlying27 hw rfl rfl)
      obtain ⟨CA, len, cap, vss, ds, spare, rfl, _, hv, h4, hL, hd, hx, hall⟩ := slice_at Tryz.underlying25 query_cells (by omega) h3
      have hw3 := weights_part (j := 3) (d := y3.1) Tryz.underlying27 hw rfl rfl
      have each : ∀ i : Nat, ∃ q : Q, ∀ (h1 : i < vss.length), QAt W W.heap.size q vss[i] ∧ QSz q := fun i => by
        by_cases hi : i < vss.length
        · obtain ⟨n', y, g1, g2⟩ := hall i hi (by omega)
          have hm : ds[i]'(by omega) ∈ ds := List.getElem_mem _
          rcases hx with hx | ⟨z0, _⟩
          · have hsz : SizeOf.sizeOf y.1 ≤ sz := by
              have a1 := List.sizeOf_lt_of_mem hm
              rw [g2]
              rw [hx] at hs
              simp at hs
              omega
            rw [hx] at hw3
            obtain ⟨q, hq⟩ := ih n' _ y hsz g1 (by rw [g2]; exact weights_elem Tryz.underlying25 hw3 hm)
            exact ⟨q, fun _ => hq⟩
          · omega
        · exact ⟨.mk 0 ByteArray.empty [] [], fun h => absurd h hi⟩
      obtain ⟨f, hf⟩ := Classical.skolem.1 each
      have hll : ((List.range len).map f).length = len := by simp
      have hcap : len ≤ 8796093021952 := by
        rcases hx with hx | ⟨z0, _⟩
        · rw [hx] at hw3
          have := weights_len Tryz.underlying25 hw3
          rw [query_bytes] at this
          omega
        · omega
      refine ⟨.mk k nm ws ((List.range len).map f), .mk vss hwl hR hll hv h4 hL (fun i h1 h2 => ?_), .mk (by omega) (by omega) (fun y hy => ?_)⟩
      · have := (hf i h2).1
        simpa using this
      · obtain ⟨i, hi, rfl⟩ := List.mem_map.1 hy
        exact (hf i (by rw [hv]; simpa using hi)).2
end
end Go.Proofs.YtjeahdnbpiahaaaGreat.Qy
end

section
/- Docs, as they lie in memory: rows that came in, rows of the call's own. -/
namespace Go.Proofs.YtjeahdnbpiahaaaGreat.Qy
open Go.RowKit Go.Proofs.YtjeahdnbpiahaaaGreat

/-- A doc: its number, its time, its fields. -/
structure Dc where
  seq : Int
  at_ : Int
  fs : List (ByteArray × ByteArray)
/-- A doc's three cells, and its fields. -/
def DcV (w : World) (B : Nat) (d : Dc) (v : List Value) : Prop := ∃ F fn fc, v = [.int .i64 d.seq, .int .i64 d.at_, .slice F fn fc] ∧ Reads w B 2 F fn (fldC d.fs) ∧ d.fs.length = fn ∧ fn ≤ 8796093021952 ∧ fn ≤ fc ∧ (F = none → fc = 0)
theorem DcV.len {w : World} {B : Nat} {d : Dc} {v : List Value} (h : DcV w B d v) : v.length = 3 := by obtain ⟨F, fn, fc, rfl, _⟩ := h; rfl
theorem DcV.keep {w w' : World} {B : Nat} {d : Dc} {v : List Value} (h : DcV w B d v) (hk : ∀ b o, b < B → w'.cell? ⟨b, o, none⟩ = w.cell? ⟨b, o, none⟩) : DcV w' B d v := by
  obtain ⟨F, fn, fc, e, h1, h2⟩ := h
  exact ⟨F, fn, fc, e, h1.keep hk, h2⟩
theorem DcV.more {w : World} {B B' : Nat} {d : Dc} {v : List Value} (h : DcV w B d v) (hB : B ≤ B') : DcV w B' d v := by
  obtain ⟨F, fn, fc, e, h1, h2⟩ := h
  exact ⟨F, fn, fc, e, h1.more hB, h2⟩
/-- A row of docs. -/
structure DocsAt (w : World) (B : Nat) (A : Option Addr) (n : Nat) (ds : List Dc) : Prop where
  ln : ds.length = n
  ex : ∃ vss : List (List Value), vss.length = n ∧ Reads w B 3 A n vss.flatten ∧ ∀ i (h : i < ds.length) (h' : i < vss.length), DcV w B ds[i] vss[i]
theorem DocsAt.keep {w w' : World} {B n : Nat} {A : Option Addr} {ds : List Dc} (h : DocsAt w B A n ds) (hk : ∀ b o, b < B → w'.cell? ⟨b, o, none⟩ = w.cell? ⟨b, o, none⟩) : DocsAt w' B A n ds := by
  obtain ⟨vss, h1, h2, h3⟩ := h.ex
  exact ⟨h.ln, vss, h1, h2.keep hk, fun i a b => (h3 i a b).keep hk⟩
theorem DocsAt.more {w : World} {B B' n : Nat} {A : Option Addr} {ds : List Dc} (h : DocsAt w B A n ds) (hB : B ≤ B') : DocsAt w B' A n ds := by
  obtain ⟨vss, h1, h2, h3⟩ := h.ex
  exact ⟨h.ln, vss, h1, h2.more hB, fun i a b => (h3 i a b).more hB⟩
theorem DocsAt.grow {w w' : World} {n : Nat} {A : Option Addr} {ds : List Dc} (h : DocsAt w w.heap.size A n ds) (hb : Below w.heap.size w w') : DocsAt w' w'.heap.size A n ds := (h.keep fun _ _ hp => hb.cell hp).more hb.size
theorem DocsAt.nil {w : World} {B : Nat} {A : Option Addr} : DocsAt w B A 0 [] := ⟨rfl, [], rfl, ⟨by simp, fun h => absurd h (by omega)⟩, fun i h => absurd h (by simp)⟩
/-- The i-th doc. -/
theorem DocsAt.at_ {w : World} {B n : Nat} {A : Option Addr} {ds : List Dc} (h : DocsAt w B A n ds) {i : Nat} (hi : i < ds.length) :
    ∃ b o F fn fc, A = some ⟨b, o, none⟩ ∧ b < B ∧ w.cell? ⟨b, o + i * 3, none⟩ = some (.int .i64 ds[i].seq) ∧ w.cell? ⟨b, o + i * 3 + 1, none⟩ = some (.int .i64 ds[i].at_) ∧ w.cell? ⟨b, o + i * 3 + 2, none⟩ = some (.slice F fn fc) ∧
      Reads w B 2 F fn (fldC ds[i].fs) ∧ ds[i].fs.length = fn ∧ fn ≤ 8796093021952 ∧ fn ≤ fc ∧ (F = none → fc = 0) := by
  obtain ⟨vss, h1, h2, h3⟩ := h.ex
  have hl := h.ln
  have hi' : i < vss.length := by omega
  have h4 : ∀ v ∈ vss, v.length = 3 := fun v hv => by
    obtain ⟨j, hj, rfl⟩ := List.mem_iff_getElem.1 hv
    exact (h3 j (by omega) hj).len
  obtain ⟨F, fn, fc, e, g1, g2, g3, g4⟩ := h3 i hi hi'
  obtain ⟨b, o, eA, hb, hc⟩ := h2.2 (by omega)
  have f0 := flat_get h4 i 0 hi' (by omega)
  have f1 := flat_get h4 i 1 hi' (by omega)
  have f2 := flat_get h4 i 2 hi' (by omega)
  rw [e] at f0 f1 f2
  have c0 := hc _ _ f0
  have c1 := hc _ _ f1
  have c2 := hc _ _ f2
  rw [← Nat.add_assoc] at c1 c2
  exact ⟨b, o, F, fn, fc, eA, hb, c0, c1, c2, g1, g2, g3, g4⟩

/-- The fields of a doc do not lie in the row of docs that is being built. -/
def Far (w : World) (base : Nat) (v : List Value) : Prop := ∀ F fn fc, v[2]? = some (.slice F fn fc) → 0 < fn → ∃ b o, F = some ⟨b, o, none⟩ ∧ (b < base ∨ ∃ cs fr, w.heap[b]? = some (.cells cs 60 fr))
/-- Docs of the call's own. -/
structure DocsOwn (w wr : World) (v : Value) (ds : List Dc) : Prop where
  ex : ∃ vss : List (List Value), vss.length = ds.length ∧ wr.ownsRow w.heap.size 48 3 v ds.length vss.flatten ∧ ∀ i (h : i < ds.length) (h' : i < vss.length), DcV wr wr.heap.size ds[i] vss[i] ∧ Far wr w.heap.size vss[i]
  bel : Below w.heap.size w wr
theorem DocsOwn.start (w : World) : DocsOwn w w (.slice none 0 0) [] := ⟨⟨[], rfl, World.ownsRow_nil _ _ _ _, fun i h => absurd h (by simp)⟩, Below.refl _ _⟩
theorem Far.grown {w w' : World} {base : Nat} {v : List Value} {row : Option Nat} (h : Far w base v) (hg : w.grownBy w' row) (hr : ∀ b, row = some b → base ≤ b ∧ ∀ cs fr, w.heap[b]? ≠ some (.cells cs 60 fr)) : Far w' base v := by
  intro F fn fc hv hn
  obtain ⟨b, o, e, h1 | ⟨cs, fr, h1⟩⟩ := h F fn fc hv hn
  · exact ⟨b, o, e, .inl h1⟩
  · refine ⟨b, o, e, .inr ⟨cs, fr, ?_⟩⟩
    have hlt : b < w.heap.size := (Array.getElem?_eq_some_iff.1 h1).1
    rw [hg.block b hlt (fun er => (hr b er.symm).2 cs fr h1)]
    exact h1
theorem Far.below {w w' : World} {base : Nat} {v : List Value} (h : Far w base v) (hb : Below w.heap.size w w') : Far w' base v := h.grown (grow_of_below hb none) (fun b e => by cases e)
theorem DocsOwn.below {w wr w2 : World} {v : Value} {ds : List Dc} (h : DocsOwn w wr v ds) (hb : Below wr.heap.size wr w2) : DocsOwn w w2 v ds := by
  obtain ⟨vss, h1, h2, h3⟩ := h.ex
  exact ⟨⟨vss, h1, h2.kept (grow_of_below hb none) (by cases hv : v.ownBlock <;> simp), fun i a b => ⟨((h3 i a b).1.keep fun _ _ hp => hb.cell hp).more hb.size, (h3 i a b).2.below hb⟩⟩, h.bel.trans (hb.mono h.bel.size)⟩
/-- The row's own block, if it has one. -/
theorem own_block {w : World} {base : Nat} {e : TypeId} {size n : Nat} {v : Value} {xs : List Value} (h : w.ownsRow base e size v n xs) : ∀ b, v.ownBlock = some b → base ≤ b ∧ ∃ cur, w.heap[b]? = some (.cells cur e (0, 0)) := by
  intro b hb
  rcases h.2 with ⟨rfl, _⟩ | ⟨g, cap, cur, rfl, h1, h2, _⟩
  · cases hb
  · injection hb with hb
    subst hb
    exact ⟨h1, cur, h2⟩
theorem DocsOwn.put {w wr w2 : World} {v v' : Value} {ds : List Dc} {d : Dc} {u : List Value} {xs : List Value} (h : DocsOwn w wr v ds) (hx : ∃ vss : List (List Value), vss.length = ds.length ∧ wr.ownsRow w.heap.size 48 3 v ds.length vss.flatten ∧ (∀ i (h : i < ds.length) (h' : i < vss.length), DcV wr wr.heap.size ds[i] vss[i] ∧ Far wr w.heap.size vss[i]) ∧ xs = vss.flatten)
    (hp : w2.ownsRow w.heap.size 48 3 v' (ds.length + 1) (xs ++ u)) (hg : wr.grownBy w2 v.ownBlock) (hd : DcV wr wr.heap.size d u) (hf : Far wr w.heap.size u) : DocsOwn w w2 v' (ds ++ [d]) := by
  obtain ⟨vss, h1, h2, h3, rfl⟩ := hx
  have hown := own_block h2
  have hr : ∀ b, v.ownBlock = some b → w.heap.size ≤ b ∧ ∀ cs fr, wr.heap[b]? ≠ some (.cells cs 60 fr) := fun b hb => by
    obtain ⟨h4, cur, h5⟩ := hown b hb
    refine ⟨h4, fun cs fr e => ?_⟩
    rw [h5] at e
    injection e with e
    injection e with _ e
    exact absurd e (by decide)
  -- a doc's fields read as before
  have keep : ∀ (d : Dc) (u : List Value), DcV wr wr.heap.size d u → Far wr w.heap.size u → DcV w2 w2.heap.size d u := fun d u hd hf => by
    obtain ⟨F, fn, fc, rfl, g1, g2, g3, g4⟩ := hd
    refine ⟨F, fn, fc, rfl, (g1.grown hg (Nat.le_refl _) ?_).more hg.size, g2, g3, g4⟩
    intro b o e hn er
    obtain ⟨b', o', e', h4⟩ := hf F fn fc rfl hn
    rw [e] at e'
    injection e' with e'
    injection e' with e1 e2
    subst e1
    obtain ⟨h5, h6⟩ := hr b er.symm
    rcases h4 with h4 | ⟨cs, fr, h4⟩
    · omega
    · exact h6 cs fr h4
  refine ⟨⟨vss ++ [u], by simp [h1], ?_, fun i a b => ?_⟩, h.bel.grown hg h.bel.size (fun k hk => (hr k hk).1)⟩
  · rw [List.flatten_append, List.length_append]
    simpa using hp
  · by_cases hi : i < ds.length
    · rw [List.getElem_append_left hi, List.getElem_append_left (by omega)]
      have := h3 i hi (by omega)
      exact ⟨keep _ _ this.1 this.2, this.2.grown hg hr⟩
    · have hi' : i = ds.length := by simp at a; omega
      subst hi'
      rw [List.getElem_append_right (by omega), List.getElem_append_right (by omega)]
      simp only [Nat.sub_self, h1, List.getElem_cons_zero]
      exact ⟨keep _ _ hd hf, hf.grown hg hr⟩
theorem DocsOwn.read {w wr : World} {v : Value} {ds : List Dc} (h : DocsOwn w wr v ds) : ∃ A c, v = .slice A ds.length c ∧ DocsAt wr wr.heap.size A ds.length ds := by
  obtain ⟨vss, h1, h2, h3⟩ := h.ex
  obtain ⟨A, c, e, hR⟩ := own_shape h2
  exact ⟨A, c, e, rfl, vss, h1, hR, fun i a b => (h3 i a b).1⟩
end Go.Proofs.YtjeahdnbpiahaaaGreat.Qy
end
