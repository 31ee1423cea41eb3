/- Rows of structs and of strings that came in, opened. -/
import Derived.Test.YtfegkchajkpgfaaProg
import Derived.Lib.Hide
import Derived.Deep.Slices
import Derived.Deep.Strs
import Derived.Lib.SmallJoins
import Derived.Test.YtfegkchajkpgfaaPkGroupRowsRow1
section
namespace Go.Proofs.Ytfegkchajkpgfaa.Qy
set_option maxRecDepth 20000
open Go.RowKit Go.ChangeShapes Go.WideShapes Go.ChangeAt Go.Deep Go.Joins Go.Proofs.Ytfegkchajkpgfaa
section
variable {H : Type} {enc : TypeId × Value → H} {P : Program} {W : World} {t e : TypeId}

theorem flat_len {k : Nat} : ∀ {vss : List (List Value)} (_ : ∀ v ∈ vss, v.length = k), vss.flatten.length = vss.length * k
  | [], _ => by simp
  | v :: vss, h => by
    rw [List.flatten_cons, List.length_append, h v (by simp), flat_len (fun x hx => h x (List.mem_cons_of_mem _ hx)), List.length_cons, Nat.add_mul, Nat.one_mul, Nat.add_comm]
/-- A slice that came in, element by element. -/
theorem slice_at {k fuel : Nat} {v : Value} {x : DataW H × List MemPlace} (ht : P.underlying t = some (.slice e)) (hc : P.cellsOf e = k) (hk : 0 < k) (h : DataW.trod enc P W 0 (fun _ => true) true fuel t [v] = some x) :
    ∃ (A : Option Addr) (len cap : Nat) (vss : List (List Value)) (ds spare : List (DataW H)), v = .slice A len cap ∧ len ≤ cap ∧ vss.length = len ∧ (∀ u ∈ vss, u.length = k) ∧ Reads W W.heap.size k A len vss.flatten ∧ ds.length = len ∧
      (x.1 = .slice ds spare ∨ (len = 0 ∧ ds = [])) ∧ ∀ i (h1 : i < vss.length) (h2 : i < ds.length), ∃ n y, DataW.trod enc P W 0 (fun _ => true) true n e vss[i] = some y ∧ y.1 = ds[i] := by
  rcases open_slice ht h with ⟨hcs, _⟩ | ⟨a, len, cap, m, n, D, Pl, hcs, _, hl, hm, hmm, rfl, hx⟩
  · simp only [List.cons.injEq, and_true] at hcs
    exact ⟨none, 0, 0, [], [], [], hcs, Nat.le_refl _, rfl, by simp, Reads.none_, rfl, .inr ⟨rfl, rfl⟩, fun i h1 => absurd h1 (by simp)⟩
  · simp only [List.cons.injEq, and_true] at hcs
    have hlm : len ≤ m := by rw [hmm]; split <;> omega
    have each : ∀ i : Nat, ∃ cs' : List Value, i < len → W.cells? 0 (a.add (i * P.cellsOf e)) (P.cellsOf e) = some cs' ∧ DataW.trod enc P W 0 (fun _ => true) true n e cs' = some (D i, Pl i) := fun i => by
      by_cases hi : i < len
      · obtain ⟨cs', h1, h2⟩ := hx i (by omega)
        exact ⟨cs', fun _ => ⟨h1, h2⟩⟩
      · exact ⟨[], fun h => absurd h hi⟩
    obtain ⟨f, hf⟩ := Classical.skolem.1 each
    rw [hc] at hf
    have hlen : ((List.range len).map f).length = len := by simp
    have h4 : ∀ u ∈ (List.range len).map f, u.length = k := fun u hu => by
      obtain ⟨i, hi, rfl⟩ := List.mem_map.1 hu
      exact (World.cells?_some (hf i (by simpa using hi)).1).2.1
    refine ⟨some a, len, cap, (List.range len).map f, (List.range len).map D, _, hcs, hl, hlen, h4, ?_, by simp, .inl rfl, fun i h1 h2 => ?_⟩
    · have hfl : ((List.range len).map f).flatten.length = len * k := by rw [flat_len h4, hlen]
      refine ⟨hfl, fun hn => ?_⟩
      obtain ⟨b, o, sp⟩ := a
      have hc0 := (World.cells?_some (hf 0 hn).1).2.2 0 hk
      have hl0 := (World.cells?_some (hf 0 hn).1).2.1
      rw [List.getElem?_eq_getElem (by omega)] at hc0
      have hsp : sp = none := by simpa [Addr.add] using World.cell?_spot hc0
      subst hsp
      have hadd : ∀ o' j, (⟨b, o', none⟩ : Addr).add j = ⟨b, o' + j, none⟩ := fun o' j => by unfold Addr.add; split <;> simp_all
      have hbl : b < W.heap.size := by
        have := World.block_lt_of_cell? W _ hc0
        simpa [block_of_add] using this
      refine ⟨b, o, rfl, hbl, fun j u hu => ?_⟩
      have hj : j < len * k := by
        have := (List.getElem?_eq_some_iff.1 hu).1
        rw [hfl] at this
        exact this
      have hi : j / k < len := (Nat.div_lt_iff_lt_mul hk).2 hj
      have hr : j % k < k := Nat.mod_lt _ hk
      have ej : j = j / k * k + j % k := by rw [Nat.mul_comm]; exact (Nat.div_add_mod j k).symm
      have hg := flat_get h4 (j / k) (j % k) (by rw [hlen]; exact hi) hr
      rw [← ej] at hg
      rw [hg] at hu
      have hc := (World.cells?_some (hf (j / k) hi).1).2.2 (j % k) hr
      rw [hadd, hadd, Nat.add_assoc, ← ej] at hc
      rw [hc, ← hu]
      simp
    · have hi : i < len := by rw [hlen] at h1; exact h1
      refine ⟨n, (D i, Pl i), ?_, by simp⟩
      have := (hf i hi).2
      simpa using this

theorem weights_part {fs : Array Field} {parts : List (DataW H)} {j : Nat} {u : TypeId} {d : DataW H} (ht : P.underlying t = some (.struct fs)) (hw : ∀ n ∈ (DataW.agg parts).weights P t, n ≤ 140737488351232)
    (h1 : (fs.toList.map (·.type))[j]? = some u) (h2 : parts[j]? = some d) : ∀ n ∈ d.weights P u, n ≤ 140737488351232 := by
  intro n hn
  apply hw
  simp only [DataW.weights, ht]
  exact DataW.weights_mem_each h1 h2 n hn
theorem weights_elem {ds spare : List (DataW H)} {d : DataW H} (ht : P.underlying t = some (.slice e)) (hw : ∀ n ∈ (DataW.slice ds spare).weights P t, n ≤ 140737488351232) (hd : d ∈ ds) : ∀ n ∈ d.weights P e, n ≤ 140737488351232 := by
  intro n hn
  apply hw
  simp only [DataW.weights, ht]
  exact List.mem_cons_of_mem _ (List.mem_append_left _ (weightsAll_mem hd n hn))
theorem weights_len {ds spare : List (DataW H)} (ht : P.underlying t = some (.slice e)) (hw : ∀ n ∈ (DataW.slice ds spare).weights P t, n ≤ 140737488351232) : ds.length * P.bytesOf e ≤ 140737488351232 := by
  have := hw ((ds.length + spare.length) * P.bytesOf e) (by
    simp only [DataW.weights, ht]
    exact List.mem_cons_self)
  rw [Nat.add_mul] at this
  omega

/-- A row of strings that came in, wherever it lies. -/
theorem strs_at {fuel : Nat} {v : Value} {x : DataW H × List MemPlace} (ht : P.underlying t = some (.slice e)) (he : P.underlying e = some .string) (hc : P.cellsOf e = 1) (hb16 : P.bytesOf e = 16)
    (h : DataW.trod enc P W 0 (fun _ => true) true fuel t [v] = some x) (hw : ∀ n ∈ x.1.weights P t, n ≤ 140737488351232) :
    ∃ (A : Option Addr) (len cap : Nat) (ss : List ByteArray), v = .slice A len cap ∧ len ≤ cap ∧ Reads W W.heap.size 1 A len (ss.map Value.string) ∧ ss.length = len ∧ len ≤ 8796093021952 ∧ ∀ s ∈ ss, s.size ≤ 140737488351232 := by
  obtain ⟨A, len, cap, vss, ds, spare, rfl, hl, hv, h1, hR, hd, hx, hall⟩ := slice_at ht hc (by omega) h
  have each : ∀ i : Nat, ∃ s : ByteArray, ∀ (h1 : i < vss.length) (h2 : i < ds.length), vss[i] = [.string s] ∧ ds[i] = .lit (.string s.data.toList) := fun i => by
    by_cases hi : i < vss.length ∧ i < ds.length
    · obtain ⟨n, y, h1, h2⟩ := hall i hi.1 hi.2
      obtain ⟨s, e1, rfl, _⟩ := DataW.trod_string he h1
      exact ⟨s, fun _ _ => ⟨e1, h2.symm⟩⟩
    · exact ⟨ByteArray.empty, fun h1 h2 => absurd ⟨h1, h2⟩ hi⟩
  obtain ⟨f, hf⟩ := Classical.skolem.1 each
  have hlen : ((List.range len).map f).length = len := by simp
  have e : vss.flatten = ((List.range len).map f).map Value.string := by
    apply List.ext_getElem?
    intro j
    by_cases hj : j < len
    · have h := flat_get h1 j 0 (by omega) (by omega)
      rw [Nat.mul_one, Nat.add_zero, (hf j (by omega) (by omega)).1] at h
      rw [h]
      simp [List.getElem?_range hj]
    · rw [List.getElem?_eq_none (by rw [flat_len h1]; omega), List.getElem?_eq_none (by simp; omega)]
  rw [e] at hR
  have hbd : len ≤ 8796093021952 ∧ ∀ i, i < len → (f i).size ≤ 140737488351232 := by
    rcases hx with hx | ⟨h0, _⟩
    · rw [hx] at hw
      have h2 := weights_len ht hw
      rw [hb16] at h2
      refine ⟨by omega, fun i hi => ?_⟩
      have hm : ds[i]'(by omega) ∈ ds := List.getElem_mem _
      have h3 := weights_elem ht hw hm
      rw [(hf i (by omega) (by omega)).2] at h3
      have := h3 (f i).data.toList.length (by simp [DataW.weights])
      rwa [bsize] at this
    · exact ⟨by omega, fun i hi => by omega⟩
  exact ⟨A, len, cap, _, rfl, hl, hR, hlen, hbd.1, fun s hs => by
    obtain ⟨i, hi, rfl⟩ := List.mem_map.1 hs
    exact hbd.2 i (by simpa using hi)⟩
end

theorem string_cells : Try.prog.cellsOf 9 = 1 := by kernel_rfl
theorem string_bytes : Try.prog.bytesOf 9 = 16 := by kernel_rfl
end Go.Proofs.Ytfegkchajkpgfaa.Qy
end

section
/- Docs, as they lie in memory: rows that came in, rows of the call's own. -/
namespace Go.Proofs.Ytfegkchajkpgfaa.Qy
open Go.RowKit Go.Proofs.Ytfegkchajkpgfaa

/-- A doc: its number, its time, its fields. -/
structure Dc where
  seq : Int
  at_ : Int
  fs : List (ByteArray × ByteArray)
/-- A doc's three cells, and its fields. -/
def DcV (w : World) (B : Nat) (d : Dc) (v : List Value) : Prop := ∃ F fn fc, v = [.int .i64 d.seq, .int .i64 d.at_, .slice F fn fc] ∧ Reads w B 2 F fn (fldC d.fs) ∧ d.fs.length = fn ∧ fn ≤ 8796093021952 ∧ fn ≤ fc ∧ (F = none → fc = 0)
theorem DcV.len {w : World} {B : Nat} {d : Dc} {v : List Value} (h : DcV w B d v) : v.length = 3 := by obtain ⟨F, fn, fc, rfl, _⟩ := h; rfl
theorem DcV.keep {w w' : World} {B : Nat} {d : Dc} {v : List Value} (h : DcV w B d v) (hk : ∀ b o, b < B → w'.cell? ⟨b, o, none⟩ = w.cell? ⟨b, o, none⟩) : DcV w' B d v := by
  obtain ⟨F, fn, fc, e, h1, h2⟩ := h
  exact ⟨F, fn, fc, e, h1.keep hk, h2⟩
theorem DcV.more {w : World} {B B' : Nat} {d : Dc} {v : List Value} (h : DcV w B d v) (hB : B ≤ B') : DcV w B' d v := by
  obtain ⟨F, fn, fc, e, h1, h2⟩ := h
  exact ⟨F, fn, fc, e, h1.more hB, h2⟩
/-- A row of docs. -/
structure DocsAt (w : World) (B : Nat) (A : Option Addr) (n : Nat) (ds : List Dc) : Prop where
  ln : ds.length = n
  ex : ∃ vss : List (List Value), vss.length = n ∧ Reads w B 3 A n vss.flatten ∧ ∀ i (h : i < ds.length) (h' : i < vss.length), DcV w B ds[i] vss[i]
theorem DocsAt.keep {w w' : World} {B n : Nat} {A : Option Addr} {ds : List Dc} (h : DocsAt w B A n ds) (hk : ∀ b o, b < B → w'.cell? ⟨b, o, none⟩ = w.cell? ⟨b, o, none⟩) : DocsAt w' B A n ds := by
  obtain ⟨vss, h1, h2, h3⟩ := h.ex
  exact ⟨h.ln, vss, h1, h2.keep hk, fun i a b => (h3 i a b).keep hk⟩
theorem DocsAt.more {w : World} {B B' n : Nat} {A : Option Addr} {ds : List Dc} (h : DocsAt w B A n ds) (hB : B ≤ B') : DocsAt w B' A n ds := by
  obtain ⟨vss, h1, h2, h3⟩ := h.ex
  exact ⟨h.ln, vss, h1, h2.more hB, fun i a b => (h3 i a b).more hB⟩
theorem DocsAt.grow {w w' : World} {n : Nat} {A : Option Addr} {ds : List Dc} (h : DocsAt w w.heap.size A n ds) (hb : Below w.heap.size w w') : DocsAt w' w'.heap.size A n ds := (h.keep fun _ _ hp => hb.cell hp).more hb.size
theorem DocsAt.nil {w : World} {B : Nat} {A : Option Addr} : DocsAt w B A 0 [] := ⟨rfl, [], rfl, ⟨by simp, fun h => absurd h (by omega)⟩, fun i h => absurd h (by simp)⟩
/-- The i-th doc. -/
theorem DocsAt.at_ {w : World} {B n : Nat} {A : Option Addr} {ds : List Dc} (h : DocsAt w B A n ds) {i : Nat} (hi : i < ds.length) :
    ∃ b o F fn fc, A = some ⟨b, o, none⟩ ∧ b < B ∧ w.cell? ⟨b, o + i * 3, none⟩ = some (.int .i64 ds[i].seq) ∧ w.cell? ⟨b, o + i * 3 + 1, none⟩ = some (.int .i64 ds[i].at_) ∧ w.cell? ⟨b, o + i * 3 + 2, none⟩ = some (.slice F fn fc) ∧
      Reads w B 2 F fn (fldC ds[i].fs) ∧ ds[i].fs.length = fn ∧ fn ≤ 8796093021952 ∧ fn ≤ fc ∧ (F = none → fc = 0) := by
  obtain ⟨vss, h1, h2, h3⟩ := h.ex
  have hl := h.ln
  have hi' : i < vss.length := by omega
  have h4 : ∀ v ∈ vss, v.length = 3 := fun v hv => by
    obtain ⟨j, hj, rfl⟩ := List.mem_iff_getElem.1 hv
    exact (h3 j (by omega) hj).len
  obtain ⟨F, fn, fc, e, g1, g2, g3, g4⟩ := h3 i hi hi'
  obtain ⟨b, o, eA, hb, hc⟩ := h2.2 (by omega)
  have f0 := flat_get h4 i 0 hi' (by omega)
  have f1 := flat_get h4 i 1 hi' (by omega)
  have f2 := flat_get h4 i 2 hi' (by omega)
  rw [e] at f0 f1 f2
  have c0 := hc _ _ f0
  have c1 := hc _ _ f1
  have c2 := hc _ _ f2
  rw [← Nat.add_assoc] at c1 c2
  exact ⟨b, o, F, fn, fc, eA, hb, c0, c1, c2, g1, g2, g3, g4⟩

/-- The fields of a doc do not lie in the row of docs that is being built. -/
def Far (w : World) (base : Nat) (v : List Value) : Prop := ∀ F fn fc, v[2]? = some (.slice F fn fc) → 0 < fn → ∃ b o, F = some ⟨b, o, none⟩ ∧ (b < base ∨ ∃ cs fr, w.heap[b]? = some (.cells cs 130 fr))
/-- Docs of the call's own. -/
structure DocsOwn (w wr : World) (v : Value) (ds : List Dc) : Prop where
  ex : ∃ vss : List (List Value), vss.length = ds.length ∧ wr.ownsRow w.heap.size 43 3 v ds.length vss.flatten ∧ ∀ i (h : i < ds.length) (h' : i < vss.length), DcV wr wr.heap.size ds[i] vss[i] ∧ Far wr w.heap.size vss[i]
  bel : Below w.heap.size w wr
theorem DocsOwn.start (w : World) : DocsOwn w w (.slice none 0 0) [] := ⟨⟨[], rfl, World.ownsRow_nil _ _ _ _, fun i h => absurd h (by simp)⟩, Below.refl _ _⟩
theorem Far.grown {w w' : World} {base : Nat} {v : List Value} {row : Option Nat} (h : Far w base v) (hg : w.grownBy w' row) (hr : ∀ b, row = some b → base ≤ b ∧ ∀ cs fr, w.heap[b]? ≠ some (.cells cs 130 fr)) : Far w' base v := by
  intro F fn fc hv hn
  obtain ⟨b, o, e, h1 | ⟨cs, fr, h1⟩⟩ := h F fn fc hv hn
  · exact ⟨b, o, e, .inl h1⟩
  · refine ⟨b, o, e, .inr ⟨cs, fr, ?_⟩⟩
    have hlt : b < w.heap.size := (Array.getElem?_eq_some_iff.1 h1).1
    rw [hg.block b hlt (fun er => (hr b er.symm).2 cs fr h1)]
    exact h1
theorem Far.below {w w' : World} {base : Nat} {v : List Value} (h : Far w base v) (hb : Below w.heap.size w w') : Far w' base v := h.grown (grow_of_below hb none) (fun b e => by cases e)
theorem DocsOwn.below {w wr w2 : World} {v : Value} {ds : List Dc} (h : DocsOwn w wr v ds) (hb : Below wr.heap.size wr w2) : DocsOwn w w2 v ds := by
  obtain ⟨vss, h1, h2, h3⟩ := h.ex
  exact ⟨⟨vss, h1, h2.kept (grow_of_below hb none) (by cases hv : v.ownBlock <;> simp), fun i a b => ⟨((h3 i a b).1.keep fun _ _ hp => hb.cell hp).more hb.size, (h3 i a b).2.below hb⟩⟩, h.bel.trans (hb.mono h.bel.size)⟩
/-- The row's own block, if it has one. -/
theorem own_block {w : World} {base : Nat} {e : TypeId} {size n : Nat} {v : Value} {xs : List Value} (h : w.ownsRow base e size v n xs) : ∀ b, v.ownBlock = some b → base ≤ b ∧ ∃ cur, w.heap[b]? = some (.cells cur e (0, 0)) := by
  intro b hb
  rcases h.2 with ⟨rfl, _⟩ | ⟨g, cap, cur, rfl, h1, h2, _⟩
  · cases hb
  · injection hb with hb
    subst hb
    exact ⟨h1, cur, h2⟩
theorem DocsOwn.put {w wr w2 : World} {v v' : Value} {ds : List Dc} {d : Dc} {u : List Value} {xs : List Value} (h : DocsOwn w wr v ds) (hx : ∃ vss : List (List Value), vss.length = ds.length ∧ wr.ownsRow w.heap.size 43 3 v ds.length vss.flatten ∧ (∀ i (h : i < ds.length) (h' : i < vss.length), DcV wr wr.heap.size ds[i] vss[i] ∧ Far wr w.heap.size vss[i]) ∧ xs = vss.flatten)
    (hp : w2.ownsRow w.heap.size 43 3 v' (ds.length + 1) (xs ++ u)) (hg : wr.grownBy w2 v.ownBlock) (hd : DcV wr wr.heap.size d u) (hf : Far wr w.heap.size u) : DocsOwn w w2 v' (ds ++ [d]) := by
  obtain ⟨vss, h1, h2, h3, rfl⟩ := hx
  have hown := own_block h2
  have hr : ∀ b, v.ownBlock = some b → w.heap.size ≤ b ∧ ∀ cs fr, wr.heap[b]? ≠ some (.cells cs 130 fr) := fun b hb => by
    obtain ⟨h4, cur, h5⟩ := hown b hb
    refine ⟨h4, fun cs fr e => ?_⟩
    rw [h5] at e
    injection e with e
    injection e with _ e
    exact absurd e (by decide)
  -- a doc's fields read as before
  have keep : ∀ (d : Dc) (u : List Value), DcV wr wr.heap.size d u → Far wr w.heap.size u → DcV w2 w2.heap.size d u := fun d u hd hf => by
    obtain ⟨F, fn, fc, rfl, g1, g2, g3, g4⟩ := hd
    refine ⟨F, fn, fc, rfl, (g1.grown hg (Nat.le_refl _) ?_).more hg.size, g2, g3, g4⟩
    intro b o e hn er
    obtain ⟨b', o', e', h4⟩ := hf F fn fc rfl hn
    rw [e] at e'
    injection e' with e'
    injection e' with e1 e2
    subst e1
    obtain ⟨h5, h6⟩ := hr b er.symm
    rcases h4 with h4 | ⟨cs, fr, h4⟩
    · omega
    · exact h6 cs fr h4
  refine ⟨⟨vss ++ [u], by simp [h1], ?_, fun i a b => ?_⟩, h.bel.grown hg h.bel.size (fun k hk => (hr k hk).1)⟩
  · rw [List.flatten_append, List.length_append]
    simpa using hp
  · by_cases hi : i < ds.length
    · rw [List.getElem_append_left hi, List.getElem_append_left (by omega)]
      have := h3 i hi (by omega)
      exact ⟨keep _ _ this.1 this.2, this.2.grown hg hr⟩
    · have hi' : i = ds.length := by simp at a; omega
      subst hi'
      rw [List.getElem_append_right (by omega), List.getElem_append_right (by omega)]
      simp only [Nat.sub_self, h1, List.getElem_cons_zero]
      exact ⟨keep _ _ hd hf, hf.grown hg hr⟩
theorem DocsOwn.read {w wr : World} {v : Value} {ds : List Dc} (h : DocsOwn w wr v ds) : ∃ A c, v = .slice A ds.length c ∧ DocsAt wr wr.heap.size A ds.length ds := by
  obtain ⟨vss, h1, h2, h3⟩ := h.ex
  obtain ⟨A, c, e, hR⟩ := own_shape h2
  exact ⟨A, c, e, rfl, vss, h1, hR, fun i a b => (h3 i a b).1⟩
end Go.Proofs.Ytfegkchajkpgfaa.Qy
end
