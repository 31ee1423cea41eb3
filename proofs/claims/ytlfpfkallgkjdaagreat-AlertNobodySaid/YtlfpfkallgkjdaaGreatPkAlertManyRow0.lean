/- Plain words for memory: slices that read as lists, blocks known whole, small laws. -/
import Derived.WalkKit
import Derived.WalkSpells
import Derived.WalkLawsBesides
import Derived.Handy
import Derived.Deep.AppendLies
import Derived.Laws.CopyOwn
import Derived.Lib.Strings
import Derived.Lib.Hide
import Derived.ProofKit
import Derived.OpenShut
import Derived.ShutString
import Derived.ChangeOld
import Derived.SliceStrings
import Derived.SizedLaws
import Derived.Maps.OwnSet
import Derived.Maps.RangeWalk
import Derived.Maps.OwnOps
section
namespace Go.Proofs.YtlfpfkallgkjdaaGreat
open Go.RowKit

/-- '[]byte(s)' at every world, the new row by names. -/
theorem bytes_conv {P : Program} (ts tb tu : TypeId) (s : ByteArray) (h1 : P.underlying ts = some .string) (h2 : P.underlying tb = some (.slice tu)) (h3 : P.underlying tu = some (.int .u8)) :
    ∃ (cap : World → Nat) (C : World → Array Value) (fr : World → Nat × Nat), (∀ w, (convert ts tb (.string s)).run P w = .ok (.slice (some ⟨w.heap.size, 0, none⟩) s.size (cap w)) (w.drew.alloc (.cells (C w) tu (fr w)))) ∧
      ∀ w (j : Nat) (h : j < s.size), (C w)[j]? = some (.int .u8 ((s[j]).toNat : Int)) := by
  refine ⟨_, _, _, fun w => run_bytes_of_string w ts tb tu s h1 h2 h3, fun w j h => ?_⟩
  have hj : j < s.data.size := h
  simp only [bytesRow, Array.getElem?_append, Array.size_map, hj, if_true, Array.getElem?_map, Array.getElem?_eq_getElem hj, Option.map_some]
  rfl
theorem take_snoc (s : ByteArray) (k : Nat) (h : k < s.size) : s.data.toList.take (k + 1) = s.data.toList.take k ++ [s[k]] := by
  rw [List.take_succ_eq_append_getElem (by simpa using h)]; rfl
theorem cell_new2 (w : World) (o : Obj) (C : Array Value) (t : TypeId) (fr : Nat × Nat) (j : Nat) : ((w.alloc o).alloc (.cells C t fr)).drew.cell? ⟨w.heap.size + 1, j, none⟩ = C[j]? := by
  have h := World.cell?_alloc_mark (w.alloc o) C t fr j
  simpa using h
theorem bsize (s : ByteArray) : s.data.toList.length = s.size := by rw [Array.length_toList]; rfl
theorem bcell {W w1 : World} (hb : Below W.heap.size W w1) : (∀ b o, b < W.heap.size → w1.cell? ⟨b, o, none⟩ = W.cell? ⟨b, o, none⟩) ∧ (∀ b o, b < W.heap.size → w1.frozen? ⟨b, o, none⟩ = W.frozen? ⟨b, o, none⟩) :=
  ⟨fun b o h => hb.cell (p := ⟨b, o, none⟩) h, fun b o h => hb.frozen (p := ⟨b, o, none⟩) h⟩

theorem block_of_add (a : Addr) (n : Nat) : (a.add n).block = a.block := by unfold Addr.add; split <;> rfl
theorem add_of_add (a : Addr) (i j : Nat) : (a.add i).add j = a.add (i + j) := by
  unfold Addr.add
  by_cases hi : i = 0 <;> by_cases hj : j = 0 <;> simp [hi, hj, Nat.add_assoc]

theorem results_cell {fn : Func} {p : Tmp} {ty : TypeId} (h : fn.results = #[.cell p ty]) {tmps : Array Value} {P : Program} {w : World} {a : Addr} {v : Value} (ha : tmps.getD p undef = .pointer (some a)) (hl : (loadVar ty a).run P w = .ok v w) :
    (results fn tmps).run P w = .ok v w := by
  have ha' : tmps[p]?.getD undef = .pointer (some a) := by simpa using ha
  simp only [results, h]
  simp [ha', asAddr, hl]
/-- A test whose outcome is known, no word of it left among the facts. -/
theorem wpList_lss {P : Program} {ops : Array Oper} {rest : List Oper} {o : Oper} {a : Act} {Q : Exit → Act → World → Prop} {w : World} (hgd : o.guard = none) (x y : Operand) (t u : TypeId) (ho : o.op = .binOp .lss t x y u) (k : IntKind) (m n : Int)
    (hx : a.eval x = .int k m) (hy : a.eval y = .int k n) (b : Bool) (hb : decide (m < n) = b) (hk : wpList P ops Q rest (a.put o.dst (.bool b)) w) : wpList P ops Q (o :: rest) a w :=
  wpList_plain hgd fun _ hK => by
    have h : (execOp a.eval o).run P w = .ok (.value (.bool b)) w := by
      subst hb
      simp only [execOp, ho, hx, hy]
      simp [go_sem]
    unfold Oper.wp
    rw [h]
    exact hK _ _ hk
/-- A contract's frame, from an elder world on. -/
theorem calls_from {P : Program} {f : FuncId} {args : Array Value} {w0 wc : World} {v : Ending} (hb : Below w0.heap.size w0 wc) (c : Calls P f args wc fun e w' => e = v ∧ Below wc.heap.size wc w') :
    Calls P f args wc fun e w' => e = v ∧ Below w0.heap.size w0 w' := c.mono fun _ _ ⟨he, h⟩ => ⟨he, hb.trans (h.mono hb.size)⟩

theorem grow_of_below {w w' : World} (h : Below w.heap.size w w') (row : Option Nat) : w.grownBy w' row := ⟨h.os, h.tape, h.output, h.size, fun i hi _ => h.block i hi⟩
/-- A block that is known whole, nothing of it frozen. -/
def Blk (w : World) (g : Nat) (t : TypeId) (cs : Array Value) : Prop := w.heap[g]? = some (.cells cs t (0, 0))
section
variable {w w' : World} {g : Nat} {t : TypeId} {cs : Array Value}
theorem Blk.lt (h : Blk w g t cs) : g < w.heap.size := by
  rcases Nat.lt_or_ge g w.heap.size with hlt | hge
  · exact hlt
  · unfold Blk at h; rw [Array.getElem?_eq_none hge] at h; cases h
theorem Blk.cell (h : Blk w g t cs) (i : Nat) : w.cell? ⟨g, i, none⟩ = cs[i]? := cell_of_row w g i cs t (0, 0) h
theorem Blk.frozen (h : Blk w g t cs) (i : Nat) : w.frozen? ⟨g, i, none⟩ = false := by
  unfold Blk at h
  simp [World.frozen?, h]
theorem Blk.new (w : World) (t : TypeId) (cs : Array Value) : Blk (w.alloc (.cells cs t)) w.heap.size t cs := heap_alloc_new w _
theorem Blk.drew (h : Blk w g t cs) : Blk w.drew g t cs := h
theorem Blk.drewN (h : Blk w g t cs) (n : Nat) : Blk (w.drewN n) g t cs := h
theorem Blk.alloc (h : Blk w g t cs) (o : Obj) : Blk (w.alloc o) g t cs := (Below.heap_alloc w o g h.lt).trans h
theorem Blk.set_ (h : Blk w g t cs) (i : Nat) (u : Value) : Blk (w.setCell ⟨g, i, none⟩ u) g t (cs.setIfInBounds i u) := by
  unfold Blk at h ⊢
  simp [World.setCell, Array.getElem?_modify, h]
theorem Blk.far (h : Blk w g t cs) {p : Addr} (hp : g ≠ p.block) (u : Value) : Blk (w.setCell p u) g t cs := (Below.heap_setCell w p u g hp).trans h
theorem Blk.below {B : Nat} (h : Blk w g t cs) (hb : Below B w w') (hg : g < B) : Blk w' g t cs := (hb.block g hg).trans h
theorem Blk.grown {row : Option Nat} (h : Blk w g t cs) (hb : w.grownBy w' row) (hg : some g ≠ row) : Blk w' g t cs := (hb.block g h.lt hg).trans h
theorem Blk.ne_ {g' : Nat} {t' : TypeId} {cs' : Array Value} (h : Blk w g t cs) (h' : Blk w g' t' cs') (hne : t ≠ t') : g ≠ g' := by
  rintro rfl
  unfold Blk at h h'
  rw [h] at h'
  injection h' with h'
  injection h' with _ ht
  exact hne ht
end

/-- A slice value that reads as a list, nil let in; it lies below block B. -/
def Reads (w : World) (B size : Nat) (A : Option Addr) (n : Nat) (xs : List Value) : Prop :=
  xs.length = n * size ∧ (0 < n → ∃ b o, A = some ⟨b, o, none⟩ ∧ b < B ∧ ∀ j u, xs[j]? = some u → w.cell? ⟨b, o + j, none⟩ = some u)
section
variable {w w' : World} {B B' size n : Nat} {A : Option Addr} {xs : List Value}
theorem Reads.none_ : Reads w B size A 0 [] := ⟨by simp, fun h => absurd h (by omega)⟩
theorem Reads.at_ {k : Nat} (h : Reads w B 1 A n xs) (hk : k < n) : ∃ b o u, A = some ⟨b, o, none⟩ ∧ b < B ∧ xs[k]? = some u ∧ w.cell? ⟨b, o + k, none⟩ = some u := by
  obtain ⟨b, o, e, hb, hc⟩ := h.2 (by omega)
  have hl : k < xs.length := by have := h.1; omega
  exact ⟨b, o, xs[k], e, hb, List.getElem?_eq_getElem hl, hc k _ (List.getElem?_eq_getElem hl)⟩
/-- The k-th of a row of values that all are one constructor's. -/
theorem Reads.at_map {α : Type} {f : α → Value} {l : List α} {k : Nat} (h : Reads w B 1 A n (l.map f)) (hk : k < n) : ∃ b o, ∃ hl : k < l.length, A = some ⟨b, o, none⟩ ∧ b < B ∧ w.cell? ⟨b, o + k, none⟩ = some (f l[k]) := by
  obtain ⟨b, o, u, e, hb, hu, hc⟩ := h.at_ hk
  have hl : k < l.length := by have := h.1; rw [List.length_map] at this; omega
  rw [List.getElem?_map, List.getElem?_eq_getElem hl] at hu
  simp only [Option.map_some, Option.some.injEq] at hu
  exact ⟨b, o, hl, e, hb, by rw [hu]; exact hc⟩
theorem Reads.keep (h : Reads w B size A n xs) (hk : ∀ b o, b < B → w'.cell? ⟨b, o, none⟩ = w.cell? ⟨b, o, none⟩) : Reads w' B size A n xs :=
  ⟨h.1, fun hn => by
    obtain ⟨b, o, e, hb, hc⟩ := h.2 hn
    exact ⟨b, o, e, hb, fun j u hu => (hk b _ hb).trans (hc j u hu)⟩⟩
theorem Reads.more (h : Reads w B size A n xs) (hB : B ≤ B') : Reads w B' size A n xs :=
  ⟨h.1, fun hn => by
    obtain ⟨b, o, e, hb, hc⟩ := h.2 hn
    exact ⟨b, o, e, by omega, hc⟩⟩
theorem Reads.below (h : Reads w B size A n xs) (hb : Below B w w') : Reads w' B size A n xs := h.keep fun _ _ hp => hb.cell hp
/-- What is read below B still reads so behind a write to another block. -/
theorem Reads.grown {row : Option Nat} (h : Reads w B size A n xs) (hg : w.grownBy w' row) (hB : B ≤ w.heap.size) (hr : ∀ b o, A = some ⟨b, o, none⟩ → 0 < n → some b ≠ row) : Reads w' B size A n xs :=
  ⟨h.1, fun hn => by
    obtain ⟨b, o, e, hb, hc⟩ := h.2 hn
    exact ⟨b, o, e, hb, fun j u hu => (World.cell?_of_block (hg.block b (by omega) (hr b o e hn))).trans (hc j u hu)⟩⟩
theorem Reads.drew (h : Reads w B size A n xs) : Reads w.drew B size A n xs := h
theorem Reads.drewN (h : Reads w B size A n xs) (k : Nat) : Reads (w.drewN k) B size A n xs := h
theorem Reads.alloc (h : Reads w B size A n xs) (hB : B ≤ w.heap.size) (o : Obj) : Reads (w.alloc o) B size A n xs := h.keep fun b o hp => World.cell?_alloc_lt w _ ⟨b, o, none⟩ (by show b < _; omega)
theorem Reads.of_own {base : Nat} {e : TypeId} {c : Nat} (h : w.ownsRow base e size (.slice A n c) n xs) : Reads w w.heap.size size A n xs := by
  refine ⟨h.1, fun hn => ?_⟩
  rcases h.2 with ⟨hv, h0⟩ | ⟨g, cap, cur, hv, _, hg, _⟩
  · omega
  · have hA : A = some ⟨g, 0, none⟩ := by injection hv
    subst hA
    refine ⟨_, _, rfl, (Array.getElem?_eq_some_iff.1 hg).1, fun j u hu => ?_⟩
    have := h.cells (g := g) rfl j u hu
    have hadd : (⟨g, 0, none⟩ : Addr).add j = ⟨g, j, none⟩ := by unfold Addr.add; split <;> simp_all
    rw [hadd] at this
    rw [Nat.zero_add]; exact this
/-- A slice that came in, in the reader's own words ('open_ints', 'open_strings'), reads as a list. -/
theorem Reads.of_in {A : Option Addr} {a : Addr} {len : Nat} {f : Nat → Value} (hA : A = some a) (hb : a.block < B) (hc : ∀ i, i < len → w.cell? (a.add i) = some (f i)) : Reads w B 1 A len ((List.range len).map f) := by
  refine ⟨by simp, fun hn => ?_⟩
  obtain ⟨b, o, sp⟩ := a
  have h0 := hc 0 hn
  have hsp : sp = none := by simpa [Addr.add] using World.cell?_spot h0
  subst hsp
  refine ⟨b, o, hA, hb, fun j u hu => ?_⟩
  have hj : j < len := by
    have := (List.getElem?_eq_some_iff.1 hu).1
    simpa using this
  simp only [List.getElem?_map, List.getElem?_range hj, Option.map_some, Option.some.injEq] at hu
  subst hu
  have := hc j hj
  have hadd : (⟨b, o, none⟩ : Addr).add j = ⟨b, o + j, none⟩ := by unfold Addr.add; split <;> simp_all
  rw [hadd] at this
  exact this
end
/-- A row of the call's own, as it stands: nil, or at the head of a block. -/
theorem own_shape {w : World} {base : Nat} {e : TypeId} {size n : Nat} {v : Value} {xs : List Value} (h : w.ownsRow base e size v n xs) : ∃ A c, v = .slice A n c ∧ Reads w w.heap.size size A n xs := by
  obtain ⟨A, c, rfl⟩ : ∃ A c, v = .slice A n c := by
    rcases h.2 with ⟨rfl, rfl⟩ | ⟨g, cap, cur, rfl, _⟩
    · exact ⟨_, _, rfl⟩
    · exact ⟨_, _, rfl⟩
  exact ⟨A, c, rfl, Reads.of_own h⟩
end Go.Proofs.YtlfpfkallgkjdaaGreat
end

section
/- Arguments that came in, opened to what the walks ask. -/
namespace Go.Proofs.YtlfpfkallgkjdaaGreat
open Go.RowKit Go.ChangeShapes Go.WideShapes Go.ChangeAt
section
variable {H : Type} {enc : TypeId × Value → H} {P : Program} {W : World} {base : Nat} {t e : TypeId} {v : Value} {d : DataW H} {p : List MemPlace}

theorem weights_le {ts : List TypeId} {ds : List (DataW H)} (h : (DataW.weightsEach P ts ds).all (· ≤ reachBytes) = true) {j : Nat} (ht : ts[j]? = some t) (hd : ds[j]? = some d) : ∀ n ∈ d.weights P t, n ≤ 140737488351232 := by
  intro n hn
  have := List.all_eq_true.1 h _ (DataW.weights_mem_each ht hd n hn)
  have e : reachBytes = 140737488351232 := by decide
  rw [← e]
  simpa using this

theorem weightsAll_mem {e : TypeId} {y : DataW H} : ∀ {l : List (DataW H)}, y ∈ l → ∀ n ∈ y.weights P e, n ∈ DataW.weightsAll P e l
  | [], h, _, _ => by cases h
  | x :: l, h, n, hn => by
    simp only [DataW.weightsAll, List.mem_append]
    rcases List.mem_cons.1 h with rfl | h
    · exact Or.inl hn
    · exact Or.inr (weightsAll_mem h n hn)

theorem range_map_getD {α : Type} (l : List α) (x : α) (n : Nat) (h : n ≤ l.length) : (List.range n).map (fun i => l.getD i x) = l.take n := by
  apply List.ext_getElem
  · simp; omega
  · intro i h1 h2
    simp at h1
    simp [List.getD_eq_getElem?_getD, List.getElem?_eq_getElem (show i < l.length by omega)]

/-- A string. -/
theorem str_in (ht : P.underlying t = some .string) (hv : Value.okWide P W .any base t v) (h : DataW.Trod enc P W 0 (fun _ => true) true t v d p) (hw : ∀ n ∈ d.weights P t, n ≤ 140737488351232) :
    ∃ s, v = .string s ∧ s.size ≤ 140737488351232 := by
  obtain ⟨s, rfl, rfl, rfl, hs⟩ := Go.ChangeMaps.open_string ht hv h
  refine ⟨s, rfl, ?_⟩
  have := hw s.data.toList.length (by simp [DataW.weights])
  rwa [bsize] at this

/-- A slice of strings. -/
theorem strs_in (ht : P.underlying t = some (.slice e)) (he : P.underlying e = some .string) (hc : P.cellsOf e = 1) (hb16 : P.bytesOf e = 16) (hv : Value.okWide P W .any base t v)
    (h : DataW.Trod enc P W 0 (fun _ => true) true t v d p) (hw : ∀ n ∈ d.weights P t, n ≤ 140737488351232) :
    ∃ (A : Option Addr) (len cap : Nat) (ss : List ByteArray), v = .slice A len cap ∧ Reads W W.heap.size 1 A len (ss.map Value.string) ∧ (∀ s ∈ ss, s.size ≤ 140737488351232) ∧ len ≤ 8796093021952 ∧ len ≤ cap := by
  obtain ⟨A, len, cap, rfl⟩ := okWide_slice ht hv
  obtain ⟨fuel, hf⟩ := h
  rcases open_strings ht he hc hf with ⟨hcs, _⟩ | ⟨a, l, c, ss, hcs, _, hl, hm, hz, hx, hcell, hws⟩
  · simp [Value.cells] at hcs
    obtain ⟨rfl, rfl, rfl⟩ := hcs
    exact ⟨_, _, _, [], rfl, Reads.none_, by simp, by omega, by omega⟩
  · simp [Value.cells] at hcs
    obtain ⟨rfl, rfl, rfl⟩ := hcs
    simp only [Prod.mk.injEq] at hx
    have hd : d = .slice (strs (ss.take len)) (strs (ss.drop len)) := hx.1
    subst hd
    have hlen : ss.length = cap := by simpa using hz
    have h1 := hw ((ss.take len).length * 16 + (ss.drop len).length * 16) (by
      simp only [DataW.weights, ht, strs, List.length_map, hb16, ← Nat.add_mul]
      exact List.mem_cons_self)
    have hle : len ≤ 8796093021952 := by
      rw [List.length_take, List.length_drop] at h1; omega
    refine ⟨_, _, _, ss.take len, rfl, ?_, ?_, hle, by omega⟩
    · rw [← range_map_getD ss ByteArray.empty len (by omega), List.map_map]
      by_cases h0 : 0 < len
      · exact Reads.of_in rfl (World.block_lt_of_cell? W _ (by simpa [Addr.add] using hcell 0 (by omega))) (fun i hi => hcell i (by omega))
      · obtain rfl : len = 0 := by omega
        exact Reads.none_
    · intro s hs
      have hm : (.lit (.string s.data.toList) : DataW H) ∈ strs (ss.take len) := List.mem_map.2 ⟨s, hs, rfl⟩
      have := hw s.data.toList.length (by
        simp only [DataW.weights, ht]
        exact List.mem_cons_of_mem _ (List.mem_append_left _ (weightsAll_mem hm _ (by simp [DataW.weights]))))
      rwa [bsize] at this

/-- A slice of integers of one kind. -/
theorem ints_in {k : IntKind} {by_ : Nat} (ht : P.underlying t = some (.slice e)) (he : P.underlying e = some (.int k)) (hc : P.cellsOf e = 1) (hb : P.bytesOf e = by_) (hv : Value.okWide P W .any base t v)
    (h : DataW.Trod enc P W 0 (fun _ => true) true t v d p) (hw : ∀ n ∈ d.weights P t, n ≤ 140737488351232) :
    ∃ (A : Option Addr) (len cap : Nat) (zs : List Int), v = .slice A len cap ∧ Reads W W.heap.size 1 A len (zs.map (Value.int k)) ∧ (∀ n ∈ zs, (Lit.int k n).wf = true) ∧ len * by_ ≤ 140737488351232 ∧ zs.length = len ∧ len ≤ cap := by
  obtain ⟨A, len, cap, rfl⟩ := okWide_slice ht hv
  obtain ⟨fuel, hf⟩ := h
  rcases open_ints ht he hc hf with ⟨hcs, _⟩ | ⟨a, l, c, zs, hcs, _, hl, hm, hz, hx, hcell, hwz⟩
  · simp [Value.cells] at hcs
    obtain ⟨rfl, rfl, rfl⟩ := hcs
    exact ⟨_, _, _, [], rfl, Reads.none_, by simp, by omega, rfl, by omega⟩
  · simp [Value.cells] at hcs
    obtain ⟨rfl, rfl, rfl⟩ := hcs
    simp only [Prod.mk.injEq] at hx
    have hd : d = .slice (lits k (zs.take len)) (lits k (zs.drop len)) := hx.1
    subst hd
    have hlen : zs.length = cap := by simpa using hz
    have h1 := hw ((zs.take len).length * by_ + (zs.drop len).length * by_) (by
      simp only [DataW.weights, ht, lits, List.length_map, hb, ← Nat.add_mul]
      exact List.mem_cons_self)
    have hle : len * by_ ≤ 140737488351232 := by
      rw [List.length_take, Nat.min_eq_left (by omega)] at h1; omega
    refine ⟨_, _, _, zs.take len, rfl, ?_, fun n hn => hwz n (List.mem_of_mem_take hn), hle, by rw [List.length_take]; omega, by omega⟩
    rw [← range_map_getD zs 0 len (by omega), List.map_map]
    by_cases h0 : 0 < len
    · exact Reads.of_in rfl (World.block_lt_of_cell? W _ (by simpa [Addr.add] using hcell 0 (by omega))) (fun i hi => hcell i (by omega))
    · obtain rfl : len = 0 := by omega
      exact Reads.none_
end
end Go.Proofs.YtlfpfkallgkjdaaGreat
end

section
/- Maps in memory, their values as they stand. (No walk.) -/
namespace Go.Proofs.YtlfpfkallgkjdaaGreat.Mv
open Go.RowKit Go.Maps Go.Proofs.YtlfpfkallgkjdaaGreat
set_option linter.unusedVariables false
set_option linter.unusedSimpArgs false

/-- How a value reads: as it stands. -/
def rawR (v : Value) : Option (DataW Value × List MemPlace) := some (.held v, [])
theorem rawR_mk (v : Value) : rawR v = some (.held v, []) := rfl
theorem rawR_inv {v : Value} {d : DataW Value} {ps : List MemPlace} (h : rawR v = some (d, ps)) : d = .held v := by
  unfold rawR at h
  injection h with h
  injection h with h _
  exact h.symm
/-- Keys: texts, or numbers. -/
structure KeyLit (κ : Type) where
  lit : κ → Lit
  val : κ → Value
  inj : ∀ a b, lit a = lit b → a = b
  key : ∀ a, WideAt.IsKeyLit (lit a)
def litS : KeyLit ByteArray where
  lit s := .string s.data.toList
  val s := .string s
  inj a b h := by
    injection h with h
    have h3 : a.data = b.data := Array.toList_inj.1 h
    cases a; cases b; simp at h3; rw [h3]
  key a := by simp [WideAt.IsKeyLit]
def litI : KeyLit Int where
  lit i := .int .i64 i
  val i := .int .i64 i
  inj a b h := by injection h
  key a := by simp [WideAt.IsKeyLit]
section
variable {κ : Type} (L : KeyLit κ)
theorem same_dec [DecidableEq κ] (a b : κ) : (L.lit a).sameKey (L.lit b) = decide (a = b) := by
  by_cases h : a = b
  · subst h
    rw [WideAt.sameKey_self (L.key a)]
    simp
  · rw [Maps.sameKey_ne (fun e => h (L.inj _ _ e)), decide_eq_false h]
/-- The datum holds the table. -/
structure TabV (D : DataW Value) (f : κ → Option Value) : Prop where
  has : ∀ s, Maps.has D (L.lit s) = (f s).isSome
  val : ∀ s v, f s = some v → ∀ z, D.atKey (L.lit s) z = .held v
  key : ∀ kl, Maps.has D kl = true → ∃ s, kl = L.lit s
variable {L}
def noV : κ → Option Value := fun _ => none
def putV [DecidableEq κ] (f : κ → Option Value) (s : κ) (v : Value) : κ → Option Value := fun t => if t = s then some v else f t
def delV [DecidableEq κ] (f : κ → Option Value) (s : κ) : κ → Option Value := fun t => if t = s then none else f t
theorem TabV.none : TabV L (.map []) noV := ⟨fun s => rfl, fun s n h => (nomatch h), fun kl h => (nomatch h)⟩
theorem TabV.put [DecidableEq κ] {D : DataW Value} {f : κ → Option Value} (h : TabV L D f) (hm : IsMap D) (s : κ) (n : Value) : TabV L (D.put (L.lit s) (.held n)) (putV f s n) := by
  refine ⟨fun t => ?_, fun t m ht z => ?_, fun kl hk => ?_⟩
  · unfold putV
    by_cases e : t = s
    · subst e
      rw [has_put_same hm (L.key t), if_pos rfl]; rfl
    · rw [has_put_other (fun e' => e (L.inj _ _ e')), if_neg e]; exact h.has t
  · unfold putV at ht
    by_cases e : t = s
    · subst e
      rw [if_pos rfl] at ht
      injection ht with ht
      rw [atKey_put_same hm (L.key t), ht]
    · rw [if_neg e] at ht
      rw [atKey_put_other (fun e' => e (L.inj _ _ e'))]
      exact h.val t m ht z
  · by_cases e : kl = L.lit s
    · exact ⟨s, e⟩
    · rw [has_put_other e] at hk
      exact h.key kl hk
theorem TabV.del [DecidableEq κ] {D : DataW Value} {f : κ → Option Value} (h : TabV L D f) (s : κ) : TabV L (D.del (L.lit s)) (delV f s) := by
  refine ⟨fun t => ?_, fun t m ht z => ?_, fun kl hk => ?_⟩
  · unfold delV
    by_cases e : t = s
    · subst e
      rw [has_del_same, if_pos rfl]; rfl
    · rw [has_del_other (fun e' => e (L.inj _ _ e')), if_neg e]; exact h.has t
  · unfold delV at ht
    by_cases e : t = s
    · subst e
      rw [if_pos rfl] at ht
      cases ht
    · rw [if_neg e] at ht
      rw [atKey_del_other (fun e' => e (L.inj _ _ e'))]
      exact h.val t m ht z
  · by_cases e : kl = L.lit s
    · subst e
      rw [has_del_same] at hk
      cases hk
    · rw [has_del_other e] at hk
      exact h.key kl hk
theorem TabV.at_ {D : DataW Value} {f : κ → Option Value} (h : TabV L D f) {s : κ} {z v : Value} (hv : D.atKey (L.lit s) (.held z) = .held v) : v = (f s).getD z := by
  cases e : f s with
  | none =>
    have : Maps.has D (L.lit s) = false := by rw [h.has, e]; rfl
    rw [atKey_of_not_has this] at hv
    injection hv with hv
    exact hv.symm
  | some n =>
    rw [h.val s n e] at hv
    injection hv with hv
    exact hv.symm
theorem TabV.congr {D : DataW Value} {f g : κ → Option Value} (h : TabV L D f) (e : ∀ s, f s = g s) : TabV L D g := ⟨fun s => by rw [h.has, e], fun s v hv => h.val s v (by rw [e]; exact hv), h.key⟩
end
/-- A map in memory that holds the table. -/
structure MapV {κ : Type} (P : Program) (k : TypeId) (L : KeyLit κ) (w : World) (b n : Nat) (f : κ → Option Value) : Prop where
  ex : ∃ D, w.ownsMap P k rawR b n D ∧ TabV L D f
section
variable {κ : Type} {P : Program} {k : TypeId} {L : KeyLit κ} {w w' : World} {b n : Nat} {f g : κ → Option Value}
theorem MapV.made (P : Program) (k : TypeId) (L : KeyLit κ) (w : World) : MapV P k L (w.alloc (.map #[] 0)) w.heap.size 0 noV := ⟨⟨_, World.ownsMap_made w P k rawR, TabV.none⟩⟩
theorem MapV.kept {row : Option Nat} (h : MapV P k L w b n f) (hg : w.grownBy w' row) (hne : some b ≠ row) : MapV P k L w' b n f := by
  obtain ⟨D, h1, h2⟩ := h.ex
  exact ⟨⟨D, h1.kept hg hne, h2⟩⟩
theorem MapV.below (h : MapV P k L w b n f) (hb : Below w.heap.size w w') : MapV P k L w' b n f := h.kept (grow_of_below hb none) (by simp)
theorem MapV.lt (h : MapV P k L w b n f) : b < w.heap.size := by
  obtain ⟨D, h1, _⟩ := h.ex
  exact h1.lt
theorem MapV.same (h : MapV P k L w b n f) (e : w'.heap[b]? = w.heap[b]?) : MapV P k L w' b n f := by
  obtain ⟨D, ⟨es, clock, hb, r⟩, h2⟩ := h.ex
  exact ⟨⟨D, ⟨es, clock, e.trans hb, r⟩, h2⟩⟩
theorem MapV.congr (h : MapV P k L w b n f) (e : ∀ s, f s = g s) : MapV P k L w b n g := by
  obtain ⟨D, h1, h2⟩ := h.ex
  exact ⟨⟨D, h1, h2.congr e⟩⟩
theorem MapV.more (h : MapV P k L w b n f) {n' : Nat} (hn : n ≤ n') : MapV P k L w b n' f := by
  obtain ⟨D, h1, h2⟩ := h.ex
  exact ⟨⟨D, h1.mono hn, h2⟩⟩
theorem MapV.obj (h : MapV P k L w b n f) : ∃ es clock, w.heap[b]? = some (.map es clock) := by
  obtain ⟨D, ⟨es, clock, hb, _⟩, _⟩ := h.ex
  exact ⟨es, clock, hb⟩
/-- 'm[k]'. -/
theorem MapV.look {t e : TypeId} (h : MapV P k L w b n f) (K : Keyed P k) (ht : P.underlying t = some (.map k e)) {z : Value} (hz : (zeroValue e).run P w = .ok z w) (s : κ) (hkey : keyOf P k (L.val s) = some (L.lit s)) :
    (Instr.lookup t (.map (some b)) (L.val s) false).run P w = .ok ((f s).getD z) w := by
  obtain ⟨D, h1, h2⟩ := h.ex
  obtain ⟨v, ps, hrun, hv⟩ := h1.lookup K ht hz (rawR_mk z) hkey
  rw [hrun, h2.at_ (rawR_inv hv)]
/-- 'v, ok := m[k]'. -/
theorem MapV.look2 {t e : TypeId} (h : MapV P k L w b n f) (K : Keyed P k) (ht : P.underlying t = some (.map k e)) {z : Value} (hz : (zeroValue e).run P w = .ok z w) (s : κ) (hkey : keyOf P k (L.val s) = some (L.lit s)) :
    (Instr.lookup t (.map (some b)) (L.val s) true).run P w = .ok (.tuple #[(f s).getD z, .bool (f s).isSome]) w := by
  obtain ⟨D, h1, h2⟩ := h.ex
  obtain ⟨v, ps, hrun, hv⟩ := h1.look_ok K ht hz (rawR_mk z) hkey
  rw [hrun, h2.at_ (rawR_inv hv), h2.has]
/-- 'm[k] = v'. -/
theorem MapV.set [DecidableEq κ] {t e : TypeId} (h : MapV P k L w b n f) (K : Keyed P k) (ht : P.underlying t = some (.map k e)) (hn : n < maxLen) (s : κ) (hkey : keyOf P k (L.val s) = some (L.lit s)) (v : Value) :
    ∃ w', (Instr.mapUpdate t (.map (some b)) (L.val s) v).run P w = .ok () w' ∧ MapV P k L w' b (n + 1) (putV f s v) ∧ w.grownBy w' (some b) := by
  obtain ⟨D, h1, h2⟩ := h.ex
  obtain ⟨w', r1, r2, r3⟩ := h1.update K ht hn hkey (rawR_mk v)
  exact ⟨w', r1, ⟨_, r2, h2.put h1.isMap s v⟩, r3⟩
end
theorem wpList_set_v {κ : Type} [DecidableEq κ] {P : Program} {k : TypeId} {L : KeyLit κ} {w : World} {ops : Array Oper} {rest : List Oper} {o : Oper} {a : Act} {Q : Exit → Act → World → Prop}
    (hg : o.guard = none) (m x v : Operand) (t e : TypeId) (hop : o.op = Op.mapUpdate t m x v) (K : Keyed P k) (ht : P.underlying t = some (.map k e)) (b n : Nat) (f : κ → Option Value)
    (hm : a.eval m = .map (some b)) (h : MapV P k L w b n f) (hn : n < maxLen) (s : κ) (val : Value) (hx : a.eval x = L.val s) (hv : a.eval v = val) (hkey : keyOf P k (L.val s) = some (L.lit s))
    (hK : ∀ w', MapV P k L w' b (n + 1) (putV f s val) → w.grownBy w' (some b) → wpList P ops Q rest (a.put o.dst undef) w') : wpList P ops Q (o :: rest) a w := by
  refine wpList_plain hg fun K' hK' => ?_
  obtain ⟨w', hrun, r1, r2⟩ := h.set K ht hn s hkey val
  unfold Oper.wp
  simp [execOp, hop, hm, hx, hv, hrun, Result.andThen]
  exact hK' _ _ (hK w' r1 r2)
theorem wpList_look_v {κ : Type} {P : Program} {k : TypeId} {L : KeyLit κ} {w : World} {ops : Array Oper} {rest : List Oper} {o : Oper} {a : Act} {Q : Exit → Act → World → Prop}
    (hg : o.guard = none) (m x : Operand) (t e : TypeId) (hop : o.op = Op.lookup t m x false) (K : Keyed P k) (ht : P.underlying t = some (.map k e)) {z : Value} (hz : (zeroValue e).run P w = .ok z w) (b n : Nat) (f : κ → Option Value)
    (hm : a.eval m = .map (some b)) (h : MapV P k L w b n f) (s : κ) (hx : a.eval x = L.val s) (hkey : keyOf P k (L.val s) = some (L.lit s)) (v : Value) (hfv : (f s).getD z = v)
    (hK : wpList P ops Q rest (a.put o.dst v) w) : wpList P ops Q (o :: rest) a w := by
  refine wpList_plain hg fun K' hK' => ?_
  have hrun := h.look K ht hz s hkey
  unfold Oper.wp
  simp [execOp, hop, hm, hx, hrun, Result.andThen]
  rw [hfv]
  exact hK' _ _ hK
theorem wpList_look2_v {κ : Type} {P : Program} {k : TypeId} {L : KeyLit κ} {w : World} {ops : Array Oper} {rest : List Oper} {o : Oper} {a : Act} {Q : Exit → Act → World → Prop}
    (hg : o.guard = none) (m x : Operand) (t e : TypeId) (hop : o.op = Op.lookup t m x true) (K : Keyed P k) (ht : P.underlying t = some (.map k e)) {z : Value} (hz : (zeroValue e).run P w = .ok z w) (b n : Nat) (f : κ → Option Value)
    (hm : a.eval m = .map (some b)) (h : MapV P k L w b n f) (s : κ) (hx : a.eval x = L.val s) (hkey : keyOf P k (L.val s) = some (L.lit s)) (v : Value) (ok : Bool) (hfv : (f s).getD z = v) (hfo : (f s).isSome = ok)
    (hK : wpList P ops Q rest (a.put o.dst (.tuple #[v, .bool ok])) w) : wpList P ops Q (o :: rest) a w := by
  refine wpList_plain hg fun K' hK' => ?_
  have hrun := h.look2 K ht hz s hkey
  unfold Oper.wp
  simp [execOp, hop, hm, hx, hrun, Result.andThen]
  rw [hfv, hfo]
  exact hK' _ _ hK
end Go.Proofs.YtlfpfkallgkjdaaGreat.Mv
end

section
/- Maps in memory of a known length: set, delete, len. (No walk.) -/
namespace Go.Proofs.YtlfpfkallgkjdaaGreat.Mv
open Go.RowKit Go.Maps Go.Proofs.YtlfpfkallgkjdaaGreat
set_option linter.unusedVariables false
set_option linter.unusedSimpArgs false

theorem owns_tight {H : Type} {P : Program} {k : TypeId} {R : Value → Option (DataW H × List MemPlace)} {w : World} {b n : Nat} {D : DataW H} (h : w.ownsMap P k R b n D) : w.ownsMap P k R b (Maps.size D) D := by
  obtain ⟨es, clock, hb, F, hs, rfl⟩ := h
  exact ⟨es, clock, hb, F, by simp [Maps.size, length_sorted], rfl⟩
/-- A map in memory that holds the table, of so many keys. -/
structure MapZ {κ : Type} (P : Program) (k : TypeId) (L : KeyLit κ) (w : World) (b n : Nat) (f : κ → Option Value) : Prop where
  ex : ∃ D, w.ownsMap P k rawR b n D ∧ TabV L D f ∧ Maps.size D = n
section
variable {κ : Type} {P : Program} {k : TypeId} {L : KeyLit κ} {w w' : World} {b n : Nat} {f g : κ → Option Value}
theorem MapZ.v (h : MapZ P k L w b n f) : MapV P k L w b n f := by
  obtain ⟨D, h1, h2, _⟩ := h.ex
  exact ⟨D, h1, h2⟩
theorem MapZ.made (P : Program) (k : TypeId) (L : KeyLit κ) (w : World) : MapZ P k L (w.alloc (.map #[] 0)) w.heap.size 0 noV := ⟨⟨_, World.ownsMap_made w P k rawR, TabV.none, rfl⟩⟩
theorem MapZ.kept {row : Option Nat} (h : MapZ P k L w b n f) (hg : w.grownBy w' row) (hne : some b ≠ row) : MapZ P k L w' b n f := by
  obtain ⟨D, h1, h2, h3⟩ := h.ex
  exact ⟨⟨D, h1.kept hg hne, h2, h3⟩⟩
theorem MapZ.below (h : MapZ P k L w b n f) (hb : Below w.heap.size w w') : MapZ P k L w' b n f := h.kept (grow_of_below hb none) (by simp)
theorem MapZ.congr (h : MapZ P k L w b n f) (e : ∀ s, f s = g s) : MapZ P k L w b n g := by
  obtain ⟨D, h1, h2, h3⟩ := h.ex
  exact ⟨⟨D, h1, h2.congr e, h3⟩⟩
theorem MapZ.lt (h : MapZ P k L w b n f) : b < w.heap.size := by
  obtain ⟨D, h1, _, _⟩ := h.ex
  exact h1.lt
end
theorem wpList_set_z {κ : Type} [DecidableEq κ] {P : Program} {k : TypeId} {L : KeyLit κ} {w : World} {ops : Array Oper} {rest : List Oper} {o : Oper} {a : Act} {Q : Exit → Act → World → Prop}
    (hg : o.guard = none) (m x v : Operand) (t e : TypeId) (hop : o.op = Op.mapUpdate t m x v) (K : Keyed P k) (ht : P.underlying t = some (.map k e)) (b n : Nat) (f : κ → Option Value)
    (hm : a.eval m = .map (some b)) (h : MapZ P k L w b n f) (hn : n < maxLen) (s : κ) (val : Value) (hx : a.eval x = L.val s) (hv : a.eval v = val) (hkey : keyOf P k (L.val s) = some (L.lit s))
    (hK : ∀ w', MapZ P k L w' b (if (f s).isSome then n else n + 1) (putV f s val) → w.grownBy w' (some b) → wpList P ops Q rest (a.put o.dst undef) w') : wpList P ops Q (o :: rest) a w := by
  obtain ⟨D, h1, h2, h3⟩ := h.ex
  refine wpList_mapUpdate_own w hg m x v t hop k e K ht rawR b n D hm h1 hn (L.val s) val (L.lit s) hx hv hkey _ _ (rawR_mk val) (fun w' ho hgr => hK w' ⟨⟨_, ?_, h2.put h1.isMap s val, ?_⟩⟩ hgr)
  · have e1 := size_put (k := L.lit s) (h1.tidy K) (.held val)
    rw [h2.has, h3] at e1
    have e2 := owns_tight ho
    rw [e1] at e2
    exact e2
  · have e1 := size_put (k := L.lit s) (h1.tidy K) (.held val)
    rw [h2.has, h3] at e1
    exact e1
theorem wpList_del_z {κ : Type} [DecidableEq κ] {P : Program} {k : TypeId} {L : KeyLit κ} {w : World} {ops : Array Oper} {rest : List Oper} {o : Oper} {a : Act} {Q : Exit → Act → World → Prop}
    (hg : o.guard = none) (m x : Operand) (t e : TypeId) (hop : o.op = Op.call { callee := Callee.builtin Builtin.delete, args := #[m, x], argTypes := #[t, k] }) (K : Keyed P k) (ht : P.underlying t = some (.map k e)) (b n : Nat) (f : κ → Option Value)
    (hm : a.eval m = .map (some b)) (h : MapZ P k L w b n f) (s : κ) (hx : a.eval x = L.val s) (hkey : keyOf P k (L.val s) = some (L.lit s))
    (hK : ∀ w', MapZ P k L w' b (if (f s).isSome then n - 1 else n) (delV f s) → w.grownBy w' (some b) → wpList P ops Q rest (a.put o.dst (.tuple #[])) w') : wpList P ops Q (o :: rest) a w := by
  obtain ⟨D, h1, h2, h3⟩ := h.ex
  have e1 := size_del (k := L.lit s) (h1.tidy K)
  rw [h2.has, h3] at e1
  have e2 : Maps.size (D.del (L.lit s)) = if (f s).isSome then n - 1 else n := by
    split
    · rename_i hs; rw [if_pos hs] at e1; omega
    · rename_i hs; rw [if_neg hs] at e1; omega
  refine wpList_delete_own w hg m x t k hop e K ht rawR b n D hm h1 (L.val s) (L.lit s) hx hkey (fun w' ho htr => hK w' ⟨⟨_, ?_, h2.del s, e2⟩⟩ htr.grown)
  have e3 := owns_tight ho
  rw [e2] at e3
  exact e3
theorem wpList_len_z {κ : Type} {P : Program} {k : TypeId} {L : KeyLit κ} {w : World} {ops : Array Oper} {rest : List Oper} {o : Oper} {a : Act} {Q : Exit → Act → World → Prop}
    (hg : o.guard = none) (m : Operand) (t e : TypeId) (hop : o.op = Op.call { callee := Callee.builtin Builtin.len, args := #[m], argTypes := #[t] }) (ht : P.underlying t = some (.map k e)) (b n : Nat) (f : κ → Option Value)
    (hm : a.eval m = .map (some b)) (h : MapZ P k L w b n f) (hK : wpList P ops Q rest (a.put o.dst (.int .i64 (n : Nat))) w) : wpList P ops Q (o :: rest) a w := by
  obtain ⟨D, h1, h2, h3⟩ := h.ex
  refine wpList_len_own w hg m t hop k e ht rawR b n D hm h1 ?_
  rw [h3]
  exact hK
end Go.Proofs.YtlfpfkallgkjdaaGreat.Mv
end
