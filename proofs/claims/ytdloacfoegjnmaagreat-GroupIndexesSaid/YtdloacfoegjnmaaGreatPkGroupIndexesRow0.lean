/- Plain words for memory: slices that read as lists, blocks known whole, small laws. -/
import Derived.WalkKit
import Derived.WalkSpells
import Derived.WalkLawsBesides
import Derived.Handy
import Derived.Deep.AppendLies
import Derived.Laws.CopyOwn
import Derived.Lib.Strings
import Derived.Lib.Hide
import Derived.ProofKit
import Derived.OpenShut
import Derived.ShutString
import Derived.ChangeOld
import Derived.SliceStrings
import Derived.SizedLaws
import Derived.Test.YtdloacfoegjnmaaGreatProg
import Derived.Deep.Slices
import Derived.Deep.Strs
import Derived.Lib.SmallJoins
section
namespace Go.Proofs.YtdloacfoegjnmaaGreat
open Go.RowKit

/-- '[]byte(s)' at every world, the new row by names. -/
theorem bytes_conv {P : Program} (ts tb tu : TypeId) (s : ByteArray) (h1 : P.underlying ts = some .string) (h2 : P.underlying tb = some (.slice tu)) (h3 : P.underlying tu = some (.int .u8)) :
    ∃ (cap : World → Nat) (C : World → Array Value) (fr : World → Nat × Nat), (∀ w, (convert ts tb (.string s)).run P w = .ok (.slice (some ⟨w.heap.size, 0, none⟩) s.size (cap w)) (w.drew.alloc (.cells (C w) tu (fr w)))) ∧
      ∀ w (j : Nat) (h : j < s.size), (C w)[j]? = some (.int .u8 ((s[j]).toNat : Int)) := by
  refine ⟨_, _, _, fun w => run_bytes_of_string w ts tb tu s h1 h2 h3, fun w j h => ?_⟩
  have hj : j < s.data.size := h
  simp only [bytesRow, Array.getElem?_append, Array.size_map, hj, if_true, Array.getElem?_map, Array.getElem?_eq_getElem hj, Option.map_some]
  rfl
theorem take_snoc (s : ByteArray) (k : Nat) (h : k < s.size) : s.data.toList.take (k + 1) = s.data.toList.take k ++ [s[k]] := by
  rw [List.take_succ_eq_append_getElem (by simpa using h)]; rfl
theorem cell_new2 (w : World) (o : Obj) (C : Array Value) (t : TypeId) (fr : Nat × Nat) (j : Nat) : ((w.alloc o).alloc (.cells C t fr)).drew.cell? ⟨w.heap.size + 1, j, none⟩ = C[j]? := by
  have h := World.cell?_alloc_mark (w.alloc o) C t fr j
  simpa using h
theorem bsize (s : ByteArray) : s.data.toList.length = s.size := by rw [Array.length_toList]; rfl
theorem bcell {W w1 : World} (hb : Below W.heap.size W w1) : (∀ b o, b < W.heap.size → w1.cell? ⟨b, o, none⟩ = W.cell? ⟨b, o, none⟩) ∧ (∀ b o, b < W.heap.size → w1.frozen? ⟨b, o, none⟩ = W.frozen? ⟨b, o, none⟩) :=
  ⟨fun b o h => hb.cell (p := ⟨b, o, none⟩) h, fun b o h => hb.frozen (p := ⟨b, o, none⟩) h⟩

theorem block_of_add (a : Addr) (n : Nat) : (a.add n).block = a.block := by unfold Addr.add; split <;> rfl
theorem add_of_add (a : Addr) (i j : Nat) : (a.add i).add j = a.add (i + j) := by
  unfold Addr.add
  by_cases hi : i = 0 <;> by_cases hj : j = 0 <;> simp [hi, hj, Nat.add_assoc]

theorem results_cell {fn : Func} {p : Tmp} {ty : TypeId} (h : fn.results = #[.cell p ty]) {tmps : Array Value} {P : Program} {w : World} {a : Addr} {v : Value} (ha : tmps.getD p undef = .pointer (some a)) (hl : (loadVar ty a).run P w = .ok v w) :
    (results fn tmps).run P w = .ok v w := by
  have ha' : tmps[p]?.getD undef = .pointer (some a) := by simpa using ha
  simp only [results, h]
  simp [ha', asAddr, hl]
/-- A test whose outcome is known, no word of it left among the facts. -/
theorem wpList_lss {P : Program} {ops : Array Oper} {rest : List Oper} {o : Oper} {a : Act} {Q : Exit → Act → World → Prop} {w : World} (hgd : o.guard = none) (x y : Operand) (t u : TypeId) (ho : o.op = .binOp .lss t x y u) (k : IntKind) (m n : Int)
    (hx : a.eval x = .int k m) (hy : a.eval y = .int k n) (b : Bool) (hb : decide (m < n) = b) (hk : wpList P ops Q rest (a.put o.dst (.bool b)) w) : wpList P ops Q (o :: rest) a w :=
  wpList_plain hgd fun _ hK => by
    have h : (execOp a.eval o).run P w = .ok (.value (.bool b)) w := by
      subst hb
      simp only [execOp, ho, hx, hy]
      simp [go_sem]
    unfold Oper.wp
    rw [h]
    exact hK _ _ hk
/-- A contract's frame, from an elder world on. -/
theorem calls_from {P : Program} {f : FuncId} {args : Array Value} {w0 wc : World} {v : Ending} (hb : Below w0.heap.size w0 wc) (c : Calls P f args wc fun e w' => e = v ∧ Below wc.heap.size wc w') :
    Calls P f args wc fun e w' => e = v ∧ Below w0.heap.size w0 w' := c.mono fun _ _ ⟨he, h⟩ => ⟨he, hb.trans (h.mono hb.size)⟩

theorem grow_of_below {w w' : World} (h : Below w.heap.size w w') (row : Option Nat) : w.grownBy w' row := ⟨h.os, h.tape, h.output, h.size, fun i hi _ => h.block i hi⟩
/-- A block that is known whole, nothing of it frozen. -/
def Blk (w : World) (g : Nat) (t : TypeId) (cs : Array Value) : Prop := w.heap[g]? = some (.cells cs t (0, 0))
section
variable {w w' : World} {g : Nat} {t : TypeId} {cs : Array Value}
theorem Blk.lt (h : Blk w g t cs) : g < w.heap.size := by
  rcases Nat.lt_or_ge g w.heap.size with hlt | hge
  · exact hlt
  · unfold Blk at h; rw [Array.getElem?_eq_none hge] at h; cases h
theorem Blk.cell (h : Blk w g t cs) (i : Nat) : w.cell? ⟨g, i, none⟩ = cs[i]? := cell_of_row w g i cs t (0, 0) h
theorem Blk.frozen (h : Blk w g t cs) (i : Nat) : w.frozen? ⟨g, i, none⟩ = false := by
  unfold Blk at h
  simp [World.frozen?, h]
theorem Blk.new (w : World) (t : TypeId) (cs : Array Value) : Blk (w.alloc (.cells cs t)) w.heap.size t cs := heap_alloc_new w _
theorem Blk.drew (h : Blk w g t cs) : Blk w.drew g t cs := h
theorem Blk.drewN (h : Blk w g t cs) (n : Nat) : Blk (w.drewN n) g t cs := h
theorem Blk.alloc (h : Blk w g t cs) (o : Obj) : Blk (w.alloc o) g t cs := (Below.heap_alloc w o g h.lt).trans h
theorem Blk.set_ (h : Blk w g t cs) (i : Nat) (u : Value) : Blk (w.setCell ⟨g, i, none⟩ u) g t (cs.setIfInBounds i u) := by
  unfold Blk at h ⊢
  simp [World.setCell, Array.getElem?_modify, h]
theorem Blk.far (h : Blk w g t cs) {p : Addr} (hp : g ≠ p.block) (u : Value) : Blk (w.setCell p u) g t cs := (Below.heap_setCell w p u g hp).trans h
theorem Blk.below {B : Nat} (h : Blk w g t cs) (hb : Below B w w') (hg : g < B) : Blk w' g t cs := (hb.block g hg).trans h
theorem Blk.grown {row : Option Nat} (h : Blk w g t cs) (hb : w.grownBy w' row) (hg : some g ≠ row) : Blk w' g t cs := (hb.block g h.lt hg).trans h
theorem Blk.ne_ {g' : Nat} {t' : TypeId} {cs' : Array Value} (h : Blk w g t cs) (h' : Blk w g' t' cs') (hne : t ≠ t') : g ≠ g' := by
  rintro rfl
  unfold Blk at h h'
  rw [h] at h'
  injection h' with h'
  injection h' with _ ht
  exact hne ht
end

/-- A slice value that reads as a list, nil let in; it lies below block B. -/
def Reads (w : World) (B size : Nat) (A : Option Addr) (n : Nat) (xs : List Value) : Prop :=
  xs.length = n * size ∧ (0 < n → ∃ b o, A = some ⟨b, o, none⟩ ∧ b < B ∧ ∀ j u, xs[j]? = some u → w.cell? ⟨b, o + j, none⟩ = some u)
section
variable {w w' : World} {B B' size n : Nat} {A : Option Addr} {xs : List Value}
theorem Reads.none_ : Reads w B size A 0 [] := ⟨by simp, fun h => absurd h (by omega)⟩
theorem Reads.at_ {k : Nat} (h : Reads w B 1 A n xs) (hk : k < n) : ∃ b o u, A = some ⟨b, o, none⟩ ∧ b < B ∧ xs[k]? = some u ∧ w.cell? ⟨b, o + k, none⟩ = some u := by
  obtain ⟨b, o, e, hb, hc⟩ := h.2 (by omega)
  have hl : k < xs.length := by have := h.1; omega
  exact ⟨b, o, xs[k], e, hb, List.getElem?_eq_getElem hl, hc k _ (List.getElem?_eq_getElem hl)⟩
/-- The k-th of a row of values that all are one constructor's. -/
theorem Reads.at_map {α : Type} {f : α → Value} {l : List α} {k : Nat} (h : Reads w B 1 A n (l.map f)) (hk : k < n) : ∃ b o, ∃ hl : k < l.length, A = some ⟨b, o, none⟩ ∧ b < B ∧ w.cell? ⟨b, o + k, none⟩ = some (f l[k]) := by
  obtain ⟨b, o, u, e, hb, hu, hc⟩ := h.at_ hk
  have hl : k < l.length := by have := h.1; rw [List.length_map] at this; omega
  rw [List.getElem?_map, List.getElem?_eq_getElem hl] at hu
  simp only [Option.map_some, Option.some.injEq] at hu
  exact ⟨b, o, hl, e, hb, by rw [hu]; exact hc⟩
theorem Reads.keep (h : Reads w B size A n xs) (hk : ∀ b o, b < B → w'.cell? ⟨b, o, none⟩ = w.cell? ⟨b, o, none⟩) : Reads w' B size A n xs :=
  ⟨h.1, fun hn => by
    obtain ⟨b, o, e, hb, hc⟩ := h.2 hn
    exact ⟨b, o, e, hb, fun j u hu => (hk b _ hb).trans (hc j u hu)⟩⟩
theorem Reads.more (h : Reads w B size A n xs) (hB : B ≤ B') : Reads w B' size A n xs :=
  ⟨h.1, fun hn => by
    obtain ⟨b, o, e, hb, hc⟩ := h.2 hn
    exact ⟨b, o, e, by omega, hc⟩⟩
theorem Reads.below (h : Reads w B size A n xs) (hb : Below B w w') : Reads w' B size A n xs := h.keep fun _ _ hp => hb.cell hp
/-- What is read below B still reads so behind a write to another block. -/
theorem Reads.grown {row : Option Nat} (h : Reads w B size A n xs) (hg : w.grownBy w' row) (hB : B ≤ w.heap.size) (hr : ∀ b o, A = some ⟨b, o, none⟩ → 0 < n → some b ≠ row) : Reads w' B size A n xs :=
  ⟨h.1, fun hn => by
    obtain ⟨b, o, e, hb, hc⟩ := h.2 hn
    exact ⟨b, o, e, hb, fun j u hu => (World.cell?_of_block (hg.block b (by omega) (hr b o e hn))).trans (hc j u hu)⟩⟩
theorem Reads.drew (h : Reads w B size A n xs) : Reads w.drew B size A n xs := h
theorem Reads.drewN (h : Reads w B size A n xs) (k : Nat) : Reads (w.drewN k) B size A n xs := h
theorem Reads.alloc (h : Reads w B size A n xs) (hB : B ≤ w.heap.size) (o : Obj) : Reads (w.alloc o) B size A n xs := h.keep fun b o hp => World.cell?_alloc_lt w _ ⟨b, o, none⟩ (by show b < _; omega)
theorem Reads.of_own {base : Nat} {e : TypeId} {c : Nat} (h : w.ownsRow base e size (.slice A n c) n xs) : Reads w w.heap.size size A n xs := by
  refine ⟨h.1, fun hn => ?_⟩
  rcases h.2 with ⟨hv, h0⟩ | ⟨g, cap, cur, hv, _, hg, _⟩
  · omega
  · have hA : A = some ⟨g, 0, none⟩ := by injection hv
    subst hA
    refine ⟨_, _, rfl, (Array.getElem?_eq_some_iff.1 hg).1, fun j u hu => ?_⟩
    have := h.cells (g := g) rfl j u hu
    have hadd : (⟨g, 0, none⟩ : Addr).add j = ⟨g, j, none⟩ := by unfold Addr.add; split <;> simp_all
    rw [hadd] at this
    rw [Nat.zero_add]; exact this
/-- A slice that came in, in the reader's own words ('open_ints', 'open_strings'), reads as a list. -/
theorem Reads.of_in {A : Option Addr} {a : Addr} {len : Nat} {f : Nat → Value} (hA : A = some a) (hb : a.block < B) (hc : ∀ i, i < len → w.cell? (a.add i) = some (f i)) : Reads w B 1 A len ((List.range len).map f) := by
  refine ⟨by simp, fun hn => ?_⟩
  obtain ⟨b, o, sp⟩ := a
  have h0 := hc 0 hn
  have hsp : sp = none := by simpa [Addr.add] using World.cell?_spot h0
  subst hsp
  refine ⟨b, o, hA, hb, fun j u hu => ?_⟩
  have hj : j < len := by
    have := (List.getElem?_eq_some_iff.1 hu).1
    simpa using this
  simp only [List.getElem?_map, List.getElem?_range hj, Option.map_some, Option.some.injEq] at hu
  subst hu
  have := hc j hj
  have hadd : (⟨b, o, none⟩ : Addr).add j = ⟨b, o + j, none⟩ := by unfold Addr.add; split <;> simp_all
  rw [hadd] at this
  exact this
end
/-- A row of the call's own, as it stands: nil, or at the head of a block. -/
theorem own_shape {w : World} {base : Nat} {e : TypeId} {size n : Nat} {v : Value} {xs : List Value} (h : w.ownsRow base e size v n xs) : ∃ A c, v = .slice A n c ∧ Reads w w.heap.size size A n xs := by
  obtain ⟨A, c, rfl⟩ : ∃ A c, v = .slice A n c := by
    rcases h.2 with ⟨rfl, rfl⟩ | ⟨g, cap, cur, rfl, _⟩
    · exact ⟨_, _, rfl⟩
    · exact ⟨_, _, rfl⟩
  exact ⟨A, c, rfl, Reads.of_own h⟩
end Go.Proofs.YtdloacfoegjnmaaGreat
end

section
/- Arguments that came in, opened to what the walks ask. -/
namespace Go.Proofs.YtdloacfoegjnmaaGreat
open Go.RowKit Go.ChangeShapes Go.WideShapes Go.ChangeAt
section
variable {H : Type} {enc : TypeId × Value → H} {P : Program} {W : World} {base : Nat} {t e : TypeId} {v : Value} {d : DataW H} {p : List MemPlace}

theorem weights_le {ts : List TypeId} {ds : List (DataW H)} (h : (DataW.weightsEach P ts ds).all (· ≤ reachBytes) = true) {j : Nat} (ht : ts[j]? = some t) (hd : ds[j]? = some d) : ∀ n ∈ d.weights P t, n ≤ 140737488351232 := by
  intro n hn
  have := List.all_eq_true.1 h _ (DataW.weights_mem_each ht hd n hn)
  have e : reachBytes = 140737488351232 := by decide
  rw [← e]
  simpa using this

theorem weightsAll_mem {e : TypeId} {y : DataW H} : ∀ {l : List (DataW H)}, y ∈ l → ∀ n ∈ y.weights P e, n ∈ DataW.weightsAll P e l
  | [], h, _, _ => by cases h
  | x :: l, h, n, hn => by
    simp only [DataW.weightsAll, List.mem_append]
    rcases List.mem_cons.1 h with rfl | h
    · exact Or.inl hn
    · exact Or.inr (weightsAll_mem h n hn)

theorem range_map_getD {α : Type} (l : List α) (x : α) (n : Nat) (h : n ≤ l.length) : (List.range n).map (fun i => l.getD i x) = l.take n := by
  apply List.ext_getElem
  · simp; omega
  · intro i h1 h2
    simp at h1
    simp [List.getD_eq_getElem?_getD, List.getElem?_eq_getElem (show i < l.length by omega)]

/-- A string. -/
theorem str_in (ht : P.underlying t = some .string) (hv : Value.okWide P W .any base t v) (h : DataW.Trod enc P W 0 (fun _ => true) true t v d p) (hw : ∀ n ∈ d.weights P t, n ≤ 140737488351232) :
    ∃ s, v = .string s ∧ s.size ≤ 140737488351232 := by
  obtain ⟨s, rfl, rfl, rfl, hs⟩ := Go.ChangeMaps.open_string ht hv h
  refine ⟨s, rfl, ?_⟩
  have := hw s.data.toList.length (by simp [DataW.weights])
  rwa [bsize] at this

/-- A slice of strings. -/
theorem strs_in (ht : P.underlying t = some (.slice e)) (he : P.underlying e = some .string) (hc : P.cellsOf e = 1) (hb16 : P.bytesOf e = 16) (hv : Value.okWide P W .any base t v)
    (h : DataW.Trod enc P W 0 (fun _ => true) true t v d p) (hw : ∀ n ∈ d.weights P t, n ≤ 140737488351232) :
    ∃ (A : Option Addr) (len cap : Nat) (ss : List ByteArray), v = .slice A len cap ∧ Reads W W.heap.size 1 A len (ss.map Value.string) ∧ (∀ s ∈ ss, s.size ≤ 140737488351232) ∧ len ≤ 8796093021952 ∧ len ≤ cap := by
  obtain ⟨A, len, cap, rfl⟩ := okWide_slice ht hv
  obtain ⟨fuel, hf⟩ := h
  rcases open_strings ht he hc hf with ⟨hcs, _⟩ | ⟨a, l, c, ss, hcs, _, hl, hm, hz, hx, hcell, hws⟩
  · simp [Value.cells] at hcs
    obtain ⟨rfl, rfl, rfl⟩ := hcs
    exact ⟨_, _, _, [], rfl, Reads.none_, by simp, by omega, by omega⟩
  · simp [Value.cells] at hcs
    obtain ⟨rfl, rfl, rfl⟩ := hcs
    simp only [Prod.mk.injEq] at hx
    have hd : d = .slice (strs (ss.take len)) (strs (ss.drop len)) := hx.1
    subst hd
    have hlen : ss.length = cap := by simpa using hz
    have h1 := hw ((ss.take len).length * 16 + (ss.drop len).length * 16) (by
      simp only [DataW.weights, ht, strs, List.length_map, hb16, ← Nat.add_mul]
      exact List.mem_cons_self)
    have hle : len ≤ 8796093021952 := by
      rw [List.length_take, List.length_drop] at h1; omega
    refine ⟨_, _, _, ss.take len, rfl, ?_, ?_, hle, by omega⟩
    · rw [← range_map_getD ss ByteArray.empty len (by omega), List.map_map]
      by_cases h0 : 0 < len
      · exact Reads.of_in rfl (World.block_lt_of_cell? W _ (by simpa [Addr.add] using hcell 0 (by omega))) (fun i hi => hcell i (by omega))
      · obtain rfl : len = 0 := by omega
        exact Reads.none_
    · intro s hs
      have hm : (.lit (.string s.data.toList) : DataW H) ∈ strs (ss.take len) := List.mem_map.2 ⟨s, hs, rfl⟩
      have := hw s.data.toList.length (by
        simp only [DataW.weights, ht]
        exact List.mem_cons_of_mem _ (List.mem_append_left _ (weightsAll_mem hm _ (by simp [DataW.weights]))))
      rwa [bsize] at this

/-- A slice of integers of one kind. -/
theorem ints_in {k : IntKind} {by_ : Nat} (ht : P.underlying t = some (.slice e)) (he : P.underlying e = some (.int k)) (hc : P.cellsOf e = 1) (hb : P.bytesOf e = by_) (hv : Value.okWide P W .any base t v)
    (h : DataW.Trod enc P W 0 (fun _ => true) true t v d p) (hw : ∀ n ∈ d.weights P t, n ≤ 140737488351232) :
    ∃ (A : Option Addr) (len cap : Nat) (zs : List Int), v = .slice A len cap ∧ Reads W W.heap.size 1 A len (zs.map (Value.int k)) ∧ (∀ n ∈ zs, (Lit.int k n).wf = true) ∧ len * by_ ≤ 140737488351232 ∧ zs.length = len ∧ len ≤ cap := by
  obtain ⟨A, len, cap, rfl⟩ := okWide_slice ht hv
  obtain ⟨fuel, hf⟩ := h
  rcases open_ints ht he hc hf with ⟨hcs, _⟩ | ⟨a, l, c, zs, hcs, _, hl, hm, hz, hx, hcell, hwz⟩
  · simp [Value.cells] at hcs
    obtain ⟨rfl, rfl, rfl⟩ := hcs
    exact ⟨_, _, _, [], rfl, Reads.none_, by simp, by omega, rfl, by omega⟩
  · simp [Value.cells] at hcs
    obtain ⟨rfl, rfl, rfl⟩ := hcs
    simp only [Prod.mk.injEq] at hx
    have hd : d = .slice (lits k (zs.take len)) (lits k (zs.drop len)) := hx.1
    subst hd
    have hlen : zs.length = cap := by simpa using hz
    have h1 := hw ((zs.take len).length * by_ + (zs.drop len).length * by_) (by
      simp only [DataW.weights, ht, lits, List.length_map, hb, ← Nat.add_mul]
      exact List.mem_cons_self)
    have hle : len * by_ ≤ 140737488351232 := by
      rw [List.length_take, Nat.min_eq_left (by omega)] at h1; omega
    refine ⟨_, _, _, zs.take len, rfl, ?_, fun n hn => hwz n (List.mem_of_mem_take hn), hle, by rw [List.length_take]; omega, by omega⟩
    rw [← range_map_getD zs 0 len (by omega), List.map_map]
    by_cases h0 : 0 < len
    · exact Reads.of_in rfl (World.block_lt_of_cell? W _ (by simpa [Addr.add] using hcell 0 (by omega))) (fun i hi => hcell i (by omega))
    · obtain rfl : len = 0 := by omega
      exact Reads.none_
end
end Go.Proofs.YtdloacfoegjnmaaGreat
end

section
/- Queries, as they lie in memory. No program. -/
namespace Go.Proofs.YtdloacfoegjnmaaGreat.Qy
open Go.RowKit Go.Proofs.YtdloacfoegjnmaaGreat

/-- A query. -/
inductive Q where
  | mk (kind : Int) (name : ByteArray) (words : List ByteArray) (l : List Q)
def Q.kind : Q → Int | .mk k _ _ _ => k
def Q.name : Q → ByteArray | .mk _ n _ _ => n
def Q.words : Q → List ByteArray | .mk _ _ w _ => w
def Q.l : Q → List Q | .mk _ _ _ l => l
theorem Q.ind {p : Q → Prop} (h : ∀ k n ws l, (∀ x ∈ l, p x) → p (.mk k n ws l)) : ∀ q, p q := by
  intro q
  refine Q.rec (motive_1 := p) (motive_2 := fun l => ∀ x ∈ l, p x) (fun k n ws l hl => h k n ws l hl) (by simp) (fun x l hx hl => ?_) q
  intro y hy
  rcases List.mem_cons.1 hy with rfl | hy
  · exact hx
  · exact hl y hy

theorem flat_get {k : Nat} : ∀ {vss : List (List Value)} (_ : ∀ v ∈ vss, v.length = k) (i j : Nat) (hi : i < vss.length) (_ : j < k), vss.flatten[i * k + j]? = (vss[i])[j]?
  | v :: vss, h, 0, j, _, _ => by
    have hv := h v (by simp)
    rw [List.flatten_cons, Nat.zero_mul, Nat.zero_add, List.getElem?_append_left (by omega)]
    rfl
  | v :: vss, h, i + 1, j, hi, hj => by
    have hv := h v (by simp)
    have ih := flat_get (fun x hx => h x (List.mem_cons_of_mem _ hx)) i j (by simpa using hi) hj
    have e : (i + 1) * k + j = v.length + (i * k + j) := by rw [hv, Nat.add_mul, Nat.one_mul]; omega
    rw [List.flatten_cons, e, List.getElem?_append_right (by omega), Nat.add_sub_cancel_left, ih]
    rfl

/-- A query's four cells, and what lies behind them, below block B. -/
inductive QAt (w : World) (B : Nat) : Q → List Value → Prop
  | mk {k : Int} {nm : ByteArray} {ws : List ByteArray} {l : List Q} {A C : Option Addr} {n c m d : Nat} (vss : List (List Value)) (hn : ws.length = n) (hw : Reads w B 1 A n (ws.map Value.string)) (hm : l.length = m) (hv : vss.length = m)
      (h4 : ∀ v ∈ vss, v.length = 4) (hl : Reads w B 4 C m vss.flatten) (kids : ∀ i (h : i < l.length) (h' : i < vss.length), QAt w B l[i] vss[i]) : QAt w B (.mk k nm ws l) [.int .i64 k, .string nm, .slice A n c, .slice C m d]
theorem QAt.keep {w w' : World} {B : Nat} (hk : ∀ b o, b < B → w'.cell? ⟨b, o, none⟩ = w.cell? ⟨b, o, none⟩) {q : Q} {vs : List Value} (h : QAt w B q vs) : QAt w' B q vs := by
  induction h with
  | mk vss hn hw hm hv h4 hl _ ih => exact .mk vss hn (hw.keep hk) hm hv h4 (hl.keep hk) ih
theorem QAt.lower {w w' : World} {B : Nat} {q : Q} {vs : List Value} (h : QAt w B q vs) (hb : Below B w w') : QAt w' B q vs := h.keep fun _ _ hp => hb.cell hp
theorem QAt.more {w : World} {B B' : Nat} {q : Q} {vs : List Value} (h : QAt w B q vs) (hB : B ≤ B') : QAt w B' q vs := by
  induction h with
  | mk vss hn hw hm hv h4 hl _ ih => exact .mk vss hn (hw.more hB) hm hv h4 (hl.more hB) ih
theorem QAt.grow {w w' : World} {q : Q} {vs : List Value} (h : QAt w w.heap.size q vs) (hb : Below w.heap.size w w') : QAt w' w'.heap.size q vs := (h.lower hb).more hb.size
/-- The parts. -/
structure QIs (w : World) (B : Nat) (k : Int) (nm : ByteArray) (ws : List ByteArray) (l : List Q) (A : Option Addr) (n : Nat) (C : Option Addr) (m : Nat) : Prop where
  wn : ws.length = n
  wds : Reads w B 1 A n (ws.map Value.string)
  lm : l.length = m
  kid : ∀ i (h : i < l.length), ∃ b o v, C = some ⟨b, o, none⟩ ∧ b < B ∧ QAt w B l[i] v ∧ ∀ j u, v[j]? = some u → w.cell? ⟨b, o + (i * 4 + j), none⟩ = some u
theorem QAt.is {w : World} {B : Nat} {k : Int} {nm : ByteArray} {ws : List ByteArray} {l : List Q} {vs : List Value} (h : QAt w B (.mk k nm ws l) vs) :
    ∃ A n c C m d, vs = [.int .i64 k, .string nm, .slice A n c, .slice C m d] ∧ QIs w B k nm ws l A n C m := by
  cases h with
  | @mk _ _ _ _ A C n c m d vss hn hw hm hv h4 hl kids =>
    refine ⟨A, n, c, C, m, d, rfl, hn, hw, hm, fun i hi => ?_⟩
    obtain ⟨b, o, e, hb, hc⟩ := hl.2 (by omega)
    have hi' : i < vss.length := by omega
    refine ⟨b, o, vss[i], e, hb, kids i hi hi', fun j u hu => ?_⟩
    have hj : j < 4 := by
      have h1 := (List.getElem?_eq_some_iff.1 hu).1
      rw [h4 _ (List.getElem_mem hi')] at h1
      exact h1
    exact hc _ _ ((flat_get h4 i j hi' hj).trans hu)
theorem QAt.len {w : World} {B : Nat} {q : Q} {vs : List Value} (h : QAt w B q vs) : vs.length = 4 := by cases h; rfl
/-- The cells of the i-th part. -/
theorem QIs.at_ {w : World} {B : Nat} {k : Int} {nm : ByteArray} {ws : List ByteArray} {l : List Q} {A C : Option Addr} {n m : Nat} (h : QIs w B k nm ws l A n C m) {i : Nat} (hi : i < l.length) :
    ∃ b o A' n' c' C' m' d', C = some ⟨b, o, none⟩ ∧ b < B ∧ QAt w B l[i] [.int .i64 l[i].kind, .string l[i].name, .slice A' n' c', .slice C' m' d'] ∧
      w.cell? ⟨b, o + i * 4, none⟩ = some (.int .i64 l[i].kind) ∧ w.cell? ⟨b, o + i * 4 + 1, none⟩ = some (.string l[i].name) ∧ w.cell? ⟨b, o + i * 4 + 2, none⟩ = some (.slice A' n' c') ∧ w.cell? ⟨b, o + i * 4 + 3, none⟩ = some (.slice C' m' d') := by
  obtain ⟨b, o, v, e, hb, hq, hc⟩ := h.kid i hi
  generalize l[i] = q at *
  obtain ⟨k', nm', ws', l'⟩ := q
  obtain ⟨A', n', c', C', m', d', rfl, _⟩ := hq.is
  exact ⟨b, o, A', n', c', C', m', d', e, hb, hq, by simpa [Q.kind] using hc 0 _ rfl, by simpa [Nat.add_assoc, Q.name] using hc 1 _ rfl, by simpa [Nat.add_assoc] using hc 2 _ rfl, by simpa [Nat.add_assoc] using hc 3 _ rfl⟩

/-- Fields of an event, as cells. -/
def fldC (fs : List (ByteArray × ByteArray)) : List Value := fs.flatMap fun f => [.string f.1, .string f.2]
theorem fldC_len (fs : List (ByteArray × ByteArray)) : (fldC fs).length = fs.length * 2 := by
  induction fs with
  | nil => rfl
  | cons f fs ih => simp [fldC] at *; omega
theorem fldC_get : ∀ (fs : List (ByteArray × ByteArray)) (k : Nat) (h : k < fs.length), (fldC fs)[k * 2]? = some (.string fs[k].1) ∧ (fldC fs)[k * 2 + 1]? = some (.string fs[k].2)
  | f :: fs, 0, _ => ⟨rfl, rfl⟩
  | f :: fs, k + 1, h => by
    have ih := fldC_get fs k (by simpa using h)
    have e1 : (k + 1) * 2 = k * 2 + 2 := by omega
    have e2 : (k + 1) * 2 + 1 = (k * 2 + 1) + 2 := by omega
    rw [e2, e1]
    exact ih
theorem fields_at {w : World} {B n : Nat} {A : Option Addr} {fs : List (ByteArray × ByteArray)} (h : Reads w B 2 A n (fldC fs)) {k : Nat} (hk : k < fs.length) :
    ∃ b o, A = some ⟨b, o, none⟩ ∧ b < B ∧ w.cell? ⟨b, o + k * 2, none⟩ = some (.string fs[k].1) ∧ w.cell? ⟨b, o + k * 2 + 1, none⟩ = some (.string fs[k].2) := by
  have hl := h.1
  rw [fldC_len] at hl
  obtain ⟨b, o, e, hb, hc⟩ := h.2 (by omega)
  have g := fldC_get fs k hk
  refine ⟨b, o, e, hb, hc _ _ g.1, ?_⟩
  have := hc _ _ g.2
  rwa [← Nat.add_assoc] at this
theorem fields_len {w : World} {B n : Nat} {A : Option Addr} {fs : List (ByteArray × ByteArray)} (h : Reads w B 2 A n (fldC fs)) : fs.length = n := by
  have := h.1
  rw [fldC_len] at this
  omega
end Go.Proofs.YtdloacfoegjnmaaGreat.Qy
end

section
/- Rows of structs and of strings that came in, opened. -/
namespace Go.Proofs.YtdloacfoegjnmaaGreat.Qy
set_option maxRecDepth 20000
open Go.RowKit Go.ChangeShapes Go.WideShapes Go.ChangeAt Go.Deep Go.Joins Go.Proofs.YtdloacfoegjnmaaGreat
section
variable {H : Type} {enc : TypeId × Value → H} {P : Program} {W : World} {t e : TypeId}

theorem flat_len {k : Nat} : ∀ {vss : List (List Value)} (_ : ∀ v ∈ vss, v.length = k), vss.flatten.length = vss.length * k
  | [], _ => by simp
  | v :: vss, h => by
    rw [List.flatten_cons, List.length_append, h v (by simp), flat_len (fun x hx => h x (List.mem_cons_of_mem _ hx)), List.length_cons, Nat.add_mul, Nat.one_mul, Nat.add_comm]
/-- A slice that came in, element by element. -/
theorem slice_at {k fuel : Nat} {v : Value} {x : DataW H × List MemPlace} (ht : P.underlying t = some (.slice e)) (hc : P.cellsOf e = k) (hk : 0 < k) (h : DataW.trod enc P W 0 (fun _ => true) true fuel t [v] = some x) :
    ∃ (A : Option Addr) (len cap : Nat) (vss : List (List Value)) (ds spare : List (DataW H)), v = .slice A len cap ∧ len ≤ cap ∧ vss.length = len ∧ (∀ u ∈ vss, u.length = k) ∧ Reads W W.heap.size k A len vss.flatten ∧ ds.length = len ∧
      (x.1 = .slice ds spare ∨ (len = 0 ∧ ds = [])) ∧ ∀ i (h1 : i < vss.length) (h2 : i < ds.length), ∃ n y, DataW.trod enc P W 0 (fun _ => true) true n e vss[i] = some y ∧ y.1 = ds[i] := by
  rcases open_slice ht h with ⟨hcs, _⟩ | ⟨a, len, cap, m, n, D, Pl, hcs, _, hl, hm, hmm, rfl, hx⟩
  · simp only [List.cons.injEq, and_true] at hcs
    exact ⟨none, 0, 0, [], [], [], hcs, Nat.le_refl _, rfl, by simp, Reads.none_, rfl, .inr ⟨rfl, rfl⟩, fun i h1 => absurd h1 (by simp)⟩
  · simp only [List.cons.injEq, and_true] at hcs
    have hlm : len ≤ m := by rw [hmm]; split <;> omega
    have each : ∀ i : Nat, ∃ cs' : List Value, i < len → W.cells? 0 (a.add (i * P.cellsOf e)) (P.cellsOf e) = some cs' ∧ DataW.trod enc P W 0 (fun _ => true) true n e cs' = some (D i, Pl i) := fun i => by
      by_cases hi : i < len
      · obtain ⟨cs', h1, h2⟩ := hx i (by omega)
        exact ⟨cs', fun _ => ⟨h1, h2⟩⟩
      · exact ⟨[], fun h => absurd h hi⟩
    obtain ⟨f, hf⟩ := Classical.skolem.1 each
    rw [hc] at hf
    have hlen : ((List.range len).map f).length = len := by simp
    have h4 : ∀ u ∈ (List.range len).map f, u.length = k := fun u hu => by
      obtain ⟨i, hi, rfl⟩ := List.mem_map.1 hu
      exact (World.cells?_some (hf i (by simpa using hi)).1).2.1
    refine ⟨some a, len, cap, (List.range len).map f, (List.range len).map D, _, hcs, hl, hlen, h4, ?_, by simp, .inl rfl, fun i h1 h2 => ?_⟩
    · have hfl : ((List.range len).map f).flatten.length = len * k := by rw [flat_len h4, hlen]
      refine ⟨hfl, fun hn => ?_⟩
      obtain ⟨b, o, sp⟩ := a
      have hc0 := (World.cells?_some (hf 0 hn).1).2.2 0 hk
      have hl0 := (World.cells?_some (hf 0 hn).1).2.1
      rw [List.getElem?_eq_getElem (by omega)] at hc0
      have hsp : sp = none := by simpa [Addr.add] using World.cell?_spot hc0
      subst hsp
      have hadd : ∀ o' j, (⟨b, o', none⟩ : Addr).add j = ⟨b, o' + j, none⟩ := fun o' j => by unfold Addr.add; split <;> simp_all
      have hbl : b < W.heap.size := by
        have := World.block_lt_of_cell? W _ hc0
        simpa [block_of_add] using this
      refine ⟨b, o, rfl, hbl, fun j u hu => ?_⟩
      have hj : j < len * k := by
        have := (List.getElem?_eq_some_iff.1 hu).1
        rw [hfl] at this
        exact this
      have hi : j / k < len := (Nat.div_lt_iff_lt_mul hk).2 hj
      have hr : j % k < k := Nat.mod_lt _ hk
      have ej : j = j / k * k + j % k := by rw [Nat.mul_comm]; exact (Nat.div_add_mod j k).symm
      have hg := flat_get h4 (j / k) (j % k) (by rw [hlen]; exact hi) hr
      rw [← ej] at hg
      rw [hg] at hu
      have hc := (World.cells?_some (hf (j / k) hi).1).2.2 (j % k) hr
      rw [hadd, hadd, Nat.add_assoc, ← ej] at hc
      rw [hc, ← hu]
      simp
    · have hi : i < len := by rw [hlen] at h1; exact h1
      refine ⟨n, (D i, Pl i), ?_, by simp⟩
      have := (hf i hi).2
      simpa using this

theorem weights_part {fs : Array Field} {parts : List (DataW H)} {j : Nat} {u : TypeId} {d : DataW H} (ht : P.underlying t = some (.struct fs)) (hw : ∀ n ∈ (DataW.agg parts).weights P t, n ≤ 140737488351232)
    (h1 : (fs.toList.map (·.type))[j]? = some u) (h2 : parts[j]? = some d) : ∀ n ∈ d.weights P u, n ≤ 140737488351232 := by
  intro n hn
  apply hw
  simp only [DataW.weights, ht]
  exact DataW.weights_mem_each h1 h2 n hn
theorem weights_elem {ds spare : List (DataW H)} {d : DataW H} (ht : P.underlying t = some (.slice e)) (hw : ∀ n ∈ (DataW.slice ds spare).weights P t, n ≤ 140737488351232) (hd : d ∈ ds) : ∀ n ∈ d.weights P e, n ≤ 140737488351232 := by
  intro n hn
  apply hw
  simp only [DataW.weights, ht]
  exact List.mem_cons_of_mem _ (List.mem_append_left _ (weightsAll_mem hd n hn))
theorem weights_len {ds spare : List (DataW H)} (ht : P.underlying t = some (.slice e)) (hw : ∀ n ∈ (DataW.slice ds spare).weights P t, n ≤ 140737488351232) : ds.length * P.bytesOf e ≤ 140737488351232 := by
  have := hw ((ds.length + spare.length) * P.bytesOf e) (by
    simp only [DataW.weights, ht]
    exact List.mem_cons_self)
  rw [Nat.add_mul] at this
  omega

/-- A row of strings that came in, wherever it lies. -/
theorem strs_at {fuel : Nat} {v : Value} {x : DataW H × List MemPlace} (ht : P.underlying t = some (.slice e)) (he : P.underlying e = some .string) (hc : P.cellsOf e = 1) (hb16 : P.bytesOf e = 16)
    (h : DataW.trod enc P W 0 (fun _ => true) true fuel t [v] = some x) (hw : ∀ n ∈ x.1.weights P t, n ≤ 140737488351232) :
    ∃ (A : Option Addr) (len cap : Nat) (ss : List ByteArray), v = .slice A len cap ∧ len ≤ cap ∧ Reads W W.heap.size 1 A len (ss.map Value.string) ∧ ss.length = len ∧ len ≤ 8796093021952 ∧ ∀ s ∈ ss, s.size ≤ 140737488351232 := by
  obtain ⟨A, len, cap, vss, ds, spare, rfl, hl, hv, h1, hR, hd, hx, hall⟩ := slice_at ht hc (by omega) h
  have each : ∀ i : Nat, ∃ s : ByteArray, ∀ (h1 : i < vss.length) (h2 : i < ds.length), vss[i] = [.string s] ∧ ds[i] = .lit (.string s.data.toList) := fun i => by
    by_cases hi : i < vss.length ∧ i < ds.length
    · obtain ⟨n, y, h1, h2⟩ := hall i hi.1 hi.2
      obtain ⟨s, e1, rfl, _⟩ := DataW.trod_string he h1
      exact ⟨s, fun _ _ => ⟨e1, h2.symm⟩⟩
    · exact ⟨ByteArray.empty, fun h1 h2 => absurd ⟨h1, h2⟩ hi⟩
  obtain ⟨f, hf⟩ := Classical.skolem.1 each
  have hlen : ((List.range len).map f).length = len := by simp
  have e : vss.flatten = ((List.range len).map f).map Value.string := by
    apply List.ext_getElem?
    intro j
    by_cases hj : j < len
    · have h := flat_get h1 j 0 (by omega) (by omega)
      rw [Nat.mul_one, Nat.add_zero, (hf j (by omega) (by omega)).1] at h
      rw [h]
      simp [List.getElem?_range hj]
    · rw [List.getElem?_eq_none (by rw [flat_len h1]; omega), List.getElem?_eq_none (by simp; omega)]
  rw [e] at hR
  have hbd : len ≤ 8796093021952 ∧ ∀ i, i < len → (f i).size ≤ 140737488351232 := by
    rcases hx with hx | ⟨h0, _⟩
    · rw [hx] at hw
      have h2 := weights_len ht hw
      rw [hb16] at h2
      refine ⟨by omega, fun i hi => ?_⟩
      have hm : ds[i]'(by omega) ∈ ds := List.getElem_mem _
      have h3 := weights_elem ht hw hm
      rw [(hf i (by omega) (by omega)).2] at h3
      have := h3 (f i).data.toList.length (by simp [DataW.weights])
      rwa [bsize] at this
    · exact ⟨by omega, fun i hi => by omega⟩
  exact ⟨A, len, cap, _, rfl, hl, hR, hlen, hbd.1, fun s hs => by
    obtain ⟨i, hi, rfl⟩ := List.mem_map.1 hs
    exact hbd.2 i (by simpa using hi)⟩
end

theorem string_cells : Tryz.prog.cellsOf 9 = 1 := by kernel_rfl
theorem string_bytes : Tryz.prog.bytesOf 9 = 16 := by kernel_rfl
end Go.Proofs.YtdloacfoegjnmaaGreat.Qy
end
