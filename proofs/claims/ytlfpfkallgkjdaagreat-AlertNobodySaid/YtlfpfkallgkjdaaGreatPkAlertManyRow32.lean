/- A row of the call's own, ahead of a sort and behind it: plain. (No program in sight.) -/
import Derived.Shelf.GgSortFunc.RowK
import Derived.Sort.OwnSorted
import Derived.Shelf.SlSortCmp.HeapSortK
import Derived.RangeFuncNested
import Derived.RangeFuncBox
import Derived.RangeFuncBound
import Derived.RangeFuncCalls
import Derived.RangeFuncLeaves
import Derived.Shelf.Abstract
import Derived.OwnWalkIn
import Derived.TacticsInMore
import Derived.LoopNIn
import Derived.LoopIn
import Derived.Maps.AppendAt
import Derived.Test.YtlfpfkallgkjdaaGreatPkAlertManyRow29
import Derived.Test.YtlfpfkallgkjdaaGreatPkAlertManyRow1
import Derived.Test.YtlfpfkallgkjdaaGreatPkAlertManyRow31
import Derived.Test.YtlfpfkallgkjdaaGreatPkAlertManyRow5
import Derived.Test.YtlfpfkallgkjdaaGreatShelfPk
import Derived.Test.YtlfpfkallgkjdaaGreatPkAlertManyRow8
import Derived.Test.YtlfpfkallgkjdaaGreatPkAlertManyRow24
section
namespace Go.Proofs.YtlfpfkallgkjdaaGreat.Ss
open Go.RowKit Go.Proofs.YtlfpfkallgkjdaaGreat Go.Sort Go.Shelf Go.Lib
set_option linter.unusedVariables false
set_option linter.unusedSimpArgs false
set_option linter.unusedSectionVars false
variable {α : Type} [Inhabited α] {enc : α → List Value} {k : Nat}

theorem encs_len (hk : ∀ x, (enc x).length = k) (l : List α) : (l.flatMap enc).length = l.length * k := by
  induction l with
  | nil => simp
  | cons x l ih => rw [List.flatMap_cons, List.length_append, hk, ih, List.length_cons, Nat.add_mul, Nat.one_mul, Nat.add_comm]
theorem encs_get (hk : ∀ x, (enc x).length = k) (l : List α) (i j : Nat) (hi : i < l.length) (hj : j < k) : (l.flatMap enc)[i * k + j]? = (enc l[i])[j]? := by
  have := Qy.flat_get (k := k) (vss := l.map enc) (fun v hv => by obtain ⟨x, _, rfl⟩ := List.mem_map.1 hv; exact hk x) i j (by simpa using hi) hj
  rw [List.getElem_map] at this
  rw [List.flatMap_def]
  exact this
theorem flat_enc (hk : ∀ x, (enc x).length = k) (h0 : 0 < k) (l : List α) : flatK enc k l.toArray = (l.flatMap enc).toArray := by
  apply Array.ext
  · simp only [size_flatK, List.size_toArray, encs_len hk]
  · intro i h1 h2
    rw [size_flatK] at h1
    have hs : l.toArray.size = l.length := by simp
    rw [hs] at h1
    have hi : i / k < l.length := Nat.div_lt_of_lt_mul (by rw [Nat.mul_comm]; exact h1)
    have e1 : (flatK enc k l.toArray)[i]! = (enc l.toArray[i / k]!)[i % k]! := get_flatK enc k l.toArray i (by rw [hs]; exact h1)
    rw [getElem!_pos _ i (by rw [size_flatK, hs]; exact h1)] at e1
    have e2 : l.toArray[i / k]! = l[i / k] := by rw [getElem!_pos _ _ (by simpa using hi)]; simp
    have hm : i % k < k := Nat.mod_lt _ h0
    have g := encs_get hk l (i / k) (i % k) hi hm
    have ei : i / k * k + i % k = i := by rw [Nat.mul_comm]; exact Nat.div_add_mod i k
    rw [ei] at g
    rw [e1, e2]
    have h3 : i < (l.flatMap enc).length := by rw [encs_len hk]; exact h1
    rw [List.getElem?_eq_getElem h3, List.getElem?_eq_getElem (by rw [hk]; exact hm)] at g
    injection g with g
    rw [getElem!_pos _ _ (by rw [hk]; exact hm), ← g]
    simp
theorem holdsE (hk : ∀ x, (enc x).length = k) (h0 : 0 < k) {w : World} {g : Nat} {cur : Array Value} {e : TypeId} {l : List α} (hb : w.heap[g]? = some (.cells cur e (0, 0))) (ht : cur.toList.take (l.length * k) = l.flatMap enc) : HoldsK enc k w g 0 l.toArray := by
  unfold HoldsK
  rw [flat_enc hk h0]
  intro j hj
  have hj' : j < (l.flatMap enc).length := by simpa using hj
  have hj2 : j < l.length * k := by rw [encs_len hk] at hj'; exact hj'
  refine ⟨?_, by simp [World.frozen?, hb]⟩
  have h1 : (cur.toList.take (l.length * k))[j]? = (l.flatMap enc)[j]? := by rw [ht]
  rw [List.getElem?_take_of_lt hj2] at h1
  simp only [World.cell?, hb, Nat.zero_add]
  simp only [Option.isSome_none, Bool.false_eq_true, if_false]
  rw [← Array.getElem?_toList, h1]
  simp [hj', List.getElem?_eq_getElem hj']
theorem heapE {w : World} {g n : Nat} {os : Array Obj} {cur : Array Value} {e : TypeId} {fr : Nat × Nat} (d : Array Value) (hb : w.heap[g]? = some (.cells cur e fr)) :
    (grow (putRow id (Sort.ahead w n) g 0 d) os).heap[g]? = some (.cells (putCells id 0 d cur) e fr) := by
  have hg : g < w.heap.size := (Array.getElem?_eq_some_iff.1 hb).1
  rw [heap_grow_old _ _ (by simpa using hg)]
  simp [putRow, mapBlock, Sort.ahead, Array.getElem?_modify, hb, onCells]
theorem grownE {w : World} {g n : Nat} {os : Array Obj} (d : Array α) : w.grownBy (sortWorldK enc k w g 0 n d os) (some g) := by
  unfold sortWorldK putRowK
  refine ⟨rfl, rfl, rfl, by simp, fun j hj hne => ?_⟩
  rw [heap_grow_old _ _ (by simpa using hj)]
  have : g ≠ j := fun e => hne (by rw [e])
  simp [putRow, mapBlock, Sort.ahead, Array.getElem?_modify, this]
theorem takeE (cur : Array Value) (F : List Value) (h : F.length ≤ cur.size) : (putCells id 0 F.toArray cur).toList.take F.length = F := by
  apply List.ext_getElem?
  intro j
  by_cases hj : j < F.length
  · rw [List.getElem?_take_of_lt hj, Array.getElem?_toList]
    simp [putCells, hj, show j < cur.size by omega]
  · rw [List.getElem?_take_eq_none (by omega), List.getElem?_eq_none (by omega)]
/-- Behind the sort the same slice owns the sorted row. -/
theorem ownE (hk : ∀ x, (enc x).length = k) (h0 : 0 < k) {w : World} {base g cap n : Nat} {e : TypeId} {os : Array Obj} {cur : Array Value} {l m : List α} (hl : m.length = l.length) (hbase : base ≤ g) (hb : w.heap[g]? = some (.cells cur e (0, 0)))
    (h1 : l.length ≤ cap) (h2 : cap ≤ maxLen) (h3 : cur.size = cap * k) :
    (sortWorldK enc k w g 0 n m.toArray os).ownsRow base e k (.slice (some ⟨g, 0, none⟩) m.length cap) m.length (m.flatMap enc) := by
  unfold sortWorldK putRowK
  rw [flat_enc hk h0]
  refine ⟨encs_len hk m, .inr ⟨g, cap, _, rfl, hbase, heapE _ hb, by omega, h2, by simp [putCells, h3], ?_⟩⟩
  rw [← encs_len hk m]
  exact takeE cur (m.flatMap enc) (by rw [encs_len hk, h3]; exact Nat.mul_le_mul_right k (by omega))
end Go.Proofs.YtlfpfkallgkjdaaGreat.Ss
end

section
/- The sort of an event's terms: what it is asked, what it leaves. -/
namespace Go.Proofs.YtlfpfkallgkjdaaGreat.Ev
open Go.RowKit Go.Proofs.YtlfpfkallgkjdaaGreat Go.Proofs.YtlfpfkallgkjdaaGreat.Ut Go.Proofs.YtlfpfkallgkjdaaGreat.Tk Go.Proofs.YtlfpfkallgkjdaaGreat.Ss Go.Sort Go.Shelf Go.Lib
set_option maxRecDepth 20000
set_option linter.unusedVariables false
set_option linter.unusedSimpArgs false

theorem cmp_lt : ∀ a b : List UInt8, Lib.compareBytes a b < 0 ↔ Op.bytesLess a b = true
  | [], [] => by simp [Lib.compareBytes, Op.bytesLess]
  | [], _ :: _ => by simp [Lib.compareBytes, Op.bytesLess]
  | _ :: _, [] => by simp [Lib.compareBytes, Op.bytesLess]
  | a :: xs, b :: ys => by
    have ih := cmp_lt xs ys
    simp only [Lib.compareBytes, Op.bytesLess, Bool.or_eq_true, Bool.and_eq_true, decide_eq_true_eq, beq_iff_eq]
    by_cases c1 : a < b
    · simp [c1]
    · by_cases c2 : b < a
      · have hne : a ≠ b := fun e => by subst e; exact c1 c2
        simp [c1, c2, hne]
      · have e : a = b := UInt8.le_antisymm (UInt8.not_lt.1 c2) (UInt8.not_lt.1 c1)
        subst e
        simp [c1, ih]
/-- A term as it comes: its text, its place, where the row of its place lies. -/
structure El where
  s : ByteArray
  p : Nat
  b : Nat
instance : Inhabited El := ⟨⟨ByteArray.empty, 0, 0⟩⟩
def encE (x : El) : List Value := [.string x.s, .slice (some ⟨x.b, 0, none⟩) 1 1]
def cfE (x y : El) : Int := Lib.compareBytes x.s.data.toList y.s.data.toList
def t1 (x : El) : T1 := (x.s, x.p)
theorem ltOf_E (x y : El) : ltOf cfE x y = ltB x.s y.s := by
  unfold ltOf cfE ltB
  rw [ByteArray.toList_eq, ByteArray.toList_eq]
  have := cmp_lt x.s.data.toList y.s.data.toList
  cases h : Op.bytesLess x.s.data.toList y.s.data.toList
  · rw [h] at this; simp only [Bool.false_eq_true, iff_false] at this; exact decide_eq_false this
  · rw [h] at this; exact decide_eq_true (this.2 rfl)
theorem swoE : SWO (ltOf cfE) where
  irrefl x := by rw [ltOf_E]; exact ltB_irrefl _
  trans x y z h1 h2 := by rw [ltOf_E] at *; exact ltB_trans h1 h2
  ntrans x y z h1 h2 := by
    rw [ltOf_E] at *
    cases h : ltB x.s z.s
    · rfl
    · rcases ltB_total h1 with e | e
      · rw [e] at h; rw [h] at h2; cases h2
      · have := ltB_trans e h
        rw [h2] at this; cases this
theorem perm_whole {l : List El} {d' : Array El} (h : PermIn 0 l.length l.toArray d') : d'.toList.Perm l := by
  obtain ⟨h1, _, h3⟩ := h
  have hs : d'.size = l.length := by simpa using h1
  have e1 : d'.extract 0 l.length = d' := by rw [← hs]; simp
  have e2 : l.toArray.extract 0 l.length = l.toArray := by
    have : l.length = l.toArray.size := by simp
    rw [this, Array.extract_size]
  rw [e1, e2] at h3
  exact h3
/-- The sorted terms, merged, are the terms. -/
theorem sorted_els {l : List El} {d' : Array El} (hP : PermIn 0 l.length l.toArray d') (hs : Srt cfE El.p d' 0 l.length) (ht : l.Pairwise (fun x y => x.p < y.p)) :
    d'.toList.Perm l ∧ (d'.toList.map t1).foldl mrg [] = addAll (l.map t1) := by
  have hp := perm_whole hP
  refine ⟨hp, ?_⟩
  have hz : d'.size = l.length := by have := hP.1; simpa using this
  have hpw : d'.toList.Pairwise (bef cfE El.p) := by
    rw [List.pairwise_iff_getElem]
    intro i j hi hj hij
    have h1 : i < d'.size := by simpa using hi
    have h2 : j < d'.size := by simpa using hj
    have := hs i j (Nat.zero_le _) hij (by omega)
    rw [getElem!_pos d' i h1, getElem!_pos d' j h2] at this
    simpa using this
  refine sorted_terms ?_ (fun s => ?_)
  · rw [List.pairwise_map]
    refine hpw.imp (fun {x y} h => ?_)
    show ltB y.s x.s = false
    rcases h with h | ⟨h, _⟩
    · exact ltB_asymm ((ltOf_E x y).symm.trans (decide_eq_true h))
    · exact (ltOf_E y x).symm.trans (decide_eq_false h)
  · rw [List.filter_map, List.filter_map]
    congr 1
    refine mem_one (r := fun x y : El => x.p < y.p) (fun x => Nat.lt_irrefl _) (fun x y z => Nat.lt_trans) (fun x => ?_) (ht.filter _) ?_
    · simp only [List.mem_filter, hp.mem_iff]
    · have h1 := hpw.filter (fun x : El => decide ((t1 x).1 = s))
      have h2 : (d'.toList.filter (fun x : El => decide ((t1 x).1 = s))).Pairwise (fun x y => bef cfE El.p x y ∧ x.s = s ∧ y.s = s) := by
        refine List.Pairwise.imp_of_mem (fun {x y} hx hy h => ⟨h, ?_, ?_⟩) h1
        · exact of_decide_eq_true (List.mem_filter.1 hx).2
        · exact of_decide_eq_true (List.mem_filter.1 hy).2
      refine h2.imp (fun {x y} h => ?_)
      obtain ⟨h, e1, e2⟩ := h
      rcases h with h | ⟨_, h⟩
      · have : ltB x.s y.s = true := (ltOf_E x y).symm.trans (decide_eq_true h)
        rw [e1, e2, ltB_irrefl] at this; cases this
      · exact h

set_option maxHeartbeats 400000 in
theorem less_terms (x y : El) (w : World) : Calls Tryz.prog 75 (#[.agg (encE x).toArray, .agg (encE y).toArray] ++ #[]) w fun e w' => e = .returned (.int .i64 (cfE x y)) ∧ ∃ q os, w' = grow (w.drewN q) os := by
  have h := fun w => Tryz.strings_Compare x.s y.s w
  have Fin : Hid (cfE x y = Lib.compareBytes x.s.data.toList y.s.data.toList) := rfl
  generalize cfE x y = r at *
  simp only [encE, Array.append_empty]
  generalize x.s = xs at *
  generalize y.s = ys at *
  go_enter Tryz.func75, Tryz.ntmps75
  go_wp2_with fail
  refine (h _).mono ?_
  rintro e w' ⟨rfl, rfl⟩
  have F := Lib.hid Fin.out
  rw [← F.out]
  clear h Fin
  go_wp2
  go_ret
  exact ⟨rfl, 0, #[.cells #[.string xs, .slice (some ⟨x.b, 0, none⟩) 1 1] 105, .cells #[.string ys, .slice (some ⟨y.b, 0, none⟩) 1 1] 105], by rw [alloc_eq_grow, alloc_eq_grow, grow_grow]; rfl⟩
theorem cmpLaysE (blk off size : Nat) (w : World) : CmpLays Tryz.prog 75 #[] encE 2 cfE blk off size w := fun m os dk hs x y => less_terms x y _

theorem sortE_any (base g cap : Nat) (l : List El) (cur : Array Value) (w : World) (hb : w.heap[g]? = some (.cells cur 105 (0, 0))) (ht : cur.toList.take (l.length * 2) = l.flatMap encE) (hl : l.length ≤ 1048576)
    (hg : base ≤ g) (h1 : l.length ≤ cap) (h2 : cap ≤ maxLen) (h3 : cur.size = cap * 2) (hp : l.Pairwise (fun x y => x.p < y.p)) :
    Calls Tryz.prog 74 #[.slice (some ⟨g, 0, none⟩) l.length cap, .func (.func 75) #[] #[]] w fun e w' =>
      e = .returned (.tuple #[]) ∧ ∃ m : List El, m.Perm l ∧ (m.map t1).foldl mrg [] = addAll (l.map t1) ∧ w'.ownsRow base 105 2 (.slice (some ⟨g, 0, none⟩) l.length cap) l.length (m.flatMap encE) ∧ w.grownBy w' (some g) := by
  have hH := holdsE (enc := encE) (k := 2) (fun _ => rfl) (by decide) hb ht
  have hsz : l.toArray.size = l.length := by simp
  have hgl : g < w.heap.size := (Array.getElem?_eq_some_iff.1 hb).1
  have c := sortStable_any (enc := encE) (cf := cfE) (tag := El.p) swoE 2 rfl 75 #[] g 0 cap l.toArray w (enters_of Tryz.func75 (by kernel_rfl) rfl) (cmpLaysE g 0 _ w)
    ⟨fun _ => rfl, fun x v hv => by simp [encE] at hv; rcases hv with rfl | rfl <;> rfl, hH, hgl⟩ (SWK.start hH) (by rw [hsz]; omega) (fun x y hxy hy => by
      rw [hsz] at hy
      rw [getElem!_pos _ x (by simp; omega), getElem!_pos _ y (by simp; omega)]
      simpa using List.pairwise_iff_getElem.1 hp x y (by omega) hy hxy)
  rw [hsz] at c
  refine c.mono ?_
  rintro e w' ⟨rfl, d', ⟨n, os, rfl⟩, hd, hP, hS⟩
  obtain ⟨q1, q2⟩ := sorted_els hP hS hp
  have hm : d'.toList.length = l.length := q1.length_eq
  have ho := ownE (enc := encE) (k := 2) (fun _ => rfl) (by decide) (base := base) (n := n) (os := os) (l := l) (m := d'.toList) hm hg hb h1 h2 h3
  rw [hm] at ho
  exact ⟨rfl, d'.toList, q1, q2, by simpa using ho, grownE _⟩

set_option maxHeartbeats 400000 in
theorem insertion_nil (w : World) (fv : Value) : Calls Tryz.prog 150 #[.slice none 0 0, .int .i64 0, .int .i64 0, fv] w fun e w' => e = .returned (.tuple #[]) ∧ w = w' := by
  go_enter Tryz.func150, Tryz.ntmps150
  go_wp2
  go_loop [8] (fun i => i = .int .i64 1) (fun _ => 0)
  case atStart => rfl
  case round =>
    subst hrel
    go_wp2
    go_end0
    exact ⟨rfl, rfl⟩
set_option maxHeartbeats 400000 in
theorem stable_nil (w : World) (fv : Value) : Calls Tryz.prog 111 #[.slice none 0 0, .int .i64 0, fv] w fun e w' => e = .returned (.tuple #[]) ∧ w = w' := by
  go_enter Tryz.func111, Tryz.ntmps111
  go_wp2
  go_loop [7, 8] (fun a b => a = .int .i64 0 ∧ b = .int .i64 20) (fun _ _ => 0)
  case atStart => exact ⟨rfl, rfl⟩
  case round =>
    obtain ⟨rfl, rfl⟩ := hrel
    go_wp2_with fail
    refine (insertion_nil _ _).mono ?_
    rintro e w' ⟨rfl, rfl⟩
    go_wp2
    go_loop [6] (fun b => b = .int .i64 20) (fun _ => 0)
    case atStart => rfl
    case round =>
      subst hrel
      go_wp2
      go_end0
      exact ⟨rfl, rfl⟩
set_option maxHeartbeats 400000 in
theorem sortE_nil (w : World) (fv : Value) : Calls Tryz.prog 74 #[.slice none 0 0, fv] w fun e w' => e = .returned (.tuple #[]) ∧ w = w' := by
  go_enter Tryz.func74, Tryz.ntmps74
  go_wp2_with fail
  refine (stable_nil _ _).mono ?_
  rintro e w' ⟨rfl, rfl⟩
  go_wp2
  go_end0
  exact ⟨rfl, rfl⟩
end Go.Proofs.YtlfpfkallgkjdaaGreat.Ev
end

section
/- event.based: the iterator's contract. -/
namespace Go.Proofs.YtlfpfkallgkjdaaGreat.Ev
open Go.RowKit Go.Shelf Go.Proofs.YtlfpfkallgkjdaaGreat Go.Proofs.YtlfpfkallgkjdaaGreat.Ut Go.Proofs.YtlfpfkallgkjdaaGreat.Tk Go.Proofs.YtlfpfkallgkjdaaGreat.Qy
attribute [local go_sem] Oper.semAt_some
set_option linter.unusedSimpArgs false
set_option linter.unusedVariables false
set_option maxRecDepth 20000

/-- What a round keeps: what lay below n₀; all boxes of events and of fields. -/
def KE (n₀ : Nat) (W W' : World) : Prop := Below n₀ W W' ∧ ∀ (b : Nat) (cs : Array Value) (T : TypeId) (fr : Nat × Nat), (T = 33 ∨ T = 99) → W.heap[b]? = some (.cells cs T fr) → W'.heap[b]? = some (.cells cs T fr)
theorem KE.trans {n₀ : Nat} {A B C : World} (h : KE n₀ A B) (k : KE n₀ B C) : KE n₀ A C := ⟨h.1.trans k.1, fun b cs T fr hT hb => k.2 b cs T fr hT (h.2 b cs T fr hT hb)⟩
theorem KE.below {n₀ : Nat} {A B : World} (h : Below A.heap.size A B) (hn : n₀ ≤ A.heap.size) : KE n₀ A B := ⟨h.mono hn, fun b cs T fr hT hb => (h.block b (Array.getElem?_eq_some_iff.1 hb).1).trans hb⟩
theorem KE.putObj {n₀ : Nat} {w : World} (h : n₀ ≤ w.heap.size) (W : World) (l : Nat) (o o' : Obj) (hn : w.heap.size ≤ l) (hl : W.heap[l]? = some o) (hc : o.isCells = false) (hw : o.isWalk = false) : KE n₀ W (W.putObj l o') := by
  refine ⟨belowK_b h W l o o' hn hl hc hw, fun b cs T fr hT hb => ?_⟩
  refine (World.putObj_heap_other (fun e => ?_)).trans hb
  subst e
  rw [hl] at hb
  injection hb with hb
  subst hb
  cases hc
/-- A field with its base, as the program hands it out. -/
abbrev Xf := { x : Nat × Fl // x.1 ≤ 100000 ∧ x.2.1.size ≤ 32 ∧ x.2.2.size ≤ 4096 }
/-- The loop's state. -/
structure BasedIn (t : Int) (F : Option Addr) (fn fc : Nat) (n₀ tb : Nat) (fs : List Fl) (J : List Xf → World → Prop) (wr : World) (k base : Nat) (pre : List Xf) : Prop where
  le : k ≤ fs.length
  all : pre.map (·.1) ++ basedL base (fs.drop k) = basedL 0 fs
  bb : base ≤ k * 4160
  j : J pre wr
  bx : Blk wr tb 33 #[.int .i64 t, .slice F fn fc]
  rd : Reads wr n₀ 2 F fn (fldC fs)
  n0 : n₀ ≤ wr.heap.size

set_option maxRecDepth 100000 in
set_option maxHeartbeats 4000000 in
theorem based1_in (m : Nat) (hn : 1 ≤ m) (l tb n₀ B : Nat) (t : Int) (F : Option Addr) (fn fc : Nat) (fs : List Fl) (hok : ∀ f ∈ fs, f.1.size ≤ 32 ∧ f.2.size ≤ 4096) (hlen : fs.length ≤ 16) (J Jx : List Xf → World → Prop) (hJ : AbidesFrom B J)
    (hY : ∀ pre (x : Xf) W, J pre W → pre.length < fs.length → YieldAt Fence.wide (m - 1) Tryz.prog l #[.int .i64 (x.1.1 : Nat), .agg #[.string x.1.2.1, .string x.1.2.2]] W fun e W' =>
      (e = .returned (.bool true) ∧ J (pre ++ [x]) W' ∧ KE n₀ W W') ∨ (e = .returned (.bool false) ∧ Jx (pre ++ [x]) W'))
    (hJs : ∀ pre W W', J pre W → Below W.heap.size W W' → J pre W')
    (W : World) (hb : Blk W tb 33 #[.int .i64 t, .slice F fn fc]) (hF : Reads W n₀ 2 F fn (fldC fs)) (hfn : fs.length = fn) (hfc : fn ≤ fc) (hnW : n₀ ≤ W.heap.size) (h0 : J [] W) :
    CallsIn Fence.wide m Tryz.prog 107 #[.func (.yield l) #[] #[], .pointer (some ⟨tb, 0, none⟩)] W fun e W' => (∃ v, e = .returned v) ∧
      ((∃ ys : List Xf, ys.map (·.1) = basedL 0 fs ∧ J ys W') ∨ (∃ pre : List Xf, pre.map (·.1) <+: basedL 0 fs ∧ Jx pre W')) := by
  have st : BasedIn t F fn fc n₀ tb fs J W 0 0 [] := ⟨Nat.zero_le _, by simp, by omega, h0, hb, hF, hnW⟩
  have St := Lib.hid st
  have HJs := Lib.hid hJs
  have HY := Lib.hid hY
  have HOK := Lib.hid hok
  have HLN := Lib.hid hfn
  have hl1 : fn ≤ 16 := by omega
  have hl2 : fs.length ≤ fn := by omega
  have hl3 : fn ≤ fs.length := by omega
  have c0 := hb.cell 1
  simp only [List.getElem?_toArray, List.getElem?_cons_zero, List.getElem?_cons_succ] at c0
  clear st h0 hb hJ hY hok hF hJs hfn hlen
  refine callsIn_of_wp Tryz.func107 rfl trivial ?_ rfl
  simp only [Tryz.ntmps107, List.size_toArray, List.length_cons, List.length_nil, Nat.reduceAdd, Nat.reduceSub, Array.replicate_succ, Array.replicate_zero, List.push_toArray, List.append_toArray, List.nil_append, List.cons_append]
  gi_wp2
  clear c0
  gi_loopw [3, 9] (fun b i wr => ∃ (k base : Nat) (pre : List Xf), i = .int .i64 (k : Nat) ∧ b = .int .i64 (base : Nat) ∧ BasedIn t F fn fc n₀ tb fs J wr k base pre)
    (fun b i wr => fs.length - (intOf i).toNat)
  case atStart => exact ⟨0, 0, [], rfl, rfl, St.out⟩
  case round =>
    clear St
    obtain ⟨k, base, pre, rfl, rfl, hR⟩ := hrel
    have hk := hR.le
    have hbb := hR.bb
    by_cases hlt : k < fs.length
    · have hkf : k < fn := by omega
      obtain ⟨fb, fo, eF, hfb, cn, ct⟩ := fields_at hR.rd hlt
      have hok := HOK.out _ (List.getElem_mem hlt)
      have hk1 : (k : Int) < (fn : Int) := by omega
      have hdr : fs.drop k = fs[k] :: fs.drop (k + 1) := List.drop_eq_getElem_cons hlt
      have hal := hR.all
      rw [hdr] at hal
      have hpl : pre.length < fs.length := by
        have := congrArg List.length hal
        rw [List.length_append, List.length_map, basedL_len, basedL_len] at this
        simp at this
        omega
      have hwl := words_len fs[k].2
      have HR := Lib.hid hR
      have Hal := Lib.hid hal
      have HA : Hid (F = some ⟨fb, fo, none⟩) := Lib.hid eF
      subst eF
      generalize hfk : fs[k] = f at *
      obtain ⟨nm, tx⟩ := f
      have x0 : base ≤ 100000 := by omega
      obtain ⟨hn1, hn2⟩ := hok
      simp only at hn1 hn2 cn ct hwl
      have Hpl := Lib.hid hpl
      have HFK := Lib.hid hfk
      clear hal hR hdr hpl hfk
      gi_wp2_with fail
      have hbox := Blk.new wr 99 #[.string nm, .string tx]
      have hbW : Below wr.heap.size wr (wr.alloc (.cells #[.string nm, .string tx] 99)) := (Below.refl _ _).alloc (Nat.le_refl _) _
      generalize hw1 : wr.alloc (.cells #[.string nm, .string tx] 99) = w1 at *
      have hJ1 : Hid (J pre w1) := Lib.hid (HJs.out pre wr w1 HR.out.j hbW)
      have Q1 : Hid (Blk w1 tb 33 #[.int .i64 t, .slice (some ⟨fb, fo, none⟩) fn fc] ∧ Reads w1 n₀ 2 (some ⟨fb, fo, none⟩) fn (fldC fs) ∧ n₀ ≤ w1.heap.size) := Lib.hid ⟨HR.out.bx.below hbW HR.out.bx.lt, HR.out.rd.keep (fun b o hb => hbW.cell (p := ⟨b, o, none⟩) (Nat.lt_of_lt_of_le hb HR.out.n0)), Nat.le_trans HR.out.n0 hbW.size⟩
      obtain ⟨fn', tmps, assign, body, hy, hRd⟩ := HY.out pre ⟨(base, (nm, tx)), x0, hn1, hn2⟩ w1 hJ1.out Hpl.out
      dsimp only at hy
      have b0 := hbox.cell 0
      have b1 := hbox.cell 1
      simp only [List.getElem?_toArray, List.getElem?_cons_zero, List.getElem?_cons_succ] at b0 b1
      have HB := Lib.hid hbox
      have HBW := Lib.hid hbW
      clear hbox hbW cn ct hJ1
      rw [hy]
      gi_wp2
      refine hRd.mono ?_
      rintro e W3 (⟨rfl, hJ3, hk3⟩ | ⟨rfl, hJx3⟩)
      · have hbx : Blk W3 tb 33 #[.int .i64 t, .slice (some ⟨fb, fo, none⟩) fn fc] := hk3.2 _ _ _ _ (.inl rfl) Q1.out.1
        have hbf : Blk W3 wr.heap.size 99 #[.string nm, .string tx] := hk3.2 _ _ _ _ (.inr rfl) HB.out
        have hrd3 : Reads W3 n₀ 2 (some ⟨fb, fo, none⟩) fn (fldC fs) := Q1.out.2.1.keep (fun b o hb => hk3.1.cell (p := ⟨b, o, none⟩) hb)
        have hn3 : n₀ ≤ W3.heap.size := Nat.le_trans Q1.out.2.2 hk3.1.size
        have d1 := hbf.cell 1
        simp only [List.getElem?_toArray, List.getElem?_cons_zero, List.getElem?_cons_succ] at d1
        have c1 := tokens_any tx W3 (by omega)
        have C1 := Lib.hid c1
        have Hn : Hid (∀ W4, Below W3.heap.size W3 W4 → BasedIn t (some ⟨fb, fo, none⟩) fn fc n₀ tb fs J W4 (k + 1) (base + (64 + (words tx.data.toList).length)) (pre ++ [⟨(base, (nm, tx)), x0, hn1, hn2⟩])) := Lib.hid (fun W4 hb4 => ⟨by omega, by
            have := Hal.out
            rw [← this]
            simp [basedL, List.map_append], by omega, HJs.out _ _ _ hJ3 hb4, hbx.below hb4 hbx.lt, hrd3.keep (fun b o hb => hb4.cell (p := ⟨b, o, none⟩) (Nat.lt_of_lt_of_le hb hn3)), Nat.le_trans hn3 hb4.size⟩)
        clear hJ3 hk3 hy hbx hbf hrd3 hn3 c1 Hal HR HJs HFK
        gi_wp2_with fail
        refine ⟨trivial, (callsIn_wide.2 C1.out).mono ?_⟩
        rintro e W4 ⟨v, rfl, hown, hb4⟩
        obtain ⟨A4, c4, rfl, _⟩ := own_shape hown
        have Nx := Lib.hid (Hn.out W4 hb4)
        have hx1 : base ≤ 100000 := x0
        have hx2 : (words tx.data.toList).length ≤ 4096 := by omega
        clear Hn hown hb4 C1
        gi_wp2
        go_roundw
        case rel => exact ⟨k + 1, base + (64 + (words tx.data.toList).length), pre ++ [⟨(base, (nm, tx)), x0, hn1, hn2⟩], by go_num, by go_num, Nx.out⟩
        case measure => simp [intOf]; omega
      · have hpx : (pre ++ [⟨(base, (nm, tx)), x0, hn1, hn2⟩] : List Xf).map (·.1) <+: basedL 0 fs := ⟨basedL (base + (64 + (words tx.data.toList).length)) (fs.drop (k + 1)), by
          have := Hal.out
          rw [← this]
          simp [basedL, List.map_append]⟩
        have Hpx := Lib.hid hpx
        have Hjx := Lib.hid hJx3
        clear hpx hJx3 hy
        gi_wp2
        refine bodyPost_ret (results_none rfl _ _ _) rfl ?_
        exact ⟨⟨_, rfl⟩, .inr ⟨_, Hpx.out, Hjx.out⟩⟩
    · have hke : k = fs.length := by omega
      have hal := hR.all
      rw [hke, List.drop_length] at hal
      have Hal : Hid (pre.map (·.1) = basedL 0 fs) := Lib.hid (by simpa [basedL] using hal)
      have Hjr := Lib.hid hR.j
      have hk2 : ¬ (k : Int) < (fn : Int) := by omega
      clear hal hR hke
      gi_wp2
      go_end0
      exact ⟨⟨_, rfl⟩, .inl ⟨pre, Hal.out, Hjr.out⟩⟩
end Go.Proofs.YtlfpfkallgkjdaaGreat.Ev
end

section
/- What event.Terms collects, in memory. (No walk.) -/
namespace Go.Proofs.YtlfpfkallgkjdaaGreat.Ev
open Go.RowKit Go.Shelf Go.Proofs.YtlfpfkallgkjdaaGreat Go.Proofs.YtlfpfkallgkjdaaGreat.Ut Go.Proofs.YtlfpfkallgkjdaaGreat.Tk Go.Proofs.YtlfpfkallgkjdaaGreat.Qy Go.Proofs.YtlfpfkallgkjdaaGreat.Qp
set_option linter.unusedSimpArgs false
set_option linter.unusedVariables false
set_option maxRecDepth 20000

/-- All but the boxes of rows of terms, and rows of terms, stays as it is; so does all that lies below n0. -/
def NT (n0 : Nat) (W W' : World) : Prop := Below n0 W W' ∧ ∀ (b : Nat) (o : Obj), W.heap[b]? = some o → (∀ cs T fr, o = .cells cs T fr → T ≠ 102 ∧ T ≠ 105) → W'.heap[b]? = some o
theorem NT.refl (n0 : Nat) (W : World) : NT n0 W W := ⟨Below.refl _ _, fun _ _ h _ => h⟩
theorem NT.trans {n0 : Nat} {A B C : World} (h : NT n0 A B) (k : NT n0 B C) : NT n0 A C := ⟨h.1.trans k.1, fun b o hb ho => k.2 b o (h.2 b o hb ho) ho⟩
theorem NT.below {n0 : Nat} {A B : World} (h : Below A.heap.size A B) (hn : n0 ≤ A.heap.size) : NT n0 A B := ⟨h.mono hn, fun b o hb _ => (h.block b (Array.getElem?_eq_some_iff.1 hb).1).trans hb⟩
theorem NT.ke {n0 : Nat} {A B : World} (h : NT n0 A B) : KE n0 A B := ⟨h.1, fun b cs T fr hT hb => h.2 b _ hb (fun cs' T' fr' e => by
  injection e with _ e
  subst e
  rcases hT with rfl | rfl <;> exact ⟨by decide, by decide⟩)⟩
theorem NT.others {n0 : Nat} {A B : World} (h : NT n0 A B) : KeepsOthers A B := ⟨h.1.size, fun b o hb ho => h.2 b o hb (fun cs T fr e => by subst e; cases ho)⟩
theorem NT.cells {n0 : Nat} {A B : World} (h : NT n0 A B) {b : Nat} {cs : Array Value} {T : TypeId} {fr : Nat × Nat} (hb : A.heap[b]? = some (.cells cs T fr)) (h1 : T ≠ 102) (h2 : T ≠ 105) : B.heap[b]? = some (.cells cs T fr) :=
  h.2 b _ hb (fun cs' T' fr' e => by injection e with _ e; subst e; exact ⟨h1, h2⟩)
/-- All cells stay. -/
def CK (W W' : World) : Prop := ∀ (b : Nat) (cs : Array Value) (T : TypeId) (fr : Nat × Nat), W.heap[b]? = some (.cells cs T fr) → W'.heap[b]? = some (.cells cs T fr)
theorem CK.grown {W W' : World} {row : Option Nat} (hg : W.grownBy W' row) (hr : ∀ r, row = some r → ∃ o : Obj, W.heap[r]? = some o ∧ o.isCells = false) : CK W W' := fun b cs T fr hb => by
  refine (hg.block b (Array.getElem?_eq_some_iff.1 hb).1 (fun e => ?_)).trans hb
  obtain ⟨o, h1, h2⟩ := hr b e.symm
  rw [hb] at h1
  injection h1 with h1
  subst h1
  cases h2
theorem own_ck {W W' : World} {base k n : Nat} {T : TypeId} {v : Value} {xs : List Value} (h : W.ownsRow base T k v n xs) (hk : CK W W') : W'.ownsRow base T k v n xs :=
  ⟨h.1, h.2.elim .inl (fun ⟨g, cap, cur, hv, hg, hh, r⟩ => .inr ⟨g, cap, cur, hv, hg, hk _ _ _ _ hh, r⟩)⟩

/-- What has been collected. -/
structure Col (w W : World) (n0 lb : Nat) (v : Value) (L : List El) (R : List T1) : Prop where
  bx : Boxed W lb 102 v
  own : W.ownsRow n0 105 2 v L.length (L.flatMap encE)
  pos : ∀ x ∈ L, n0 ≤ x.b ∧ W.heap[x.b]? = some (.cells #[.int .i64 (x.p : Nat)] 3 (0, 0))
  ne : L.Pairwise (fun x y => x.b ≠ y.b)
  is : L.map t1 = R
  bel : Below n0 w W
  nl : L = [] → v = .slice none 0 0
def ColE (w W : World) (n0 lb : Nat) (R : List T1) : Prop := ∃ v L, Col w W n0 lb v L R
theorem Col.ck {w W W' : World} {n0 lb : Nat} {v : Value} {L : List El} {R : List T1} (h : Col w W n0 lb v L R) (hk : CK W W') (hb : Below n0 W W') : Col w W' n0 lb v L R :=
  ⟨hk _ _ _ _ h.bx, own_ck h.own hk, fun x hx => ⟨(h.pos x hx).1, hk _ _ _ _ (h.pos x hx).2⟩, h.ne, h.is, h.bel.trans hb, h.nl⟩
theorem Col.below {w W W' : World} {n0 lb : Nat} {v : Value} {L : List El} {R : List T1} (h : Col w W n0 lb v L R) (hb : Below W.heap.size W W') (hn : n0 ≤ W.heap.size) : Col w W' n0 lb v L R :=
  h.ck (fun b cs T fr hc => (hb.block b (Array.getElem?_eq_some_iff.1 hc).1).trans hc) (hb.mono hn)
theorem ColE.below {w W W' : World} {n0 lb : Nat} {R : List T1} (h : ColE w W n0 lb R) (hb : Below W.heap.size W W') (hn : n0 ≤ W.heap.size) : ColE w W' n0 lb R := by
  obtain ⟨v, L, h⟩ := h
  exact ⟨v, L, h.below hb hn⟩
/-- Behind one more append, and the store of what came of it. -/
theorem col_put {w W W2 w3 : World} {n0 lb : Nat} {v v' : Value} {L : List El} {R : List T1} {s : ByteArray} {p : Nat} {o2 : Obj} (h : Col w W n0 lb v L R) (hlb : n0 ≤ lb) (hn : n0 ≤ W.heap.size)
    (hW2 : W2 = (W.alloc (.cells #[.int .i64 (p : Nat)] 3)).alloc o2)
    (hg : W2.grownBy w3 v.ownBlock) (hown : w3.ownsRow n0 105 2 v' (L.length + 1) (L.flatMap encE ++ [.string s, .slice (some ⟨W.heap.size, 0, none⟩) 1 1])) :
    Col w (w3.setCell ⟨lb, 0, none⟩ v') n0 lb v' (L ++ [⟨s, p, W.heap.size⟩]) (R ++ [(s, p)]) ∧ NT n0 W (w3.setCell ⟨lb, 0, none⟩ v') ∧ Boxed w3 lb 102 v := by
  have hb2 : Below W.heap.size W W2 := by rw [hW2]; exact ((Below.refl _ _).alloc (Nat.le_refl _) _).alloc (by simp) _
  have hlbW : lb < W.heap.size := h.bx.lt
  have hbx2 : Boxed W2 lb 102 v := (hb2.block lb hlbW).trans h.bx
  have hown2 := h.own.kept (grow_of_below hb2 none) (by cases hv : v.ownBlock <;> simp)
  have hvb : ∀ g, v.ownBlock = some g → Tg W2 105 g ∧ n0 ≤ g := fun g e => ⟨tg_own hown2 e, (hown2.lt g e).1⟩
  have hlb3 : Boxed w3 lb 102 v := (hg.block lb hbx2.lt (fun e => by
    have h1 := (hvb lb e.symm).1.one ⟨_, _, hbx2⟩
    exact absurd h1 (by decide))).trans hbx2
  have hbF : Boxed (w3.setCell ⟨lb, 0, none⟩ v') lb 102 v' := hlb3.set v'
  have hgs : w3.grownBy (w3.setCell ⟨lb, 0, none⟩ v') (some lb) := grownBy_setC w3 lb 0 v'
  have hneB : ∀ g, v'.ownBlock = some g → g ≠ lb := fun g e e2 => by
    subst e2
    have h1 := (tg_own hown e).one ⟨_, _, hlb3⟩
    exact absurd h1 (by decide)
  have hnt : NT n0 W (w3.setCell ⟨lb, 0, none⟩ v') := by
    refine ⟨?_, fun b o hb ho => ?_⟩
    · have h1 : Below n0 W W2 := hb2.mono hn
      have h2 : Below n0 W2 w3 := (Below.refl n0 W2).grown hg (by have := hb2.size; omega) (fun g e => (hvb g e).2)
      exact (h1.trans h2).trans ((Below.refl n0 w3).setCell (p := ⟨lb, 0, none⟩) hlb v')
    · have hbl := (Array.getElem?_eq_some_iff.1 hb).1
      have e2 : W2.heap[b]? = some o := (hb2.block b hbl).trans hb
      have e3 : w3.heap[b]? = some o := (hg.block b (by have := hb2.size; omega) (fun e => by
        obtain ⟨cs, fr, h1⟩ := (hvb b e.symm).1
        rw [e2] at h1
        injection h1 with h1
        exact (ho _ _ _ h1).2 rfl)).trans e2
      refine (hgs.block b (by have := hg.size; have := hb2.size; omega) (fun e => ?_)).trans e3
      injection e with e
      subst e
      rw [hlb3] at e3
      injection e3 with e3
      exact (ho _ _ _ e3.symm).1 rfl
  have hnew : (w3.setCell ⟨lb, 0, none⟩ v').heap[W.heap.size]? = some (.cells #[.int .i64 (p : Nat)] 3 (0, 0)) := by
    have e1 : W2.heap[W.heap.size]? = some (.cells #[.int .i64 (p : Nat)] 3 (0, 0)) := by
      rw [hW2]
      exact (Below.heap_alloc _ _ _ (by simp)).trans (World.alloc_heap_new W _)
    have hs2 : W.heap.size < W2.heap.size := (Array.getElem?_eq_some_iff.1 e1).1
    have e2 : w3.heap[W.heap.size]? = some (.cells #[.int .i64 (p : Nat)] 3 (0, 0)) := (hg.block _ hs2 (fun e => by
      have h1 := (hvb _ e.symm).1.one ⟨_, _, e1⟩
      exact absurd h1 (by decide))).trans e1
    exact (hgs.block _ (by have := hg.size; omega) (fun e => by injection e with e; omega)).trans e2
  refine ⟨⟨hbF, ?_, fun x hx => ?_, ?_, by rw [List.map_append, h.is]; rfl, h.bel.trans hnt.1, fun e => by simp at e⟩, hnt, hlb3⟩
  · rw [List.flatMap_append, List.length_append]
    have h5 := hown.kept hgs (by
      cases hv : v'.ownBlock with
      | none => exact .inl rfl
      | some g => exact .inr (fun e => hneB g hv (by injection e)))
    simpa [encE] using h5
  · rcases List.mem_append.1 hx with hx | hx
    · exact ⟨(h.pos x hx).1, hnt.cells (h.pos x hx).2 (by decide) (by decide)⟩
    · rw [List.mem_singleton] at hx
      subst hx
      exact ⟨hn, hnew⟩
  · refine List.pairwise_append.2 ⟨h.ne, List.pairwise_singleton _ _, fun x hx y hy => ?_⟩
    rw [List.mem_singleton] at hy
    subst hy
    have := (Array.getElem?_eq_some_iff.1 (h.pos x hx).2).1
    show x.b ≠ W.heap.size
    omega
theorem ColE.own {w W W' : World} {n0 lb : Nat} {R : List T1} (h : ColE w W n0 lb R) (hk : CK W W') (hb : Below n0 W W') : ColE w W' n0 lb R := by
  obtain ⟨v, L, h⟩ := h
  exact ⟨v, L, h.ck hk hb⟩
theorem rawO_len (x : Nat × Fl) : (rawO x).length = (words x.2.2.data.toList).length := by simp [rawO]
theorem rawO_take (x : Nat × Fl) (k : Nat) (h : k < (words x.2.2.data.toList).length) : (rawO x).take (k + 1) = (rawO x).take k ++ [(termT x.2.1 (words x.2.2.data.toList)[k], x.1 + k)] := by
  rw [List.take_succ_eq_append_getElem (by rw [rawO_len]; exact h)]
  congr 2
  simp [rawO]
theorem pre_len (pre : List Xf) : (pre.flatMap (fun y : Xf => rawO y.1)).length ≤ pre.length * 4096 := by
  induction pre with
  | nil => simp
  | cons x pre ih =>
    have h1 := words_len x.1.2.2
    have h2 := x.2.2.2
    rw [List.flatMap_cons, List.length_append, rawO_len, List.length_cons]
    omega
/-- Places rise. -/
theorem rawO_up (x : Nat × Fl) : (rawO x).Pairwise (fun a b => a.2 < b.2) ∧ ∀ a ∈ rawO x, x.1 ≤ a.2 ∧ a.2 < x.1 + (words x.2.2.data.toList).length := by
  refine ⟨?_, fun a ha => ?_⟩
  · rw [List.pairwise_iff_getElem]
    intro i j hi hj hij
    simp [rawO]
    exact hij
  · obtain ⟨i, hi, rfl⟩ := List.mem_iff_getElem.1 ha
    simp [rawO] at hi ⊢
    exact hi
theorem raw_up : ∀ (fs : List Fl) (b : Nat), ((basedL b fs).flatMap rawO).Pairwise (fun x y => x.2 < y.2) ∧ ∀ x ∈ (basedL b fs).flatMap rawO, b ≤ x.2
  | [], b => ⟨List.Pairwise.nil, fun x hx => (nomatch hx)⟩
  | f :: fs, b => by
    obtain ⟨h1, h2⟩ := raw_up fs (b + (64 + (words f.2.data.toList).length))
    obtain ⟨g1, g2⟩ := rawO_up (b, f)
    simp only [basedL, List.flatMap_cons]
    refine ⟨List.pairwise_append.2 ⟨g1, h1, fun x hx y hy => ?_⟩, fun x hx => ?_⟩
    · have a1 := (g2 x hx).2
      have a2 := h2 y hy
      simp only at a1
      omega
    · rcases List.mem_append.1 hx with hx | hx
      · exact (g2 x hx).1
      · have := h2 x hx; omega
end Go.Proofs.YtlfpfkallgkjdaaGreat.Ev
end
