/- A row of the call's own, ahead of a sort and behind it: plain. (No program in sight.) -/
import Derived.Shelf.GgSortFunc.RowK
import Derived.Sort.OwnSorted
import Derived.Shelf.SlSortCmp.HeapSortK
import Derived.Test.YtioekhiaoajgfaaPkMemidxAddsRow14
import Derived.Test.YtioekhiaoajgfaaPkMemidxAddsRow1
import Derived.Test.YtioekhiaoajgfaaPkMemidxAddsRow17
import Derived.Test.YtioekhiaoajgfaaEvPPk
import Derived.Test.YtioekhiaoajgfaaPkMemidxAddsRow8
section
namespace Go.Proofs.Ytioekhiaoajgfaa.Ss
open Go.RowKit Go.Proofs.Ytioekhiaoajgfaa Go.Sort Go.Shelf Go.Lib
set_option linter.unusedVariables false
set_option linter.unusedSimpArgs false
set_option linter.unusedSectionVars false
variable {α : Type} [Inhabited α] {enc : α → List Value} {k : Nat}

theorem encs_len (hk : ∀ x, (enc x).length = k) (l : List α) : (l.flatMap enc).length = l.length * k := by
  induction l with
  | nil => simp
  | cons x l ih => rw [List.flatMap_cons, List.length_append, hk, ih, List.length_cons, Nat.add_mul, Nat.one_mul, Nat.add_comm]
theorem encs_get (hk : ∀ x, (enc x).length = k) (l : List α) (i j : Nat) (hi : i < l.length) (hj : j < k) : (l.flatMap enc)[i * k + j]? = (enc l[i])[j]? := by
  have := Qy.flat_get (k := k) (vss := l.map enc) (fun v hv => by obtain ⟨x, _, rfl⟩ := List.mem_map.1 hv; exact hk x) i j (by simpa using hi) hj
  rw [List.getElem_map] at this
  rw [List.flatMap_def]
  exact this
theorem flat_enc (hk : ∀ x, (enc x).length = k) (h0 : 0 < k) (l : List α) : flatK enc k l.toArray = (l.flatMap enc).toArray := by
  apply Array.ext
  · simp only [size_flatK, List.size_toArray, encs_len hk]
  · intro i h1 h2
    rw [size_flatK] at h1
    have hs : l.toArray.size = l.length := by simp
    rw [hs] at h1
    have hi : i / k < l.length := Nat.div_lt_of_lt_mul (by rw [Nat.mul_comm]; exact h1)
    have e1 : (flatK enc k l.toArray)[i]! = (enc l.toArray[i / k]!)[i % k]! := get_flatK enc k l.toArray i (by rw [hs]; exact h1)
    rw [getElem!_pos _ i (by rw [size_flatK, hs]; exact h1)] at e1
    have e2 : l.toArray[i / k]! = l[i / k] := by rw [getElem!_pos _ _ (by simpa using hi)]; simp
    have hm : i % k < k := Nat.mod_lt _ h0
    have g := encs_get hk l (i / k) (i % k) hi hm
    have ei : i / k * k + i % k = i := by rw [Nat.mul_comm]; exact Nat.div_add_mod i k
    rw [ei] at g
    rw [e1, e2]
    have h3 : i < (l.flatMap enc).length := by rw [encs_len hk]; exact h1
    rw [List.getElem?_eq_getElem h3, List.getElem?_eq_getElem (by rw [hk]; exact hm)] at g
    injection g with g
    rw [getElem!_pos _ _ (by rw [hk]; exact hm), ← g]
    simp
theorem holdsE (hk : ∀ x, (enc x).length = k) (h0 : 0 < k) {w : World} {g : Nat} {cur : Array Value} {e : TypeId} {l : List α} (hb : w.heap[g]? = some (.cells cur e (0, 0))) (ht : cur.toList.take (l.length * k) = l.flatMap enc) : HoldsK enc k w g 0 l.toArray := by
  unfold HoldsK
  rw [flat_enc hk h0]
  intro j hj
  have hj' : j < (l.flatMap enc).length := by simpa using hj
  have hj2 : j < l.length * k := by rw [encs_len hk] at hj'; exact hj'
  refine ⟨?_, by simp [World.frozen?, hb]⟩
  have h1 : (cur.toList.take (l.length * k))[j]? = (l.flatMap enc)[j]? := by rw [ht]
  rw [List.getElem?_take_of_lt hj2] at h1
  simp only [World.cell?, hb, Nat.zero_add]
  simp only [Option.isSome_none, Bool.false_eq_true, if_false]
  rw [← Array.getElem?_toList, h1]
  simp [hj', List.getElem?_eq_getElem hj']
theorem heapE {w : World} {g n : Nat} {os : Array Obj} {cur : Array Value} {e : TypeId} {fr : Nat × Nat} (d : Array Value) (hb : w.heap[g]? = some (.cells cur e fr)) :
    (grow (putRow id (Sort.ahead w n) g 0 d) os).heap[g]? = some (.cells (putCells id 0 d cur) e fr) := by
  have hg : g < w.heap.size := (Array.getElem?_eq_some_iff.1 hb).1
  rw [heap_grow_old _ _ (by simpa using hg)]
  simp [putRow, mapBlock, Sort.ahead, Array.getElem?_modify, hb, onCells]
theorem grownE {w : World} {g n : Nat} {os : Array Obj} (d : Array α) : w.grownBy (sortWorldK enc k w g 0 n d os) (some g) := by
  unfold sortWorldK putRowK
  refine ⟨rfl, rfl, rfl, by simp, fun j hj hne => ?_⟩
  rw [heap_grow_old _ _ (by simpa using hj)]
  have : g ≠ j := fun e => hne (by rw [e])
  simp [putRow, mapBlock, Sort.ahead, Array.getElem?_modify, this]
theorem takeE (cur : Array Value) (F : List Value) (h : F.length ≤ cur.size) : (putCells id 0 F.toArray cur).toList.take F.length = F := by
  apply List.ext_getElem?
  intro j
  by_cases hj : j < F.length
  · rw [List.getElem?_take_of_lt hj, Array.getElem?_toList]
    simp [putCells, hj, show j < cur.size by omega]
  · rw [List.getElem?_take_eq_none (by omega), List.getElem?_eq_none (by omega)]
/-- Behind the sort the same slice owns the sorted row. -/
theorem ownE (hk : ∀ x, (enc x).length = k) (h0 : 0 < k) {w : World} {base g cap n : Nat} {e : TypeId} {os : Array Obj} {cur : Array Value} {l m : List α} (hl : m.length = l.length) (hbase : base ≤ g) (hb : w.heap[g]? = some (.cells cur e (0, 0)))
    (h1 : l.length ≤ cap) (h2 : cap ≤ maxLen) (h3 : cur.size = cap * k) :
    (sortWorldK enc k w g 0 n m.toArray os).ownsRow base e k (.slice (some ⟨g, 0, none⟩) m.length cap) m.length (m.flatMap enc) := by
  unfold sortWorldK putRowK
  rw [flat_enc hk h0]
  refine ⟨encs_len hk m, .inr ⟨g, cap, _, rfl, hbase, heapE _ hb, by omega, h2, by simp [putCells, h3], ?_⟩⟩
  rw [← encs_len hk m]
  exact takeE cur (m.flatMap enc) (by rw [encs_len hk, h3]; exact Nat.mul_le_mul_right k (by omega))
end Go.Proofs.Ytioekhiaoajgfaa.Ss
end

section
/- The sort of an event's terms: what it is asked, what it leaves. -/
namespace Go.Proofs.Ytioekhiaoajgfaa.Ev
open Go.RowKit Go.Proofs.Ytioekhiaoajgfaa Go.Proofs.Ytioekhiaoajgfaa.Ut Go.Proofs.Ytioekhiaoajgfaa.Tk Go.Proofs.Ytioekhiaoajgfaa.Ss Go.Sort Go.Shelf Go.Lib
set_option maxRecDepth 20000
set_option linter.unusedVariables false
set_option linter.unusedSimpArgs false

theorem cmp_lt : ∀ a b : List UInt8, Lib.compareBytes a b < 0 ↔ Op.bytesLess a b = true
  | [], [] => by simp [Lib.compareBytes, Op.bytesLess]
  | [], _ :: _ => by simp [Lib.compareBytes, Op.bytesLess]
  | _ :: _, [] => by simp [Lib.compareBytes, Op.bytesLess]
  | a :: xs, b :: ys => by
    have ih := cmp_lt xs ys
    simp only [Lib.compareBytes, Op.bytesLess, Bool.or_eq_true, Bool.and_eq_true, decide_eq_true_eq, beq_iff_eq]
    by_cases c1 : a < b
    · simp [c1]
    · by_cases c2 : b < a
      · have hne : a ≠ b := fun e => by subst e; exact c1 c2
        simp [c1, c2, hne]
      · have e : a = b := UInt8.le_antisymm (UInt8.not_lt.1 c2) (UInt8.not_lt.1 c1)
        subst e
        simp [c1, ih]
/-- A term as it comes: its text, its place, where the row of its place lies. -/
structure El where
  s : ByteArray
  p : Nat
  b : Nat
instance : Inhabited El := ⟨⟨ByteArray.empty, 0, 0⟩⟩
def encE (x : El) : List Value := [.string x.s, .slice (some ⟨x.b, 0, none⟩) 1 1]
def cfE (x y : El) : Int := Lib.compareBytes x.s.data.toList y.s.data.toList
def t1 (x : El) : T1 := (x.s, x.p)
theorem ltOf_E (x y : El) : ltOf cfE x y = ltB x.s y.s := by
  unfold ltOf cfE ltB
  rw [ByteArray.toList_eq, ByteArray.toList_eq]
  have := cmp_lt x.s.data.toList y.s.data.toList
  cases h : Op.bytesLess x.s.data.toList y.s.data.toList
  · rw [h] at this; simp only [Bool.false_eq_true, iff_false] at this; exact decide_eq_false this
  · rw [h] at this; exact decide_eq_true (this.2 rfl)
theorem swoE : SWO (ltOf cfE) where
  irrefl x := by rw [ltOf_E]; exact ltB_irrefl _
  trans x y z h1 h2 := by rw [ltOf_E] at *; exact ltB_trans h1 h2
  ntrans x y z h1 h2 := by
    rw [ltOf_E] at *
    cases h : ltB x.s z.s
    · rfl
    · rcases ltB_total h1 with e | e
      · rw [e] at h; rw [h] at h2; cases h2
      · have := ltB_trans e h
        rw [h2] at this; cases this
theorem perm_whole {l : List El} {d' : Array El} (h : PermIn 0 l.length l.toArray d') : d'.toList.Perm l := by
  obtain ⟨h1, _, h3⟩ := h
  have hs : d'.size = l.length := by simpa using h1
  have e1 : d'.extract 0 l.length = d' := by rw [← hs]; simp
  have e2 : l.toArray.extract 0 l.length = l.toArray := by
    have : l.length = l.toArray.size := by simp
    rw [this, Array.extract_size]
  rw [e1, e2] at h3
  exact h3
/-- The sorted terms, merged, are the terms. -/
theorem sorted_els {l : List El} {d' : Array El} (hP : PermIn 0 l.length l.toArray d') (hs : Srt cfE El.p d' 0 l.length) (ht : l.Pairwise (fun x y => x.p < y.p)) :
    d'.toList.Perm l ∧ (d'.toList.map t1).foldl mrg [] = addAll (l.map t1) := by
  have hp := perm_whole hP
  refine ⟨hp, ?_⟩
  have hz : d'.size = l.length := by have := hP.1; simpa using this
  have hpw : d'.toList.Pairwise (bef cfE El.p) := by
    rw [List.pairwise_iff_getElem]
    intro i j hi hj hij
    have h1 : i < d'.size := by simpa using hi
    have h2 : j < d'.size := by simpa using hj
    have := hs i j (Nat.zero_le _) hij (by omega)
    rw [getElem!_pos d' i h1, getElem!_pos d' j h2] at this
    simpa using this
  refine sorted_terms ?_ (fun s => ?_)
  · rw [List.pairwise_map]
    refine hpw.imp (fun {x y} h => ?_)
    show ltB y.s x.s = false
    rcases h with h | ⟨h, _⟩
    · exact ltB_asymm ((ltOf_E x y).symm.trans (decide_eq_true h))
    · exact (ltOf_E y x).symm.trans (decide_eq_false h)
  · rw [List.filter_map, List.filter_map]
    congr 1
    refine mem_one (r := fun x y : El => x.p < y.p) (fun x => Nat.lt_irrefl _) (fun x y z => Nat.lt_trans) (fun x => ?_) (ht.filter _) ?_
    · simp only [List.mem_filter, hp.mem_iff]
    · have h1 := hpw.filter (fun x : El => decide ((t1 x).1 = s))
      have h2 : (d'.toList.filter (fun x : El => decide ((t1 x).1 = s))).Pairwise (fun x y => bef cfE El.p x y ∧ x.s = s ∧ y.s = s) := by
        refine List.Pairwise.imp_of_mem (fun {x y} hx hy h => ⟨h, ?_, ?_⟩) h1
        · exact of_decide_eq_true (List.mem_filter.1 hx).2
        · exact of_decide_eq_true (List.mem_filter.1 hy).2
      refine h2.imp (fun {x y} h => ?_)
      obtain ⟨h, e1, e2⟩ := h
      rcases h with h | ⟨_, h⟩
      · have : ltB x.s y.s = true := (ltOf_E x y).symm.trans (decide_eq_true h)
        rw [e1, e2, ltB_irrefl] at this; cases this
      · exact h

set_option maxHeartbeats 400000 in
theorem less_terms (x y : El) (w : World) : Calls Try.prog 45 (#[.agg (encE x).toArray, .agg (encE y).toArray] ++ #[]) w fun e w' => e = .returned (.int .i64 (cfE x y)) ∧ ∃ q os, w' = grow (w.drewN q) os := by
  have h := fun w => Try.strings_Compare x.s y.s w
  have Fin : Hid (cfE x y = Lib.compareBytes x.s.data.toList y.s.data.toList) := rfl
  generalize cfE x y = r at *
  simp only [encE, Array.append_empty]
  generalize x.s = xs at *
  generalize y.s = ys at *
  go_enter Try.func45, Try.ntmps45
  go_wp2_with fail
  refine (h _).mono ?_
  rintro e w' ⟨rfl, rfl⟩
  have F := Lib.hid Fin.out
  rw [← F.out]
  clear h Fin
  go_wp2
  go_ret
  exact ⟨rfl, 0, #[.cells #[.string xs, .slice (some ⟨x.b, 0, none⟩) 1 1] 74, .cells #[.string ys, .slice (some ⟨y.b, 0, none⟩) 1 1] 74], by rw [alloc_eq_grow, alloc_eq_grow, grow_grow]; rfl⟩
theorem cmpLaysE (blk off size : Nat) (w : World) : CmpLays Try.prog 45 #[] encE 2 cfE blk off size w := fun m os dk hs x y => less_terms x y _

theorem sortE_any (base g cap : Nat) (l : List El) (cur : Array Value) (w : World) (hb : w.heap[g]? = some (.cells cur 74 (0, 0))) (ht : cur.toList.take (l.length * 2) = l.flatMap encE) (hl : l.length ≤ 1048576)
    (hg : base ≤ g) (h1 : l.length ≤ cap) (h2 : cap ≤ maxLen) (h3 : cur.size = cap * 2) (hp : l.Pairwise (fun x y => x.p < y.p)) :
    Calls Try.prog 44 #[.slice (some ⟨g, 0, none⟩) l.length cap, .func (.func 45) #[] #[]] w fun e w' =>
      e = .returned (.tuple #[]) ∧ ∃ m : List El, m.Perm l ∧ (m.map t1).foldl mrg [] = addAll (l.map t1) ∧ w'.ownsRow base 74 2 (.slice (some ⟨g, 0, none⟩) l.length cap) l.length (m.flatMap encE) ∧ w.grownBy w' (some g) := by
  have hH := holdsE (enc := encE) (k := 2) (fun _ => rfl) (by decide) hb ht
  have hsz : l.toArray.size = l.length := by simp
  have hgl : g < w.heap.size := (Array.getElem?_eq_some_iff.1 hb).1
  have c := sortStable_any (enc := encE) (cf := cfE) (tag := El.p) swoE 2 rfl 45 #[] g 0 cap l.toArray w (enters_of Try.func45 (by kernel_rfl) rfl) (cmpLaysE g 0 _ w)
    ⟨fun _ => rfl, fun x v hv => by simp [encE] at hv; rcases hv with rfl | rfl <;> rfl, hH, hgl⟩ (SWK.start hH) (by rw [hsz]; omega) (fun x y hxy hy => by
      rw [hsz] at hy
      rw [getElem!_pos _ x (by simp; omega), getElem!_pos _ y (by simp; omega)]
      simpa using List.pairwise_iff_getElem.1 hp x y (by omega) hy hxy)
  rw [hsz] at c
  refine c.mono ?_
  rintro e w' ⟨rfl, d', ⟨n, os, rfl⟩, hd, hP, hS⟩
  obtain ⟨q1, q2⟩ := sorted_els hP hS hp
  have hm : d'.toList.length = l.length := q1.length_eq
  have ho := ownE (enc := encE) (k := 2) (fun _ => rfl) (by decide) (base := base) (n := n) (os := os) (l := l) (m := d'.toList) hm hg hb h1 h2 h3
  rw [hm] at ho
  exact ⟨rfl, d'.toList, q1, q2, by simpa using ho, grownE _⟩

set_option maxHeartbeats 400000 in
theorem insertion_nil (w : World) (fv : Value) : Calls Try.prog 65 #[.slice none 0 0, .int .i64 0, .int .i64 0, fv] w fun e w' => e = .returned (.tuple #[]) ∧ w = w' := by
  go_enter Try.func65, Try.ntmps65
  go_wp2
  go_loop [8] (fun i => i = .int .i64 1) (fun _ => 0)
  case atStart => rfl
  case round =>
    subst hrel
    go_wp2
    go_end0
    exact ⟨rfl, rfl⟩
set_option maxHeartbeats 400000 in
theorem stable_nil (w : World) (fv : Value) : Calls Try.prog 54 #[.slice none 0 0, .int .i64 0, fv] w fun e w' => e = .returned (.tuple #[]) ∧ w = w' := by
  go_enter Try.func54, Try.ntmps54
  go_wp2
  go_loop [7, 8] (fun a b => a = .int .i64 0 ∧ b = .int .i64 20) (fun _ _ => 0)
  case atStart => exact ⟨rfl, rfl⟩
  case round =>
    obtain ⟨rfl, rfl⟩ := hrel
    go_wp2_with fail
    refine (insertion_nil _ _).mono ?_
    rintro e w' ⟨rfl, rfl⟩
    go_wp2
    go_loop [6] (fun b => b = .int .i64 20) (fun _ => 0)
    case atStart => rfl
    case round =>
      subst hrel
      go_wp2
      go_end0
      exact ⟨rfl, rfl⟩
set_option maxHeartbeats 400000 in
theorem sortE_nil (w : World) (fv : Value) : Calls Try.prog 44 #[.slice none 0 0, fv] w fun e w' => e = .returned (.tuple #[]) ∧ w = w' := by
  go_enter Try.func44, Try.ntmps44
  go_wp2_with fail
  refine (stable_nil _ _).mono ?_
  rintro e w' ⟨rfl, rfl⟩
  go_wp2
  go_end0
  exact ⟨rfl, rfl⟩
end Go.Proofs.Ytioekhiaoajgfaa.Ev
end
