/- maps.Keys: the iterator's contract, for a body that writes another map. -/
import Derived.RangeFuncNested
import Derived.RangeFuncBox
import Derived.RangeFuncBound
import Derived.RangeFuncCalls
import Derived.RangeFuncLeaves
import Derived.Shelf.Abstract
import Derived.WalkKit
import Derived.OwnWalkIn
import Derived.TacticsInMore
import Derived.LoopNIn
import Derived.LoopIn
import Derived.Maps.AppendAt
import Derived.Maps.OwnIn
import Derived.Lib.Hide
import Derived.Test.YtjeahdnbpiahaaaGreatPkGroupCountsRow30
import Derived.Test.YtjeahdnbpiahaaaGreatPkGroupCountsRow18
section
namespace Go.Proofs.YtjeahdnbpiahaaaGreat.Gr
open Go.RowKit Go.Proofs.YtjeahdnbpiahaaaGreat Go.Proofs.YtjeahdnbpiahaaaGreat.Ut Go.Proofs.YtjeahdnbpiahaaaGreat.Tk Go.Sort Go.Shelf Go.Lib Go.Maps
attribute [local go_sem] Oper.semAt_some
set_option linter.unusedSimpArgs false
set_option linter.unusedVariables false

/-- All that is a map or walks one stays as it is, but for the map in block M. -/
structure KWB (M : Nat) (W W' : World) : Prop where
  size : W.heap.size ≤ W'.heap.size
  same : ∀ (k : Nat) (o : Obj), k ≠ M → W.heap[k]? = some o → o.isWalk = true → W'.heap[k]? = some o
theorem KWB.refl (M : Nat) (W : World) : KWB M W W := ⟨Nat.le_refl _, fun _ _ _ h _ => h⟩
theorem KWB.trans {M : Nat} {A B C : World} (h : KWB M A B) (k : KWB M B C) : KWB M A C := ⟨Nat.le_trans h.size k.size, fun i o hi ho hw => k.same i o hi (h.same i o hi ho hw) hw⟩
theorem KWB.putObj {M : Nat} (W : World) (l : Nat) (o o' : Obj) (hl : W.heap[l]? = some o) (hw : o.isWalk = false) : KWB M W (W.putObj l o') := by
  refine ⟨by simp, fun k p _ hk hp => ?_⟩
  by_cases e : k = l
  · subst e
    rw [hl] at hk
    injection hk with hk
    subst hk
    rw [hw] at hp
    cases hp
  · exact (World.putObj_heap_other e).trans hk
theorem KWB.below {M B : Nat} {W W' : World} (h : Below W.heap.size W W') : KWB M W W' := ⟨h.size, fun k o _ hk _ => (h.block k (Array.getElem?_eq_some_iff.1 hk).1).trans hk⟩
theorem KWB.grown {M : Nat} {W W' : World} (h : W.grownBy W' (some M)) : KWB M W W' := ⟨h.size, fun k o hM hk _ => (h.block k (Array.getElem?_eq_some_iff.1 hk).1 (fun e => hM (by injection e with e))).trans hk⟩
theorem ranges_kwb {P : Program} {k : TypeId} {R : Value → Option (DataW Unit × List MemPlace)} {w w' : World} {b r n M : Nat} {D : DataW Unit} {left : Lit → Bool} {cnt : Nat}
    (h : w.ranges P k R b r n D left cnt) (hk : KWB M w w') (hb : b ≠ M) (hr : r ≠ M) : w'.ranges P k R b r n D left cnt := by
  obtain ⟨es, clock, since, seen, c0, h1, F, hs, hD, h2, rest⟩ := h
  exact ⟨es, clock, since, seen, c0, hk.same b _ hb h1 rfl, F, hs, hD, hk.same r _ hr h2 rfl, rest⟩

/-- A key that may be. -/
abbrev Ky := { s : ByteArray // s.size ≤ maxLen }
/-- What has come of the keys. -/
structure Came (D0 : DataW Unit) (left : Lit → Bool) (xs : List Ky) : Prop where
  ne : xs.Pairwise (fun x y => x.1 ≠ y.1)
  is : ∀ s : ByteArray, (∃ x ∈ xs, x.1 = s) ↔ (Maps.has D0 (litW s) = true ∧ left (litW s) = false)
theorem Came.start (D0 : DataW Unit) : Came D0 (Maps.has D0) [] := ⟨List.Pairwise.nil, fun s => by cases Maps.has D0 (litW s) <;> simp⟩
theorem Came.step {D0 : DataW Unit} {left : Lit → Bool} {xs : List Ky} (h : Came D0 left xs) (x : Ky) (hl : left (litW x.1) = true) (hh : Maps.has D0 (litW x.1) = true) :
    Came D0 (fun z => left z && !z.sameKey (litW x.1)) (xs ++ [x]) := by
  have hnew : ∀ y ∈ xs, y.1 ≠ x.1 := fun y hy e => by
    have := ((h.is x.1).1 ⟨y, hy, e⟩).2
    rw [hl] at this
    cases this
  refine ⟨List.pairwise_append.2 ⟨h.ne, List.pairwise_singleton _ _, fun y hy z hz => ?_⟩, fun s => ?_⟩
  · rw [List.mem_singleton] at hz
    subst hz
    exact hnew y hy
  · rw [litW_same]
    constructor
    · rintro ⟨y, hy, rfl⟩
      rcases List.mem_append.1 hy with hy | hy
      · obtain ⟨h1, h2⟩ := (h.is y.1).1 ⟨y, hy, rfl⟩
        exact ⟨h1, by rw [h2]; rfl⟩
      · rw [List.mem_singleton] at hy
        subst hy
        exact ⟨hh, by simp⟩
    · rintro ⟨h1, h2⟩
      by_cases e : s = x.1
      · exact ⟨x, by simp, e.symm⟩
      · rw [decide_eq_false e] at h2
        obtain ⟨y, hy, rfl⟩ := (h.is s).2 ⟨h1, by simpa using h2⟩
        exact ⟨y, List.mem_append_left _ hy, rfl⟩

set_option maxHeartbeats 1048576 in
theorem keys_in (n : Nat) (b : Nat) (w : World) :
    CallsIn Fence.wide n Tryz.prog 20 #[.map (some b)] w fun e w' => e = .returned (.func (.func 34) #[] #[.pointer (some ⟨w.heap.size, 0, none⟩)]) ∧ w' = w.alloc (.cells #[.map (some b)] 58) := by
  refine callsIn_of_wp Tryz.func20 rfl trivial ?_ rfl
  simp only [Tryz.ntmps20, List.size_toArray, List.length_cons, List.length_nil, Nat.reduceAdd, Nat.reduceSub, Array.replicate_succ, Array.replicate_zero, List.push_toArray, List.append_toArray, List.nil_append, List.cons_append]
  gi_wp2
  go_ret
  exact ⟨rfl, rfl⟩
set_option maxRecDepth 100000 in
set_option maxHeartbeats 4000000 in
theorem keys1_in (m : Nat) (hn : 1 ≤ m) (l Bm b nn M : Nat) (D0 : DataW Unit) (J Jx : List Ky → World → Prop)
    (hY : ∀ pre x W, J pre W → pre.length < Maps.size D0 → YieldAt Fence.wide (m - 1) Tryz.prog l #[.string x.1] W fun e W' =>
      (e = .returned (.bool true) ∧ J (pre ++ [x]) W' ∧ KWB M W W') ∨ (e = .returned (.bool false) ∧ Jx (pre ++ [x]) W'))
    (W : World) (hJ : AbidesFrom W.heap.size J) (hm : W.cell? ⟨Bm, 0, none⟩ = some (.map (some b))) (hown : W.ownsMap Tryz.prog 9 (unitElem (H := Unit)) b nn D0) (hM : M < W.heap.size) (hbM : b ≠ M) (h0 : J [] W) :
    CallsIn Fence.wide m Tryz.prog 34 #[.func (.yield l) #[] #[], .pointer (some ⟨Bm, 0, none⟩)] W fun e W' => (∃ v, e = .returned v) ∧
      ((∃ xs, (Came D0 (fun _ => false) xs ∧ xs.length ≤ Maps.size D0) ∧ J xs W') ∨ (∃ pre : List Ky, True ∧ Jx pre W')) := by
  have HY := Lib.hid hY
  have HJ := Lib.hid hJ
  clear hY hJ
  refine callsIn_of_wp Tryz.func34 rfl trivial ?_ rfl
  simp only [Tryz.ntmps34, List.size_toArray, List.length_cons, List.length_nil, Nat.reduceAdd, Nat.reduceSub, Array.replicate_succ, Array.replicate_zero, List.push_toArray, List.append_toArray, List.nil_append, List.cons_append]
  gi_wp2_with (first
    | (gi_at_range; refine wpListIn_range_own _ rfl _ 58 rfl 9 62 lawS Tryz.underlying58 _ b nn _ rfl hown ?_; intro w0 hrg0 hg0 hs0)
    | gi_in)
  go_frame
  gi_loopw [3] (fun _ wr => ∃ (left : Lit → Bool) (cnt : Nat) (xs : List Ky), wr.ranges Tryz.prog 9 (unitElem (H := Unit)) b W.heap.size nn D0 left cnt ∧ xs.length + cnt ≤ Maps.size D0 ∧ Came D0 left xs ∧ (∀ kl, left kl = true → Maps.has D0 kl = true) ∧ J xs wr)
    (fun _ wr => wr.rangeLeft b W.heap.size)
  case atStart => exact ⟨_, _, [], hrg0, by simp, Came.start D0, fun _ h => h, HJ.out [] W w0 none h0 hg0 (fun r e => by cases e)⟩
  case round =>
    obtain ⟨left, cnt, xs, hrg, hcs, hC, hlf, hJs⟩ := hrel
    gi_wp2_with (first
      | (gi_at_next; refine wpListIn_next_ranges _ rfl _ rfl 9 lawS (unitElem (H := Unit)) Value.string (fun _ : Unit => .agg #[]) (fun key kl hkey => by obtain ⟨x, rfl, _⟩ := keyW_inv hkey; exact ⟨x, rfl⟩) (fun v y hv => ⟨(), (unitElem_inv hv).1⟩) b W.heap.size nn _ _ _ rfl hrg ?_ ?_)
      | gi_in)
    · intro hc0 hl0
      gi_wp2
      go_end0
      have hl : left = fun _ => false := funext hl0
      exact ⟨⟨_, rfl⟩, .inl ⟨xs, ⟨hl ▸ hC, by omega⟩, hJs⟩⟩
    · intro x kl yd yp w2 cnt2 hkey hlk hv hat hrg2 hlt hg2 hs2 hen
      obtain ⟨x', ex, rfl, hxs⟩ := keyW_inv hkey
      injection ex with ex
      subst ex
      have hJ2 : J xs w2 := HJ.out xs wr w2 (some W.heap.size) hJs hg2 (fun r e => by cases e; exact ⟨Nat.le_refl _, hrg.iter_walk⟩)
      obtain ⟨fn, tmps, assign, body, hy, hR⟩ := HY.out xs ⟨x, hxs⟩ w2 hJ2 (by omega)
      have hC2 := hC.step ⟨x, hxs⟩ hlk (hlf _ hlk)
      clear hs2 HY HJ
      gi_wp2
      refine hR.mono ?_
      rintro e W3 (⟨rfl, hJ3, hk3⟩ | ⟨rfl, hJx3⟩)
      · gi_wp2
        have hrg3 := ranges_kwb hrg2 hk3 hbM (by omega)
        go_roundw
        case rel => exact ⟨_, cnt2, xs ++ [⟨x, hxs⟩], hrg3, by simp; omega, hC2, fun kl hk => hlf kl (by rw [Bool.and_eq_true] at hk; exact hk.1), hJ3⟩
        case measure => rw [hrg3.left_eq, hrg.left_eq]; exact hlt
      · gi_wp2
        refine bodyPost_ret (results_none rfl _ _ _) rfl ?_
        exact ⟨⟨_, rfl⟩, .inr ⟨xs ++ [⟨x, hxs⟩], trivial, hJx3⟩⟩
theorem keys_stops (m : Nat) (hn : 1 ≤ m) (Bm b nn M : Nat) (D0 : DataW Unit) (w : World) (hBm : Bm < w.heap.size) (hM : M < w.heap.size) (hbM : b ≠ M)
    (hm : w.cell? ⟨Bm, 0, none⟩ = some (.map (some b))) (hown : w.ownsMap Tryz.prog 9 (unitElem (H := Unit)) b nn D0) :
    SeqStopsK Fence.wide m Tryz.prog 34 #[.pointer (some ⟨Bm, 0, none⟩)] (fun x : Ky => #[.string x.1]) (KWB M) (fun xs => Came D0 (fun _ => false) xs ∧ xs.length ≤ Maps.size D0) (fun _ => True) (Maps.size D0) w := fun l J Jx W hW hJ _ hY h0 => by
  have hown' : W.ownsMap Tryz.prog 9 (unitElem (H := Unit)) b nn D0 := by
    have hbl := hown.lt
    obtain ⟨es, clock, hb, Ft, hs, hD⟩ := hown
    exact ⟨es, clock, (hW.block b hbl).trans hb, Ft, hs, hD⟩
  exact keys1_in m hn l Bm b nn M D0 J Jx hY W hJ ((hW.cell (p := ⟨Bm, 0, none⟩) hBm).trans hm) hown' (by have := hW.size; omega) hbM h0
end Go.Proofs.YtjeahdnbpiahaaaGreat.Gr
end

section
/- Words of docs' fields, counted: plain. And the marks that loops over an iterator leave. -/
namespace Go.Proofs.YtjeahdnbpiahaaaGreat.Gr
open Go.RowKit Go.Proofs.YtjeahdnbpiahaaaGreat Go.Proofs.YtjeahdnbpiahaaaGreat.Ut Go.Proofs.YtjeahdnbpiahaaaGreat.Tk Go.Proofs.YtjeahdnbpiahaaaGreat.Qy Go.Sort Go.Shelf Go.Lib Go.Maps
set_option linter.unusedSimpArgs false
set_option linter.unusedVariables false

/-- The words of a field, of all that bear the name. -/
def wdsF (name : ByteArray) (fs : List (ByteArray × ByteArray)) : List ByteArray := fs.flatMap fun f => if f.1 = name then (words f.2.data.toList).map str else []
def inL (l : List ByteArray) (s : ByteArray) : Bool := l.any fun x => decide (x = s)
/-- In how many docs. -/
def cntN (name : ByteArray) (ds : List Dc) (s : ByteArray) : Nat := ds.countP fun d => inL (wdsF name d.fs) s
def tabOf (g : ByteArray → Nat) : Tb := fun s => if g s = 0 then none else some (g s : Int)
theorem tabOf_zero {g : ByteArray → Nat} (h : ∀ s, g s = 0) : tabOf g = noT := by
  funext s
  unfold tabOf noT
  rw [if_pos (h s)]
theorem tabOf_get (g : ByteArray → Nat) (s : ByteArray) : (tabOf g s).getD 0 = (g s : Int) := by
  unfold tabOf
  split
  · rename_i h; rw [h]; rfl
  · rfl
theorem tabOf_put (g : ByteArray → Nat) (s : ByteArray) : putT (tabOf g) s ((g s : Int) + 1) = tabOf (fun t => g t + if t = s then 1 else 0) := by
  funext t
  unfold putT tabOf
  by_cases e : t = s
  · subst e
    simp
  · simp [e]
theorem tabOf_congr {g g' : ByteArray → Nat} (h : ∀ s, g s = g' s) : tabOf g = tabOf g' := by
  have : g = g' := funext h
  rw [this]
theorem wdsF_snoc (name : ByteArray) (fs : List (ByteArray × ByteArray)) (k : Nat) (h : k < fs.length) : wdsF name (fs.take (k + 1)) = wdsF name (fs.take k) ++ (if fs[k].1 = name then (words fs[k].2.data.toList).map str else []) := by
  unfold wdsF
  rw [List.take_succ_eq_append_getElem h, List.flatMap_append]
  simp
theorem wdsF_le (name : ByteArray) (fs : List (ByteArray × ByteArray)) (k : Nat) : (wdsF name (fs.take k)).length ≤ (wdsF name fs).length := by
  conv => rhs; rw [← List.take_append_drop k fs]
  unfold wdsF
  rw [List.flatMap_append, List.length_append]
  omega
theorem cntN_snoc (name : ByteArray) (ds : List Dc) (k : Nat) (h : k < ds.length) (s : ByteArray) : cntN name (ds.take (k + 1)) s = cntN name (ds.take k) s + if inL (wdsF name ds[k].fs) s then 1 else 0 := by
  unfold cntN
  rw [List.take_succ_eq_append_getElem h, List.countP_append]
  simp
theorem cntN_le (name : ByteArray) (ds : List Dc) (s : ByteArray) : cntN name ds s ≤ ds.length := List.countP_le_length
/-- All words, counted with repeats. -/
def totW (name : ByteArray) (ds : List Dc) : Nat := (ds.map fun d => (wdsF name d.fs).length).sum
theorem totW_snoc (name : ByteArray) (ds : List Dc) (k : Nat) (h : k < ds.length) : totW name (ds.take (k + 1)) = totW name (ds.take k) + (wdsF name ds[k].fs).length := by
  unfold totW
  rw [List.take_succ_eq_append_getElem h, List.map_append, List.sum_append]
  simp
theorem totW_le (name : ByteArray) (ds : List Dc) (k : Nat) : totW name (ds.take k) ≤ totW name ds := by
  have h : totW name (ds.take k ++ ds.drop k) = totW name (ds.take k) + totW name (ds.drop k) := by
    unfold totW
    rw [List.map_append, List.sum_append]
  rw [List.take_append_drop] at h
  omega
/-- The map in memory holds just these words. -/
structure SetD (E : DataW Unit) (l : List ByteArray) : Prop where
  has : ∀ s, Maps.has E (litW s) = inL l s
theorem SetD.none : SetD (.map []) [] := ⟨fun s => rfl⟩
theorem SetD.put {E : DataW Unit} {l : List ByteArray} (h : SetD E l) (hm : IsMap E) (s : ByteArray) (d : DataW Unit) : SetD (E.put (litW s) d) (l ++ [s]) := by
  refine ⟨fun t => ?_⟩
  unfold inL
  rw [List.any_append]
  by_cases e : t = s
  · subst e
    rw [has_put_same hm (litW_key t)]
    simp
  · rw [has_put_other (fun e' => e (litW_inj e')), h.has]
    unfold inL
    have : decide (s = t) = false := decide_eq_false (fun h => e h.symm)
    simp [this]
theorem count_ne : ∀ {xs : List Ky}, xs.Pairwise (fun x y => x.1 ≠ y.1) → ∀ s : ByteArray, xs.countP (fun x => decide (x.1 = s)) = if xs.any (fun x => decide (x.1 = s)) then 1 else 0
  | [], _, s => rfl
  | x :: xs, h, s => by
    obtain ⟨h1, h2⟩ := List.pairwise_cons.1 h
    have ih := count_ne h2 s
    rw [List.countP_cons, List.any_cons, ih]
    by_cases e : x.1 = s
    · have hno : xs.any (fun x => decide (x.1 = s)) = false := by
        rw [List.any_eq_false]
        intro y hy ey
        exact h1 y hy (e.trans (of_decide_eq_true ey).symm)
      rw [hno, decide_eq_true e]
      rfl
    · rw [decide_eq_false e, Bool.false_or]
      rfl
theorem came_count {E : DataW Unit} {l : List ByteArray} {xs : List Ky} (h : Came E (fun _ => false) xs) (hE : SetD E l) (s : ByteArray) : xs.countP (fun x => decide (x.1 = s)) = if inL l s then 1 else 0 := by
  rw [count_ne h.ne]
  have := h.is s
  rw [hE.has] at this
  have e : xs.any (fun x => decide (x.1 = s)) = inL l s := by
    rw [Bool.eq_iff_iff, List.any_eq_true]
    constructor
    · rintro ⟨x, hx, ex⟩
      exact (this.1 ⟨x, hx, of_decide_eq_true ex⟩).1
    · intro hl
      obtain ⟨x, hx, ex⟩ := this.2 ⟨hl, rfl⟩
      exact ⟨x, hx, decide_eq_true ex⟩
  rw [e]

/-- The mark of a loop over an iterator. -/
def mkD (D : Nat) : Deferred := { target := .collected D, args := #[] }
def MarksOk (B : Nat) (w : World) (ds : List Deferred) : Prop := ∃ Bs : List Nat, ds = Bs.map mkD ∧ Bs.Nodup ∧ ∀ D ∈ Bs, B ≤ D ∧ w.heap[D]? = some (.deferred (some []))
theorem MarksOk.nil (B : Nat) (w : World) : MarksOk B w [] := ⟨[], rfl, List.nodup_nil, fun D h => (nomatch h)⟩
theorem MarksOk.kept {B : Nat} {w w' : World} {ds : List Deferred} {row : Option Nat} (h : MarksOk B w ds) (hg : w.grownBy w' row) (hr : ∀ r p, row = some r → w.heap[r]? ≠ some (.deferred p)) : MarksOk B w' ds := by
  obtain ⟨Bs, e, hn, hB⟩ := h
  refine ⟨Bs, e, hn, fun D hD => ?_⟩
  obtain ⟨h1, h2⟩ := hB D hD
  exact ⟨h1, (hg.block D (Array.getElem?_eq_some_iff.1 h2).1 (fun e => hr D _ e.symm h2)).trans h2⟩
theorem MarksOk.below {B : Nat} {w w' : World} {ds : List Deferred} (h : MarksOk B w ds) (hb : Below w.heap.size w w') : MarksOk B w' ds := h.kept (grow_of_below hb none) (fun r p e => by cases e)
theorem MarksOk.push {B D : Nat} {w0 w : World} {ds : List Deferred} (h0 : MarksOk B w0 ds) (h : MarksOk B w ds) (hD : w0.heap.size ≤ D) (hB : B ≤ D) (hK : w.heap[D]? = some (.deferred (some []))) : MarksOk B w ({ target := .collected D, args := #[] } :: ds) := by
  obtain ⟨Bs, e, hn, hb⟩ := h
  obtain ⟨Bs0, e0, hn0, hb0⟩ := h0
  have hinj : ∀ {a b : List Nat}, a.map mkD = b.map mkD → a = b := fun {a b} hab => by
    have := congrArg (List.map fun d : Deferred => match d.target with | .collected D => D | _ => 0) hab
    simpa [mkD, Function.comp_def] using this
  have : Bs = Bs0 := hinj (by rw [← e, ← e0])
  subst this
  refine ⟨D :: Bs, by rw [e]; rfl, List.nodup_cons.2 ⟨fun hm => ?_, hn⟩, fun x hx => ?_⟩
  · have := (Array.getElem?_eq_some_iff.1 (hb0 D hm).2).1
    omega
  · rcases List.mem_cons.1 hx with rfl | hx
    · exact ⟨hB, hK⟩
    · exact hb x hx
/-- Marks are taken up: nothing else turns. -/
structure Turned (B : Nat) (w w' : World) : Prop where
  bel : Below B w w'
  same : ∀ (k : Nat) (o : Obj), w.heap[k]? = some o → (∀ p, o ≠ Obj.deferred p) → w'.heap[k]? = some o
theorem Turned.refl (B : Nat) (w : World) : Turned B w w := ⟨Below.refl _ _, fun _ _ h _ => h⟩
theorem Turned.own {B base n : Nat} {w w' : World} {e : TypeId} {v : Value} {xs : List Value} (h : Turned B w w') (ho : w.ownsRow base e 2 v n xs) : w'.ownsRow base e 2 v n xs := by
  obtain ⟨h1, h2 | ⟨g, cap, cur, q1, q2, q3, q4⟩⟩ := ho
  · exact ⟨h1, .inl h2⟩
  · exact ⟨h1, .inr ⟨g, cap, cur, q1, q2, h.same g _ q3 (fun p => by simp), q4⟩⟩
theorem leaves_marks {F : Fence} {n B : Nat} {P : Program} {fn : Func} {tmps : Array Value} {R : Ending → World → Prop} : ∀ (ds : List Deferred) (w : World), MarksOk B w ds → (∀ w', Turned B w w' → LeavesInM F n P fn tmps R [] .returning w') → LeavesInM F n P fn tmps R ds .returning w := by
  intro ds
  induction ds with
  | nil => exact fun w _ h => h w (Turned.refl _ _)
  | cons d ds ih =>
    rintro w ⟨Bs, e, hn, hb⟩ h
    cases Bs with
    | nil => cases e
    | cons D Bs =>
      rw [List.map_cons] at e
      injection e with e1 e2
      obtain ⟨hD, hK⟩ := hb D (List.mem_cons_self ..)
      obtain ⟨n1, n2⟩ := List.nodup_cons.1 hn
      subst e1
      refine ⟨by simp, .inl ⟨D, _, rfl, run_takeDeferred hK, ih _ ⟨Bs, e2, n2, fun x hx => ?_⟩ (fun w' ht => h w' ?_)⟩⟩
      · obtain ⟨a, b⟩ := hb x (List.mem_cons_of_mem _ hx)
        exact ⟨a, (World.putObj_heap_other (fun e => n1 (by rw [← e]; exact hx))).trans b⟩
      · have hbel : Below B w (w.putObj D (.deferred none)) := ⟨rfl, rfl, rfl, by simp, fun k hk => World.putObj_heap_other (by omega)⟩
        refine ⟨hbel.trans ht.bel, fun k o hk ho => ht.same k o ?_ ho⟩
        refine (World.putObj_heap_other (fun e => ?_)).trans hk
        rw [e, hK] at hk
        injection hk with hk
        exact ho _ hk.symm
end Go.Proofs.YtjeahdnbpiahaaaGreat.Gr
end
