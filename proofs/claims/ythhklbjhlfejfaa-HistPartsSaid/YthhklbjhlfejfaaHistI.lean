/- slices.Insert of one bucket into a row of the call's own: the walk. -/
import Derived.Test.YthhklbjhlfejfaaHistW
import Derived.Laws.CopyRow
import Derived.Laws.OwnMore
import Derived.Lib.AppendZerosOnto
import Derived.Lib.Overlaps
import Derived.Lib.SlBuf
import Derived.Laws.Externs
import Derived.Deep.RegionLaw
import Derived.Deep.RegionHeld3
namespace Go.Proofs.Ythhklbjhlfejfaa.Hi
open Go.RowKit
set_option maxRecDepth 20000

section
variable {P : Program}
/-- 'copy' into a block that is known whole, elements of sz cells: all is read before anything is written. -/
theorem run_copyK (w : World) (dT sT ty elem : TypeId) (sz m : Nat) (g o dLen dCap : Nat) (a : Addr) (sLen sCap : Nat) (cur : Array Value) (t : TypeId) (cs : List Value)
    (hu : P.underlying dT = some (.slice elem)) (hs : (P.info? elem).map (·.size) = some sz) (hg : w.heap[g]? = some (.cells cur t (0, 0))) (hm : Nat.min sLen dLen = m) (hn : cs.length = m * sz)
    (hsrc : ∀ j v, cs[j]? = some v → w.cell? (a.add j) = some v) (hfit : o + cs.length ≤ cur.size) (h1 : ∀ v ∈ cs, v.oneCell' = true) :
    (Builtin.copy_ #[dT, sT] ty #[.slice (some ⟨g, o, none⟩) dLen dCap, .slice (some a) sLen sCap]).run P w =
      .ok (Go.goInt m) (w.setRow g (cur.toList.take o ++ cs ++ cur.toList.drop (o + cs.length)).toArray) := by
  have hl := run_loadCells_list (P := P) w a cs hsrc
  have hst := run_storeCells_at P g o t cs 0 cur w hg (by simpa using hfit) h1
  cases hq : P.info? elem with
  | none => simp [hq] at hs
  | some i =>
    have hi : i.size = sz := by simpa [hq] using hs
    rw [hn] at hl
    simp [Builtin.copy_, run_underlying hu, Builtin.lenOf, Builtin.firstCells, sizeOf, typeInfo, hq, hi, hm, hl, hst]
theorem step_copyR {ops : Array Oper} {o : Oper} {a : Act} {w : World} {K : Act → World → Prop} {Q : Exit → Act → World → Prop} {E : Prop}
    (hg : o.guard = none) (d x : Operand) (dT sT : TypeId) (hop : o.op = Op.call { callee := Callee.builtin Builtin.copy, args := #[d, x], argTypes := #[dT, sT] })
    (v u : Value) (hd : a.eval d = v) (hx : a.eval x = u) {v' : Value} {w' : World} (hr : (Builtin.copy_ #[dT, sT] o.type #[v, u]).run P w = .ok v' w') (hK : K (a.put o.dst v') w') :
    if Region.wanted o (yielded ops a.tmps) = true then Oper.wp P o a w K Q else E := by
  have hw : Region.wanted o (yielded ops a.tmps) = true := by simp [Region.wanted, hg]
  rw [if_pos hw]
  exact Lib.wp_copy_run w d x dT sT hop v u hd hx hr hK
end

/-- Two copies in a row: what stood from a place on goes behind, two cells go to that place. -/
theorem ins_row (C D X : List Value) (a : Nat) (hX : X.length = 2) (hl : a + 2 + D.length ≤ C.length) :
    ((C.take (a + 2) ++ D ++ C.drop (a + 2 + D.length)).take a ++ X ++ (C.take (a + 2) ++ D ++ C.drop (a + 2 + D.length)).drop (a + X.length)).take (a + 2 + D.length) = C.take a ++ X ++ D := by
  have h1 : (C.take (a + 2)).length = a + 2 := by rw [List.length_take]; omega
  have e1 : (C.take (a + 2) ++ D ++ C.drop (a + 2 + D.length)).take a = C.take a := by
    rw [List.append_assoc, List.take_append_of_le_length (by omega), List.take_take, Nat.min_eq_left (by omega)]
  have e2 : (C.take (a + 2) ++ D ++ C.drop (a + 2 + D.length)).drop (a + X.length) = D ++ C.drop (a + 2 + D.length) := by
    rw [hX, List.append_assoc, List.drop_append_of_le_length (by omega), List.drop_eq_nil_of_le (by omega), List.nil_append]
  have h2 : (C.take a ++ X).length = a + 2 := by rw [List.length_append, List.length_take, hX]; omega
  rw [e1, e2, ← List.append_assoc, List.take_append_of_le_length (by rw [List.length_append, h2]; omega), List.take_of_length_le (by rw [List.length_append, h2]; omega)]

theorem bk_info : (Try.prog.info? 48).map (fun i => (i.zero, i.size, i.bytes)) = some (some (.agg #[.int .i64 0, .int .i64 0]), 2, 16) := by kernel_rfl
theorem bk_size : (Try.prog.info? 48).map (·.size) = some 2 := by kernel_rfl
/-- A row of buckets of the call's own. -/
def OwnB (w : World) (base : Nat) (v : Value) (l : List Bk) : Prop := w.ownsRow base 48 2 v l.length (bkC l)

/-- What Insert leaves. -/
def InsPost (w : World) (base : Nat) (v : Value) (l : List Bk) (e : Ending) (w' : World) : Prop :=
  ∃ v', e = .returned v' ∧ OwnB w' base v' l ∧ w.grownBy w' v.ownBlock
theorem add_lit (b o j : Nat) : (⟨b, o, none⟩ : Addr).add j = ⟨b, o + j, none⟩ := by unfold Addr.add; split <;> simp_all

set_option maxHeartbeats 3200000 in
theorem ins_room (base g cap i vb : Nat) (l : List Bk) (k x : Int) (w : World) (hown : OwnB w base (.slice (some ⟨g, 0, none⟩) l.length cap) l) (hi : i < l.length) (hroom : l.length + 1 ≤ cap) (hl : l.length ≤ 1000000)
    (hv : Blk w vb 48 #[.int .i64 k, .int .i64 x]) (hne : vb ≠ g) :
    Calls Try.prog 36 #[.slice (some ⟨g, 0, none⟩) l.length cap, .int .i64 (i : Int), .slice (some ⟨vb, 0, none⟩) 1 1] w
      (InsPost w base (.slice (some ⟨g, 0, none⟩) l.length cap) (l.take i ++ (k, x) :: l.drop i)) := by
  obtain ⟨cur, hcm, hg, hsz, htk, hbg⟩ : ∃ cur : Array Value, cap ≤ maxLen ∧ w.heap[g]? = some (.cells cur 48 (0, 0)) ∧ cur.size = cap * 2 ∧ cur.toList.take (l.length * 2) = bkC l ∧ base ≤ g := by
    rcases hown.2 with ⟨h, _⟩ | ⟨g', cap', cur, h, hb, hg, hnc, hcm, hcs, ht⟩
    · cases h
    · injection h with h1 h2 h3
      injection h1 with h1
      injection h1 with h1
      subst h1 h3
      exact ⟨cur, hcm, hg, hcs, ht, hb⟩
  unfold maxLen at hcm
  have hshb : w.shape? g = some (48, cap * 2) := by unfold World.shape?; rw [hg]; simp [hsz]
  have hsha : w.shape? vb = some (48, 2) := by unfold World.shape?; unfold Blk at hv; rw [hv]; rfl
  have hov : ∀ lb cb, (callFunc 40 #[.slice (some ⟨vb, 0, none⟩) 1 1, .slice (some ⟨g, (i + 1) * 2, none⟩) lb cb]).run Try.prog w = .ok (.value (.bool false)) w := fun lb cb => by
    rw [run_callFunc_extern Try.func40 (by kernel_rfl) (by kernel_rfl) (by kernel_rfl) (e := Extern.SlicesOverlaps.overlaps #[29, 29] #[4]) (by kernel_rfl),
      Lib.run_overlaps_apart w 29 4 48 Try.underlying29 2 (fun _ => by kernel_rfl) ⟨vb, 0, none⟩ ⟨g, (i + 1) * 2, none⟩ 1 1 lb cb hne _ _ _ _ hsha hshb (by omega) (hv.frozen 0) (hv.frozen 2)]
    rfl
  have hi1 : ((i : Int) == (l.length : Int)) = false := beq_eq_false_iff_ne.2 (by omega)
  have hr1 : (l.length : Int) + 1 ≤ (cap : Int) := by omega
  have hdl : (bkC (l.drop i)).length = (l.length - i) * 2 := by rw [bkC_len, List.length_drop]
  have hcell : ∀ j u, (bkC l)[j]? = some u → w.cell? ⟨g, j, none⟩ = some u := fun j u hj => by
    have := hown.cells (g := g) rfl j u hj
    rw [add_lit, Nat.zero_add] at this
    exact this
  have hcp1 : ∀ ty dc sc dl sl, dl = l.length - i → sl = l.length + 1 - i → (Builtin.copy_ #[29, 29] ty #[.slice (some ⟨g, (i + 1) * 2, none⟩) dl dc, .slice (some ⟨g, i * 2, none⟩) sl sc]).run Try.prog w.drew =
      .ok (Go.goInt (l.length - i : Nat)) (w.drew.setRow g (cur.toList.take (i * 2 + 2) ++ bkC (l.drop i) ++ cur.toList.drop (i * 2 + 2 + (bkC (l.drop i)).length)).toArray) := fun ty dc sc dl sl hdl' hsl' => by
    have e : (i + 1) * 2 = i * 2 + 2 := by omega
    rw [e]
    exact run_copyK w.drew _ _ ty 48 2 (l.length - i) g (i * 2 + 2) _ dc ⟨g, i * 2, none⟩ _ sc cur 48 (bkC (l.drop i)) Try.underlying29 bk_size hg (by simp only [Nat.min_def]; split <;> omega) hdl
      (fun j u hj => by
        rw [add_lit]
        rw [bkC_drop, List.getElem?_drop] at hj
        exact hcell _ _ hj) (by rw [hdl]; omega) (bkC_one _)
  obtain ⟨R1, hR1⟩ : ∃ R1, R1 = cur.toList.take (i * 2 + 2) ++ bkC (l.drop i) ++ cur.toList.drop (i * 2 + 2 + (bkC (l.drop i)).length) := ⟨_, rfl⟩
  have hfit1 : i * 2 + 2 + (bkC (l.drop i)).length ≤ cur.toList.length := by rw [hdl, Array.length_toList (xs := cur), hsz]; omega
  have hins := ins_row cur.toList (bkC (l.drop i)) [Value.int .i64 k, Value.int .i64 x] (i * 2) rfl hfit1
  rw [← hR1] at hcp1 hins
  have hR1l : R1.length = cap * 2 := by
    rw [hR1, List.length_append, List.length_append, List.length_take, List.length_drop, hdl, Array.length_toList]; omega
  have hW : (w.drew.setRow g R1.toArray).heap = (w.setRow g R1.toArray).heap := rfl
  have hcp2 : ∀ ty dc sl, sl = l.length + 1 - i → (Builtin.copy_ #[29, 29] ty #[.slice (some ⟨g, i * 2, none⟩) sl dc, .slice (some ⟨vb, 0, none⟩) 1 1]).run Try.prog (w.drew.setRow g R1.toArray) =
      .ok (Go.goInt (1 : Nat)) ((w.drew.setRow g R1.toArray).setRow g (R1.take (i * 2) ++ [Value.int .i64 k, Value.int .i64 x] ++ R1.drop (i * 2 + 2)).toArray) := fun ty dc sl hsl' => by
    have hWg : (w.drew.setRow g R1.toArray).heap[g]? = some (.cells R1.toArray 48 (0, 0)) := by rw [hW]; exact setRow_heap w g _ _ _ _ hg
    have hWv : (w.drew.setRow g R1.toArray).heap[vb]? = some (.cells #[.int .i64 k, .int .i64 x] 48 (0, 0)) := by rw [hW, setRow_other w g vb _ hne]; exact hv
    have := run_copyK (w.drew.setRow g R1.toArray) 29 29 ty 48 2 1 g (i * 2) sl dc ⟨vb, 0, none⟩ 1 1 R1.toArray 48 [.int .i64 k, .int .i64 x] Try.underlying29 bk_size hWg (by simp only [Nat.min_def]; split <;> omega) rfl
      (fun j u hj => by
        rw [add_lit, Nat.zero_add, cell_of_row (w.drew.setRow g R1.toArray) vb j _ _ _ hWv]
        simpa using hj) (by simp; omega) (by intro u hu; simp at hu; rcases hu with rfl | rfl <;> rfl)
    simpa using this
  have hfin : OwnB ((w.drew.setRow g R1.toArray).setRow g (R1.take (i * 2) ++ [Value.int .i64 k, Value.int .i64 x] ++ R1.drop (i * 2 + 2)).toArray) base (.slice (some ⟨g, 0, none⟩) (l.length + 1) cap) (l.take i ++ (k, x) :: l.drop i) := by
    have hlen : (l.take i ++ (k, x) :: l.drop i).length = l.length + 1 := by simp; omega
    unfold OwnB
    rw [hlen]
    refine ⟨by rw [bkC_len, hlen], .inr ⟨g, cap, _, rfl, hbg, setRow_heap _ g _ _ _ _ (setRow_heap w.drew g _ _ _ _ hg), hroom, by unfold maxLen; omega, ?_, ?_⟩⟩
    · simp; omega
    · rw [hdl] at hins
      have e3 : i * 2 + 2 + (l.length - i) * 2 = (l.length + 1) * 2 := by omega
      rw [e3] at hins
      rw [List.toList_toArray]
      refine hins.trans ?_
      rw [bkC_app, bkC_take, ← htk, List.take_take, Nat.min_eq_left (by omega), List.append_assoc]
      rfl
  have hgr : w.grownBy ((w.drew.setRow g R1.toArray).setRow g (R1.take (i * 2) ++ [Value.int .i64 k, Value.int .i64 x] ++ R1.drop (i * 2 + 2)).toArray) (some g) :=
    ⟨rfl, rfl, rfl, by simp [World.setRow], fun j _ hj => by
      have hj' : j ≠ g := fun e => hj (by rw [e])
      rw [setRow_other _ g j _ hj', setRow_other w.drew g j _ hj']; rfl⟩
  obtain ⟨R2, hR2⟩ : ∃ R2, R2 = R1.take (i * 2) ++ [Value.int .i64 k, Value.int .i64 x] ++ R1.drop (i * 2 + 2) := ⟨_, rfl⟩
  rw [← hR2] at hcp2 hfin hgr
  have Fin := Lib.hid hfin
  have Gr := Lib.hid hgr
  have hw1 : IntKind.i64.wrap ((i : Int) + 1) = (i : Int) + 1 := IntWalk.i64_in _ (by omega)
  have hb1 : (0 : Int) ≤ (i : Int) + 1 := by omega
  have htn : ((i : Int) + 1).toNat = i + 1 := by omega
  have hb2 : ¬ (cap = i + 1) := by omega
  have hb3 : (i : Int) ≤ (l.length : Int) + 1 := by omega
  have hb5 : i ≤ l.length := by omega
  have hb4 : ¬ (cap = i) := by omega
  clear hR2 hins hfin hgr hcell hdl hR1 hR1l hshb hsha
  go_enter Try.func36, Try.ntmps36
  go_wp2_with (simp only [hov])
  go_region_law (refine step_copyR rfl _ _ 29 29 rfl _ _ (by simp [Act.eval, Act.put]) (by simp [Act.eval, Act.put]) (hcp1 _ _ _ _ _ (by omega) (by omega)) ?_)
  go_wp2_with (at_builtin; refine Lib.wpList_copy_run _ rfl _ _ 29 29 rfl _ _ rfl rfl (hcp2 _ _ _ (by omega)) ?_)
  go_ret
  exact ⟨_, rfl, Fin.out, Gr.out⟩
end Go.Proofs.Ythhklbjhlfejfaa.Hi
