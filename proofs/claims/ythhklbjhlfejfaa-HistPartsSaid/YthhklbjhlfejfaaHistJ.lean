/- slices.Insert of one bucket: the road without room, the road at the end, all roads. -/
import Derived.Test.YthhklbjhlfejfaaHistI
import Derived.Lib.AppendZerosOnto
import Derived.Laws.NewBlocks
namespace Go.Proofs.Ythhklbjhlfejfaa.Hi
open Go.RowKit
set_option maxRecDepth 20000
theorem ins_newrow (A X D Z : List Value) (a : Nat) (ha : A.length = a) (hX : X.length = 2) :
    (((A ++ Z).take a ++ X ++ (A ++ Z).drop (a + 2)).take (a + 2) ++ D ++ ((A ++ Z).take a ++ X ++ (A ++ Z).drop (a + 2)).drop (a + 2 + D.length)).take (a + 2 + D.length) = A ++ X ++ D := by
  subst ha
  have e1 : (A ++ Z).take A.length = A := by rw [List.take_append_of_le_length (Nat.le_refl _), List.take_of_length_le (Nat.le_refl _)]
  have h2 : (A ++ X).length = A.length + 2 := by rw [List.length_append, hX]
  rw [e1]
  have e3 : (A ++ X ++ (A ++ Z).drop (A.length + 2)).take (A.length + 2) = A ++ X := by
    rw [List.take_append_of_le_length (by omega), List.take_of_length_le (by omega)]
  rw [e3, List.take_append_of_le_length (by rw [List.length_append, h2]; omega), List.take_of_length_le (by rw [List.length_append, h2]; omega)]
theorem setRow_size (w : World) (g : Nat) (c : Array Value) : (w.setRow g c).heap.size = w.heap.size := by simp [World.setRow]
theorem alloc_new (w : World) (o : Obj) (N : Nat) (hN : N = w.heap.size) : (w.alloc o).heap[N]? = some o := by subst hN; show (w.heap.push o)[w.heap.size]? = some o; simp
theorem alloc_old (w : World) (o : Obj) (k : Nat) (hk : k < w.heap.size) : (w.alloc o).heap[k]? = w.heap[k]? := by show (w.heap.push o)[k]? = _; simp [Array.getElem?_push, Nat.ne_of_lt hk]

set_option maxHeartbeats 3200000 in
theorem ins_grow (base g cap i vb : Nat) (l : List Bk) (k x : Int) (w : World) (hown : OwnB w base (.slice (some ⟨g, 0, none⟩) l.length cap) l) (hi : i < l.length) (hroom : cap < l.length + 1) (hl : l.length ≤ 1000000)
    (hv : Blk w vb 48 #[.int .i64 k, .int .i64 x]) (hbase : base ≤ w.heap.size) :
    Calls Try.prog 36 #[.slice (some ⟨g, 0, none⟩) l.length cap, .int .i64 (i : Int), .slice (some ⟨vb, 0, none⟩) 1 1] w
      (InsPost w base (.slice (some ⟨g, 0, none⟩) l.length cap) (l.take i ++ (k, x) :: l.drop i)) := by
  obtain ⟨cur, hcm, hnc, hg, hsz, htk, hbg⟩ : ∃ cur : Array Value, cap ≤ maxLen ∧ l.length ≤ cap ∧ w.heap[g]? = some (.cells cur 48 (0, 0)) ∧ cur.size = cap * 2 ∧ cur.toList.take (l.length * 2) = bkC l ∧ base ≤ g := by
    rcases hown.2 with ⟨h, _⟩ | ⟨g', cap', cur, h, hb, hg, hnc, hcm, hcs, ht⟩
    · cases h
    · injection h with h1 h2 h3
      injection h1 with h1
      injection h1 with h1
      subst h1 h3
      exact ⟨cur, hcm, hnc, hg, hcs, ht, hb⟩
  obtain rfl : cap = l.length := by omega
  have hgl : g < w.heap.size := (Array.getElem?_eq_some_iff.1 hg).1
  have hvl : vb < w.heap.size := hv.lt
  have hi1 : ((i : Int) == (l.length : Int)) = false := beq_eq_false_iff_ne.2 (by omega)
  have hr1 : ((l.length : Nat) : Int) < (l.length : Int) + 1 := by omega
  have hdl : (bkC (l.drop i)).length = (l.length - i) * 2 := by rw [bkC_len, List.length_drop]
  have hal : (bkC (l.take i)).length = i * 2 := by rw [bkC_len, List.length_take]; omega
  have hcell : ∀ j u, (bkC l)[j]? = some u → w.cell? ⟨g, j, none⟩ = some u := fun j u hj => by
    have := hown.cells (g := g) rfl j u hj
    rw [add_lit, Nat.zero_add] at this
    exact this
  obtain ⟨inf, hi0, hz0, hzs, hzb⟩ := info_parts bk_info
  have hold : (Builtin.firstCells inf.size i (.slice (some ⟨g, 0, none⟩) i l.length)).run Try.prog w.drew = .ok (bkC (l.take i)).toArray w.drew := by
    rw [hzs]
    exact run_firstCells_some w.drew 2 i ⟨g, 0, none⟩ i l.length (bkC (l.take i)) hal (fun j v hj => by
      rw [add_lit, Nat.zero_add]
      rw [bkC_take, List.getElem?_take] at hj
      split at hj
      · exact hcell j v hj
      · cases hj)
  obtain ⟨G, hG⟩ : ∃ G, G = grownCap w (l.length + 1) l.length 48 := ⟨_, rfl⟩
  have hGn : l.length + 1 ≤ G := by rw [hG]; exact grownCap_ge w _ _ _
  have hG63 : G ≤ maxLen := by rw [hG]; exact grownCap_le_maxLen w _ _ _ (by unfold maxLen; omega)
  have hG63' : G ≤ 9223372036854775807 := by unfold maxLen at hG63; omega
  obtain ⟨ZZ, hZZ⟩ : ∃ ZZ, ZZ = Builtin.zeroCells (Value.agg #[.int .i64 0, .int .i64 0]).cells (l.length + 1 - i) ++ Builtin.zeroCells (Value.agg #[.int .i64 0, .int .i64 0]).cells (G - (l.length + 1)) := ⟨_, rfl⟩
  have hZl : ZZ.toList.length = (G - i) * 2 := by
    rw [hZZ, Array.length_toList]
    simp [Builtin.zeroCells, Value.cells]
    omega
  have hrz : ∀ ty, (Builtin.append_ #[29, 3] ty #[.slice (some ⟨g, 0, none⟩) i l.length, .int .i64 ((l.length : Int) + 1 - (i : Int))]).run Try.prog w =
      .ok (.slice (some ⟨w.heap.size, 0, none⟩) (l.length + 1) G) (w.drew.alloc (.cells (bkC (l.take i) ++ ZZ.toList).toArray 48)) := fun ty => by
    have h := Lib.run_append_grow_zeros w 29 3 ty 48 inf _ .i64 .i64 Try.underlying29 Try.underlying3 hi0 hz0 (some ⟨g, 0, none⟩) i l.length (bkC (l.take i)) hold (l.length + 1 - i) (by omega) (by omega) (by omega) (by omega) (by rw [hzb]; omega) (by rw [hzb]; exact growslice_fits (by omega) (by omega))
    have e : i + (l.length + 1 - i) = l.length + 1 := by omega
    have e2 : (l.length : Int) + 1 - (i : Int) = ((l.length + 1 - i : Nat) : Int) := by omega
    rw [e, ← hG] at h
    rw [e2, h, hZZ]
    congr 3
    simp
  obtain ⟨ROW, hROW⟩ : ∃ ROW, ROW = bkC (l.take i) ++ ZZ.toList := ⟨_, rfl⟩
  rw [← hROW] at hrz
  have hRl : ROW.length = G * 2 := by rw [hROW, List.length_append, hal, hZl]; omega
  obtain ⟨N, hN⟩ : ∃ N, N = w.heap.size := ⟨_, rfl⟩
  rw [← hN] at hrz
  have hgN : g ≠ N := by omega
  have hvN : vb ≠ N := by omega
  obtain ⟨W1, hW1⟩ : ∃ W1, W1 = (w.alloc (.cells ROW.toArray 48)).drew := ⟨_, rfl⟩
  have h1N : W1.heap[N]? = some (.cells ROW.toArray 48 (0, 0)) := by rw [hW1]; exact alloc_new w _ N hN
  have h1o : ∀ j, j < w.heap.size → W1.heap[j]? = w.heap[j]? := fun j hj => by rw [hW1]; exact alloc_old w _ j hj
  obtain ⟨R1, hR1⟩ : ∃ R1, R1 = ROW.take (i * 2) ++ [Value.int .i64 k, Value.int .i64 x] ++ ROW.drop (i * 2 + 2) := ⟨_, rfl⟩
  have hR1l : R1.length = G * 2 := by
    rw [hR1, List.length_append, List.length_append, List.length_take, List.length_drop, hRl]
    simp; omega
  have hcpA : ∀ ty dc sl, sl = l.length + 1 - i → (Builtin.copy_ #[29, 29] ty #[.slice (some ⟨N, i * 2, none⟩) sl dc, .slice (some ⟨vb, 0, none⟩) 1 1]).run Try.prog W1 =
      .ok (Go.goInt (1 : Nat)) (W1.setRow N R1.toArray) := fun ty dc sl hsl' => by
    have h1v : W1.heap[vb]? = some (.cells #[.int .i64 k, .int .i64 x] 48 (0, 0)) := (h1o vb hvl).trans hv
    have := run_copyK W1 29 29 ty 48 2 1 N (i * 2) sl dc ⟨vb, 0, none⟩ 1 1 ROW.toArray 48 [.int .i64 k, .int .i64 x] Try.underlying29 bk_size h1N (by simp only [Nat.min_def]; split <;> omega) rfl
      (fun j u hj => by
        rw [add_lit, Nat.zero_add, cell_of_row W1 vb j _ _ _ h1v]
        simpa using hj) (by simp; omega) (by intro u hu; simp at hu; rcases hu with rfl | rfl <;> rfl)
    rw [hR1]
    simpa using this
  have h2N : (W1.setRow N R1.toArray).drew.heap[N]? = some (.cells R1.toArray 48 (0, 0)) := setRow_heap W1 N _ _ _ _ h1N
  have h2o : ∀ j, j < w.heap.size → (W1.setRow N R1.toArray).drew.heap[j]? = w.heap[j]? := fun j hj => (setRow_other W1 N j _ (by omega)).trans (h1o j hj)
  obtain ⟨R2, hR2⟩ : ∃ R2, R2 = R1.take (i * 2 + 2) ++ bkC (l.drop i) ++ R1.drop (i * 2 + 2 + (bkC (l.drop i)).length) := ⟨_, rfl⟩
  have hR2l : R2.length = G * 2 := by
    rw [hR2, List.length_append, List.length_append, List.length_take, List.length_drop, hR1l, hdl]
    omega
  have hcpB : ∀ ty dc sc dl sl, dl = l.length - i → sl = l.length - i → (Builtin.copy_ #[29, 29] ty #[.slice (some ⟨N, (i + 1) * 2, none⟩) dl dc, .slice (some ⟨g, i * 2, none⟩) sl sc]).run Try.prog (W1.setRow N R1.toArray).drew =
      .ok (Go.goInt (l.length - i : Nat)) ((W1.setRow N R1.toArray).drew.setRow N R2.toArray) := fun ty dc sc dl sl hdl' hsl' => by
    have e : (i + 1) * 2 = i * 2 + 2 := by omega
    rw [e]
    have := run_copyK (W1.setRow N R1.toArray).drew 29 29 ty 48 2 (l.length - i) N (i * 2 + 2) dl dc ⟨g, i * 2, none⟩ sl sc R1.toArray 48 (bkC (l.drop i)) Try.underlying29 bk_size h2N (by simp only [Nat.min_def]; split <;> omega) hdl
      (fun j u hj => by
        rw [add_lit]
        rw [bkC_drop, List.getElem?_drop] at hj
        exact (World.cell?_of_block (h2o g hgl)).trans (hcell _ _ hj)) (by rw [hdl, List.size_toArray]; omega) (bkC_one _)
    rw [hR2]
    exact this
  have hfin : OwnB ((W1.setRow N R1.toArray).drew.setRow N R2.toArray) base (.slice (some ⟨N, 0, none⟩) (l.length + 1) G) (l.take i ++ (k, x) :: l.drop i) := by
    have hlen : (l.take i ++ (k, x) :: l.drop i).length = l.length + 1 := by simp; omega
    unfold OwnB
    rw [hlen]
    refine ⟨by rw [bkC_len, hlen], .inr ⟨N, G, _, rfl, by omega, setRow_heap _ N _ _ _ _ h2N, hGn, hG63, ?_, ?_⟩⟩
    · rw [List.size_toArray, hR2l]
    · have hins := ins_newrow (bkC (l.take i)) [Value.int .i64 k, Value.int .i64 x] (bkC (l.drop i)) ZZ.toList (i * 2) hal rfl
      rw [← hROW, ← hR1, ← hR2, hdl] at hins
      have e3 : i * 2 + 2 + (l.length - i) * 2 = (l.length + 1) * 2 := by omega
      rw [e3] at hins
      rw [List.toList_toArray]
      refine hins.trans ?_
      rw [bkC_app, List.append_assoc]
      rfl
  have hgr : w.grownBy ((W1.setRow N R1.toArray).drew.setRow N R2.toArray) (some g) :=
    ⟨by rw [hW1]; rfl, by rw [hW1]; rfl, by rw [hW1]; rfl, by rw [setRow_size]; show _ ≤ (W1.setRow N R1.toArray).heap.size; rw [setRow_size, hW1]; show _ ≤ (w.heap.push _).size; rw [Array.size_push]; omega, fun j hjl hj => by
      rw [setRow_other _ N j _ (by omega)]; exact h2o j hjl⟩
  have Fin := Lib.hid hfin
  have Gr := Lib.hid hgr
  have hw1 : IntKind.i64.wrap ((i : Int) + 1) = (i : Int) + 1 := IntWalk.i64_in _ (by omega)
  have hb1 : (0 : Int) ≤ (i : Int) + 1 := by omega
  have htn : ((i : Int) + 1).toNat = i + 1 := by omega
  have hb2 : ¬ (G = i + 1) := by omega
  have hb3 : (i : Int) ≤ (l.length : Int) + 1 := by omega
  have hb4 : ¬ (G = i) := by omega
  have hb5 : i ≤ l.length := by omega
  have hb6 : ¬ (l.length = i) := by omega
  subst hW1
  clear hR2 hfin hgr hcell hdl hal hR1 hR1l hR2l hRl hROW hZl hZZ hG hN hold h1N h1o h2N h2o
  go_enter Try.func36, Try.ntmps36
  go_wp2_with (first
    | (at_builtin; refine Lib.wpList_append_run _ rfl _ _ _ _ rfl _ _ rfl rfl _ _ (hrz _) ?_)
    | (at_builtin; refine Lib.wpList_copy_run _ rfl _ _ 29 29 rfl _ _ rfl rfl (hcpA _ _ _ (by omega)) ?_))
  go_region_law (refine step_copyR rfl _ _ 29 29 rfl _ _ (by simp [Act.eval, Act.put]) (by simp [Act.eval, Act.put]) (hcpB _ _ _ _ _ (by omega) (by omega)) ?_)
  go_wp2
  go_ret
  exact ⟨_, rfl, Fin.out, Gr.out⟩
end Go.Proofs.Ythhklbjhlfejfaa.Hi
