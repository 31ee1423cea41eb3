/- group.ordered's closures: the walks (printed by gen_grh.py). -/
import Derived.Test.YtjeahdnbpiahaaaGreatPkGroupCountsRow25
namespace Go.Proofs.YtjeahdnbpiahaaaGreat.Gr
open Go.RowKit Go.Proofs.YtjeahdnbpiahaaaGreat Go.Proofs.YtjeahdnbpiahaaaGreat.Ut Go.Proofs.YtjeahdnbpiahaaaGreat.Tk Go.Sort
set_option maxRecDepth 20000
set_option linter.unusedSimpArgs false
set_option linter.unusedVariables false

theorem Grw.size {W w : World} (h : Grw W w) : W.heap.size ≤ w.heap.size := by obtain ⟨q, os, rfl⟩ := h; simp [grow]
theorem Grw.heap {W w : World} (h : Grw W w) {b : Nat} (hb : b < W.heap.size) : w.heap[b]? = W.heap[b]? := by
  obtain ⟨q, os, rfl⟩ := h
  show (W.heap ++ os)[b]? = W.heap[b]?
  rw [Array.getElem?_append_left hb]
theorem Grw.cell {W w : World} (h : Grw W w) {p : Addr} (hb : p.block < W.heap.size) : w.cell? p = W.cell? p := by
  unfold World.cell?
  rw [h.heap hb]
theorem Grw.blk {W w : World} (h : Grw W w) {g : Nat} {t : TypeId} {cs : Array Value} (hB : Blk W g t cs) : Blk w g t cs := by
  have := h.heap hB.lt
  unfold Blk at *
  rw [this]; exact hB
theorem calls_grw {P : Program} {W w : World} {f : FuncId} {args : Array Value} {c : Value} (hC : Grw W w) (h : Calls P f args w fun e w' => e = .returned c ∧ Grw w w') :
    Calls P f args w fun e w' => ∃ v, e = .returned v ∧ Grw w w' ∧ Grw W w' ∧ ∃ x : Unit, v = (fun _ => c) x ∧ True :=
  h.mono fun e w' h => ⟨c, h.1, h.2, hC.trans h.2, (), rfl, trivial⟩


set_option maxHeartbeats 6400000 in
theorem ordT_any (s t : ByteArray) (n m : Int) (b1 b2 : Nat) (w : World) (h1 : w.cell? ⟨b1, 0, none⟩ = some (.func (.func 30) #[] #[])) (h2 : w.cell? ⟨b2, 0, none⟩ = some (.func (.func 31) #[] #[])) :
    Calls Tryz.prog 46 #[.agg #[.string s, .int .i64 n], .agg #[.string t, .int .i64 m], .pointer (some ⟨b1, 0, none⟩), .pointer (some ⟨b2, 0, none⟩)] w fun e w' => e = .returned (.int .i64 (cOr (Lib.compareInt (wrap64 (-n)) (wrap64 (-m))) (cStr s t))) ∧ Grw w w' := by
  have hl1 := World.block_lt_of_cell? w _ h1
  have hl2 := World.block_lt_of_cell? w _ h2
  have hg : Grw w ((w.alloc (.cells #[.string s, .int .i64 n] 54)).alloc (.cells #[.string t, .int .i64 m] 54)) := ((Grw.refl w).alloc _).alloc _
  have hB1 := (Blk.new w 54 #[.string s, .int .i64 n]).alloc (.cells #[.string t, .int .i64 m] 54)
  have hB2 := Blk.new (w.alloc (.cells #[.string s, .int .i64 n] 54)) 54 #[.string t, .int .i64 m]
  have z1 : (w.alloc (.cells #[.string s, .int .i64 n] 54)).heap.size = w.heap.size + 1 := by simp
  rw [z1] at hB2
  have hcells : ∀ wx, Grw ((w.alloc (.cells #[.string s, .int .i64 n] 54)).alloc (.cells #[.string t, .int .i64 m] 54)) wx → wx.cell? ⟨b1, 0, none⟩ = some (.func (.func 30) #[] #[]) ∧ wx.cell? ⟨b2, 0, none⟩ = some (.func (.func 31) #[] #[]) ∧
      wx.cell? ⟨w.heap.size, 0, none⟩ = some (.string s) ∧ wx.cell? ⟨w.heap.size, 1, none⟩ = some (.int .i64 n) ∧ wx.cell? ⟨w.heap.size + 1, 0, none⟩ = some (.string t) ∧ wx.cell? ⟨w.heap.size + 1, 1, none⟩ = some (.int .i64 m) := fun wx hC =>
    ⟨((hg.trans hC).cell (p := ⟨b1, 0, none⟩) hl1).trans h1, ((hg.trans hC).cell (p := ⟨b2, 0, none⟩) hl2).trans h2, (hC.blk hB1).cell 0, (hC.blk hB1).cell 1, (hC.blk hB2).cell 0, (hC.blk hB2).cell 1⟩
  have Hcells := Lib.hid hcells
  have Hg := Lib.hid hg
  clear h1 h2 hl1 hl2 hg hB1 hB2 z1 hcells
  go_enter Tryz.func46, Tryz.ntmps46
  go_upto_region 1 with (fail)
  generalize hw2 : ((w.alloc (.cells #[.string s, .int .i64 n] 54)).alloc (.cells #[.string t, .int .i64 m] 54)) = w2 at *
  clear hw2
  refine wp_region_grow (specOf [(2, ⟨Unit, fun _ => (.int .i64 (wrap64 (-n))), fun _ _ => True⟩), (5, ⟨Unit, fun _ => (.int .i64 (wrap64 (-m))), fun _ _ => True⟩), (6, ⟨Unit, fun _ => (.int .i64 (Lib.compareInt (wrap64 (-n)) (wrap64 (-m)))), fun _ _ => True⟩), (9, ⟨Unit, fun _ => (.string s), fun _ _ => True⟩), (12, ⟨Unit, fun _ => (.string t), fun _ _ => True⟩), (13, ⟨Unit, fun _ => (.int .i64 (cStr s t)), fun _ _ => True⟩), (14, ⟨Nat, fun x => .slice (some ⟨x, 0, none⟩) 2 2, fun g wx => Blk wx g 3 #[.int .i64 (Lib.compareInt (wrap64 (-n)) (wrap64 (-m))), .int .i64 (cStr s t)]⟩), (15, ⟨Unit, fun _ => (.int .i64 (cOr (Lib.compareInt (wrap64 (-n)) (wrap64 (-m))) (cStr s t))), fun _ _ => True⟩)]) (fun wx => Grw w2 wx) Grw (by kernel_rfl) (by kernel_rfl) (stab_cons (fun _ _ _ _ h => h) (stab_cons (fun _ _ _ _ h => h) (stab_cons (fun _ _ _ _ h => h) (stab_cons (fun _ _ _ _ h => h) (stab_cons (fun _ _ _ _ h => h) (stab_cons (fun _ _ _ _ h => h) (stab_cons (fun x w1 w2 hg h => hg.blk h) (stab_cons (fun _ _ _ _ h => h) (stab_nil))))))))) (Grw.refl _).drew ?_
  refine grow_fix 1 ?_ rfl (by rfl) (by rfl) (fun wx hC hD => ?_) ?_
  rotate_left
  · have hSw := Hcells.out wx hC
    go_simp
    all_goals with_reducible rfl
  try simp only [Act.put, List.setIfInBounds_toArray, List.set_cons_zero, List.set_cons_succ]
  refine grow_fix 2 ?_ rfl (by rfl) (by rfl) (fun wx hC hD => ?_) ?_
  rotate_left
  · have hSw := Hcells.out wx hC
    go_simp
    all_goals with_reducible rfl
  try simp only [Act.put, List.setIfInBounds_toArray, List.set_cons_zero, List.set_cons_succ]
  refine grow_give 3 _ rfl (by rfl) (by rfl) (fun wx hC hD => ?_) (fun x => ?_)
  · refine give_enter (f := ?_) (args := ?_) ?_ ?_
    rotate_left 2
    · have hSw := Hcells.out wx hC
      go_simp
      all_goals first | with_reducible rfl | (refine ⟨?_, ?_⟩ <;> with_reducible rfl)
    exact calls_grw hC (topN_any _ _ wx)
  obtain ⟨⟩ := x
  try simp only [Act.put, List.setIfInBounds_toArray, List.set_cons_zero, List.set_cons_succ]
  refine grow_fix 4 ?_ rfl (by rfl) (by rfl) (fun wx hC hD => ?_) ?_
  rotate_left
  · have hSw := Hcells.out wx hC
    go_simp
    all_goals with_reducible rfl
  try simp only [Act.put, List.setIfInBounds_toArray, List.set_cons_zero, List.set_cons_succ]
  refine grow_fix 5 ?_ rfl (by rfl) (by rfl) (fun wx hC hD => ?_) ?_
  rotate_left
  · have hSw := Hcells.out wx hC
    go_simp
    all_goals with_reducible rfl
  try simp only [Act.put, List.setIfInBounds_toArray, List.set_cons_zero, List.set_cons_succ]
  refine grow_give 6 _ rfl (by rfl) (by rfl) (fun wx hC hD => ?_) (fun x => ?_)
  · refine give_enter (f := ?_) (args := ?_) ?_ ?_
    rotate_left 2
    · have hSw := Hcells.out wx hC
      go_simp
      all_goals first | with_reducible rfl | (refine ⟨?_, ?_⟩ <;> with_reducible rfl)
    exact calls_grw hC (topN_any _ _ wx)
  obtain ⟨⟩ := x
  try simp only [Act.put, List.setIfInBounds_toArray, List.set_cons_zero, List.set_cons_succ]
  refine grow_give 7 _ rfl (by rfl) (by rfl) (fun wx hC hD => ?_) (fun x => ?_)
  · refine give_enter (f := ?_) (args := ?_) ?_ ?_
    rotate_left 2
    · have hSw := Hcells.out wx hC
      go_simp
      all_goals first | with_reducible rfl | (refine ⟨?_, ?_⟩ <;> with_reducible rfl)
    exact calls_grw hC ((compareI_any _ _ wx).mono (fun e w' h => ⟨h.1, h.2 ▸ Grw.refl _⟩))
  obtain ⟨⟩ := x
  try simp only [Act.put, List.setIfInBounds_toArray, List.set_cons_zero, List.set_cons_succ]
  refine grow_fix 8 ?_ rfl (by rfl) (by rfl) (fun wx hC hD => ?_) ?_
  rotate_left
  · have hSw := Hcells.out wx hC
    go_simp
    all_goals with_reducible rfl
  try simp only [Act.put, List.setIfInBounds_toArray, List.set_cons_zero, List.set_cons_succ]
  refine grow_fix 9 ?_ rfl (by rfl) (by rfl) (fun wx hC hD => ?_) ?_
  rotate_left
  · have hSw := Hcells.out wx hC
    go_simp
    all_goals with_reducible rfl
  try simp only [Act.put, List.setIfInBounds_toArray, List.set_cons_zero, List.set_cons_succ]
  refine grow_give 10 _ rfl (by rfl) (by rfl) (fun wx hC hD => ?_) (fun x => ?_)
  · refine give_enter (f := ?_) (args := ?_) ?_ ?_
    rotate_left 2
    · have hSw := Hcells.out wx hC
      go_simp
      all_goals first | with_reducible rfl | (refine ⟨?_, ?_⟩ <;> with_reducible rfl)
    exact calls_grw hC (topW_any _ _ wx)
  obtain ⟨⟩ := x
  try simp only [Act.put, List.setIfInBounds_toArray, List.set_cons_zero, List.set_cons_succ]
  refine grow_fix 11 ?_ rfl (by rfl) (by rfl) (fun wx hC hD => ?_) ?_
  rotate_left
  · have hSw := Hcells.out wx hC
    go_simp
    all_goals with_reducible rfl
  try simp only [Act.put, List.setIfInBounds_toArray, List.set_cons_zero, List.set_cons_succ]
  refine grow_fix 12 ?_ rfl (by rfl) (by rfl) (fun wx hC hD => ?_) ?_
  rotate_left
  · have hSw := Hcells.out wx hC
    go_simp
    all_goals with_reducible rfl
  try simp only [Act.put, List.setIfInBounds_toArray, List.set_cons_zero, List.set_cons_succ]
  refine grow_give 13 _ rfl (by rfl) (by rfl) (fun wx hC hD => ?_) (fun x => ?_)
  · refine give_enter (f := ?_) (args := ?_) ?_ ?_
    rotate_left 2
    · have hSw := Hcells.out wx hC
      go_simp
      all_goals first | with_reducible rfl | (refine ⟨?_, ?_⟩ <;> with_reducible rfl)
    exact calls_grw hC (topW_any _ _ wx)
  obtain ⟨⟩ := x
  try simp only [Act.put, List.setIfInBounds_toArray, List.set_cons_zero, List.set_cons_succ]
  refine grow_give 14 _ rfl (by rfl) (by rfl) (fun wx hC hD => ?_) (fun x => ?_)
  · refine give_enter (f := ?_) (args := ?_) ?_ ?_
    rotate_left 2
    · have hSw := Hcells.out wx hC
      go_simp
      all_goals first | with_reducible rfl | (refine ⟨?_, ?_⟩ <;> with_reducible rfl)
    exact calls_grw hC (compareS_any _ _ wx)
  obtain ⟨⟩ := x
  try simp only [Act.put, List.setIfInBounds_toArray, List.set_cons_zero, List.set_cons_succ]
  refine grow_give 15 _ rfl (by rfl) (by rfl) (fun wx hC hD => ?_) (fun x => ?_)
  · refine give_value (u := ?_) (w' := ?_) ?_ ?_ ?_
    rotate_left 2
    · have hSw := Hcells.out wx hC
      go_simp
      all_goals first | with_reducible rfl | (refine ⟨?_, ?_⟩ <;> with_reducible rfl)
    · exact (Grw.refl _).alloc _
    · exact ⟨hC.alloc _, wx.heap.size, rfl, Blk.new _ _ _⟩
  rename Nat => x9
  try simp only [Act.put, List.setIfInBounds_toArray, List.set_cons_zero, List.set_cons_succ]
  refine grow_give 16 _ rfl (by rfl) (by rfl) (fun wx hC hD => ?_) (fun x => ?_)
  · refine give_enter (f := ?_) (args := ?_) ?_ ?_
    rotate_left 2
    · have hSw := Hcells.out wx hC
      go_simp
      all_goals first | with_reducible rfl | (refine ⟨?_, ?_⟩ <;> with_reducible rfl)
    have hbk := upd_hit (deps_get hD 14 (by kernel_rfl)) (by decide)
    exact calls_grw hC (or_any _ _ _ _ wx ⟨by simp, fun _ => ⟨_, _, rfl, hbk.lt, fun j u hj => by rw [Nat.zero_add, hbk.cell j]; simpa using hj⟩⟩)
  obtain ⟨⟩ := x
  try simp only [Act.put, List.setIfInBounds_toArray, List.set_cons_zero, List.set_cons_succ]
  refine grow_fix 17 ?_ rfl (by rfl) (by rfl) (fun wx hC hD => ?_) ?_
  rotate_left
  · have hSw := Hcells.out wx hC
    go_simp
    all_goals with_reducible rfl
  try simp only [Act.put, List.setIfInBounds_toArray, List.set_cons_zero, List.set_cons_succ]
  refine grow_nil (fun w9 hC hF => ?_)
  have hgf := Hg.out.trans hC
  clear hF hC
  go_wp2
  go_ret
  exact ⟨rfl, hgf⟩


set_option maxHeartbeats 6400000 in
theorem ordR_any (s t : ByteArray) (n m : Int) (b1 b2 : Nat) (w : World) (h1 : w.cell? ⟨b1, 0, none⟩ = some (.func (.func 36) #[] #[])) (h2 : w.cell? ⟨b2, 0, none⟩ = some (.func (.func 37) #[] #[])) :
    Calls Tryz.prog 53 #[.agg #[.string s, .int .i64 n], .agg #[.string t, .int .i64 m], .pointer (some ⟨b1, 0, none⟩), .pointer (some ⟨b2, 0, none⟩)] w fun e w' => e = .returned (.int .i64 (cOr (cStr s t) (Lib.compareInt n m))) ∧ Grw w w' := by
  have hl1 := World.block_lt_of_cell? w _ h1
  have hl2 := World.block_lt_of_cell? w _ h2
  have hg : Grw w ((w.alloc (.cells #[.string s, .int .i64 n] 54)).alloc (.cells #[.string t, .int .i64 m] 54)) := ((Grw.refl w).alloc _).alloc _
  have hB1 := (Blk.new w 54 #[.string s, .int .i64 n]).alloc (.cells #[.string t, .int .i64 m] 54)
  have hB2 := Blk.new (w.alloc (.cells #[.string s, .int .i64 n] 54)) 54 #[.string t, .int .i64 m]
  have z1 : (w.alloc (.cells #[.string s, .int .i64 n] 54)).heap.size = w.heap.size + 1 := by simp
  rw [z1] at hB2
  have hcells : ∀ wx, Grw ((w.alloc (.cells #[.string s, .int .i64 n] 54)).alloc (.cells #[.string t, .int .i64 m] 54)) wx → wx.cell? ⟨b1, 0, none⟩ = some (.func (.func 36) #[] #[]) ∧ wx.cell? ⟨b2, 0, none⟩ = some (.func (.func 37) #[] #[]) ∧
      wx.cell? ⟨w.heap.size, 0, none⟩ = some (.string s) ∧ wx.cell? ⟨w.heap.size, 1, none⟩ = some (.int .i64 n) ∧ wx.cell? ⟨w.heap.size + 1, 0, none⟩ = some (.string t) ∧ wx.cell? ⟨w.heap.size + 1, 1, none⟩ = some (.int .i64 m) := fun wx hC =>
    ⟨((hg.trans hC).cell (p := ⟨b1, 0, none⟩) hl1).trans h1, ((hg.trans hC).cell (p := ⟨b2, 0, none⟩) hl2).trans h2, (hC.blk hB1).cell 0, (hC.blk hB1).cell 1, (hC.blk hB2).cell 0, (hC.blk hB2).cell 1⟩
  have Hcells := Lib.hid hcells
  have Hg := Lib.hid hg
  clear h1 h2 hl1 hl2 hg hB1 hB2 z1 hcells
  go_enter Tryz.func53, Tryz.ntmps53
  go_upto_region 1 with (fail)
  generalize hw2 : ((w.alloc (.cells #[.string s, .int .i64 n] 54)).alloc (.cells #[.string t, .int .i64 m] 54)) = w2 at *
  clear hw2
  refine wp_region_grow (specOf [(2, ⟨Unit, fun _ => (.string s), fun _ _ => True⟩), (5, ⟨Unit, fun _ => (.string t), fun _ _ => True⟩), (6, ⟨Unit, fun _ => (.int .i64 (cStr s t)), fun _ _ => True⟩), (9, ⟨Unit, fun _ => (.int .i64 n), fun _ _ => True⟩), (12, ⟨Unit, fun _ => (.int .i64 m), fun _ _ => True⟩), (13, ⟨Unit, fun _ => (.int .i64 (Lib.compareInt n m)), fun _ _ => True⟩), (14, ⟨Nat, fun x => .slice (some ⟨x, 0, none⟩) 2 2, fun g wx => Blk wx g 3 #[.int .i64 (cStr s t), .int .i64 (Lib.compareInt n m)]⟩), (15, ⟨Unit, fun _ => (.int .i64 (cOr (cStr s t) (Lib.compareInt n m))), fun _ _ => True⟩)]) (fun wx => Grw w2 wx) Grw (by kernel_rfl) (by kernel_rfl) (stab_cons (fun _ _ _ _ h => h) (stab_cons (fun _ _ _ _ h => h) (stab_cons (fun _ _ _ _ h => h) (stab_cons (fun _ _ _ _ h => h) (stab_cons (fun _ _ _ _ h => h) (stab_cons (fun _ _ _ _ h => h) (stab_cons (fun x w1 w2 hg h => hg.blk h) (stab_cons (fun _ _ _ _ h => h) (stab_nil))))))))) (Grw.refl _).drew ?_
  refine grow_fix 1 ?_ rfl (by rfl) (by rfl) (fun wx hC hD => ?_) ?_
  rotate_left
  · have hSw := Hcells.out wx hC
    go_simp
    all_goals with_reducible rfl
  try simp only [Act.put, List.setIfInBounds_toArray, List.set_cons_zero, List.set_cons_succ]
  refine grow_fix 2 ?_ rfl (by rfl) (by rfl) (fun wx hC hD => ?_) ?_
  rotate_left
  · have hSw := Hcells.out wx hC
    go_simp
    all_goals with_reducible rfl
  try simp only [Act.put, List.setIfInBounds_toArray, List.set_cons_zero, List.set_cons_succ]
  refine grow_give 3 _ rfl (by rfl) (by rfl) (fun wx hC hD => ?_) (fun x => ?_)
  · refine give_enter (f := ?_) (args := ?_) ?_ ?_
    rotate_left 2
    · have hSw := Hcells.out wx hC
      go_simp
      all_goals first | with_reducible rfl | (refine ⟨?_, ?_⟩ <;> with_reducible rfl)
    exact calls_grw hC (rowW_any _ _ wx)
  obtain ⟨⟩ := x
  try simp only [Act.put, List.setIfInBounds_toArray, List.set_cons_zero, List.set_cons_succ]
  refine grow_fix 4 ?_ rfl (by rfl) (by rfl) (fun wx hC hD => ?_) ?_
  rotate_left
  · have hSw := Hcells.out wx hC
    go_simp
    all_goals with_reducible rfl
  try simp only [Act.put, List.setIfInBounds_toArray, List.set_cons_zero, List.set_cons_succ]
  refine grow_fix 5 ?_ rfl (by rfl) (by rfl) (fun wx hC hD => ?_) ?_
  rotate_left
  · have hSw := Hcells.out wx hC
    go_simp
    all_goals with_reducible rfl
  try simp only [Act.put, List.setIfInBounds_toArray, List.set_cons_zero, List.set_cons_succ]
  refine grow_give 6 _ rfl (by rfl) (by rfl) (fun wx hC hD => ?_) (fun x => ?_)
  · refine give_enter (f := ?_) (args := ?_) ?_ ?_
    rotate_left 2
    · have hSw := Hcells.out wx hC
      go_simp
      all_goals first | with_reducible rfl | (refine ⟨?_, ?_⟩ <;> with_reducible rfl)
    exact calls_grw hC (rowW_any _ _ wx)
  obtain ⟨⟩ := x
  try simp only [Act.put, List.setIfInBounds_toArray, List.set_cons_zero, List.set_cons_succ]
  refine grow_give 7 _ rfl (by rfl) (by rfl) (fun wx hC hD => ?_) (fun x => ?_)
  · refine give_enter (f := ?_) (args := ?_) ?_ ?_
    rotate_left 2
    · have hSw := Hcells.out wx hC
      go_simp
      all_goals first | with_reducible rfl | (refine ⟨?_, ?_⟩ <;> with_reducible rfl)
    exact calls_grw hC (compareS_any _ _ wx)
  obtain ⟨⟩ := x
  try simp only [Act.put, List.setIfInBounds_toArray, List.set_cons_zero, List.set_cons_succ]
  refine grow_fix 8 ?_ rfl (by rfl) (by rfl) (fun wx hC hD => ?_) ?_
  rotate_left
  · have hSw := Hcells.out wx hC
    go_simp
    all_goals with_reducible rfl
  try simp only [Act.put, List.setIfInBounds_toArray, List.set_cons_zero, List.set_cons_succ]
  refine grow_fix 9 ?_ rfl (by rfl) (by rfl) (fun wx hC hD => ?_) ?_
  rotate_left
  · have hSw := Hcells.out wx hC
    go_simp
    all_goals with_reducible rfl
  try simp only [Act.put, List.setIfInBounds_toArray, List.set_cons_zero, List.set_cons_succ]
  refine grow_give 10 _ rfl (by rfl) (by rfl) (fun wx hC hD => ?_) (fun x => ?_)
  · refine give_enter (f := ?_) (args := ?_) ?_ ?_
    rotate_left 2
    · have hSw := Hcells.out wx hC
      go_simp
      all_goals first | with_reducible rfl | (refine ⟨?_, ?_⟩ <;> with_reducible rfl)
    exact calls_grw hC (rowN_any _ _ wx)
  obtain ⟨⟩ := x
  try simp only [Act.put, List.setIfInBounds_toArray, List.set_cons_zero, List.set_cons_succ]
  refine grow_fix 11 ?_ rfl (by rfl) (by rfl) (fun wx hC hD => ?_) ?_
  rotate_left
  · have hSw := Hcells.out wx hC
    go_simp
    all_goals with_reducible rfl
  try simp only [Act.put, List.setIfInBounds_toArray, List.set_cons_zero, List.set_cons_succ]
  refine grow_fix 12 ?_ rfl (by rfl) (by rfl) (fun wx hC hD => ?_) ?_
  rotate_left
  · have hSw := Hcells.out wx hC
    go_simp
    all_goals with_reducible rfl
  try simp only [Act.put, List.setIfInBounds_toArray, List.set_cons_zero, List.set_cons_succ]
  refine grow_give 13 _ rfl (by rfl) (by rfl) (fun wx hC hD => ?_) (fun x => ?_)
  · refine give_enter (f := ?_) (args := ?_) ?_ ?_
    rotate_left 2
    · have hSw := Hcells.out wx hC
      go_simp
      all_goals first | with_reducible rfl | (refine ⟨?_, ?_⟩ <;> with_reducible rfl)
    exact calls_grw hC (rowN_any _ _ wx)
  obtain ⟨⟩ := x
  try simp only [Act.put, List.setIfInBounds_toArray, List.set_cons_zero, List.set_cons_succ]
  refine grow_give 14 _ rfl (by rfl) (by rfl) (fun wx hC hD => ?_) (fun x => ?_)
  · refine give_enter (f := ?_) (args := ?_) ?_ ?_
    rotate_left 2
    · have hSw := Hcells.out wx hC
      go_simp
      all_goals first | with_reducible rfl | (refine ⟨?_, ?_⟩ <;> with_reducible rfl)
    exact calls_grw hC ((compareI_any _ _ wx).mono (fun e w' h => ⟨h.1, h.2 ▸ Grw.refl _⟩))
  obtain ⟨⟩ := x
  try simp only [Act.put, List.setIfInBounds_toArray, List.set_cons_zero, List.set_cons_succ]
  refine grow_give 15 _ rfl (by rfl) (by rfl) (fun wx hC hD => ?_) (fun x => ?_)
  · refine give_value (u := ?_) (w' := ?_) ?_ ?_ ?_
    rotate_left 2
    · have hSw := Hcells.out wx hC
      go_simp
      all_goals first | with_reducible rfl | (refine ⟨?_, ?_⟩ <;> with_reducible rfl)
    · exact (Grw.refl _).alloc _
    · exact ⟨hC.alloc _, wx.heap.size, rfl, Blk.new _ _ _⟩
  rename Nat => x9
  try simp only [Act.put, List.setIfInBounds_toArray, List.set_cons_zero, List.set_cons_succ]
  refine grow_give 16 _ rfl (by rfl) (by rfl) (fun wx hC hD => ?_) (fun x => ?_)
  · refine give_enter (f := ?_) (args := ?_) ?_ ?_
    rotate_left 2
    · have hSw := Hcells.out wx hC
      go_simp
      all_goals first | with_reducible rfl | (refine ⟨?_, ?_⟩ <;> with_reducible rfl)
    have hbk := upd_hit (deps_get hD 14 (by kernel_rfl)) (by decide)
    exact calls_grw hC (or_any _ _ _ _ wx ⟨by simp, fun _ => ⟨_, _, rfl, hbk.lt, fun j u hj => by rw [Nat.zero_add, hbk.cell j]; simpa using hj⟩⟩)
  obtain ⟨⟩ := x
  try simp only [Act.put, List.setIfInBounds_toArray, List.set_cons_zero, List.set_cons_succ]
  refine grow_fix 17 ?_ rfl (by rfl) (by rfl) (fun wx hC hD => ?_) ?_
  rotate_left
  · have hSw := Hcells.out wx hC
    go_simp
    all_goals with_reducible rfl
  try simp only [Act.put, List.setIfInBounds_toArray, List.set_cons_zero, List.set_cons_succ]
  refine grow_nil (fun w9 hC hF => ?_)
  have hgf := Hg.out.trans hC
  clear hF hC
  go_wp2
  go_ret
  exact ⟨rfl, hgf⟩

end Go.Proofs.YtjeahdnbpiahaaaGreat.Gr
