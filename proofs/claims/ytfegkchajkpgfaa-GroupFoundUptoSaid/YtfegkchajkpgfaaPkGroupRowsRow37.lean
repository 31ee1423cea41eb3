/- The law's example: plain. -/
import Derived.Test.YtfegkchajkpgfaaGrOfPk
import Derived.Test.YtfegkchajkpgfaaGrVPk
import Derived.Test.YtfegkchajkpgfaaGrCPk
section
namespace Go.Proofs.Ytfegkchajkpgfaa.Gr
open Go.RowKit Go.Proofs.Ytfegkchajkpgfaa Go.Proofs.Ytfegkchajkpgfaa.Ut Go.Proofs.Ytfegkchajkpgfaa.Tk Go.Proofs.Ytfegkchajkpgfaa.Qy
set_option linter.unusedSimpArgs false
set_option linter.unusedVariables false

def msgB : ByteArray := ⟨#[109, 115, 103]⟩
def aB : ByteArray := ⟨#[97]⟩
def bB : ByteArray := ⟨#[98]⟩
def cB : ByteArray := ⟨#[99]⟩
def exD1 : Dc := ⟨0, 0, [(msgB, ⟨#[97, 32, 98, 32, 97]⟩)]⟩
def exD2 : Dc := ⟨0, 0, [(msgB, ⟨#[98, 32, 99]⟩)]⟩
def exL : List Ct := [(aB, 1), (bB, 2), (cB, 1)]
theorem wds1 : wdsF msgB exD1.fs = [aB, bB, aB] := by
  have h : words [97, 32, 98, 32, 97] = [[97], [98], [97]] := by kernel_rfl
  simp only [wdsF, exD1, List.flatMap_cons, List.flatMap_nil, List.append_nil, if_true, List.toList_toArray]
  rw [h]
  rfl
theorem wds2 : wdsF msgB exD2.fs = [bB, cB] := by
  have h : words [98, 32, 99] = [[98], [99]] := by kernel_rfl
  simp only [wdsF, exD2, List.flatMap_cons, List.flatMap_nil, List.append_nil, if_true, List.toList_toArray]
  rw [h]
  rfl
theorem lt_ab : ltS aB bB = true := by kernel_rfl
theorem lt_bc : ltS bB cB = true := by kernel_rfl
theorem ne_ab : aB ≠ bB := fun e => by have := lt_ab; rw [e, ltS_irrefl] at this; cases this
theorem ne_bc : bB ≠ cB := fun e => by have := lt_bc; rw [e, ltS_irrefl] at this; cases this
theorem ne_ac : aB ≠ cB := fun e => by have := ltS_trans lt_ab lt_bc; rw [e, ltS_irrefl] at this; cases this
theorem ex_cnt (s : ByteArray) : cntN msgB [exD1, exD2] s = (if inL [aB, bB, aB] s = true then 1 else 0) + (if inL [bB, cB] s = true then 1 else 0) := by
  unfold cntN
  rw [List.countP_cons, List.countP_cons, List.countP_nil, wds1, wds2]
  omega
theorem exTab : IsTab (tabOf (cntN msgB [exD1, exD2])) exL := by
  refine ⟨?_, fun x => ?_⟩
  · refine List.pairwise_cons.2 ⟨fun x hx => ?_, List.pairwise_cons.2 ⟨fun x hx => ?_, List.pairwise_singleton _ _⟩⟩
    · simp only [List.mem_cons, List.not_mem_nil, or_false] at hx
      rcases hx with rfl | rfl
      · exact lt_ab
      · exact ltS_trans lt_ab lt_bc
    · simp only [List.mem_cons, List.not_mem_nil, or_false] at hx
      subst hx
      exact lt_bc
  · obtain ⟨s, n⟩ := x
    unfold tabOf
    rw [ex_cnt]
    simp only [exL, List.mem_cons, List.not_mem_nil, or_false, Prod.mk.injEq]
    have i1 : inL [aB, bB, aB] s = (decide (aB = s) || decide (bB = s)) := by
      simp only [inL, List.any_cons, List.any_nil, Bool.or_false]
      cases decide (aB = s) <;> simp
    have i2 : inL [bB, cB] s = (decide (bB = s) || decide (cB = s)) := by
      simp only [inL, List.any_cons, List.any_nil, Bool.or_false]
    rw [i1, i2]
    by_cases ea : aB = s
    · subst ea
      simp [ne_ab, ne_ab.symm, ne_ac, ne_ac.symm, eq_comm]
    · by_cases eb : bB = s
      · subst eb
        simp [ne_ab, ne_ab.symm, ne_bc, ne_bc.symm, eq_comm]
      · by_cases ec : cB = s
        · subst ec
          simp [ne_ac, ne_ac.symm, ne_bc, ne_bc.symm, eq_comm]
        · have ea' : ¬ s = aB := fun e => ea e.symm
          have eb' : ¬ s = bB := fun e => eb e.symm
          have ec' : ¬ s = cB := fun e => ec e.symm
          simp [ea, eb, ec, ea', eb', ec']
theorem ex_ok : okR exL = true := by kernel_rfl
theorem ex_top : topG exL 1 = [(bB, 2)] := by
  rw [topG_yes ⟨ex_ok, by decide⟩]
  kernel_rfl
theorem ex_err : errG exL 1 = 0 := errG_yes ⟨ex_ok, by decide⟩
theorem ex_tot : totR exL = 4 := by kernel_rfl
theorem ex_totW : totW msgB [exD1, exD2] ≤ 1048576 := by
  unfold totW
  simp only [List.map_cons, List.map_nil, wds1, wds2, List.sum_cons, List.sum_nil, List.length_cons, List.length_nil]
  omega
theorem ex_name : isN msgB.data.toList = true := by kernel_rfl
end Go.Proofs.Ytfegkchajkpgfaa.Gr
end

section
/- loggialaw30.awake: the walk. -/
namespace Go.Proofs.Ytfegkchajkpgfaa.Gr
open Go.RowKit Go.Proofs.Ytfegkchajkpgfaa Go.Proofs.Ytfegkchajkpgfaa.Ut Go.Proofs.Ytfegkchajkpgfaa.Tk Go.Proofs.Ytfegkchajkpgfaa.Qy Go.Sort Go.Shelf Go.Lib
set_option maxRecDepth 20000
set_option linter.unusedSimpArgs false
set_option linter.unusedVariables false

theorem groupOf_any (name : ByteArray) (A : Option Addr) (n c : Nat) (ds : List Dc) (w : World) (hD : DocsAt w w.heap.size A n ds) (hn : n ≤ 1048576) (hs : ∀ d ∈ ds, ∀ f ∈ d.fs, f.2.size ≤ 1048576) (htot : totW name ds ≤ 1048576) (hname : name.size ≤ 140737488351232) (hN : isN name.data.toList = true) :
    Calls Try.prog 35 #[.string name, .slice A n c] w fun e w' => ∃ l, IsTab (tabOf (cntN name ds)) l ∧ l.length ≤ 1048576 ∧ ∃ v, e = .returned (.tuple #[v, .int .i64 0]) ∧ w'.ownsRow w.heap.size 81 2 v l.length (ctC l) ∧ Below w.heap.size w w' :=
  callsIn_wide.1 (of_in name A n c ds w hD hn hs htot hname hN)
set_option maxHeartbeats 800000 in
theorem doc_any (s : ByteArray) (w : World) : Calls Try.prog 67 #[.string s] w fun e w' => ∃ fb, e = .returned (.agg #[.int .i64 0, .int .i64 0, .slice (some ⟨fb, 0, none⟩) 1 1]) ∧ w.heap.size ≤ fb ∧ Blk w' fb 130 #[.string msgB, .string s] ∧ Below w.heap.size w w' := by
  go_enter Try.func67, Try.ntmps67
  go_wp2
  have hf := Blk.new (w.alloc (.cells #[.int .i64 0, .int .i64 0, .slice (some ⟨w.heap.size + 1, 0, none⟩) 1 1] 43)) 130 #[.string msgB, .string s]
  rw [World.size_alloc] at hf
  have hh := (Blk.new w 43 #[.int .i64 0, .int .i64 0, .slice (some ⟨w.heap.size + 1, 0, none⟩) 1 1]).alloc (.cells #[.string msgB, .string s] 130)
  exact bodyPost_ret (results_cell rfl rfl (run_loadVar_row _ w.heap.size 43 43 #[.int .i64 0, .int .i64 0, .slice (some ⟨w.heap.size + 1, 0, none⟩) 1 1] (0, 0) _ hh Try.underlying43 rfl (by kernel_rfl))) rfl ⟨_, rfl, Nat.le_succ _, hf, ((Below.refl _ _).alloc (Nat.le_refl _) _).alloc (by simp) _⟩
theorem rd_blk {w : World} {g : Nat} {t : TypeId} {cs : Array Value} (h : Blk w g t cs) (n size : Nat) (hn : cs.size = n * size) (xs : List Value) (hx : cs.toList = xs) : Reads w (g + 1) size (some ⟨g, 0, none⟩) n xs := by
  subst hx
  exact ⟨by rw [Array.length_toList]; exact hn, fun _ => ⟨g, 0, rfl, by omega, fun j u hu => by rw [Nat.zero_add, h.cell j]; simpa using hu⟩⟩
set_option maxHeartbeats 1600000 in
theorem awake_any (w : World) : Calls Try.prog 33 #[] w fun e w' => e = .returned (.bool true) ∧ Below w.heap.size w w' := by
  have d1 := doc_any ⟨#[97, 32, 98, 32, 97]⟩ w
  go_enter Try.func33, Try.ntmps33
  go_wp2_with fail
  refine d1.mono ?_
  rintro e w1 ⟨f1, rfl, hf1, hB1, hb1⟩
  have d2 := doc_any ⟨#[98, 32, 99]⟩ w1
  have HB1 := Lib.hid hB1
  have Hb1 := Lib.hid hb1
  clear d1 hB1 hb1
  go_wp2_with fail
  refine d2.mono ?_
  rintro e w2 ⟨f2, rfl, hf2, hB2, hb2⟩
  have hB12 := HB1.out.below hb2 HB1.out.lt
  have Hb2 := Lib.hid (Hb1.out.trans (hb2.mono Hb1.out.size))
  have hbA : Below w2.heap.size w2 (w2.alloc (.cells #[.int .i64 0, .int .i64 0, .slice (some ⟨f1, 0, none⟩) 1 1, .int .i64 0, .int .i64 0, .slice (some ⟨f2, 0, none⟩) 1 1] 43)) := (Below.refl _ _).alloc (Nat.le_refl _) _
  have hDs : DocsAt (w2.alloc (.cells #[.int .i64 0, .int .i64 0, .slice (some ⟨f1, 0, none⟩) 1 1, .int .i64 0, .int .i64 0, .slice (some ⟨f2, 0, none⟩) 1 1] 43)) (w2.alloc (.cells #[.int .i64 0, .int .i64 0, .slice (some ⟨f1, 0, none⟩) 1 1, .int .i64 0, .int .i64 0, .slice (some ⟨f2, 0, none⟩) 1 1] 43)).heap.size (some ⟨w2.heap.size, 0, none⟩) 2 [exD1, exD2] := by
    have hz : (w2.alloc (.cells #[.int .i64 0, .int .i64 0, .slice (some ⟨f1, 0, none⟩) 1 1, .int .i64 0, .int .i64 0, .slice (some ⟨f2, 0, none⟩) 1 1] 43)).heap.size = w2.heap.size + 1 := by simp
    have l1 := hB12.lt
    have l2 := hB2.lt
    have q1 := rd_blk (hB12.below hbA hB12.lt) 1 2 rfl (fldC exD1.fs) rfl
    have q2 := rd_blk (hB2.below hbA hB2.lt) 1 2 rfl (fldC exD2.fs) rfl
    refine ⟨rfl, [[.int .i64 0, .int .i64 0, .slice (some ⟨f1, 0, none⟩) 1 1], [.int .i64 0, .int .i64 0, .slice (some ⟨f2, 0, none⟩) 1 1]], rfl, ?_, fun i h h' => ?_⟩
    · have := rd_blk (Blk.new w2 43 #[.int .i64 0, .int .i64 0, .slice (some ⟨f1, 0, none⟩) 1 1, .int .i64 0, .int .i64 0, .slice (some ⟨f2, 0, none⟩) 1 1]) 2 3 rfl _ rfl
      rw [hz]
      exact this
    · have hi : i = 0 ∨ i = 1 := by simp at h'; omega
      rcases hi with rfl | rfl
      · exact ⟨_, 1, 1, rfl, q1.more (by omega), rfl, by omega, by omega, fun e => by cases e⟩
      · exact ⟨_, 1, 1, rfl, q2.more (by omega), rfl, by omega, by omega, fun e => by cases e⟩
  have c3 := groupOf_any msgB (some ⟨w2.heap.size, 0, none⟩) 2 2 [exD1, exD2] _ hDs (by omega) (fun d hd f hf => by
    simp only [List.mem_cons, List.not_mem_nil, or_false] at hd
    rcases hd with rfl | rfl
    · simp only [exD1, List.mem_cons, List.not_mem_nil, or_false] at hf; subst hf; decide
    · simp only [exD2, List.mem_cons, List.not_mem_nil, or_false] at hf; subst hf; decide) ex_totW (by decide) ex_name
  have Hb3 := Lib.hid (Hb2.out.trans (hbA.mono Hb2.out.size))
  unfold msgB at c3
  clear d2 hB2 hb2 hB12 hbA hDs HB1
  go_wp2_with fail
  refine c3.mono ?_
  rintro e w3 ⟨l, hT, _, v, rfl, hown, hb3⟩
  have hl : l = exL := hT.one exTab
  subst hl
  obtain ⟨A3, k3, rfl, hR3, hnc3, hcm3, hn3, _⟩ := own_shp hown
  have c4 := top_any A3 3 k3 exL 1 w3 hR3 (by omega) (fun x hx => by
    simp only [exL, List.mem_cons, List.not_mem_nil, or_false] at hx
    rcases hx with rfl | rfl | rfl <;> decide) (fun e => (hn3 e).1)
  rw [ex_top, ex_err] at c4
  have Hb4 := Lib.hid (Hb3.out.trans (hb3.mono Hb3.out.size))
  have HR3 := Lib.hid hR3
  clear c3 hT hown hb3 hR3 hn3 hnc3 hcm3
  go_wp2_with fail
  refine c4.mono ?_
  rintro e w4 ⟨A4, k4, rfl, hR4, hb4⟩
  have Hb5 := Lib.hid (Hb4.out.trans (hb4.mono Hb4.out.size))
  have hA5 : Below w4.heap.size w4 (w4.alloc (.cells #[.string aB, .int .i64 1, .string bB, .int .i64 2, .string cB, .int .i64 1] 81)) := (Below.refl _ _).alloc (Nat.le_refl _) _
  have r5 := rd_blk (Blk.new w4 81 #[.string aB, .int .i64 1, .string bB, .int .i64 2, .string cB, .int .i64 1]) 3 2 rfl (ctC exL) rfl
  have r3 := rd_grow (hb4.trans (hA5.mono hb4.size)) HR3.out
  have c5 := gsame_any A3 (some ⟨w4.heap.size, 0, none⟩) k3 3 _ _ exL exL _ r3 r5 (by decide) (by decide)
  rw [decide_eq_true rfl] at c5
  have HR4 := Lib.hid (rd_grow hA5 hR4)
  have HR5 := Lib.hid r3
  have Hb6 := Lib.hid (Hb5.out.trans (hA5.mono Hb5.out.size))
  unfold aB bB cB at *
  clear c4 hR4 hb4 hA5 r5 r3 HR3
  go_wp2_with fail
  refine c5.mono ?_
  rintro e w6 ⟨rfl, hb6⟩
  have hA7 : Below w6.heap.size w6 (w6.alloc (.cells #[.string ⟨#[98]⟩, .int .i64 2] 81)) := (Below.refl _ _).alloc (Nat.le_refl _) _
  have r7 := rd_blk (Blk.new w6 81 #[.string ⟨#[98]⟩, .int .i64 2]) 1 2 rfl (ctC [(⟨#[98]⟩, 2)]) rfl
  have r4 := rd_grow (hb6.trans (hA7.mono hb6.size)) HR4.out
  have c7 := gsame_any A4 (some ⟨w6.heap.size, 0, none⟩) k4 1 _ _ [(⟨#[98]⟩, 2)] [(⟨#[98]⟩, 2)] _ r4 r7 (by decide) (by decide)
  rw [decide_eq_true rfl] at c7
  have HR6 := Lib.hid (rd_grow (hb6.trans (hA7.mono hb6.size)) HR5.out)
  have Hb7 := Lib.hid ((Hb6.out.trans (hb6.mono Hb6.out.size)).trans (hA7.mono (Hb6.out.trans (hb6.mono Hb6.out.size)).size))
  clear c5 hb6 hA7 r7 r4 HR4 HR5
  go_wp2_with fail
  refine c7.mono ?_
  rintro e w8 ⟨rfl, hb8⟩
  have c9 := total_any A3 exL.length k3 exL w8 (rd_grow hb8 HR6.out) (by decide)
  rw [ex_tot] at c9
  have Hb8 := Lib.hid (Hb7.out.trans (hb8.mono Hb7.out.size))
  clear c7 hb8 HR6
  go_wp2_with fail
  refine c9.mono ?_
  rintro e w9 ⟨rfl, hb9⟩
  have Hb9 := Lib.hid (Hb8.out.trans (hb9.mono Hb8.out.size))
  clear c9 hb9
  go_wp2
  go_ret
  exact ⟨by first | rfl | simp, Hb9.out⟩
end Go.Proofs.Ytfegkchajkpgfaa.Gr
end
