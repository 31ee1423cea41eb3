/- The law's example: plain. -/
import Derived.Test.YtdloacfoegjnmaaGreatGrOfPk
import Derived.Test.YtdloacfoegjnmaaGreatPkGroupIndexesRow30
import Derived.Test.YtdloacfoegjnmaaGreatPkGroupIndexesRow26
import Derived.Test.YtdloacfoegjnmaaGreatPkGroupIndexesRow37
import Derived.Test.YtdloacfoegjnmaaGreatPkGroupIndexesRow31
import Derived.Test.YtdloacfoegjnmaaGreatPkGroupIndexesRow1
section
namespace Go.Proofs.YtdloacfoegjnmaaGreat.Gr
open Go.RowKit Go.Proofs.YtdloacfoegjnmaaGreat Go.Proofs.YtdloacfoegjnmaaGreat.Ut Go.Proofs.YtdloacfoegjnmaaGreat.Tk Go.Proofs.YtdloacfoegjnmaaGreat.Qy
set_option linter.unusedSimpArgs false
set_option linter.unusedVariables false

def msgB : ByteArray := ⟨#[109, 115, 103]⟩
def aB : ByteArray := ⟨#[97]⟩
def bB : ByteArray := ⟨#[98]⟩
def cB : ByteArray := ⟨#[99]⟩
def exD1 : Dc := ⟨0, 0, [(msgB, ⟨#[97, 32, 98, 32, 97]⟩)]⟩
def exD2 : Dc := ⟨0, 0, [(msgB, ⟨#[98, 32, 99]⟩)]⟩
def exL : List Ct := [(aB, 1), (bB, 2), (cB, 1)]
theorem wds1 : wdsF msgB exD1.fs = [aB, bB, aB] := by
  have h : words [97, 32, 98, 32, 97] = [[97], [98], [97]] := by kernel_rfl
  simp only [wdsF, exD1, List.flatMap_cons, List.flatMap_nil, List.append_nil, if_true, List.toList_toArray]
  rw [h]
  rfl
theorem wds2 : wdsF msgB exD2.fs = [bB, cB] := by
  have h : words [98, 32, 99] = [[98], [99]] := by kernel_rfl
  simp only [wdsF, exD2, List.flatMap_cons, List.flatMap_nil, List.append_nil, if_true, List.toList_toArray]
  rw [h]
  rfl
theorem lt_ab : ltS aB bB = true := by kernel_rfl
theorem lt_bc : ltS bB cB = true := by kernel_rfl
theorem ne_ab : aB ≠ bB := fun e => by have := lt_ab; rw [e, ltS_irrefl] at this; cases this
theorem ne_bc : bB ≠ cB := fun e => by have := lt_bc; rw [e, ltS_irrefl] at this; cases this
theorem ne_ac : aB ≠ cB := fun e => by have := ltS_trans lt_ab lt_bc; rw [e, ltS_irrefl] at this; cases this
theorem ex_cnt (s : ByteArray) : cntN msgB [exD1, exD2] s = (if inL [aB, bB, aB] s = true then 1 else 0) + (if inL [bB, cB] s = true then 1 else 0) := by
  unfold cntN
  rw [List.countP_cons, List.countP_cons, List.countP_nil, wds1, wds2]
  omega
theorem exTab : IsTab (tabOf (cntN msgB [exD1, exD2])) exL := by
  refine ⟨?_, fun x => ?_⟩
  · refine List.pairwise_cons.2 ⟨fun x hx => ?_, List.pairwise_cons.2 ⟨fun x hx => ?_, List.pairwise_singleton _ _⟩⟩
    · simp only [List.mem_cons, List.not_mem_nil, or_false] at hx
      rcases hx with rfl | rfl
      · exact lt_ab
      · exact ltS_trans lt_ab lt_bc
    · simp only [List.mem_cons, List.not_mem_nil, or_false] at hx
      subst hx
      exact lt_bc
  · obtain ⟨s, n⟩ := x
    unfold tabOf
    rw [ex_cnt]
    simp only [exL, List.mem_cons, List.not_mem_nil, or_false, Prod.mk.injEq]
    have i1 : inL [aB, bB, aB] s = (decide (aB = s) || decide (bB = s)) := by
      simp only [inL, List.any_cons, List.any_nil, Bool.or_false]
      cases decide (aB = s) <;> simp
    have i2 : inL [bB, cB] s = (decide (bB = s) || decide (cB = s)) := by
      simp only [inL, List.any_cons, List.any_nil, Bool.or_false]
    rw [i1, i2]
    by_cases ea : aB = s
    · subst ea
      simp [ne_ab, ne_ab.symm, ne_ac, ne_ac.symm, eq_comm]
    · by_cases eb : bB = s
      · subst eb
        simp [ne_ab, ne_ab.symm, ne_bc, ne_bc.symm, eq_comm]
      · by_cases ec : cB = s
        · subst ec
          simp [ne_ac, ne_ac.symm, ne_bc, ne_bc.symm, eq_comm]
        · have ea' : ¬ s = aB := fun e => ea e.symm
          have eb' : ¬ s = bB := fun e => eb e.symm
          have ec' : ¬ s = cB := fun e => ec e.symm
          simp [ea, eb, ec, ea', eb', ec']
theorem ex_ok : okR exL = true := by kernel_rfl
theorem ex_top : topG exL 1 = [(bB, 2)] := by
  rw [topG_yes ⟨ex_ok, by decide⟩]
  kernel_rfl
theorem ex_err : errG exL 1 = 0 := errG_yes ⟨ex_ok, by decide⟩
theorem ex_tot : totR exL = 4 := by kernel_rfl
theorem ex_totW : totW msgB [exD1, exD2] ≤ 1048576 := by
  unfold totW
  simp only [List.map_cons, List.map_nil, wds1, wds2, List.sum_cons, List.sum_nil, List.length_cons, List.length_nil]
  omega
theorem ex_name : isN msgB.data.toList = true := by kernel_rfl
end Go.Proofs.YtdloacfoegjnmaaGreat.Gr
end

section
/- loggialaw30.awake: the walk. -/
namespace Go.Proofs.YtdloacfoegjnmaaGreat.Gr
open Go.RowKit Go.Proofs.YtdloacfoegjnmaaGreat Go.Proofs.YtdloacfoegjnmaaGreat.Ut Go.Proofs.YtdloacfoegjnmaaGreat.Tk Go.Proofs.YtdloacfoegjnmaaGreat.Qy Go.Sort Go.Shelf Go.Lib
set_option maxRecDepth 20000
set_option linter.unusedSimpArgs false
set_option linter.unusedVariables false

theorem groupOf_any (name : ByteArray) (A : Option Addr) (n c : Nat) (ds : List Dc) (w : World) (hD : DocsAt w w.heap.size A n ds) (hn : n ≤ 1048576) (hs : ∀ d ∈ ds, ∀ f ∈ d.fs, f.2.size ≤ 1048576) (htot : totW name ds ≤ 1048576) (hname : name.size ≤ 140737488351232) (hN : isN name.data.toList = true) :
    Calls Tryz.prog 13 #[.string name, .slice A n c] w fun e w' => ∃ l, IsTab (tabOf (cntN name ds)) l ∧ l.length ≤ 1048576 ∧ ∃ v, e = .returned (.tuple #[v, .int .i64 0]) ∧ w'.ownsRow w.heap.size 62 2 v l.length (ctC l) ∧ Below w.heap.size w w' :=
  callsIn_wide.1 (of_in name A n c ds w hD hn hs htot hname hN)
set_option maxHeartbeats 800000 in
theorem doc_any (s : ByteArray) (w : World) : Calls Tryz.prog 14 #[.string s] w fun e w' => ∃ fb, e = .returned (.agg #[.int .i64 0, .int .i64 0, .slice (some ⟨fb, 0, none⟩) 1 1]) ∧ w.heap.size ≤ fb ∧ Blk w' fb 89 #[.string msgB, .string s] ∧ Below w.heap.size w w' := by
  go_enter Tryz.func14, Tryz.ntmps14
  go_wp2
  have hf := Blk.new (w.alloc (.cells #[.int .i64 0, .int .i64 0, .slice (some ⟨w.heap.size + 1, 0, none⟩) 1 1] 57)) 89 #[.string msgB, .string s]
  rw [World.size_alloc] at hf
  have hh := (Blk.new w 57 #[.int .i64 0, .int .i64 0, .slice (some ⟨w.heap.size + 1, 0, none⟩) 1 1]).alloc (.cells #[.string msgB, .string s] 89)
  exact bodyPost_ret (results_cell rfl rfl (run_loadVar_row _ w.heap.size 57 57 #[.int .i64 0, .int .i64 0, .slice (some ⟨w.heap.size + 1, 0, none⟩) 1 1] (0, 0) _ hh Tryz.underlying57 rfl (by kernel_rfl))) rfl ⟨_, rfl, Nat.le_succ _, hf, ((Below.refl _ _).alloc (Nat.le_refl _) _).alloc (by simp) _⟩
theorem rd_blk {w : World} {g : Nat} {t : TypeId} {cs : Array Value} (h : Blk w g t cs) (n size : Nat) (hn : cs.size = n * size) (xs : List Value) (hx : cs.toList = xs) : Reads w (g + 1) size (some ⟨g, 0, none⟩) n xs := by
  subst hx
  exact ⟨by rw [Array.length_toList]; exact hn, fun _ => ⟨g, 0, rfl, by omega, fun j u hu => by rw [Nat.zero_add, h.cell j]; simpa using hu⟩⟩
set_option maxHeartbeats 1600000 in
theorem awake_any (w : World) : Calls Tryz.prog 6 #[] w fun e w' => e = .returned (.bool true) ∧ Below w.heap.size w w' := by
  have d1 := doc_any ⟨#[97, 32, 98, 32, 97]⟩ w
  go_enter Tryz.func6, Tryz.ntmps6
  go_wp2_with fail
  refine d1.mono ?_
  rintro e w1 ⟨f1, rfl, hf1, hB1, hb1⟩
  have d2 := doc_any ⟨#[98, 32, 99]⟩ w1
  have HB1 := Lib.hid hB1
  have Hb1 := Lib.hid hb1
  clear d1 hB1 hb1
  go_wp2_with fail
  refine d2.mono ?_
  rintro e w2 ⟨f2, rfl, hf2, hB2, hb2⟩
  have hB12 := HB1.out.below hb2 HB1.out.lt
  have Hb2 := Lib.hid (Hb1.out.trans (hb2.mono Hb1.out.size))
  have hbA : Below w2.heap.size w2 (w2.alloc (.cells #[.int .i64 0, .int .i64 0, .slice (some ⟨f1, 0, none⟩) 1 1, .int .i64 0, .int .i64 0, .slice (some ⟨f2, 0, none⟩) 1 1] 57)) := (Below.refl _ _).alloc (Nat.le_refl _) _
  have hDs : DocsAt (w2.alloc (.cells #[.int .i64 0, .int .i64 0, .slice (some ⟨f1, 0, none⟩) 1 1, .int .i64 0, .int .i64 0, .slice (some ⟨f2, 0, none⟩) 1 1] 57)) (w2.alloc (.cells #[.int .i64 0, .int .i64 0, .slice (some ⟨f1, 0, none⟩) 1 1, .int .i64 0, .int .i64 0, .slice (some ⟨f2, 0, none⟩) 1 1] 57)).heap.size (some ⟨w2.heap.size, 0, none⟩) 2 [exD1, exD2] := by
    have hz : (w2.alloc (.cells #[.int .i64 0, .int .i64 0, .slice (some ⟨f1, 0, none⟩) 1 1, .int .i64 0, .int .i64 0, .slice (some ⟨f2, 0, none⟩) 1 1] 57)).heap.size = w2.heap.size + 1 := by simp
    have l1 := hB12.lt
    have l2 := hB2.lt
    have q1 := rd_blk (hB12.below hbA hB12.lt) 1 2 rfl (fldC exD1.fs) rfl
    have q2 := rd_blk (hB2.below hbA hB2.lt) 1 2 rfl (fldC exD2.fs) rfl
    refine ⟨rfl, [[.int .i64 0, .int .i64 0, .slice (some ⟨f1, 0, none⟩) 1 1], [.int .i64 0, .int .i64 0, .slice (some ⟨f2, 0, none⟩) 1 1]], rfl, ?_, fun i h h' => ?_⟩
    · have := rd_blk (Blk.new w2 57 #[.int .i64 0, .int .i64 0, .slice (some ⟨f1, 0, none⟩) 1 1, .int .i64 0, .int .i64 0, .slice (some ⟨f2, 0, none⟩) 1 1]) 2 3 rfl _ rfl
      rw [hz]
      exact this
    · have hi : i = 0 ∨ i = 1 := by simp at h'; omega
      rcases hi with rfl | rfl
      · exact ⟨_, 1, 1, rfl, q1.more (by omega), rfl, by omega, by omega, fun e => by cases e⟩
      · exact ⟨_, 1, 1, rfl, q2.more (by omega), rfl, by omega, by omega, fun e => by cases e⟩
  have c3 := groupOf_any msgB (some ⟨w2.heap.size, 0, none⟩) 2 2 [exD1, exD2] _ hDs (by omega) (fun d hd f hf => by
    simp only [List.mem_cons, List.not_mem_nil, or_false] at hd
    rcases hd with rfl | rfl
    · simp only [exD1, List.mem_cons, List.not_mem_nil, or_false] at hf; subst hf; decide
    · simp only [exD2, List.mem_cons, List.not_mem_nil, or_false] at hf; subst hf; decide) ex_totW (by decide) ex_name
  have Hb3 := Lib.hid (Hb2.out.trans (hbA.mono Hb2.out.size))
  unfold msgB at c3
  clear d2 hB2 hb2 hB12 hbA hDs HB1
  go_wp2_with fail
  refine c3.mono ?_
  rintro e w3 ⟨l, hT, _, v, rfl, hown, hb3⟩
  have hl : l = exL := hT.one exTab
  subst hl
  obtain ⟨A3, k3, rfl, hR3, hnc3, hcm3, hn3, _⟩ := own_shp hown
  have c4 := top_any A3 3 k3 exL 1 w3 hR3 (by omega) (fun x hx => by
    simp only [exL, List.mem_cons, List.not_mem_nil, or_false] at hx
    rcases hx with rfl | rfl | rfl <;> decide) (fun e => (hn3 e).1)
  rw [ex_top, ex_err] at c4
  have Hb4 := Lib.hid (Hb3.out.trans (hb3.mono Hb3.out.size))
  have HR3 := Lib.hid hR3
  clear c3 hT hown hb3 hR3 hn3 hnc3 hcm3
  go_wp2_with fail
  refine c4.mono ?_
  rintro e w4 ⟨A4, k4, rfl, hR4, hb4⟩
  have Hb5 := Lib.hid (Hb4.out.trans (hb4.mono Hb4.out.size))
  have hA5 : Below w4.heap.size w4 (w4.alloc (.cells #[.string aB, .int .i64 1, .string bB, .int .i64 2, .string cB, .int .i64 1] 62)) := (Below.refl _ _).alloc (Nat.le_refl _) _
  have r5 := rd_blk (Blk.new w4 62 #[.string aB, .int .i64 1, .string bB, .int .i64 2, .string cB, .int .i64 1]) 3 2 rfl (ctC exL) rfl
  have r3 := rd_grow (hb4.trans (hA5.mono hb4.size)) HR3.out
  have c5 := gsame_any A3 (some ⟨w4.heap.size, 0, none⟩) k3 3 _ _ exL exL _ r3 r5 (by decide) (by decide)
  rw [decide_eq_true rfl] at c5
  have HR4 := Lib.hid (rd_grow hA5 hR4)
  have HR5 := Lib.hid r3
  have Hb6 := Lib.hid (Hb5.out.trans (hA5.mono Hb5.out.size))
  unfold aB bB cB at *
  clear c4 hR4 hb4 hA5 r5 r3 HR3
  go_wp2_with fail
  refine c5.mono ?_
  rintro e w6 ⟨rfl, hb6⟩
  have hA7 : Below w6.heap.size w6 (w6.alloc (.cells #[.string ⟨#[98]⟩, .int .i64 2] 62)) := (Below.refl _ _).alloc (Nat.le_refl _) _
  have r7 := rd_blk (Blk.new w6 62 #[.string ⟨#[98]⟩, .int .i64 2]) 1 2 rfl (ctC [(⟨#[98]⟩, 2)]) rfl
  have r4 := rd_grow (hb6.trans (hA7.mono hb6.size)) HR4.out
  have c7 := gsame_any A4 (some ⟨w6.heap.size, 0, none⟩) k4 1 _ _ [(⟨#[98]⟩, 2)] [(⟨#[98]⟩, 2)] _ r4 r7 (by decide) (by decide)
  rw [decide_eq_true rfl] at c7
  have HR6 := Lib.hid (rd_grow (hb6.trans (hA7.mono hb6.size)) HR5.out)
  have Hb7 := Lib.hid ((Hb6.out.trans (hb6.mono Hb6.out.size)).trans (hA7.mono (Hb6.out.trans (hb6.mono Hb6.out.size)).size))
  clear c5 hb6 hA7 r7 r4 HR4 HR5
  go_wp2_with fail
  refine c7.mono ?_
  rintro e w8 ⟨rfl, hb8⟩
  have c9 := total_any A3 exL.length k3 exL w8 (rd_grow hb8 HR6.out) (by decide)
  rw [ex_tot] at c9
  have Hb8 := Lib.hid (Hb7.out.trans (hb8.mono Hb7.out.size))
  clear c7 hb8 HR6
  go_wp2_with fail
  refine c9.mono ?_
  rintro e w9 ⟨rfl, hb9⟩
  have Hb9 := Lib.hid (Hb8.out.trans (hb9.mono Hb8.out.size))
  clear c9 hb9
  go_wp2
  go_ret
  exact ⟨by first | rfl | simp, Hb9.out⟩
end Go.Proofs.YtdloacfoegjnmaaGreat.Gr
end

section
/- Parts of docs, counted and merged: plain. -/
namespace Go.Proofs.YtdloacfoegjnmaaGreat.Gr
open Go.RowKit Go.Proofs.YtdloacfoegjnmaaGreat Go.Proofs.YtdloacfoegjnmaaGreat.Ut Go.Proofs.YtdloacfoegjnmaaGreat.Tk Go.Proofs.YtdloacfoegjnmaaGreat.Qy
set_option linter.unusedSimpArgs false
set_option linter.unusedVariables false

theorem w_isW (s : List UInt8) : ∀ x ∈ words s, isW x = true := fun x hx => by
  unfold isW
  rw [(words_word s x hx).1]
  simp
def sumC : List Ct → ByteArray → Int
  | [], _ => 0
  | c :: cs, s => (if c.1 = s then c.2 else 0) + sumC cs s
theorem sumC_app : ∀ (a b : List Ct) (s : ByteArray), sumC (a ++ b) s = sumC a s + sumC b s
  | [], b, s => by simp [sumC]
  | c :: a, b, s => by
    show _ + sumC (a ++ b) s = _ + sumC a s + sumC b s
    rw [sumC_app a b s]
    omega
theorem sumC_pos : ∀ (cs : List Ct) (s : ByteArray), (∀ c ∈ cs, 1 ≤ c.2) → 0 ≤ sumC cs s
  | [], s, _ => Int.le_refl _
  | c :: cs, s, h => by
    have h1 := sumC_pos cs s (fun x hx => h x (List.mem_cons_of_mem _ hx))
    have h2 := h c (List.mem_cons_self ..)
    show 0 ≤ (if c.1 = s then c.2 else 0) + sumC cs s
    split <;> omega
theorem addT_get (f : Tb) (s t : ByteArray) (n : Int) : ((addT f s n) t).getD 0 = (f t).getD 0 + (if s = t then n else 0) := by
  unfold addT putT
  by_cases e : t = s
  · subst e
    rw [if_pos rfl, if_pos rfl]
    rfl
  · rw [if_neg e, if_neg (fun h => e h.symm)]
    omega
theorem mrgT_sum : ∀ (cs : List Ct) (f : Tb), TabOk f → (∀ c ∈ cs, 1 ≤ c.2 ∧ c.2 ≤ 1099511627776) → (∀ s, (f s).getD 0 + sumC cs s ≤ 1099511627776) → ∃ g, mrgT cs f = some g ∧ TabOk g ∧ ∀ s, (g s).getD 0 = (f s).getD 0 + sumC cs s
  | [], f, hf, _, _ => ⟨f, rfl, hf, fun s => by show _ = _ + (0 : Int); omega⟩
  | c :: cs, f, hf, hc, hs => by
    have h1 := hc c (List.mem_cons_self ..)
    have hp := sumC_pos cs c.1 (fun x hx => (hc x (List.mem_cons_of_mem _ hx)).1)
    have hb := hs c.1
    have e : sumC (c :: cs) c.1 = c.2 + sumC cs c.1 := by
      show (if c.1 = c.1 then c.2 else 0) + _ = _
      rw [if_pos rfl]
    rw [e] at hb
    have ht : tooT f c.1 c.2 = false := by
      rw [tooT_iff h1.2]
      exact decide_eq_false (by omega)
    obtain ⟨g, g1, g2, g3⟩ := mrgT_sum cs (addT f c.1 c.2) (hf.add h1 ht) (fun x hx => hc x (List.mem_cons_of_mem _ hx)) (fun s => by
      have := hs s
      rw [addT_get]
      have e : sumC (c :: cs) s = (if c.1 = s then c.2 else 0) + sumC cs s := rfl
      rw [e] at this
      omega)
    refine ⟨g, ?_, g2, fun s => ?_⟩
    · show (if tooT f c.1 c.2 = true then none else mrgT cs (addT f c.1 c.2)) = _
      rw [ht, if_neg (by decide)]
      exact g1
    · rw [g3, addT_get]
      show _ = _ + ((if c.1 = s then c.2 else 0) + sumC cs s)
      omega
theorem sumC_none : ∀ (cs : List Ct) (s : ByteArray), (∀ c ∈ cs, c.1 ≠ s) → sumC cs s = 0
  | [], s, _ => rfl
  | c :: cs, s, h => by
    show (if c.1 = s then c.2 else 0) + sumC cs s = 0
    rw [if_neg (h c (List.mem_cons_self ..)), sumC_none cs s (fun x hx => h x (List.mem_cons_of_mem _ hx))]
    omega
theorem sumC_mem : ∀ (cs : List Ct) (x : Ct), cs.Pairwise (fun x y => x.1 ≠ y.1) → x ∈ cs → sumC cs x.1 = x.2
  | [], x, _, h => (nomatch h)
  | c :: cs, x, hp, h => by
    obtain ⟨h1, h2⟩ := List.pairwise_cons.1 hp
    show (if c.1 = x.1 then c.2 else 0) + sumC cs x.1 = x.2
    rcases List.mem_cons.1 h with rfl | h
    · rw [if_pos rfl, sumC_none cs x.1 (fun y hy e => h1 y hy e.symm)]
      omega
    · rw [if_neg (h1 x h), sumC_mem cs x h2 h]
      omega
theorem tab_ne {f : Tb} {l : List Ct} (h : IsTab f l) : l.Pairwise (fun x y => x.1 ≠ y.1) := h.1.imp (fun {x y} hxy e => by rw [e, ltS_irrefl] at hxy; cases hxy)
theorem sumC_tab {f : Tb} {l : List Ct} (h : IsTab f l) (s : ByteArray) : sumC l s = (f s).getD 0 := by
  cases e : f s with
  | none =>
    exact sumC_none l s (fun c hc ec => by
      have := (h.2 c).1 hc
      rw [ec, e] at this
      cases this)
  | some n =>
    have := sumC_mem l (s, n) (tab_ne h) ((h.2 (s, n)).2 e)
    exact this
theorem tab_eq {f g : Tb} (hf : TabOk f) (hg : TabOk g) (h : ∀ s, (f s).getD 0 = (g s).getD 0) : f = g := by
  funext s
  have hs := h s
  cases e : f s with
  | none =>
    cases e2 : g s with
    | none => rfl
    | some n =>
      rw [e, e2] at hs
      have := hg s n e2
      have hs : (0 : Int) = n := hs
      omega
  | some m =>
    cases e2 : g s with
    | none =>
      rw [e, e2] at hs
      have := hf s m e
      have hs : m = (0 : Int) := hs
      omega
    | some n =>
      rw [e, e2] at hs
      have hs : m = n := hs
      rw [hs]
theorem tabOf_ok {g : ByteArray → Nat} (h : ∀ s, g s ≤ 1099511627776) : TabOk (tabOf g) := by
  intro s n hn
  unfold tabOf at hn
  split at hn
  · cases hn
  · injection hn with hn
    have := h s
    omega
theorem inL_mem {l : List ByteArray} {s : ByteArray} (h : inL l s = true) : s ∈ l := by
  unfold inL at h
  obtain ⟨x, hx, e⟩ := List.any_eq_true.1 h
  rw [← of_decide_eq_true e]
  exact hx
theorem wds_isW (name : ByteArray) (fs : List (ByteArray × ByteArray)) : ∀ s ∈ wdsF name fs, isW s.data.toList = true := by
  intro s hs
  unfold wdsF at hs
  obtain ⟨f, _, hf⟩ := List.mem_flatMap.1 hs
  split at hf
  · obtain ⟨w, hw, rfl⟩ := List.mem_map.1 hf
    rw [str_data]
    exact w_isW _ w hw
  · cases hf
theorem cnt_isW {name : ByteArray} {ds : List Dc} {s : ByteArray} (h : cntN name ds s ≠ 0) : isW s.data.toList = true := by
  have : 0 < ds.countP fun d => inL (wdsF name d.fs) s := Nat.pos_of_ne_zero h
  obtain ⟨d, _, hd⟩ := List.countP_pos_iff.1 this
  exact wds_isW name d.fs s (inL_mem hd)
theorem row_ok {name : ByteArray} {ds : List Dc} {l : List Ct} (h : IsTab (tabOf (cntN name ds)) l) (hl : ds.length ≤ 1099511627776) : okR l = true := by
  refine okR_yes (fun k hk => ?_)
  rw [okK_eq hk]
  have hm := (h.2 l[k]).1 (List.getElem_mem hk)
  have hb := tabOf_ok (fun s => Nat.le_trans (cntN_le name ds s) hl) _ _ hm
  have hne : cntN name ds l[k].1 ≠ 0 := fun e => by
    unfold tabOf at hm
    rw [if_pos e] at hm
    cases hm
  rw [cnt_isW hne, decide_eq_true hb.1, decide_eq_true hb.2]
  by_cases hk0 : k = 0
  · rw [decide_eq_true hk0]; rfl
  · rw [decide_eq_false hk0]
    have := List.pairwise_iff_getElem.1 h.1 (k - 1) k (by omega) hk (by omega)
    rw [this]
    rfl
theorem cntN_app (name : ByteArray) (a b : List Dc) (s : ByteArray) : cntN name (a ++ b) s = cntN name a s + cntN name b s := by
  unfold cntN
  rw [List.countP_append]
/-- Parts, merged, are the whole. -/
theorem parts_law {name : ByteArray} {ds : List Dc} {k : Nat} {a b c : List Ct} {P Q : Option Addr} {p q : Nat} (hl : ds.length ≤ 1099511627776) (ha : IsTab (tabOf (cntN name (ds.take k))) a) (hb : IsTab (tabOf (cntN name (ds.drop k))) b) (hc : IsTab (tabOf (cntN name ds)) c) :
    outM [⟨P, p, a⟩, ⟨Q, q, b⟩] = (c, 0) := by
  have la : (ds.take k).length ≤ 1099511627776 := by rw [List.length_take]; omega
  have lb : (ds.drop k).length ≤ 1099511627776 := by rw [List.length_drop]; omega
  have oa := row_ok ha la
  have ob := row_ok hb lb
  have hok : ∀ j (hj : j < [(⟨P, p, a⟩ : Rw), ⟨Q, q, b⟩].length), okR ([(⟨P, p, a⟩ : Rw), ⟨Q, q, b⟩][j]).l = true := fun j hj => by
    have : j = 0 ∨ j = 1 := by simp at hj; omega
    rcases this with rfl | rfl
    · exact oa
    · exact ob
  have hfl : flatF [⟨P, p, a⟩, ⟨Q, q, b⟩] = a ++ b := by simp [flatF]
  have hsum : ∀ s, sumC (a ++ b) s = (cntN name ds s : Int) := fun s => by
    rw [sumC_app, sumC_tab ha, sumC_tab hb, tabOf_get, tabOf_get]
    have := cntN_app name (ds.take k) (ds.drop k) s
    rw [List.take_append_drop] at this
    omega
  obtain ⟨g, g1, g2, g3⟩ := mrgT_sum (a ++ b) noT TabOk.none (fun x hx => by
    rcases List.mem_append.1 hx with hx | hx
    · exact okR_few oa x hx
    · exact okR_few ob x hx) (fun s => by
    rw [hsum]
    have := cntN_le name ds s
    show (0 : Int) + _ ≤ _
    omega)
  have hg : g = tabOf (cntN name ds) := tab_eq g2 (tabOf_ok (fun s => Nat.le_trans (cntN_le name ds s) hl)) (fun s => by
    rw [g3, hsum, tabOf_get]
    show (0 : Int) + _ = _
    omega)
  refine outM_tab hok (f := g) ?_ (by rw [hg]; exact hc)
  rw [hfl]
  exact g1
theorem few_of : ∀ (l m : List ByteArray), l.Pairwise (fun x y => x ≠ y) → (∀ x ∈ l, x ∈ m) → l.length ≤ m.length
  | [], m, _, _ => Nat.zero_le _
  | x :: l, m, hp, hs => by
    obtain ⟨h1, h2⟩ := List.pairwise_cons.1 hp
    have ih := few_of l (m.filter fun y => !decide (y = x)) h2 (fun y hy => by
      rw [List.mem_filter]
      exact ⟨hs y (List.mem_cons_of_mem _ hy), by have e : ¬ y = x := fun e => h1 y hy e.symm; simp [e]⟩)
    have hlt : (m.filter fun y => !decide (y = x)).length < m.length := by
      rw [List.length_filter_lt_length_iff_exists]
      exact ⟨x, hs x (List.mem_cons_self ..), by simp⟩
    rw [List.length_cons]
    omega
theorem totW_flat (name : ByteArray) (ds : List Dc) : (ds.flatMap fun d => wdsF name d.fs).length = totW name ds := by
  unfold totW
  rw [List.length_flatMap]
theorem tab_len {name : ByteArray} {ds : List Dc} {l : List Ct} (h : IsTab (tabOf (cntN name ds)) l) : l.length ≤ totW name ds := by
  have h1 := few_of (l.map Prod.fst) (ds.flatMap fun d => wdsF name d.fs) (List.pairwise_map.2 (tab_ne h)) (fun s hs => by
    obtain ⟨x, hx, rfl⟩ := List.mem_map.1 hs
    have hm := (h.2 x).1 hx
    have hne : cntN name ds x.1 ≠ 0 := fun e => by
      unfold tabOf at hm
      rw [if_pos e] at hm
      cases hm
    obtain ⟨d, hd, hin⟩ := List.countP_pos_iff.1 (Nat.pos_of_ne_zero hne)
    exact List.mem_flatMap.2 ⟨d, hd, inL_mem hin⟩)
  rw [List.length_map, totW_flat] at h1
  exact h1
theorem totW_app (name : ByteArray) (a b : List Dc) : totW name (a ++ b) = totW name a + totW name b := by
  unfold totW
  rw [List.map_append, List.sum_append]
end Go.Proofs.YtdloacfoegjnmaaGreat.Gr
end

section
/- The document's Of: plain. -/
namespace Go.Proofs.YtdloacfoegjnmaaGreat.Gr
open Go.RowKit Go.Proofs.YtdloacfoegjnmaaGreat Go.Proofs.YtdloacfoegjnmaaGreat.Ut Go.Proofs.YtdloacfoegjnmaaGreat.Tk Go.Proofs.YtdloacfoegjnmaaGreat.Qy
set_option linter.unusedSimpArgs false
set_option linter.unusedVariables false

def addW (out : List ByteArray) (w : ByteArray) : List ByteArray := if inL out w = true then out else out ++ [w]
/-- A field's words, each once. -/
def wdsU (name : ByteArray) (fs : List (ByteArray × ByteArray)) : List ByteArray := (wdsF name fs).foldl addW []
theorem inL_app (a b : List ByteArray) (s : ByteArray) : inL (a ++ b) s = (inL a s || inL b s) := by
  unfold inL
  rw [List.any_append]
theorem inL_one (w s : ByteArray) : inL [w] s = decide (w = s) := by simp [inL]
theorem addW_in (out : List ByteArray) (w s : ByteArray) : inL (addW out w) s = (inL out s || decide (w = s)) := by
  unfold addW
  split
  · rename_i h
    by_cases e : w = s
    · subst e
      rw [h]
      rfl
    · rw [decide_eq_false e, Bool.or_false]
  · rw [inL_app, inL_one]
theorem foldl_in : ∀ (l out : List ByteArray) (s : ByteArray), inL (l.foldl addW out) s = (inL out s || inL l s)
  | [], out, s => by simp [inL]
  | w :: l, out, s => by
    rw [List.foldl_cons, foldl_in l, addW_in]
    show _ = (inL out s || (decide (w = s) || inL l s))
    rw [Bool.or_assoc]
theorem addW_ne {out : List ByteArray} {w : ByteArray} (h : out.Pairwise (fun x y => x ≠ y)) : (addW out w).Pairwise (fun x y => x ≠ y) := by
  unfold addW
  split
  · exact h
  · rename_i hn
    refine List.pairwise_append.2 ⟨h, List.pairwise_singleton _ _, fun x hx y hy e => ?_⟩
    rw [List.mem_singleton] at hy
    subst hy
    subst e
    exact hn (List.any_eq_true.2 ⟨x, hx, decide_eq_true rfl⟩)
theorem foldl_ne : ∀ (l out : List ByteArray), out.Pairwise (fun x y => x ≠ y) → (l.foldl addW out).Pairwise (fun x y => x ≠ y)
  | [], out, h => h
  | w :: l, out, h => foldl_ne l _ (addW_ne h)
theorem addW_len (out : List ByteArray) (w : ByteArray) : (addW out w).length ≤ out.length + 1 := by
  unfold addW
  split
  · omega
  · rw [List.length_append, List.length_singleton]; omega
theorem foldl_len : ∀ (l out : List ByteArray), (l.foldl addW out).length ≤ out.length + l.length
  | [], out => Nat.le_refl _
  | w :: l, out => by
    have h1 := foldl_len l (addW out w)
    have h2 := addW_len out w
    rw [List.foldl_cons, List.length_cons]
    omega
theorem foldl_all (p : ByteArray → Prop) : ∀ (l out : List ByteArray), (∀ x ∈ out, p x) → (∀ x ∈ l, p x) → ∀ x ∈ l.foldl addW out, p x
  | [], out, h, _ => h
  | w :: l, out, h, hl => by
    refine foldl_all p l (addW out w) (fun x hx => ?_) (fun x hx => hl x (List.mem_cons_of_mem _ hx))
    unfold addW at hx
    split at hx
    · exact h x hx
    · rcases List.mem_append.1 hx with hx | hx
      · exact h x hx
      · rw [List.mem_singleton] at hx
        subst hx
        exact hl x (List.mem_cons_self ..)
theorem wdsU_in (name : ByteArray) (fs : List (ByteArray × ByteArray)) (s : ByteArray) : inL (wdsU name fs) s = inL (wdsF name fs) s := by
  unfold wdsU
  rw [foldl_in]
  rfl
theorem wdsU_ne (name : ByteArray) (fs : List (ByteArray × ByteArray)) : (wdsU name fs).Pairwise (fun x y => x ≠ y) := foldl_ne _ [] List.Pairwise.nil
theorem wdsU_len (name : ByteArray) (fs : List (ByteArray × ByteArray)) : (wdsU name fs).length ≤ (wdsF name fs).length := by
  have := foldl_len (wdsF name fs) []
  rw [List.length_nil, Nat.zero_add] at this
  exact this
theorem wdsF_w (name : ByteArray) (fs : List (ByteArray × ByteArray)) : ∀ s ∈ wdsF name fs, s.size ≤ 32 := by
  intro s hs
  unfold wdsF at hs
  obtain ⟨f, _, hf⟩ := List.mem_flatMap.1 hs
  split at hf
  · obtain ⟨w, hw, rfl⟩ := List.mem_map.1 hf
    rw [str_size]
    exact (words_word _ w hw).2
  · cases hf
theorem wdsU_w (name : ByteArray) (fs : List (ByteArray × ByteArray)) : ∀ s ∈ wdsU name fs, s.size ≤ 32 := foldl_all _ _ _ (fun x hx => (nomatch hx)) (wdsF_w name fs)
theorem count_one : ∀ {us : List ByteArray}, us.Pairwise (fun x y => x ≠ y) → ∀ s, us.countP (fun x => decide (x = s)) = if inL us s then 1 else 0
  | [], _, s => rfl
  | x :: us, h, s => by
    obtain ⟨h1, h2⟩ := List.pairwise_cons.1 h
    have ih := count_one h2 s
    have e : inL (x :: us) s = (decide (x = s) || inL us s) := rfl
    rw [List.countP_cons, ih, e]
    by_cases e : x = s
    · have hno : inL us s = false := by
        unfold inL
        rw [List.any_eq_false]
        intro y hy ey
        exact h1 y hy (e.trans (of_decide_eq_true ey).symm)
      rw [hno, decide_eq_true e]
      rfl
    · rw [decide_eq_false e, Bool.false_or]
      rfl
/-- The table, some words of the next doc in it. -/
def gAt (name : ByteArray) (ds : List Dc) (us : List ByteArray) (k : Nat) : ByteArray → Nat := fun s => cntN name ds s + (us.take k).countP (fun x => decide (x = s))
theorem gAt_zero (name : ByteArray) (ds : List Dc) (us : List ByteArray) : tabOf (gAt name ds us 0) = tabOf (cntN name ds) := tabOf_congr (fun s => by simp [gAt])
theorem gAt_all (name : ByteArray) (ds : List Dc) (i : Nat) (h : i < ds.length) : tabOf (gAt name (ds.take i) (wdsU name ds[i].fs) (wdsU name ds[i].fs).length) = tabOf (cntN name (ds.take (i + 1))) := tabOf_congr (fun s => by
  unfold gAt
  rw [List.take_length, count_one (wdsU_ne name ds[i].fs), wdsU_in, cntN_snoc name ds i h])
theorem gAt_le (name : ByteArray) (ds : List Dc) (us : List ByteArray) (k : Nat) (s : ByteArray) : gAt name ds us k s ≤ ds.length + us.length := by
  have h1 := cntN_le name ds s
  have h2 : (us.take k).countP (fun x => decide (x = s)) ≤ (us.take k).length := List.countP_le_length
  rw [List.length_take] at h2
  unfold gAt
  omega
/-- One word more. -/
theorem with_one {g : ByteArray → Nat} {l : List Ct} (h : IsTab (tabOf g) l) (w : ByteArray) (hg : g w ≤ 1099511627775) : (withR l w 1).2 = true ∧ IsTab (tabOf (fun t => g t + if t = w then 1 else 0)) (withR l w 1).1 := by
  have ht : tooT (tabOf g) w 1 = false := by
    rw [tooT_iff (by omega), tabOf_get]
    exact decide_eq_false (by omega)
  obtain ⟨h1, h2⟩ := (with_tab h w 1).2 ht
  refine ⟨h1, ?_⟩
  have e : addT (tabOf g) w 1 = tabOf (fun t => g t + if t = w then 1 else 0) := by
    unfold addT
    rw [tabOf_get, tabOf_put]
  rw [← e]
  exact h2
theorem gAt_snoc (name : ByteArray) (ds : List Dc) (us : List ByteArray) (k : Nat) (h : k < us.length) : tabOf (fun t => gAt name ds us k t + if t = us[k] then 1 else 0) = tabOf (gAt name ds us (k + 1)) := tabOf_congr (fun s => by
  unfold gAt
  rw [List.take_succ_eq_append_getElem h, List.countP_append]
  by_cases e : s = us[k]
  · subst e
    simp [Nat.add_assoc]
  · have e2 : ¬ us[k] = s := fun h => e h.symm
    simp [e, e2])
end Go.Proofs.YtdloacfoegjnmaaGreat.Gr
end
