/- The document's Same at events, docs, ints, posts: at equal rows (printed by gen_mxg.py). -/
import Derived.Deep.QuietTactic
import Derived.BigQuiet
import Derived.Test.YtioekhiaoajgfaaGreatPkMemidxForksRow27
import Derived.Test.YtioekhiaoajgfaaGreatPkMemidxForksRow21
namespace Go.Proofs.YtioekhiaoajgfaaGreat.Mx
open Go.RowKit Go.Proofs.YtioekhiaoajgfaaGreat Go.Proofs.YtioekhiaoajgfaaGreat.Ut Go.Proofs.YtioekhiaoajgfaaGreat.Tk Go.Proofs.YtioekhiaoajgfaaGreat.Qy Go.Proofs.YtioekhiaoajgfaaGreat.Ev Go.Proofs.YtioekhiaoajgfaaGreat.Qp Go.Proofs.YtioekhiaoajgfaaGreat.Mv
set_option linter.unusedVariables false
set_option linter.unusedSimpArgs false
set_option maxRecDepth 20000

theorem reads_gr {w1 w2 : World} {A : Option Addr} {k n : Nat} {xs : List Value} (hb : Below w1.heap.size w1 w2) (h : Reads w1 w1.heap.size k A n xs) : Reads w2 w2.heap.size k A n xs := (h.below hb).more hb.size
theorem below_dN {B : Nat} {a w : World} (h : Below B a w) (n : Nat) : Below B a (w.drewN n) := ⟨h.os, h.tape, h.output, h.size, h.block⟩
/-- A row of docs that reads. -/
structure DocRd (w : World) (A : Option Addr) (n : Nat) (ds : List Dc) : Prop where
  ln : ds.length = n
  at_ : ∀ {i : Nat} (h : i < ds.length), ∃ b o F fn f, A = some ⟨b, o, none⟩ ∧ b < w.heap.size ∧ w.cell? ⟨b, o + i * 3, none⟩ = some (.int .i64 ds[i].seq) ∧ w.cell? ⟨b, o + i * 3 + 1, none⟩ = some (.int .i64 ds[i].at_) ∧ w.cell? ⟨b, o + i * 3 + 2, none⟩ = some (.slice F fn f) ∧ Reads w w.heap.size 2 F fn (fldC ds[i].fs) ∧ ds[i].fs.length = fn ∧ fn ≤ 8796093021952
theorem DocRd.grow {w w' : World} {A : Option Addr} {n : Nat} {ds : List Dc} (h : DocRd w A n ds) (hb : Below w.heap.size w w') : DocRd w' A n ds :=
  ⟨h.ln, fun {i} hi => by
    obtain ⟨b, o, F, fn, f, e, hlt, c0, c1, c2, r, q⟩ := h.at_ hi
    exact ⟨b, o, F, fn, f, e, Nat.lt_of_lt_of_le hlt hb.size, (hb.cell hlt).trans c0, (hb.cell hlt).trans c1, (hb.cell hlt).trans c2, reads_gr hb r, q⟩⟩
theorem DocRd.of {w : World} {R S : Nat → Prop} {A : Option Addr} {n : Nat} {ds : List Dc} (h : DocsS w R S A n ds) (hR : ∀ b, R b → b < w.heap.size) (hS : ∀ b, S b → b < w.heap.size) : DocRd w A n ds :=
  ⟨h.1, fun {i} hi => by
    obtain ⟨b, o, F, fn, f, e, hb, c0, c1, c2, r, q1, q2, _⟩ := h.at_ hi
    exact ⟨b, o, F, fn, f, e, hR _ hb, c0, c1, c2, r.reads hS, q1, q2⟩⟩
/-- A row of posts that reads. -/
structure PostRd (w : World) (A : Option Addr) (n : Nat) (l : List Po) : Prop where
  ln : l.length = n
  at_ : ∀ {i : Nat} (h : i < l.length), ∃ b o F fn f, A = some ⟨b, o, none⟩ ∧ b < w.heap.size ∧ w.cell? ⟨b, o + i * 2, none⟩ = some (.int .i64 (l[i].1 : Nat)) ∧ w.cell? ⟨b, o + i * 2 + 1, none⟩ = some (.slice F fn f) ∧ Reads w w.heap.size 1 F fn (nC l[i].2) ∧ l[i].2.length = fn ∧ fn ≤ 8796093021952
theorem PostRd.grow {w w' : World} {A : Option Addr} {n : Nat} {l : List Po} (h : PostRd w A n l) (hb : Below w.heap.size w w') : PostRd w' A n l :=
  ⟨h.ln, fun {i} hi => by
    obtain ⟨b, o, F, fn, f, e, hlt, c0, c1, r, q⟩ := h.at_ hi
    exact ⟨b, o, F, fn, f, e, Nat.lt_of_lt_of_le hlt hb.size, (hb.cell hlt).trans c0, (hb.cell hlt).trans c1, reads_gr hb r, q⟩⟩
theorem PostRd.of {w : World} {n0 c : Nat} {A : Option Addr} {n : Nat} {l : List Po} (h : PRow w n0 (.slice A n c) l) (hn : l.length = n) : PostRd w A n l := by
  obtain ⟨xs, h1, h2, h3⟩ := h.ex
  have hl : xs.length = n := by rw [← hn, ← h1, List.length_map]
  rw [hn] at h2
  refine ⟨hn, fun {i} hi => ?_⟩
  have hix : i < xs.length := by omega
  obtain ⟨g, P, pc, e, hg, c0, c1, _, r, _, q⟩ := post_at h2 hl h3 hix
  have e1 : l[i] = prP xs[i] := by
    have h4 : l[i]? = (xs.map prP)[i]? := by rw [h1]
    rw [List.getElem?_eq_getElem hi, List.getElem?_map, List.getElem?_eq_getElem hix] at h4
    injection h4
  rw [e1]
  exact ⟨g, 0, P, _, pc, e, hg, by rw [Nat.zero_add]; exact c0, by rw [Nat.zero_add]; exact c1, r, rfl, by omega⟩
set_option maxHeartbeats 1600000 in
theorem sameE_eq (t : Int) (F1 F2 : Option Addr) (n c1 c2 : Nat) (fs : List (ByteArray × ByteArray)) (w : World) (h1 : Reads w w.heap.size 2 F1 n (fldC fs)) (h2 : Reads w w.heap.size 2 F2 n (fldC fs)) (hl : fs.length = n) (hn : n ≤ 8796093021952) :
    Calls Tryz.prog 45 #[.agg #[.int .i64 t, .slice F1 n c1], .agg #[.int .i64 t, .slice F2 n c2]] w fun e w' => e = .returned (.bool true) ∧ Below w.heap.size w w' := by
  have hb1 : Below w.heap.size w (w.alloc (.cells #[.int .i64 t, .slice F1 n c1] 51)) := (Below.refl _ _).alloc (Nat.le_refl _) _
  have hb2 : Below w.heap.size w ((w.alloc (.cells #[.int .i64 t, .slice F1 n c1] 51)).alloc (.cells #[.int .i64 t, .slice F2 n c2] 51)) := hb1.alloc hb1.size _
  have hB1 := (Blk.new w 51 #[.int .i64 t, .slice F1 n c1]).alloc (.cells #[.int .i64 t, .slice F2 n c2] 51)
  have hB2 := Blk.new (w.alloc (.cells #[.int .i64 t, .slice F1 n c1] 51)) 51 #[.int .i64 t, .slice F2 n c2]
  have z1 : (w.alloc (.cells #[.int .i64 t, .slice F1 n c1] 51)).heap.size = w.heap.size + 1 := by simp
  rw [z1] at hB2
  have z2 : w.heap.size + 1 < (World.heap ((w.alloc (.cells #[.int .i64 t, .slice F1 n c1] 51)).alloc (.cells #[.int .i64 t, .slice F2 n c2] 51))).size := by simp
  have H1 := Lib.hid (reads_gr hb2 h1)
  have H2 := Lib.hid (reads_gr hb2 h2)
  have HB1 := Lib.hid hB1
  have HB2 := Lib.hid hB2
  have Hb2 := Lib.hid hb2
  have Hl := Lib.hid hl
  have htt : (t == t) = true := by simp
  have htn : (t != t) = false := by simp
  clear h1 h2 hl hb1 hb2 hB1 hB2 z1
  go_enter Tryz.func45, Tryz.ntmps45
  go_wp2_with fail
  generalize hw2 : ((w.alloc (.cells #[.int .i64 t, .slice F1 n c1] 51)).alloc (.cells #[.int .i64 t, .slice F2 n c2] 51)) = w2 at *
  clear hw2
  go_loopw [5] (fun i wr => ∃ k : Nat, k ≤ n ∧ i = .int .i64 k ∧ Below w2.heap.size w2 wr) (fun i _ => n - (intOf i).toNat)
  case atStart => exact ⟨0, Nat.zero_le _, rfl, Below.refl _ _⟩
  case round =>
    obtain ⟨k, hk, rfl, hb⟩ := hrel
    have hq1 := (HB1.out.below hb (by omega)).cell 1
    have hq2 := (HB2.out.below hb (by omega)).cell 1
    simp at hq1 hq2
    by_cases hlt : k < n
    · obtain ⟨b1, o1, rfl, hl1, g1, g2⟩ := fields_at (reads_gr hb H1.out) (k := k) (by rw [Hl.out]; exact hlt)
      obtain ⟨b2, o2, rfl, hl2, g3, g4⟩ := fields_at (reads_gr hb H2.out) (k := k) (by rw [Hl.out]; exact hlt)
      have hi0 : (0 : Int) ≤ (k : Int) := by omega
      have hi1 : (k : Int) < (n : Int) := by omega
      have Hb := Lib.hid hb
      generalize (fs[k]'(by rw [Hl.out]; exact hlt)) = f at *
      obtain ⟨x, y⟩ := f
      clear hb
      go_wp2_with fail
      go_quiet (fail)
      go_wp2
      go_roundw
      case rel => exact ⟨k + 1, by omega, by go_num, below_dN Hb.out nq⟩
      case measure => simp [intOf]; omega
    · obtain rfl : k = n := by omega
      have Hb := Lib.hid (Hb2.out.trans (hb.mono Hb2.out.size))
      clear hb
      go_wp2
      go_ret
      exact ⟨rfl, Hb.out⟩
set_option maxHeartbeats 1600000 in
theorem sameDs_eq (A1 A2 : Option Addr) (n c1 c2 : Nat) (ds : List Dc) (w : World) (h1 : DocRd w A1 n ds) (h2 : DocRd w A2 n ds) (hn : n ≤ 8796093021952) :
    Calls Tryz.prog 20 #[.slice A1 n c1, .slice A2 n c2] w fun e w' => e = .returned (.bool true) ∧ Below w.heap.size w w' := by
  have H1 := Lib.hid h1
  have H2 := Lib.hid h2
  have Hl := Lib.hid h1.ln
  clear h1 h2
  go_enter Tryz.func20, Tryz.ntmps20
  go_wp2
  go_loopw [5] (fun i wr => ∃ k : Nat, k ≤ n ∧ i = .int .i64 k ∧ Below w.heap.size w wr) (fun i _ => n - (intOf i).toNat)
  case atStart => exact ⟨0, Nat.zero_le _, rfl, Below.refl _ _⟩
  case round =>
    obtain ⟨k, hk, rfl, hb⟩ := hrel
    by_cases hlt : k < n
    · obtain ⟨b1, o1, F1, n1, f1, rfl, hl1, g0, g1, g2, hR1, hln, hfn⟩ := (H1.out.grow hb).at_ (i := k) (by rw [Hl.out]; exact hlt)
      obtain ⟨b2, o2, F2, n2, f2, rfl, hl2, g3, g4, g5, hR2, hln2, _⟩ := (H2.out.grow hb).at_ (i := k) (by rw [Hl.out]; exact hlt)
      rw [hln] at hln2
      subst hln2
      have hi0 : (0 : Int) ≤ (k : Int) := by omega
      have hi1 : (k : Int) < (n : Int) := by omega
      have C1 : Hid (∀ wx, Below wr.heap.size wr wx → Calls Tryz.prog 45 #[.agg #[.int .i64 (ds[k]'(by rw [Hl.out]; exact hlt)).at_, .slice F1 n1 f1], .agg #[.int .i64 (ds[k]'(by rw [Hl.out]; exact hlt)).at_, .slice F2 n1 f2]] wx fun e w' => e = .returned (.bool true) ∧ Below wx.heap.size wx w') := Lib.hid (fun wx hC => sameE_eq _ F1 F2 n1 f1 f2 _ wx (reads_gr hC hR1) (reads_gr hC hR2) hln hfn)
      have Hb := Lib.hid hb
      clear hR1 hR2 hln hb
      generalize (ds[k]'(by rw [Hl.out]; exact hlt)).seq = s at *
      generalize (ds[k]'(by rw [Hl.out]; exact hlt)).at_ = a at *
      have hss : (s != s) = false := by simp
      have hcells : ∀ wx, Below wr.heap.size wr wx → wx.cell? ⟨b1, o1 + k * 3, none⟩ = some (.int .i64 s) ∧ wx.cell? ⟨b1, o1 + k * 3 + 1, none⟩ = some (.int .i64 a) ∧ wx.cell? ⟨b1, o1 + k * 3 + 2, none⟩ = some (.slice F1 n1 f1) ∧
          wx.cell? ⟨b2, o2 + k * 3, none⟩ = some (.int .i64 s) ∧ wx.cell? ⟨b2, o2 + k * 3 + 1, none⟩ = some (.int .i64 a) ∧ wx.cell? ⟨b2, o2 + k * 3 + 2, none⟩ = some (.slice F2 n1 f2) := fun wx hC =>
        ⟨(hC.cell (p := ⟨b1, o1 + k * 3, none⟩) hl1).trans g0, (hC.cell (p := ⟨b1, o1 + k * 3 + 1, none⟩) hl1).trans g1, (hC.cell (p := ⟨b1, o1 + k * 3 + 2, none⟩) hl1).trans g2,
         (hC.cell (p := ⟨b2, o2 + k * 3, none⟩) hl2).trans g3, (hC.cell (p := ⟨b2, o2 + k * 3 + 1, none⟩) hl2).trans g4, (hC.cell (p := ⟨b2, o2 + k * 3 + 2, none⟩) hl2).trans g5⟩
      have hcells' := Lib.hid hcells
      clear hcells g0 g1 g2 g3 g4 g5
      go_wp2_with fail
      refine wp_region_grow (specOf [(22, ⟨Unit, fun _ => (.bool true), fun _ _ => True⟩)]) (fun wx => Below (World.heap wr).size wr wx) (fun w1 w2 => Below w1.heap.size w1 w2) (by kernel_rfl) (by kernel_rfl) (stab_cons (fun _ _ _ _ h => h) (stab_nil)) (Below.refl _ _).drew ?_
      refine grow_fix 1 ?_ rfl (by rfl) (by rfl) (fun wx hC hD => ?_) ?_
      rotate_left
      · have hSw := hcells'.out wx hC
        go_simp
        all_goals with_reducible rfl
      try simp only [Act.put, List.setIfInBounds_toArray, List.set_cons_zero, List.set_cons_succ]
      refine grow_fix 2 ?_ rfl (by rfl) (by rfl) (fun wx hC hD => ?_) ?_
      rotate_left
      · have hSw := hcells'.out wx hC
        go_simp
        all_goals with_reducible rfl
      try simp only [Act.put, List.setIfInBounds_toArray, List.set_cons_zero, List.set_cons_succ]
      refine grow_fix 3 ?_ rfl (by rfl) (by rfl) (fun wx hC hD => ?_) ?_
      rotate_left
      · have hSw := hcells'.out wx hC
        go_simp
        all_goals with_reducible rfl
      try simp only [Act.put, List.setIfInBounds_toArray, List.set_cons_zero, List.set_cons_succ]
      refine grow_fix 4 ?_ rfl (by rfl) (by rfl) (fun wx hC hD => ?_) ?_
      rotate_left
      · have hSw := hcells'.out wx hC
        go_simp
        all_goals with_reducible rfl
      try simp only [Act.put, List.setIfInBounds_toArray, List.set_cons_zero, List.set_cons_succ]
      refine grow_fix 5 ?_ rfl (by rfl) (by rfl) (fun wx hC hD => ?_) ?_
      rotate_left
      · have hSw := hcells'.out wx hC
        go_simp
        all_goals with_reducible rfl
      try simp only [Act.put, List.setIfInBounds_toArray, List.set_cons_zero, List.set_cons_succ]
      refine grow_fix 6 ?_ rfl (by rfl) (by rfl) (fun wx hC hD => ?_) ?_
      rotate_left
      · have hSw := hcells'.out wx hC
        go_simp
        all_goals with_reducible rfl
      try simp only [Act.put, List.setIfInBounds_toArray, List.set_cons_zero, List.set_cons_succ]
      refine grow_fix 7 ?_ rfl (by rfl) (by rfl) (fun wx hC hD => ?_) ?_
      rotate_left
      · have hSw := hcells'.out wx hC
        go_simp
        all_goals with_reducible rfl
      try simp only [Act.put, List.setIfInBounds_toArray, List.set_cons_zero, List.set_cons_succ]
      refine grow_fix 8 ?_ rfl (by rfl) (by rfl) (fun wx hC hD => ?_) ?_
      rotate_left
      · have hSw := hcells'.out wx hC
        go_simp
        all_goals with_reducible rfl
      try simp only [Act.put, List.setIfInBounds_toArray, List.set_cons_zero, List.set_cons_succ]
      refine grow_fix 9 ?_ rfl (by rfl) (by rfl) (fun wx hC hD => ?_) ?_
      rotate_left
      · have hSw := hcells'.out wx hC
        go_simp
        all_goals with_reducible rfl
      try simp only [Act.put, List.setIfInBounds_toArray, List.set_cons_zero, List.set_cons_succ]
      refine grow_fix 10 ?_ rfl (by rfl) (by rfl) (fun wx hC hD => ?_) ?_
      rotate_left
      · have hSw := hcells'.out wx hC
        go_simp
        all_goals with_reducible rfl
      try simp only [Act.put, List.setIfInBounds_toArray, List.set_cons_zero, List.set_cons_succ]
      refine grow_fix 11 ?_ rfl (by rfl) (by rfl) (fun wx hC hD => ?_) ?_
      rotate_left
      · have hSw := hcells'.out wx hC
        go_simp
        all_goals with_reducible rfl
      try simp only [Act.put, List.setIfInBounds_toArray, List.set_cons_zero, List.set_cons_succ]
      refine grow_fix 12 ?_ rfl (by rfl) (by rfl) (fun wx hC hD => ?_) ?_
      rotate_left
      · have hSw := hcells'.out wx hC
        go_simp
        all_goals with_reducible rfl
      try simp only [Act.put, List.setIfInBounds_toArray, List.set_cons_zero, List.set_cons_succ]
      refine grow_fix 13 ?_ rfl (by rfl) (by rfl) (fun wx hC hD => ?_) ?_
      rotate_left
      · have hSw := hcells'.out wx hC
        go_simp
        all_goals with_reducible rfl
      try simp only [Act.put, List.setIfInBounds_toArray, List.set_cons_zero, List.set_cons_succ]
      refine grow_fix 14 ?_ rfl (by rfl) (by rfl) (fun wx hC hD => ?_) ?_
      rotate_left
      · have hSw := hcells'.out wx hC
        go_simp
        all_goals with_reducible rfl
      try simp only [Act.put, List.setIfInBounds_toArray, List.set_cons_zero, List.set_cons_succ]
      refine grow_fix 15 ?_ rfl (by rfl) (by rfl) (fun wx hC hD => ?_) ?_
      rotate_left
      · have hSw := hcells'.out wx hC
        go_simp
        all_goals with_reducible rfl
      try simp only [Act.put, List.setIfInBounds_toArray, List.set_cons_zero, List.set_cons_succ]
      refine grow_fix 16 ?_ rfl (by rfl) (by rfl) (fun wx hC hD => ?_) ?_
      rotate_left
      · have hSw := hcells'.out wx hC
        go_simp
        all_goals with_reducible rfl
      try simp only [Act.put, List.setIfInBounds_toArray, List.set_cons_zero, List.set_cons_succ]
      refine grow_fix 17 ?_ rfl (by rfl) (by rfl) (fun wx hC hD => ?_) ?_
      rotate_left
      · have hSw := hcells'.out wx hC
        go_simp
        all_goals with_reducible rfl
      try simp only [Act.put, List.setIfInBounds_toArray, List.set_cons_zero, List.set_cons_succ]
      refine grow_fix 18 ?_ rfl (by rfl) (by rfl) (fun wx hC hD => ?_) ?_
      rotate_left
      · have hSw := hcells'.out wx hC
        go_simp
        all_goals with_reducible rfl
      try simp only [Act.put, List.setIfInBounds_toArray, List.set_cons_zero, List.set_cons_succ]
      refine grow_fix 19 ?_ rfl (by rfl) (by rfl) (fun wx hC hD => ?_) ?_
      rotate_left
      · have hSw := hcells'.out wx hC
        go_simp
        all_goals with_reducible rfl
      try simp only [Act.put, List.setIfInBounds_toArray, List.set_cons_zero, List.set_cons_succ]
      refine grow_fix 20 ?_ rfl (by rfl) (by rfl) (fun wx hC hD => ?_) ?_
      rotate_left
      · have hSw := hcells'.out wx hC
        go_simp
        all_goals with_reducible rfl
      try simp only [Act.put, List.setIfInBounds_toArray, List.set_cons_zero, List.set_cons_succ]
      refine grow_fix 21 ?_ rfl (by rfl) (by rfl) (fun wx hC hD => ?_) ?_
      rotate_left
      · have hSw := hcells'.out wx hC
        go_simp
        all_goals with_reducible rfl
      try simp only [Act.put, List.setIfInBounds_toArray, List.set_cons_zero, List.set_cons_succ]
      refine grow_fix 22 ?_ rfl (by rfl) (by rfl) (fun wx hC hD => ?_) ?_
      rotate_left
      · have hSw := hcells'.out wx hC
        go_simp
        all_goals with_reducible rfl
      try simp only [Act.put, List.setIfInBounds_toArray, List.set_cons_zero, List.set_cons_succ]
      refine grow_give 23 _ rfl (by rfl) (by rfl) (fun wx hC hD => ?_) (fun x => ?_)
      · refine give_enter (f := ?_) (args := ?_) ?_ ?_
        rotate_left 2
        · have hSw := hcells'.out wx hC
          go_simp
          all_goals first | with_reducible rfl | (refine ⟨?_, ?_⟩ <;> with_reducible rfl)
        exact calls_cst hC (C1.out wx hC)
      obtain ⟨⟩ := x
      try simp only [Act.put, List.setIfInBounds_toArray, List.set_cons_zero, List.set_cons_succ]
      refine grow_fix 24 ?_ rfl (by rfl) (by rfl) (fun wx hC hD => ?_) ?_
      rotate_left
      · have hSw := hcells'.out wx hC
        go_simp
        all_goals with_reducible rfl
      try simp only [Act.put, List.setIfInBounds_toArray, List.set_cons_zero, List.set_cons_succ]
      refine grow_fix 25 ?_ rfl (by rfl) (by rfl) (fun wx hC hD => ?_) ?_
      rotate_left
      · have hSw := hcells'.out wx hC
        go_simp
        all_goals with_reducible rfl
      try simp only [Act.put, List.setIfInBounds_toArray, List.set_cons_zero, List.set_cons_succ]
      refine grow_nil (fun w2 hC hF => ?_)
      have Hb2 := Lib.hid (Hb.out.trans (hC.mono Hb.out.size))
      clear hF hC
      go_wp2
      go_roundw
      case rel => exact ⟨k + 1, by omega, by go_num, Hb2.out⟩
      case measure => simp [intOf]; omega
    · obtain rfl : k = n := by omega
      have Hb := Lib.hid hb
      clear hb
      go_wp2
      go_ret
      exact ⟨rfl, Hb.out⟩
set_option maxHeartbeats 1600000 in
theorem sameI_eq (F1 F2 : Option Addr) (n c1 c2 : Nat) (ps : List Nat) (w : World) (h1 : Reads w w.heap.size 1 F1 n (nC ps)) (h2 : Reads w w.heap.size 1 F2 n (nC ps)) (hl : ps.length = n) (hn : n ≤ 8796093021952) :
    Calls Tryz.prog 38 #[.slice F1 n c1, .slice F2 n c2] w fun e w' => e = .returned (.bool true) ∧ Below w.heap.size w w' := by
  have H1 := Lib.hid h1
  have H2 := Lib.hid h2
  have Hl := Lib.hid hl
  clear h1 h2 hl
  go_enter Tryz.func38, Tryz.ntmps38
  go_wp2
  go_loopw [5] (fun i wr => ∃ k : Nat, k ≤ n ∧ i = .int .i64 k ∧ Below w.heap.size w wr) (fun i _ => n - (intOf i).toNat)
  case atStart => exact ⟨0, Nat.zero_le _, rfl, Below.refl _ _⟩
  case round =>
    obtain ⟨k, hk, rfl, hb⟩ := hrel
    by_cases hlt : k < n
    · have hkp : k < ps.length := by rw [Hl.out]; exact hlt
      have hcl : (nC ps)[k]? = some (.int .i64 (ps[k] : Nat)) := by unfold nC; rw [List.getElem?_map, List.getElem?_eq_getElem hkp]; rfl
      obtain ⟨b1, o1, rfl, hl1, g1⟩ := (reads_gr hb H1.out).2 (by omega)
      obtain ⟨b2, o2, rfl, hl2, g2⟩ := (reads_gr hb H2.out).2 (by omega)
      have g1 := g1 k _ hcl
      have g2 := g2 k _ hcl
      generalize ((ps[k] : Nat) : Int) = s at *
      have hss : (s != s) = false := by simp
      have hi0 : (0 : Int) ≤ (k : Int) := by omega
      have hi1 : (k : Int) < (n : Int) := by omega
      have Hb := Lib.hid hb
      clear hb hcl hkp
      go_wp2_with fail
      go_quiet (fail)
      go_wp2
      go_roundw
      case rel => exact ⟨k + 1, by omega, by go_num, below_dN Hb.out nq⟩
      case measure => simp [intOf]; omega
    · obtain rfl : k = n := by omega
      have Hb := Lib.hid hb
      clear hb
      go_wp2
      go_ret
      exact ⟨rfl, Hb.out⟩
set_option maxHeartbeats 1600000 in
theorem sameP_eq (A1 A2 : Option Addr) (n c1 c2 : Nat) (ds : List Po) (w : World) (h1 : PostRd w A1 n ds) (h2 : PostRd w A2 n ds) (hn : n ≤ 8796093021952) :
    Calls Tryz.prog 14 #[.slice A1 n c1, .slice A2 n c2] w fun e w' => e = .returned (.bool true) ∧ Below w.heap.size w w' := by
  have H1 := Lib.hid h1
  have H2 := Lib.hid h2
  have Hl := Lib.hid h1.ln
  clear h1 h2
  go_enter Tryz.func14, Tryz.ntmps14
  go_wp2
  go_loopw [5] (fun i wr => ∃ k : Nat, k ≤ n ∧ i = .int .i64 k ∧ Below w.heap.size w wr) (fun i _ => n - (intOf i).toNat)
  case atStart => exact ⟨0, Nat.zero_le _, rfl, Below.refl _ _⟩
  case round =>
    obtain ⟨k, hk, rfl, hb⟩ := hrel
    by_cases hlt : k < n
    · obtain ⟨b1, o1, F1, n1, f1, rfl, hl1, g0, g1, hR1, hln, hfn⟩ := (H1.out.grow hb).at_ (i := k) (by rw [Hl.out]; exact hlt)
      obtain ⟨b2, o2, F2, n2, f2, rfl, hl2, g3, g4, hR2, hln2, _⟩ := (H2.out.grow hb).at_ (i := k) (by rw [Hl.out]; exact hlt)
      rw [hln] at hln2
      subst hln2
      have hi0 : (0 : Int) ≤ (k : Int) := by omega
      have hi1 : (k : Int) < (n : Int) := by omega
      have C1 : Hid (∀ wx, Below wr.heap.size wr wx → Calls Tryz.prog 38 #[.slice F1 n1 f1, .slice F2 n1 f2] wx fun e w' => e = .returned (.bool true) ∧ Below wx.heap.size wx w') := Lib.hid (fun wx hC => sameI_eq F1 F2 n1 f1 f2 _ wx (reads_gr hC hR1) (reads_gr hC hR2) hln hfn)
      have Hb := Lib.hid hb
      clear hR1 hR2 hln hb
      generalize (((ds[k]'(by rw [Hl.out]; exact hlt)).1 : Nat) : Int) = s at *
      have hss : (s != s) = false := by simp
      have hcells : ∀ wx, Below wr.heap.size wr wx → wx.cell? ⟨b1, o1 + k * 2, none⟩ = some (.int .i64 s) ∧ wx.cell? ⟨b1, o1 + k * 2 + 1, none⟩ = some (.slice F1 n1 f1) ∧
          wx.cell? ⟨b2, o2 + k * 2, none⟩ = some (.int .i64 s) ∧ wx.cell? ⟨b2, o2 + k * 2 + 1, none⟩ = some (.slice F2 n1 f2) := fun wx hC =>
        ⟨(hC.cell (p := ⟨b1, o1 + k * 2, none⟩) hl1).trans g0, (hC.cell (p := ⟨b1, o1 + k * 2 + 1, none⟩) hl1).trans g1,
         (hC.cell (p := ⟨b2, o2 + k * 2, none⟩) hl2).trans g3, (hC.cell (p := ⟨b2, o2 + k * 2 + 1, none⟩) hl2).trans g4⟩
      have hcells' := Lib.hid hcells
      clear hcells g0 g1 g3 g4
      go_wp2_with fail
      refine wp_region_grow (specOf [(22, ⟨Unit, fun _ => (.bool true), fun _ _ => True⟩)]) (fun wx => Below (World.heap wr).size wr wx) (fun w1 w2 => Below w1.heap.size w1 w2) (by kernel_rfl) (by kernel_rfl) (stab_cons (fun _ _ _ _ h => h) (stab_nil)) (Below.refl _ _).drew ?_
      refine grow_fix 1 ?_ rfl (by rfl) (by rfl) (fun wx hC hD => ?_) ?_
      rotate_left
      · have hSw := hcells'.out wx hC
        go_simp
        all_goals with_reducible rfl
      try simp only [Act.put, List.setIfInBounds_toArray, List.set_cons_zero, List.set_cons_succ]
      refine grow_fix 2 ?_ rfl (by rfl) (by rfl) (fun wx hC hD => ?_) ?_
      rotate_left
      · have hSw := hcells'.out wx hC
        go_simp
        all_goals with_reducible rfl
      try simp only [Act.put, List.setIfInBounds_toArray, List.set_cons_zero, List.set_cons_succ]
      refine grow_fix 3 ?_ rfl (by rfl) (by rfl) (fun wx hC hD => ?_) ?_
      rotate_left
      · have hSw := hcells'.out wx hC
        go_simp
        all_goals with_reducible rfl
      try simp only [Act.put, List.setIfInBounds_toArray, List.set_cons_zero, List.set_cons_succ]
      refine grow_fix 4 ?_ rfl (by rfl) (by rfl) (fun wx hC hD => ?_) ?_
      rotate_left
      · have hSw := hcells'.out wx hC
        go_simp
        all_goals with_reducible rfl
      try simp only [Act.put, List.setIfInBounds_toArray, List.set_cons_zero, List.set_cons_succ]
      refine grow_fix 5 ?_ rfl (by rfl) (by rfl) (fun wx hC hD => ?_) ?_
      rotate_left
      · have hSw := hcells'.out wx hC
        go_simp
        all_goals with_reducible rfl
      try simp only [Act.put, List.setIfInBounds_toArray, List.set_cons_zero, List.set_cons_succ]
      refine grow_fix 6 ?_ rfl (by rfl) (by rfl) (fun wx hC hD => ?_) ?_
      rotate_left
      · have hSw := hcells'.out wx hC
        go_simp
        all_goals with_reducible rfl
      try simp only [Act.put, List.setIfInBounds_toArray, List.set_cons_zero, List.set_cons_succ]
      refine grow_fix 7 ?_ rfl (by rfl) (by rfl) (fun wx hC hD => ?_) ?_
      rotate_left
      · have hSw := hcells'.out wx hC
        go_simp
        all_goals with_reducible rfl
      try simp only [Act.put, List.setIfInBounds_toArray, List.set_cons_zero, List.set_cons_succ]
      refine grow_fix 8 ?_ rfl (by rfl) (by rfl) (fun wx hC hD => ?_) ?_
      rotate_left
      · have hSw := hcells'.out wx hC
        go_simp
        all_goals with_reducible rfl
      try simp only [Act.put, List.setIfInBounds_toArray, List.set_cons_zero, List.set_cons_succ]
      refine grow_fix 9 ?_ rfl (by rfl) (by rfl) (fun wx hC hD => ?_) ?_
      rotate_left
      · have hSw := hcells'.out wx hC
        go_simp
        all_goals with_reducible rfl
      try simp only [Act.put, List.setIfInBounds_toArray, List.set_cons_zero, List.set_cons_succ]
      refine grow_fix 10 ?_ rfl (by rfl) (by rfl) (fun wx hC hD => ?_) ?_
      rotate_left
      · have hSw := hcells'.out wx hC
        go_simp
        all_goals with_reducible rfl
      try simp only [Act.put, List.setIfInBounds_toArray, List.set_cons_zero, List.set_cons_succ]
      refine grow_fix 11 ?_ rfl (by rfl) (by rfl) (fun wx hC hD => ?_) ?_
      rotate_left
      · have hSw := hcells'.out wx hC
        go_simp
        all_goals with_reducible rfl
      try simp only [Act.put, List.setIfInBounds_toArray, List.set_cons_zero, List.set_cons_succ]
      refine grow_fix 12 ?_ rfl (by rfl) (by rfl) (fun wx hC hD => ?_) ?_
      rotate_left
      · have hSw := hcells'.out wx hC
        go_simp
        all_goals with_reducible rfl
      try simp only [Act.put, List.setIfInBounds_toArray, List.set_cons_zero, List.set_cons_succ]
      refine grow_fix 13 ?_ rfl (by rfl) (by rfl) (fun wx hC hD => ?_) ?_
      rotate_left
      · have hSw := hcells'.out wx hC
        go_simp
        all_goals with_reducible rfl
      try simp only [Act.put, List.setIfInBounds_toArray, List.set_cons_zero, List.set_cons_succ]
      refine grow_fix 14 ?_ rfl (by rfl) (by rfl) (fun wx hC hD => ?_) ?_
      rotate_left
      · have hSw := hcells'.out wx hC
        go_simp
        all_goals with_reducible rfl
      try simp only [Act.put, List.setIfInBounds_toArray, List.set_cons_zero, List.set_cons_succ]
      refine grow_fix 15 ?_ rfl (by rfl) (by rfl) (fun wx hC hD => ?_) ?_
      rotate_left
      · have hSw := hcells'.out wx hC
        go_simp
        all_goals with_reducible rfl
      try simp only [Act.put, List.setIfInBounds_toArray, List.set_cons_zero, List.set_cons_succ]
      refine grow_fix 16 ?_ rfl (by rfl) (by rfl) (fun wx hC hD => ?_) ?_
      rotate_left
      · have hSw := hcells'.out wx hC
        go_simp
        all_goals with_reducible rfl
      try simp only [Act.put, List.setIfInBounds_toArray, List.set_cons_zero, List.set_cons_succ]
      refine grow_fix 17 ?_ rfl (by rfl) (by rfl) (fun wx hC hD => ?_) ?_
      rotate_left
      · have hSw := hcells'.out wx hC
        go_simp
        all_goals with_reducible rfl
      try simp only [Act.put, List.setIfInBounds_toArray, List.set_cons_zero, List.set_cons_succ]
      refine grow_fix 18 ?_ rfl (by rfl) (by rfl) (fun wx hC hD => ?_) ?_
      rotate_left
      · have hSw := hcells'.out wx hC
        go_simp
        all_goals with_reducible rfl
      try simp only [Act.put, List.setIfInBounds_toArray, List.set_cons_zero, List.set_cons_succ]
      refine grow_fix 19 ?_ rfl (by rfl) (by rfl) (fun wx hC hD => ?_) ?_
      rotate_left
      · have hSw := hcells'.out wx hC
        go_simp
        all_goals with_reducible rfl
      try simp only [Act.put, List.setIfInBounds_toArray, List.set_cons_zero, List.set_cons_succ]
      refine grow_fix 20 ?_ rfl (by rfl) (by rfl) (fun wx hC hD => ?_) ?_
      rotate_left
      · have hSw := hcells'.out wx hC
        go_simp
        all_goals with_reducible rfl
      try simp only [Act.put, List.setIfInBounds_toArray, List.set_cons_zero, List.set_cons_succ]
      refine grow_fix 21 ?_ rfl (by rfl) (by rfl) (fun wx hC hD => ?_) ?_
      rotate_left
      · have hSw := hcells'.out wx hC
        go_simp
        all_goals with_reducible rfl
      try simp only [Act.put, List.setIfInBounds_toArray, List.set_cons_zero, List.set_cons_succ]
      refine grow_fix 22 ?_ rfl (by rfl) (by rfl) (fun wx hC hD => ?_) ?_
      rotate_left
      · have hSw := hcells'.out wx hC
        go_simp
        all_goals with_reducible rfl
      try simp only [Act.put, List.setIfInBounds_toArray, List.set_cons_zero, List.set_cons_succ]
      refine grow_give 23 _ rfl (by rfl) (by rfl) (fun wx hC hD => ?_) (fun x => ?_)
      · refine give_enter (f := ?_) (args := ?_) ?_ ?_
        rotate_left 2
        · have hSw := hcells'.out wx hC
          go_simp
          all_goals first | with_reducible rfl | (refine ⟨?_, ?_⟩ <;> with_reducible rfl)
        exact calls_cst hC (C1.out wx hC)
      obtain ⟨⟩ := x
      try simp only [Act.put, List.setIfInBounds_toArray, List.set_cons_zero, List.set_cons_succ]
      refine grow_fix 24 ?_ rfl (by rfl) (by rfl) (fun wx hC hD => ?_) ?_
      rotate_left
      · have hSw := hcells'.out wx hC
        go_simp
        all_goals with_reducible rfl
      try simp only [Act.put, List.setIfInBounds_toArray, List.set_cons_zero, List.set_cons_succ]
      refine grow_fix 25 ?_ rfl (by rfl) (by rfl) (fun wx hC hD => ?_) ?_
      rotate_left
      · have hSw := hcells'.out wx hC
        go_simp
        all_goals with_reducible rfl
      try simp only [Act.put, List.setIfInBounds_toArray, List.set_cons_zero, List.set_cons_succ]
      refine grow_nil (fun w2 hC hF => ?_)
      have Hb2 := Lib.hid (Hb.out.trans (hC.mono Hb.out.size))
      clear hF hC
      go_wp2
      go_roundw
      case rel => exact ⟨k + 1, by omega, by go_num, Hb2.out⟩
      case measure => simp [intOf]; omega
    · obtain rfl : k = n := by omega
      have Hb := Lib.hid hb
      clear hb
      go_wp2
      go_ret
      exact ⟨rfl, Hb.out⟩
end Go.Proofs.YtioekhiaoajgfaaGreat.Mx
