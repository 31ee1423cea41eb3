/- The document's SameEvent, SameDocs, at equal rows: the walks. -/
import Derived.Deep.QuietTactic
import Derived.BigQuiet
import Derived.Test.YtceekocfmbcobaaPkCursorFollowsRow14
import Derived.Test.YtceekocfmbcobaaGrowPk
import Derived.Test.YtceekocfmbcobaaPkCursorFollowsRow37
section
namespace Go.Proofs.Ytceekocfmbcobaa.Qy
open Go.RowKit Go.Proofs.Ytceekocfmbcobaa Go.Proofs.Ytceekocfmbcobaa.Ut Go.Proofs.Ytceekocfmbcobaa.Tk
set_option maxRecDepth 20000
set_option linter.unusedSimpArgs false

theorem reads_grow {w1 w2 : World} {A : Option Addr} {k n : Nat} {xs : List Value} (hb : Below w1.heap.size w1 w2) (h : Reads w1 w1.heap.size k A n xs) : Reads w2 w2.heap.size k A n xs := (h.below hb).more hb.size
theorem below_drewN {B : Nat} {a w : World} (h : Below B a w) (n : Nat) : Below B a (w.drewN n) := ⟨h.os, h.tape, h.output, h.size, h.block⟩
set_option maxHeartbeats 1600000 in
theorem sameEvent_eq (t : Int) (F1 F2 : Option Addr) (n c1 c2 : Nat) (fs : List (ByteArray × ByteArray)) (w : World) (h1 : Reads w w.heap.size 2 F1 n (fldC fs)) (h2 : Reads w w.heap.size 2 F2 n (fldC fs)) (hl : fs.length = n) (hn : n ≤ 8796093021952) :
    Calls Try.prog 48 #[.agg #[.int .i64 t, .slice F1 n c1], .agg #[.int .i64 t, .slice F2 n c2]] w fun e w' => e = .returned (.bool true) ∧ Below w.heap.size w w' := by
  have hb1 : Below w.heap.size w (w.alloc (.cells #[.int .i64 t, .slice F1 n c1] 69)) := (Below.refl _ _).alloc (Nat.le_refl _) _
  have hb2 : Below w.heap.size w ((w.alloc (.cells #[.int .i64 t, .slice F1 n c1] 69)).alloc (.cells #[.int .i64 t, .slice F2 n c2] 69)) := hb1.alloc hb1.size _
  have hB1 := (Blk.new w 69 #[.int .i64 t, .slice F1 n c1]).alloc (.cells #[.int .i64 t, .slice F2 n c2] 69)
  have hB2 := Blk.new (w.alloc (.cells #[.int .i64 t, .slice F1 n c1] 69)) 69 #[.int .i64 t, .slice F2 n c2]
  have z1 : (w.alloc (.cells #[.int .i64 t, .slice F1 n c1] 69)).heap.size = w.heap.size + 1 := by simp
  rw [z1] at hB2
  have z2 : w.heap.size + 1 < (World.heap ((w.alloc (.cells #[.int .i64 t, .slice F1 n c1] 69)).alloc (.cells #[.int .i64 t, .slice F2 n c2] 69))).size := by simp
  have H1 := Lib.hid (reads_grow hb2 h1)
  have H2 := Lib.hid (reads_grow hb2 h2)
  have HB1 := Lib.hid hB1
  have HB2 := Lib.hid hB2
  have Hb2 := Lib.hid hb2
  have Hl := Lib.hid hl
  have htt : (t == t) = true := by simp
  have htn : (t != t) = false := by simp
  clear h1 h2 hl hb1 hb2 hB1 hB2 z1
  go_enter Try.func48, Try.ntmps48
  go_wp2_with fail
  generalize hw2 : ((w.alloc (.cells #[.int .i64 t, .slice F1 n c1] 69)).alloc (.cells #[.int .i64 t, .slice F2 n c2] 69)) = w2 at *
  clear hw2
  go_loopw [5] (fun i wr => ∃ k : Nat, k ≤ n ∧ i = .int .i64 k ∧ Below w2.heap.size w2 wr) (fun i _ => n - (intOf i).toNat)
  case atStart => exact ⟨0, Nat.zero_le _, rfl, Below.refl _ _⟩
  case round =>
    obtain ⟨k, hk, rfl, hb⟩ := hrel
    have hq1 := (HB1.out.below hb (by omega)).cell 1
    have hq2 := (HB2.out.below hb (by omega)).cell 1
    simp at hq1 hq2
    by_cases hlt : k < n
    · obtain ⟨b1, o1, rfl, hl1, g1, g2⟩ := fields_at (reads_grow hb H1.out) (k := k) (by rw [Hl.out]; exact hlt)
      obtain ⟨b2, o2, rfl, hl2, g3, g4⟩ := fields_at (reads_grow hb H2.out) (k := k) (by rw [Hl.out]; exact hlt)
      have hi0 : (0 : Int) ≤ (k : Int) := by omega
      have hi1 : (k : Int) < (n : Int) := by omega
      have Hb := Lib.hid hb
      generalize (fs[k]'(by rw [Hl.out]; exact hlt)) = f at *
      obtain ⟨x, y⟩ := f
      clear hb
      go_wp2_with fail
      go_quiet (fail)
      go_wp2
      go_roundw
      case rel => exact ⟨k + 1, by omega, by go_num, below_drewN Hb.out nq⟩
      case measure => simp [intOf]; omega
    · obtain rfl : k = n := by omega
      have Hb := Lib.hid (Hb2.out.trans (hb.mono Hb2.out.size))
      clear hb
      go_wp2
      go_ret
      exact ⟨rfl, Hb.out⟩

set_option maxHeartbeats 1600000 in
theorem sameDocs_eq (A1 A2 : Option Addr) (n c1 c2 : Nat) (ds : List Dc) (w : World) (h1 : DocsAt w w.heap.size A1 n ds) (h2 : DocsAt w w.heap.size A2 n ds) (hn : n ≤ 8796093021952) :
    Calls Try.prog 29 #[.slice A1 n c1, .slice A2 n c2] w fun e w' => e = .returned (.bool true) ∧ Below w.heap.size w w' := by
  have H1 := Lib.hid h1
  have H2 := Lib.hid h2
  have Hl := Lib.hid h1.ln
  clear h1 h2
  go_enter Try.func29, Try.ntmps29
  go_wp2
  go_loopw [5] (fun i wr => ∃ k : Nat, k ≤ n ∧ i = .int .i64 k ∧ Below w.heap.size w wr) (fun i _ => n - (intOf i).toNat)
  case atStart => exact ⟨0, Nat.zero_le _, rfl, Below.refl _ _⟩
  case round =>
    obtain ⟨k, hk, rfl, hb⟩ := hrel
    by_cases hlt : k < n
    · obtain ⟨b1, o1, F1, n1, f1, rfl, hl1, g0, g1, g2, hR1, hln, hfn, _, _⟩ := (H1.out.grow hb).at_ (i := k) (by rw [Hl.out]; exact hlt)
      obtain ⟨b2, o2, F2, n2, f2, rfl, hl2, g3, g4, g5, hR2, hln2, _, _, _⟩ := (H2.out.grow hb).at_ (i := k) (by rw [Hl.out]; exact hlt)
      rw [hln] at hln2
      subst hln2
      have hi0 : (0 : Int) ≤ (k : Int) := by omega
      have hi1 : (k : Int) < (n : Int) := by omega
      have C1 : Hid (∀ wx, Below wr.heap.size wr wx → Calls Try.prog 48 #[.agg #[.int .i64 (ds[k]'(by rw [Hl.out]; exact hlt)).at_, .slice F1 n1 f1], .agg #[.int .i64 (ds[k]'(by rw [Hl.out]; exact hlt)).at_, .slice F2 n1 f2]] wx fun e w' => e = .returned (.bool true) ∧ Below wx.heap.size wx w') := Lib.hid (fun wx hC => sameEvent_eq _ F1 F2 n1 f1 f2 _ wx (reads_grow hC hR1) (reads_grow hC hR2) hln hfn)
      have Hb := Lib.hid hb
      clear hR1 hR2 hln hb
      generalize (ds[k]'(by rw [Hl.out]; exact hlt)).seq = s at *
      generalize (ds[k]'(by rw [Hl.out]; exact hlt)).at_ = a at *
      have hss : (s != s) = false := by simp
      have hcells : ∀ wx, Below wr.heap.size wr wx → wx.cell? ⟨b1, o1 + k * 3, none⟩ = some (.int .i64 s) ∧ wx.cell? ⟨b1, o1 + k * 3 + 1, none⟩ = some (.int .i64 a) ∧ wx.cell? ⟨b1, o1 + k * 3 + 2, none⟩ = some (.slice F1 n1 f1) ∧
          wx.cell? ⟨b2, o2 + k * 3, none⟩ = some (.int .i64 s) ∧ wx.cell? ⟨b2, o2 + k * 3 + 1, none⟩ = some (.int .i64 a) ∧ wx.cell? ⟨b2, o2 + k * 3 + 2, none⟩ = some (.slice F2 n1 f2) := fun wx hC =>
        ⟨(hC.cell (p := ⟨b1, o1 + k * 3, none⟩) hl1).trans g0, (hC.cell (p := ⟨b1, o1 + k * 3 + 1, none⟩) hl1).trans g1, (hC.cell (p := ⟨b1, o1 + k * 3 + 2, none⟩) hl1).trans g2,
         (hC.cell (p := ⟨b2, o2 + k * 3, none⟩) hl2).trans g3, (hC.cell (p := ⟨b2, o2 + k * 3 + 1, none⟩) hl2).trans g4, (hC.cell (p := ⟨b2, o2 + k * 3 + 2, none⟩) hl2).trans g5⟩
      have hcells' := Lib.hid hcells
      clear hcells g0 g1 g2 g3 g4 g5
      go_wp2_with fail
      refine wp_region_grow (specOf [(22, ⟨Unit, fun _ => (.bool true), fun _ _ => True⟩)]) (fun wx => Below (World.heap wr).size wr wx) (fun w1 w2 => Below w1.heap.size w1 w2) (by kernel_rfl) (by kernel_rfl) (stab_cons (fun _ _ _ _ h => h) (stab_nil)) (Below.refl _ _).drew ?_
      refine grow_fix 1 ?_ rfl (by rfl) (by rfl) (fun wx hC hD => ?_) ?_
      rotate_left
      · have hSw := hcells'.out wx hC
        go_simp
        all_goals with_reducible rfl
      try simp only [Act.put, List.setIfInBounds_toArray, List.set_cons_zero, List.set_cons_succ]
      refine grow_fix 2 ?_ rfl (by rfl) (by rfl) (fun wx hC hD => ?_) ?_
      rotate_left
      · have hSw := hcells'.out wx hC
        go_simp
        all_goals with_reducible rfl
      try simp only [Act.put, List.setIfInBounds_toArray, List.set_cons_zero, List.set_cons_succ]
      refine grow_fix 3 ?_ rfl (by rfl) (by rfl) (fun wx hC hD => ?_) ?_
      rotate_left
      · have hSw := hcells'.out wx hC
        go_simp
        all_goals with_reducible rfl
      try simp only [Act.put, List.setIfInBounds_toArray, List.set_cons_zero, List.set_cons_succ]
      refine grow_fix 4 ?_ rfl (by rfl) (by rfl) (fun wx hC hD => ?_) ?_
      rotate_left
      · have hSw := hcells'.out wx hC
        go_simp
        all_goals with_reducible rfl
      try simp only [Act.put, List.setIfInBounds_toArray, List.set_cons_zero, List.set_cons_succ]
      refine grow_fix 5 ?_ rfl (by rfl) (by rfl) (fun wx hC hD => ?_) ?_
      rotate_left
      · have hSw := hcells'.out wx hC
        go_simp
        all_goals with_reducible rfl
      try simp only [Act.put, List.setIfInBounds_toArray, List.set_cons_zero, List.set_cons_succ]
      refine grow_fix 6 ?_ rfl (by rfl) (by rfl) (fun wx hC hD => ?_) ?_
      rotate_left
      · have hSw := hcells'.out wx hC
        go_simp
        all_goals with_reducible rfl
      try simp only [Act.put, List.setIfInBounds_toArray, List.set_cons_zero, List.set_cons_succ]
      refine grow_fix 7 ?_ rfl (by rfl) (by rfl) (fun wx hC hD => ?_) ?_
      rotate_left
      · have hSw := hcells'.out wx hC
        go_simp
        all_goals with_reducible rfl
      try simp only [Act.put, List.setIfInBounds_toArray, List.set_cons_zero, List.set_cons_succ]
      refine grow_fix 8 ?_ rfl (by rfl) (by rfl) (fun wx hC hD => ?_) ?_
      rotate_left
      · have hSw := hcells'.out wx hC
        go_simp
        all_goals with_reducible rfl
      try simp only [Act.put, List.setIfInBounds_toArray, List.set_cons_zero, List.set_cons_succ]
      refine grow_fix 9 ?_ rfl (by rfl) (by rfl) (fun wx hC hD => ?_) ?_
      rotate_left
      · have hSw := hcells'.out wx hC
        go_simp
        all_goals with_reducible rfl
      try simp only [Act.put, List.setIfInBounds_toArray, List.set_cons_zero, List.set_cons_succ]
      refine grow_fix 10 ?_ rfl (by rfl) (by rfl) (fun wx hC hD => ?_) ?_
      rotate_left
      · have hSw := hcells'.out wx hC
        go_simp
        all_goals with_reducible rfl
      try simp only [Act.put, List.setIfInBounds_toArray, List.set_cons_zero, List.set_cons_succ]
      refine grow_fix 11 ?_ rfl (by rfl) (by rfl) (fun wx hC hD => ?_) ?_
      rotate_left
      · have hSw := hcells'.out wx hC
        go_simp
        all_goals with_reducible rfl
      try simp only [Act.put, List.setIfInBounds_toArray, List.set_cons_zero, List.set_cons_succ]
      refine grow_fix 12 ?_ rfl (by rfl) (by rfl) (fun wx hC hD => ?_) ?_
      rotate_left
      · have hSw := hcells'.out wx hC
        go_simp
        all_goals with_reducible rfl
      try simp only [Act.put, List.setIfInBounds_toArray, List.set_cons_zero, List.set_cons_succ]
      refine grow_fix 13 ?_ rfl (by rfl) (by rfl) (fun wx hC hD => ?_) ?_
      rotate_left
      · have hSw := hcells'.out wx hC
        go_simp
        all_goals with_reducible rfl
      try simp only [Act.put, List.setIfInBounds_toArray, List.set_cons_zero, List.set_cons_succ]
      refine grow_fix 14 ?_ rfl (by rfl) (by rfl) (fun wx hC hD => ?_) ?_
      rotate_left
      · have hSw := hcells'.out wx hC
        go_simp
        all_goals with_reducible rfl
      try simp only [Act.put, List.setIfInBounds_toArray, List.set_cons_zero, List.set_cons_succ]
      refine grow_fix 15 ?_ rfl (by rfl) (by rfl) (fun wx hC hD => ?_) ?_
      rotate_left
      · have hSw := hcells'.out wx hC
        go_simp
        all_goals with_reducible rfl
      try simp only [Act.put, List.setIfInBounds_toArray, List.set_cons_zero, List.set_cons_succ]
      refine grow_fix 16 ?_ rfl (by rfl) (by rfl) (fun wx hC hD => ?_) ?_
      rotate_left
      · have hSw := hcells'.out wx hC
        go_simp
        all_goals with_reducible rfl
      try simp only [Act.put, List.setIfInBounds_toArray, List.set_cons_zero, List.set_cons_succ]
      refine grow_fix 17 ?_ rfl (by rfl) (by rfl) (fun wx hC hD => ?_) ?_
      rotate_left
      · have hSw := hcells'.out wx hC
        go_simp
        all_goals with_reducible rfl
      try simp only [Act.put, List.setIfInBounds_toArray, List.set_cons_zero, List.set_cons_succ]
      refine grow_fix 18 ?_ rfl (by rfl) (by rfl) (fun wx hC hD => ?_) ?_
      rotate_left
      · have hSw := hcells'.out wx hC
        go_simp
        all_goals with_reducible rfl
      try simp only [Act.put, List.setIfInBounds_toArray, List.set_cons_zero, List.set_cons_succ]
      refine grow_fix 19 ?_ rfl (by rfl) (by rfl) (fun wx hC hD => ?_) ?_
      rotate_left
      · have hSw := hcells'.out wx hC
        go_simp
        all_goals with_reducible rfl
      try simp only [Act.put, List.setIfInBounds_toArray, List.set_cons_zero, List.set_cons_succ]
      refine grow_fix 20 ?_ rfl (by rfl) (by rfl) (fun wx hC hD => ?_) ?_
      rotate_left
      · have hSw := hcells'.out wx hC
        go_simp
        all_goals with_reducible rfl
      try simp only [Act.put, List.setIfInBounds_toArray, List.set_cons_zero, List.set_cons_succ]
      refine grow_fix 21 ?_ rfl (by rfl) (by rfl) (fun wx hC hD => ?_) ?_
      rotate_left
      · have hSw := hcells'.out wx hC
        go_simp
        all_goals with_reducible rfl
      try simp only [Act.put, List.setIfInBounds_toArray, List.set_cons_zero, List.set_cons_succ]
      refine grow_fix 22 ?_ rfl (by rfl) (by rfl) (fun wx hC hD => ?_) ?_
      rotate_left
      · have hSw := hcells'.out wx hC
        go_simp
        all_goals with_reducible rfl
      try simp only [Act.put, List.setIfInBounds_toArray, List.set_cons_zero, List.set_cons_succ]
      refine grow_give 23 _ rfl (by rfl) (by rfl) (fun wx hC hD => ?_) (fun x => ?_)
      · refine give_enter (f := ?_) (args := ?_) ?_ ?_
        rotate_left 2
        · have hSw := hcells'.out wx hC
          go_simp
          all_goals first | with_reducible rfl | (refine ⟨?_, ?_⟩ <;> with_reducible rfl)
        exact calls_cst hC (C1.out wx hC)
      obtain ⟨⟩ := x
      try simp only [Act.put, List.setIfInBounds_toArray, List.set_cons_zero, List.set_cons_succ]
      refine grow_fix 24 ?_ rfl (by rfl) (by rfl) (fun wx hC hD => ?_) ?_
      rotate_left
      · have hSw := hcells'.out wx hC
        go_simp
        all_goals with_reducible rfl
      try simp only [Act.put, List.setIfInBounds_toArray, List.set_cons_zero, List.set_cons_succ]
      refine grow_fix 25 ?_ rfl (by rfl) (by rfl) (fun wx hC hD => ?_) ?_
      rotate_left
      · have hSw := hcells'.out wx hC
        go_simp
        all_goals with_reducible rfl
      try simp only [Act.put, List.setIfInBounds_toArray, List.set_cons_zero, List.set_cons_succ]
      refine grow_nil (fun w2 hC hF => ?_)
      have Hb2 := Lib.hid (Hb.out.trans (hC.mono Hb.out.size))
      clear hF hC
      go_wp2
      go_roundw
      case rel => exact ⟨k + 1, by omega, by go_num, Hb2.out⟩
      case measure => simp [intOf]; omega
    · obtain rfl : k = n := by omega
      have Hb := Lib.hid hb
      clear hb
      go_wp2
      go_ret
      exact ⟨rfl, Hb.out⟩
end Go.Proofs.Ytceekocfmbcobaa.Qy
end

section
/- loggialaw25.CursorFollows: the walk. -/
namespace Go.Proofs.Ytceekocfmbcobaa.Cu
open Go.RowKit Go.Proofs.Ytceekocfmbcobaa Go.Proofs.Ytceekocfmbcobaa.Qy Go.Proofs.Ytceekocfmbcobaa.Ph Go.Proofs.Ytceekocfmbcobaa.Cr Go.Proofs.Ytceekocfmbcobaa.Qp
set_option maxRecDepth 100000
set_option linter.unusedSimpArgs false

theorem outP_len (a k l : Int) (ds : List Dc) : (folP a k l ds).1.length ≤ ds.length := by
  unfold folP
  split
  · simp
  · exact Nat.le_trans (List.length_take_le' ..) (sel_len ..)
theorem fewD_len (ds : List Dc) : (fewD ds).length ≤ 40 := by unfold fewD; rw [List.length_map, List.length_take]; omega

set_option maxHeartbeats 6400000 in
theorem follows_walk (a k l : Int) (q : ByteArray) (A : Option Addr) (n c : Nat) (ds : List Dc) (w : World) (hD : DocsAt w w.heap.size A n ds) (hn : n ≤ 8796093021952) (hs : ∀ d ∈ ds, ∀ f ∈ d.fs, f.2.size ≤ 140737488351232) :
    Calls Try.prog 9 #[.agg #[.int .i64 a, .string q], .int .i64 k, .int .i64 l, .slice A n c] w fun e w' => e = .returned (.bool true) ∧ Below w.heap.size w w' := by
  have hb1 := (Below.refl w.heap.size w).alloc (Nat.le_refl _) (.cells #[.int .i64 a, .string q] 45)
  have HB1 := Lib.hid (Blk.new w 45 #[.int .i64 a, .string q])
  have c1 := fewD_any A n c ds (w.alloc (.cells #[.int .i64 a, .string q] 45)) (hD.grow hb1) hn hs
  have hz1 : w.heap.size < (w.alloc (.cells #[.int .i64 a, .string q] 45)).heap.size := by simp
  have Hb1 := Lib.hid hb1
  have hfl := fewD_len ds
  generalize fewD ds = es at *
  clear hD hs hb1
  go_enter Try.func9, Try.ntmps9
  go_wp2_with fail
  generalize hw1 : w.alloc (.cells #[.int .i64 a, .string q] 45) = w1 at *
  clear hw1
  refine c1.mono ?_
  rintro e w2 ⟨v2, rfl, hO2⟩
  obtain ⟨A2, c2, rfl, hD2⟩ := hO2.read
  have HD2 := Lib.hid hD2
  have HB2 := Lib.hid (HB1.out.below hO2.bel hz1)
  have Hb2 := Lib.hid (Hb1.out.trans (hO2.bel.mono Hb1.out.size))
  have hz2 : w.heap.size < w2.heap.size := HB2.out.lt
  clear c1 hO2 hD2 HB1 Hb1
  have hd0 := HB2.out.cell 0
  have hd1 := HB2.out.cell 1
  simp at hd0 hd1
  have c3 := follow_any a k l q A2 es.length c2 es w2 HD2.out (by omega)
  have hol := outP_len a k l es
  obtain ⟨p, hp⟩ : ∃ p, folP a k l es = p := ⟨_, rfl⟩
  rw [hp] at c3 hol
  obtain ⟨out, last⟩ := p
  have Hp := Lib.hid hp
  clear hp
  dsimp only at hol
  go_wp2_with fail
  refine c3.mono ?_
  rintro e w3 ⟨v3, rfl, hO3⟩
  obtain ⟨A3, c3', rfl, hD3⟩ := hO3.read
  have hb4 := (Below.refl w3.heap.size w3).alloc (Nat.le_refl _) (.cells #[.int .i64 last, .string q] 45)
  have HD4 := Lib.hid (((HD2.out.grow hO3.bel)).grow hb4)
  have HO4 := Lib.hid (hD3.grow hb4)
  have HB4 := Lib.hid ((HB2.out.below hO3.bel hz2).alloc (.cells #[.int .i64 last, .string q] 45))
  have HC4 := Lib.hid (Blk.new w3 45 #[.int .i64 last, .string q])
  have Hb4 := Lib.hid ((Hb2.out.trans (hO3.bel.mono Hb2.out.size)).trans (hb4.mono (Nat.le_trans Hb2.out.size hO3.bel.size)))
  have hz3 : w2.heap.size ≤ w3.heap.size := hO3.bel.size
  have hz4 : w3.heap.size < (w3.alloc (.cells #[.int .i64 last, .string q] 45)).heap.size := by simp
  clear c3 hO3 hD3 hb4 HD2 HB2 Hb2 hd0 hd1
  go_upto_region 3 with (fail)
  generalize hw4 : w3.alloc (.cells #[.int .i64 last, .string q] 45) = w4 at *
  clear hw4
  have hd0 := HB4.out.cell 0
  have hd1 := HB4.out.cell 1
  simp at hd0 hd1
  have c5 := rfollow_any a k l q A2 es.length c2 es w4 HD4.out (by omega)
  rw [Hp.out] at c5
  go_wp2_with fail
  refine c5.mono ?_
  rintro e w5 ⟨v5, rfl, hO5⟩
  obtain ⟨A5, c5', rfl, hD5⟩ := hO5.read
  have hb6 := (Below.refl w5.heap.size w5).alloc (Nat.le_refl _) (.cells #[.int .i64 last, .string q] 45)
  have HO6 := Lib.hid ((HO4.out.grow hO5.bel).grow hb6)
  have HP6 := Lib.hid (hD5.grow hb6)
  have HC6 := Lib.hid ((HC4.out.below hO5.bel hz4).alloc (.cells #[.int .i64 last, .string q] 45))
  have HE6 := Lib.hid (Blk.new w5 45 #[.int .i64 last, .string q])
  have Hb6 := Lib.hid ((Hb4.out.trans (hO5.bel.mono Hb4.out.size)).trans (hb6.mono (Nat.le_trans Hb4.out.size hO5.bel.size)))
  clear c5 hO5 hD5 hb6 HO4 HC4 Hb4 hd0 hd1 HD4 HB4
  go_upto_region 4 with (fail)
  generalize hw6 : w5.alloc (.cells #[.int .i64 last, .string q] 45) = w6 at *
  clear hw6
  have c7 := sameDocs_eq A3 A5 out.length c3' c5' out w6 HO6.out HP6.out (by omega)
  have hlt6 : w3.heap.size < w6.heap.size := HC6.out.lt
  have hlt6' : w5.heap.size < w6.heap.size := HE6.out.lt
  go_wp2_with fail
  refine c7.mono ?_
  rintro e w7 ⟨rfl, hb7⟩
  have HC7 := Lib.hid (HC6.out.below hb7 hlt6)
  have HE7 := Lib.hid (HE6.out.below hb7 hlt6')
  have Hb7 := Lib.hid (Hb6.out.trans (hb7.mono Hb6.out.size))
  have hd0 := HC7.out.cell 0
  have hd1 := HC7.out.cell 1
  have he0 := HE7.out.cell 0
  have he1 := HE7.out.cell 1
  simp at hd0 hd1 he0 he1
  have hself := fun W => cur_self last q W
  have c8 := awake25 w7
  clear c7 hb7 HO6 HP6 HC6 HE6 Hb6
  go_wp2_with fail
  refine c8.mono ?_
  rintro e w8 ⟨rfl, hb8⟩
  have Hb8 := Lib.hid (Hb7.out.trans (hb8.mono Hb7.out.size))
  clear c8 hb8
  go_wp2_with fail
  go_ret
  exact ⟨rfl, Hb8.out⟩
end Go.Proofs.Ytceekocfmbcobaa.Cu
end
