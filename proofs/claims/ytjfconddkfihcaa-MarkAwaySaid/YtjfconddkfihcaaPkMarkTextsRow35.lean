/- The document's SameEvent, SameDocs, at equal rows: the walks. -/
import Derived.Test.YtjfconddkfihcaaPkMarkTextsRow33
import Derived.Test.YtjfconddkfihcaaNeedSPk
import Derived.Test.YtjfconddkfihcaaPkMarkTextsRow25
section
namespace Go.Proofs.Ytjfconddkfihcaa.Qy
open Go.RowKit Go.Proofs.Ytjfconddkfihcaa Go.Proofs.Ytjfconddkfihcaa.Ut Go.Proofs.Ytjfconddkfihcaa.Tk
set_option maxRecDepth 20000
set_option linter.unusedSimpArgs false

set_option maxHeartbeats 1600000 in
theorem sameEvent_eq (t : Int) (F1 F2 : Option Addr) (n c1 c2 : Nat) (fs : List (ByteArray × ByteArray)) (w : World) (h1 : Reads w w.heap.size 2 F1 n (fldC fs)) (h2 : Reads w w.heap.size 2 F2 n (fldC fs)) (hl : fs.length = n) (hn : n ≤ 8796093021952) :
    Calls Try.prog 86 #[.agg #[.int .i64 t, .slice F1 n c1], .agg #[.int .i64 t, .slice F2 n c2]] w fun e w' => e = .returned (.bool true) ∧ Below w.heap.size w w' := by
  have hb1 : Below w.heap.size w (w.alloc (.cells #[.int .i64 t, .slice F1 n c1] 49)) := (Below.refl _ _).alloc (Nat.le_refl _) _
  have hb2 : Below w.heap.size w ((w.alloc (.cells #[.int .i64 t, .slice F1 n c1] 49)).alloc (.cells #[.int .i64 t, .slice F2 n c2] 49)) := hb1.alloc hb1.size _
  have hB1 := (Blk.new w 49 #[.int .i64 t, .slice F1 n c1]).alloc (.cells #[.int .i64 t, .slice F2 n c2] 49)
  have hB2 := Blk.new (w.alloc (.cells #[.int .i64 t, .slice F1 n c1] 49)) 49 #[.int .i64 t, .slice F2 n c2]
  have z1 : (w.alloc (.cells #[.int .i64 t, .slice F1 n c1] 49)).heap.size = w.heap.size + 1 := by simp
  rw [z1] at hB2
  have z2 : w.heap.size + 1 < (World.heap ((w.alloc (.cells #[.int .i64 t, .slice F1 n c1] 49)).alloc (.cells #[.int .i64 t, .slice F2 n c2] 49))).size := by simp
  have H1 := Lib.hid (reads_grow hb2 h1)
  have H2 := Lib.hid (reads_grow hb2 h2)
  have HB1 := Lib.hid hB1
  have HB2 := Lib.hid hB2
  have Hb2 := Lib.hid hb2
  have Hl := Lib.hid hl
  have htt : (t == t) = true := by simp
  have htn : (t != t) = false := by simp
  clear h1 h2 hl hb1 hb2 hB1 hB2 z1
  go_enter Try.func86, Try.ntmps86
  go_wp2_with fail
  generalize hw2 : ((w.alloc (.cells #[.int .i64 t, .slice F1 n c1] 49)).alloc (.cells #[.int .i64 t, .slice F2 n c2] 49)) = w2 at *
  clear hw2
  go_loopw [5] (fun i wr => ∃ k : Nat, k ≤ n ∧ i = .int .i64 k ∧ Below w2.heap.size w2 wr) (fun i _ => n - (intOf i).toNat)
  case atStart => exact ⟨0, Nat.zero_le _, rfl, Below.refl _ _⟩
  case round =>
    obtain ⟨k, hk, rfl, hb⟩ := hrel
    have hq1 := (HB1.out.below hb (by omega)).cell 1
    have hq2 := (HB2.out.below hb (by omega)).cell 1
    simp at hq1 hq2
    by_cases hlt : k < n
    · obtain ⟨b1, o1, rfl, hl1, g1, g2⟩ := fields_at (reads_grow hb H1.out) (k := k) (by rw [Hl.out]; exact hlt)
      obtain ⟨b2, o2, rfl, hl2, g3, g4⟩ := fields_at (reads_grow hb H2.out) (k := k) (by rw [Hl.out]; exact hlt)
      have hi0 : (0 : Int) ≤ (k : Int) := by omega
      have hi1 : (k : Int) < (n : Int) := by omega
      have Hb := Lib.hid hb
      generalize (fs[k]'(by rw [Hl.out]; exact hlt)) = f at *
      obtain ⟨x, y⟩ := f
      clear hb
      go_wp2_with fail
      go_quiet (fail)
      go_wp2
      go_roundw
      case rel => exact ⟨k + 1, by omega, by go_num, below_drewN Hb.out nq⟩
      case measure => simp [intOf]; omega
    · obtain rfl : k = n := by omega
      have Hb := Lib.hid (Hb2.out.trans (hb.mono Hb2.out.size))
      clear hb
      go_wp2
      go_ret
      exact ⟨rfl, Hb.out⟩

set_option maxHeartbeats 1600000 in
theorem sameDocs_eq (A1 A2 : Option Addr) (n c1 c2 : Nat) (ds : List Dc) (w : World) (h1 : DocsAt w w.heap.size A1 n ds) (h2 : DocsAt w w.heap.size A2 n ds) (hn : n ≤ 8796093021952) :
    Calls Try.prog 56 #[.slice A1 n c1, .slice A2 n c2] w fun e w' => e = .returned (.bool true) ∧ Below w.heap.size w w' := by
  have H1 := Lib.hid h1
  have H2 := Lib.hid h2
  have Hl := Lib.hid h1.ln
  clear h1 h2
  go_enter Try.func56, Try.ntmps56
  go_wp2
  go_loopw [5] (fun i wr => ∃ k : Nat, k ≤ n ∧ i = .int .i64 k ∧ Below w.heap.size w wr) (fun i _ => n - (intOf i).toNat)
  case atStart => exact ⟨0, Nat.zero_le _, rfl, Below.refl _ _⟩
  case round =>
    obtain ⟨k, hk, rfl, hb⟩ := hrel
    by_cases hlt : k < n
    · obtain ⟨b1, o1, F1, n1, f1, rfl, hl1, g0, g1, g2, hR1, hln, hfn, _, _⟩ := (H1.out.grow hb).at_ (i := k) (by rw [Hl.out]; exact hlt)
      obtain ⟨b2, o2, F2, n2, f2, rfl, hl2, g3, g4, g5, hR2, hln2, _, _, _⟩ := (H2.out.grow hb).at_ (i := k) (by rw [Hl.out]; exact hlt)
      rw [hln] at hln2
      subst hln2
      have hi0 : (0 : Int) ≤ (k : Int) := by omega
      have hi1 : (k : Int) < (n : Int) := by omega
      have C1 : Hid (∀ wx, Below wr.heap.size wr wx → Calls Try.prog 86 #[.agg #[.int .i64 (ds[k]'(by rw [Hl.out]; exact hlt)).at_, .slice F1 n1 f1], .agg #[.int .i64 (ds[k]'(by rw [Hl.out]; exact hlt)).at_, .slice F2 n1 f2]] wx fun e w' => e = .returned (.bool true) ∧ Below wx.heap.size wx w') := Lib.hid (fun wx hC => sameEvent_eq _ F1 F2 n1 f1 f2 _ wx (reads_grow hC hR1) (reads_grow hC hR2) hln hfn)
      have Hb := Lib.hid hb
      clear hR1 hR2 hln hb
      generalize (ds[k]'(by rw [Hl.out]; exact hlt)).seq = s at *
      generalize (ds[k]'(by rw [Hl.out]; exact hlt)).at_ = a at *
      have hss : (s != s) = false := by simp
      have hcells : ∀ wx, Below wr.heap.size wr wx → wx.cell? ⟨b1, o1 + k * 3, none⟩ = some (.int .i64 s) ∧ wx.cell? ⟨b1, o1 + k * 3 + 1, none⟩ = some (.int .i64 a) ∧ wx.cell? ⟨b1, o1 + k * 3 + 2, none⟩ = some (.slice F1 n1 f1) ∧
          wx.cell? ⟨b2, o2 + k * 3, none⟩ = some (.int .i64 s) ∧ wx.cell? ⟨b2, o2 + k * 3 + 1, none⟩ = some (.int .i64 a) ∧ wx.cell? ⟨b2, o2 + k * 3 + 2, none⟩ = some (.slice F2 n1 f2) := fun wx hC =>
        ⟨(hC.cell (p := ⟨b1, o1 + k * 3, none⟩) hl1).trans g0, (hC.cell (p := ⟨b1, o1 + k * 3 + 1, none⟩) hl1).trans g1, (hC.cell (p := ⟨b1, o1 + k * 3 + 2, none⟩) hl1).trans g2,
         (hC.cell (p := ⟨b2, o2 + k * 3, none⟩) hl2).trans g3, (hC.cell (p := ⟨b2, o2 + k * 3 + 1, none⟩) hl2).trans g4, (hC.cell (p := ⟨b2, o2 + k * 3 + 2, none⟩) hl2).trans g5⟩
      have hcells' := Lib.hid hcells
      clear hcells g0 g1 g2 g3 g4 g5
      go_wp2_with fail
      refine wp_region_grow (specOf [(22, ⟨Unit, fun _ => (.bool true), fun _ _ => True⟩)]) (fun wx => Below (World.heap wr).size wr wx) (fun w1 w2 => Below w1.heap.size w1 w2) (by kernel_rfl) (by kernel_rfl) (stab_cons (fun _ _ _ _ h => h) (stab_nil)) (Below.refl _ _).drew ?_
      refine grow_fix 1 ?_ rfl (by rfl) (by rfl) (fun wx hC hD => ?_) ?_
      rotate_left
      · have hSw := hcells'.out wx hC
        go_simp
        all_goals with_reducible rfl
      try simp only [Act.put, List.setIfInBounds_toArray, List.set_cons_zero, List.set_cons_succ]
      refine grow_fix 2 ?_ rfl (by rfl) (by rfl) (fun wx hC hD => ?_) ?_
      rotate_left
      · have hSw := hcells'.out wx hC
        go_simp
        all_goals with_reducible rfl
      try simp only [Act.put, List.setIfInBounds_toArray, List.set_cons_zero, List.set_cons_succ]
      refine grow_fix 3 ?_ rfl (by rfl) (by rfl) (fun wx hC hD => ?_) ?_
      rotate_left
      · have hSw := hcells'.out wx hC
        go_simp
        all_goals with_reducible rfl
      try simp only [Act.put, List.setIfInBounds_toArray, List.set_cons_zero, List.set_cons_succ]
      refine grow_fix 4 ?_ rfl (by rfl) (by rfl) (fun wx hC hD => ?_) ?_
      rotate_left
      · have hSw := hcells'.out wx hC
        go_simp
        all_goals with_reducible rfl
      try simp only [Act.put, List.setIfInBounds_toArray, List.set_cons_zero, List.set_cons_succ]
      refine grow_fix 5 ?_ rfl (by rfl) (by rfl) (fun wx hC hD => ?_) ?_
      rotate_left
      · have hSw := hcells'.out wx hC
        go_simp
        all_goals with_reducible rfl
      try simp only [Act.put, List.setIfInBounds_toArray, List.set_cons_zero, List.set_cons_succ]
      refine grow_fix 6 ?_ rfl (by rfl) (by rfl) (fun wx hC hD => ?_) ?_
      rotate_left
      · have hSw := hcells'.out wx hC
        go_simp
        all_goals with_reducible rfl
      try simp only [Act.put, List.setIfInBounds_toArray, List.set_cons_zero, List.set_cons_succ]
      refine grow_fix 7 ?_ rfl (by rfl) (by rfl) (fun wx hC hD => ?_) ?_
      rotate_left
      · have hSw := hcells'.out wx hC
        go_simp
        all_goals with_reducible rfl
      try simp only [Act.put, List.setIfInBounds_toArray, List.set_cons_zero, List.set_cons_succ]
      refine grow_fix 8 ?_ rfl (by rfl) (by rfl) (fun wx hC hD => ?_) ?_
      rotate_left
      · have hSw := hcells'.out wx hC
        go_simp
        all_goals with_reducible rfl
      try simp only [Act.put, List.setIfInBounds_toArray, List.set_cons_zero, List.set_cons_succ]
      refine grow_fix 9 ?_ rfl (by rfl) (by rfl) (fun wx hC hD => ?_) ?_
      rotate_left
      · have hSw := hcells'.out wx hC
        go_simp
        all_goals with_reducible rfl
      try simp only [Act.put, List.setIfInBounds_toArray, List.set_cons_zero, List.set_cons_succ]
      refine grow_fix 10 ?_ rfl (by rfl) (by rfl) (fun wx hC hD => ?_) ?_
      rotate_left
      · have hSw := hcells'.out wx hC
        go_simp
        all_goals with_reducible rfl
      try simp only [Act.put, List.setIfInBounds_toArray, List.set_cons_zero, List.set_cons_succ]
      refine grow_fix 11 ?_ rfl (by rfl) (by rfl) (fun wx hC hD => ?_) ?_
      rotate_left
      · have hSw := hcells'.out wx hC
        go_simp
        all_goals with_reducible rfl
      try simp only [Act.put, List.setIfInBounds_toArray, List.set_cons_zero, List.set_cons_succ]
      refine grow_fix 12 ?_ rfl (by rfl) (by rfl) (fun wx hC hD => ?_) ?_
      rotate_left
      · have hSw := hcells'.out wx hC
        go_simp
        all_goals with_reducible rfl
      try simp only [Act.put, List.setIfInBounds_toArray, List.set_cons_zero, List.set_cons_succ]
      refine grow_fix 13 ?_ rfl (by rfl) (by rfl) (fun wx hC hD => ?_) ?_
      rotate_left
      · have hSw := hcells'.out wx hC
        go_simp
        all_goals with_reducible rfl
      try simp only [Act.put, List.setIfInBounds_toArray, List.set_cons_zero, List.set_cons_succ]
      refine grow_fix 14 ?_ rfl (by rfl) (by rfl) (fun wx hC hD => ?_) ?_
      rotate_left
      · have hSw := hcells'.out wx hC
        go_simp
        all_goals with_reducible rfl
      try simp only [Act.put, List.setIfInBounds_toArray, List.set_cons_zero, List.set_cons_succ]
      refine grow_fix 15 ?_ rfl (by rfl) (by rfl) (fun wx hC hD => ?_) ?_
      rotate_left
      · have hSw := hcells'.out wx hC
        go_simp
        all_goals with_reducible rfl
      try simp only [Act.put, List.setIfInBounds_toArray, List.set_cons_zero, List.set_cons_succ]
      refine grow_fix 16 ?_ rfl (by rfl) (by rfl) (fun wx hC hD => ?_) ?_
      rotate_left
      · have hSw := hcells'.out wx hC
        go_simp
        all_goals with_reducible rfl
      try simp only [Act.put, List.setIfInBounds_toArray, List.set_cons_zero, List.set_cons_succ]
      refine grow_fix 17 ?_ rfl (by rfl) (by rfl) (fun wx hC hD => ?_) ?_
      rotate_left
      · have hSw := hcells'.out wx hC
        go_simp
        all_goals with_reducible rfl
      try simp only [Act.put, List.setIfInBounds_toArray, List.set_cons_zero, List.set_cons_succ]
      refine grow_fix 18 ?_ rfl (by rfl) (by rfl) (fun wx hC hD => ?_) ?_
      rotate_left
      · have hSw := hcells'.out wx hC
        go_simp
        all_goals with_reducible rfl
      try simp only [Act.put, List.setIfInBounds_toArray, List.set_cons_zero, List.set_cons_succ]
      refine grow_fix 19 ?_ rfl (by rfl) (by rfl) (fun wx hC hD => ?_) ?_
      rotate_left
      · have hSw := hcells'.out wx hC
        go_simp
        all_goals with_reducible rfl
      try simp only [Act.put, List.setIfInBounds_toArray, List.set_cons_zero, List.set_cons_succ]
      refine grow_fix 20 ?_ rfl (by rfl) (by rfl) (fun wx hC hD => ?_) ?_
      rotate_left
      · have hSw := hcells'.out wx hC
        go_simp
        all_goals with_reducible rfl
      try simp only [Act.put, List.setIfInBounds_toArray, List.set_cons_zero, List.set_cons_succ]
      refine grow_fix 21 ?_ rfl (by rfl) (by rfl) (fun wx hC hD => ?_) ?_
      rotate_left
      · have hSw := hcells'.out wx hC
        go_simp
        all_goals with_reducible rfl
      try simp only [Act.put, List.setIfInBounds_toArray, List.set_cons_zero, List.set_cons_succ]
      refine grow_fix 22 ?_ rfl (by rfl) (by rfl) (fun wx hC hD => ?_) ?_
      rotate_left
      · have hSw := hcells'.out wx hC
        go_simp
        all_goals with_reducible rfl
      try simp only [Act.put, List.setIfInBounds_toArray, List.set_cons_zero, List.set_cons_succ]
      refine grow_give 23 _ rfl (by rfl) (by rfl) (fun wx hC hD => ?_) (fun x => ?_)
      · refine give_enter (f := ?_) (args := ?_) ?_ ?_
        rotate_left 2
        · have hSw := hcells'.out wx hC
          go_simp
          all_goals first | with_reducible rfl | (refine ⟨?_, ?_⟩ <;> with_reducible rfl)
        exact calls_cst hC (C1.out wx hC)
      obtain ⟨⟩ := x
      try simp only [Act.put, List.setIfInBounds_toArray, List.set_cons_zero, List.set_cons_succ]
      refine grow_fix 24 ?_ rfl (by rfl) (by rfl) (fun wx hC hD => ?_) ?_
      rotate_left
      · have hSw := hcells'.out wx hC
        go_simp
        all_goals with_reducible rfl
      try simp only [Act.put, List.setIfInBounds_toArray, List.set_cons_zero, List.set_cons_succ]
      refine grow_fix 25 ?_ rfl (by rfl) (by rfl) (fun wx hC hD => ?_) ?_
      rotate_left
      · have hSw := hcells'.out wx hC
        go_simp
        all_goals with_reducible rfl
      try simp only [Act.put, List.setIfInBounds_toArray, List.set_cons_zero, List.set_cons_succ]
      refine grow_nil (fun w2 hC hF => ?_)
      have Hb2 := Lib.hid (Hb.out.trans (hC.mono Hb.out.size))
      clear hF hC
      go_wp2
      go_roundw
      case rel => exact ⟨k + 1, by omega, by go_num, Hb2.out⟩
      case measure => simp [intOf]; omega
    · obtain rfl : k = n := by omega
      have Hb := Lib.hid hb
      clear hb
      go_wp2
      go_ret
      exact ⟨rfl, Hb.out⟩
end Go.Proofs.Ytjfconddkfihcaa.Qy
end

section
/- loggialaw19.awake: the page's example. -/
namespace Go.Proofs.Ytjfconddkfihcaa.Qy
open Go.RowKit Go.Proofs.Ytjfconddkfihcaa Go.Proofs.Ytjfconddkfihcaa.Ut Go.Proofs.Ytjfconddkfihcaa.Tk
set_option maxRecDepth 20000
set_option linter.unusedSimpArgs false

def exF : List (ByteArray × ByteArray) := [(⟨#[109, 115, 103]⟩, ⟨#[120, 32, 65, 66]⟩)]
def exQ : Q := .mk 2 ⟨#[109, 115, 103]⟩ [⟨#[97, 98]⟩] []
def exN : Q := .mk 7 ByteArray.empty [] [exQ]
theorem exQ_yes : matchB exF exQ = true := by decide +kernel
theorem exN_no : matchB exF exN = false := by decide +kernel
theorem exQ_needs : needs exQ = [⟨#[109, 115, 103, 58, 97, 98]⟩] := by decide +kernel
theorem exQ_none : matchB [] exQ = false := by decide +kernel


theorem reads_one {w : World} {b : Nat} {v : Value} (h : w.cell? ⟨b, 0, none⟩ = some v) : Reads w w.heap.size 1 (some ⟨b, 0, none⟩) 1 [v] :=
  ⟨rfl, fun _ => ⟨b, 0, rfl, World.block_lt_of_cell? w _ h, fun j u hu => by
    match j with
    | 0 => simp at hu; subst hu; exact h
    | j + 1 => simp at hu⟩⟩
/-- The example's parts, below a world. -/
structure Ex (w : World) (b : Nat) : Prop where
  f0 : w.cell? ⟨b, 0, none⟩ = some (.string ⟨#[109, 115, 103]⟩)
  f1 : w.cell? ⟨b, 1, none⟩ = some (.string ⟨#[120, 32, 65, 66]⟩)
  e0 : w.cell? ⟨b + 1, 0, none⟩ = some (.int .i64 0)
  e1 : w.cell? ⟨b + 1, 1, none⟩ = some (.slice (some ⟨b, 0, none⟩) 1 1)
  s0 : w.cell? ⟨b + 1 + 1, 0, none⟩ = some (.string ⟨#[97, 98]⟩)
  q0 : w.cell? ⟨b + 1 + 1 + 1, 0, none⟩ = some (.int .i64 2)
  q1 : w.cell? ⟨b + 1 + 1 + 1, 1, none⟩ = some (.string ⟨#[109, 115, 103]⟩)
  q2 : w.cell? ⟨b + 1 + 1 + 1, 2, none⟩ = some (.slice (some ⟨b + 1 + 1, 0, none⟩) 1 1)
  q3 : w.cell? ⟨b + 1 + 1 + 1, 3, none⟩ = some (.slice none 0 0)
theorem Ex.grow {w w' : World} {b : Nat} (h : Ex w b) (hb : Below w.heap.size w w') : Ex w' b := by
  have g : ∀ {a : Addr} {v : Value}, w.cell? a = some v → w'.cell? a = some v := fun {a v} e => by
    have hl := World.block_lt_of_cell? w _ e
    exact (hb.cell hl).trans e
  exact ⟨g h.f0, g h.f1, g h.e0, g h.e1, g h.s0, g h.q0, g h.q1, g h.q2, g h.q3⟩
theorem Ex.q {w : World} {b : Nat} (h : Ex w b) : QAt w w.heap.size exQ [.int .i64 2, .string ⟨#[109, 115, 103]⟩, .slice (some ⟨b + 1 + 1, 0, none⟩) 1 1, .slice none 0 0] :=
  .mk [] rfl (reads_one h.s0) rfl rfl (by simp) Reads.none_ (fun i hi => absurd hi (by simp))
theorem Ex.f {w : World} {b : Nat} (h : Ex w b) : Reads w w.heap.size 2 (some ⟨b, 0, none⟩) 1 (fldC exF) :=
  ⟨rfl, fun _ => ⟨b, 0, rfl, World.block_lt_of_cell? w _ h.f0, fun j u hu => by
    match j with
    | 0 => simp [fldC, exF] at hu; subst hu; exact h.f0
    | 1 => simp [fldC, exF] at hu; subst hu; exact h.f1
    | j + 2 => simp [fldC, exF] at hu⟩⟩
theorem exF_sz : ∀ f ∈ exF, f.2.size ≤ 1000000 := by decide +kernel
theorem Ex.ev {w : World} {b : Nat} (h : Ex w b) : EvAt w (some ⟨b, 0, none⟩) 1 exF := ⟨h.f, rfl, by omega, exF_sz⟩
theorem exQ_sz : QSz exQ := .mk (by simp) (by simp) (fun x hx => by simp at hx)
theorem exN_sz : QSz exN := .mk (by simp) (by simp) (fun x hx => by simp at hx; subst hx; exact exQ_sz)
theorem exQ_tx : QTx 140737488351232 exQ := .mk (by decide) (by decide) (fun x hx => by simp at hx)
def exW (w : World) : World := (((w.alloc (.cells #[.string ⟨#[109, 115, 103]⟩, .string ⟨#[120, 32, 65, 66]⟩] 54)).alloc (.cells #[.int .i64 0, .slice (some ⟨w.heap.size, 0, none⟩) 1 1] 49)).alloc (.cells #[.string ⟨#[97, 98]⟩] 9)).alloc
  (.cells #[.int .i64 2, .string ⟨#[109, 115, 103]⟩, .slice (some ⟨w.heap.size + 1 + 1, 0, none⟩) 1 1, .slice none 0 0] 37)
theorem ex_new (w : World) : Ex (exW w) w.heap.size ∧ Below w.heap.size w (exW w) := by
  unfold exW
  have h1 := Blk.new w 54 #[.string ⟨#[109, 115, 103]⟩, .string ⟨#[120, 32, 65, 66]⟩]
  have b1 : Below w.heap.size w (w.alloc (.cells #[.string ⟨#[109, 115, 103]⟩, .string ⟨#[120, 32, 65, 66]⟩] 54)) := (Below.refl _ _).alloc (Nat.le_refl _) _
  have z1 : (w.alloc (.cells #[.string ⟨#[109, 115, 103]⟩, .string ⟨#[120, 32, 65, 66]⟩] 54)).heap.size = w.heap.size + 1 := by simp
  generalize w.alloc (.cells #[.string ⟨#[109, 115, 103]⟩, .string ⟨#[120, 32, 65, 66]⟩] 54) = w1 at *
  have h2 := Blk.new w1 49 #[.int .i64 0, .slice (some ⟨w.heap.size, 0, none⟩) 1 1]
  have h1' := h1.alloc (.cells #[.int .i64 0, .slice (some ⟨w.heap.size, 0, none⟩) 1 1] 49)
  have b2 := b1.alloc (by omega) (.cells #[.int .i64 0, .slice (some ⟨w.heap.size, 0, none⟩) 1 1] 49)
  have z2 : (w1.alloc (.cells #[.int .i64 0, .slice (some ⟨w.heap.size, 0, none⟩) 1 1] 49)).heap.size = w.heap.size + 1 + 1 := by simp [z1]
  rw [z1] at h2
  generalize w1.alloc (.cells #[.int .i64 0, .slice (some ⟨w.heap.size, 0, none⟩) 1 1] 49) = w2 at *
  have h3 := Blk.new w2 9 #[.string ⟨#[97, 98]⟩]
  have h1'' := h1'.alloc (.cells #[.string ⟨#[97, 98]⟩] 9)
  have h2' := h2.alloc (.cells #[.string ⟨#[97, 98]⟩] 9)
  have b3 := b2.alloc (by omega) (.cells #[.string ⟨#[97, 98]⟩] 9)
  have z3 : (w2.alloc (.cells #[.string ⟨#[97, 98]⟩] 9)).heap.size = w.heap.size + 1 + 1 + 1 := by simp [z2]
  rw [z2] at h3
  generalize w2.alloc (.cells #[.string ⟨#[97, 98]⟩] 9) = w3 at *
  have h4 := Blk.new w3 37 #[.int .i64 2, .string ⟨#[109, 115, 103]⟩, .slice (some ⟨w.heap.size + 1 + 1, 0, none⟩) 1 1, .slice none 0 0]
  rw [z3] at h4
  have k1 := h1''.alloc (.cells #[.int .i64 2, .string ⟨#[109, 115, 103]⟩, .slice (some ⟨w.heap.size + 1 + 1, 0, none⟩) 1 1, .slice none 0 0] 37)
  have k2 := h2'.alloc (.cells #[.int .i64 2, .string ⟨#[109, 115, 103]⟩, .slice (some ⟨w.heap.size + 1 + 1, 0, none⟩) 1 1, .slice none 0 0] 37)
  have k3 := h3.alloc (.cells #[.int .i64 2, .string ⟨#[109, 115, 103]⟩, .slice (some ⟨w.heap.size + 1 + 1, 0, none⟩) 1 1, .slice none 0 0] 37)
  exact ⟨⟨k1.cell 0, k1.cell 1, k2.cell 0, k2.cell 1, k3.cell 0, h4.cell 0, h4.cell 1, h4.cell 2, h4.cell 3⟩, b3.alloc (by omega) _⟩
theorem ex_not {w : World} {b : Nat} (h : Ex w b) : QAt (w.alloc (.cells #[.int .i64 2, .string ⟨#[109, 115, 103]⟩, .slice (some ⟨b + 1 + 1, 0, none⟩) 1 1, .slice none 0 0] 37)) (w.alloc (.cells #[.int .i64 2, .string ⟨#[109, 115, 103]⟩, .slice (some ⟨b + 1 + 1, 0, none⟩) 1 1, .slice none 0 0] 37)).heap.size exN
    [.int .i64 7, .string ByteArray.empty, .slice none 0 0, .slice (some ⟨w.heap.size, 0, none⟩) 1 1] := by
  have hB := Blk.new w 37 #[.int .i64 2, .string ⟨#[109, 115, 103]⟩, .slice (some ⟨b + 1 + 1, 0, none⟩) 1 1, .slice none 0 0]
  refine .mk [[.int .i64 2, .string ⟨#[109, 115, 103]⟩, .slice (some ⟨b + 1 + 1, 0, none⟩) 1 1, .slice none 0 0]] rfl Reads.none_ rfl rfl (by simp) ⟨rfl, fun _ => ⟨w.heap.size, 0, rfl, by simp, fun j u hu => ?_⟩⟩ (fun i hi hi' => ?_)
  · rw [Nat.zero_add, hB.cell j]
    simpa using hu
  · obtain rfl : i = 0 := by simp at hi; omega
    exact (h.grow ((Below.refl _ _).alloc (Nat.le_refl _) _)).q
theorem str_back (x : ByteArray) : str x.data.toList = x := by unfold str; rfl
theorem bsv_sv (l : List ByteArray) : bsv l = sv (l.map fun x => x.data.toList) := by
  unfold bsv sv
  simp only [List.map_map]
  refine List.map_congr_left fun x _ => ?_
  simp only [Function.comp_apply, str_back]
theorem sameB_eq (A A' : Option Addr) (c c' : Nat) (l : List ByteArray) (w : World) (h : Reads w w.heap.size 1 A l.length (bsv l)) (h' : Reads w w.heap.size 1 A' l.length (bsv l)) (hl : l.length ≤ 8796093021952) :
    Calls Try.prog 34 #[.slice A l.length c, .slice A' l.length c'] w fun e w' => e = .returned (.bool true) ∧ Below w.heap.size w w' := by
  have e : l.length = (l.map fun x => x.data.toList).length := by simp
  rw [bsv_sv, e] at h h'
  rw [e]
  exact sameWords_eq A A' c c' w.heap.size _ w h h' (Nat.le_refl _) (by rw [← e]; exact hl)
def exD : List Dc := [⟨0, 0, exF⟩, ⟨0, 0, []⟩]
theorem exD_count : ((exD.filter fun d => matchB d.fs exQ).length : Nat) = 1 := by decide +kernel
theorem exD_small : Small exD := by unfold Small; decide +kernel
theorem ex_docs {w : World} {b : Nat} (h : Ex w b) : DocsAt (w.alloc (.cells #[.int .i64 0, .int .i64 0, .slice (some ⟨b, 0, none⟩) 1 1, .int .i64 0, .int .i64 0, .slice none 0 0] 80)) (w.alloc (.cells #[.int .i64 0, .int .i64 0, .slice (some ⟨b, 0, none⟩) 1 1, .int .i64 0, .int .i64 0, .slice none 0 0] 80)).heap.size (some ⟨w.heap.size, 0, none⟩) 2 exD := by
  have hB := Blk.new w 80 #[.int .i64 0, .int .i64 0, .slice (some ⟨b, 0, none⟩) 1 1, .int .i64 0, .int .i64 0, .slice none 0 0]
  have hx := h.grow ((Below.refl _ _).alloc (Nat.le_refl _) (.cells #[.int .i64 0, .int .i64 0, .slice (some ⟨b, 0, none⟩) 1 1, .int .i64 0, .int .i64 0, .slice none 0 0] 80))
  refine ⟨rfl, [[.int .i64 0, .int .i64 0, .slice (some ⟨b, 0, none⟩) 1 1], [.int .i64 0, .int .i64 0, .slice none 0 0]], rfl, ⟨rfl, fun _ => ⟨w.heap.size, 0, rfl, by simp, fun j u hu => ?_⟩⟩, fun i hi hi' => ?_⟩
  · rw [Nat.zero_add, hB.cell j]
    simpa using hu
  · have hc : i = 0 ∨ i = 1 := by simp [exD] at hi; omega
    rcases hc with rfl | rfl
    · exact ⟨some ⟨b, 0, none⟩, 1, 1, rfl, hx.f, rfl, by omega, by omega, fun e => by cases e⟩
    · exact ⟨none, 0, 0, rfl, Reads.none_, rfl, by omega, by omega, fun e => rfl⟩
set_option maxHeartbeats 1600000 in
theorem awake_any (w : World) : Calls Try.prog 52 #[] w fun e w' => e = .returned (.bool true) ∧ Below w.heap.size w w' := by
  obtain ⟨hE, hb⟩ := ex_new w
  unfold exW at hE hb
  go_enter Try.func52, Try.ntmps52
  go_wp2_with fail
  generalize (((w.alloc (.cells #[.string ⟨#[109, 115, 103]⟩, .string ⟨#[120, 32, 65, 66]⟩] 54)).alloc (.cells #[.int .i64 0, .slice (some ⟨w.heap.size, 0, none⟩) 1 1] 49)).alloc (.cells #[.string ⟨#[97, 98]⟩] 9)).alloc
    (.cells #[.int .i64 2, .string ⟨#[109, 115, 103]⟩, .slice (some ⟨w.heap.size + 1 + 1, 0, none⟩) 1 1, .slice none 0 0] 37) = w4 at *
  have hz4 : w.heap.size ≤ w4.heap.size := hb.size
  generalize hbe : w.heap.size = b at *
  have Hbe := Lib.hid hbe
  clear hbe
  have c1 := match_any exF exQ exQ_sz _ _ _ _ _ 0 _ 1 1 hE.q hE.ev
  rw [exQ_yes] at c1
  refine c1.mono ?_
  rintro e w5 ⟨rfl, hb5⟩
  have hb5' := hb.trans (hb5.mono hz4)
  have hz5 : b ≤ w5.heap.size := Nat.le_trans hz4 hb5.size
  have hE5 := hE.grow hb5
  clear c1 hb hE hb5
  have HE5 := Lib.hid hE5
  have Hb5 := Lib.hid hb5'
  obtain ⟨_, _, g0, g1, _, g2, g3, g4, g5⟩ := hE5
  clear hb5'
  obtain ⟨_, _, k0, k1, _, _, _, _, _⟩ := HE5.out.grow ((Below.refl _ _).alloc (Nat.le_refl _) (.cells #[.int .i64 2, .string ⟨#[109, 115, 103]⟩, .slice (some ⟨b + 1 + 1, 0, none⟩) 1 1, .slice none 0 0] 37))
  go_wp2_with fail
  have c2 := match_any exF exN exN_sz _ _ _ _ _ 0 _ 1 1 (ex_not HE5.out) (HE5.out.grow ((Below.refl _ _).alloc (Nat.le_refl _) _)).ev
  rw [exN_no] at c2
  refine c2.mono ?_
  rintro e w6 ⟨rfl, hb6⟩
  have hb56 : Below w5.heap.size w5 w6 := ((Below.refl _ _).alloc (Nat.le_refl _) _).trans (hb6.mono (by simp))
  have hE6 := HE5.out.grow hb56
  have HE6 := Lib.hid hE6
  have Hb6 := Lib.hid (Hb5.out.trans (hb56.mono hz5))
  have hz6 : b ≤ w6.heap.size := Nat.le_trans hz5 hb56.size
  clear hb56 c2 hb6 HE5 Hb5 k0 k1 g0 g1 g2 g3 g4 g5
  obtain ⟨_, _, g0, g1, _, g2, g3, g4, g5⟩ := hE6
  go_wp2_with fail
  have c3 := count_any exQ exQ_sz _ _ _ _ _ 2 2 exD _ (HE6.out.grow ((Below.refl _ _).alloc (Nat.le_refl _) _)).q (ex_docs HE6.out) (by decide) exD_small
  rw [exD_count] at c3
  refine c3.mono ?_
  rintro e w7 ⟨rfl, hb7⟩
  have hb67 : Below w6.heap.size w6 w7 := ((Below.refl _ _).alloc (Nat.le_refl _) _).trans (hb7.mono (by simp))
  have hE7 := HE6.out.grow hb67
  have HE7 := Lib.hid hE7
  have Hb7 := Lib.hid (Hb6.out.trans (hb67.mono hz6))
  have hz7 : b ≤ w7.heap.size := Nat.le_trans hz6 hb67.size
  clear hb67 c3 hb7 HE6 Hb6 g0 g1 g2 g3 g4 g5
  obtain ⟨_, _, g0, g1, _, g2, g3, g4, g5⟩ := hE7
  go_wp2_with fail
  have c4 := needs_any exQ exQ_tx w7 _ _ _ _ HE7.out.q (by decide)
  rw [exQ_needs] at c4
  refine c4.mono ?_
  rintro e w8 ⟨v8, rfl, hown8, hb8⟩
  obtain ⟨A8, c8, rfl, hR8⟩ := own_shape hown8
  have HR8 := Lib.hid hR8
  have Hb8 := Lib.hid (Hb7.out.trans (hb8.mono hz7))
  have hz8 : b ≤ w8.heap.size := Nat.le_trans hz7 hb8.size
  clear hR8 hown8 hb8 c4 Hb7 HE7 g0 g1 g2 g3 g4 g5
  go_wp2_with fail
  have c9 := sameB_eq A8 (some ⟨w8.heap.size, 0, none⟩) c8 1 [⟨#[109, 115, 103, 58, 97, 98]⟩] (w8.alloc (.cells #[.string ⟨#[109, 115, 103, 58, 97, 98]⟩] 9)) ((HR8.out.below ((Below.refl _ _).alloc (Nat.le_refl _) _)).more (by simp)) (reads_one ((Blk.new w8 9 #[.string ⟨#[109, 115, 103, 58, 97, 98]⟩]).cell 0)) (by decide)
  refine c9.mono ?_
  rintro e w9 ⟨rfl, hb9⟩
  have Hb9 := Lib.hid (Hb8.out.trans ((((Below.refl _ _).alloc (Nat.le_refl _) _ : Below w8.heap.size w8 _).trans (hb9.mono (by simp))).mono hz8))
  clear hb9 c9 HR8 Hb8
  go_wp2
  go_ret
  exact ⟨rfl, by rw [Hbe.out]; exact Hb9.out⟩
end Go.Proofs.Ytjfconddkfihcaa.Qy
end
