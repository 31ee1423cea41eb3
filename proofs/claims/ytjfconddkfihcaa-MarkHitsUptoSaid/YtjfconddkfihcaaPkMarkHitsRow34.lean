/- The document's SameEvent, SameDocs, at equal rows: the walks. -/
import Derived.Test.YtjfconddkfihcaaPkMarkHitsRow32
import Derived.Test.YtjfconddkfihcaaNeedSPk
import Derived.Test.YtjfconddkfihcaaPkMarkHitsRow16
import Derived.Test.YtjfconddkfihcaaMkLPk
section
namespace Go.Proofs.Ytjfconddkfihcaa.Qy
open Go.RowKit Go.Proofs.Ytjfconddkfihcaa Go.Proofs.Ytjfconddkfihcaa.Ut Go.Proofs.Ytjfconddkfihcaa.Tk
set_option maxRecDepth 20000
set_option linter.unusedSimpArgs false

set_option maxHeartbeats 1600000 in
theorem sameEvent_eq (t : Int) (F1 F2 : Option Addr) (n c1 c2 : Nat) (fs : List (ByteArray × ByteArray)) (w : World) (h1 : Reads w w.heap.size 2 F1 n (fldC fs)) (h2 : Reads w w.heap.size 2 F2 n (fldC fs)) (hl : fs.length = n) (hn : n ≤ 8796093021952) :
    Calls Try.prog 86 #[.agg #[.int .i64 t, .slice F1 n c1], .agg #[.int .i64 t, .slice F2 n c2]] w fun e w' => e = .returned (.bool true) ∧ Below w.heap.size w w' := by
  have hb1 : Below w.heap.size w (w.alloc (.cells #[.int .i64 t, .slice F1 n c1] 49)) := (Below.refl _ _).alloc (Nat.le_refl _) _
  have hb2 : Below w.heap.size w ((w.alloc (.cells #[.int .i64 t, .slice F1 n c1] 49)).alloc (.cells #[.int .i64 t, .slice F2 n c2] 49)) := hb1.alloc hb1.size _
  have hB1 := (Blk.new w 49 #[.int .i64 t, .slice F1 n c1]).alloc (.cells #[.int .i64 t, .slice F2 n c2] 49)
  have hB2 := Blk.new (w.alloc (.cells #[.int .i64 t, .slice F1 n c1] 49)) 49 #[.int .i64 t, .slice F2 n c2]
  have z1 : (w.alloc (.cells #[.int .i64 t, .slice F1 n c1] 49)).heap.size = w.heap.size + 1 := by simp
  rw [z1] at hB2
  have z2 : w.heap.size + 1 < (World.heap ((w.alloc (.cells #[.int .i64 t, .slice F1 n c1] 49)).alloc (.cells #[.int .i64 t, .slice F2 n c2] 49))).size := by simp
  have H1 := Lib.hid (reads_grow hb2 h1)
  have H2 := Lib.hid (reads_grow hb2 h2)
  have HB1 := Lib.hid hB1
  have HB2 := Lib.hid hB2
  have Hb2 := Lib.hid hb2
  have Hl := Lib.hid hl
  have htt : (t == t) = true := by simp
  have htn : (t != t) = false := by simp
  clear h1 h2 hl hb1 hb2 hB1 hB2 z1
  go_enter Try.func86, Try.ntmps86
  go_wp2_with fail
  generalize hw2 : ((w.alloc (.cells #[.int .i64 t, .slice F1 n c1] 49)).alloc (.cells #[.int .i64 t, .slice F2 n c2] 49)) = w2 at *
  clear hw2
  go_loopw [5] (fun i wr => ∃ k : Nat, k ≤ n ∧ i = .int .i64 k ∧ Below w2.heap.size w2 wr) (fun i _ => n - (intOf i).toNat)
  case atStart => exact ⟨0, Nat.zero_le _, rfl, Below.refl _ _⟩
  case round =>
    obtain ⟨k, hk, rfl, hb⟩ := hrel
    have hq1 := (HB1.out.below hb (by omega)).cell 1
    have hq2 := (HB2.out.below hb (by omega)).cell 1
    simp at hq1 hq2
    by_cases hlt : k < n
    · obtain ⟨b1, o1, rfl, hl1, g1, g2⟩ := fields_at (reads_grow hb H1.out) (k := k) (by rw [Hl.out]; exact hlt)
      obtain ⟨b2, o2, rfl, hl2, g3, g4⟩ := fields_at (reads_grow hb H2.out) (k := k) (by rw [Hl.out]; exact hlt)
      have hi0 : (0 : Int) ≤ (k : Int) := by omega
      have hi1 : (k : Int) < (n : Int) := by omega
      have Hb := Lib.hid hb
      generalize (fs[k]'(by rw [Hl.out]; exact hlt)) = f at *
      obtain ⟨x, y⟩ := f
      clear hb
      go_wp2_with fail
      go_quiet (fail)
      go_wp2
      go_roundw
      case rel => exact ⟨k + 1, by omega, by go_num, below_drewN Hb.out nq⟩
      case measure => simp [intOf]; omega
    · obtain rfl : k = n := by omega
      have Hb := Lib.hid (Hb2.out.trans (hb.mono Hb2.out.size))
      clear hb
      go_wp2
      go_ret
      exact ⟨rfl, Hb.out⟩

set_option maxHeartbeats 1600000 in
theorem sameDocs_eq (A1 A2 : Option Addr) (n c1 c2 : Nat) (ds : List Dc) (w : World) (h1 : DocsAt w w.heap.size A1 n ds) (h2 : DocsAt w w.heap.size A2 n ds) (hn : n ≤ 8796093021952) :
    Calls Try.prog 56 #[.slice A1 n c1, .slice A2 n c2] w fun e w' => e = .returned (.bool true) ∧ Below w.heap.size w w' := by
  have H1 := Lib.hid h1
  have H2 := Lib.hid h2
  have Hl := Lib.hid h1.ln
  clear h1 h2
  go_enter Try.func56, Try.ntmps56
  go_wp2
  go_loopw [5] (fun i wr => ∃ k : Nat, k ≤ n ∧ i = .int .i64 k ∧ Below w.heap.size w wr) (fun i _ => n - (intOf i).toNat)
  case atStart => exact ⟨0, Nat.zero_le _, rfl, Below.refl _ _⟩
  case round =>
    obtain ⟨k, hk, rfl, hb⟩ := hrel
    by_cases hlt : k < n
    · obtain ⟨b1, o1, F1, n1, f1, rfl, hl1, g0, g1, g2, hR1, hln, hfn, _, _⟩ := (H1.out.grow hb).at_ (i := k) (by rw [Hl.out]; exact hlt)
      obtain ⟨b2, o2, F2, n2, f2, rfl, hl2, g3, g4, g5, hR2, hln2, _, _, _⟩ := (H2.out.grow hb).at_ (i := k) (by rw [Hl.out]; exact hlt)
      rw [hln] at hln2
      subst hln2
      have hi0 : (0 : Int) ≤ (k : Int) := by omega
      have hi1 : (k : Int) < (n : Int) := by omega
      have C1 : Hid (∀ wx, Below wr.heap.size wr wx → Calls Try.prog 86 #[.agg #[.int .i64 (ds[k]'(by rw [Hl.out]; exact hlt)).at_, .slice F1 n1 f1], .agg #[.int .i64 (ds[k]'(by rw [Hl.out]; exact hlt)).at_, .slice F2 n1 f2]] wx fun e w' => e = .returned (.bool true) ∧ Below wx.heap.size wx w') := Lib.hid (fun wx hC => sameEvent_eq _ F1 F2 n1 f1 f2 _ wx (reads_grow hC hR1) (reads_grow hC hR2) hln hfn)
      have Hb := Lib.hid hb
      clear hR1 hR2 hln hb
      generalize (ds[k]'(by rw [Hl.out]; exact hlt)).seq = s at *
      generalize (ds[k]'(by rw [Hl.out]; exact hlt)).at_ = a at *
      have hss : (s != s) = false := by simp
      have hcells : ∀ wx, Below wr.heap.size wr wx → wx.cell? ⟨b1, o1 + k * 3, none⟩ = some (.int .i64 s) ∧ wx.cell? ⟨b1, o1 + k * 3 + 1, none⟩ = some (.int .i64 a) ∧ wx.cell? ⟨b1, o1 + k * 3 + 2, none⟩ = some (.slice F1 n1 f1) ∧
          wx.cell? ⟨b2, o2 + k * 3, none⟩ = some (.int .i64 s) ∧ wx.cell? ⟨b2, o2 + k * 3 + 1, none⟩ = some (.int .i64 a) ∧ wx.cell? ⟨b2, o2 + k * 3 + 2, none⟩ = some (.slice F2 n1 f2) := fun wx hC =>
        ⟨(hC.cell (p := ⟨b1, o1 + k * 3, none⟩) hl1).trans g0, (hC.cell (p := ⟨b1, o1 + k * 3 + 1, none⟩) hl1).trans g1, (hC.cell (p := ⟨b1, o1 + k * 3 + 2, none⟩) hl1).trans g2,
         (hC.cell (p := ⟨b2, o2 + k * 3, none⟩) hl2).trans g3, (hC.cell (p := ⟨b2, o2 + k * 3 + 1, none⟩) hl2).trans g4, (hC.cell (p := ⟨b2, o2 + k * 3 + 2, none⟩) hl2).trans g5⟩
      have hcells' := Lib.hid hcells
      clear hcells g0 g1 g2 g3 g4 g5
      go_wp2_with fail
      refine wp_region_grow (specOf [(22, ⟨Unit, fun _ => (.bool true), fun _ _ => True⟩)]) (fun wx => Below (World.heap wr).size wr wx) (fun w1 w2 => Below w1.heap.size w1 w2) (by kernel_rfl) (by kernel_rfl) (stab_cons (fun _ _ _ _ h => h) (stab_nil)) (Below.refl _ _).drew ?_
      refine grow_fix 1 ?_ rfl (by rfl) (by rfl) (fun wx hC hD => ?_) ?_
      rotate_left
      · have hSw := hcells'.out wx hC
        go_simp
        all_goals with_reducible rfl
      try simp only [Act.put, List.setIfInBounds_toArray, List.set_cons_zero, List.set_cons_succ]
      refine grow_fix 2 ?_ rfl (by rfl) (by rfl) (fun wx hC hD => ?_) ?_
      rotate_left
      · have hSw := hcells'.out wx hC
        go_simp
        all_goals with_reducible rfl
      try simp only [Act.put, List.setIfInBounds_toArray, List.set_cons_zero, List.set_cons_succ]
      refine grow_fix 3 ?_ rfl (by rfl) (by rfl) (fun wx hC hD => ?_) ?_
      rotate_left
      · have hSw := hcells'.out wx hC
        go_simp
        all_goals with_reducible rfl
      try simp only [Act.put, List.setIfInBounds_toArray, List.set_cons_zero, List.set_cons_succ]
      refine grow_fix 4 ?_ rfl (by rfl) (by rfl) (fun wx hC hD => ?_) ?_
      rotate_left
      · have hSw := hcells'.out wx hC
        go_simp
        all_goals with_reducible rfl
      try simp only [Act.put, List.setIfInBounds_toArray, List.set_cons_zero, List.set_cons_succ]
      refine grow_fix 5 ?_ rfl (by rfl) (by rfl) (fun wx hC hD => ?_) ?_
      rotate_left
      · have hSw := hcells'.out wx hC
        go_simp
        all_goals with_reducible rfl
      try simp only [Act.put, List.setIfInBounds_toArray, List.set_cons_zero, List.set_cons_succ]
      refine grow_fix 6 ?_ rfl (by rfl) (by rfl) (fun wx hC hD => ?_) ?_
      rotate_left
      · have hSw := hcells'.out wx hC
        go_simp
        all_goals with_reducible rfl
      try simp only [Act.put, List.setIfInBounds_toArray, List.set_cons_zero, List.set_cons_succ]
      refine grow_fix 7 ?_ rfl (by rfl) (by rfl) (fun wx hC hD => ?_) ?_
      rotate_left
      · have hSw := hcells'.out wx hC
        go_simp
        all_goals with_reducible rfl
      try simp only [Act.put, List.setIfInBounds_toArray, List.set_cons_zero, List.set_cons_succ]
      refine grow_fix 8 ?_ rfl (by rfl) (by rfl) (fun wx hC hD => ?_) ?_
      rotate_left
      · have hSw := hcells'.out wx hC
        go_simp
        all_goals with_reducible rfl
      try simp only [Act.put, List.setIfInBounds_toArray, List.set_cons_zero, List.set_cons_succ]
      refine grow_fix 9 ?_ rfl (by rfl) (by rfl) (fun wx hC hD => ?_) ?_
      rotate_left
      · have hSw := hcells'.out wx hC
        go_simp
        all_goals with_reducible rfl
      try simp only [Act.put, List.setIfInBounds_toArray, List.set_cons_zero, List.set_cons_succ]
      refine grow_fix 10 ?_ rfl (by rfl) (by rfl) (fun wx hC hD => ?_) ?_
      rotate_left
      · have hSw := hcells'.out wx hC
        go_simp
        all_goals with_reducible rfl
      try simp only [Act.put, List.setIfInBounds_toArray, List.set_cons_zero, List.set_cons_succ]
      refine grow_fix 11 ?_ rfl (by rfl) (by rfl) (fun wx hC hD => ?_) ?_
      rotate_left
      · have hSw := hcells'.out wx hC
        go_simp
        all_goals with_reducible rfl
      try simp only [Act.put, List.setIfInBounds_toArray, List.set_cons_zero, List.set_cons_succ]
      refine grow_fix 12 ?_ rfl (by rfl) (by rfl) (fun wx hC hD => ?_) ?_
      rotate_left
      · have hSw := hcells'.out wx hC
        go_simp
        all_goals with_reducible rfl
      try simp only [Act.put, List.setIfInBounds_toArray, List.set_cons_zero, List.set_cons_succ]
      refine grow_fix 13 ?_ rfl (by rfl) (by rfl) (fun wx hC hD => ?_) ?_
      rotate_left
      · have hSw := hcells'.out wx hC
        go_simp
        all_goals with_reducible rfl
      try simp only [Act.put, List.setIfInBounds_toArray, List.set_cons_zero, List.set_cons_succ]
      refine grow_fix 14 ?_ rfl (by rfl) (by rfl) (fun wx hC hD => ?_) ?_
      rotate_left
      · have hSw := hcells'.out wx hC
        go_simp
        all_goals with_reducible rfl
      try simp only [Act.put, List.setIfInBounds_toArray, List.set_cons_zero, List.set_cons_succ]
      refine grow_fix 15 ?_ rfl (by rfl) (by rfl) (fun wx hC hD => ?_) ?_
      rotate_left
      · have hSw := hcells'.out wx hC
        go_simp
        all_goals with_reducible rfl
      try simp only [Act.put, List.setIfInBounds_toArray, List.set_cons_zero, List.set_cons_succ]
      refine grow_fix 16 ?_ rfl (by rfl) (by rfl) (fun wx hC hD => ?_) ?_
      rotate_left
      · have hSw := hcells'.out wx hC
        go_simp
        all_goals with_reducible rfl
      try simp only [Act.put, List.setIfInBounds_toArray, List.set_cons_zero, List.set_cons_succ]
      refine grow_fix 17 ?_ rfl (by rfl) (by rfl) (fun wx hC hD => ?_) ?_
      rotate_left
      · have hSw := hcells'.out wx hC
        go_simp
        all_goals with_reducible rfl
      try simp only [Act.put, List.setIfInBounds_toArray, List.set_cons_zero, List.set_cons_succ]
      refine grow_fix 18 ?_ rfl (by rfl) (by rfl) (fun wx hC hD => ?_) ?_
      rotate_left
      · have hSw := hcells'.out wx hC
        go_simp
        all_goals with_reducible rfl
      try simp only [Act.put, List.setIfInBounds_toArray, List.set_cons_zero, List.set_cons_succ]
      refine grow_fix 19 ?_ rfl (by rfl) (by rfl) (fun wx hC hD => ?_) ?_
      rotate_left
      · have hSw := hcells'.out wx hC
        go_simp
        all_goals with_reducible rfl
      try simp only [Act.put, List.setIfInBounds_toArray, List.set_cons_zero, List.set_cons_succ]
      refine grow_fix 20 ?_ rfl (by rfl) (by rfl) (fun wx hC hD => ?_) ?_
      rotate_left
      · have hSw := hcells'.out wx hC
        go_simp
        all_goals with_reducible rfl
      try simp only [Act.put, List.setIfInBounds_toArray, List.set_cons_zero, List.set_cons_succ]
      refine grow_fix 21 ?_ rfl (by rfl) (by rfl) (fun wx hC hD => ?_) ?_
      rotate_left
      · have hSw := hcells'.out wx hC
        go_simp
        all_goals with_reducible rfl
      try simp only [Act.put, List.setIfInBounds_toArray, List.set_cons_zero, List.set_cons_succ]
      refine grow_fix 22 ?_ rfl (by rfl) (by rfl) (fun wx hC hD => ?_) ?_
      rotate_left
      · have hSw := hcells'.out wx hC
        go_simp
        all_goals with_reducible rfl
      try simp only [Act.put, List.setIfInBounds_toArray, List.set_cons_zero, List.set_cons_succ]
      refine grow_give 23 _ rfl (by rfl) (by rfl) (fun wx hC hD => ?_) (fun x => ?_)
      · refine give_enter (f := ?_) (args := ?_) ?_ ?_
        rotate_left 2
        · have hSw := hcells'.out wx hC
          go_simp
          all_goals first | with_reducible rfl | (refine ⟨?_, ?_⟩ <;> with_reducible rfl)
        exact calls_cst hC (C1.out wx hC)
      obtain ⟨⟩ := x
      try simp only [Act.put, List.setIfInBounds_toArray, List.set_cons_zero, List.set_cons_succ]
      refine grow_fix 24 ?_ rfl (by rfl) (by rfl) (fun wx hC hD => ?_) ?_
      rotate_left
      · have hSw := hcells'.out wx hC
        go_simp
        all_goals with_reducible rfl
      try simp only [Act.put, List.setIfInBounds_toArray, List.set_cons_zero, List.set_cons_succ]
      refine grow_fix 25 ?_ rfl (by rfl) (by rfl) (fun wx hC hD => ?_) ?_
      rotate_left
      · have hSw := hcells'.out wx hC
        go_simp
        all_goals with_reducible rfl
      try simp only [Act.put, List.setIfInBounds_toArray, List.set_cons_zero, List.set_cons_succ]
      refine grow_nil (fun w2 hC hF => ?_)
      have Hb2 := Lib.hid (Hb.out.trans (hC.mono Hb.out.size))
      clear hF hC
      go_wp2
      go_roundw
      case rel => exact ⟨k + 1, by omega, by go_num, Hb2.out⟩
      case measure => simp [intOf]; omega
    · obtain rfl : k = n := by omega
      have Hb := Lib.hid hb
      clear hb
      go_wp2
      go_ret
      exact ⟨rfl, Hb.out⟩
end Go.Proofs.Ytjfconddkfihcaa.Qy
end

section
/- loggialaw19.awake: the page's example. -/
namespace Go.Proofs.Ytjfconddkfihcaa.Qy
open Go.RowKit Go.Proofs.Ytjfconddkfihcaa Go.Proofs.Ytjfconddkfihcaa.Ut Go.Proofs.Ytjfconddkfihcaa.Tk
set_option maxRecDepth 20000
set_option linter.unusedSimpArgs false

def exF : List (ByteArray × ByteArray) := [(⟨#[109, 115, 103]⟩, ⟨#[120, 32, 65, 66]⟩)]
def exQ : Q := .mk 2 ⟨#[109, 115, 103]⟩ [⟨#[97, 98]⟩] []
def exN : Q := .mk 7 ByteArray.empty [] [exQ]
theorem exQ_yes : matchB exF exQ = true := by decide +kernel
theorem exN_no : matchB exF exN = false := by decide +kernel
theorem exQ_needs : needs exQ = [⟨#[109, 115, 103, 58, 97, 98]⟩] := by decide +kernel
theorem exQ_none : matchB [] exQ = false := by decide +kernel


theorem reads_one {w : World} {b : Nat} {v : Value} (h : w.cell? ⟨b, 0, none⟩ = some v) : Reads w w.heap.size 1 (some ⟨b, 0, none⟩) 1 [v] :=
  ⟨rfl, fun _ => ⟨b, 0, rfl, World.block_lt_of_cell? w _ h, fun j u hu => by
    match j with
    | 0 => simp at hu; subst hu; exact h
    | j + 1 => simp at hu⟩⟩
/-- The example's parts, below a world. -/
structure Ex (w : World) (b : Nat) : Prop where
  f0 : w.cell? ⟨b, 0, none⟩ = some (.string ⟨#[109, 115, 103]⟩)
  f1 : w.cell? ⟨b, 1, none⟩ = some (.string ⟨#[120, 32, 65, 66]⟩)
  e0 : w.cell? ⟨b + 1, 0, none⟩ = some (.int .i64 0)
  e1 : w.cell? ⟨b + 1, 1, none⟩ = some (.slice (some ⟨b, 0, none⟩) 1 1)
  s0 : w.cell? ⟨b + 1 + 1, 0, none⟩ = some (.string ⟨#[97, 98]⟩)
  q0 : w.cell? ⟨b + 1 + 1 + 1, 0, none⟩ = some (.int .i64 2)
  q1 : w.cell? ⟨b + 1 + 1 + 1, 1, none⟩ = some (.string ⟨#[109, 115, 103]⟩)
  q2 : w.cell? ⟨b + 1 + 1 + 1, 2, none⟩ = some (.slice (some ⟨b + 1 + 1, 0, none⟩) 1 1)
  q3 : w.cell? ⟨b + 1 + 1 + 1, 3, none⟩ = some (.slice none 0 0)
theorem Ex.grow {w w' : World} {b : Nat} (h : Ex w b) (hb : Below w.heap.size w w') : Ex w' b := by
  have g : ∀ {a : Addr} {v : Value}, w.cell? a = some v → w'.cell? a = some v := fun {a v} e => by
    have hl := World.block_lt_of_cell? w _ e
    exact (hb.cell hl).trans e
  exact ⟨g h.f0, g h.f1, g h.e0, g h.e1, g h.s0, g h.q0, g h.q1, g h.q2, g h.q3⟩
theorem Ex.q {w : World} {b : Nat} (h : Ex w b) : QAt w w.heap.size exQ [.int .i64 2, .string ⟨#[109, 115, 103]⟩, .slice (some ⟨b + 1 + 1, 0, none⟩) 1 1, .slice none 0 0] :=
  .mk [] rfl (reads_one h.s0) rfl rfl (by simp) Reads.none_ (fun i hi => absurd hi (by simp))
theorem Ex.f {w : World} {b : Nat} (h : Ex w b) : Reads w w.heap.size 2 (some ⟨b, 0, none⟩) 1 (fldC exF) :=
  ⟨rfl, fun _ => ⟨b, 0, rfl, World.block_lt_of_cell? w _ h.f0, fun j u hu => by
    match j with
    | 0 => simp [fldC, exF] at hu; subst hu; exact h.f0
    | 1 => simp [fldC, exF] at hu; subst hu; exact h.f1
    | j + 2 => simp [fldC, exF] at hu⟩⟩
theorem exF_sz : ∀ f ∈ exF, f.2.size ≤ 1048576 := by decide +kernel
theorem Ex.ev {w : World} {b : Nat} (h : Ex w b) : EvAt w (some ⟨b, 0, none⟩) 1 exF := ⟨h.f, rfl, by omega, exF_sz⟩
theorem exQ_sz : QSz exQ := .mk (by simp) (by simp) (fun x hx => by simp at hx)
theorem exN_sz : QSz exN := .mk (by simp) (by simp) (fun x hx => by simp at hx; subst hx; exact exQ_sz)
theorem exQ_tx : QTx 140737488351232 exQ := .mk (by decide) (by decide) (fun x hx => by simp at hx)
def exW (w : World) : World := (((w.alloc (.cells #[.string ⟨#[109, 115, 103]⟩, .string ⟨#[120, 32, 65, 66]⟩] 54)).alloc (.cells #[.int .i64 0, .slice (some ⟨w.heap.size, 0, none⟩) 1 1] 49)).alloc (.cells #[.string ⟨#[97, 98]⟩] 9)).alloc
  (.cells #[.int .i64 2, .string ⟨#[109, 115, 103]⟩, .slice (some ⟨w.heap.size + 1 + 1, 0, none⟩) 1 1, .slice none 0 0] 37)
theorem ex_new (w : World) : Ex (exW w) w.heap.size ∧ Below w.heap.size w (exW w) := by
  unfold exW
  have h1 := Blk.new w 54 #[.string ⟨#[109, 115, 103]⟩, .string ⟨#[120, 32, 65, 66]⟩]
  have b1 : Below w.heap.size w (w.alloc (.cells #[.string ⟨#[109, 115, 103]⟩, .string ⟨#[120, 32, 65, 66]⟩] 54)) := (Below.refl _ _).alloc (Nat.le_refl _) _
  have z1 : (w.alloc (.cells #[.string ⟨#[109, 115, 103]⟩, .string ⟨#[120, 32, 65, 66]⟩] 54)).heap.size = w.heap.size + 1 := by simp
  generalize w.alloc (.cells #[.string ⟨#[109, 115, 103]⟩, .string ⟨#[120, 32, 65, 66]⟩] 54) = w1 at *
  have h2 := Blk.new w1 49 #[.int .i64 0, .slice (some ⟨w.heap.size, 0, none⟩) 1 1]
  have h1' := h1.alloc (.cells #[.int .i64 0, .slice (some ⟨w.heap.size, 0, none⟩) 1 1] 49)
  have b2 := b1.alloc (by omega) (.cells #[.int .i64 0, .slice (some ⟨w.heap.size, 0, none⟩) 1 1] 49)
  have z2 : (w1.alloc (.cells #[.int .i64 0, .slice (some ⟨w.heap.size, 0, none⟩) 1 1] 49)).heap.size = w.heap.size + 1 + 1 := by simp [z1]
  rw [z1] at h2
  generalize w1.alloc (.cells #[.int .i64 0, .slice (some ⟨w.heap.size, 0, none⟩) 1 1] 49) = w2 at *
  have h3 := Blk.new w2 9 #[.string ⟨#[97, 98]⟩]
  have h1'' := h1'.alloc (.cells #[.string ⟨#[97, 98]⟩] 9)
  have h2' := h2.alloc (.cells #[.string ⟨#[97, 98]⟩] 9)
  have b3 := b2.alloc (by omega) (.cells #[.string ⟨#[97, 98]⟩] 9)
  have z3 : (w2.alloc (.cells #[.string ⟨#[97, 98]⟩] 9)).heap.size = w.heap.size + 1 + 1 + 1 := by simp [z2]
  rw [z2] at h3
  generalize w2.alloc (.cells #[.string ⟨#[97, 98]⟩] 9) = w3 at *
  have h4 := Blk.new w3 37 #[.int .i64 2, .string ⟨#[109, 115, 103]⟩, .slice (some ⟨w.heap.size + 1 + 1, 0, none⟩) 1 1, .slice none 0 0]
  rw [z3] at h4
  have k1 := h1''.alloc (.cells #[.int .i64 2, .string ⟨#[109, 115, 103]⟩, .slice (some ⟨w.heap.size + 1 + 1, 0, none⟩) 1 1, .slice none 0 0] 37)
  have k2 := h2'.alloc (.cells #[.int .i64 2, .string ⟨#[109, 115, 103]⟩, .slice (some ⟨w.heap.size + 1 + 1, 0, none⟩) 1 1, .slice none 0 0] 37)
  have k3 := h3.alloc (.cells #[.int .i64 2, .string ⟨#[109, 115, 103]⟩, .slice (some ⟨w.heap.size + 1 + 1, 0, none⟩) 1 1, .slice none 0 0] 37)
  exact ⟨⟨k1.cell 0, k1.cell 1, k2.cell 0, k2.cell 1, k3.cell 0, h4.cell 0, h4.cell 1, h4.cell 2, h4.cell 3⟩, b3.alloc (by omega) _⟩
theorem ex_not {w : World} {b : Nat} (h : Ex w b) : QAt (w.alloc (.cells #[.int .i64 2, .string ⟨#[109, 115, 103]⟩, .slice (some ⟨b + 1 + 1, 0, none⟩) 1 1, .slice none 0 0] 37)) (w.alloc (.cells #[.int .i64 2, .string ⟨#[109, 115, 103]⟩, .slice (some ⟨b + 1 + 1, 0, none⟩) 1 1, .slice none 0 0] 37)).heap.size exN
    [.int .i64 7, .string ByteArray.empty, .slice none 0 0, .slice (some ⟨w.heap.size, 0, none⟩) 1 1] := by
  have hB := Blk.new w 37 #[.int .i64 2, .string ⟨#[109, 115, 103]⟩, .slice (some ⟨b + 1 + 1, 0, none⟩) 1 1, .slice none 0 0]
  refine .mk [[.int .i64 2, .string ⟨#[109, 115, 103]⟩, .slice (some ⟨b + 1 + 1, 0, none⟩) 1 1, .slice none 0 0]] rfl Reads.none_ rfl rfl (by simp) ⟨rfl, fun _ => ⟨w.heap.size, 0, rfl, by simp, fun j u hu => ?_⟩⟩ (fun i hi hi' => ?_)
  · rw [Nat.zero_add, hB.cell j]
    simpa using hu
  · obtain rfl : i = 0 := by simp at hi; omega
    exact (h.grow ((Below.refl _ _).alloc (Nat.le_refl _) _)).q
theorem str_back (x : ByteArray) : str x.data.toList = x := by unfold str; rfl
theorem bsv_sv (l : List ByteArray) : bsv l = sv (l.map fun x => x.data.toList) := by
  unfold bsv sv
  simp only [List.map_map]
  refine List.map_congr_left fun x _ => ?_
  simp only [Function.comp_apply, str_back]
theorem sameB_eq (A A' : Option Addr) (c c' : Nat) (l : List ByteArray) (w : World) (h : Reads w w.heap.size 1 A l.length (bsv l)) (h' : Reads w w.heap.size 1 A' l.length (bsv l)) (hl : l.length ≤ 8796093021952) :
    Calls Try.prog 34 #[.slice A l.length c, .slice A' l.length c'] w fun e w' => e = .returned (.bool true) ∧ Below w.heap.size w w' := by
  have e : l.length = (l.map fun x => x.data.toList).length := by simp
  rw [bsv_sv, e] at h h'
  rw [e]
  exact sameWords_eq A A' c c' w.heap.size _ w h h' (Nat.le_refl _) (by rw [← e]; exact hl)
def exD : List Dc := [⟨0, 0, exF⟩, ⟨0, 0, []⟩]
theorem exD_count : ((exD.filter fun d => matchB d.fs exQ).length : Nat) = 1 := by decide +kernel
theorem exD_small : Small exD := by unfold Small; decide +kernel
theorem ex_docs {w : World} {b : Nat} (h : Ex w b) : DocsAt (w.alloc (.cells #[.int .i64 0, .int .i64 0, .slice (some ⟨b, 0, none⟩) 1 1, .int .i64 0, .int .i64 0, .slice none 0 0] 80)) (w.alloc (.cells #[.int .i64 0, .int .i64 0, .slice (some ⟨b, 0, none⟩) 1 1, .int .i64 0, .int .i64 0, .slice none 0 0] 80)).heap.size (some ⟨w.heap.size, 0, none⟩) 2 exD := by
  have hB := Blk.new w 80 #[.int .i64 0, .int .i64 0, .slice (some ⟨b, 0, none⟩) 1 1, .int .i64 0, .int .i64 0, .slice none 0 0]
  have hx := h.grow ((Below.refl _ _).alloc (Nat.le_refl _) (.cells #[.int .i64 0, .int .i64 0, .slice (some ⟨b, 0, none⟩) 1 1, .int .i64 0, .int .i64 0, .slice none 0 0] 80))
  refine ⟨rfl, [[.int .i64 0, .int .i64 0, .slice (some ⟨b, 0, none⟩) 1 1], [.int .i64 0, .int .i64 0, .slice none 0 0]], rfl, ⟨rfl, fun _ => ⟨w.heap.size, 0, rfl, by simp, fun j u hu => ?_⟩⟩, fun i hi hi' => ?_⟩
  · rw [Nat.zero_add, hB.cell j]
    simpa using hu
  · have hc : i = 0 ∨ i = 1 := by simp [exD] at hi; omega
    rcases hc with rfl | rfl
    · exact ⟨some ⟨b, 0, none⟩, 1, 1, rfl, hx.f, rfl, by omega, by omega, fun e => by cases e⟩
    · exact ⟨none, 0, 0, rfl, Reads.none_, rfl, by omega, by omega, fun e => rfl⟩
set_option maxHeartbeats 1600000 in
theorem awake_any (w : World) : Calls Try.prog 52 #[] w fun e w' => e = .returned (.bool true) ∧ Below w.heap.size w w' := by
  obtain ⟨hE, hb⟩ := ex_new w
  unfold exW at hE hb
  go_enter Try.func52, Try.ntmps52
  go_wp2_with fail
  generalize (((w.alloc (.cells #[.string ⟨#[109, 115, 103]⟩, .string ⟨#[120, 32, 65, 66]⟩] 54)).alloc (.cells #[.int .i64 0, .slice (some ⟨w.heap.size, 0, none⟩) 1 1] 49)).alloc (.cells #[.string ⟨#[97, 98]⟩] 9)).alloc
    (.cells #[.int .i64 2, .string ⟨#[109, 115, 103]⟩, .slice (some ⟨w.heap.size + 1 + 1, 0, none⟩) 1 1, .slice none 0 0] 37) = w4 at *
  have hz4 : w.heap.size ≤ w4.heap.size := hb.size
  generalize hbe : w.heap.size = b at *
  have Hbe := Lib.hid hbe
  clear hbe
  have c1 := match_any exF exQ exQ_sz _ _ _ _ _ 0 _ 1 1 hE.q hE.ev
  rw [exQ_yes] at c1
  refine c1.mono ?_
  rintro e w5 ⟨rfl, hb5⟩
  have hb5' := hb.trans (hb5.mono hz4)
  have hz5 : b ≤ w5.heap.size := Nat.le_trans hz4 hb5.size
  have hE5 := hE.grow hb5
  clear c1 hb hE hb5
  have HE5 := Lib.hid hE5
  have Hb5 := Lib.hid hb5'
  obtain ⟨_, _, g0, g1, _, g2, g3, g4, g5⟩ := hE5
  clear hb5'
  obtain ⟨_, _, k0, k1, _, _, _, _, _⟩ := HE5.out.grow ((Below.refl _ _).alloc (Nat.le_refl _) (.cells #[.int .i64 2, .string ⟨#[109, 115, 103]⟩, .slice (some ⟨b + 1 + 1, 0, none⟩) 1 1, .slice none 0 0] 37))
  go_wp2_with fail
  have c2 := match_any exF exN exN_sz _ _ _ _ _ 0 _ 1 1 (ex_not HE5.out) (HE5.out.grow ((Below.refl _ _).alloc (Nat.le_refl _) _)).ev
  rw [exN_no] at c2
  refine c2.mono ?_
  rintro e w6 ⟨rfl, hb6⟩
  have hb56 : Below w5.heap.size w5 w6 := ((Below.refl _ _).alloc (Nat.le_refl _) _).trans (hb6.mono (by simp))
  have hE6 := HE5.out.grow hb56
  have HE6 := Lib.hid hE6
  have Hb6 := Lib.hid (Hb5.out.trans (hb56.mono hz5))
  have hz6 : b ≤ w6.heap.size := Nat.le_trans hz5 hb56.size
  clear hb56 c2 hb6 HE5 Hb5 k0 k1 g0 g1 g2 g3 g4 g5
  obtain ⟨_, _, g0, g1, _, g2, g3, g4, g5⟩ := hE6
  go_wp2_with fail
  have c3 := count_any exQ exQ_sz _ _ _ _ _ 2 2 exD _ (HE6.out.grow ((Below.refl _ _).alloc (Nat.le_refl _) _)).q (ex_docs HE6.out) (by decide) exD_small
  rw [exD_count] at c3
  refine c3.mono ?_
  rintro e w7 ⟨rfl, hb7⟩
  have hb67 : Below w6.heap.size w6 w7 := ((Below.refl _ _).alloc (Nat.le_refl _) _).trans (hb7.mono (by simp))
  have hE7 := HE6.out.grow hb67
  have HE7 := Lib.hid hE7
  have Hb7 := Lib.hid (Hb6.out.trans (hb67.mono hz6))
  have hz7 : b ≤ w7.heap.size := Nat.le_trans hz6 hb67.size
  clear hb67 c3 hb7 HE6 Hb6 g0 g1 g2 g3 g4 g5
  obtain ⟨_, _, g0, g1, _, g2, g3, g4, g5⟩ := hE7
  go_wp2_with fail
  have c4 := needs_any exQ exQ_tx w7 _ _ _ _ HE7.out.q (by decide)
  rw [exQ_needs] at c4
  refine c4.mono ?_
  rintro e w8 ⟨v8, rfl, hown8, hb8⟩
  obtain ⟨A8, c8, rfl, hR8⟩ := own_shape hown8
  have HR8 := Lib.hid hR8
  have Hb8 := Lib.hid (Hb7.out.trans (hb8.mono hz7))
  have hz8 : b ≤ w8.heap.size := Nat.le_trans hz7 hb8.size
  clear hR8 hown8 hb8 c4 Hb7 HE7 g0 g1 g2 g3 g4 g5
  go_wp2_with fail
  have c9 := sameB_eq A8 (some ⟨w8.heap.size, 0, none⟩) c8 1 [⟨#[109, 115, 103, 58, 97, 98]⟩] (w8.alloc (.cells #[.string ⟨#[109, 115, 103, 58, 97, 98]⟩] 9)) ((HR8.out.below ((Below.refl _ _).alloc (Nat.le_refl _) _)).more (by simp)) (reads_one ((Blk.new w8 9 #[.string ⟨#[109, 115, 103, 58, 97, 98]⟩]).cell 0)) (by decide)
  refine c9.mono ?_
  rintro e w9 ⟨rfl, hb9⟩
  have Hb9 := Lib.hid (Hb8.out.trans ((((Below.refl _ _).alloc (Nat.le_refl _) _ : Below w8.heap.size w8 _).trans (hb9.mono (by simp))).mono hz8))
  clear hb9 c9 HR8 Hb8
  go_wp2
  go_ret
  exact ⟨rfl, by rw [Hbe.out]; exact Hb9.out⟩
end Go.Proofs.Ytjfconddkfihcaa.Qy
end

section
/- mark.Cuts, the document's Cuts and Text: the walks (printed by gen_mkm.py). -/
namespace Go.Proofs.Ytjfconddkfihcaa.Mk
open Go.RowKit Go.Proofs.Ytjfconddkfihcaa Go.Proofs.Ytjfconddkfihcaa.Ut Go.Proofs.Ytjfconddkfihcaa.Tk Go.Proofs.Ytjfconddkfihcaa.Qy
set_option maxRecDepth 20000
set_option linter.unusedSimpArgs false

/-- Spans that are in a text are of natural numbers. -/
theorem chk_ok {n : Nat} : ∀ {l : List (Int × Int)} {e : Nat}, chk e n l = true → ∃ m : List (Nat × Nat), l = zs m ∧ okS e n m
  | [], _, _ => ⟨[], rfl, trivial⟩
  | (a, b) :: t, e, h => by
    rw [chk] at h
    simp only [Bool.and_eq_true, decide_eq_true_eq] at h
    obtain ⟨⟨⟨h1, h2⟩, h3⟩, h4⟩ := h
    have ha : ((a.toNat : Nat) : Int) = a := by omega
    have hb : ((b.toNat : Nat) : Int) = b := by omega
    rw [← hb] at h4
    obtain ⟨m, rfl, hm⟩ := chk_ok h4
    refine ⟨(a.toNat, b.toNat) :: m, ?_, by show e ≤ a.toNat; omega, by show a.toNat < b.toNat; omega, by show b.toNat ≤ n; omega, hm⟩
    unfold zs
    rw [List.map_cons, ha, hb]
theorem okS_drop {n : Nat} : ∀ {e : Nat} {l : List (Nat × Nat)}, okS e n l → ∀ k (h : k < l.length), l[k].1 < l[k].2 ∧ l[k].2 ≤ n := fun h k hk => ⟨(okS_get h k hk).2.1, (okS_get h k hk).2.2.1⟩
/-- The bytes of spans. -/
def cutsB (s : ByteArray) (l : List (Nat × Nat)) : List ByteArray := l.map fun x => s.extract x.1 x.2
theorem cutsB_take (s : ByteArray) (l : List (Nat × Nat)) (k : Nat) (h : k < l.length) : cutsB s (l.take (k + 1)) = cutsB s (l.take k) ++ [s.extract l[k].1 l[k].2] := by
  unfold cutsB
  rw [List.take_succ_eq_append_getElem h, List.map_append]; rfl
def CutPost (w : World) (L : List ByteArray) (e : Ending) (w' : World) : Prop := ∃ v, e = .returned (.tuple #[v, .int .i64 0]) ∧ w'.ownsRow w.heap.size 9 1 v L.length (bsv L) ∧ Below w.heap.size w w'
theorem text_bad (s b e : ByteArray) (A : Option Addr) (c : Nat) (l : List (Int × Int)) (hl : l.length ≤ 8796093021952) (hno : chk 0 s.size l = false) (w : World) (hR : Reads w w.heap.size 2 A l.length (spZ l)) :
    Calls Try.prog 24 #[.string s, .string b, .string e, .slice A l.length c] w fun r w' => r = .returned (.tuple #[.string ⟨#[]⟩, .int .i64 5]) ∧ Below w.heap.size w w' := by
  have cc := check_any s A c l hl w hR
  rw [hno] at cc
  go_enter Try.func24, Try.ntmps24
  go_wp2_with fail
  refine cc.mono ?_
  rintro r w2 ⟨rfl, hb2⟩
  go_wp2
  go_ret2
  exact ⟨rfl, hb2⟩
theorem cuts_bad (s : ByteArray) (A : Option Addr) (c : Nat) (l : List (Int × Int)) (hl : l.length ≤ 8796093021952) (hno : chk 0 s.size l = false) (w : World) (hR : Reads w w.heap.size 2 A l.length (spZ l)) :
    Calls Try.prog 32 #[.string s, .slice A l.length c] w fun r w' => r = .returned (.tuple #[.slice none 0 0, .int .i64 5]) ∧ Below w.heap.size w w' := by
  have cc := check_any s A c l hl w hR
  rw [hno] at cc
  go_enter Try.func32, Try.ntmps32
  go_wp2_with fail
  refine cc.mono ?_
  rintro r w2 ⟨rfl, hb2⟩
  go_wp2
  go_ret2
  exact ⟨rfl, hb2⟩
theorem rtext_bad (s b e : ByteArray) (A : Option Addr) (c : Nat) (l : List (Int × Int)) (hl : l.length ≤ 8796093021952) (hno : chk 0 s.size l = false) (w : World) (hR : Reads w w.heap.size 2 A l.length (spZ l)) :
    Calls Try.prog 31 #[.string s, .string b, .string e, .slice A l.length c] w fun r w' => r = .returned (.tuple #[.string ⟨#[]⟩, .int .i64 5]) ∧ Below w.heap.size w w' := by
  have cc := in_any s A c l hl w hR
  rw [hno] at cc
  go_enter Try.func31, Try.ntmps31
  go_wp2_with fail
  refine cc.mono ?_
  rintro r w2 ⟨rfl, hb2⟩
  go_wp2
  go_ret2
  exact ⟨rfl, hb2⟩
theorem rcuts_bad (s : ByteArray) (A : Option Addr) (c : Nat) (l : List (Int × Int)) (hl : l.length ≤ 8796093021952) (hno : chk 0 s.size l = false) (w : World) (hR : Reads w w.heap.size 2 A l.length (spZ l)) :
    Calls Try.prog 33 #[.string s, .slice A l.length c] w fun r w' => r = .returned (.tuple #[.slice none 0 0, .int .i64 5]) ∧ Below w.heap.size w w' := by
  have cc := in_any s A c l hl w hR
  rw [hno] at cc
  go_enter Try.func33, Try.ntmps33
  go_wp2_with fail
  refine cc.mono ?_
  rintro r w2 ⟨rfl, hb2⟩
  go_wp2
  go_ret2
  exact ⟨rfl, hb2⟩

set_option maxHeartbeats 3200000 in
theorem cuts_ok (s : ByteArray) (A : Option Addr) (c : Nat) (l : List (Nat × Nat)) (hok : okS 0 s.size l) (hl : l.length ≤ 1000) (w : World) (hR : Reads w w.heap.size 2 A l.length (spC l)) :
    Calls Try.prog 32 #[.string s, .slice A l.length c] w (CutPost w (cutsB s l)) := by
  obtain ⟨i0, hi0, hz0, hz1, hz2⟩ := info_parts str_info
  have hzl : (zs l).length = l.length := by simp [zs]
  have cc := check_any s A c (zs l) (by omega) w (by rw [hzl, ← spC_zs]; exact hR)
  have hck : chk 0 s.size (zs l) = true := by have := chk_zs (n := s.size) (e := 0) hok; simpa using this
  rw [hck, hzl] at cc
  have HR := Lib.hid hR
  have Hok := Lib.hid (okS_drop hok)
  clear hR hok hzl hck
  go_enter Try.func32, Try.ntmps32
  go_wp2_with fail
  refine cc.mono ?_
  rintro r w2 ⟨rfl, hb2⟩
  have Hb2 := Lib.hid hb2
  have HR2 := Lib.hid (reads_grow hb2 HR.out)
  clear cc hb2
  go_wp2_with fail
  go_loopw [7, 18] (fun v i wr => ∃ k : Nat, k ≤ l.length ∧ i = .int .i64 k ∧ wr.ownsRow w2.heap.size 9 1 v k (bsv (cutsB s (l.take k))) ∧ Below w2.heap.size w2 wr) (fun _ i _ => l.length - (intOf i).toNat)
  case atStart => exact ⟨0, Nat.zero_le _, rfl, World.ownsRow_nil _ _ _ _, Below.refl _ _⟩
  case round =>
    obtain ⟨k, hk, rfl, hrow, hb⟩ := hrel
    by_cases hlt : k < l.length
    · obtain ⟨bb, o, rfl, hbb, y0, y1⟩ := spans_at (reads_grow hb HR2.out) hlt
      have hk1 : (k : Int) < (l.length : Int) := by omega
      have hts := cutsB_take s l k hlt
      obtain ⟨q1, q2⟩ := Hok.out k hlt
      generalize l[k] = x at *
      obtain ⟨x1, x2⟩ := x
      simp only at y0 y1 q1 q2 hts
      have hsl2 : ∀ W : World, (Instr.slice 9 (.string s) (some (.int .i64 (x1 : Nat))) (some (.int .i64 (x2 : Nat))) none).run Try.prog W = .ok (.string (s.extract x1 x2)) W := fun W => by
        rw [run_slice_string W 9 s .i64 .i64 _ _ Try.underlying9 (by omega) (by omega) (by omega)]
        simp
      have hbz := hb.size
      have Hts := Lib.hid hts
      have Hb := Lib.hid hb
      have Hrow := Lib.hid hrow
      clear hts hb hrow
      go_wp2_with (at_builtin; refine wpList_append_own _ rfl _ _ 28 rfl w2.heap.size 9 i0 _ 1 16 Try.underlying28 hi0 hz0 hz1 hz2 rfl (by decide) _ _ _ rfl ((Hrow.out.alloc _).alloc _) ⟨wr.heap.size + 1, 0, none⟩ 1 1 [.string (s.extract x1 x2)] rfl rfl (World.news_of_block (cs := #[.string (s.extract x1 x2)]) (t := 9) (fr := (0, 0)) (new2 wr _ _)) ?d2 ?d3 ?d4 ?d5 ?_)
      case d2 => intro u hu; simp at hu; subst hu; rfl
      case d3 => unfold maxLen; omega
      case d4 => omega
      case d5 => first | omega | (simp; omega)
      intro v' w4 hown4 hgrow _
      have hb4 := ((Hb.out.alloc hbz (.cells #[.int .i64 (x1 : Nat), .int .i64 (x2 : Nat)] 45)).alloc (by simp; omega) (.cells #[.string (s.extract x1 x2)] 9)).grown hgrow (by simp; omega) (fun j hj => (Hrow.out.lt j hj).1)
      have hrow4 : w4.ownsRow w2.heap.size 9 1 v' (k + 1) (bsv (cutsB s (l.take (k + 1)))) := by rw [Hts.out, bsv_snoc]; exact hown4
      have Hrow4 := Lib.hid hrow4
      have Hb4 := Lib.hid hb4
      clear hown4 hgrow hb4 hrow4
      go_wp2
      go_roundw
      case rel => exact ⟨k + 1, by omega, by go_num, Hrow4.out, Hb4.out⟩
      case measure => simp [intOf]; omega
    · obtain rfl : k = l.length := by omega
      have hall : l.take l.length = l := List.take_of_length_le (Nat.le_refl _)
      rw [hall] at hrow
      have Hrow := Lib.hid (row_base hrow Hb2.out.size)
      have Hb := Lib.hid (Hb2.out.trans (hb.mono Hb2.out.size))
      have Hcl : Hid ((cutsB s l).length = l.length) := Lib.hid (by simp [cutsB])
      clear hrow hb hall
      go_wp2
      go_ret2
      exact ⟨_, rfl, by rw [Hcl.out]; exact Hrow.out, Hb.out⟩

set_option maxHeartbeats 3200000 in
theorem rcuts_ok (s : ByteArray) (A : Option Addr) (c : Nat) (l : List (Nat × Nat)) (hok : okS 0 s.size l) (hl : l.length ≤ 1000) (w : World) (hR : Reads w w.heap.size 2 A l.length (spC l)) :
    Calls Try.prog 33 #[.string s, .slice A l.length c] w (CutPost w (cutsB s l)) := by
  obtain ⟨i0, hi0, hz0, hz1, hz2⟩ := info_parts str_info
  have hzl : (zs l).length = l.length := by simp [zs]
  have cc := in_any s A c (zs l) (by omega) w (by rw [hzl, ← spC_zs]; exact hR)
  have hck : chk 0 s.size (zs l) = true := by have := chk_zs (n := s.size) (e := 0) hok; simpa using this
  rw [hck, hzl] at cc
  have HR := Lib.hid hR
  have Hok := Lib.hid (okS_drop hok)
  clear hR hok hzl hck
  go_enter Try.func33, Try.ntmps33
  go_wp2_with fail
  refine cc.mono ?_
  rintro r w2 ⟨rfl, hb2⟩
  have Hb2 := Lib.hid hb2
  have HR2 := Lib.hid (reads_grow hb2 HR.out)
  clear cc hb2
  go_wp2_with fail
  go_loopw [6, 7] (fun v i wr => ∃ k : Nat, k ≤ l.length ∧ i = .int .i64 k ∧ wr.ownsRow w2.heap.size 9 1 v k (bsv (cutsB s (l.take k))) ∧ Below w2.heap.size w2 wr) (fun _ i _ => l.length - (intOf i).toNat)
  case atStart => exact ⟨0, Nat.zero_le _, rfl, World.ownsRow_nil _ _ _ _, Below.refl _ _⟩
  case round =>
    obtain ⟨k, hk, rfl, hrow, hb⟩ := hrel
    by_cases hlt : k < l.length
    · obtain ⟨bb, o, rfl, hbb, y0, y1⟩ := spans_at (reads_grow hb HR2.out) hlt
      have hk0 : (0 : Int) ≤ (k : Int) := by omega
      have hk1 : (k : Int) < (l.length : Int) := by omega
      have hts := cutsB_take s l k hlt
      obtain ⟨q1, q2⟩ := Hok.out k hlt
      generalize l[k] = x at *
      obtain ⟨x1, x2⟩ := x
      simp only at y0 y1 q1 q2 hts
      have hcells : ∀ wx, Below wr.heap.size wr wx → wx.cell? ⟨bb, o + k * 2, none⟩ = some (.int .i64 (x1 : Nat)) ∧ wx.cell? ⟨bb, o + k * 2 + 1, none⟩ = some (.int .i64 (x2 : Nat)) := fun wx hC =>
        ⟨(hC.cell (p := ⟨bb, o + k * 2, none⟩) hbb).trans y0, (hC.cell (p := ⟨bb, o + k * 2 + 1, none⟩) hbb).trans y1⟩
      have hsl2 : ∀ W : World, (Instr.slice 9 (.string s) (some (.int .i64 (x1 : Nat))) (some (.int .i64 (x2 : Nat))) none).run Try.prog W = .ok (.string (s.extract x1 x2)) W := fun W => by
        rw [run_slice_string W 9 s .i64 .i64 _ _ Try.underlying9 (by omega) (by omega) (by omega)]
        simp
      have Hcells := Lib.hid hcells
      have hbz := hb.size
      have Hts := Lib.hid hts
      have Hb := Lib.hid hb
      have Hrow := Lib.hid hrow
      clear hts hb hrow hcells y0 y1
      go_wp2_with fail
      refine wp_region_grow_tail 14 (specOf [(13, ⟨Nat, fun x => .slice (some ⟨x, 0, none⟩) 1 1, fun x w' => Blk w' x 9 #[.string (s.extract x1 x2)] ∧ wr.heap.size ≤ x⟩)]) (fun wx => Below wr.heap.size wr wx) (fun w1 w2 => Below w1.heap.size w1 w2) (by kernel_rfl) (by kernel_rfl) (stab_cons (fun x w1 w2 hg h => ⟨h.1.below hg h.1.lt, h.2⟩) (stab_nil)) ((Below.refl _ _).drew) ?_
      simp only [List.take_succ_cons, List.take_zero, List.drop_succ_cons, List.drop_zero]
      refine grow_fix 1 ?_ rfl (by rfl) (by rfl) (fun wx hC hD => ?_) ?_
      rotate_left
      · have hSw := Hcells.out wx hC
        go_simp
        all_goals with_reducible rfl
      try simp only [Act.put, List.setIfInBounds_toArray, List.set_cons_zero, List.set_cons_succ]
      refine grow_fix 2 ?_ rfl (by rfl) (by rfl) (fun wx hC hD => ?_) ?_
      rotate_left
      · have hSw := Hcells.out wx hC
        go_simp
        all_goals with_reducible rfl
      try simp only [Act.put, List.setIfInBounds_toArray, List.set_cons_zero, List.set_cons_succ]
      refine grow_fix 3 ?_ rfl (by rfl) (by rfl) (fun wx hC hD => ?_) ?_
      rotate_left
      · have hSw := Hcells.out wx hC
        go_simp
        all_goals with_reducible rfl
      try simp only [Act.put, List.setIfInBounds_toArray, List.set_cons_zero, List.set_cons_succ]
      refine grow_fix 4 ?_ rfl (by rfl) (by rfl) (fun wx hC hD => ?_) ?_
      rotate_left
      · have hSw := Hcells.out wx hC
        go_simp
        all_goals with_reducible rfl
      try simp only [Act.put, List.setIfInBounds_toArray, List.set_cons_zero, List.set_cons_succ]
      refine grow_fix 5 ?_ rfl (by rfl) (by rfl) (fun wx hC hD => ?_) ?_
      rotate_left
      · have hSw := Hcells.out wx hC
        go_simp
        all_goals with_reducible rfl
      try simp only [Act.put, List.setIfInBounds_toArray, List.set_cons_zero, List.set_cons_succ]
      refine grow_fix 6 ?_ rfl (by rfl) (by rfl) (fun wx hC hD => ?_) ?_
      rotate_left
      · have hSw := Hcells.out wx hC
        go_simp
        all_goals with_reducible rfl
      try simp only [Act.put, List.setIfInBounds_toArray, List.set_cons_zero, List.set_cons_succ]
      refine grow_fix 7 ?_ rfl (by rfl) (by rfl) (fun wx hC hD => ?_) ?_
      rotate_left
      · have hSw := Hcells.out wx hC
        go_simp
        all_goals with_reducible rfl
      try simp only [Act.put, List.setIfInBounds_toArray, List.set_cons_zero, List.set_cons_succ]
      refine grow_fix 8 ?_ rfl (by rfl) (by rfl) (fun wx hC hD => ?_) ?_
      rotate_left
      · have hSw := Hcells.out wx hC
        go_simp
        all_goals with_reducible rfl
      try simp only [Act.put, List.setIfInBounds_toArray, List.set_cons_zero, List.set_cons_succ]
      refine grow_fix 9 ?_ rfl (by rfl) (by rfl) (fun wx hC hD => ?_) ?_
      rotate_left
      · have hSw := Hcells.out wx hC
        go_simp
        all_goals with_reducible rfl
      try simp only [Act.put, List.setIfInBounds_toArray, List.set_cons_zero, List.set_cons_succ]
      refine grow_fix 10 ?_ rfl (by rfl) (by rfl) (fun wx hC hD => ?_) ?_
      rotate_left
      · have hSw := Hcells.out wx hC
        go_simp
        all_goals with_reducible rfl
      try simp only [Act.put, List.setIfInBounds_toArray, List.set_cons_zero, List.set_cons_succ]
      refine grow_fix 11 ?_ rfl (by rfl) (by rfl) (fun wx hC hD => ?_) ?_
      rotate_left
      · have hSw := Hcells.out wx hC
        go_simp
        all_goals with_reducible rfl
      try simp only [Act.put, List.setIfInBounds_toArray, List.set_cons_zero, List.set_cons_succ]
      refine grow_fix 12 ?_ rfl (by rfl) (by rfl) (fun wx hC hD => ?_) ?_
      rotate_left
      · have hSw := Hcells.out wx hC
        go_simp
        all_goals with_reducible rfl
      try simp only [Act.put, List.setIfInBounds_toArray, List.set_cons_zero, List.set_cons_succ]
      refine grow_fix 13 ?_ rfl (by rfl) (by rfl) (fun wx hC hD => ?_) ?_
      rotate_left
      · have hSw := Hcells.out wx hC
        go_simp
        all_goals with_reducible rfl
      try simp only [Act.put, List.setIfInBounds_toArray, List.set_cons_zero, List.set_cons_succ]
      refine grow_give 14 _ rfl (by rfl) (by rfl) (fun wx hC hD => ?_) (fun x => ?_)
      · refine give_value (u := ?_) (w' := ?_) ?_ ?_ ?_
        rotate_left 2
        · have hSw := Hcells.out wx hC
          go_simp
          all_goals first | with_reducible rfl | (refine ⟨?_, ?_⟩ <;> with_reducible rfl)
        · exact (Below.refl _ _).alloc (Nat.le_refl _) _
        · exact ⟨hC.alloc hC.size _, wx.heap.size, rfl, Blk.new _ _ _, hC.size⟩
      rename Nat => g
      try simp only [Act.put, List.setIfInBounds_toArray, List.set_cons_zero, List.set_cons_succ]
      refine grow_nil (fun w5 hC hF => ?_)
      obtain ⟨hBg, hgl⟩ := upd_hit (hF 13) (by decide)
      have hrow5 := Hrow.out.kept (grow_of_below hC none) (by cases hv : u6.ownBlock <;> simp)
      have hb5 := Hb.out.trans (hC.mono Hb.out.size)
      have hz5 := hC.size
      have Hb5 := Lib.hid hb5
      have HBg := Lib.hid hBg
      have Hown := Lib.hid hrow5
      clear hF hC Hcells Hrow Hb hb5 hBg hrow5 hsl2
      show wpList _ _ _ _ _ _
      go_wp2_with (at_builtin; refine wpList_append_own _ rfl _ _ 28 rfl w2.heap.size 9 i0 _ 1 16 Try.underlying28 hi0 hz0 hz1 hz2 rfl (by decide) _ _ _ rfl Hown.out ⟨g, 0, none⟩ 1 1 [.string (s.extract x1 x2)] rfl rfl (World.news_of_block (cs := #[.string (s.extract x1 x2)]) (t := 9) (fr := (0, 0)) HBg.out) ?d2 ?d3 ?d4 ?d5 ?_)
      case d2 => intro u hu; simp at hu; subst hu; rfl
      case d3 => unfold maxLen; omega
      case d4 => omega
      case d5 => omega
      intro v' w6 hown6 hgrow _
      have hb6 := Hb5.out.grown hgrow Hb5.out.size (fun j hj => (Hown.out.lt j hj).1)
      have hrow6 : w6.ownsRow w2.heap.size 9 1 v' (k + 1) (bsv (cutsB s (l.take (k + 1)))) := by rw [Hts.out, bsv_snoc]; exact hown6
      have Hb6 := Lib.hid hb6
      have Hrow6 := Lib.hid hrow6
      clear hown6 hgrow hb6 hrow6
      go_wp2
      go_roundw
      case rel => exact ⟨k + 1, by omega, by go_num, Hrow6.out, Hb6.out⟩
      case measure => simp [intOf]; omega
    · obtain rfl : k = l.length := by omega
      have hall : l.take l.length = l := List.take_of_length_le (Nat.le_refl _)
      rw [hall] at hrow
      have Hrow := Lib.hid (row_base hrow Hb2.out.size)
      have Hb := Lib.hid (Hb2.out.trans (hb.mono Hb2.out.size))
      have Hcl : Hid ((cutsB s l).length = l.length) := Lib.hid (by simp [cutsB])
      clear hrow hb hall
      go_wp2
      go_ret2
      exact ⟨_, rfl, by rw [Hcl.out]; exact Hrow.out, Hb.out⟩
end Go.Proofs.Ytjfconddkfihcaa.Mk
end
