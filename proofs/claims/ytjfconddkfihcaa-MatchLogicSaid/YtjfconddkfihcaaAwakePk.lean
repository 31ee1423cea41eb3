/- loggialaw19.awake: the page's example. -/
import Derived.Test.YtjfconddkfihcaaNeedSPk
import Derived.Test.YtjfconddkfihcaaSameDPk
import Derived.Test.YtjfconddkfihcaaPkMatchTellsRow30
namespace Go.Proofs.Ytjfconddkfihcaa.Qy
open Go.RowKit Go.Proofs.Ytjfconddkfihcaa Go.Proofs.Ytjfconddkfihcaa.Ut Go.Proofs.Ytjfconddkfihcaa.Tk
set_option maxRecDepth 20000
set_option linter.unusedSimpArgs false

def exF : List (ByteArray × ByteArray) := [(⟨#[109, 115, 103]⟩, ⟨#[120, 32, 65, 66]⟩)]
def exQ : Q := .mk 2 ⟨#[109, 115, 103]⟩ [⟨#[97, 98]⟩] []
def exN : Q := .mk 7 ByteArray.empty [] [exQ]
theorem exQ_yes : matchB exF exQ = true := by decide +kernel
theorem exN_no : matchB exF exN = false := by decide +kernel
theorem exQ_needs : needs exQ = [⟨#[109, 115, 103, 58, 97, 98]⟩] := by decide +kernel
theorem exQ_none : matchB [] exQ = false := by decide +kernel


theorem reads_one {w : World} {b : Nat} {v : Value} (h : w.cell? ⟨b, 0, none⟩ = some v) : Reads w w.heap.size 1 (some ⟨b, 0, none⟩) 1 [v] :=
  ⟨rfl, fun _ => ⟨b, 0, rfl, World.block_lt_of_cell? w _ h, fun j u hu => by
    match j with
    | 0 => simp at hu; subst hu; exact h
    | j + 1 => simp at hu⟩⟩
/-- The example's parts, below a world. -/
structure Ex (w : World) (b : Nat) : Prop where
  f0 : w.cell? ⟨b, 0, none⟩ = some (.string ⟨#[109, 115, 103]⟩)
  f1 : w.cell? ⟨b, 1, none⟩ = some (.string ⟨#[120, 32, 65, 66]⟩)
  e0 : w.cell? ⟨b + 1, 0, none⟩ = some (.int .i64 0)
  e1 : w.cell? ⟨b + 1, 1, none⟩ = some (.slice (some ⟨b, 0, none⟩) 1 1)
  s0 : w.cell? ⟨b + 1 + 1, 0, none⟩ = some (.string ⟨#[97, 98]⟩)
  q0 : w.cell? ⟨b + 1 + 1 + 1, 0, none⟩ = some (.int .i64 2)
  q1 : w.cell? ⟨b + 1 + 1 + 1, 1, none⟩ = some (.string ⟨#[109, 115, 103]⟩)
  q2 : w.cell? ⟨b + 1 + 1 + 1, 2, none⟩ = some (.slice (some ⟨b + 1 + 1, 0, none⟩) 1 1)
  q3 : w.cell? ⟨b + 1 + 1 + 1, 3, none⟩ = some (.slice none 0 0)
theorem Ex.grow {w w' : World} {b : Nat} (h : Ex w b) (hb : Below w.heap.size w w') : Ex w' b := by
  have g : ∀ {a : Addr} {v : Value}, w.cell? a = some v → w'.cell? a = some v := fun {a v} e => by
    have hl := World.block_lt_of_cell? w _ e
    exact (hb.cell hl).trans e
  exact ⟨g h.f0, g h.f1, g h.e0, g h.e1, g h.s0, g h.q0, g h.q1, g h.q2, g h.q3⟩
theorem Ex.q {w : World} {b : Nat} (h : Ex w b) : QAt w w.heap.size exQ [.int .i64 2, .string ⟨#[109, 115, 103]⟩, .slice (some ⟨b + 1 + 1, 0, none⟩) 1 1, .slice none 0 0] :=
  .mk [] rfl (reads_one h.s0) rfl rfl (by simp) Reads.none_ (fun i hi => absurd hi (by simp))
theorem Ex.f {w : World} {b : Nat} (h : Ex w b) : Reads w w.heap.size 2 (some ⟨b, 0, none⟩) 1 (fldC exF) :=
  ⟨rfl, fun _ => ⟨b, 0, rfl, World.block_lt_of_cell? w _ h.f0, fun j u hu => by
    match j with
    | 0 => simp [fldC, exF] at hu; subst hu; exact h.f0
    | 1 => simp [fldC, exF] at hu; subst hu; exact h.f1
    | j + 2 => simp [fldC, exF] at hu⟩⟩
theorem exF_sz : ∀ f ∈ exF, f.2.size ≤ 1000000 := by decide +kernel
theorem Ex.ev {w : World} {b : Nat} (h : Ex w b) : EvAt w (some ⟨b, 0, none⟩) 1 exF := ⟨h.f, rfl, by omega, exF_sz⟩
theorem exQ_sz : QSz exQ := .mk (by simp) (by simp) (fun x hx => by simp at hx)
theorem exN_sz : QSz exN := .mk (by simp) (by simp) (fun x hx => by simp at hx; subst hx; exact exQ_sz)
theorem exQ_tx : QTx 140737488351232 exQ := .mk (by decide) (by decide) (fun x hx => by simp at hx)
def exW (w : World) : World := (((w.alloc (.cells #[.string ⟨#[109, 115, 103]⟩, .string ⟨#[120, 32, 65, 66]⟩] 54)).alloc (.cells #[.int .i64 0, .slice (some ⟨w.heap.size, 0, none⟩) 1 1] 49)).alloc (.cells #[.string ⟨#[97, 98]⟩] 9)).alloc
  (.cells #[.int .i64 2, .string ⟨#[109, 115, 103]⟩, .slice (some ⟨w.heap.size + 1 + 1, 0, none⟩) 1 1, .slice none 0 0] 37)
theorem ex_new (w : World) : Ex (exW w) w.heap.size ∧ Below w.heap.size w (exW w) := by
  unfold exW
  have h1 := Blk.new w 54 #[.string ⟨#[109, 115, 103]⟩, .string ⟨#[120, 32, 65, 66]⟩]
  have b1 : Below w.heap.size w (w.alloc (.cells #[.string ⟨#[109, 115, 103]⟩, .string ⟨#[120, 32, 65, 66]⟩] 54)) := (Below.refl _ _).alloc (Nat.le_refl _) _
  have z1 : (w.alloc (.cells #[.string ⟨#[109, 115, 103]⟩, .string ⟨#[120, 32, 65, 66]⟩] 54)).heap.size = w.heap.size + 1 := by simp
  generalize w.alloc (.cells #[.string ⟨#[109, 115, 103]⟩, .string ⟨#[120, 32, 65, 66]⟩] 54) = w1 at *
  have h2 := Blk.new w1 49 #[.int .i64 0, .slice (some ⟨w.heap.size, 0, none⟩) 1 1]
  have h1' := h1.alloc (.cells #[.int .i64 0, .slice (some ⟨w.heap.size, 0, none⟩) 1 1] 49)
  have b2 := b1.alloc (by omega) (.cells #[.int .i64 0, .slice (some ⟨w.heap.size, 0, none⟩) 1 1] 49)
  have z2 : (w1.alloc (.cells #[.int .i64 0, .slice (some ⟨w.heap.size, 0, none⟩) 1 1] 49)).heap.size = w.heap.size + 1 + 1 := by simp [z1]
  rw [z1] at h2
  generalize w1.alloc (.cells #[.int .i64 0, .slice (some ⟨w.heap.size, 0, none⟩) 1 1] 49) = w2 at *
  have h3 := Blk.new w2 9 #[.string ⟨#[97, 98]⟩]
  have h1'' := h1'.alloc (.cells #[.string ⟨#[97, 98]⟩] 9)
  have h2' := h2.alloc (.cells #[.string ⟨#[97, 98]⟩] 9)
  have b3 := b2.alloc (by omega) (.cells #[.string ⟨#[97, 98]⟩] 9)
  have z3 : (w2.alloc (.cells #[.string ⟨#[97, 98]⟩] 9)).heap.size = w.heap.size + 1 + 1 + 1 := by simp [z2]
  rw [z2] at h3
  generalize w2.alloc (.cells #[.string ⟨#[97, 98]⟩] 9) = w3 at *
  have h4 := Blk.new w3 37 #[.int .i64 2, .string ⟨#[109, 115, 103]⟩, .slice (some ⟨w.heap.size + 1 + 1, 0, none⟩) 1 1, .slice none 0 0]
  rw [z3] at h4
  have k1 := h1''.alloc (.cells #[.int .i64 2, .string ⟨#[109, 115, 103]⟩, .slice (some ⟨w.heap.size + 1 + 1, 0, none⟩) 1 1, .slice none 0 0] 37)
  have k2 := h2'.alloc (.cells #[.int .i64 2, .string ⟨#[109, 115, 103]⟩, .slice (some ⟨w.heap.size + 1 + 1, 0, none⟩) 1 1, .slice none 0 0] 37)
  have k3 := h3.alloc (.cells #[.int .i64 2, .string ⟨#[109, 115, 103]⟩, .slice (some ⟨w.heap.size + 1 + 1, 0, none⟩) 1 1, .slice none 0 0] 37)
  exact ⟨⟨k1.cell 0, k1.cell 1, k2.cell 0, k2.cell 1, k3.cell 0, h4.cell 0, h4.cell 1, h4.cell 2, h4.cell 3⟩, b3.alloc (by omega) _⟩
theorem ex_not {w : World} {b : Nat} (h : Ex w b) : QAt (w.alloc (.cells #[.int .i64 2, .string ⟨#[109, 115, 103]⟩, .slice (some ⟨b + 1 + 1, 0, none⟩) 1 1, .slice none 0 0] 37)) (w.alloc (.cells #[.int .i64 2, .string ⟨#[109, 115, 103]⟩, .slice (some ⟨b + 1 + 1, 0, none⟩) 1 1, .slice none 0 0] 37)).heap.size exN
    [.int .i64 7, .string ByteArray.empty, .slice none 0 0, .slice (some ⟨w.heap.size, 0, none⟩) 1 1] := by
  have hB := Blk.new w 37 #[.int .i64 2, .string ⟨#[109, 115, 103]⟩, .slice (some ⟨b + 1 + 1, 0, none⟩) 1 1, .slice none 0 0]
  refine .mk [[.int .i64 2, .string ⟨#[109, 115, 103]⟩, .slice (some ⟨b + 1 + 1, 0, none⟩) 1 1, .slice none 0 0]] rfl Reads.none_ rfl rfl (by simp) ⟨rfl, fun _ => ⟨w.heap.size, 0, rfl, by simp, fun j u hu => ?_⟩⟩ (fun i hi hi' => ?_)
  · rw [Nat.zero_add, hB.cell j]
    simpa using hu
  · obtain rfl : i = 0 := by simp at hi; omega
    exact (h.grow ((Below.refl _ _).alloc (Nat.le_refl _) _)).q
theorem str_back (x : ByteArray) : str x.data.toList = x := by unfold str; rfl
theorem bsv_sv (l : List ByteArray) : bsv l = sv (l.map fun x => x.data.toList) := by
  unfold bsv sv
  simp only [List.map_map]
  refine List.map_congr_left fun x _ => ?_
  simp only [Function.comp_apply, str_back]
theorem sameB_eq (A A' : Option Addr) (c c' : Nat) (l : List ByteArray) (w : World) (h : Reads w w.heap.size 1 A l.length (bsv l)) (h' : Reads w w.heap.size 1 A' l.length (bsv l)) (hl : l.length ≤ 8796093021952) :
    Calls Try.prog 34 #[.slice A l.length c, .slice A' l.length c'] w fun e w' => e = .returned (.bool true) ∧ Below w.heap.size w w' := by
  have e : l.length = (l.map fun x => x.data.toList).length := by simp
  rw [bsv_sv, e] at h h'
  rw [e]
  exact sameWords_eq A A' c c' w.heap.size _ w h h' (Nat.le_refl _) (by rw [← e]; exact hl)
def exD : List Dc := [⟨0, 0, exF⟩, ⟨0, 0, []⟩]
theorem exD_count : ((exD.filter fun d => matchB d.fs exQ).length : Nat) = 1 := by decide +kernel
theorem exD_small : Small exD := by unfold Small; decide +kernel
theorem ex_docs {w : World} {b : Nat} (h : Ex w b) : DocsAt (w.alloc (.cells #[.int .i64 0, .int .i64 0, .slice (some ⟨b, 0, none⟩) 1 1, .int .i64 0, .int .i64 0, .slice none 0 0] 80)) (w.alloc (.cells #[.int .i64 0, .int .i64 0, .slice (some ⟨b, 0, none⟩) 1 1, .int .i64 0, .int .i64 0, .slice none 0 0] 80)).heap.size (some ⟨w.heap.size, 0, none⟩) 2 exD := by
  have hB := Blk.new w 80 #[.int .i64 0, .int .i64 0, .slice (some ⟨b, 0, none⟩) 1 1, .int .i64 0, .int .i64 0, .slice none 0 0]
  have hx := h.grow ((Below.refl _ _).alloc (Nat.le_refl _) (.cells #[.int .i64 0, .int .i64 0, .slice (some ⟨b, 0, none⟩) 1 1, .int .i64 0, .int .i64 0, .slice none 0 0] 80))
  refine ⟨rfl, [[.int .i64 0, .int .i64 0, .slice (some ⟨b, 0, none⟩) 1 1], [.int .i64 0, .int .i64 0, .slice none 0 0]], rfl, ⟨rfl, fun _ => ⟨w.heap.size, 0, rfl, by simp, fun j u hu => ?_⟩⟩, fun i hi hi' => ?_⟩
  · rw [Nat.zero_add, hB.cell j]
    simpa using hu
  · have hc : i = 0 ∨ i = 1 := by simp [exD] at hi; omega
    rcases hc with rfl | rfl
    · exact ⟨some ⟨b, 0, none⟩, 1, 1, rfl, hx.f, rfl, by omega, by omega, fun e => by cases e⟩
    · exact ⟨none, 0, 0, rfl, Reads.none_, rfl, by omega, by omega, fun e => rfl⟩
set_option maxHeartbeats 1600000 in
theorem awake_any (w : World) : Calls Try.prog 52 #[] w fun e w' => e = .returned (.bool true) ∧ Below w.heap.size w w' := by
  obtain ⟨hE, hb⟩ := ex_new w
  unfold exW at hE hb
  go_enter Try.func52, Try.ntmps52
  go_wp2_with fail
  generalize (((w.alloc (.cells #[.string ⟨#[109, 115, 103]⟩, .string ⟨#[120, 32, 65, 66]⟩] 54)).alloc (.cells #[.int .i64 0, .slice (some ⟨w.heap.size, 0, none⟩) 1 1] 49)).alloc (.cells #[.string ⟨#[97, 98]⟩] 9)).alloc
    (.cells #[.int .i64 2, .string ⟨#[109, 115, 103]⟩, .slice (some ⟨w.heap.size + 1 + 1, 0, none⟩) 1 1, .slice none 0 0] 37) = w4 at *
  have hz4 : w.heap.size ≤ w4.heap.size := hb.size
  generalize hbe : w.heap.size = b at *
  have Hbe := Lib.hid hbe
  clear hbe
  have c1 := match_any exF exQ exQ_sz _ _ _ _ _ 0 _ 1 1 hE.q hE.ev
  rw [exQ_yes] at c1
  refine c1.mono ?_
  rintro e w5 ⟨rfl, hb5⟩
  have hb5' := hb.trans (hb5.mono hz4)
  have hz5 : b ≤ w5.heap.size := Nat.le_trans hz4 hb5.size
  have hE5 := hE.grow hb5
  clear c1 hb hE hb5
  have HE5 := Lib.hid hE5
  have Hb5 := Lib.hid hb5'
  obtain ⟨_, _, g0, g1, _, g2, g3, g4, g5⟩ := hE5
  clear hb5'
  obtain ⟨_, _, k0, k1, _, _, _, _, _⟩ := HE5.out.grow ((Below.refl _ _).alloc (Nat.le_refl _) (.cells #[.int .i64 2, .string ⟨#[109, 115, 103]⟩, .slice (some ⟨b + 1 + 1, 0, none⟩) 1 1, .slice none 0 0] 37))
  go_wp2_with fail
  have c2 := match_any exF exN exN_sz _ _ _ _ _ 0 _ 1 1 (ex_not HE5.out) (HE5.out.grow ((Below.refl _ _).alloc (Nat.le_refl _) _)).ev
  rw [exN_no] at c2
  refine c2.mono ?_
  rintro e w6 ⟨rfl, hb6⟩
  have hb56 : Below w5.heap.size w5 w6 := ((Below.refl _ _).alloc (Nat.le_refl _) _).trans (hb6.mono (by simp))
  have hE6 := HE5.out.grow hb56
  have HE6 := Lib.hid hE6
  have Hb6 := Lib.hid (Hb5.out.trans (hb56.mono hz5))
  have hz6 : b ≤ w6.heap.size := Nat.le_trans hz5 hb56.size
  clear hb56 c2 hb6 HE5 Hb5 k0 k1 g0 g1 g2 g3 g4 g5
  obtain ⟨_, _, g0, g1, _, g2, g3, g4, g5⟩ := hE6
  go_wp2_with fail
  have c3 := count_any exQ exQ_sz _ _ _ _ _ 2 2 exD _ (HE6.out.grow ((Below.refl _ _).alloc (Nat.le_refl _) _)).q (ex_docs HE6.out) (by decide) exD_small
  rw [exD_count] at c3
  refine c3.mono ?_
  rintro e w7 ⟨rfl, hb7⟩
  have hb67 : Below w6.heap.size w6 w7 := ((Below.refl _ _).alloc (Nat.le_refl _) _).trans (hb7.mono (by simp))
  have hE7 := HE6.out.grow hb67
  have HE7 := Lib.hid hE7
  have Hb7 := Lib.hid (Hb6.out.trans (hb67.mono hz6))
  have hz7 : b ≤ w7.heap.size := Nat.le_trans hz6 hb67.size
  clear hb67 c3 hb7 HE6 Hb6 g0 g1 g2 g3 g4 g5
  obtain ⟨_, _, g0, g1, _, g2, g3, g4, g5⟩ := hE7
  go_wp2_with fail
  have c4 := needs_any exQ exQ_tx w7 _ _ _ _ HE7.out.q (by decide)
  rw [exQ_needs] at c4
  refine c4.mono ?_
  rintro e w8 ⟨v8, rfl, hown8, hb8⟩
  obtain ⟨A8, c8, rfl, hR8⟩ := own_shape hown8
  have HR8 := Lib.hid hR8
  have Hb8 := Lib.hid (Hb7.out.trans (hb8.mono hz7))
  have hz8 : b ≤ w8.heap.size := Nat.le_trans hz7 hb8.size
  clear hR8 hown8 hb8 c4 Hb7 HE7 g0 g1 g2 g3 g4 g5
  go_wp2_with fail
  have c9 := sameB_eq A8 (some ⟨w8.heap.size, 0, none⟩) c8 1 [⟨#[109, 115, 103, 58, 97, 98]⟩] (w8.alloc (.cells #[.string ⟨#[109, 115, 103, 58, 97, 98]⟩] 9)) ((HR8.out.below ((Below.refl _ _).alloc (Nat.le_refl _) _)).more (by simp)) (reads_one ((Blk.new w8 9 #[.string ⟨#[109, 115, 103, 58, 97, 98]⟩]).cell 0)) (by decide)
  refine c9.mono ?_
  rintro e w9 ⟨rfl, hb9⟩
  have Hb9 := Lib.hid (Hb8.out.trans ((((Below.refl _ _).alloc (Nat.le_refl _) _ : Below w8.heap.size w8 _).trans (hb9.mono (by simp))).mono hz8))
  clear hb9 c9 HR8 Hb8
  go_wp2
  go_ret
  exact ⟨rfl, by rw [Hbe.out]; exact Hb9.out⟩
end Go.Proofs.Ytjfconddkfihcaa.Qy
