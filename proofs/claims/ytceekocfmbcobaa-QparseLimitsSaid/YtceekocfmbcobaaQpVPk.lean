/- loggialaw17: term, awake: the walks (printed by gen_qpx.py). -/
import Derived.Test.YtceekocfmbcobaaPkQparseReadsRow36
namespace Go.Proofs.Ytceekocfmbcobaa.Qp
open Go.RowKit Go.Proofs.Ytceekocfmbcobaa Go.Proofs.Ytceekocfmbcobaa.Ut Go.Proofs.Ytceekocfmbcobaa.Tk Go.Proofs.Ytceekocfmbcobaa.Qy
set_option maxRecDepth 20000
set_option linter.unusedSimpArgs false

def msgS : ByteArray := ⟨#[109, 115, 103]⟩
set_option maxHeartbeats 1600000 in
theorem term_any (c : UInt8) (w : World) : Calls Try.prog 40 #[.string ⟨#[c]⟩] w fun e w' => ∃ g : Nat, e = .returned (.agg #[.int .i64 2, .string ⟨#[109, 115, 103]⟩, .slice (some ⟨g, 0, none⟩) 1 1, .slice none 0 0]) ∧ Blk w' g 9 #[.string ⟨#[c]⟩] ∧ Below w.heap.size w w' := by
  generalize (⟨#[c]⟩ : ByteArray) = s
  have hh := (Blk.new w 29 #[.int .i64 2, .string ⟨#[109, 115, 103]⟩, .slice (some ⟨w.heap.size + 1, 0, none⟩) 1 1, .slice none 0 0]).alloc (.cells #[.string s] 9)
  have hg := Blk.new (w.alloc (.cells #[.int .i64 2, .string ⟨#[109, 115, 103]⟩, .slice (some ⟨w.heap.size + 1, 0, none⟩) 1 1, .slice none 0 0] 29)) 9 #[.string s]
  rw [World.size_alloc] at hg
  go_enter Try.func40, Try.ntmps40
  go_wp2
  exact bodyPost_ret (results_cell rfl rfl (run_loadVar_row _ w.heap.size 29 29 _ (0, 0) _ hh Try.underlying29 rfl (by kernel_rfl))) rfl ⟨_, rfl, hg, ((Below.refl _ _).alloc (Nat.le_refl _) _).alloc (by simp) _⟩
theorem tq_at {w : World} {g : Nat} (c : UInt8) (h : Blk w g 9 #[.string ⟨#[c]⟩]) : QAt w w.heap.size (tq c) [.int .i64 2, .string ⟨#[109, 115, 103]⟩, .slice (some ⟨g, 0, none⟩) 1 1, .slice none 0 0] :=
  .mk [] rfl ⟨rfl, fun _ => ⟨g, 0, rfl, h.lt, fun j u hu => by
    rw [Nat.zero_add, h.cell]
    match j, hu with
    | 0, hu => exact hu
    | j + 1, hu => simp at hu⟩⟩ rfl rfl (by simp) Reads.none_ (fun i hi => absurd hi (by simp))
/-- A query of two parts. -/
theorem two_at {w : World} {g : Nat} (k : Int) {x y : Q} {x0 x1 x2 x3 y0 y1 y2 y3 : Value} (hx : QAt w w.heap.size x [x0, x1, x2, x3]) (hy : QAt w w.heap.size y [y0, y1, y2, y3]) (h : Blk w g 29 #[x0, x1, x2, x3, y0, y1, y2, y3]) :
    QAt w w.heap.size (.mk k ByteArray.empty [] [x, y]) [.int .i64 k, .string ⟨#[]⟩, .slice none 0 0, .slice (some ⟨g, 0, none⟩) 2 2] := by
  refine QAt.mk (nm := ⟨#[]⟩) [[x0, x1, x2, x3], [y0, y1, y2, y3]] rfl (by simpa using Reads.none_) rfl rfl (by simp) ⟨rfl, fun _ => ⟨g, 0, rfl, h.lt, fun j u hu => ?_⟩⟩ (fun i hi hi' => ?_)
  · rw [Nat.zero_add, h.cell]
    simpa using hu
  · match i, hi, hi' with
    | 0, _, _ => exact hx
    | 1, _, _ => exact hy
    | i + 2, hi, _ => exact absurd hi (by simp)
def W1F (c : UInt8) (x : Nat) (w : World) : Prop := Blk w x 9 #[.string ⟨#[c]⟩]
def W2F (x : Nat × Nat × Nat) (w : World) : Prop := Blk w x.1 29 #[.int .i64 2, .string ⟨#[109, 115, 103]⟩, .slice (some ⟨x.2.1, 0, none⟩) 1 1, .slice none 0 0, .int .i64 2, .string ⟨#[109, 115, 103]⟩, .slice (some ⟨x.2.2, 0, none⟩) 1 1, .slice none 0 0] ∧ W1F 98 x.2.1 w ∧ W1F 99 x.2.2 w
def W3F (x : Nat × Nat × Nat × Nat × Nat) (w : World) : Prop := Blk w x.1 29 #[.int .i64 2, .string ⟨#[109, 115, 103]⟩, .slice (some ⟨x.2.1, 0, none⟩) 1 1, .slice none 0 0, .int .i64 5, .string ⟨#[]⟩, .slice none 0 0, .slice (some ⟨x.2.2.1, 0, none⟩) 2 2] ∧ W1F 97 x.2.1 w ∧ W2F x.2.2 w
theorem W1F.last {c : UInt8} {x : Nat} {w w' : World} (h : W1F c x w) (hb : Below w.heap.size w w') : W1F c x w' := Blk.below h hb (Blk.lt h)
theorem W2F.last {x : Nat × Nat × Nat} {w w' : World} (h : W2F x w) (hb : Below w.heap.size w w') : W2F x w' := ⟨h.1.below hb h.1.lt, h.2.1.last hb, h.2.2.last hb⟩
theorem W3F.last {x : Nat × Nat × Nat × Nat × Nat} {w w' : World} (h : W3F x w) (hb : Below w.heap.size w w') : W3F x w' := ⟨h.1.below hb h.1.lt, h.2.1.last hb, h.2.2.last hb⟩
theorem W3F.at_ {x : Nat × Nat × Nat × Nat × Nat} {w : World} (h : W3F x w) : QAt w w.heap.size exQ1 [.int .i64 6, .string ⟨#[]⟩, .slice none 0 0, .slice (some ⟨x.1, 0, none⟩) 2 2] :=
  two_at 6 (tq_at 97 h.2.1) (two_at 5 (tq_at 98 h.2.2.2.1) (tq_at 99 h.2.2.2.2) h.2.2.1) h.1
set_option maxHeartbeats 6400000 in
theorem awake17 (w : World) : Calls Try.prog 18 #[] w fun e w' => e = .returned (.bool true) ∧ Below w.heap.size w w' := by
  have c1 := parse_any ⟨#[97, 32, 79, 82, 32, 98, 32, 99]⟩ w
  go_enter Try.func18, Try.ntmps18
  go_wp2_with fail
  refine c1.mono ?_
  rintro e w1 ⟨E, oq, a0, a1, a2, a3, hp, rfl, hF, hb1⟩
  obtain ⟨rfl, rfl⟩ := hp.det prs1
  replace hF : QF w1 (fun b => w.heap.size ≤ b ∧ b < w1.heap.size) exQ1 [a0, a1, a2, a3] := hF
  obtain ⟨A', n', c', C', m', d', e4⟩ := hF.four
  simp only [List.cons.injEq, and_true] at e4
  obtain ⟨rfl, rfl, rfl, rfl⟩ := e4
  have hk : exQ1.kind = 6 := rfl
  have hnm : exQ1.name = ⟨#[]⟩ := rfl
  rw [hk, hnm] at hF ⊢
  have hbb := (Below.refl w1.heap.size w1).alloc (Nat.le_refl _) (.cells #[.int .i64 6, .string ⟨#[]⟩, .slice A' n' c', .slice C' m' d'] 29)
  have HF2 := Lib.hid (hF.grow hbb)
  have HB2 := Lib.hid (Blk.new w1 29 #[.int .i64 6, .string ⟨#[]⟩, .slice A' n' c', .slice C' m' d'])
  have Hb2 := Lib.hid (hb1.trans (hbb.mono hb1.size))
  have hz : w1.heap.size < (w1.alloc (.cells #[.int .i64 6, .string ⟨#[]⟩, .slice A' n' c', .slice C' m' d'] 29)).heap.size := by simp
  have hsz1 := hb1.size
  clear c1 hp hF hbb hb1 hk hnm
  go_wp2_with fail
  generalize hw2 : w1.alloc (.cells #[.int .i64 6, .string ⟨#[]⟩, .slice A' n' c', .slice C' m' d'] 29) = w2 at *
  clear hw2
  have c2 := parse_any ⟨#[97, 32, 79, 82]⟩ w2
  refine c2.mono ?_
  rintro e w3 ⟨E, oq, b0, b1, b2, b3, hp, rfl, hF, hb3⟩
  obtain ⟨rfl, rfl⟩ := hp.det prs2
  obtain ⟨A9, n9, c9, C9, m9, d9, e9⟩ := hF.four
  simp only [List.cons.injEq, and_true] at e9
  obtain ⟨rfl, rfl, rfl, rfl⟩ := e9
  have HF3 := Lib.hid (HF2.out.grow hb3)
  have HB3 := Lib.hid (HB2.out.below hb3 hz)
  have Hb3 := Lib.hid (Hb2.out.trans (hb3.mono (by omega)))
  have hsz3 := hb3.size
  clear c2 hp hF hb3 HF2 HB2 Hb2
  have hb4 := (Below.refl w3.heap.size w3).alloc (Nat.le_refl _) (.cells #[.int .i64 ((none : Option Q).getD noQ).kind, .string ((none : Option Q).getD noQ).name, .slice A9 n9 c9, .slice C9 m9 d9] 29)
  have HF4 := Lib.hid (HF3.out.grow hb4)
  have HB4 := Lib.hid (HB3.out.alloc (.cells #[.int .i64 ((none : Option Q).getD noQ).kind, .string ((none : Option Q).getD noQ).name, .slice A9 n9 c9, .slice C9 m9 d9] 29))
  have Hb4 := Lib.hid (Hb3.out.trans (hb4.mono (by omega)))
  have hz4 : w3.heap.size < (w3.alloc (.cells #[.int .i64 ((none : Option Q).getD noQ).kind, .string ((none : Option Q).getD noQ).name, .slice A9 n9 c9, .slice C9 m9 d9] 29)).heap.size := by simp
  clear hb4 HF3 HB3 Hb3
  generalize ((none : Option Q).getD noQ).kind = k9 at *
  generalize ((none : Option Q).getD noQ).name = s9 at *
  go_upto_region 3 with (fail)
  generalize hw4 : w3.alloc (.cells #[.int .i64 k9, .string s9, .slice A9 n9 c9, .slice C9 m9 d9] 29) = w4 at *
  clear hw4
  have hcells : ∀ wx, Below w4.heap.size w4 wx → wx.cell? ⟨w1.heap.size, 0, none⟩ = some (.int .i64 6) ∧ wx.cell? ⟨w1.heap.size, 1, none⟩ = some (.string ⟨#[]⟩) ∧ wx.cell? ⟨w1.heap.size, 2, none⟩ = some (.slice A' n' c') ∧ wx.cell? ⟨w1.heap.size, 3, none⟩ = some (.slice C' m' d') := fun wx hb => by
    have B := HB4.out.below hb (by omega)
    exact ⟨B.cell 0, B.cell 1, B.cell 2, B.cell 3⟩
  have Hcells := Lib.hid hcells
  clear hcells
  refine wp_region_grow (specOf [(4, ⟨Nat, fun x => .agg #[.int .i64 2, .string ⟨#[109, 115, 103]⟩, .slice (some ⟨x, 0, none⟩) 1 1, .slice none 0 0], W1F 97⟩), (5, ⟨Nat, fun x => .agg #[.int .i64 2, .string ⟨#[109, 115, 103]⟩, .slice (some ⟨x, 0, none⟩) 1 1, .slice none 0 0], W1F 98⟩), (6, ⟨Nat, fun x => .agg #[.int .i64 2, .string ⟨#[109, 115, 103]⟩, .slice (some ⟨x, 0, none⟩) 1 1, .slice none 0 0], W1F 99⟩), (7, ⟨Nat × Nat × Nat, fun x => .slice (some ⟨x.1, 0, none⟩) 2 2, W2F⟩), (8, ⟨Nat × Nat × Nat, fun x => .agg #[.int .i64 5, .string ⟨#[]⟩, .slice none 0 0, .slice (some ⟨x.1, 0, none⟩) 2 2], W2F⟩), (9, ⟨Nat × Nat × Nat × Nat × Nat, fun x => .slice (some ⟨x.1, 0, none⟩) 2 2, W3F⟩), (10, ⟨Nat × Nat × Nat × Nat × Nat, fun x => .agg #[.int .i64 6, .string ⟨#[]⟩, .slice none 0 0, .slice (some ⟨x.1, 0, none⟩) 2 2], W3F⟩), (11, ⟨Unit, fun _ => .bool true, fun _ _ => True⟩)]) (fun wx => Below (World.heap w4).size w4 wx) (fun w1 w2 => Below w1.heap.size w1 w2) (by kernel_rfl) (by kernel_rfl) (stab_cons (fun x w1 w2 hg h => W1F.last h hg) (stab_cons (fun x w1 w2 hg h => W1F.last h hg) (stab_cons (fun x w1 w2 hg h => W1F.last h hg) (stab_cons (fun x w1 w2 hg h => W2F.last h hg) (stab_cons (fun x w1 w2 hg h => W2F.last h hg) (stab_cons (fun x w1 w2 hg h => W3F.last h hg) (stab_cons (fun x w1 w2 hg h => W3F.last h hg) (stab_cons (fun _ _ _ _ _ => trivial) (stab_nil))))))))) (Below.refl _ _).drew ?_
  refine grow_fix 1 ?_ rfl (by rfl) (by rfl) (fun wx hC hD => ?_) ?_
  rotate_left
  · have hSw := Hcells.out wx hC
    go_simp
    all_goals with_reducible rfl
  try simp only [Act.put, List.setIfInBounds_toArray, List.set_cons_zero, List.set_cons_succ]
  refine grow_fix 2 ?_ rfl (by rfl) (by rfl) (fun wx hC hD => ?_) ?_
  rotate_left
  · have hSw := Hcells.out wx hC
    go_simp
    all_goals with_reducible rfl
  try simp only [Act.put, List.setIfInBounds_toArray, List.set_cons_zero, List.set_cons_succ]
  refine grow_fix 3 ?_ rfl (by rfl) (by rfl) (fun wx hC hD => ?_) ?_
  rotate_left
  · have hSw := Hcells.out wx hC
    go_simp
    all_goals with_reducible rfl
  try simp only [Act.put, List.setIfInBounds_toArray, List.set_cons_zero, List.set_cons_succ]
  refine grow_fix 4 ?_ rfl (by rfl) (by rfl) (fun wx hC hD => ?_) ?_
  rotate_left
  · have hSw := Hcells.out wx hC
    go_simp
    all_goals with_reducible rfl
  try simp only [Act.put, List.setIfInBounds_toArray, List.set_cons_zero, List.set_cons_succ]
  refine grow_give 5 _ rfl (by rfl) (by rfl) (fun wx hC hD => ?_) (fun x => ?_)
  · refine give_enter (f := ?_) (args := ?_) ?_ ?_
    rotate_left 2
    · have hSw := Hcells.out wx hC
      go_simp
      all_goals first | with_reducible rfl | (refine ⟨?_, ?_⟩ <;> with_reducible rfl)
    refine (term_any 97 wx).mono ?_
    rintro e w9 ⟨g9, rfl, hg9, hb9⟩
    exact ⟨_, rfl, hb9, hC.trans (hb9.mono hC.size), g9, rfl, hg9⟩
  rename Nat => s1
  try simp only [Act.put, List.setIfInBounds_toArray, List.set_cons_zero, List.set_cons_succ]
  refine grow_give 6 _ rfl (by rfl) (by rfl) (fun wx hC hD => ?_) (fun x => ?_)
  · refine give_enter (f := ?_) (args := ?_) ?_ ?_
    rotate_left 2
    · have hSw := Hcells.out wx hC
      go_simp
      all_goals first | with_reducible rfl | (refine ⟨?_, ?_⟩ <;> with_reducible rfl)
    refine (term_any 98 wx).mono ?_
    rintro e w9 ⟨g9, rfl, hg9, hb9⟩
    exact ⟨_, rfl, hb9, hC.trans (hb9.mono hC.size), g9, rfl, hg9⟩
  rename Nat => s2
  try simp only [Act.put, List.setIfInBounds_toArray, List.set_cons_zero, List.set_cons_succ]
  refine grow_give 7 _ rfl (by rfl) (by rfl) (fun wx hC hD => ?_) (fun x => ?_)
  · refine give_enter (f := ?_) (args := ?_) ?_ ?_
    rotate_left 2
    · have hSw := Hcells.out wx hC
      go_simp
      all_goals first | with_reducible rfl | (refine ⟨?_, ?_⟩ <;> with_reducible rfl)
    refine (term_any 99 wx).mono ?_
    rintro e w9 ⟨g9, rfl, hg9, hb9⟩
    exact ⟨_, rfl, hb9, hC.trans (hb9.mono hC.size), g9, rfl, hg9⟩
  rename Nat => s3
  try simp only [Act.put, List.setIfInBounds_toArray, List.set_cons_zero, List.set_cons_succ]
  refine grow_give 8 _ rfl (by rfl) (by rfl) (fun wx hC hD => ?_) (fun x => ?_)
  · refine give_value (u := ?_) (w' := ?_) ?_ ?_ ?_
    rotate_left 2
    · have hSw := Hcells.out wx hC
      go_simp
      all_goals first | with_reducible rfl | (refine ⟨?_, ?_⟩ <;> with_reducible rfl)
    · exact ((Below.refl _ _).alloc (Nat.le_refl _) _)
    · exact ⟨hC.alloc hC.size _, (wx.heap.size, s2, s3), rfl, Blk.new _ _ _, W1F.last (upd_hit (upd_miss (deps_get hD 5 (by kernel_rfl)) (by decide)) (by decide)) ((Below.refl _ _).alloc (Nat.le_refl _) _), W1F.last (upd_hit (deps_get hD 6 (by kernel_rfl)) (by decide)) ((Below.refl _ _).alloc (Nat.le_refl _) _)⟩
  obtain ⟨g7, u1, u2⟩ := x
  try simp only [Act.put, List.setIfInBounds_toArray, List.set_cons_zero, List.set_cons_succ]
  refine grow_give 9 _ rfl (by rfl) (by rfl) (fun wx hC hD => ?_) (fun x => ?_)
  · refine give_value (u := ?_) (w' := ?_) ?_ ?_ ?_
    rotate_left 2
    · have hSw := Hcells.out wx hC
      go_simp
      all_goals first | with_reducible rfl | (refine ⟨?_, ?_⟩ <;> with_reducible rfl)
    · exact Below.refl _ _
    · exact ⟨hC, (g7, u1, u2), rfl, upd_hit (deps_get hD 7 (by kernel_rfl)) (by decide)⟩
  obtain ⟨g8, v1, v2⟩ := x
  try simp only [Act.put, List.setIfInBounds_toArray, List.set_cons_zero, List.set_cons_succ]
  refine grow_give 10 _ rfl (by rfl) (by rfl) (fun wx hC hD => ?_) (fun x => ?_)
  · refine give_value (u := ?_) (w' := ?_) ?_ ?_ ?_
    rotate_left 2
    · have hSw := Hcells.out wx hC
      go_simp
      all_goals first | with_reducible rfl | (refine ⟨?_, ?_⟩ <;> with_reducible rfl)
    · exact ((Below.refl _ _).alloc (Nat.le_refl _) _)
    · exact ⟨hC.alloc hC.size _, (wx.heap.size, s1, g8, v1, v2), rfl, Blk.new _ _ _, W1F.last (upd_hit (upd_miss (upd_miss (upd_miss (upd_miss (deps_get hD 4 (by kernel_rfl)) (by decide)) (by decide)) (by decide)) (by decide)) (by decide)) ((Below.refl _ _).alloc (Nat.le_refl _) _), W2F.last (upd_hit (deps_get hD 8 (by kernel_rfl)) (by decide)) ((Below.refl _ _).alloc (Nat.le_refl _) _)⟩
  obtain ⟨h9, r1, r2, r3, r4⟩ := x
  try simp only [Act.put, List.setIfInBounds_toArray, List.set_cons_zero, List.set_cons_succ]
  refine grow_give 11 _ rfl (by rfl) (by rfl) (fun wx hC hD => ?_) (fun x => ?_)
  · refine give_value (u := ?_) (w' := ?_) ?_ ?_ ?_
    rotate_left 2
    · have hSw := Hcells.out wx hC
      go_simp
      all_goals first | with_reducible rfl | (refine ⟨?_, ?_⟩ <;> with_reducible rfl)
    · exact Below.refl _ _
    · exact ⟨hC, (h9, r1, r2, r3, r4), rfl, upd_hit (deps_get hD 9 (by kernel_rfl)) (by decide)⟩
  obtain ⟨h10, y1, y2, y3, y4⟩ := x
  try simp only [Act.put, List.setIfInBounds_toArray, List.set_cons_zero, List.set_cons_succ]
  refine grow_give 12 _ rfl (by rfl) (by rfl) (fun wx hC hD => ?_) (fun x => ?_)
  · refine give_enter (f := ?_) (args := ?_) ?_ ?_
    rotate_left 2
    · have hSw := Hcells.out wx hC
      go_simp
      all_goals first | with_reducible rfl | (refine ⟨?_, ?_⟩ <;> with_reducible rfl)
    exact calls_cst hC (same_q exQ1_w wx _ _ _ _ _ _ _ _ ((HF4.out.grow hC).at_ fun b hS => hS.2) (W3F.at_ (upd_hit (deps_get hD 10 (by kernel_rfl)) (by decide))))
  obtain ⟨⟩ := x
  try simp only [Act.put, List.setIfInBounds_toArray, List.set_cons_zero, List.set_cons_succ]
  refine grow_fix 13 ?_ rfl (by rfl) (by rfl) (fun wx hC hD => ?_) ?_
  rotate_left
  · have hSw := Hcells.out wx hC
    go_simp
    all_goals with_reducible rfl
  try simp only [Act.put, List.setIfInBounds_toArray, List.set_cons_zero, List.set_cons_succ]
  refine grow_fix 14 ?_ rfl (by rfl) (by rfl) (fun wx hC hD => ?_) ?_
  rotate_left
  · have hSw := Hcells.out wx hC
    go_simp
    all_goals with_reducible rfl
  try simp only [Act.put, List.setIfInBounds_toArray, List.set_cons_zero, List.set_cons_succ]
  refine grow_fix 15 ?_ rfl (by rfl) (by rfl) (fun wx hC hD => ?_) ?_
  rotate_left
  · have hSw := Hcells.out wx hC
    go_simp
    all_goals with_reducible rfl
  try simp only [Act.put, List.setIfInBounds_toArray, List.set_cons_zero, List.set_cons_succ]
  refine grow_fix 16 ?_ rfl (by rfl) (by rfl) (fun wx hC hD => ?_) ?_
  rotate_left
  · have hSw := Hcells.out wx hC
    go_simp
    all_goals with_reducible rfl
  try simp only [Act.put, List.setIfInBounds_toArray, List.set_cons_zero, List.set_cons_succ]
  refine grow_fix 17 ?_ rfl (by rfl) (by rfl) (fun wx hC hD => ?_) ?_
  rotate_left
  · have hSw := Hcells.out wx hC
    go_simp
    all_goals with_reducible rfl
  try simp only [Act.put, List.setIfInBounds_toArray, List.set_cons_zero, List.set_cons_succ]
  refine grow_fix 18 ?_ rfl (by rfl) (by rfl) (fun wx hC hD => ?_) ?_
  rotate_left
  · have hSw := Hcells.out wx hC
    go_simp
    all_goals with_reducible rfl
  try simp only [Act.put, List.setIfInBounds_toArray, List.set_cons_zero, List.set_cons_succ]
  refine grow_nil (fun w5 hC hF => ?_)
  have Hfin := Lib.hid (Hb4.out.trans (hC.mono (by omega)))
  clear hC hF
  go_wp2_with fail
  go_ret
  exact ⟨rfl, Hfin.out⟩
end Go.Proofs.Ytceekocfmbcobaa.Qp
