/- BloomOf: the filter of any terms, and of any bytes, there and back: the law's walk. -/
import Derived.Test.YtambdddahbgelaaBloomOc
import Derived.Test.YtambdddahbgelaaGrow
import Derived.OpenShut
namespace Go.Proofs.Ytambdddahbgelaa.Bl
open Go.RowKit
set_option linter.unusedSimpArgs false
set_option maxRecDepth 20000

theorem rd_grow {w1 w2 : World} {A : Option Addr} {bs : List Nat} (hb : Below w1.heap.size w1 w2) (h : RD w1 w1.heap.size A bs) : RD w2 w2.heap.size A bs := ⟨(h.1.below hb).more hb.size, h.2⟩
theorem reads_grow {w1 w2 : World} {A : Option Addr} {k n : Nat} {xs : List Value} (hb : Below w1.heap.size w1 w2) (h : Reads w1 w1.heap.size k A n xs) : Reads w2 w2.heap.size k A n xs := (h.below hb).more hb.size
/-- What stands, once both filters are made. -/
structure OfAt (w : World) (g hh gr qr p : Nat) (bs : List Nat) (X2 : Option Addr) (t2 : List ByteArray) (Ab : Option Addr) (zb : List Nat) : Prop where
  f : FAt w g hh bs
  r : RD w w.heap.size (some ⟨gr, 0, none⟩) bs
  box : Blk w p 34 #[.slice (some ⟨gr, 0, none⟩) bs.length qr]
  ask : Reads w w.heap.size 1 X2 t2.length (t2.map Value.string)
  b : RD w w.heap.size Ab zb
section
variable {w w2 : World} {g hh gr qr p : Nat} {bs : List Nat} {X2 : Option Addr} {t2 : List ByteArray} {Ab : Option Addr} {zb : List Nat}
theorem OfAt.below (h : OfAt w g hh gr qr p bs X2 t2 Ab zb) (hb : Below w.heap.size w w2) : OfAt w2 g hh gr qr p bs X2 t2 Ab zb :=
  ⟨h.f.keep hb, rd_grow hb h.r, h.box.below hb h.box.lt, reads_grow hb h.ask, rd_grow hb h.b⟩
theorem OfAt.cells (h : OfAt w g hh gr qr p bs X2 t2 Ab zb) (hl : 0 < bs.length) : w.cell? ⟨p, 0, none⟩ = some (.slice (some ⟨gr, 0, none⟩) bs.length qr) ∧ (convert 32 9 (.slice (some ⟨gr, 0, none⟩) bs.length qr)).run Try.prog w = .ok (.string (bstr bs)) w :=
  ⟨h.box.cell 0, conv_rd _ _ _ _ _ h.r hl⟩
end
structure OfG (w : World) (g5 h5 gq qq p : Nat) (zb : List Nat) (m : Nat) : Prop where
  f : FAt w g5 h5 zb
  r : RD w w.heap.size (some ⟨gq, 0, none⟩) zb
  box : Blk w p 34 #[.slice (some ⟨gq, 0, none⟩) m qq]
theorem OfG.below {w w2 : World} {g5 h5 gq qq p m : Nat} {zb : List Nat} (h : OfG w g5 h5 gq qq p zb m) (hb : Below w.heap.size w w2) : OfG w2 g5 h5 gq qq p zb m :=
  ⟨h.f.keep hb, rd_grow hb h.r, h.box.below hb h.box.lt⟩

set_option maxHeartbeats 12800000 in
theorem bloomOf_bad (A1 : Option Addr) (l1 c1 : Nat) (ss1 : List ByteArray) (Ab : Option Addr) (lb cb : Nat) (zb : List Nat) (A2 : Option Addr) (l2 c2 : Nat) (ss2 : List ByteArray) (w : World)
    (R1 : Reads w w.heap.size 1 A1 l1 (ss1.map Value.string)) (S1 : ∀ s ∈ ss1, s.size ≤ 140737488351232) (L1 : l1 ≤ 140737488351232)
    (m : Nat) (hm : m = min lb 2000) (hcb : lb ≤ cb) (Rb : RD w w.heap.size Ab zb) (hzb : zb.length = m) (hmin : (if (2000 : Int) < (lb : Int) then (2000 : Int) else (lb : Int)) = (m : Int)) (h8 : m < 8)
    (R2 : Reads w w.heap.size 1 A2 l2 (ss2.map Value.string)) (S2 : ∀ s ∈ ss2, s.size ≤ 140737488351232) (L2 : l2 ≤ 140737488351232) :
    Calls Try.prog 10 #[.slice A1 l1 c1, .slice Ab lb cb, .slice A2 l2 c2] w fun e w' => e = .returned (.bool true) ∧ Below w.heap.size w w' := by
  have hm2 : m ≤ 2000 ∧ m ≤ lb ∧ m ≤ cb := by omega
  have k1 := fun wx (hb : Below w.heap.size w wx) => few_any A1 l1 c1 ss1 wx ((R1.below hb).more hb.size) S1 L1
  have k2 := fun wx (hb : Below w.heap.size w wx) => few_any A2 l2 c2 ss2 wx ((R2.below hb).more hb.size) S2 L2
  have f1 := few_size ss1
  have f2 := Lib.hid (few_size ss2)
  have g1 := few_len ss1
  have g2 := few_len ss2
  have K1 := Lib.hid k1
  have K2 := Lib.hid k2
  have HRb := Lib.hid Rb
  have Hzb := Lib.hid hzb
  have hs1 : (0 : Int) ≤ (m : Int) := by omega
  have hs2 : (m : Int) ≤ (cb : Int) := by omega
  clear k1 k2 R1 S1 R2 S2 Rb hzb hm
  generalize few ss1 = t1 at *
  generalize few ss2 = t2 at *
  go_enter Try.func10, Try.ntmps10
  go_wp2_with fail
  refine wp_region_grow (specOf [(1, ⟨Option Addr × Nat, fun x => .slice x.1 t1.length x.2, fun x w' => Reads w' w'.heap.size 1 x.1 t1.length (t1.map Value.string)⟩), (3, ⟨Option Addr × Nat, fun x => .slice x.1 t2.length x.2, fun x w' => Reads w' w'.heap.size 1 x.1 t2.length (t2.map Value.string)⟩)]) (fun wx => Below (World.heap w).size w wx) (fun w1 w2 => Below w1.heap.size w1 w2) (by kernel_rfl) (by kernel_rfl) (stab_cons (fun x w1 w2 hg h => reads_grow hg h) (stab_cons (fun x w1 w2 hg h => reads_grow hg h) (stab_nil))) (Below.refl _ _).drew ?_
  refine grow_fix 1 ?_ rfl (by rfl) (by rfl) (fun wx hC hD => ?_) ?_
  rotate_left
  · go_simp
    all_goals with_reducible rfl
  try simp only [Act.put, List.setIfInBounds_toArray, List.set_cons_zero, List.set_cons_succ]
  refine grow_give 2 _ rfl (by rfl) (by rfl) (fun wx hC hD => ?_) (fun x => ?_)
  · refine give_enter (f := ?_) (args := ?_) ?_ ?_
    rotate_left 2
    · go_simp
      all_goals first | with_reducible rfl | (refine ⟨?_, ?_⟩ <;> with_reducible rfl)
    refine (K1.out wx hC).mono ?_
    rintro e w1 ⟨v1, rfl, hown1, hb1⟩
    obtain ⟨B1, d1, rfl, hQ1⟩ := own_shape hown1
    exact ⟨_, rfl, hb1, hC.trans (hb1.mono hC.size), (B1, d1), rfl, hQ1⟩
  obtain ⟨X1, d1⟩ := x
  try simp only [Act.put, List.setIfInBounds_toArray, List.set_cons_zero, List.set_cons_succ]
  refine grow_fix 3 ?_ rfl (by rfl) (by rfl) (fun wx hC hD => ?_) ?_
  rotate_left
  · go_simp
    all_goals with_reducible rfl
  try simp only [Act.put, List.setIfInBounds_toArray, List.set_cons_zero, List.set_cons_succ]
  refine grow_give 4 _ rfl (by rfl) (by rfl) (fun wx hC hD => ?_) (fun x => ?_)
  · refine give_enter (f := ?_) (args := ?_) ?_ ?_
    rotate_left 2
    · go_simp
      all_goals first | with_reducible rfl | (refine ⟨?_, ?_⟩ <;> with_reducible rfl)
    refine (K2.out wx hC).mono ?_
    rintro e w1 ⟨v1, rfl, hown1, hb1⟩
    obtain ⟨B1, d1, rfl, hQ1⟩ := own_shape hown1
    exact ⟨_, rfl, hb1, hC.trans (hb1.mono hC.size), (B1, d1), rfl, hQ1⟩
  obtain ⟨X2, d2⟩ := x
  try simp only [Act.put, List.setIfInBounds_toArray, List.set_cons_zero, List.set_cons_succ]
  refine grow_fix 5 ?_ rfl (by rfl) (by rfl) (fun wx hC hD => ?_) ?_
  rotate_left
  · go_simp
    all_goals with_reducible rfl
  try simp only [Act.put, List.setIfInBounds_toArray, List.set_cons_zero, List.set_cons_succ]
  refine grow_fix 6 ?_ rfl (by rfl) (by rfl) (fun wx hC hD => ?_) ?_
  rotate_left
  · go_simp
    all_goals with_reducible rfl
  try simp only [Act.put, List.setIfInBounds_toArray, List.set_cons_zero, List.set_cons_succ]
  refine grow_fix 7 ?_ rfl (by rfl) (by rfl) (fun wx hC hD => ?_) ?_
  rotate_left
  · go_simp
    all_goals with_reducible rfl
  try simp only [Act.put, List.setIfInBounds_toArray, List.set_cons_zero, List.set_cons_succ]
  refine grow_fix 8 ?_ rfl (by rfl) (by rfl) (fun wx hC hD => ?_) ?_
  rotate_left
  · go_simp
    all_goals with_reducible rfl
  try simp only [Act.put, List.setIfInBounds_toArray, List.set_cons_zero, List.set_cons_succ]
  refine grow_fix 9 ?_ rfl (by rfl) (by rfl) (fun wx hC hD => ?_) ?_
  rotate_left
  · go_simp
    all_goals with_reducible rfl
  try simp only [Act.put, List.setIfInBounds_toArray, List.set_cons_zero, List.set_cons_succ]
  refine grow_fix 10 ?_ rfl (by rfl) (by rfl) (fun wx hC hD => ?_) ?_
  rotate_left
  · go_simp
    all_goals with_reducible rfl
  try simp only [Act.put, List.setIfInBounds_toArray, List.set_cons_zero, List.set_cons_succ]
  refine grow_fix 11 ?_ rfl (by rfl) (by rfl) (fun wx hC hD => ?_) ?_
  rotate_left
  · go_simp
    all_goals with_reducible rfl
  try simp only [Act.put, List.setIfInBounds_toArray, List.set_cons_zero, List.set_cons_succ]
  refine grow_fix 12 ?_ rfl (by rfl) (by rfl) (fun wx hC hD => ?_) ?_
  rotate_left
  · go_simp
    all_goals with_reducible rfl
  try simp only [Act.put, List.setIfInBounds_toArray, List.set_cons_zero, List.set_cons_succ]
  refine grow_nil (fun w1 hC hF => ?_)
  have hQ1 := upd_hit (upd_miss (hF 1) (by decide)) (by decide)
  have hQ2 := upd_hit (hF 3) (by decide)
  have hb1 : Below w.heap.size w w1 := hC
  clear hF hC
  have c1 := of_any X1 t1.length d1 t1 w1 hQ1 f1 (by omega)
  have c2 := fun wx (hb : Below w1.heap.size w1 wx) => of_ref X1 t1.length d1 t1 wx ((hQ1.below hb).more hb.size) f1 (by omega)
  have C2 := Lib.hid c2
  have hbl := addT_len t1 (zs (nby t1.length), 0)
  have hbd := nby_bd t1.length
  rw [← zs_len (nby t1.length)] at hbd
  have hbb : 8 ≤ (addT (zs (nby t1.length), 0) t1).1.length ∧ (addT (zs (nby t1.length), 0) t1).1.length ≤ 131072 := by rw [hbl]; exact hbd
  have HQ2 := Lib.hid hQ2
  have Hb1 := Lib.hid hb1
  have z1 := hb1.size
  clear c2 hbl hbd hQ1 hQ2 hb1 f1 K1 K2
  generalize (addT (zs (nby t1.length), 0) t1).1 = bs at *
  go_wp2_with fail
  refine c1.mono ?_
  rintro e w2 ⟨g, hh, rfl, hF2, hb2⟩
  have HF2 := Lib.hid hF2
  have Hb2 := Lib.hid hb2
  have z2 := hb2.size
  clear hF2 hb2 c1
  go_wp2_with fail
  refine (C2.out w2 Hb2.out).mono ?_
  rintro e w3 ⟨gr, qr, rfl, ho3, hb3⟩
  have hF3 := HF2.out.keep hb3
  have z3 := hb3.size
  have Hb3 := Lib.hid ((Hb1.out.trans (Hb2.out.mono z1)).trans (hb3.mono (Nat.le_trans z1 z2)))
  have hQ3 := (HQ2.out.below Hb2.out).below (hb3.mono z2)
  have hRb3 := HRb.out.below Hb3.out
  have ho4 := ho3.kept (w' := w3.alloc (.cells #[.slice (some ⟨gr, 0, none⟩) bs.length qr] 34)) ((Below.refl _ _).alloc (Nat.le_refl _) _)
  have hF4 := hF3.keep (w' := w3.alloc (.cells #[.slice (some ⟨gr, 0, none⟩) bs.length qr] 34)) ((Below.refl _ _).alloc (Nat.le_refl _) _)
  have hx4 := Blk.new w3 34 #[.slice (some ⟨gr, 0, none⟩) bs.length qr]
  have hQ4 := hQ3.below (w' := w3.alloc (.cells #[.slice (some ⟨gr, 0, none⟩) bs.length qr] 34)) ((Below.refl _ _).alloc (Nat.le_trans z2 z3) _)
  have hRb4 := hRb3.below (w' := w3.alloc (.cells #[.slice (some ⟨gr, 0, none⟩) bs.length qr] 34)) ((Below.refl _ _).alloc (Nat.le_trans z1 (Nat.le_trans z2 z3)) _)
  have hb4 : Below w.heap.size w (w3.alloc (.cells #[.slice (some ⟨gr, 0, none⟩) bs.length qr] 34)) := Hb3.out.alloc Hb3.out.size _
  have hQ4' : Reads (w3.alloc (.cells #[.slice (some ⟨gr, 0, none⟩) bs.length qr] 34)) (w3.alloc (.cells #[.slice (some ⟨gr, 0, none⟩) bs.length qr] 34)).heap.size 1 X2 t2.length (t2.map Value.string) := hQ4.more (by simp; omega)
  have hRb4' : RD (w3.alloc (.cells #[.slice (some ⟨gr, 0, none⟩) bs.length qr] 34)) (w3.alloc (.cells #[.slice (some ⟨gr, 0, none⟩) bs.length qr] 34)).heap.size Ab zb := ⟨hRb4.1.more (by simp; omega), hRb4.2⟩
  have HW : Hid (OfAt (w3.alloc (.cells #[.slice (some ⟨gr, 0, none⟩) bs.length qr] 34)) g hh gr qr w3.heap.size bs X2 t2 Ab zb) := Lib.hid ⟨hF4, ho4.rd, hx4, hQ4', hRb4'⟩
  have Hb4 := Lib.hid hb4
  clear hF3 hQ3 hRb3 ho4 hF4 hx4 hQ4 hRb4 hb4 hQ4' hRb4' ho3 hb3 Hb3 HF2 Hb2 C2 HQ2 Hb1 HRb z1 z2 z3
  go_wp2_with fail
  have hcells := fun wx (hC : Below (w3.alloc (.cells #[.slice (some ⟨gr, 0, none⟩) bs.length qr] 34)).heap.size (w3.alloc (.cells #[.slice (some ⟨gr, 0, none⟩) bs.length qr] 34)) wx) => (HW.out.below hC).cells (by omega)
  have cB := fun wx (hC : Below (w3.alloc (.cells #[.slice (some ⟨gr, 0, none⟩) bs.length qr] 34)).heap.size (w3.alloc (.cells #[.slice (some ⟨gr, 0, none⟩) bs.length qr] 34)) wx) => bytes_any g hh bs wx (HW.out.below hC).f
  have hcells' := Lib.hid hcells
  have CB := Lib.hid cB
  clear hcells cB
  refine wp_region_grow (specOf [(4, ⟨Nat × Nat, fun x => .slice (some ⟨x.1, 0, none⟩) bs.length x.2, fun x w' => RD w' w'.heap.size (some ⟨x.1, 0, none⟩) bs⟩), (12, ⟨Unit, fun _ => (.bool true), fun _ _ => True⟩)]) (fun wx => Below (World.heap (w3.alloc (.cells #[.slice (some ⟨gr, 0, none⟩) bs.length qr] 34))).size (w3.alloc (.cells #[.slice (some ⟨gr, 0, none⟩) bs.length qr] 34)) wx) (fun w1 w2 => Below w1.heap.size w1 w2) (by kernel_rfl) (by kernel_rfl) (stab_cons (fun x w1 w2 hg h => rd_grow hg h) (stab_cons (fun _ _ _ _ h => h) (stab_nil))) (Below.refl _ _).drew ?_
  refine grow_fix 1 ?_ rfl (by rfl) (by rfl) (fun wx hC hD => ?_) ?_
  rotate_left
  · have hSw := hcells'.out wx hC
    go_simp
    all_goals with_reducible rfl
  try simp only [Act.put, List.setIfInBounds_toArray, List.set_cons_zero, List.set_cons_succ]
  refine grow_fix 2 ?_ rfl (by rfl) (by rfl) (fun wx hC hD => ?_) ?_
  rotate_left
  · have hSw := hcells'.out wx hC
    go_simp
    all_goals with_reducible rfl
  try simp only [Act.put, List.setIfInBounds_toArray, List.set_cons_zero, List.set_cons_succ]
  refine grow_fix 3 ?_ rfl (by rfl) (by rfl) (fun wx hC hD => ?_) ?_
  rotate_left
  · have hSw := hcells'.out wx hC
    go_simp
    all_goals with_reducible rfl
  try simp only [Act.put, List.setIfInBounds_toArray, List.set_cons_zero, List.set_cons_succ]
  refine grow_fix 4 ?_ rfl (by rfl) (by rfl) (fun wx hC hD => ?_) ?_
  rotate_left
  · have hSw := hcells'.out wx hC
    go_simp
    all_goals with_reducible rfl
  try simp only [Act.put, List.setIfInBounds_toArray, List.set_cons_zero, List.set_cons_succ]
  refine grow_give 5 _ rfl (by rfl) (by rfl) (fun wx hC hD => ?_) (fun x => ?_)
  · refine give_enter (f := ?_) (args := ?_) ?_ ?_
    rotate_left 2
    · have hSw := hcells'.out wx hC
      go_simp
      all_goals first | with_reducible rfl | (refine ⟨?_, ?_⟩ <;> with_reducible rfl)
    refine (CB.out wx hC).mono ?_
    rintro e w5 ⟨g5, q5, rfl, ho5, hb5⟩
    exact ⟨_, rfl, hb5, hC.trans (hb5.mono hC.size), (g5, q5), rfl, ho5.rd⟩
  obtain ⟨g5, q5⟩ := x
  try simp only [Act.put, List.setIfInBounds_toArray, List.set_cons_zero, List.set_cons_succ]
  refine grow_fix 6 ?_ rfl (by rfl) (by rfl) (fun wx hC hD => ?_) ?_
  rotate_left
  · have hcv := conv_rd (some ⟨g5, 0, none⟩) q5 bs wx wx.heap.size (upd_hit (deps_get hD 4 (by kernel_rfl)) (by decide)) (by omega)
    have hSw := hcells'.out wx hC
    go_simp
    all_goals with_reducible rfl
  try simp only [Act.put, List.setIfInBounds_toArray, List.set_cons_zero, List.set_cons_succ]
  refine grow_fix 7 ?_ rfl (by rfl) (by rfl) (fun wx hC hD => ?_) ?_
  rotate_left
  · have hSw := hcells'.out wx hC
    go_simp
    all_goals with_reducible rfl
  try simp only [Act.put, List.setIfInBounds_toArray, List.set_cons_zero, List.set_cons_succ]
  refine grow_fix 8 ?_ rfl (by rfl) (by rfl) (fun wx hC hD => ?_) ?_
  rotate_left
  · have hSw := hcells'.out wx hC
    go_simp
    all_goals with_reducible rfl
  try simp only [Act.put, List.setIfInBounds_toArray, List.set_cons_zero, List.set_cons_succ]
  refine grow_fix 9 ?_ rfl (by rfl) (by rfl) (fun wx hC hD => ?_) ?_
  rotate_left
  · have hSw := hcells'.out wx hC
    go_simp
    all_goals with_reducible rfl
  try simp only [Act.put, List.setIfInBounds_toArray, List.set_cons_zero, List.set_cons_succ]
  refine grow_fix 10 ?_ rfl (by rfl) (by rfl) (fun wx hC hD => ?_) ?_
  rotate_left
  · have hSw := hcells'.out wx hC
    go_simp
    all_goals with_reducible rfl
  try simp only [Act.put, List.setIfInBounds_toArray, List.set_cons_zero, List.set_cons_succ]
  refine grow_fix 11 ?_ rfl (by rfl) (by rfl) (fun wx hC hD => ?_) ?_
  rotate_left
  · have hSw := hcells'.out wx hC
    go_simp
    all_goals with_reducible rfl
  try simp only [Act.put, List.setIfInBounds_toArray, List.set_cons_zero, List.set_cons_succ]
  refine grow_fix 12 ?_ rfl (by rfl) (by rfl) (fun wx hC hD => ?_) ?_
  rotate_left
  · have hSw := hcells'.out wx hC
    go_simp
    all_goals with_reducible rfl
  try simp only [Act.put, List.setIfInBounds_toArray, List.set_cons_zero, List.set_cons_succ]
  refine grow_give 13 _ rfl (by rfl) (by rfl) (fun wx hC hD => ?_) (fun x => ?_)
  · refine give_enter (f := ?_) (args := ?_) ?_ ?_
    rotate_left 2
    · have hSw := hcells'.out wx hC
      go_simp
      all_goals first | with_reducible rfl | (refine ⟨?_, ?_⟩ <;> with_reducible rfl)
    exact calls_cst hC (awake_any wx)
  obtain ⟨⟩ := x
  try simp only [Act.put, List.setIfInBounds_toArray, List.set_cons_zero, List.set_cons_succ]
  refine grow_fix 14 ?_ rfl (by rfl) (by rfl) (fun wx hC hD => ?_) ?_
  rotate_left
  · have hSw := hcells'.out wx hC
    go_simp
    all_goals with_reducible rfl
  try simp only [Act.put, List.setIfInBounds_toArray, List.set_cons_zero, List.set_cons_succ]
  refine grow_fix 15 ?_ rfl (by rfl) (by rfl) (fun wx hC hD => ?_) ?_
  rotate_left
  · have hSw := hcells'.out wx hC
    go_simp
    all_goals with_reducible rfl
  try simp only [Act.put, List.setIfInBounds_toArray, List.set_cons_zero, List.set_cons_succ]
  refine grow_nil (fun w4 hC hF => ?_)
  have HW4 := Lib.hid (HW.out.below hC)
  have Hb4' := Lib.hid (Hb4.out.trans (hC.mono Hb4.out.size))
  clear hF hC HW Hb4 hcells' CB
  have c5 := read_bad Ab m cb w4 h8
  have c6 := fun wx => readr_bad Ab m cb wx h8
  have C6 := Lib.hid c6
  clear c6
  go_wp2_with fail
  refine c5.mono ?_
  rintro e w5 ⟨rfl, rfl⟩
  go_wp2_with fail
  refine (C6.out w4).mono ?_
  rintro e w6 ⟨rfl, hb6⟩
  have hb46 := hb6
  have hb47 := hb46.alloc hb46.size (.cells #[.slice none 0 0] 34)
  have HW6 := Lib.hid (HW4.out.below hb47)
  have Hb6 := Lib.hid (Hb4'.out.trans (hb47.mono Hb4'.out.size))
  clear hb46 hb47 hb6 HW4 Hb4' C6
  have cB := bytes_any g hh bs (w6.alloc (.cells #[.slice none 0 0] 34)) HW6.out.f
  go_wp2_with fail
  refine cB.mono ?_
  rintro e w7 ⟨g7, q7, rfl, ho7, hb7⟩
  have c8 := read_ok (some ⟨g7, 0, none⟩) q7 bs w7 ho7.rd hbb.1 hbb.2
  have HW7 := Lib.hid (HW6.out.below hb7)
  have Hb7 := Lib.hid (Hb6.out.trans (hb7.mono Hb6.out.size))
  clear hb7 ho7 HW6 Hb6 cB
  go_wp2_with fail
  refine c8.mono ?_
  rintro e w8 ⟨gx, hx, rfl, hF8, hb8⟩
  have HW8 := Lib.hid (HW7.out.below hb8)
  have Hb8 := Lib.hid (Hb7.out.trans (hb8.mono Hb7.out.size))
  have HF8 := Lib.hid hF8
  clear hb8 HW7 Hb7 c8 hF8
  have cB := fun wx (hC : Below w8.heap.size w8 wx) => bytes_any g hh bs wx (HW8.out.below hC).f
  have CB := Lib.hid cB
  have cX := fun wx (hC : Below w8.heap.size w8 wx) => bytes_any gx hx bs wx (HF8.out.keep hC)
  have CX := Lib.hid cX
  clear cB cX
  go_wp2_with fail
  refine wp_region_grow (specOf [(8, ⟨Nat × Nat, fun x => .slice (some ⟨x.1, 0, none⟩) bs.length x.2, fun x w' => RD w' w'.heap.size (some ⟨x.1, 0, none⟩) bs⟩), (11, ⟨Nat × Nat, fun x => .slice (some ⟨x.1, 0, none⟩) bs.length x.2, fun x w' => RD w' w'.heap.size (some ⟨x.1, 0, none⟩) bs⟩)]) (fun wx => Below (World.heap w8).size w8 wx) (fun w1 w2 => Below w1.heap.size w1 w2) (by kernel_rfl) (by kernel_rfl) (stab_cons (fun x w1 w2 hg h => rd_grow hg h) (stab_cons (fun x w1 w2 hg h => rd_grow hg h) (stab_nil))) (Below.refl _ _).drew ?_
  refine grow_fix 1 ?_ rfl (by rfl) (by rfl) (fun wx hC hD => ?_) ?_
  rotate_left
  · go_simp
    all_goals with_reducible rfl
  try simp only [Act.put, List.setIfInBounds_toArray, List.set_cons_zero, List.set_cons_succ]
  refine grow_fix 2 ?_ rfl (by rfl) (by rfl) (fun wx hC hD => ?_) ?_
  rotate_left
  · go_simp
    all_goals with_reducible rfl
  try simp only [Act.put, List.setIfInBounds_toArray, List.set_cons_zero, List.set_cons_succ]
  refine grow_fix 3 ?_ rfl (by rfl) (by rfl) (fun wx hC hD => ?_) ?_
  rotate_left
  · go_simp
    all_goals with_reducible rfl
  try simp only [Act.put, List.setIfInBounds_toArray, List.set_cons_zero, List.set_cons_succ]
  refine grow_fix 4 ?_ rfl (by rfl) (by rfl) (fun wx hC hD => ?_) ?_
  rotate_left
  · go_simp
    all_goals with_reducible rfl
  try simp only [Act.put, List.setIfInBounds_toArray, List.set_cons_zero, List.set_cons_succ]
  refine grow_fix 5 ?_ rfl (by rfl) (by rfl) (fun wx hC hD => ?_) ?_
  rotate_left
  · go_simp
    all_goals with_reducible rfl
  try simp only [Act.put, List.setIfInBounds_toArray, List.set_cons_zero, List.set_cons_succ]
  refine grow_fix 6 ?_ rfl (by rfl) (by rfl) (fun wx hC hD => ?_) ?_
  rotate_left
  · go_simp
    all_goals with_reducible rfl
  try simp only [Act.put, List.setIfInBounds_toArray, List.set_cons_zero, List.set_cons_succ]
  refine grow_fix 7 ?_ rfl (by rfl) (by rfl) (fun wx hC hD => ?_) ?_
  rotate_left
  · go_simp
    all_goals with_reducible rfl
  try simp only [Act.put, List.setIfInBounds_toArray, List.set_cons_zero, List.set_cons_succ]
  refine grow_fix 8 ?_ rfl (by rfl) (by rfl) (fun wx hC hD => ?_) ?_
  rotate_left
  · go_simp
    all_goals with_reducible rfl
  try simp only [Act.put, List.setIfInBounds_toArray, List.set_cons_zero, List.set_cons_succ]
  refine grow_give 9 _ rfl (by rfl) (by rfl) (fun wx hC hD => ?_) (fun x => ?_)
  · refine give_enter (f := ?_) (args := ?_) ?_ ?_
    rotate_left 2
    · go_simp
      all_goals first | with_reducible rfl | (refine ⟨?_, ?_⟩ <;> with_reducible rfl)
    refine (CX.out wx hC).mono ?_
    rintro e w5 ⟨g5, q5, rfl, ho5, hb5⟩
    exact ⟨_, rfl, hb5, hC.trans (hb5.mono hC.size), (g5, q5), rfl, ho5.rd⟩
  obtain ⟨g5', q5'⟩ := x
  try simp only [Act.put, List.setIfInBounds_toArray, List.set_cons_zero, List.set_cons_succ]
  refine grow_fix 10 ?_ rfl (by rfl) (by rfl) (fun wx hC hD => ?_) ?_
  rotate_left
  · have hcv := conv_rd (some ⟨g5', 0, none⟩) q5' bs wx wx.heap.size (upd_hit (deps_get hD 8 (by kernel_rfl)) (by decide)) (by omega)
    go_simp
    all_goals with_reducible rfl
  try simp only [Act.put, List.setIfInBounds_toArray, List.set_cons_zero, List.set_cons_succ]
  refine grow_fix 11 ?_ rfl (by rfl) (by rfl) (fun wx hC hD => ?_) ?_
  rotate_left
  · go_simp
    all_goals with_reducible rfl
  try simp only [Act.put, List.setIfInBounds_toArray, List.set_cons_zero, List.set_cons_succ]
  refine grow_give 12 _ rfl (by rfl) (by rfl) (fun wx hC hD => ?_) (fun x => ?_)
  · refine give_enter (f := ?_) (args := ?_) ?_ ?_
    rotate_left 2
    · go_simp
      all_goals first | with_reducible rfl | (refine ⟨?_, ?_⟩ <;> with_reducible rfl)
    refine (CB.out wx hC).mono ?_
    rintro e w5 ⟨g5, q5, rfl, ho5, hb5⟩
    exact ⟨_, rfl, hb5, hC.trans (hb5.mono hC.size), (g5, q5), rfl, ho5.rd⟩
  obtain ⟨g6', q6'⟩ := x
  try simp only [Act.put, List.setIfInBounds_toArray, List.set_cons_zero, List.set_cons_succ]
  refine grow_fix 13 ?_ rfl (by rfl) (by rfl) (fun wx hC hD => ?_) ?_
  rotate_left
  · have hcv := conv_rd (some ⟨g6', 0, none⟩) q6' bs wx wx.heap.size (upd_hit (deps_get hD 11 (by kernel_rfl)) (by decide)) (by omega)
    go_simp
    all_goals with_reducible rfl
  try simp only [Act.put, List.setIfInBounds_toArray, List.set_cons_zero, List.set_cons_succ]
  refine grow_fix 14 ?_ rfl (by rfl) (by rfl) (fun wx hC hD => ?_) ?_
  rotate_left
  · go_simp
    all_goals with_reducible rfl
  try simp only [Act.put, List.setIfInBounds_toArray, List.set_cons_zero, List.set_cons_succ]
  refine grow_fix 15 ?_ rfl (by rfl) (by rfl) (fun wx hC hD => ?_) ?_
  rotate_left
  · go_simp
    all_goals with_reducible rfl
  try simp only [Act.put, List.setIfInBounds_toArray, List.set_cons_zero, List.set_cons_succ]
  refine grow_nil (fun w9 hC hF => ?_)
  have HW9 := Lib.hid (HW8.out.below hC)
  have Hb9 := Lib.hid (Hb8.out.trans (hC.mono Hb8.out.size))
  have HF9 := Lib.hid (HF8.out.keep hC)
  clear hF hC HW8 Hb8 CB CX HF8
  go_wp2_with fail
  go_loopw [15] (fun i wr => ∃ k : Nat, k ≤ t2.length ∧ i = .int .i64 k ∧ Below w9.heap.size w9 wr) (fun i _ => t2.length - (intOf i).toNat)
  case atStart => exact ⟨0, Nat.zero_le _, rfl, Below.refl _ _⟩
  case round =>
    obtain ⟨k, hk, rfl, hbq⟩ := hrel
    have HWr := Lib.hid (HW9.out.below hbq)
    have HFr := Lib.hid (HF9.out.keep hbq)
    have Hbr := Lib.hid (Hb9.out.trans (hbq.mono Hb9.out.size))
    have Hbq := Lib.hid hbq
    clear hbq
    by_cases hlt : k < t2.length
    · obtain ⟨ab, ao, hkl, e2, hab, hcw⟩ := HWr.out.ask.at_map hlt
      subst e2
      have hsk : t2[k].size ≤ 140737488351232 := f2.out _ (List.getElem_mem hkl)
      have hi0 : (0 : Int) ≤ (k : Int) := by omega
      have hi1 : (k : Int) < (t2.length : Int) := by omega
      generalize t2[k] = s at *
      have hcells := fun wx (hC : Below wr.heap.size wr wx) => And.intro ((HWr.out.below hC).box.cell 0) (And.intro ((hC.cell (p := ⟨ab, ao + k, none⟩) hab).trans hcw) trivial)
      simp at hcells
      have hcells' := Lib.hid hcells
      have c1 := fun wx (hC : Below wr.heap.size wr wx) => may_yes gx hx bs s wx (HFr.out.keep hC) hsk
      have c2 := fun wx (hC : Below wr.heap.size wr wx) => may_ref (some ⟨gr, 0, none⟩) qr bs s wx (HWr.out.below hC).r (by omega) (by omega) hsk
      have C1 := Lib.hid c1
      have C2 := Lib.hid c2
      clear c1 c2 hcells hcw
      generalize may bs s.data.toList = p at *
      go_wp2_with fail
      refine wp_region_grow (specOf [(5, ⟨Unit, fun _ => (.bool p), fun _ _ => True⟩), (11, ⟨Unit, fun _ => (.bool p), fun _ _ => True⟩)]) (fun wx => Below (World.heap wr).size wr wx) (fun w1 w2 => Below w1.heap.size w1 w2) (by kernel_rfl) (by kernel_rfl) (stab_cons (fun _ _ _ _ h => h) (stab_cons (fun _ _ _ _ h => h) (stab_nil))) (Below.refl _ _).drew ?_
      refine grow_fix 1 ?_ rfl (by rfl) (by rfl) (fun wx hC hD => ?_) ?_
      rotate_left
      · have hSw := hcells'.out wx hC
        go_simp
        all_goals with_reducible rfl
      try simp only [Act.put, List.setIfInBounds_toArray, List.set_cons_zero, List.set_cons_succ]
      refine grow_fix 2 ?_ rfl (by rfl) (by rfl) (fun wx hC hD => ?_) ?_
      rotate_left
      · have hSw := hcells'.out wx hC
        go_simp
        all_goals with_reducible rfl
      try simp only [Act.put, List.setIfInBounds_toArray, List.set_cons_zero, List.set_cons_succ]
      refine grow_fix 3 ?_ rfl (by rfl) (by rfl) (fun wx hC hD => ?_) ?_
      rotate_left
      · have hSw := hcells'.out wx hC
        go_simp
        all_goals with_reducible rfl
      try simp only [Act.put, List.setIfInBounds_toArray, List.set_cons_zero, List.set_cons_succ]
      refine grow_fix 4 ?_ rfl (by rfl) (by rfl) (fun wx hC hD => ?_) ?_
      rotate_left
      · have hSw := hcells'.out wx hC
        go_simp
        all_goals with_reducible rfl
      try simp only [Act.put, List.setIfInBounds_toArray, List.set_cons_zero, List.set_cons_succ]
      refine grow_fix 5 ?_ rfl (by rfl) (by rfl) (fun wx hC hD => ?_) ?_
      rotate_left
      · have hSw := hcells'.out wx hC
        go_simp
        all_goals with_reducible rfl
      try simp only [Act.put, List.setIfInBounds_toArray, List.set_cons_zero, List.set_cons_succ]
      refine grow_give 6 _ rfl (by rfl) (by rfl) (fun wx hC hD => ?_) (fun x => ?_)
      · refine give_enter (f := ?_) (args := ?_) ?_ ?_
        rotate_left 2
        · have hSw := hcells'.out wx hC
          go_simp
          all_goals first | with_reducible rfl | (refine ⟨?_, ?_⟩ <;> with_reducible rfl)
        exact calls_cst hC (C1.out wx hC)
      obtain ⟨⟩ := x
      try simp only [Act.put, List.setIfInBounds_toArray, List.set_cons_zero, List.set_cons_succ]
      refine grow_fix 7 ?_ rfl (by rfl) (by rfl) (fun wx hC hD => ?_) ?_
      rotate_left
      · have hSw := hcells'.out wx hC
        go_simp
        all_goals with_reducible rfl
      try simp only [Act.put, List.setIfInBounds_toArray, List.set_cons_zero, List.set_cons_succ]
      refine grow_fix 8 ?_ rfl (by rfl) (by rfl) (fun wx hC hD => ?_) ?_
      rotate_left
      · have hSw := hcells'.out wx hC
        go_simp
        all_goals with_reducible rfl
      try simp only [Act.put, List.setIfInBounds_toArray, List.set_cons_zero, List.set_cons_succ]
      refine grow_fix 9 ?_ rfl (by rfl) (by rfl) (fun wx hC hD => ?_) ?_
      rotate_left
      · have hSw := hcells'.out wx hC
        go_simp
        all_goals with_reducible rfl
      try simp only [Act.put, List.setIfInBounds_toArray, List.set_cons_zero, List.set_cons_succ]
      refine grow_fix 10 ?_ rfl (by rfl) (by rfl) (fun wx hC hD => ?_) ?_
      rotate_left
      · have hSw := hcells'.out wx hC
        go_simp
        all_goals with_reducible rfl
      try simp only [Act.put, List.setIfInBounds_toArray, List.set_cons_zero, List.set_cons_succ]
      refine grow_fix 11 ?_ rfl (by rfl) (by rfl) (fun wx hC hD => ?_) ?_
      rotate_left
      · have hSw := hcells'.out wx hC
        go_simp
        all_goals with_reducible rfl
      try simp only [Act.put, List.setIfInBounds_toArray, List.set_cons_zero, List.set_cons_succ]
      refine grow_give 12 _ rfl (by rfl) (by rfl) (fun wx hC hD => ?_) (fun x => ?_)
      · refine give_enter (f := ?_) (args := ?_) ?_ ?_
        rotate_left 2
        · have hSw := hcells'.out wx hC
          go_simp
          all_goals first | with_reducible rfl | (refine ⟨?_, ?_⟩ <;> with_reducible rfl)
        exact calls_cst hC (C2.out wx hC)
      obtain ⟨⟩ := x
      try simp only [Act.put, List.setIfInBounds_toArray, List.set_cons_zero, List.set_cons_succ]
      refine grow_fix 13 ?_ rfl (by rfl) (by rfl) (fun wx hC hD => ?_) ?_
      rotate_left
      · have hSw := hcells'.out wx hC
        go_simp
        all_goals with_reducible rfl
      try simp only [Act.put, List.setIfInBounds_toArray, List.set_cons_zero, List.set_cons_succ]
      refine grow_fix 14 ?_ rfl (by rfl) (by rfl) (fun wx hC hD => ?_) ?_
      rotate_left
      · have hSw := hcells'.out wx hC
        go_simp
        all_goals with_reducible rfl
      try simp only [Act.put, List.setIfInBounds_toArray, List.set_cons_zero, List.set_cons_succ]
      refine grow_fix 15 ?_ rfl (by rfl) (by rfl) (fun wx hC hD => ?_) ?_
      rotate_left
      · have hSw := hcells'.out wx hC
        go_simp
        all_goals with_reducible rfl
      try simp only [Act.put, List.setIfInBounds_toArray, List.set_cons_zero, List.set_cons_succ]
      refine grow_fix 16 ?_ rfl (by rfl) (by rfl) (fun wx hC hD => ?_) ?_
      rotate_left
      · have hSw := hcells'.out wx hC
        go_simp
        all_goals with_reducible rfl
      try simp only [Act.put, List.setIfInBounds_toArray, List.set_cons_zero, List.set_cons_succ]
      refine grow_fix 17 ?_ rfl (by rfl) (by rfl) (fun wx hC hD => ?_) ?_
      rotate_left
      · have hSw := hcells'.out wx hC
        go_simp
        all_goals with_reducible rfl
      try simp only [Act.put, List.setIfInBounds_toArray, List.set_cons_zero, List.set_cons_succ]
      refine grow_skip 18 (some false) true rfl (by rfl) (by rfl) (by rfl) ?_
      try simp only [Act.put, List.setIfInBounds_toArray, List.set_cons_zero, List.set_cons_succ]
      refine grow_skip 19 (some false) true rfl (by rfl) (by rfl) (by rfl) ?_
      try simp only [Act.put, List.setIfInBounds_toArray, List.set_cons_zero, List.set_cons_succ]
      refine grow_skip 20 (some false) true rfl (by rfl) (by rfl) (by rfl) ?_
      try simp only [Act.put, List.setIfInBounds_toArray, List.set_cons_zero, List.set_cons_succ]
      refine grow_skip 21 (some false) true rfl (by rfl) (by rfl) (by rfl) ?_
      try simp only [Act.put, List.setIfInBounds_toArray, List.set_cons_zero, List.set_cons_succ]
      refine grow_skip 22 (some false) true rfl (by rfl) (by rfl) (by rfl) ?_
      try simp only [Act.put, List.setIfInBounds_toArray, List.set_cons_zero, List.set_cons_succ]
      refine grow_skip 23 (some false) true rfl (by rfl) (by rfl) (by rfl) ?_
      try simp only [Act.put, List.setIfInBounds_toArray, List.set_cons_zero, List.set_cons_succ]
      refine grow_skip 24 (some false) true rfl (by rfl) (by rfl) (by rfl) ?_
      try simp only [Act.put, List.setIfInBounds_toArray, List.set_cons_zero, List.set_cons_succ]
      refine grow_skip 25 (some false) true rfl (by rfl) (by rfl) (by rfl) ?_
      try simp only [Act.put, List.setIfInBounds_toArray, List.set_cons_zero, List.set_cons_succ]
      refine grow_skip 26 (some false) true rfl (by rfl) (by rfl) (by rfl) ?_
      try simp only [Act.put, List.setIfInBounds_toArray, List.set_cons_zero, List.set_cons_succ]
      refine grow_skip 27 (some false) true rfl (by rfl) (by rfl) (by rfl) ?_
      try simp only [Act.put, List.setIfInBounds_toArray, List.set_cons_zero, List.set_cons_succ]
      refine grow_skip 28 (some false) true rfl (by rfl) (by rfl) (by rfl) ?_
      try simp only [Act.put, List.setIfInBounds_toArray, List.set_cons_zero, List.set_cons_succ]
      refine grow_skip 29 (some false) true rfl (by rfl) (by rfl) (by rfl) ?_
      try simp only [Act.put, List.setIfInBounds_toArray, List.set_cons_zero, List.set_cons_succ]
      refine grow_skip 30 (some false) true rfl (by rfl) (by rfl) (by rfl) ?_
      try simp only [Act.put, List.setIfInBounds_toArray, List.set_cons_zero, List.set_cons_succ]
      refine grow_fix 31 ?_ rfl (by rfl) (by rfl) (fun wx hC hD => ?_) ?_
      rotate_left
      · have hSw := hcells'.out wx hC
        go_simp
        all_goals with_reducible rfl
      try simp only [Act.put, List.setIfInBounds_toArray, List.set_cons_zero, List.set_cons_succ]
      refine grow_fix 32 ?_ rfl (by rfl) (by rfl) (fun wx hC hD => ?_) ?_
      rotate_left
      · have hSw := hcells'.out wx hC
        go_simp
        all_goals with_reducible rfl
      try simp only [Act.put, List.setIfInBounds_toArray, List.set_cons_zero, List.set_cons_succ]
      refine grow_nil (fun w10 hC hF => ?_)
      have Hq10 := Lib.hid (Hbq.out.trans (hC.mono Hbq.out.size))
      clear hF hC
      go_wp2
      go_roundw
      case rel => exact ⟨k + 1, by omega, by go_num, Hq10.out⟩
      case measure => simp [intOf]; omega
    · obtain rfl : k = t2.length := by omega
      go_wp2_with fail
      refine wp_region_grow (specOf []) (fun wx => Below (World.heap wr).size wr wx) (fun w1 w2 => Below w1.heap.size w1 w2) (by kernel_rfl) (by kernel_rfl) (stab_nil) (Below.refl _ _).drew ?_
      refine grow_fix 1 ?_ rfl (by rfl) (by rfl) (fun wx hC hD => ?_) ?_
      rotate_left
      · go_simp
        all_goals with_reducible rfl
      try simp only [Act.put, List.setIfInBounds_toArray, List.set_cons_zero, List.set_cons_succ]
      refine grow_fix 2 ?_ rfl (by rfl) (by rfl) (fun wx hC hD => ?_) ?_
      rotate_left
      · go_simp
        all_goals with_reducible rfl
      try simp only [Act.put, List.setIfInBounds_toArray, List.set_cons_zero, List.set_cons_succ]
      refine grow_fix 3 ?_ rfl (by rfl) (by rfl) (fun wx hC hD => ?_) ?_
      rotate_left
      · go_simp
        all_goals with_reducible rfl
      try simp only [Act.put, List.setIfInBounds_toArray, List.set_cons_zero, List.set_cons_succ]
      refine grow_skip 4 (some true) false rfl (by rfl) (by rfl) (by rfl) ?_
      try simp only [Act.put, List.setIfInBounds_toArray, List.set_cons_zero, List.set_cons_succ]
      refine grow_skip 5 (some true) false rfl (by rfl) (by rfl) (by rfl) ?_
      try simp only [Act.put, List.setIfInBounds_toArray, List.set_cons_zero, List.set_cons_succ]
      refine grow_skip 6 (some true) false rfl (by rfl) (by rfl) (by rfl) ?_
      try simp only [Act.put, List.setIfInBounds_toArray, List.set_cons_zero, List.set_cons_succ]
      refine grow_skip 7 (some true) false rfl (by rfl) (by rfl) (by rfl) ?_
      try simp only [Act.put, List.setIfInBounds_toArray, List.set_cons_zero, List.set_cons_succ]
      refine grow_skip 8 (some true) false rfl (by rfl) (by rfl) (by rfl) ?_
      try simp only [Act.put, List.setIfInBounds_toArray, List.set_cons_zero, List.set_cons_succ]
      refine grow_skip 9 (some true) false rfl (by rfl) (by rfl) (by rfl) ?_
      try simp only [Act.put, List.setIfInBounds_toArray, List.set_cons_zero, List.set_cons_succ]
      refine grow_skip 10 (some true) false rfl (by rfl) (by rfl) (by rfl) ?_
      try simp only [Act.put, List.setIfInBounds_toArray, List.set_cons_zero, List.set_cons_succ]
      refine grow_skip 11 none true rfl (by rfl) (by rfl) (by rfl) ?_
      try simp only [Act.put, List.setIfInBounds_toArray, List.set_cons_zero, List.set_cons_succ]
      refine grow_skip 12 none true rfl (by rfl) (by rfl) (by rfl) ?_
      try simp only [Act.put, List.setIfInBounds_toArray, List.set_cons_zero, List.set_cons_succ]
      refine grow_skip 13 none true rfl (by rfl) (by rfl) (by rfl) ?_
      try simp only [Act.put, List.setIfInBounds_toArray, List.set_cons_zero, List.set_cons_succ]
      refine grow_skip 14 none true rfl (by rfl) (by rfl) (by rfl) ?_
      try simp only [Act.put, List.setIfInBounds_toArray, List.set_cons_zero, List.set_cons_succ]
      refine grow_skip 15 none true rfl (by rfl) (by rfl) (by rfl) ?_
      try simp only [Act.put, List.setIfInBounds_toArray, List.set_cons_zero, List.set_cons_succ]
      refine grow_skip 16 (some true) false rfl (by rfl) (by rfl) (by rfl) ?_
      try simp only [Act.put, List.setIfInBounds_toArray, List.set_cons_zero, List.set_cons_succ]
      refine grow_fix 17 ?_ rfl (by rfl) (by rfl) (fun wx hC hD => ?_) ?_
      rotate_left
      · go_simp
        all_goals with_reducible rfl
      try simp only [Act.put, List.setIfInBounds_toArray, List.set_cons_zero, List.set_cons_succ]
      refine grow_fix 18 ?_ rfl (by rfl) (by rfl) (fun wx hC hD => ?_) ?_
      rotate_left
      · go_simp
        all_goals with_reducible rfl
      try simp only [Act.put, List.setIfInBounds_toArray, List.set_cons_zero, List.set_cons_succ]
      refine grow_nil (fun w10 hC hF => ?_)
      have Fin := Lib.hid (Hbr.out.trans (hC.mono Hbr.out.size))
      clear hF hC
      go_wp2
      go_ret
      exact ⟨rfl, Fin.out⟩
set_option maxHeartbeats 12800000 in
theorem bloomOf_ok (A1 : Option Addr) (l1 c1 : Nat) (ss1 : List ByteArray) (Ab : Option Addr) (lb cb : Nat) (zb : List Nat) (A2 : Option Addr) (l2 c2 : Nat) (ss2 : List ByteArray) (w : World)
    (R1 : Reads w w.heap.size 1 A1 l1 (ss1.map Value.string)) (S1 : ∀ s ∈ ss1, s.size ≤ 140737488351232) (L1 : l1 ≤ 140737488351232)
    (m : Nat) (hm : m = min lb 2000) (hcb : lb ≤ cb) (Rb : RD w w.heap.size Ab zb) (hzb : zb.length = m) (hmin : (if (2000 : Int) < (lb : Int) then (2000 : Int) else (lb : Int)) = (m : Int)) (h8 : 8 ≤ m)
    (R2 : Reads w w.heap.size 1 A2 l2 (ss2.map Value.string)) (S2 : ∀ s ∈ ss2, s.size ≤ 140737488351232) (L2 : l2 ≤ 140737488351232) :
    Calls Try.prog 10 #[.slice A1 l1 c1, .slice Ab lb cb, .slice A2 l2 c2] w fun e w' => e = .returned (.bool true) ∧ Below w.heap.size w w' := by
  have hm2 : m ≤ 2000 ∧ m ≤ lb ∧ m ≤ cb := by omega
  have k1 := fun wx (hb : Below w.heap.size w wx) => few_any A1 l1 c1 ss1 wx ((R1.below hb).more hb.size) S1 L1
  have k2 := fun wx (hb : Below w.heap.size w wx) => few_any A2 l2 c2 ss2 wx ((R2.below hb).more hb.size) S2 L2
  have f1 := few_size ss1
  have f2 := Lib.hid (few_size ss2)
  have g1 := few_len ss1
  have g2 := few_len ss2
  have K1 := Lib.hid k1
  have K2 := Lib.hid k2
  have HRb := Lib.hid Rb
  have Hzb := Lib.hid hzb
  have hs1 : (0 : Int) ≤ (m : Int) := by omega
  have hs2 : (m : Int) ≤ (cb : Int) := by omega
  clear k1 k2 R1 S1 R2 S2 Rb hzb hm
  generalize few ss1 = t1 at *
  generalize few ss2 = t2 at *
  go_enter Try.func10, Try.ntmps10
  go_wp2_with fail
  refine wp_region_grow (specOf [(1, ⟨Option Addr × Nat, fun x => .slice x.1 t1.length x.2, fun x w' => Reads w' w'.heap.size 1 x.1 t1.length (t1.map Value.string)⟩), (3, ⟨Option Addr × Nat, fun x => .slice x.1 t2.length x.2, fun x w' => Reads w' w'.heap.size 1 x.1 t2.length (t2.map Value.string)⟩)]) (fun wx => Below (World.heap w).size w wx) (fun w1 w2 => Below w1.heap.size w1 w2) (by kernel_rfl) (by kernel_rfl) (stab_cons (fun x w1 w2 hg h => reads_grow hg h) (stab_cons (fun x w1 w2 hg h => reads_grow hg h) (stab_nil))) (Below.refl _ _).drew ?_
  refine grow_fix 1 ?_ rfl (by rfl) (by rfl) (fun wx hC hD => ?_) ?_
  rotate_left
  · go_simp
    all_goals with_reducible rfl
  try simp only [Act.put, List.setIfInBounds_toArray, List.set_cons_zero, List.set_cons_succ]
  refine grow_give 2 _ rfl (by rfl) (by rfl) (fun wx hC hD => ?_) (fun x => ?_)
  · refine give_enter (f := ?_) (args := ?_) ?_ ?_
    rotate_left 2
    · go_simp
      all_goals first | with_reducible rfl | (refine ⟨?_, ?_⟩ <;> with_reducible rfl)
    refine (K1.out wx hC).mono ?_
    rintro e w1 ⟨v1, rfl, hown1, hb1⟩
    obtain ⟨B1, d1, rfl, hQ1⟩ := own_shape hown1
    exact ⟨_, rfl, hb1, hC.trans (hb1.mono hC.size), (B1, d1), rfl, hQ1⟩
  obtain ⟨X1, d1⟩ := x
  try simp only [Act.put, List.setIfInBounds_toArray, List.set_cons_zero, List.set_cons_succ]
  refine grow_fix 3 ?_ rfl (by rfl) (by rfl) (fun wx hC hD => ?_) ?_
  rotate_left
  · go_simp
    all_goals with_reducible rfl
  try simp only [Act.put, List.setIfInBounds_toArray, List.set_cons_zero, List.set_cons_succ]
  refine grow_give 4 _ rfl (by rfl) (by rfl) (fun wx hC hD => ?_) (fun x => ?_)
  · refine give_enter (f := ?_) (args := ?_) ?_ ?_
    rotate_left 2
    · go_simp
      all_goals first | with_reducible rfl | (refine ⟨?_, ?_⟩ <;> with_reducible rfl)
    refine (K2.out wx hC).mono ?_
    rintro e w1 ⟨v1, rfl, hown1, hb1⟩
    obtain ⟨B1, d1, rfl, hQ1⟩ := own_shape hown1
    exact ⟨_, rfl, hb1, hC.trans (hb1.mono hC.size), (B1, d1), rfl, hQ1⟩
  obtain ⟨X2, d2⟩ := x
  try simp only [Act.put, List.setIfInBounds_toArray, List.set_cons_zero, List.set_cons_succ]
  refine grow_fix 5 ?_ rfl (by rfl) (by rfl) (fun wx hC hD => ?_) ?_
  rotate_left
  · go_simp
    all_goals with_reducible rfl
  try simp only [Act.put, List.setIfInBounds_toArray, List.set_cons_zero, List.set_cons_succ]
  refine grow_fix 6 ?_ rfl (by rfl) (by rfl) (fun wx hC hD => ?_) ?_
  rotate_left
  · go_simp
    all_goals with_reducible rfl
  try simp only [Act.put, List.setIfInBounds_toArray, List.set_cons_zero, List.set_cons_succ]
  refine grow_fix 7 ?_ rfl (by rfl) (by rfl) (fun wx hC hD => ?_) ?_
  rotate_left
  · go_simp
    all_goals with_reducible rfl
  try simp only [Act.put, List.setIfInBounds_toArray, List.set_cons_zero, List.set_cons_succ]
  refine grow_fix 8 ?_ rfl (by rfl) (by rfl) (fun wx hC hD => ?_) ?_
  rotate_left
  · go_simp
    all_goals with_reducible rfl
  try simp only [Act.put, List.setIfInBounds_toArray, List.set_cons_zero, List.set_cons_succ]
  refine grow_fix 9 ?_ rfl (by rfl) (by rfl) (fun wx hC hD => ?_) ?_
  rotate_left
  · go_simp
    all_goals with_reducible rfl
  try simp only [Act.put, List.setIfInBounds_toArray, List.set_cons_zero, List.set_cons_succ]
  refine grow_fix 10 ?_ rfl (by rfl) (by rfl) (fun wx hC hD => ?_) ?_
  rotate_left
  · go_simp
    all_goals with_reducible rfl
  try simp only [Act.put, List.setIfInBounds_toArray, List.set_cons_zero, List.set_cons_succ]
  refine grow_fix 11 ?_ rfl (by rfl) (by rfl) (fun wx hC hD => ?_) ?_
  rotate_left
  · go_simp
    all_goals with_reducible rfl
  try simp only [Act.put, List.setIfInBounds_toArray, List.set_cons_zero, List.set_cons_succ]
  refine grow_fix 12 ?_ rfl (by rfl) (by rfl) (fun wx hC hD => ?_) ?_
  rotate_left
  · go_simp
    all_goals with_reducible rfl
  try simp only [Act.put, List.setIfInBounds_toArray, List.set_cons_zero, List.set_cons_succ]
  refine grow_nil (fun w1 hC hF => ?_)
  have hQ1 := upd_hit (upd_miss (hF 1) (by decide)) (by decide)
  have hQ2 := upd_hit (hF 3) (by decide)
  have hb1 : Below w.heap.size w w1 := hC
  clear hF hC
  have c1 := of_any X1 t1.length d1 t1 w1 hQ1 f1 (by omega)
  have c2 := fun wx (hb : Below w1.heap.size w1 wx) => of_ref X1 t1.length d1 t1 wx ((hQ1.below hb).more hb.size) f1 (by omega)
  have C2 := Lib.hid c2
  have hbl := addT_len t1 (zs (nby t1.length), 0)
  have hbd := nby_bd t1.length
  rw [← zs_len (nby t1.length)] at hbd
  have hbb : 8 ≤ (addT (zs (nby t1.length), 0) t1).1.length ∧ (addT (zs (nby t1.length), 0) t1).1.length ≤ 131072 := by rw [hbl]; exact hbd
  have HQ2 := Lib.hid hQ2
  have Hb1 := Lib.hid hb1
  have z1 := hb1.size
  clear c2 hbl hbd hQ1 hQ2 hb1 f1 K1 K2
  generalize (addT (zs (nby t1.length), 0) t1).1 = bs at *
  go_wp2_with fail
  refine c1.mono ?_
  rintro e w2 ⟨g, hh, rfl, hF2, hb2⟩
  have HF2 := Lib.hid hF2
  have Hb2 := Lib.hid hb2
  have z2 := hb2.size
  clear hF2 hb2 c1
  go_wp2_with fail
  refine (C2.out w2 Hb2.out).mono ?_
  rintro e w3 ⟨gr, qr, rfl, ho3, hb3⟩
  have hF3 := HF2.out.keep hb3
  have z3 := hb3.size
  have Hb3 := Lib.hid ((Hb1.out.trans (Hb2.out.mono z1)).trans (hb3.mono (Nat.le_trans z1 z2)))
  have hQ3 := (HQ2.out.below Hb2.out).below (hb3.mono z2)
  have hRb3 := HRb.out.below Hb3.out
  have ho4 := ho3.kept (w' := w3.alloc (.cells #[.slice (some ⟨gr, 0, none⟩) bs.length qr] 34)) ((Below.refl _ _).alloc (Nat.le_refl _) _)
  have hF4 := hF3.keep (w' := w3.alloc (.cells #[.slice (some ⟨gr, 0, none⟩) bs.length qr] 34)) ((Below.refl _ _).alloc (Nat.le_refl _) _)
  have hx4 := Blk.new w3 34 #[.slice (some ⟨gr, 0, none⟩) bs.length qr]
  have hQ4 := hQ3.below (w' := w3.alloc (.cells #[.slice (some ⟨gr, 0, none⟩) bs.length qr] 34)) ((Below.refl _ _).alloc (Nat.le_trans z2 z3) _)
  have hRb4 := hRb3.below (w' := w3.alloc (.cells #[.slice (some ⟨gr, 0, none⟩) bs.length qr] 34)) ((Below.refl _ _).alloc (Nat.le_trans z1 (Nat.le_trans z2 z3)) _)
  have hb4 : Below w.heap.size w (w3.alloc (.cells #[.slice (some ⟨gr, 0, none⟩) bs.length qr] 34)) := Hb3.out.alloc Hb3.out.size _
  have hQ4' : Reads (w3.alloc (.cells #[.slice (some ⟨gr, 0, none⟩) bs.length qr] 34)) (w3.alloc (.cells #[.slice (some ⟨gr, 0, none⟩) bs.length qr] 34)).heap.size 1 X2 t2.length (t2.map Value.string) := hQ4.more (by simp; omega)
  have hRb4' : RD (w3.alloc (.cells #[.slice (some ⟨gr, 0, none⟩) bs.length qr] 34)) (w3.alloc (.cells #[.slice (some ⟨gr, 0, none⟩) bs.length qr] 34)).heap.size Ab zb := ⟨hRb4.1.more (by simp; omega), hRb4.2⟩
  have HW : Hid (OfAt (w3.alloc (.cells #[.slice (some ⟨gr, 0, none⟩) bs.length qr] 34)) g hh gr qr w3.heap.size bs X2 t2 Ab zb) := Lib.hid ⟨hF4, ho4.rd, hx4, hQ4', hRb4'⟩
  have Hb4 := Lib.hid hb4
  clear hF3 hQ3 hRb3 ho4 hF4 hx4 hQ4 hRb4 hb4 hQ4' hRb4' ho3 hb3 Hb3 HF2 Hb2 C2 HQ2 Hb1 HRb z1 z2 z3
  go_wp2_with fail
  have hcells := fun wx (hC : Below (w3.alloc (.cells #[.slice (some ⟨gr, 0, none⟩) bs.length qr] 34)).heap.size (w3.alloc (.cells #[.slice (some ⟨gr, 0, none⟩) bs.length qr] 34)) wx) => (HW.out.below hC).cells (by omega)
  have cB := fun wx (hC : Below (w3.alloc (.cells #[.slice (some ⟨gr, 0, none⟩) bs.length qr] 34)).heap.size (w3.alloc (.cells #[.slice (some ⟨gr, 0, none⟩) bs.length qr] 34)) wx) => bytes_any g hh bs wx (HW.out.below hC).f
  have hcells' := Lib.hid hcells
  have CB := Lib.hid cB
  clear hcells cB
  refine wp_region_grow (specOf [(4, ⟨Nat × Nat, fun x => .slice (some ⟨x.1, 0, none⟩) bs.length x.2, fun x w' => RD w' w'.heap.size (some ⟨x.1, 0, none⟩) bs⟩), (12, ⟨Unit, fun _ => (.bool true), fun _ _ => True⟩)]) (fun wx => Below (World.heap (w3.alloc (.cells #[.slice (some ⟨gr, 0, none⟩) bs.length qr] 34))).size (w3.alloc (.cells #[.slice (some ⟨gr, 0, none⟩) bs.length qr] 34)) wx) (fun w1 w2 => Below w1.heap.size w1 w2) (by kernel_rfl) (by kernel_rfl) (stab_cons (fun x w1 w2 hg h => rd_grow hg h) (stab_cons (fun _ _ _ _ h => h) (stab_nil))) (Below.refl _ _).drew ?_
  refine grow_fix 1 ?_ rfl (by rfl) (by rfl) (fun wx hC hD => ?_) ?_
  rotate_left
  · have hSw := hcells'.out wx hC
    go_simp
    all_goals with_reducible rfl
  try simp only [Act.put, List.setIfInBounds_toArray, List.set_cons_zero, List.set_cons_succ]
  refine grow_fix 2 ?_ rfl (by rfl) (by rfl) (fun wx hC hD => ?_) ?_
  rotate_left
  · have hSw := hcells'.out wx hC
    go_simp
    all_goals with_reducible rfl
  try simp only [Act.put, List.setIfInBounds_toArray, List.set_cons_zero, List.set_cons_succ]
  refine grow_fix 3 ?_ rfl (by rfl) (by rfl) (fun wx hC hD => ?_) ?_
  rotate_left
  · have hSw := hcells'.out wx hC
    go_simp
    all_goals with_reducible rfl
  try simp only [Act.put, List.setIfInBounds_toArray, List.set_cons_zero, List.set_cons_succ]
  refine grow_fix 4 ?_ rfl (by rfl) (by rfl) (fun wx hC hD => ?_) ?_
  rotate_left
  · have hSw := hcells'.out wx hC
    go_simp
    all_goals with_reducible rfl
  try simp only [Act.put, List.setIfInBounds_toArray, List.set_cons_zero, List.set_cons_succ]
  refine grow_give 5 _ rfl (by rfl) (by rfl) (fun wx hC hD => ?_) (fun x => ?_)
  · refine give_enter (f := ?_) (args := ?_) ?_ ?_
    rotate_left 2
    · have hSw := hcells'.out wx hC
      go_simp
      all_goals first | with_reducible rfl | (refine ⟨?_, ?_⟩ <;> with_reducible rfl)
    refine (CB.out wx hC).mono ?_
    rintro e w5 ⟨g5, q5, rfl, ho5, hb5⟩
    exact ⟨_, rfl, hb5, hC.trans (hb5.mono hC.size), (g5, q5), rfl, ho5.rd⟩
  obtain ⟨g5, q5⟩ := x
  try simp only [Act.put, List.setIfInBounds_toArray, List.set_cons_zero, List.set_cons_succ]
  refine grow_fix 6 ?_ rfl (by rfl) (by rfl) (fun wx hC hD => ?_) ?_
  rotate_left
  · have hcv := conv_rd (some ⟨g5, 0, none⟩) q5 bs wx wx.heap.size (upd_hit (deps_get hD 4 (by kernel_rfl)) (by decide)) (by omega)
    have hSw := hcells'.out wx hC
    go_simp
    all_goals with_reducible rfl
  try simp only [Act.put, List.setIfInBounds_toArray, List.set_cons_zero, List.set_cons_succ]
  refine grow_fix 7 ?_ rfl (by rfl) (by rfl) (fun wx hC hD => ?_) ?_
  rotate_left
  · have hSw := hcells'.out wx hC
    go_simp
    all_goals with_reducible rfl
  try simp only [Act.put, List.setIfInBounds_toArray, List.set_cons_zero, List.set_cons_succ]
  refine grow_fix 8 ?_ rfl (by rfl) (by rfl) (fun wx hC hD => ?_) ?_
  rotate_left
  · have hSw := hcells'.out wx hC
    go_simp
    all_goals with_reducible rfl
  try simp only [Act.put, List.setIfInBounds_toArray, List.set_cons_zero, List.set_cons_succ]
  refine grow_fix 9 ?_ rfl (by rfl) (by rfl) (fun wx hC hD => ?_) ?_
  rotate_left
  · have hSw := hcells'.out wx hC
    go_simp
    all_goals with_reducible rfl
  try simp only [Act.put, List.setIfInBounds_toArray, List.set_cons_zero, List.set_cons_succ]
  refine grow_fix 10 ?_ rfl (by rfl) (by rfl) (fun wx hC hD => ?_) ?_
  rotate_left
  · have hSw := hcells'.out wx hC
    go_simp
    all_goals with_reducible rfl
  try simp only [Act.put, List.setIfInBounds_toArray, List.set_cons_zero, List.set_cons_succ]
  refine grow_fix 11 ?_ rfl (by rfl) (by rfl) (fun wx hC hD => ?_) ?_
  rotate_left
  · have hSw := hcells'.out wx hC
    go_simp
    all_goals with_reducible rfl
  try simp only [Act.put, List.setIfInBounds_toArray, List.set_cons_zero, List.set_cons_succ]
  refine grow_fix 12 ?_ rfl (by rfl) (by rfl) (fun wx hC hD => ?_) ?_
  rotate_left
  · have hSw := hcells'.out wx hC
    go_simp
    all_goals with_reducible rfl
  try simp only [Act.put, List.setIfInBounds_toArray, List.set_cons_zero, List.set_cons_succ]
  refine grow_give 13 _ rfl (by rfl) (by rfl) (fun wx hC hD => ?_) (fun x => ?_)
  · refine give_enter (f := ?_) (args := ?_) ?_ ?_
    rotate_left 2
    · have hSw := hcells'.out wx hC
      go_simp
      all_goals first | with_reducible rfl | (refine ⟨?_, ?_⟩ <;> with_reducible rfl)
    exact calls_cst hC (awake_any wx)
  obtain ⟨⟩ := x
  try simp only [Act.put, List.setIfInBounds_toArray, List.set_cons_zero, List.set_cons_succ]
  refine grow_fix 14 ?_ rfl (by rfl) (by rfl) (fun wx hC hD => ?_) ?_
  rotate_left
  · have hSw := hcells'.out wx hC
    go_simp
    all_goals with_reducible rfl
  try simp only [Act.put, List.setIfInBounds_toArray, List.set_cons_zero, List.set_cons_succ]
  refine grow_fix 15 ?_ rfl (by rfl) (by rfl) (fun wx hC hD => ?_) ?_
  rotate_left
  · have hSw := hcells'.out wx hC
    go_simp
    all_goals with_reducible rfl
  try simp only [Act.put, List.setIfInBounds_toArray, List.set_cons_zero, List.set_cons_succ]
  refine grow_nil (fun w4 hC hF => ?_)
  have HW4 := Lib.hid (HW.out.below hC)
  have Hb4' := Lib.hid (Hb4.out.trans (hC.mono Hb4.out.size))
  clear hF hC HW Hb4 hcells' CB
  have c5 := read_ok Ab cb zb w4 HW4.out.b (by rw [Hzb.out]; omega) (by rw [Hzb.out]; omega)
  have c6 := fun wx (hb : Below w4.heap.size w4 wx) => readr_ok Ab cb zb wx (rd_grow hb HW4.out.b) (by rw [Hzb.out]; omega) (by rw [Hzb.out]; omega)
  rw [Hzb.out] at c5
  simp only [Hzb.out] at c6
  have C6 := Lib.hid c6
  clear c6
  go_wp2_with fail
  refine c5.mono ?_
  rintro e w5 ⟨g5, h5, rfl, hF5, hb5⟩
  have HF5 := Lib.hid hF5
  have Hb5 := Lib.hid hb5
  clear hF5 hb5 c5
  go_wp2_with fail
  refine (C6.out w5 Hb5.out).mono ?_
  rintro e w6 ⟨gq, qq, rfl, ho6, hb6⟩
  rw [Hzb.out] at ho6 ⊢
  have hb46 := Hb5.out.trans (hb6.mono Hb5.out.size)
  have hb47 := hb46.alloc hb46.size (.cells #[.slice (some ⟨gq, 0, none⟩) m qq] 34)
  have HW6 := Lib.hid (HW4.out.below hb47)
  have Hb6 := Lib.hid (Hb4'.out.trans (hb47.mono Hb4'.out.size))
  have hF6 := (HF5.out.keep hb6).keep (w' := (w6.alloc (.cells #[.slice (some ⟨gq, 0, none⟩) m qq] 34))) ((Below.refl _ _).alloc (Nat.le_refl _) _)
  have hr6 : RD (w6.alloc (.cells #[.slice (some ⟨gq, 0, none⟩) m qq] 34)) (World.heap (w6.alloc (.cells #[.slice (some ⟨gq, 0, none⟩) m qq] 34))).size (some ⟨gq, 0, none⟩) zb := rd_grow (w1 := w6) ((Below.refl _ _).alloc (Nat.le_refl _) _) (by rw [← Hzb.out] at ho6; exact ho6.rd)
  have hx6 := Blk.new w6 34 #[.slice (some ⟨gq, 0, none⟩) m qq]
  have HG6 : Hid (OfG (w6.alloc (.cells #[.slice (some ⟨gq, 0, none⟩) m qq] 34)) g5 h5 gq qq w6.heap.size zb m) := Lib.hid ⟨hF6, hr6, hx6⟩
  clear hF6 hr6 hx6 ho6 HF5 Hb5
  clear hb46 hb47 hb6 HW4 Hb4' C6
  have cB := bytes_any g hh bs (w6.alloc (.cells #[.slice (some ⟨gq, 0, none⟩) m qq] 34)) HW6.out.f
  go_wp2_with fail
  refine cB.mono ?_
  rintro e w7 ⟨g7, q7, rfl, ho7, hb7⟩
  have c8 := read_ok (some ⟨g7, 0, none⟩) q7 bs w7 ho7.rd hbb.1 hbb.2
  have HW7 := Lib.hid (HW6.out.below hb7)
  have Hb7 := Lib.hid (Hb6.out.trans (hb7.mono Hb6.out.size))
  have HG7 := Lib.hid (HG6.out.below hb7)
  clear hb7 ho7 HW6 Hb6 cB HG6
  go_wp2_with fail
  refine c8.mono ?_
  rintro e w8 ⟨gx, hx, rfl, hF8, hb8⟩
  have HW8 := Lib.hid (HW7.out.below hb8)
  have Hb8 := Lib.hid (Hb7.out.trans (hb8.mono Hb7.out.size))
  have HG8 := Lib.hid (HG7.out.below hb8)
  have HF8 := Lib.hid hF8
  clear hb8 HW7 Hb7 c8 hF8 HG7
  have cB := fun wx (hC : Below w8.heap.size w8 wx) => bytes_any g hh bs wx (HW8.out.below hC).f
  have CB := Lib.hid cB
  have cX := fun wx (hC : Below w8.heap.size w8 wx) => bytes_any gx hx bs wx (HF8.out.keep hC)
  have CX := Lib.hid cX
  clear cB cX
  go_wp2_with fail
  refine wp_region_grow (specOf [(8, ⟨Nat × Nat, fun x => .slice (some ⟨x.1, 0, none⟩) bs.length x.2, fun x w' => RD w' w'.heap.size (some ⟨x.1, 0, none⟩) bs⟩), (11, ⟨Nat × Nat, fun x => .slice (some ⟨x.1, 0, none⟩) bs.length x.2, fun x w' => RD w' w'.heap.size (some ⟨x.1, 0, none⟩) bs⟩)]) (fun wx => Below (World.heap w8).size w8 wx) (fun w1 w2 => Below w1.heap.size w1 w2) (by kernel_rfl) (by kernel_rfl) (stab_cons (fun x w1 w2 hg h => rd_grow hg h) (stab_cons (fun x w1 w2 hg h => rd_grow hg h) (stab_nil))) (Below.refl _ _).drew ?_
  refine grow_fix 1 ?_ rfl (by rfl) (by rfl) (fun wx hC hD => ?_) ?_
  rotate_left
  · go_simp
    all_goals with_reducible rfl
  try simp only [Act.put, List.setIfInBounds_toArray, List.set_cons_zero, List.set_cons_succ]
  refine grow_fix 2 ?_ rfl (by rfl) (by rfl) (fun wx hC hD => ?_) ?_
  rotate_left
  · go_simp
    all_goals with_reducible rfl
  try simp only [Act.put, List.setIfInBounds_toArray, List.set_cons_zero, List.set_cons_succ]
  refine grow_fix 3 ?_ rfl (by rfl) (by rfl) (fun wx hC hD => ?_) ?_
  rotate_left
  · go_simp
    all_goals with_reducible rfl
  try simp only [Act.put, List.setIfInBounds_toArray, List.set_cons_zero, List.set_cons_succ]
  refine grow_fix 4 ?_ rfl (by rfl) (by rfl) (fun wx hC hD => ?_) ?_
  rotate_left
  · go_simp
    all_goals with_reducible rfl
  try simp only [Act.put, List.setIfInBounds_toArray, List.set_cons_zero, List.set_cons_succ]
  refine grow_fix 5 ?_ rfl (by rfl) (by rfl) (fun wx hC hD => ?_) ?_
  rotate_left
  · go_simp
    all_goals with_reducible rfl
  try simp only [Act.put, List.setIfInBounds_toArray, List.set_cons_zero, List.set_cons_succ]
  refine grow_fix 6 ?_ rfl (by rfl) (by rfl) (fun wx hC hD => ?_) ?_
  rotate_left
  · go_simp
    all_goals with_reducible rfl
  try simp only [Act.put, List.setIfInBounds_toArray, List.set_cons_zero, List.set_cons_succ]
  refine grow_fix 7 ?_ rfl (by rfl) (by rfl) (fun wx hC hD => ?_) ?_
  rotate_left
  · go_simp
    all_goals with_reducible rfl
  try simp only [Act.put, List.setIfInBounds_toArray, List.set_cons_zero, List.set_cons_succ]
  refine grow_fix 8 ?_ rfl (by rfl) (by rfl) (fun wx hC hD => ?_) ?_
  rotate_left
  · go_simp
    all_goals with_reducible rfl
  try simp only [Act.put, List.setIfInBounds_toArray, List.set_cons_zero, List.set_cons_succ]
  refine grow_give 9 _ rfl (by rfl) (by rfl) (fun wx hC hD => ?_) (fun x => ?_)
  · refine give_enter (f := ?_) (args := ?_) ?_ ?_
    rotate_left 2
    · go_simp
      all_goals first | with_reducible rfl | (refine ⟨?_, ?_⟩ <;> with_reducible rfl)
    refine (CX.out wx hC).mono ?_
    rintro e w5 ⟨g5, q5, rfl, ho5, hb5⟩
    exact ⟨_, rfl, hb5, hC.trans (hb5.mono hC.size), (g5, q5), rfl, ho5.rd⟩
  obtain ⟨g5', q5'⟩ := x
  try simp only [Act.put, List.setIfInBounds_toArray, List.set_cons_zero, List.set_cons_succ]
  refine grow_fix 10 ?_ rfl (by rfl) (by rfl) (fun wx hC hD => ?_) ?_
  rotate_left
  · have hcv := conv_rd (some ⟨g5', 0, none⟩) q5' bs wx wx.heap.size (upd_hit (deps_get hD 8 (by kernel_rfl)) (by decide)) (by omega)
    go_simp
    all_goals with_reducible rfl
  try simp only [Act.put, List.setIfInBounds_toArray, List.set_cons_zero, List.set_cons_succ]
  refine grow_fix 11 ?_ rfl (by rfl) (by rfl) (fun wx hC hD => ?_) ?_
  rotate_left
  · go_simp
    all_goals with_reducible rfl
  try simp only [Act.put, List.setIfInBounds_toArray, List.set_cons_zero, List.set_cons_succ]
  refine grow_give 12 _ rfl (by rfl) (by rfl) (fun wx hC hD => ?_) (fun x => ?_)
  · refine give_enter (f := ?_) (args := ?_) ?_ ?_
    rotate_left 2
    · go_simp
      all_goals first | with_reducible rfl | (refine ⟨?_, ?_⟩ <;> with_reducible rfl)
    refine (CB.out wx hC).mono ?_
    rintro e w5 ⟨g5, q5, rfl, ho5, hb5⟩
    exact ⟨_, rfl, hb5, hC.trans (hb5.mono hC.size), (g5, q5), rfl, ho5.rd⟩
  obtain ⟨g6', q6'⟩ := x
  try simp only [Act.put, List.setIfInBounds_toArray, List.set_cons_zero, List.set_cons_succ]
  refine grow_fix 13 ?_ rfl (by rfl) (by rfl) (fun wx hC hD => ?_) ?_
  rotate_left
  · have hcv := conv_rd (some ⟨g6', 0, none⟩) q6' bs wx wx.heap.size (upd_hit (deps_get hD 11 (by kernel_rfl)) (by decide)) (by omega)
    go_simp
    all_goals with_reducible rfl
  try simp only [Act.put, List.setIfInBounds_toArray, List.set_cons_zero, List.set_cons_succ]
  refine grow_fix 14 ?_ rfl (by rfl) (by rfl) (fun wx hC hD => ?_) ?_
  rotate_left
  · go_simp
    all_goals with_reducible rfl
  try simp only [Act.put, List.setIfInBounds_toArray, List.set_cons_zero, List.set_cons_succ]
  refine grow_fix 15 ?_ rfl (by rfl) (by rfl) (fun wx hC hD => ?_) ?_
  rotate_left
  · go_simp
    all_goals with_reducible rfl
  try simp only [Act.put, List.setIfInBounds_toArray, List.set_cons_zero, List.set_cons_succ]
  refine grow_nil (fun w9 hC hF => ?_)
  have HW9 := Lib.hid (HW8.out.below hC)
  have Hb9 := Lib.hid (Hb8.out.trans (hC.mono Hb8.out.size))
  have HG9 := Lib.hid (HG8.out.below hC)
  have HF9 := Lib.hid (HF8.out.keep hC)
  clear hF hC HW8 Hb8 CB CX HF8 HG8
  go_wp2_with fail
  go_loopw [15] (fun i wr => ∃ k : Nat, k ≤ t2.length ∧ i = .int .i64 k ∧ Below w9.heap.size w9 wr) (fun i _ => t2.length - (intOf i).toNat)
  case atStart => exact ⟨0, Nat.zero_le _, rfl, Below.refl _ _⟩
  case round =>
    obtain ⟨k, hk, rfl, hbq⟩ := hrel
    have HWr := Lib.hid (HW9.out.below hbq)
    have HFr := Lib.hid (HF9.out.keep hbq)
    have HGr := Lib.hid (HG9.out.below hbq)
    have Hbr := Lib.hid (Hb9.out.trans (hbq.mono Hb9.out.size))
    have Hbq := Lib.hid hbq
    clear hbq
    by_cases hlt : k < t2.length
    · obtain ⟨ab, ao, hkl, e2, hab, hcw⟩ := HWr.out.ask.at_map hlt
      subst e2
      have hsk : t2[k].size ≤ 140737488351232 := f2.out _ (List.getElem_mem hkl)
      have hi0 : (0 : Int) ≤ (k : Int) := by omega
      have hi1 : (k : Int) < (t2.length : Int) := by omega
      generalize t2[k] = s at *
      have hcells := fun wx (hC : Below wr.heap.size wr wx) => And.intro ((HWr.out.below hC).box.cell 0) (And.intro ((hC.cell (p := ⟨ab, ao + k, none⟩) hab).trans hcw) ((HGr.out.below hC).box.cell 0))
      simp at hcells
      have hcells' := Lib.hid hcells
      have c1 := fun wx (hC : Below wr.heap.size wr wx) => may_yes gx hx bs s wx (HFr.out.keep hC) hsk
      have c2 := fun wx (hC : Below wr.heap.size wr wx) => may_ref (some ⟨gr, 0, none⟩) qr bs s wx (HWr.out.below hC).r (by omega) (by omega) hsk
      have c3 := fun wx (hC : Below wr.heap.size wr wx) => may_yes g5 h5 zb s wx (HGr.out.below hC).f hsk
      have c4 := fun wx (hC : Below wr.heap.size wr wx) => may_ref (some ⟨gq, 0, none⟩) qq zb s wx (HGr.out.below hC).r (by rw [Hzb.out]; omega) (by rw [Hzb.out]; omega) hsk
      simp only [Hzb.out] at c4
      have C3 := Lib.hid c3
      have C4 := Lib.hid c4
      generalize may zb s.data.toList = p2 at *
      clear c3 c4
      have C1 := Lib.hid c1
      have C2 := Lib.hid c2
      clear c1 c2 hcells hcw
      generalize may bs s.data.toList = p at *
      go_wp2_with fail
      refine wp_region_grow (specOf [(5, ⟨Unit, fun _ => (.bool p), fun _ _ => True⟩), (11, ⟨Unit, fun _ => (.bool p), fun _ _ => True⟩), (22, ⟨Unit, fun _ => (.bool p2), fun _ _ => True⟩), (28, ⟨Unit, fun _ => (.bool p2), fun _ _ => True⟩)]) (fun wx => Below (World.heap wr).size wr wx) (fun w1 w2 => Below w1.heap.size w1 w2) (by kernel_rfl) (by kernel_rfl) (stab_cons (fun _ _ _ _ h => h) (stab_cons (fun _ _ _ _ h => h) (stab_cons (fun _ _ _ _ h => h) (stab_cons (fun _ _ _ _ h => h) (stab_nil))))) (Below.refl _ _).drew ?_
      refine grow_fix 1 ?_ rfl (by rfl) (by rfl) (fun wx hC hD => ?_) ?_
      rotate_left
      · have hSw := hcells'.out wx hC
        go_simp
        all_goals with_reducible rfl
      try simp only [Act.put, List.setIfInBounds_toArray, List.set_cons_zero, List.set_cons_succ]
      refine grow_fix 2 ?_ rfl (by rfl) (by rfl) (fun wx hC hD => ?_) ?_
      rotate_left
      · have hSw := hcells'.out wx hC
        go_simp
        all_goals with_reducible rfl
      try simp only [Act.put, List.setIfInBounds_toArray, List.set_cons_zero, List.set_cons_succ]
      refine grow_fix 3 ?_ rfl (by rfl) (by rfl) (fun wx hC hD => ?_) ?_
      rotate_left
      · have hSw := hcells'.out wx hC
        go_simp
        all_goals with_reducible rfl
      try simp only [Act.put, List.setIfInBounds_toArray, List.set_cons_zero, List.set_cons_succ]
      refine grow_fix 4 ?_ rfl (by rfl) (by rfl) (fun wx hC hD => ?_) ?_
      rotate_left
      · have hSw := hcells'.out wx hC
        go_simp
        all_goals with_reducible rfl
      try simp only [Act.put, List.setIfInBounds_toArray, List.set_cons_zero, List.set_cons_succ]
      refine grow_fix 5 ?_ rfl (by rfl) (by rfl) (fun wx hC hD => ?_) ?_
      rotate_left
      · have hSw := hcells'.out wx hC
        go_simp
        all_goals with_reducible rfl
      try simp only [Act.put, List.setIfInBounds_toArray, List.set_cons_zero, List.set_cons_succ]
      refine grow_give 6 _ rfl (by rfl) (by rfl) (fun wx hC hD => ?_) (fun x => ?_)
      · refine give_enter (f := ?_) (args := ?_) ?_ ?_
        rotate_left 2
        · have hSw := hcells'.out wx hC
          go_simp
          all_goals first | with_reducible rfl | (refine ⟨?_, ?_⟩ <;> with_reducible rfl)
        exact calls_cst hC (C1.out wx hC)
      obtain ⟨⟩ := x
      try simp only [Act.put, List.setIfInBounds_toArray, List.set_cons_zero, List.set_cons_succ]
      refine grow_fix 7 ?_ rfl (by rfl) (by rfl) (fun wx hC hD => ?_) ?_
      rotate_left
      · have hSw := hcells'.out wx hC
        go_simp
        all_goals with_reducible rfl
      try simp only [Act.put, List.setIfInBounds_toArray, List.set_cons_zero, List.set_cons_succ]
      refine grow_fix 8 ?_ rfl (by rfl) (by rfl) (fun wx hC hD => ?_) ?_
      rotate_left
      · have hSw := hcells'.out wx hC
        go_simp
        all_goals with_reducible rfl
      try simp only [Act.put, List.setIfInBounds_toArray, List.set_cons_zero, List.set_cons_succ]
      refine grow_fix 9 ?_ rfl (by rfl) (by rfl) (fun wx hC hD => ?_) ?_
      rotate_left
      · have hSw := hcells'.out wx hC
        go_simp
        all_goals with_reducible rfl
      try simp only [Act.put, List.setIfInBounds_toArray, List.set_cons_zero, List.set_cons_succ]
      refine grow_fix 10 ?_ rfl (by rfl) (by rfl) (fun wx hC hD => ?_) ?_
      rotate_left
      · have hSw := hcells'.out wx hC
        go_simp
        all_goals with_reducible rfl
      try simp only [Act.put, List.setIfInBounds_toArray, List.set_cons_zero, List.set_cons_succ]
      refine grow_fix 11 ?_ rfl (by rfl) (by rfl) (fun wx hC hD => ?_) ?_
      rotate_left
      · have hSw := hcells'.out wx hC
        go_simp
        all_goals with_reducible rfl
      try simp only [Act.put, List.setIfInBounds_toArray, List.set_cons_zero, List.set_cons_succ]
      refine grow_give 12 _ rfl (by rfl) (by rfl) (fun wx hC hD => ?_) (fun x => ?_)
      · refine give_enter (f := ?_) (args := ?_) ?_ ?_
        rotate_left 2
        · have hSw := hcells'.out wx hC
          go_simp
          all_goals first | with_reducible rfl | (refine ⟨?_, ?_⟩ <;> with_reducible rfl)
        exact calls_cst hC (C2.out wx hC)
      obtain ⟨⟩ := x
      try simp only [Act.put, List.setIfInBounds_toArray, List.set_cons_zero, List.set_cons_succ]
      refine grow_fix 13 ?_ rfl (by rfl) (by rfl) (fun wx hC hD => ?_) ?_
      rotate_left
      · have hSw := hcells'.out wx hC
        go_simp
        all_goals with_reducible rfl
      try simp only [Act.put, List.setIfInBounds_toArray, List.set_cons_zero, List.set_cons_succ]
      refine grow_fix 14 ?_ rfl (by rfl) (by rfl) (fun wx hC hD => ?_) ?_
      rotate_left
      · have hSw := hcells'.out wx hC
        go_simp
        all_goals with_reducible rfl
      try simp only [Act.put, List.setIfInBounds_toArray, List.set_cons_zero, List.set_cons_succ]
      refine grow_fix 15 ?_ rfl (by rfl) (by rfl) (fun wx hC hD => ?_) ?_
      rotate_left
      · have hSw := hcells'.out wx hC
        go_simp
        all_goals with_reducible rfl
      try simp only [Act.put, List.setIfInBounds_toArray, List.set_cons_zero, List.set_cons_succ]
      refine grow_fix 16 ?_ rfl (by rfl) (by rfl) (fun wx hC hD => ?_) ?_
      rotate_left
      · have hSw := hcells'.out wx hC
        go_simp
        all_goals with_reducible rfl
      try simp only [Act.put, List.setIfInBounds_toArray, List.set_cons_zero, List.set_cons_succ]
      refine grow_fix 17 ?_ rfl (by rfl) (by rfl) (fun wx hC hD => ?_) ?_
      rotate_left
      · have hSw := hcells'.out wx hC
        go_simp
        all_goals with_reducible rfl
      try simp only [Act.put, List.setIfInBounds_toArray, List.set_cons_zero, List.set_cons_succ]
      refine grow_fix 18 ?_ rfl (by rfl) (by rfl) (fun wx hC hD => ?_) ?_
      rotate_left
      · have hSw := hcells'.out wx hC
        go_simp
        all_goals with_reducible rfl
      try simp only [Act.put, List.setIfInBounds_toArray, List.set_cons_zero, List.set_cons_succ]
      refine grow_fix 19 ?_ rfl (by rfl) (by rfl) (fun wx hC hD => ?_) ?_
      rotate_left
      · have hSw := hcells'.out wx hC
        go_simp
        all_goals with_reducible rfl
      try simp only [Act.put, List.setIfInBounds_toArray, List.set_cons_zero, List.set_cons_succ]
      refine grow_fix 20 ?_ rfl (by rfl) (by rfl) (fun wx hC hD => ?_) ?_
      rotate_left
      · have hSw := hcells'.out wx hC
        go_simp
        all_goals with_reducible rfl
      try simp only [Act.put, List.setIfInBounds_toArray, List.set_cons_zero, List.set_cons_succ]
      refine grow_fix 21 ?_ rfl (by rfl) (by rfl) (fun wx hC hD => ?_) ?_
      rotate_left
      · have hSw := hcells'.out wx hC
        go_simp
        all_goals with_reducible rfl
      try simp only [Act.put, List.setIfInBounds_toArray, List.set_cons_zero, List.set_cons_succ]
      refine grow_fix 22 ?_ rfl (by rfl) (by rfl) (fun wx hC hD => ?_) ?_
      rotate_left
      · have hSw := hcells'.out wx hC
        go_simp
        all_goals with_reducible rfl
      try simp only [Act.put, List.setIfInBounds_toArray, List.set_cons_zero, List.set_cons_succ]
      refine grow_give 23 _ rfl (by rfl) (by rfl) (fun wx hC hD => ?_) (fun x => ?_)
      · refine give_enter (f := ?_) (args := ?_) ?_ ?_
        rotate_left 2
        · have hSw := hcells'.out wx hC
          go_simp
          all_goals first | with_reducible rfl | (refine ⟨?_, ?_⟩ <;> with_reducible rfl)
        exact calls_cst hC (C3.out wx hC)
      obtain ⟨⟩ := x
      try simp only [Act.put, List.setIfInBounds_toArray, List.set_cons_zero, List.set_cons_succ]
      refine grow_fix 24 ?_ rfl (by rfl) (by rfl) (fun wx hC hD => ?_) ?_
      rotate_left
      · have hSw := hcells'.out wx hC
        go_simp
        all_goals with_reducible rfl
      try simp only [Act.put, List.setIfInBounds_toArray, List.set_cons_zero, List.set_cons_succ]
      refine grow_fix 25 ?_ rfl (by rfl) (by rfl) (fun wx hC hD => ?_) ?_
      rotate_left
      · have hSw := hcells'.out wx hC
        go_simp
        all_goals with_reducible rfl
      try simp only [Act.put, List.setIfInBounds_toArray, List.set_cons_zero, List.set_cons_succ]
      refine grow_fix 26 ?_ rfl (by rfl) (by rfl) (fun wx hC hD => ?_) ?_
      rotate_left
      · have hSw := hcells'.out wx hC
        go_simp
        all_goals with_reducible rfl
      try simp only [Act.put, List.setIfInBounds_toArray, List.set_cons_zero, List.set_cons_succ]
      refine grow_fix 27 ?_ rfl (by rfl) (by rfl) (fun wx hC hD => ?_) ?_
      rotate_left
      · have hSw := hcells'.out wx hC
        go_simp
        all_goals with_reducible rfl
      try simp only [Act.put, List.setIfInBounds_toArray, List.set_cons_zero, List.set_cons_succ]
      refine grow_fix 28 ?_ rfl (by rfl) (by rfl) (fun wx hC hD => ?_) ?_
      rotate_left
      · have hSw := hcells'.out wx hC
        go_simp
        all_goals with_reducible rfl
      try simp only [Act.put, List.setIfInBounds_toArray, List.set_cons_zero, List.set_cons_succ]
      refine grow_give 29 _ rfl (by rfl) (by rfl) (fun wx hC hD => ?_) (fun x => ?_)
      · refine give_enter (f := ?_) (args := ?_) ?_ ?_
        rotate_left 2
        · have hSw := hcells'.out wx hC
          go_simp
          all_goals first | with_reducible rfl | (refine ⟨?_, ?_⟩ <;> with_reducible rfl)
        exact calls_cst hC (C4.out wx hC)
      obtain ⟨⟩ := x
      try simp only [Act.put, List.setIfInBounds_toArray, List.set_cons_zero, List.set_cons_succ]
      refine grow_fix 30 ?_ rfl (by rfl) (by rfl) (fun wx hC hD => ?_) ?_
      rotate_left
      · have hSw := hcells'.out wx hC
        go_simp
        all_goals with_reducible rfl
      try simp only [Act.put, List.setIfInBounds_toArray, List.set_cons_zero, List.set_cons_succ]
      refine grow_fix 31 ?_ rfl (by rfl) (by rfl) (fun wx hC hD => ?_) ?_
      rotate_left
      · have hSw := hcells'.out wx hC
        go_simp
        all_goals with_reducible rfl
      try simp only [Act.put, List.setIfInBounds_toArray, List.set_cons_zero, List.set_cons_succ]
      refine grow_fix 32 ?_ rfl (by rfl) (by rfl) (fun wx hC hD => ?_) ?_
      rotate_left
      · have hSw := hcells'.out wx hC
        go_simp
        all_goals with_reducible rfl
      try simp only [Act.put, List.setIfInBounds_toArray, List.set_cons_zero, List.set_cons_succ]
      refine grow_nil (fun w10 hC hF => ?_)
      have Hq10 := Lib.hid (Hbq.out.trans (hC.mono Hbq.out.size))
      clear hF hC
      go_wp2
      go_roundw
      case rel => exact ⟨k + 1, by omega, by go_num, Hq10.out⟩
      case measure => simp [intOf]; omega
    · obtain rfl : k = t2.length := by omega
      have cB := fun wx (hC : Below wr.heap.size wr wx) => bytes_any g5 h5 zb wx (HGr.out.below hC).f
      have cC := fun wx (hC : Below wr.heap.size wr wx) => count_any g5 h5 zb wx (HGr.out.below hC).f
      have cD := fun wx (hC : Below wr.heap.size wr wx) => count_ref (some ⟨gq, 0, none⟩) qq zb wx (HGr.out.below hC).r (by rw [Hzb.out]; omega)
      have hcells := fun wx (hC : Below wr.heap.size wr wx) => And.intro ((HGr.out.below hC).box.cell 0) (conv_rd Ab cb zb wx wx.heap.size (HWr.out.below hC).b (by rw [Hzb.out]; omega))
      simp only [Hzb.out] at cC cD hcells
      simp at hcells
      have hcells' := Lib.hid hcells
      have CB := Lib.hid cB
      have CC := Lib.hid cC
      have CD := Lib.hid cD
      clear cB cC cD hcells
      go_wp2_with fail
      refine wp_region_grow (specOf [(4, ⟨Nat × Nat, fun x => .slice (some ⟨x.1, 0, none⟩) zb.length x.2, fun x w' => RD w' w'.heap.size (some ⟨x.1, 0, none⟩) zb⟩), (11, ⟨Unit, fun _ => (.int .i64 (cnt zb (8 * m) : Nat)), fun _ _ => True⟩), (13, ⟨Unit, fun _ => (.int .i64 (cnt zb (8 * m) : Nat)), fun _ _ => True⟩)]) (fun wx => Below (World.heap wr).size wr wx) (fun w1 w2 => Below w1.heap.size w1 w2) (by kernel_rfl) (by kernel_rfl) (stab_cons (fun x w1 w2 hg h => rd_grow hg h) (stab_cons (fun _ _ _ _ h => h) (stab_cons (fun _ _ _ _ h => h) (stab_nil)))) (Below.refl _ _).drew ?_
      refine grow_fix 1 ?_ rfl (by rfl) (by rfl) (fun wx hC hD => ?_) ?_
      rotate_left
      · have hSw := hcells'.out wx hC
        go_simp
        all_goals with_reducible rfl
      try simp only [Act.put, List.setIfInBounds_toArray, List.set_cons_zero, List.set_cons_succ]
      refine grow_fix 2 ?_ rfl (by rfl) (by rfl) (fun wx hC hD => ?_) ?_
      rotate_left
      · have hSw := hcells'.out wx hC
        go_simp
        all_goals with_reducible rfl
      try simp only [Act.put, List.setIfInBounds_toArray, List.set_cons_zero, List.set_cons_succ]
      refine grow_fix 3 ?_ rfl (by rfl) (by rfl) (fun wx hC hD => ?_) ?_
      rotate_left
      · have hSw := hcells'.out wx hC
        go_simp
        all_goals with_reducible rfl
      try simp only [Act.put, List.setIfInBounds_toArray, List.set_cons_zero, List.set_cons_succ]
      refine grow_fix 4 ?_ rfl (by rfl) (by rfl) (fun wx hC hD => ?_) ?_
      rotate_left
      · have hSw := hcells'.out wx hC
        go_simp
        all_goals with_reducible rfl
      try simp only [Act.put, List.setIfInBounds_toArray, List.set_cons_zero, List.set_cons_succ]
      refine grow_give 5 _ rfl (by rfl) (by rfl) (fun wx hC hD => ?_) (fun x => ?_)
      · refine give_enter (f := ?_) (args := ?_) ?_ ?_
        rotate_left 2
        · have hSw := hcells'.out wx hC
          go_simp
          all_goals first | with_reducible rfl | (refine ⟨?_, ?_⟩ <;> with_reducible rfl)
        refine (CB.out wx hC).mono ?_
        rintro e w5 ⟨g5, q5, rfl, ho5, hb5⟩
        exact ⟨_, rfl, hb5, hC.trans (hb5.mono hC.size), (g5, q5), rfl, ho5.rd⟩
      obtain ⟨g6', q6'⟩ := x
      try simp only [Act.put, List.setIfInBounds_toArray, List.set_cons_zero, List.set_cons_succ]
      refine grow_fix 6 ?_ rfl (by rfl) (by rfl) (fun wx hC hD => ?_) ?_
      rotate_left
      · have hcv := conv_rd (some ⟨g6', 0, none⟩) q6' zb wx wx.heap.size (upd_hit (deps_get hD 4 (by kernel_rfl)) (by decide)) (by rw [Hzb.out]; omega)
        have hSw := hcells'.out wx hC
        go_simp
        all_goals with_reducible rfl
      try simp only [Act.put, List.setIfInBounds_toArray, List.set_cons_zero, List.set_cons_succ]
      refine grow_fix 7 ?_ rfl (by rfl) (by rfl) (fun wx hC hD => ?_) ?_
      rotate_left
      · have hSw := hcells'.out wx hC
        go_simp
        all_goals with_reducible rfl
      try simp only [Act.put, List.setIfInBounds_toArray, List.set_cons_zero, List.set_cons_succ]
      refine grow_fix 8 ?_ rfl (by rfl) (by rfl) (fun wx hC hD => ?_) ?_
      rotate_left
      · have hSw := hcells'.out wx hC
        go_simp
        all_goals with_reducible rfl
      try simp only [Act.put, List.setIfInBounds_toArray, List.set_cons_zero, List.set_cons_succ]
      refine grow_fix 9 ?_ rfl (by rfl) (by rfl) (fun wx hC hD => ?_) ?_
      rotate_left
      · have hSw := hcells'.out wx hC
        go_simp
        all_goals with_reducible rfl
      try simp only [Act.put, List.setIfInBounds_toArray, List.set_cons_zero, List.set_cons_succ]
      refine grow_fix 10 ?_ rfl (by rfl) (by rfl) (fun wx hC hD => ?_) ?_
      rotate_left
      · have hSw := hcells'.out wx hC
        go_simp
        all_goals with_reducible rfl
      try simp only [Act.put, List.setIfInBounds_toArray, List.set_cons_zero, List.set_cons_succ]
      refine grow_fix 11 ?_ rfl (by rfl) (by rfl) (fun wx hC hD => ?_) ?_
      rotate_left
      · have hSw := hcells'.out wx hC
        go_simp
        all_goals with_reducible rfl
      try simp only [Act.put, List.setIfInBounds_toArray, List.set_cons_zero, List.set_cons_succ]
      refine grow_give 12 _ rfl (by rfl) (by rfl) (fun wx hC hD => ?_) (fun x => ?_)
      · refine give_enter (f := ?_) (args := ?_) ?_ ?_
        rotate_left 2
        · have hSw := hcells'.out wx hC
          go_simp
          all_goals first | with_reducible rfl | (refine ⟨?_, ?_⟩ <;> with_reducible rfl)
        exact calls_cst hC ((CC.out wx hC).mono fun _ _ h => ⟨h.1, by rw [← h.2]; exact Below.refl _ _⟩)
      obtain ⟨⟩ := x
      try simp only [Act.put, List.setIfInBounds_toArray, List.set_cons_zero, List.set_cons_succ]
      refine grow_fix 13 ?_ rfl (by rfl) (by rfl) (fun wx hC hD => ?_) ?_
      rotate_left
      · have hSw := hcells'.out wx hC
        go_simp
        all_goals with_reducible rfl
      try simp only [Act.put, List.setIfInBounds_toArray, List.set_cons_zero, List.set_cons_succ]
      refine grow_give 14 _ rfl (by rfl) (by rfl) (fun wx hC hD => ?_) (fun x => ?_)
      · refine give_enter (f := ?_) (args := ?_) ?_ ?_
        rotate_left 2
        · have hSw := hcells'.out wx hC
          go_simp
          all_goals first | with_reducible rfl | (refine ⟨?_, ?_⟩ <;> with_reducible rfl)
        exact calls_cst hC (CD.out wx hC)
      obtain ⟨⟩ := x
      try simp only [Act.put, List.setIfInBounds_toArray, List.set_cons_zero, List.set_cons_succ]
      refine grow_fix 15 ?_ rfl (by rfl) (by rfl) (fun wx hC hD => ?_) ?_
      rotate_left
      · have hSw := hcells'.out wx hC
        go_simp
        all_goals with_reducible rfl
      try simp only [Act.put, List.setIfInBounds_toArray, List.set_cons_zero, List.set_cons_succ]
      refine grow_fix 16 ?_ rfl (by rfl) (by rfl) (fun wx hC hD => ?_) ?_
      rotate_left
      · have hSw := hcells'.out wx hC
        go_simp
        all_goals with_reducible rfl
      try simp only [Act.put, List.setIfInBounds_toArray, List.set_cons_zero, List.set_cons_succ]
      refine grow_fix 17 ?_ rfl (by rfl) (by rfl) (fun wx hC hD => ?_) ?_
      rotate_left
      · have hSw := hcells'.out wx hC
        go_simp
        all_goals with_reducible rfl
      try simp only [Act.put, List.setIfInBounds_toArray, List.set_cons_zero, List.set_cons_succ]
      refine grow_fix 18 ?_ rfl (by rfl) (by rfl) (fun wx hC hD => ?_) ?_
      rotate_left
      · have hSw := hcells'.out wx hC
        go_simp
        all_goals with_reducible rfl
      try simp only [Act.put, List.setIfInBounds_toArray, List.set_cons_zero, List.set_cons_succ]
      refine grow_nil (fun w10 hC hF => ?_)
      have Fin := Lib.hid (Hbr.out.trans (hC.mono Hbr.out.size))
      clear hF hC
      go_wp2
      go_ret
      exact ⟨rfl, Fin.out⟩

theorem bloomOf_walk (A1 : Option Addr) (l1 c1 : Nat) (ss1 : List ByteArray) (Ab : Option Addr) (lb cb : Nat) (zs0 : List Int) (A2 : Option Addr) (l2 c2 : Nat) (ss2 : List ByteArray) (w : World)
    (R1 : Reads w w.heap.size 1 A1 l1 (ss1.map Value.string)) (S1 : ∀ s ∈ ss1, s.size ≤ 140737488351232) (L1 : l1 ≤ 8796093021952)
    (Rb : Reads w w.heap.size 1 Ab lb (zs0.map (Value.int .u8))) (Hwf : ∀ n ∈ zs0, (Lit.int .u8 n).wf = true) (hcb : lb ≤ cb)
    (R2 : Reads w w.heap.size 1 A2 l2 (ss2.map Value.string)) (S2 : ∀ s ∈ ss2, s.size ≤ 140737488351232) (L2 : l2 ≤ 8796093021952) :
    Calls Try.prog 10 #[.slice A1 l1 c1, .slice Ab lb cb, .slice A2 l2 c2] w fun e w' => e = .returned (.bool true) ∧ Below w.heap.size w w' := by
  have hlz : zs0.length = lb := by have := Rb.1; rw [List.length_map] at this; omega
  have hb : ∀ n ∈ zs0, 0 ≤ n ∧ n < 256 := fun n hn => by
    have h := bounds_u8 (Hwf n hn)
    omega
  have hmin : (if (2000 : Int) < (lb : Int) then (2000 : Int) else (lb : Int)) = ((min lb 2000 : Nat) : Int) := by split <;> omega
  have hz : zs0.map (Value.int .u8) = (zs0.map Int.toNat).map bc := by
    rw [List.map_map]
    refine List.map_congr_left fun n hn => ?_
    have := hb n hn
    show Value.int .u8 n = Value.int .u8 ((n.toNat : Nat) : Int)
    rw [Int.toNat_of_nonneg this.1]
  rw [hz] at Rb
  have hR : RD w w.heap.size Ab ((zs0.map Int.toNat).take (min lb 2000)) := by
    have hl : ((zs0.map Int.toNat).take (min lb 2000)).length = min lb 2000 := by rw [List.length_take, List.length_map, hlz]; omega
    refine ⟨?_, fun x hx => ?_⟩
    · rw [hl]
      refine ⟨by rw [List.length_map, hl]; omega, fun hn => ?_⟩
      obtain ⟨b, o, e, hbl, hc⟩ := Rb.2 (by omega)
      refine ⟨b, o, e, hbl, fun j u hu => hc j u ?_⟩
      rw [List.map_take, List.getElem?_take] at hu
      split at hu
      · exact hu
      · cases hu
    · obtain ⟨n, hn, rfl⟩ := List.mem_map.1 (List.mem_of_mem_take hx)
      have := hb n hn
      omega
  have hzl : ((zs0.map Int.toNat).take (min lb 2000)).length = min lb 2000 := by rw [List.length_take, List.length_map, hlz]; omega
  by_cases h8 : 8 ≤ min lb 2000
  · exact bloomOf_ok A1 l1 c1 ss1 Ab lb cb _ A2 l2 c2 ss2 w R1 S1 (by omega) _ rfl hcb hR hzl hmin h8 R2 S2 (by omega)
  · exact bloomOf_bad A1 l1 c1 ss1 Ab lb cb _ A2 l2 c2 ss2 w R1 S1 (by omega) _ rfl hcb hR hzl hmin (by omega) R2 S2 (by omega)
end Go.Proofs.Ytambdddahbgelaa.Bl
