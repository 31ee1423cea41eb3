/- loggiaref34.hit: the walk (printed by gen_mks.py). -/
import Derived.Test.YtjfconddkfihcaaPkMarkHitsRow35
namespace Go.Proofs.Ytjfconddkfihcaa.Mk
open Go.RowKit Go.Proofs.Ytjfconddkfihcaa Go.Proofs.Ytjfconddkfihcaa.Ut Go.Proofs.Ytjfconddkfihcaa.Tk Go.Proofs.Ytjfconddkfihcaa.Qy
set_option maxRecDepth 20000
set_option linter.unusedSimpArgs false

theorem phr_any (T : List (List UInt8)) (ws : List ByteArray) (i : Nat) (hi : i < T.length) :
    (phr T ws).any (fun f => decide (f ≤ i) && decide (i < f + ws.length)) = true ↔ ∃ f, f ≤ i ∧ i < f + ws.length ∧ stands T ws f = true := by
  rw [List.any_eq_true]
  constructor
  · rintro ⟨f, hf, h⟩
    simp only [Bool.and_eq_true, decide_eq_true_eq] at h
    unfold phr at hf
    split at hf
    · cases hf
    · unfold phrTo at hf
      rw [List.mem_filter] at hf
      exact ⟨f, h.1, h.2, hf.2⟩
  · rintro ⟨f, h1, h2, h3⟩
    refine ⟨f, ?_, by simp only [Bool.and_eq_true, decide_eq_true_eq]; exact ⟨h1, h2⟩⟩
    unfold phr
    rw [if_neg (fun e => by rw [e] at h2; simp at h2; omega)]
    unfold phrTo
    rw [List.mem_filter, List.mem_range]
    exact ⟨by omega, h3⟩
theorem leaf4 (T : List (List UInt8)) (ws : List ByteArray) (i : Nat) (hi : i < T.length) : leafM 4 ws T i = true ↔ ∃ f, f ≤ i ∧ i < f + ws.length ∧ stands T ws f = true := by
  rw [← phr_any T ws i hi]
  unfold leafM
  rw [if_neg (by decide), if_neg (by simp)]
theorem leaf2_no (T : List (List UInt8)) (ws : List ByteArray) (i : Nat) (h : ws.length ≠ 1) : leafM 2 ws T i = false := by
  unfold leafM
  rw [if_neg (by decide), if_pos ⟨rfl, h⟩]
theorem leaf3_no (T : List (List UInt8)) (ws : List ByteArray) (i : Nat) (h : ws.length ≠ 1) : leafM 3 ws T i = false := by
  unfold leafM
  rw [if_pos rfl]
  match ws, h with
  | [], _ => rfl
  | [_], h => exact absurd rfl h
  | _ :: _ :: _, _ => rfl
theorem leaf2 (T : List (List UInt8)) (p : ByteArray) (i : Nat) (hi : i < T.length) : leafM 2 [p] T i = ((str T[i]).toList == p.toList) := by
  have e : leafM 2 [p] T i = (phr T [p]).any (fun f => decide (f ≤ i) && decide (i < f + [p].length)) := by
    unfold leafM
    rw [if_neg (by decide), if_neg (by simp)]
  rw [e, tl, tl, str_data, Bool.eq_iff_iff, phr_any T [p] i hi]
  have h1 := standsTo_succ T [p] i 0 (by omega) (by simp)
  rw [standsTo_zero, Bool.true_and] at h1
  have h2 := standsTo_all T [p] i
  simp only [List.length_singleton] at h2
  rw [h2] at h1
  simp only [Nat.add_zero, List.getElem_cons_zero] at h1
  rw [← h1]
  constructor
  · rintro ⟨f, a, b, c⟩
    simp at b
    obtain rfl : f = i := by omega
    exact c
  · intro h
    exact ⟨i, Nat.le_refl _, by simp, h⟩
theorem leaf3 (T : List (List UInt8)) (p : ByteArray) (i : Nat) (hi : i < T.length) : leafM 3 [p] T i = begins T[i] p := by
  unfold leafM
  rw [if_pos rfl]
  simp [List.getElem?_eq_getElem hi]
theorem sv_at {w : World} {B c : Nat} {A : Option Addr} {T : List (List UInt8)} (h : Reads w B 1 A c (sv T)) {i : Nat} (hi : i < c) : ∃ b o, ∃ hl : i < T.length, A = some ⟨b, o, none⟩ ∧ b < B ∧ w.cell? ⟨b, o + i, none⟩ = some (.string (str T[i])) := by
  unfold sv at h
  obtain ⟨b, o, hl, e, hb, hc⟩ := h.at_map hi
  have hl' : i < T.length := by simpa using hl
  refine ⟨b, o, hl', e, hb, ?_⟩
  rw [hc]
  simp
def HitOk (k : Int) (ws : List ByteArray) (T : List (List UInt8)) : Prop := ∀ (nm : ByteArray) (l : List Q) (i : Nat) (_ : i < T.length) (A : Option Addr) (c : Nat) (w : World) (a0 a1 a2 a3 : Value), QAt w w.heap.size (.mk k nm ws l) [a0, a1, a2, a3] → Reads w w.heap.size 1 A T.length (sv T) →
  Calls Try.prog 97 #[.agg #[a0, a1, a2, a3], .slice A T.length c, .int .i64 (i : Nat)] w fun e w' => e = .returned (.bool (leafM k ws T i)) ∧ Below w.heap.size w w'

set_option maxHeartbeats 6400000 in
theorem hit2_no (ws : List ByteArray) (T : List (List UInt8)) (hne : ws.length ≠ 1) : HitOk 2 ws T := by
  intro nm l i hi A c w a0 a1 a2 a3 hQ hT
  obtain ⟨WA, m, wc, CA, n, c2, e, hI⟩ := hQ.is
  simp only [List.cons.injEq, and_true] at e
  obtain ⟨rfl, rfl, rfl, rfl⟩ := e
  have hwn := hI.wn
  have hb1 : Below w.heap.size w (w.alloc (.cells #[.int .i64 2, .string nm, .slice WA m wc, .slice CA n c2] 37)) := (Below.refl _ _).alloc (Nat.le_refl _) _
  have hB1 := Blk.new w 37 #[.int .i64 2, .string nm, .slice WA m wc, .slice CA n c2]
  have hz1 : w.heap.size < (w.alloc (.cells #[.int .i64 2, .string nm, .slice WA m wc, .slice CA n c2] 37)).heap.size := by simp
  have Hb1 := Lib.hid hb1
  have HB1 := Lib.hid hB1
  have hm1 : ((m : Int) == 1) = false := by rw [beq_eq_false_iff_ne]; omega
  have hm2 : m ≤ 8796093021952 ∨ True := .inr trivial
  rw [leaf2_no T ws i hne]
  clear hQ hT hI hwn hne hb1 hB1 hm2
  go_enter Try.func97, Try.ntmps97
  go_wp2_with fail
  generalize hw1 : (w.alloc (.cells #[.int .i64 2, .string nm, .slice WA m wc, .slice CA n c2] 37)) = w1 at *
  clear hw1
  have hcells : ∀ wx, Below w1.heap.size w1 wx → wx.cell? ⟨w.heap.size, 0, none⟩ = some (.int .i64 2) ∧ wx.cell? ⟨w.heap.size, 2, none⟩ = some (.slice WA m wc) := fun wx hC =>
    have hB := HB1.out.below hC hz1
    ⟨hB.cell 0, hB.cell 2⟩
  have Hcells := Lib.hid hcells
  clear hcells

  refine wp_region_grow (specOf []) (fun wx => Below (World.heap w1).size w1 wx) (fun w1 w2 => Below w1.heap.size w1 w2) (by kernel_rfl) (by kernel_rfl) (stab_nil) (Below.refl _ _).drew ?_
  refine grow_fix 1 ?_ rfl (by rfl) (by rfl) (fun wx hC hD => ?_) ?_
  rotate_left
  · have hSw := Hcells.out wx hC
    go_simp
    all_goals with_reducible rfl
  try simp only [Act.put, List.setIfInBounds_toArray, List.set_cons_zero, List.set_cons_succ]
  refine grow_fix 2 ?_ rfl (by rfl) (by rfl) (fun wx hC hD => ?_) ?_
  rotate_left
  · have hSw := Hcells.out wx hC
    go_simp
    all_goals with_reducible rfl
  try simp only [Act.put, List.setIfInBounds_toArray, List.set_cons_zero, List.set_cons_succ]
  refine grow_fix 3 ?_ rfl (by rfl) (by rfl) (fun wx hC hD => ?_) ?_
  rotate_left
  · have hSw := Hcells.out wx hC
    go_simp
    all_goals with_reducible rfl
  try simp only [Act.put, List.setIfInBounds_toArray, List.set_cons_zero, List.set_cons_succ]
  refine grow_fix 4 ?_ rfl (by rfl) (by rfl) (fun wx hC hD => ?_) ?_
  rotate_left
  · have hSw := Hcells.out wx hC
    go_simp
    all_goals with_reducible rfl
  try simp only [Act.put, List.setIfInBounds_toArray, List.set_cons_zero, List.set_cons_succ]
  refine grow_fix 5 ?_ rfl (by rfl) (by rfl) (fun wx hC hD => ?_) ?_
  rotate_left
  · have hSw := Hcells.out wx hC
    go_simp
    all_goals with_reducible rfl
  try simp only [Act.put, List.setIfInBounds_toArray, List.set_cons_zero, List.set_cons_succ]
  refine grow_skip 6 (some false) true rfl (by rfl) (by rfl) (by rfl) ?_
  try simp only [Act.put, List.setIfInBounds_toArray, List.set_cons_zero, List.set_cons_succ]
  refine grow_skip 7 (some false) true rfl (by rfl) (by rfl) (by rfl) ?_
  try simp only [Act.put, List.setIfInBounds_toArray, List.set_cons_zero, List.set_cons_succ]
  refine grow_skip 8 (some false) true rfl (by rfl) (by rfl) (by rfl) ?_
  try simp only [Act.put, List.setIfInBounds_toArray, List.set_cons_zero, List.set_cons_succ]
  refine grow_skip 9 (some false) true rfl (by rfl) (by rfl) (by rfl) ?_
  try simp only [Act.put, List.setIfInBounds_toArray, List.set_cons_zero, List.set_cons_succ]
  refine grow_skip 10 (some false) true rfl (by rfl) (by rfl) (by rfl) ?_
  try simp only [Act.put, List.setIfInBounds_toArray, List.set_cons_zero, List.set_cons_succ]
  refine grow_skip 11 (some false) true rfl (by rfl) (by rfl) (by rfl) ?_
  try simp only [Act.put, List.setIfInBounds_toArray, List.set_cons_zero, List.set_cons_succ]
  refine grow_skip 12 (some false) true rfl (by rfl) (by rfl) (by rfl) ?_
  try simp only [Act.put, List.setIfInBounds_toArray, List.set_cons_zero, List.set_cons_succ]
  refine grow_skip 13 (some false) true rfl (by rfl) (by rfl) (by rfl) ?_
  try simp only [Act.put, List.setIfInBounds_toArray, List.set_cons_zero, List.set_cons_succ]
  refine grow_skip 14 (some false) true rfl (by rfl) (by rfl) (by rfl) ?_
  try simp only [Act.put, List.setIfInBounds_toArray, List.set_cons_zero, List.set_cons_succ]
  refine grow_fix 15 ?_ rfl (by rfl) (by rfl) (fun wx hC hD => ?_) ?_
  rotate_left
  · have hSw := Hcells.out wx hC
    go_simp
    all_goals with_reducible rfl
  try simp only [Act.put, List.setIfInBounds_toArray, List.set_cons_zero, List.set_cons_succ]
  refine grow_fix 16 ?_ rfl (by rfl) (by rfl) (fun wx hC hD => ?_) ?_
  rotate_left
  · have hSw := Hcells.out wx hC
    go_simp
    all_goals with_reducible rfl
  try simp only [Act.put, List.setIfInBounds_toArray, List.set_cons_zero, List.set_cons_succ]
  refine grow_nil (fun w2 hC hF => ?_)
  have Hb2 := Lib.hid (Hb1.out.trans (hC.mono Hb1.out.size))
  clear hF hC Hcells HB1 Hb1
  go_wp2
  go_ret
  exact ⟨rfl, Hb2.out⟩

set_option maxHeartbeats 6400000 in
theorem hit2_one (ws : List ByteArray) (T : List (List UInt8)) (h32 : ∀ x ∈ T, x.length ≤ 1048576) (hne : ws.length = 1) : HitOk 2 ws T := by
  intro nm l i hi A c w a0 a1 a2 a3 hQ hT
  obtain ⟨WA, m, wc, CA, n, c2, e, hI⟩ := hQ.is
  simp only [List.cons.injEq, and_true] at e
  obtain ⟨rfl, rfl, rfl, rfl⟩ := e
  have hwn := hI.wn
  have hb1 : Below w.heap.size w (w.alloc (.cells #[.int .i64 2, .string nm, .slice WA m wc, .slice CA n c2] 37)) := (Below.refl _ _).alloc (Nat.le_refl _) _
  have hB1 := Blk.new w 37 #[.int .i64 2, .string nm, .slice WA m wc, .slice CA n c2]
  have hz1 : w.heap.size < (w.alloc (.cells #[.int .i64 2, .string nm, .slice WA m wc, .slice CA n c2] 37)).heap.size := by simp
  have Hb1 := Lib.hid hb1
  have HB1 := Lib.hid hB1
  match ws, hne with
  | [p], _ =>
  have hpi := hI.wds
  obtain ⟨pb, po, hpl, rfl, hpb, hpc⟩ := hpi.at_map (k := 0) (by rw [← hwn]; simp)
  obtain ⟨tb, tq, _, rfl, htb, htc⟩ := sv_at hT hi
  have hx6 := h32 _ (List.getElem_mem hi)
  simp only [List.getElem_cons_zero] at hpc
  obtain rfl : m = 1 := by rw [← hwn]; rfl
  have Fin : Hid (leafM 2 [p] T i = ((str T[i]).toList == p.toList)) := Lib.hid (leaf2 T p i hi)
  have hi0 : (0 : Int) ≤ (i : Int) := by omega
  have hi1 : (i : Int) < (T.length : Int) := by omega
  have cb := fun wx => begins_ref T[i] p wx hx6
  generalize leafM 2 [p] T i = r at *
  generalize begins T[i] p = bg at *
  generalize str T[i] = x at *
  have CB := Lib.hid cb
  clear hQ hT hI hwn hb1 hB1 hpi hpl hx6 h32 cb CB
  go_enter Try.func97, Try.ntmps97
  go_wp2_with fail
  generalize hw1 : (w.alloc (.cells #[.int .i64 2, .string nm, .slice (some ⟨pb, po, none⟩) 1 wc, .slice CA n c2] 37)) = w1 at *
  clear hw1
  have hcells : ∀ wx, Below w1.heap.size w1 wx → wx.cell? ⟨w.heap.size, 0, none⟩ = some (.int .i64 2) ∧ wx.cell? ⟨w.heap.size, 2, none⟩ = some (.slice (some ⟨pb, po, none⟩) 1 wc) ∧ wx.cell? ⟨pb, po + 0, none⟩ = some (.string p) ∧ wx.cell? ⟨pb, po, none⟩ = some (.string p) ∧ wx.cell? ⟨tb, tq + i, none⟩ = some (.string x) := fun wx hC =>
    have hB := HB1.out.below hC hz1
    have hbl := Hb1.out.trans (hC.mono Hb1.out.size)
    ⟨hB.cell 0, hB.cell 2, (hbl.cell (p := ⟨pb, po + 0, none⟩) hpb).trans hpc, (hbl.cell (p := ⟨pb, po, none⟩) hpb).trans hpc, (hbl.cell (p := ⟨tb, tq + i, none⟩) htb).trans htc⟩
  have Hcells := Lib.hid hcells
  clear hcells

  refine wp_region_grow (specOf []) (fun wx => Below (World.heap w1).size w1 wx) (fun w1 w2 => Below w1.heap.size w1 w2) (by kernel_rfl) (by kernel_rfl) (stab_nil) (Below.refl _ _).drew ?_
  refine grow_fix 1 ?_ rfl (by rfl) (by rfl) (fun wx hC hD => ?_) ?_
  rotate_left
  · have hSw := Hcells.out wx hC
    go_simp
    all_goals with_reducible rfl
  try simp only [Act.put, List.setIfInBounds_toArray, List.set_cons_zero, List.set_cons_succ]
  refine grow_fix 2 ?_ rfl (by rfl) (by rfl) (fun wx hC hD => ?_) ?_
  rotate_left
  · have hSw := Hcells.out wx hC
    go_simp
    all_goals with_reducible rfl
  try simp only [Act.put, List.setIfInBounds_toArray, List.set_cons_zero, List.set_cons_succ]
  refine grow_fix 3 ?_ rfl (by rfl) (by rfl) (fun wx hC hD => ?_) ?_
  rotate_left
  · have hSw := Hcells.out wx hC
    go_simp
    all_goals with_reducible rfl
  try simp only [Act.put, List.setIfInBounds_toArray, List.set_cons_zero, List.set_cons_succ]
  refine grow_fix 4 ?_ rfl (by rfl) (by rfl) (fun wx hC hD => ?_) ?_
  rotate_left
  · have hSw := Hcells.out wx hC
    go_simp
    all_goals with_reducible rfl
  try simp only [Act.put, List.setIfInBounds_toArray, List.set_cons_zero, List.set_cons_succ]
  refine grow_fix 5 ?_ rfl (by rfl) (by rfl) (fun wx hC hD => ?_) ?_
  rotate_left
  · have hSw := Hcells.out wx hC
    go_simp
    all_goals with_reducible rfl
  try simp only [Act.put, List.setIfInBounds_toArray, List.set_cons_zero, List.set_cons_succ]
  refine grow_fix 6 ?_ rfl (by rfl) (by rfl) (fun wx hC hD => ?_) ?_
  rotate_left
  · have hSw := Hcells.out wx hC
    go_simp
    all_goals with_reducible rfl
  try simp only [Act.put, List.setIfInBounds_toArray, List.set_cons_zero, List.set_cons_succ]
  refine grow_fix 7 ?_ rfl (by rfl) (by rfl) (fun wx hC hD => ?_) ?_
  rotate_left
  · have hSw := Hcells.out wx hC
    go_simp
    all_goals with_reducible rfl
  try simp only [Act.put, List.setIfInBounds_toArray, List.set_cons_zero, List.set_cons_succ]
  refine grow_fix 8 ?_ rfl (by rfl) (by rfl) (fun wx hC hD => ?_) ?_
  rotate_left
  · have hSw := Hcells.out wx hC
    go_simp
    all_goals with_reducible rfl
  try simp only [Act.put, List.setIfInBounds_toArray, List.set_cons_zero, List.set_cons_succ]
  refine grow_fix 9 ?_ rfl (by rfl) (by rfl) (fun wx hC hD => ?_) ?_
  rotate_left
  · have hSw := Hcells.out wx hC
    go_simp
    all_goals with_reducible rfl
  try simp only [Act.put, List.setIfInBounds_toArray, List.set_cons_zero, List.set_cons_succ]
  refine grow_fix 10 ?_ rfl (by rfl) (by rfl) (fun wx hC hD => ?_) ?_
  rotate_left
  · have hSw := Hcells.out wx hC
    go_simp
    all_goals with_reducible rfl
  try simp only [Act.put, List.setIfInBounds_toArray, List.set_cons_zero, List.set_cons_succ]
  refine grow_fix 11 ?_ rfl (by rfl) (by rfl) (fun wx hC hD => ?_) ?_
  rotate_left
  · have hSw := Hcells.out wx hC
    go_simp
    all_goals with_reducible rfl
  try simp only [Act.put, List.setIfInBounds_toArray, List.set_cons_zero, List.set_cons_succ]
  refine grow_fix 12 ?_ rfl (by rfl) (by rfl) (fun wx hC hD => ?_) ?_
  rotate_left
  · have hSw := Hcells.out wx hC
    go_simp
    all_goals with_reducible rfl
  try simp only [Act.put, List.setIfInBounds_toArray, List.set_cons_zero, List.set_cons_succ]
  refine grow_fix 13 ?_ rfl (by rfl) (by rfl) (fun wx hC hD => ?_) ?_
  rotate_left
  · have hSw := Hcells.out wx hC
    go_simp
    all_goals with_reducible rfl
  try simp only [Act.put, List.setIfInBounds_toArray, List.set_cons_zero, List.set_cons_succ]
  refine grow_fix 14 ?_ rfl (by rfl) (by rfl) (fun wx hC hD => ?_) ?_
  rotate_left
  · have hSw := Hcells.out wx hC
    go_simp
    all_goals with_reducible rfl
  try simp only [Act.put, List.setIfInBounds_toArray, List.set_cons_zero, List.set_cons_succ]
  refine grow_fix 15 ?_ rfl (by rfl) (by rfl) (fun wx hC hD => ?_) ?_
  rotate_left
  · have hSw := Hcells.out wx hC
    go_simp
    all_goals with_reducible rfl
  try simp only [Act.put, List.setIfInBounds_toArray, List.set_cons_zero, List.set_cons_succ]
  refine grow_fix 16 ?_ rfl (by rfl) (by rfl) (fun wx hC hD => ?_) ?_
  rotate_left
  · have hSw := Hcells.out wx hC
    go_simp
    all_goals with_reducible rfl
  try simp only [Act.put, List.setIfInBounds_toArray, List.set_cons_zero, List.set_cons_succ]
  refine grow_nil (fun w2 hC hF => ?_)
  have Hb2 := Lib.hid (Hb1.out.trans (hC.mono Hb1.out.size))
  clear hF hC Hcells HB1 Hb1
  go_wp2
  go_ret
  exact ⟨by rw [Fin.out]; rfl, Hb2.out⟩

set_option maxHeartbeats 6400000 in
theorem hit3_no (ws : List ByteArray) (T : List (List UInt8)) (hne : ws.length ≠ 1) : HitOk 3 ws T := by
  intro nm l i hi A c w a0 a1 a2 a3 hQ hT
  obtain ⟨WA, m, wc, CA, n, c2, e, hI⟩ := hQ.is
  simp only [List.cons.injEq, and_true] at e
  obtain ⟨rfl, rfl, rfl, rfl⟩ := e
  have hwn := hI.wn
  have hb1 : Below w.heap.size w (w.alloc (.cells #[.int .i64 3, .string nm, .slice WA m wc, .slice CA n c2] 37)) := (Below.refl _ _).alloc (Nat.le_refl _) _
  have hB1 := Blk.new w 37 #[.int .i64 3, .string nm, .slice WA m wc, .slice CA n c2]
  have hz1 : w.heap.size < (w.alloc (.cells #[.int .i64 3, .string nm, .slice WA m wc, .slice CA n c2] 37)).heap.size := by simp
  have Hb1 := Lib.hid hb1
  have HB1 := Lib.hid hB1
  have hm1 : ((m : Int) == 1) = false := by rw [beq_eq_false_iff_ne]; omega
  have hm2 : m ≤ 8796093021952 ∨ True := .inr trivial
  rw [leaf3_no T ws i hne]
  clear hQ hT hI hwn hne hb1 hB1 hm2
  go_enter Try.func97, Try.ntmps97
  go_wp2_with fail
  generalize hw1 : (w.alloc (.cells #[.int .i64 3, .string nm, .slice WA m wc, .slice CA n c2] 37)) = w1 at *
  clear hw1
  have hcells : ∀ wx, Below w1.heap.size w1 wx → wx.cell? ⟨w.heap.size, 0, none⟩ = some (.int .i64 3) ∧ wx.cell? ⟨w.heap.size, 2, none⟩ = some (.slice WA m wc) := fun wx hC =>
    have hB := HB1.out.below hC hz1
    ⟨hB.cell 0, hB.cell 2⟩
  have Hcells := Lib.hid hcells
  clear hcells

  refine wp_region_grow (specOf []) (fun wx => Below (World.heap w1).size w1 wx) (fun w1 w2 => Below w1.heap.size w1 w2) (by kernel_rfl) (by kernel_rfl) (stab_nil) (Below.refl _ _).drew ?_
  refine grow_fix 1 ?_ rfl (by rfl) (by rfl) (fun wx hC hD => ?_) ?_
  rotate_left
  · have hSw := Hcells.out wx hC
    go_simp
    all_goals with_reducible rfl
  try simp only [Act.put, List.setIfInBounds_toArray, List.set_cons_zero, List.set_cons_succ]
  refine grow_fix 2 ?_ rfl (by rfl) (by rfl) (fun wx hC hD => ?_) ?_
  rotate_left
  · have hSw := Hcells.out wx hC
    go_simp
    all_goals with_reducible rfl
  try simp only [Act.put, List.setIfInBounds_toArray, List.set_cons_zero, List.set_cons_succ]
  refine grow_fix 3 ?_ rfl (by rfl) (by rfl) (fun wx hC hD => ?_) ?_
  rotate_left
  · have hSw := Hcells.out wx hC
    go_simp
    all_goals with_reducible rfl
  try simp only [Act.put, List.setIfInBounds_toArray, List.set_cons_zero, List.set_cons_succ]
  refine grow_fix 4 ?_ rfl (by rfl) (by rfl) (fun wx hC hD => ?_) ?_
  rotate_left
  · have hSw := Hcells.out wx hC
    go_simp
    all_goals with_reducible rfl
  try simp only [Act.put, List.setIfInBounds_toArray, List.set_cons_zero, List.set_cons_succ]
  refine grow_fix 5 ?_ rfl (by rfl) (by rfl) (fun wx hC hD => ?_) ?_
  rotate_left
  · have hSw := Hcells.out wx hC
    go_simp
    all_goals with_reducible rfl
  try simp only [Act.put, List.setIfInBounds_toArray, List.set_cons_zero, List.set_cons_succ]
  refine grow_skip 6 (some false) true rfl (by rfl) (by rfl) (by rfl) ?_
  try simp only [Act.put, List.setIfInBounds_toArray, List.set_cons_zero, List.set_cons_succ]
  refine grow_skip 7 (some false) true rfl (by rfl) (by rfl) (by rfl) ?_
  try simp only [Act.put, List.setIfInBounds_toArray, List.set_cons_zero, List.set_cons_succ]
  refine grow_skip 8 (some false) true rfl (by rfl) (by rfl) (by rfl) ?_
  try simp only [Act.put, List.setIfInBounds_toArray, List.set_cons_zero, List.set_cons_succ]
  refine grow_skip 9 (some false) true rfl (by rfl) (by rfl) (by rfl) ?_
  try simp only [Act.put, List.setIfInBounds_toArray, List.set_cons_zero, List.set_cons_succ]
  refine grow_skip 10 (some false) true rfl (by rfl) (by rfl) (by rfl) ?_
  try simp only [Act.put, List.setIfInBounds_toArray, List.set_cons_zero, List.set_cons_succ]
  refine grow_skip 11 (some false) true rfl (by rfl) (by rfl) (by rfl) ?_
  try simp only [Act.put, List.setIfInBounds_toArray, List.set_cons_zero, List.set_cons_succ]
  refine grow_skip 12 (some false) true rfl (by rfl) (by rfl) (by rfl) ?_
  try simp only [Act.put, List.setIfInBounds_toArray, List.set_cons_zero, List.set_cons_succ]
  refine grow_skip 13 (some false) true rfl (by rfl) (by rfl) (by rfl) ?_
  try simp only [Act.put, List.setIfInBounds_toArray, List.set_cons_zero, List.set_cons_succ]
  refine grow_skip 14 (some false) true rfl (by rfl) (by rfl) (by rfl) ?_
  try simp only [Act.put, List.setIfInBounds_toArray, List.set_cons_zero, List.set_cons_succ]
  refine grow_fix 15 ?_ rfl (by rfl) (by rfl) (fun wx hC hD => ?_) ?_
  rotate_left
  · have hSw := Hcells.out wx hC
    go_simp
    all_goals with_reducible rfl
  try simp only [Act.put, List.setIfInBounds_toArray, List.set_cons_zero, List.set_cons_succ]
  refine grow_fix 16 ?_ rfl (by rfl) (by rfl) (fun wx hC hD => ?_) ?_
  rotate_left
  · have hSw := Hcells.out wx hC
    go_simp
    all_goals with_reducible rfl
  try simp only [Act.put, List.setIfInBounds_toArray, List.set_cons_zero, List.set_cons_succ]
  refine grow_nil (fun w2 hC hF => ?_)
  have Hb2 := Lib.hid (Hb1.out.trans (hC.mono Hb1.out.size))
  clear hF hC Hcells HB1 Hb1
  go_wp2
  go_ret
  exact ⟨rfl, Hb2.out⟩

set_option maxHeartbeats 6400000 in
theorem hit3_one (ws : List ByteArray) (T : List (List UInt8)) (h32 : ∀ x ∈ T, x.length ≤ 1048576) (hne : ws.length = 1) : HitOk 3 ws T := by
  intro nm l i hi A c w a0 a1 a2 a3 hQ hT
  obtain ⟨WA, m, wc, CA, n, c2, e, hI⟩ := hQ.is
  simp only [List.cons.injEq, and_true] at e
  obtain ⟨rfl, rfl, rfl, rfl⟩ := e
  have hwn := hI.wn
  have hb1 : Below w.heap.size w (w.alloc (.cells #[.int .i64 3, .string nm, .slice WA m wc, .slice CA n c2] 37)) := (Below.refl _ _).alloc (Nat.le_refl _) _
  have hB1 := Blk.new w 37 #[.int .i64 3, .string nm, .slice WA m wc, .slice CA n c2]
  have hz1 : w.heap.size < (w.alloc (.cells #[.int .i64 3, .string nm, .slice WA m wc, .slice CA n c2] 37)).heap.size := by simp
  have Hb1 := Lib.hid hb1
  have HB1 := Lib.hid hB1
  match ws, hne with
  | [p], _ =>
  have hpi := hI.wds
  obtain ⟨pb, po, hpl, rfl, hpb, hpc⟩ := hpi.at_map (k := 0) (by rw [← hwn]; simp)
  obtain ⟨tb, tq, _, rfl, htb, htc⟩ := sv_at hT hi
  have hx6 := h32 _ (List.getElem_mem hi)
  simp only [List.getElem_cons_zero] at hpc
  obtain rfl : m = 1 := by rw [← hwn]; rfl
  have Fin : Hid (leafM 3 [p] T i = begins T[i] p) := Lib.hid (leaf3 T p i hi)
  have hi0 : (0 : Int) ≤ (i : Int) := by omega
  have hi1 : (i : Int) < (T.length : Int) := by omega
  have cb := fun wx => begins_ref T[i] p wx hx6
  generalize leafM 3 [p] T i = r at *
  generalize begins T[i] p = bg at *
  generalize str T[i] = x at *
  have CB := Lib.hid cb
  clear hQ hT hI hwn hb1 hB1 hpi hpl hx6 h32 cb
  go_enter Try.func97, Try.ntmps97
  go_wp2_with fail
  generalize hw1 : (w.alloc (.cells #[.int .i64 3, .string nm, .slice (some ⟨pb, po, none⟩) 1 wc, .slice CA n c2] 37)) = w1 at *
  clear hw1
  have hcells : ∀ wx, Below w1.heap.size w1 wx → wx.cell? ⟨w.heap.size, 0, none⟩ = some (.int .i64 3) ∧ wx.cell? ⟨w.heap.size, 2, none⟩ = some (.slice (some ⟨pb, po, none⟩) 1 wc) ∧ wx.cell? ⟨pb, po + 0, none⟩ = some (.string p) ∧ wx.cell? ⟨pb, po, none⟩ = some (.string p) ∧ wx.cell? ⟨tb, tq + i, none⟩ = some (.string x) := fun wx hC =>
    have hB := HB1.out.below hC hz1
    have hbl := Hb1.out.trans (hC.mono Hb1.out.size)
    ⟨hB.cell 0, hB.cell 2, (hbl.cell (p := ⟨pb, po + 0, none⟩) hpb).trans hpc, (hbl.cell (p := ⟨pb, po, none⟩) hpb).trans hpc, (hbl.cell (p := ⟨tb, tq + i, none⟩) htb).trans htc⟩
  have Hcells := Lib.hid hcells
  clear hcells

  refine wp_region_grow (specOf [(13, ⟨Unit, fun _ => (.bool bg), fun _ _ => True⟩)]) (fun wx => Below (World.heap w1).size w1 wx) (fun w1 w2 => Below w1.heap.size w1 w2) (by kernel_rfl) (by kernel_rfl) (stab_cons (fun _ _ _ _ h => h) (stab_nil)) (Below.refl _ _).drew ?_
  refine grow_fix 1 ?_ rfl (by rfl) (by rfl) (fun wx hC hD => ?_) ?_
  rotate_left
  · have hSw := Hcells.out wx hC
    go_simp
    all_goals with_reducible rfl
  try simp only [Act.put, List.setIfInBounds_toArray, List.set_cons_zero, List.set_cons_succ]
  refine grow_fix 2 ?_ rfl (by rfl) (by rfl) (fun wx hC hD => ?_) ?_
  rotate_left
  · have hSw := Hcells.out wx hC
    go_simp
    all_goals with_reducible rfl
  try simp only [Act.put, List.setIfInBounds_toArray, List.set_cons_zero, List.set_cons_succ]
  refine grow_fix 3 ?_ rfl (by rfl) (by rfl) (fun wx hC hD => ?_) ?_
  rotate_left
  · have hSw := Hcells.out wx hC
    go_simp
    all_goals with_reducible rfl
  try simp only [Act.put, List.setIfInBounds_toArray, List.set_cons_zero, List.set_cons_succ]
  refine grow_fix 4 ?_ rfl (by rfl) (by rfl) (fun wx hC hD => ?_) ?_
  rotate_left
  · have hSw := Hcells.out wx hC
    go_simp
    all_goals with_reducible rfl
  try simp only [Act.put, List.setIfInBounds_toArray, List.set_cons_zero, List.set_cons_succ]
  refine grow_fix 5 ?_ rfl (by rfl) (by rfl) (fun wx hC hD => ?_) ?_
  rotate_left
  · have hSw := Hcells.out wx hC
    go_simp
    all_goals with_reducible rfl
  try simp only [Act.put, List.setIfInBounds_toArray, List.set_cons_zero, List.set_cons_succ]
  refine grow_fix 6 ?_ rfl (by rfl) (by rfl) (fun wx hC hD => ?_) ?_
  rotate_left
  · have hSw := Hcells.out wx hC
    go_simp
    all_goals with_reducible rfl
  try simp only [Act.put, List.setIfInBounds_toArray, List.set_cons_zero, List.set_cons_succ]
  refine grow_fix 7 ?_ rfl (by rfl) (by rfl) (fun wx hC hD => ?_) ?_
  rotate_left
  · have hSw := Hcells.out wx hC
    go_simp
    all_goals with_reducible rfl
  try simp only [Act.put, List.setIfInBounds_toArray, List.set_cons_zero, List.set_cons_succ]
  refine grow_fix 8 ?_ rfl (by rfl) (by rfl) (fun wx hC hD => ?_) ?_
  rotate_left
  · have hSw := Hcells.out wx hC
    go_simp
    all_goals with_reducible rfl
  try simp only [Act.put, List.setIfInBounds_toArray, List.set_cons_zero, List.set_cons_succ]
  refine grow_fix 9 ?_ rfl (by rfl) (by rfl) (fun wx hC hD => ?_) ?_
  rotate_left
  · have hSw := Hcells.out wx hC
    go_simp
    all_goals with_reducible rfl
  try simp only [Act.put, List.setIfInBounds_toArray, List.set_cons_zero, List.set_cons_succ]
  refine grow_fix 10 ?_ rfl (by rfl) (by rfl) (fun wx hC hD => ?_) ?_
  rotate_left
  · have hSw := Hcells.out wx hC
    go_simp
    all_goals with_reducible rfl
  try simp only [Act.put, List.setIfInBounds_toArray, List.set_cons_zero, List.set_cons_succ]
  refine grow_fix 11 ?_ rfl (by rfl) (by rfl) (fun wx hC hD => ?_) ?_
  rotate_left
  · have hSw := Hcells.out wx hC
    go_simp
    all_goals with_reducible rfl
  try simp only [Act.put, List.setIfInBounds_toArray, List.set_cons_zero, List.set_cons_succ]
  refine grow_fix 12 ?_ rfl (by rfl) (by rfl) (fun wx hC hD => ?_) ?_
  rotate_left
  · have hSw := Hcells.out wx hC
    go_simp
    all_goals with_reducible rfl
  try simp only [Act.put, List.setIfInBounds_toArray, List.set_cons_zero, List.set_cons_succ]
  refine grow_fix 13 ?_ rfl (by rfl) (by rfl) (fun wx hC hD => ?_) ?_
  rotate_left
  · have hSw := Hcells.out wx hC
    go_simp
    all_goals with_reducible rfl
  try simp only [Act.put, List.setIfInBounds_toArray, List.set_cons_zero, List.set_cons_succ]
  refine grow_give 14 _ rfl (by rfl) (by rfl) (fun wx hC hD => ?_) (fun x => ?_)
  · refine give_enter (f := ?_) (args := ?_) ?_ ?_
    rotate_left 2
    · have hSw := Hcells.out wx hC
      go_simp
      all_goals first | with_reducible rfl | (refine ⟨?_, ?_⟩ <;> with_reducible rfl)
    exact calls_cst hC ((CB.out wx).mono fun e w2 h => ⟨h.1, h.2 ▸ Below.refl _ _⟩)
  obtain ⟨⟩ := x
  try simp only [Act.put, List.setIfInBounds_toArray, List.set_cons_zero, List.set_cons_succ]
  refine grow_fix 15 ?_ rfl (by rfl) (by rfl) (fun wx hC hD => ?_) ?_
  rotate_left
  · have hSw := Hcells.out wx hC
    go_simp
    all_goals with_reducible rfl
  try simp only [Act.put, List.setIfInBounds_toArray, List.set_cons_zero, List.set_cons_succ]
  refine grow_fix 16 ?_ rfl (by rfl) (by rfl) (fun wx hC hD => ?_) ?_
  rotate_left
  · have hSw := Hcells.out wx hC
    go_simp
    all_goals with_reducible rfl
  try simp only [Act.put, List.setIfInBounds_toArray, List.set_cons_zero, List.set_cons_succ]
  refine grow_nil (fun w2 hC hF => ?_)
  have Hb2 := Lib.hid (Hb1.out.trans (hC.mono Hb1.out.size))
  clear hF hC Hcells HB1 Hb1
  go_wp2
  go_ret
  exact ⟨by rw [Fin.out]; rfl, Hb2.out⟩

end Go.Proofs.Ytjfconddkfihcaa.Mk
