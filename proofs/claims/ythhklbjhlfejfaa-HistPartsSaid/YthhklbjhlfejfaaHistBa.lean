/- slices.Grow of nil, slices.Concat of rows of buckets. -/
import Derived.Test.YthhklbjhlfejfaaHistAb
namespace Go.Proofs.Ythhklbjhlfejfaa.Hi
open Go.RowKit
set_option maxRecDepth 20000
/-- A row as it lies in a row of rows. -/
structure Rw where
  A : Option Addr
  c : Nat
  l : List Bk
def Rw.val (r : Rw) : Value := .slice r.A r.l.length r.c
/-- Rows in memory, below a block. -/
structure RowsIn (w : World) (B : Nat) (A : Option Addr) (rs : List Rw) : Prop where
  rd : Reads w B 1 A rs.length (rs.map Rw.val)
  row : ∀ r ∈ rs, InB w B r.A r.c r.l ∧ r.l.length ≤ 1000
theorem RowsIn.below {w w' : World} {B : Nat} {A : Option Addr} {rs : List Rw} (h : RowsIn w B A rs) (hb : Below B w w') : RowsIn w' B A rs :=
  ⟨h.rd.below hb, fun r hr => ⟨(h.row r hr).1.below hb, (h.row r hr).2⟩⟩
def lensF (rs : List Rw) : Nat := (rs.map fun r => r.l.length).sum
def flatF (rs : List Rw) : List Bk := rs.flatMap Rw.l
theorem flatF_len (rs : List Rw) : (flatF rs).length = lensF rs := by
  unfold flatF lensF
  rw [List.length_flatMap]
theorem flatF_take (rs : List Rw) (k : Nat) (h : k < rs.length) : flatF (rs.take (k + 1)) = flatF (rs.take k) ++ rs[k].l := by
  unfold flatF
  rw [List.take_succ_eq_append_getElem h, List.flatMap_append, List.flatMap_singleton]
theorem lensF_take (rs : List Rw) (k : Nat) (h : k < rs.length) : lensF (rs.take (k + 1)) = lensF (rs.take k) + rs[k].l.length := by
  rw [← flatF_len, ← flatF_len, flatF_take rs k h, List.length_append]
theorem lensF_le (rs : List Rw) (hr : ∀ r ∈ rs, r.l.length ≤ 1000) : ∀ k, k ≤ rs.length → lensF (rs.take k) ≤ k * 1000
  | 0, _ => by simp [lensF]
  | k + 1, h => by
    rw [lensF_take rs k h]
    have := lensF_le rs hr k (by omega)
    have := hr _ (List.getElem_mem (show k < rs.length by omega))
    omega

set_option maxHeartbeats 1600000 in
theorem grow_any (n : Nat) (w : World) (hn : n ≤ 900000) : Calls Try.prog 37 #[.slice none 0 0, .int .i64 (n : Int)] w fun e w' => ∃ v, e = .returned v ∧ Row w.heap.size w w' v [] := by
  obtain ⟨inf, hi0, hz0, hzs, hzb⟩ := info_parts bk_info
  rcases Nat.eq_zero_or_pos n with rfl | h0
  · go_enter Try.func37, Try.ntmps37
    go_wp2
    go_ret
    exact ⟨.slice none 0 0, rfl, Row.start _ _ _ (Below.refl _ _)⟩
  · obtain ⟨G, hG⟩ : ∃ G, G = grownCap w n 0 48 := ⟨_, rfl⟩
    have hGn : n ≤ G := by rw [hG]; exact grownCap_ge w _ _ _
    have hG63 : G ≤ maxLen := by rw [hG]; exact grownCap_le_maxLen w _ _ _ (by unfold maxLen; omega)
    obtain ⟨ZZ, hZZ⟩ : ∃ ZZ, ZZ = Builtin.zeroCells (Value.agg #[.int .i64 0, .int .i64 0]).cells n ++ Builtin.zeroCells (Value.agg #[.int .i64 0, .int .i64 0]).cells (G - n) := ⟨_, rfl⟩
    have hZl : ZZ.size = G * 2 := by
      rw [hZZ]
      simp [Builtin.zeroCells, Value.cells]
      omega
    have hrz : ∀ ty, (Builtin.append_ #[29, 3] ty #[.slice none 0 0, .int .i64 (n : Int)]).run Try.prog w = .ok (.slice (some ⟨w.heap.size, 0, none⟩) n G) (w.drew.alloc (.cells ZZ 48)) := fun ty => by
      have h := Lib.run_append_grow_zeros w 29 3 ty 48 inf _ .i64 .i64 Try.underlying29 Try.underlying3 hi0 hz0 none 0 0 [] (run_firstCells_none w.drew _ 0 0 0) n h0 (by omega) (by omega) (by omega) (by rw [hzb]; omega) (by rw [hzb]; exact growslice_fits (by omega) (by omega))
      rw [Nat.zero_add, ← hG] at h
      rw [h, hZZ]
      simp
    have F : Hid (Row w.heap.size w (w.drew.alloc (.cells ZZ 48)) (.slice (some ⟨w.heap.size, 0, none⟩) 0 G) []) := Lib.hid ⟨⟨rfl, .inr ⟨w.heap.size, G, ZZ, rfl, Nat.le_refl _, heap_alloc_new w.drew _, Nat.zero_le _, hG63, hZl, by simp [bkC]⟩⟩, (Below.refl w.heap.size w).drew.alloc (Nat.le_refl _) _⟩
    clear hZZ hG hZl
    go_enter Try.func37, Try.ntmps37
    go_wp2_with (at_builtin; refine Lib.wpList_append_run _ rfl _ _ _ _ rfl _ _ rfl rfl _ _ (hrz _) ?_)
    go_ret
    exact ⟨_, rfl, F.out⟩
end Go.Proofs.Ythhklbjhlfejfaa.Hi
