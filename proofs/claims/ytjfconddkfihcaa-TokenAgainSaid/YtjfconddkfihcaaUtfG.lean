/- utf.put at every rune. -/
import Derived.Test.YtjfconddkfihcaaUtfF
namespace Go.Proofs.Ytjfconddkfihcaa.Ut
open Go.RowKit
set_option maxRecDepth 20000

set_option maxRecDepth 100000 in
set_option maxHeartbeats 1600000 in
theorem put_3 (base n : Nat) (v : Value) (xs : List Value) (r : Nat) (h1 : 2048 ≤ r) (h2 : r < 65536) (h3 : ¬ (55296 ≤ r ∧ r ≤ 57343)) (w : World) (hown : w.ownsRow base 5 1 v n xs) (hbase : base ≤ w.heap.size) (hn : n ≤ 140737488000000) :
    Calls Try.prog 80 #[v, .int .i64 ((r : Int))] w (PutPost w base n v xs (encN r)) := by
  obtain ⟨i0, hi0, hz0, hz1, hz2⟩ := info_parts u8_info
  have Hown := Lib.hid hown
  clear hown
  have hhf : halfB (r : Int) = false := by simp only [halfB, Bool.and_eq_false_iff, decide_eq_false_iff_not]; omega
  have hx1 : bits BinOp.or IntKind.u8 128 (bits BinOp.and IntKind.i64 ((r : Int)) 63 % 256) = 128 + (r : Int) % 64 := and_or r _ (by omega) (by omega)
  have hx2 : bits BinOp.or IntKind.u8 128 (bits BinOp.and IntKind.i64 ((r : Int) / 64) 63 % 256) = 128 + (r : Int) / 64 % 64 := and_or (r / 64) _ (by omega) (by omega)
  have fin : Hid ([.int .u8 (224 + (r : Int) / 4096), .int .u8 (128 + (r : Int) / 64 % 64), .int .u8 (128 + (r : Int) % 64)] = bv (encN r) ∧ 3 = (encN r).length) := by
    show _ ∧ _
    unfold encN
    rw [if_neg (by omega), if_neg (by omega), if_pos (by omega)]
    simp only [bv, List.map_cons, List.map_nil, List.length_cons, List.length_nil, and_true, Nat.zero_add, List.cons.injEq, Value.int.injEq, true_and]
    refine ⟨by rw [B_int _ (by omega)]; omega, by rw [B_int _ (by omega)]; omega, by rw [B_int _ (by omega)]; omega⟩
  have g1 : (2048 : Int) ≤ (r : Int) := by omega
  have g2 : (r : Int) ≤ 65535 := by omega
  clear h1 h2 h3
  go_enter Try.func80, Try.ntmps80
  go_wp2_with (first
    | (go_at_call 108; refine (half_any _ _).mono ?_; rintro e w' ⟨rfl, rfl⟩)
    | (refine wpList_lss (o := ⟨some 60, _, _, _, _, _⟩) rfl _ _ _ _ rfl .i64 _ 65536 rfl rfl true (by rw [decide_eq_true_eq]; omega) ?_)
    | (refine wpList_append_own (o := ⟨some 76, _, _, _, _, _⟩) _ rfl _ _ 102 rfl base 5 i0 (.int .u8 0) 1 1 Try.underlying102 hi0 hz0 hz1 hz2 rfl (by decide) v n xs rfl (Hown.out.alloc _) ⟨w.heap.size, 0, none⟩ 3 3 [.int .u8 (224 + (r : Int) / 4096), .int .u8 (128 + (r : Int) / 64 % 64), .int .u8 (128 + (r : Int) % 64)] rfl rfl (World.news_of_block (cs := [.int .u8 (224 + (r : Int) / 4096), .int .u8 (128 + (r : Int) / 64 % 64), .int .u8 (128 + (r : Int) % 64)].toArray) (t := 5) (fr := (0, 0)) (heap_alloc_new w _)) (by simp [Value.oneCell']) (by unfold maxLen; omega) (by omega) (by simp; omega) ?_; intro v' w3 hown3 hg3 _))
  go_ret
  exact put_end Hown.out hown3 hg3 fin.out
set_option maxRecDepth 100000 in
set_option maxHeartbeats 1600000 in
theorem put_4 (base n : Nat) (v : Value) (xs : List Value) (r : Nat) (h1 : 65536 ≤ r) (h2 : r ≤ 1114111) (w : World) (hown : w.ownsRow base 5 1 v n xs) (hbase : base ≤ w.heap.size) (hn : n ≤ 140737488000000) :
    Calls Try.prog 80 #[v, .int .i64 ((r : Int))] w (PutPost w base n v xs (encN r)) := by
  obtain ⟨i0, hi0, hz0, hz1, hz2⟩ := info_parts u8_info
  have Hown := Lib.hid hown
  clear hown
  have hhf : halfB (r : Int) = false := by simp only [halfB, Bool.and_eq_false_iff, decide_eq_false_iff_not]; omega
  have hx1 : bits BinOp.or IntKind.u8 128 (bits BinOp.and IntKind.i64 ((r : Int)) 63 % 256) = 128 + (r : Int) % 64 := and_or r _ (by omega) (by omega)
  have hx2 : bits BinOp.or IntKind.u8 128 (bits BinOp.and IntKind.i64 ((r : Int) / 64) 63 % 256) = 128 + (r : Int) / 64 % 64 := and_or (r / 64) _ (by omega) (by omega)
  have hx3 : bits BinOp.or IntKind.u8 128 (bits BinOp.and IntKind.i64 ((r : Int) / 4096) 63 % 256) = 128 + (r : Int) / 4096 % 64 := and_or (r / 4096) _ (by omega) (by omega)
  have fin : Hid ([.int .u8 (240 + (r : Int) / 262144), .int .u8 (128 + (r : Int) / 4096 % 64), .int .u8 (128 + (r : Int) / 64 % 64), .int .u8 (128 + (r : Int) % 64)] = bv (encN r) ∧ 4 = (encN r).length) := by
    show _ ∧ _
    unfold encN
    rw [if_neg (by omega), if_neg (by omega), if_neg (by omega)]
    simp only [bv, List.map_cons, List.map_nil, List.length_cons, List.length_nil, and_true, Nat.zero_add, List.cons.injEq, Value.int.injEq, true_and]
    refine ⟨by rw [B_int _ (by omega)]; omega, by rw [B_int _ (by omega)]; omega, by rw [B_int _ (by omega)]; omega, by rw [B_int _ (by omega)]; omega⟩
  have g1 : (65535 : Int) < (r : Int) := by omega
  have g2 : (r : Int) ≤ 1114111 := by omega
  clear h1 h2
  go_enter Try.func80, Try.ntmps80
  go_wp2_with (first
    | (go_at_call 108; refine (half_any _ _).mono ?_; rintro e w' ⟨rfl, rfl⟩)
    | (refine wpList_lss (o := ⟨some 60, _, _, _, _, _⟩) rfl _ _ _ _ rfl .i64 _ 65536 rfl rfl false (by rw [decide_eq_false_iff_not]; omega) ?_)
    | (refine wpList_append_own (o := ⟨some 35, _, _, _, _, _⟩) _ rfl _ _ 102 rfl base 5 i0 (.int .u8 0) 1 1 Try.underlying102 hi0 hz0 hz1 hz2 rfl (by decide) v n xs rfl (Hown.out.alloc _) ⟨w.heap.size, 0, none⟩ 4 4 [.int .u8 (240 + (r : Int) / 262144), .int .u8 (128 + (r : Int) / 4096 % 64), .int .u8 (128 + (r : Int) / 64 % 64), .int .u8 (128 + (r : Int) % 64)] rfl rfl (World.news_of_block (cs := [.int .u8 (240 + (r : Int) / 262144), .int .u8 (128 + (r : Int) / 4096 % 64), .int .u8 (128 + (r : Int) / 64 % 64), .int .u8 (128 + (r : Int) % 64)].toArray) (t := 5) (fr := (0, 0)) (heap_alloc_new w _)) (by simp [Value.oneCell']) (by unfold maxLen; omega) (by omega) (by simp; omega) ?_; intro v' w3 hown3 hg3 _))
  go_ret
  exact put_end Hown.out hown3 hg3 fin.out

/-- utf.put: a rune's bytes behind others. -/
theorem put_any (base n : Nat) (v : Value) (xs : List Value) (r : Int) (w : World) (hown : w.ownsRow base 5 1 v n xs) (hbase : base ≤ w.heap.size) (hn : n ≤ 140737488000000) :
    Calls Try.prog 80 #[v, .int .i64 r] w (PutPost w base n v xs (enc r)) := by
  unfold enc fix
  by_cases h : r < 0 ∨ 1114111 < r ∨ (55296 ≤ r ∧ r ≤ 57343)
  · rw [if_pos h]; exact put_bad base n v xs r h w hown hbase hn
  · rw [if_neg h]
    obtain ⟨k, rfl⟩ := Int.eq_ofNat_of_zero_le (show 0 ≤ r by omega)
    rw [Int.toNat_natCast]
    by_cases h1 : k < 128
    · exact put_1 base n v xs k h1 w hown hbase hn
    · by_cases h2 : k < 2048
      · exact put_2 base n v xs k (by omega) h2 w hown hbase hn
      · by_cases h3 : k < 65536
        · exact put_3 base n v xs k (by omega) h3 (by omega) w hown hbase hn
        · exact put_4 base n v xs k (by omega) (by omega) w hown hbase hn
end Go.Proofs.Ytjfconddkfihcaa.Ut
