/- utf.put, Encode, Fold, Valid. -/
import Derived.Test.YtjfconddkfihcaaUtfE
namespace Go.Proofs.Ytjfconddkfihcaa.Ut
open Go.RowKit
set_option maxRecDepth 20000

theorem u8_info : (Try.prog.info? 5).map (fun i => (i.zero, i.size, i.bytes)) = some (some (.int .u8 0), 1, 1) := by kernel_rfl
def bv (l : List UInt8) : List Value := l.map (fun b => Value.int .u8 (b.toNat : Int))
theorem B_int (n : Nat) (h : n < 256) : ((B n).toNat : Int) = (n : Int) := by rw [B_toNat n h]
theorem bv_len (l : List UInt8) : (bv l).length = l.length := by simp [bv]
theorem bv_append (a b : List UInt8) : bv (a ++ b) = bv a ++ bv b := by simp [bv]
/-- What putting a rune leaves. -/
def PutPost (w : World) (base n : Nat) (v : Value) (xs : List Value) (bs : List UInt8) (e : Ending) (w' : World) : Prop :=
  ∃ v', e = .returned v' ∧ w'.ownsRow base 5 1 v' (n + bs.length) (xs ++ bv bs) ∧ w.grownBy w' v.ownBlock

theorem or_all : (∀ y : Fin 32, bits BinOp.or IntKind.u8 192 ((y.val : Nat) : Int) = ((192 + y.val : Nat) : Int)) ∧ (∀ y : Fin 64, bits BinOp.or IntKind.u8 128 ((y.val : Nat) : Int) = ((128 + y.val : Nat) : Int)) ∧
    (∀ y : Fin 16, bits BinOp.or IntKind.u8 224 ((y.val : Nat) : Int) = ((224 + y.val : Nat) : Int)) ∧ (∀ y : Fin 8, bits BinOp.or IntKind.u8 240 ((y.val : Nat) : Int) = ((240 + y.val : Nat) : Int)) := by decide +kernel
theorem or192 (y : Nat) (h : y < 32) : bits BinOp.or IntKind.u8 192 (y : Int) = ((192 + y : Nat) : Int) := or_all.1 ⟨y, h⟩
theorem or128 (y : Nat) (h : y < 64) : bits BinOp.or IntKind.u8 128 (y : Int) = ((128 + y : Nat) : Int) := or_all.2.1 ⟨y, h⟩
theorem or224 (y : Nat) (h : y < 16) : bits BinOp.or IntKind.u8 224 (y : Int) = ((224 + y : Nat) : Int) := or_all.2.2.1 ⟨y, h⟩
theorem or240 (y : Nat) (h : y < 8) : bits BinOp.or IntKind.u8 240 (y : Int) = ((240 + y : Nat) : Int) := or_all.2.2.2 ⟨y, h⟩

def k64 : Int := 65536
theorem put_end {w w3 : World} {base n m : Nat} {v v' : Value} {xs news : List Value} {bs : List UInt8} (_hown : w.ownsRow base 5 1 v n xs) (hown3 : w3.ownsRow base 5 1 v' (n + m) (xs ++ news)) (hg : (w.alloc (.cells news.toArray 5)).grownBy w3 v.ownBlock) (hnews : news = bv bs ∧ m = bs.length) : PutPost w base n v xs bs (.returned v') w3 := by
  obtain ⟨rfl, rfl⟩ := hnews
  exact ⟨v', rfl, hown3, ⟨hg.os, hg.tape, hg.output, Nat.le_trans (by simp) hg.size, fun k hk hne => (hg.block k (by simp; omega) hne).trans (Below.heap_alloc w _ k hk)⟩⟩
theorem i64_and63 (n : Nat) (h : n < 9223372036854775808) : bits BinOp.and IntKind.i64 (n : Int) 63 = ((n % 64 : Nat) : Int) := by
  have h1 : (BitVec.ofInt 64 (n : Int)).toNat = n := by
    rw [BitVec.ofInt_natCast, BitVec.toNat_ofNat]; exact Nat.mod_eq_of_lt (by omega)
  show IntKind.i64.wrap ((BitVec.ofInt 64 (n : Int) &&& BitVec.ofInt 64 63).toNat : Int) = _
  rw [BitVec.toNat_and, h1, show (BitVec.ofInt 64 63).toNat = 63 from by decide, IntKind.wrap_i64]
  have := Nat.and_two_pow_sub_one_eq_mod n 6
  simp only [show 2 ^ 6 - 1 = 63 from rfl, show 2 ^ 6 = 64 from rfl] at this
  rw [this]
  omega
theorem and_or (n : Nat) (z : Int) (h : n < 9223372036854775808) (hz : z = n) : bits BinOp.or IntKind.u8 128 (bits BinOp.and IntKind.i64 z 63 % 256) = 128 + z % 64 := by
  subst hz
  rw [i64_and63 n h, show ((n % 64 : Nat) : Int) % 256 = ((n % 64 : Nat) : Int) from by omega, or128 _ (by omega)]
  omega
set_option maxRecDepth 100000 in
set_option maxHeartbeats 1600000 in
theorem put_1 (base n : Nat) (v : Value) (xs : List Value) (r : Nat) (h1 : r < 128) (w : World) (hown : w.ownsRow base 5 1 v n xs) (hbase : base ≤ w.heap.size) (hn : n ≤ 140737488000000) :
    Calls Try.prog 80 #[v, .int .i64 ((r : Int))] w (PutPost w base n v xs (encN r)) := by
  obtain ⟨i0, hi0, hz0, hz1, hz2⟩ := info_parts u8_info
  have Hown := Lib.hid hown
  clear hown
  have hhf : halfB (r : Int) = false := by simp only [halfB, Bool.and_eq_false_iff, decide_eq_false_iff_not]; omega
  have fin : Hid ([.int .u8 ((r : Int))] = bv (encN r) ∧ 1 = (encN r).length) := by
    show _ ∧ _
    unfold encN
    rw [if_pos (by omega)]
    simp only [bv, List.map_cons, List.map_nil, List.length_cons, List.length_nil, and_true, Nat.zero_add, List.cons.injEq, Value.int.injEq, true_and]
    rw [B_int _ (by omega)]
  go_enter Try.func80, Try.ntmps80
  go_wp2_with (first
    | (go_at_call 108; refine (half_any _ _).mono ?_; rintro e w' ⟨rfl, rfl⟩)
    | (refine wpList_append_own (o := ⟨some 43, _, _, _, _, _⟩) _ rfl _ _ 102 rfl base 5 i0 (.int .u8 0) 1 1 Try.underlying102 hi0 hz0 hz1 hz2 rfl (by decide) v n xs rfl (Hown.out.alloc _) ⟨w.heap.size, 0, none⟩ 1 1 [.int .u8 ((r : Int))] rfl rfl (World.news_of_block (cs := [.int .u8 ((r : Int))].toArray) (t := 5) (fr := (0, 0)) (heap_alloc_new w _)) (by simp [Value.oneCell']) (by unfold maxLen; omega) (by omega) (by simp; omega) ?_; intro v' w3 hown3 hg3 _))
  go_ret
  exact put_end Hown.out hown3 hg3 fin.out
set_option maxRecDepth 100000 in
set_option maxHeartbeats 1600000 in
theorem put_2 (base n : Nat) (v : Value) (xs : List Value) (r : Nat) (h1 : 128 ≤ r) (h2 : r < 2048) (w : World) (hown : w.ownsRow base 5 1 v n xs) (hbase : base ≤ w.heap.size) (hn : n ≤ 140737488000000) :
    Calls Try.prog 80 #[v, .int .i64 ((r : Int))] w (PutPost w base n v xs (encN r)) := by
  obtain ⟨i0, hi0, hz0, hz1, hz2⟩ := info_parts u8_info
  have Hown := Lib.hid hown
  clear hown
  have hhf : halfB (r : Int) = false := by simp only [halfB, Bool.and_eq_false_iff, decide_eq_false_iff_not]; omega
  have hx1 : bits BinOp.or IntKind.u8 128 (bits BinOp.and IntKind.i64 ((r : Int)) 63 % 256) = 128 + (r : Int) % 64 := and_or r _ (by omega) (by omega)
  have fin : Hid ([.int .u8 (192 + (r : Int) / 64), .int .u8 (128 + (r : Int) % 64)] = bv (encN r) ∧ 2 = (encN r).length) := by
    show _ ∧ _
    unfold encN
    rw [if_neg (by omega), if_pos (by omega)]
    simp only [bv, List.map_cons, List.map_nil, List.length_cons, List.length_nil, and_true, Nat.zero_add, List.cons.injEq, Value.int.injEq, true_and]
    refine ⟨by rw [B_int _ (by omega)]; omega, by rw [B_int _ (by omega)]; omega⟩
  go_enter Try.func80, Try.ntmps80
  go_wp2_with (first
    | (go_at_call 108; refine (half_any _ _).mono ?_; rintro e w' ⟨rfl, rfl⟩)
    | (refine wpList_append_own (o := ⟨some 57, _, _, _, _, _⟩) _ rfl _ _ 102 rfl base 5 i0 (.int .u8 0) 1 1 Try.underlying102 hi0 hz0 hz1 hz2 rfl (by decide) v n xs rfl (Hown.out.alloc _) ⟨w.heap.size, 0, none⟩ 2 2 [.int .u8 (192 + (r : Int) / 64), .int .u8 (128 + (r : Int) % 64)] rfl rfl (World.news_of_block (cs := [.int .u8 (192 + (r : Int) / 64), .int .u8 (128 + (r : Int) % 64)].toArray) (t := 5) (fr := (0, 0)) (heap_alloc_new w _)) (by simp [Value.oneCell']) (by unfold maxLen; omega) (by omega) (by simp; omega) ?_; intro v' w3 hown3 hg3 _))
  go_ret
  exact put_end Hown.out hown3 hg3 fin.out
set_option maxRecDepth 100000 in
set_option maxHeartbeats 1600000 in
theorem put_bad (base n : Nat) (v : Value) (xs : List Value) (r : Int) (hbad : r < 0 ∨ 1114111 < r ∨ (55296 ≤ r ∧ r ≤ 57343)) (w : World) (hown : w.ownsRow base 5 1 v n xs) (hbase : base ≤ w.heap.size) (hn : n ≤ 140737488000000) :
    Calls Try.prog 80 #[v, .int .i64 r] w (PutPost w base n v xs (encN 65533)) := by
  obtain ⟨i0, hi0, hz0, hz1, hz2⟩ := info_parts u8_info
  have Hown := Lib.hid hown
  clear hown
  have hx1 : bits BinOp.or IntKind.u8 128 (bits BinOp.and IntKind.i64 65533 63 % 256) = 189 := by decide +kernel
  have hx2 : bits BinOp.or IntKind.u8 128 (bits BinOp.and IntKind.i64 1023 63 % 256) = 191 := by decide +kernel
  have hx3 : bits BinOp.or IntKind.u8 224 15 = 239 := by decide +kernel
  have fin : Hid ([.int .u8 239, .int .u8 191, .int .u8 189] = bv (encN 65533) ∧ 3 = (encN 65533).length) := by
    show _ ∧ _
    unfold encN
    rw [if_neg (by omega), if_neg (by omega), if_pos (by omega)]
    exact ⟨by simp only [bv, List.map_cons, List.map_nil, B_int (224 + 65533 / 4096) (by omega), B_int (128 + 65533 / 64 % 64) (by omega), B_int (128 + 65533 % 64) (by omega)]; rfl, rfl⟩
  rcases hbad with h | h | h
  · go_enter Try.func80, Try.ntmps80
    go_wp2_with (first
      | (refine wpList_append_own (o := ⟨some 76, _, _, _, _, _⟩) _ rfl _ _ 102 rfl base 5 i0 (.int .u8 0) 1 1 Try.underlying102 hi0 hz0 hz1 hz2 rfl (by decide) v n xs rfl (Hown.out.alloc _) ⟨w.heap.size, 0, none⟩ 3 3 [.int .u8 239, .int .u8 191, .int .u8 189] rfl rfl (World.news_of_block (cs := #[.int .u8 239, .int .u8 191, .int .u8 189]) (t := 5) (fr := (0, 0)) (heap_alloc_new w _)) (by simp [Value.oneCell']) (by unfold maxLen; omega) (by omega) (by simp; omega) ?_; intro v' w3 hown3 hg3 _))
    go_ret
    exact put_end Hown.out hown3 hg3 fin.out
  · have h' : ¬ r < 0 := by omega
    go_enter Try.func80, Try.ntmps80
    go_wp2_with (first
      | (refine wpList_append_own (o := ⟨some 76, _, _, _, _, _⟩) _ rfl _ _ 102 rfl base 5 i0 (.int .u8 0) 1 1 Try.underlying102 hi0 hz0 hz1 hz2 rfl (by decide) v n xs rfl (Hown.out.alloc _) ⟨w.heap.size, 0, none⟩ 3 3 [.int .u8 239, .int .u8 191, .int .u8 189] rfl rfl (World.news_of_block (cs := #[.int .u8 239, .int .u8 191, .int .u8 189]) (t := 5) (fr := (0, 0)) (heap_alloc_new w _)) (by simp [Value.oneCell']) (by unfold maxLen; omega) (by omega) (by simp; omega) ?_; intro v' w3 hown3 hg3 _))
    go_ret
    exact put_end Hown.out hown3 hg3 fin.out
  · have h' : ¬ r < 0 := by omega
    have h'' : ¬ 1114111 < r := by omega
    have hh : halfB r = true := by simp only [halfB, Bool.and_eq_true, decide_eq_true_eq]; exact h
    clear h
    go_enter Try.func80, Try.ntmps80
    go_wp2_with (first
      | (go_at_call 108; refine (half_any _ _).mono ?_; rintro e w' ⟨rfl, rfl⟩)
      | (refine wpList_append_own (o := ⟨some 76, _, _, _, _, _⟩) _ rfl _ _ 102 rfl base 5 i0 (.int .u8 0) 1 1 Try.underlying102 hi0 hz0 hz1 hz2 rfl (by decide) v n xs rfl (Hown.out.alloc _) ⟨w.heap.size, 0, none⟩ 3 3 [.int .u8 239, .int .u8 191, .int .u8 189] rfl rfl (World.news_of_block (cs := #[.int .u8 239, .int .u8 191, .int .u8 189]) (t := 5) (fr := (0, 0)) (heap_alloc_new w _)) (by simp [Value.oneCell']) (by unfold maxLen; omega) (by omega) (by simp; omega) ?_; intro v' w3 hown3 hg3 _))
    go_ret
    exact put_end Hown.out hown3 hg3 fin.out

end Go.Proofs.Ytjfconddkfihcaa.Ut
