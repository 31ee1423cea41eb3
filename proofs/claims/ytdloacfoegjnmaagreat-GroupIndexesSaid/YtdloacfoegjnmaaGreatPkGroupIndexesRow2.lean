/- The walk of utf.Decode. -/
import Derived.Deep.QuietTactic
import Derived.BigQuiet
import Derived.Test.YtdloacfoegjnmaaGreatPkGroupIndexesRow1
section
namespace Go.Proofs.YtdloacfoegjnmaaGreat.Ut
open Go.RowKit
set_option maxRecDepth 20000

def f3 : Array Value := #[.int .i64 2, .int .u8 224, .int .u8 192, .int .i64 128, .int .i64 2047, .int .i64 (-1), .int .i64 3, .int .u8 240, .int .u8 224, .int .i64 2048, .int .i64 65535, .int .i64 (-1), .int .i64 4, .int .u8 248, .int .u8 240, .int .i64 65536, .int .i64 1114111, .int .i64 (-1)]
def z3 : Array Value := #[.int .i64 0, .int .u8 0, .int .u8 0, .int .i64 0, .int .i64 0, .int .i64 0, .int .i64 0, .int .u8 0, .int .u8 0, .int .i64 0, .int .i64 0, .int .i64 0, .int .i64 0, .int .u8 0, .int .u8 0, .int .i64 0, .int .i64 0, .int .i64 0]
theorem f3_one : f3.all (·.oneCell') = true := by simp [f3, Value.oneCell']
set_option maxHeartbeats 400000 in
theorem forms_any (w : World) : Calls Tryz.prog 116 #[] w fun e w' => e = .returned (.agg f3) ∧ Below w.heap.size w w' := by
  go_enter Tryz.func116, Tryz.ntmps116
  go_wp2_with (refine wpList_store_row (o := ⟨none, .store 171 _ _, _, _, _, _⟩) rfl 171 _ _ rfl w.heap.size f3 rfl rfl 171 z3 (heap_alloc_new w _) (by kernel_rfl) rfl f3_one ?_)
  have hh := setRow_heap (w.alloc (.cells z3 171)) w.heap.size z3 f3 171 (0, 0) (heap_alloc_new w _)
  exact bodyPost_ret (results_cell rfl rfl (run_loadVar_row _ w.heap.size 171 171 f3 (0, 0) _ hh Tryz.underlying171 rfl (by kernel_rfl))) rfl ⟨rfl, below_setRow ((Below.refl _ _).alloc (Nat.le_refl _) _) (Nat.le_refl _) _⟩
theorem idx_f0 (w : World) : (Instr.index 171 (.agg f3) (.int .i64 0)).run Tryz.prog w = .ok (.agg #[.int .i64 2, .int .u8 224, .int .u8 192, .int .i64 128, .int .i64 2047, .int .i64 (-1)]) w := by kernel_rfl
theorem idx_f1 (w : World) : (Instr.index 171 (.agg f3) (.int .i64 1)).run Tryz.prog w = .ok (.agg #[.int .i64 3, .int .u8 240, .int .u8 224, .int .i64 2048, .int .i64 65535, .int .i64 (-1)]) w := by kernel_rfl
theorem idx_f2 (w : World) : (Instr.index 171 (.agg f3) (.int .i64 2)).run Tryz.prog w = .ok (.agg #[.int .i64 4, .int .u8 248, .int .u8 240, .int .i64 65536, .int .i64 1114111, .int .i64 (-1)]) w := by kernel_rfl

/-- The rune at a place. -/
def decAt (s : ByteArray) (a : Int) : Nat × Nat := if a < 0 then (0, 0) else dec (s.data.toList.drop a.toNat)
theorem drop_cons (s : ByteArray) (k : Nat) (h : k < s.size) : s.data.toList.drop k = s[k] :: s.data.toList.drop (k + 1) := by
  rw [List.drop_eq_getElem_cons (by rw [bsize]; exact h)]; rfl
theorem drop_out (s : ByteArray) (k : Nat) (h : s.size ≤ k) : s.data.toList.drop k = [] := List.drop_of_length_le (by rw [bsize]; exact h)

theorem dec_out (s : ByteArray) (a : Int) (w : World) (h : a < 0 ∨ (s.size : Int) ≤ a) :
    Calls Tryz.prog 83 #[.string s, .int .i64 a] w fun e w' => e = .returned (.tuple #[.int .i64 0, .int .i64 0]) ∧ w = w' := by
  by_cases h0 : a < 0
  · go_enter Tryz.func83, Tryz.ntmps83
    go_wp2
    go_ret2
    exact ⟨rfl, rfl⟩
  · have h1 : (s.size : Int) ≤ a := by omega
    go_enter Tryz.func83, Tryz.ntmps83
    go_wp2
    go_ret2
    exact ⟨rfl, rfl⟩
theorem dec_low (s : ByteArray) (k m : Nat) (w : World) (hk : k < s.size) (hm : (s[k]).toNat = m) (h : m < 128) :
    Calls Tryz.prog 83 #[.string s, .int .i64 (k : Int)] w fun e w' => e = .returned (.tuple #[.int .i64 (m : Int), .int .i64 1]) ∧ w = w' := by
  have h0 : ¬ (k : Int) < 0 := by omega
  have h1 : ¬ (s.size : Int) ≤ (k : Int) := by omega
  have h2 : (m : Int) < 128 := by omega
  go_enter Tryz.func83, Tryz.ntmps83
  go_wp2
  go_ret2
  exact ⟨rfl, rfl⟩

theorem mask_all : ∀ m : Fin 256, ((bits BinOp.and IntKind.u8 ((m.val : Nat) : Int) 224 != 192) = !decide (m.val / 32 = 6)) ∧ ((bits BinOp.and IntKind.u8 ((m.val : Nat) : Int) 240 != 224) = !decide (m.val / 16 = 14)) ∧ ((bits BinOp.and IntKind.u8 ((m.val : Nat) : Int) 248 != 240) = !decide (m.val / 8 = 30)) ∧
    bits BinOp.andNot IntKind.u8 ((m.val : Nat) : Int) 224 = ((m.val % 32 : Nat) : Int) ∧ bits BinOp.andNot IntKind.u8 ((m.val : Nat) : Int) 240 = ((m.val % 16 : Nat) : Int) ∧ bits BinOp.andNot IntKind.u8 ((m.val : Nat) : Int) 248 = ((m.val % 8 : Nat) : Int) ∧
    bits BinOp.and IntKind.u8 ((m.val : Nat) : Int) 63 = ((m.val % 64 : Nat) : Int) ∧ (bits BinOp.and IntKind.u8 ((m.val : Nat) : Int) 192 == 128) = (m.val / 64 == 2) := by decide +kernel
theorem mask0 (m : Nat) (h : m < 256) : (bits BinOp.and IntKind.u8 (m : Int) 224 != 192) = !decide (m / 32 = 6) := (mask_all ⟨m, h⟩).1
theorem mask1 (m : Nat) (h : m < 256) : (bits BinOp.and IntKind.u8 (m : Int) 240 != 224) = !decide (m / 16 = 14) := (mask_all ⟨m, h⟩).2.1
theorem mask2 (m : Nat) (h : m < 256) : (bits BinOp.and IntKind.u8 (m : Int) 248 != 240) = !decide (m / 8 = 30) := (mask_all ⟨m, h⟩).2.2.1
theorem andn0 (m : Nat) (h : m < 256) : bits BinOp.andNot IntKind.u8 (m : Int) 224 = ((m % 32 : Nat) : Int) := (mask_all ⟨m, h⟩).2.2.2.1
theorem andn1 (m : Nat) (h : m < 256) : bits BinOp.andNot IntKind.u8 (m : Int) 240 = ((m % 16 : Nat) : Int) := (mask_all ⟨m, h⟩).2.2.2.2.1
theorem andn2 (m : Nat) (h : m < 256) : bits BinOp.andNot IntKind.u8 (m : Int) 248 = ((m % 8 : Nat) : Int) := (mask_all ⟨m, h⟩).2.2.2.2.2.1
theorem low6 (m : Nat) (h : m < 256) : bits BinOp.and IntKind.u8 (m : Int) 63 = ((m % 64 : Nat) : Int) := (mask_all ⟨m, h⟩).2.2.2.2.2.2.1
theorem high2 (m : Nat) (h : m < 256) : (bits BinOp.and IntKind.u8 (m : Int) 192 == 128) = (m / 64 == 2) := (mask_all ⟨m, h⟩).2.2.2.2.2.2.2
theorem acc_lt (m : Nat) (l : List UInt8) (hm : m < 32) (hl : l.length ≤ 3) : acc m l < 16777216 := by
  match l, hl with
  | [], _ => simp only [acc, List.foldl_nil]; omega
  | [a], _ => simp only [acc, List.foldl_cons, List.foldl_nil]; omega
  | [a, b], _ => simp only [acc, List.foldl_cons, List.foldl_nil]; omega
  | [a, b, c], _ => simp only [acc, List.foldl_cons, List.foldl_nil]; omega
theorem or_shift (a y : Nat) (ha : a < 16777216) (hy : y < 64) : bits BinOp.or IntKind.i64 ((a : Int) * 64) ((y : Nat) : Int) = ((a * 64 + y : Nat) : Int) := by
  have e : (a : Int) * 64 = ((a * 64 : Nat) : Int) := by omega
  rw [e]
  have h1 : (BitVec.ofInt 64 ((a * 64 : Nat) : Int)).toNat = a * 64 := by
    rw [BitVec.ofInt_natCast, BitVec.toNat_ofNat]; exact Nat.mod_eq_of_lt (by omega)
  have h2 : (BitVec.ofInt 64 ((y : Nat) : Int)).toNat = y := by
    rw [BitVec.ofInt_natCast, BitVec.toNat_ofNat]; exact Nat.mod_eq_of_lt (by omega)
  show IntKind.i64.wrap ((BitVec.ofInt 64 ((a * 64 : Nat) : Int) ||| BitVec.ofInt 64 ((y : Nat) : Int)).toNat : Int) = _
  rw [BitVec.toNat_or, h1, h2, IntKind.wrap_i64]
  have h3 : a * 64 ||| y = a * 64 + y := by
    have := Nat.shiftLeft_add_eq_or_of_lt (i := 6) (b := y) (by omega) a
    rw [Nat.shiftLeft_eq] at this
    exact this.symm
  rw [h3]
  omega
/-- A cut of a text, as the walk makes it. -/
theorem sub_at (s : ByteArray) (k n : Nat) (hn : 1 ≤ n) (h : k + n ≤ s.size) : ∃ u : ByteArray, u.size = n - 1 ∧ u.data.toList = (s.data.toList.drop (k + 1)).take (n - 1) ∧
    ∀ W : World, (Instr.slice 9 (.string s) (some (.int .i64 ((k : Int) + 1))) (some (.int .i64 ((k : Int) + (n : Int)))) none).run Tryz.prog W = .ok (.string u) W := by
  refine ⟨s.extract (k + 1) (k + n), by rw [ByteArray.size_extract]; omega, ?_, fun W => ?_⟩
  · have := Go.Lib.extract_data s (k + 1) (k + n)
    rw [this]
    congr 1
    omega
  · rw [run_slice_string W 9 s .i64 .i64 _ _ Tryz.underlying9 (by omega) (by omega) (by omega)]
    congr 3
theorem form_eq (m : Nat) (t : List UInt8) (k lo hi : Nat) (h : k - 1 ≤ t.length) (e : Bool) (he : (((t.take (k - 1)).all cont && inB lo hi (-1) (acc m (t.take (k - 1)) : Nat)) && !halfB (acc m (t.take (k - 1)) : Nat)) = e) :
    form m t k lo hi = if e then (acc m (t.take (k - 1)), k) else (65533, 1) := by
  unfold form fits
  subst he
  have e2 : inB lo hi (-1) (acc m (t.take (k - 1)) : Nat) = (decide (lo ≤ acc m (t.take (k - 1))) && decide (acc m (t.take (k - 1)) ≤ hi)) := by
    unfold inB
    rw [show decide ((acc m (t.take (k - 1)) : Nat) ≠ (-1 : Int)) = true from by rw [decide_eq_true_eq]; omega, Bool.and_true]
    congr 1 <;> rw [decide_eq_decide] <;> omega
  have e3 : halfB (acc m (t.take (k - 1)) : Nat) = (decide (55296 ≤ acc m (t.take (k - 1))) && decide (acc m (t.take (k - 1)) ≤ 57343)) := by
    unfold halfB
    congr 1 <;> rw [decide_eq_decide] <;> omega
  rw [e2, e3, show decide (k - 1 ≤ t.length) = true from by simpa using h, Bool.true_and, Bool.and_assoc, Bool.and_assoc]
theorem form_short (m : Nat) (t : List UInt8) (k lo hi : Nat) (h : t.length < k - 1) : form m t k lo hi = (65533, 1) := by
  unfold form fits
  rw [show decide (k - 1 ≤ t.length) = false from by simp; omega, Bool.false_and, if_neg (by simp)]
end Go.Proofs.YtdloacfoegjnmaaGreat.Ut
end

section
/- The walk of utf.Decode at runes of 2 bytes. -/
namespace Go.Proofs.YtdloacfoegjnmaaGreat.Ut
open Go.RowKit
set_option maxRecDepth 20000

set_option maxRecDepth 100000 in
set_option maxHeartbeats 3200000 in
theorem dec_form0 (s : ByteArray) (k m : Nat) (w : World) (hk : k < s.size) (hm : (s[k]).toNat = m) (h128 : 128 ≤ m) (h256 : m < 256) (hq : m / 32 = 6) (hs : s.size ≤ 140737488351232) :
    Calls Tryz.prog 83 #[.string s, .int .i64 (k : Int)] w fun e w' =>
      e = .returned (.tuple #[.int .i64 ((form (m % 32) (s.data.toList.drop (k + 1)) 2 128 2047).1 : Nat), .int .i64 ((form (m % 32) (s.data.toList.drop (k + 1)) 2 128 2047).2 : Nat)]) ∧ Below w.heap.size w w' := by
  have h0 : ¬ (k : Int) < 0 := by omega
  have h1 : ¬ (s.size : Int) ≤ (k : Int) := by omega
  have h2 : ¬ (m : Int) < 128 := by omega
  have hm0 := mask0 m h256
  have hm1 := mask1 m h256
  have hm2 := mask2 m h256
  rw [show decide (m / 32 = 6) = true from by simp; omega] at hm0
  rw [show decide (m / 16 = 14) = false from by simp; omega] at hm1
  rw [show decide (m / 8 = 30) = false from by simp; omega] at hm2
  simp only [Bool.not_true, Bool.not_false] at hm0 hm1 hm2
  have i0 := idx_f0
  have i1 := idx_f1
  have i2 := idx_f2
  by_cases hlen : k + 2 ≤ s.size
  · obtain ⟨u, hus, hul, hsl⟩ : ∃ u : ByteArray, u.size = 1 ∧ u.data.toList = (s.data.toList.drop (k + 1)).take 1 ∧ ∀ W : World, (Instr.slice 9 (.string s) (some (.int .i64 ((k : Int) + 1))) (some (.int .i64 ((k : Int) + 2))) none).run Tryz.prog W = .ok (.string u) W := sub_at s k 2 (by omega) hlen
    obtain ⟨cap, C, fr, hconv, hC⟩ := bytes_conv (P := Tryz.prog) 9 114 5 u Tryz.underlying9 Tryz.underlying114 Tryz.underlying5
    have han := andn0 m h256
    rw [hus] at hconv
    have Hul := Lib.hid hul
    have Hus := Lib.hid hus
    have HC := Lib.hid hC
    have Fin := Lib.hid (form_eq (m % 32) (s.data.toList.drop (k + 1)) 2 128 2047 (by rw [List.length_drop, bsize]; omega))
    rw [show 2 - 1 = 1 from rfl, ← hul] at Fin
    clear hul hus hC
    go_enter Tryz.func83, Tryz.ntmps83
    go_wp2_with (go_at_call 116; refine (forms_any _).mono ?_; rintro e w1 ⟨rfl, hb1⟩)
    refine wp_loop_rounds 4 ?_
    rw [rounds_succ]
    go_wp2_with fail
    have hb0 : Below w.heap.size w (((w1.alloc (.cells #[.int .i64 2, .int .u8 224, .int .u8 192, .int .i64 128, .int .i64 2047, .int .i64 (-1)] 170)).alloc (.cells (C (w1.alloc (.cells #[.int .i64 2, .int .u8 224, .int .u8 192, .int .i64 128, .int .i64 2047, .int .i64 (-1)] 170))) 5 (fr (w1.alloc (.cells #[.int .i64 2, .int .u8 224, .int .u8 192, .int .i64 128, .int .i64 2047, .int .i64 (-1)] 170))))).drew) :=
      (((hb1).alloc (by have := hb1.size; simp; omega) _).alloc (by have := hb1.size; simp; omega) _).drew
    have hk0 : Blk (((w1.alloc (.cells #[.int .i64 2, .int .u8 224, .int .u8 192, .int .i64 128, .int .i64 2047, .int .i64 (-1)] 170)).alloc (.cells (C (w1.alloc (.cells #[.int .i64 2, .int .u8 224, .int .u8 192, .int .i64 128, .int .i64 2047, .int .i64 (-1)] 170))) 5 (fr (w1.alloc (.cells #[.int .i64 2, .int .u8 224, .int .u8 192, .int .i64 128, .int .i64 2047, .int .i64 (-1)] 170))))).drew) (w1.heap.size) 170 #[.int .i64 2, .int .u8 224, .int .u8 192, .int .i64 128, .int .i64 2047, .int .i64 (-1)] := by
      have := ((Blk.new w1 170 #[.int .i64 2, .int .u8 224, .int .u8 192, .int .i64 128, .int .i64 2047, .int .i64 (-1)]).alloc (.cells (C (w1.alloc (.cells #[.int .i64 2, .int .u8 224, .int .u8 192, .int .i64 128, .int .i64 2047, .int .i64 (-1)] 170))) 5 (fr (w1.alloc (.cells #[.int .i64 2, .int .u8 224, .int .u8 192, .int .i64 128, .int .i64 2047, .int .i64 (-1)] 170))))).drew
      simpa using this
    have hc0 : ∀ (i : Nat) (h : i < u.size), (((w1.alloc (.cells #[.int .i64 2, .int .u8 224, .int .u8 192, .int .i64 128, .int .i64 2047, .int .i64 (-1)] 170)).alloc (.cells (C (w1.alloc (.cells #[.int .i64 2, .int .u8 224, .int .u8 192, .int .i64 128, .int .i64 2047, .int .i64 (-1)] 170))) 5 (fr (w1.alloc (.cells #[.int .i64 2, .int .u8 224, .int .u8 192, .int .i64 128, .int .i64 2047, .int .i64 (-1)] 170))))).drew).cell? ⟨w1.heap.size + 1, i, none⟩ = some (.int .u8 ((u[i]).toNat : Int)) := fun i h => by
      have := cell_new2 w1 (.cells #[.int .i64 2, .int .u8 224, .int .u8 192, .int .i64 128, .int .i64 2047, .int .i64 (-1)] 170) (C (w1.alloc (.cells #[.int .i64 2, .int .u8 224, .int .u8 192, .int .i64 128, .int .i64 2047, .int .i64 (-1)] 170))) 5 (fr (w1.alloc (.cells #[.int .i64 2, .int .u8 224, .int .u8 192, .int .i64 128, .int .i64 2047, .int .i64 (-1)] 170))) i
      have h2 := HC.out (w1.alloc (.cells #[.int .i64 2, .int .u8 224, .int .u8 192, .int .i64 128, .int .i64 2047, .int .i64 (-1)] 170)) i h
      try simp only [World.size_alloc] at this
      exact this.trans h2
    have Hb0 := Lib.hid hb0
    have Hk0 := Lib.hid hk0
    have Hc0 := Lib.hid hc0
    clear hb0 hk0 hc0
    go_loopw [9, 10, 63] (fun r o i wr => ∃ j : Nat, j ≤ 1 ∧ i = .int .i64 j ∧ r = .int .i64 (acc (m % 32) (u.data.toList.take j) : Nat) ∧ o = .bool ((u.data.toList.take j).all cont) ∧ Below w.heap.size w wr ∧ Blk wr (w1.heap.size) 170 #[.int .i64 2, .int .u8 224, .int .u8 192, .int .i64 128, .int .i64 2047, .int .i64 (-1)] ∧
        ∀ (i : Nat) (h : i < u.size), wr.cell? ⟨w1.heap.size + 1, i, none⟩ = some (.int .u8 ((u[i]).toNat : Int))) (fun _ _ i _ => 1 - (intOf i).toNat)
    case atStart => exact ⟨0, by omega, rfl, by simp [acc_nil], rfl, Hb0.out, Hk0.out, Hc0.out⟩
    case round =>
      obtain ⟨j, hj, rfl, hr, ho, hb, hkb, hcl⟩ := hrel
      by_cases hjn : j < 1
      · have hju : j < u.size := by rw [Hus.out]; exact hjn
        have hcx := hcl j hju
        have hx := (u[j]).toNat_lt
        have e63 := low6 _ hx
        have e192 := high2 _ hx
        have hts := take_snoc u j hju
        have ha := acc_snoc (m % 32) (u.data.toList.take j) u[j]
        have hal : ((u.data.toList.take j) ++ [u[j]]).all cont = ((u.data.toList.take j).all cont && (u[j].toNat / 64 == 2)) := by rw [List.all_append]; simp [cont]
        rw [← hts] at ha hal
        have hlt := acc_lt (m % 32) (u.data.toList.take j) (by omega) (by rw [List.length_take]; omega)
        have hor : bits BinOp.or IntKind.i64 ((acc (m % 32) (u.data.toList.take j) : Int) * 64) ((u[j].toNat : Int) % 64) = ((acc (m % 32) (u.data.toList.take j) * 64 + u[j].toNat % 64 : Nat) : Int) := by
          rw [show ((u[j].toNat : Int) % 64) = ((u[j].toNat % 64 : Nat) : Int) from by omega]
          exact or_shift (acc (m % 32) (u.data.toList.take j)) (u[j].toNat % 64) hlt (by omega)
        have Ha := Lib.hid ha
        have Hal := Lib.hid hal
        have Hcl := Lib.hid hcl
        have Hkb := Lib.hid hkb
        have Hb := Lib.hid hb
        clear ha hal hcl hkb hb hts
        generalize acc (m % 32) (u.data.toList.take j) = a at *
        generalize (u.data.toList.take j).all cont = ob at *
        generalize hxe : u[j].toNat = x at *
        have Hxe := Lib.hid hxe
        clear hxe
        generalize hcb : (x / 64 == 2) = cb at *
        have Hcb := Lib.hid hcb
        clear hcb
        subst hr ho
        cases ob
        · go_wp2
          go_roundw
          case rel => exact ⟨j + 1, by omega, by go_num, by rw [Ha.out]; first | rfl | go_num, by rw [Hal.out]; rfl, Hb.out, Hkb.out, Hcl.out⟩
          case measure => simp [intOf]; omega
        · go_wp2
          go_roundw
          case rel => exact ⟨j + 1, by omega, by go_num, by rw [Ha.out]; first | rfl | go_num, by rw [Hal.out]; rfl, Hb.out, Hkb.out, Hcl.out⟩
          case measure => simp [intOf]; omega
      · obtain rfl : j = 1 := by omega
        have htk : u.data.toList.take 1 = u.data.toList := List.take_of_length_le (by rw [bsize, Hus.out]; exact Nat.le_refl _)
        rw [htk] at hr ho
        have c3 := hkb.cell 3
        have c4 := hkb.cell 4
        have c5 := hkb.cell 5
        have c0 := hkb.cell 0
        have hwz : w.heap.size ≤ wr.heap.size := hb.size
        have hlt := acc_lt (m % 32) u.data.toList (by omega) (by rw [bsize, Hus.out]; omega)
        have hkl := hkb.lt
        clear hcl htk hkb
        generalize acc (m % 32) u.data.toList = a at *
        generalize u.data.toList.all cont = ob at *
        subst hr ho
        cases ob
        · have fin := Lib.hid (Fin.out false rfl)
          clear Fin
          go_wp2_with (first | (go_at_call 84; refine (calls_from hb (in_any _ _ _ _ _)).mono ?_; rintro e w' ⟨rfl, hb⟩) | (go_at_call 117; refine (half_any _ _).mono ?_; rintro e w' ⟨rfl, rfl⟩))
          rw [rounds_succ]
          go_wp2_with fail
          have hb := hb.alloc hb.size (.cells #[.int .i64 3, .int .u8 240, .int .u8 224, .int .i64 2048, .int .i64 65535, .int .i64 (-1)] 170)
          rw [rounds_succ]
          go_wp2_with fail
          have hb := hb.alloc hb.size (.cells #[.int .i64 4, .int .u8 248, .int .u8 240, .int .i64 65536, .int .i64 1114111, .int .i64 (-1)] 170)
          rw [rounds_succ]
          go_wp2_with fail
          go_ret2
          exact ⟨by rw [fin.out]; rfl, hb⟩
        · by_cases hin : inB 128 2047 (-1) (a : Int) = true
          · by_cases hh : halfB (a : Int) = true
            · have fin := Lib.hid (Fin.out false (by rw [show inB ((128 : Nat) : Int) ((2047 : Nat) : Int) (-1) (a : Int) = true from hin, hh]; rfl))
              clear Fin
              go_wp2_with (first | (go_at_call 84; refine (calls_from hb (in_any _ _ _ _ _)).mono ?_; rintro e w' ⟨rfl, hb⟩) | (go_at_call 117; refine (half_any _ _).mono ?_; rintro e w' ⟨rfl, rfl⟩))
              rw [rounds_succ]
              go_wp2_with fail
              have hb := hb.alloc hb.size (.cells #[.int .i64 3, .int .u8 240, .int .u8 224, .int .i64 2048, .int .i64 65535, .int .i64 (-1)] 170)
              rw [rounds_succ]
              go_wp2_with fail
              have hb := hb.alloc hb.size (.cells #[.int .i64 4, .int .u8 248, .int .u8 240, .int .i64 65536, .int .i64 1114111, .int .i64 (-1)] 170)
              rw [rounds_succ]
              go_wp2_with fail
              go_ret2
              exact ⟨by rw [fin.out]; rfl, hb⟩
            · have hhf : halfB (a : Int) = false := by simpa using hh
              have fin := Lib.hid (Fin.out true (by rw [show inB ((128 : Nat) : Int) ((2047 : Nat) : Int) (-1) (a : Int) = true from hin, hhf]; rfl))
              clear Fin hh
              go_wp2_with (first | (go_at_call 84; refine (in_any _ _ _ _ _).mono ?_; rintro e w3 ⟨rfl, hb3⟩; have c03 := (hb3.cell (p := ⟨w1.heap.size, 0, none⟩) hkl).trans c0) | (go_at_call 117; refine (half_any _ _).mono ?_; rintro e w' ⟨rfl, rfl⟩))
              go_quiet (fail)
              go_wp2
              go_ret2
              exact ⟨by rw [fin.out]; rfl, below_drewN (hb.trans (hb3.mono hb.size)) _⟩
          · have hinf : inB 128 2047 (-1) (a : Int) = false := by simpa using hin
            have fin := Lib.hid (Fin.out false (by rw [show inB ((128 : Nat) : Int) ((2047 : Nat) : Int) (-1) (a : Int) = false from hinf]; rfl))
            clear Fin hin
            go_wp2_with (first | (go_at_call 84; refine (calls_from hb (in_any _ _ _ _ _)).mono ?_; rintro e w' ⟨rfl, hb⟩) | (go_at_call 117; refine (half_any _ _).mono ?_; rintro e w' ⟨rfl, rfl⟩))
            rw [rounds_succ]
            go_wp2_with fail
            have hb := hb.alloc hb.size (.cells #[.int .i64 3, .int .u8 240, .int .u8 224, .int .i64 2048, .int .i64 65535, .int .i64 (-1)] 170)
            rw [rounds_succ]
            go_wp2_with fail
            have hb := hb.alloc hb.size (.cells #[.int .i64 4, .int .u8 248, .int .u8 240, .int .i64 65536, .int .i64 1114111, .int .i64 (-1)] 170)
            rw [rounds_succ]
            go_wp2_with fail
            go_ret2
            exact ⟨by rw [fin.out]; rfl, hb⟩
  · have fin := Lib.hid (form_short (m % 32) (s.data.toList.drop (k + 1)) 2 128 2047 (by rw [List.length_drop, bsize]; omega))
    have hsh : (s.size : Int) - (k : Int) < 2 := by omega
    go_enter Tryz.func83, Tryz.ntmps83
    go_wp2_with (go_at_call 116; refine (forms_any _).mono ?_; rintro e w1 ⟨rfl, hb1⟩)
    refine wp_loop_rounds 4 ?_
    rw [rounds_succ]
    go_wp2_with fail
    rw [rounds_succ]
    go_wp2_with fail
    rw [rounds_succ]
    go_wp2_with fail
    rw [rounds_succ]
    go_wp2_with fail
    go_ret2
    exact ⟨by rw [fin.out]; rfl, ((hb1.alloc hb1.size _).alloc (by have := hb1.size; simp; omega) _).alloc (by have := hb1.size; simp; omega) _⟩
end Go.Proofs.YtdloacfoegjnmaaGreat.Ut
end
