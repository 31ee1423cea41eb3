/- The walks of package utf: spans, lower case, words. -/
import Derived.Test.YtfegkchajkpgfaaProg
import Derived.Lib.Hide
import Derived.Lib.Strings
import Derived.Test.YtfegkchajkpgfaaUtfPPk
namespace Go.Proofs.Ytfegkchajkpgfaa.Ut
open Go.RowKit

def inB (f t b r : Int) : Bool := decide (f ≤ r) && (decide (r ≤ t) && decide (r ≠ b))
theorem inB_yes {f t b r : Int} (h : f ≤ r ∧ r ≤ t ∧ r ≠ b) : inB f t b r = true := by
  unfold inB; simp [h.1, h.2.1, h.2.2]
theorem inB_no {f t b r : Int} (h : r < f ∨ t < r ∨ r = b) : inB f t b r = false := by
  unfold inB
  simp only [Bool.and_eq_false_iff, decide_eq_false_iff_not]
  omega

theorem in_any (f t b r : Int) (w : World) :
    Calls Try.prog 115 #[.agg #[.int .i64 f, .int .i64 t, .int .i64 b], .int .i64 r] w fun e w' => e = .returned (.bool (inB f t b r)) ∧ Below w.heap.size w w' := by
  have hb : Below w.heap.size w (w.alloc (.cells #[.int .i64 f, .int .i64 t, .int .i64 b] 176)) := (Below.refl _ _).alloc (Nat.le_refl _) _
  have Hb := Lib.hid hb
  clear hb
  by_cases h1 : f ≤ r
  · by_cases h2 : r ≤ t
    · by_cases h3 : r = b
      · have e : inB f t b r = false := inB_no (by omega)
        rw [e]
        have h4 : (r == b) = true := by simp [h3]
        have h5 : (r != b) = false := by simp [h3]
        clear h3 e
        go_enter Try.func115, Try.ntmps115
        go_wp2
        go_ret
        exact ⟨rfl, Hb.out⟩
      · have e : inB f t b r = true := inB_yes ⟨h1, h2, h3⟩
        rw [e]
        have h4 : (r == b) = false := by simp [h3]
        have h5 : (r != b) = true := by simp [h3]
        clear h3 e
        go_enter Try.func115, Try.ntmps115
        go_wp2
        go_ret
        exact ⟨rfl, Hb.out⟩
    · have e : inB f t b r = false := inB_no (by omega)
      rw [e]
      clear e
      go_enter Try.func115, Try.ntmps115
      go_wp2
      go_ret
      exact ⟨rfl, Hb.out⟩
  · have e : inB f t b r = false := inB_no (by omega)
    rw [e]
    clear e
    go_enter Try.func115, Try.ntmps115
    go_wp2
    go_ret
    exact ⟨rfl, Hb.out⟩

def halfB (r : Int) : Bool := decide (55296 ≤ r) && decide (r ≤ 57343)
theorem half_any (r : Int) (w : World) : Calls Try.prog 140 #[.int .i64 r] w fun e w' => e = .returned (.bool (halfB r)) ∧ w = w' := by
  by_cases h1 : 55296 ≤ r
  · by_cases h2 : r ≤ 57343
    · have e : halfB r = true := by simp [halfB, h1, h2]
      rw [e]; clear e
      go_enter Try.func140, Try.ntmps140
      go_wp2
      go_ret
      exact ⟨rfl, rfl⟩
    · have e : halfB r = false := by simp [halfB, h2]
      rw [e]; clear e
      go_enter Try.func140, Try.ntmps140
      go_wp2
      go_ret
      exact ⟨rfl, rfl⟩
  · have e : halfB r = false := by simp [halfB, h1]
    rw [e]; clear e
    go_enter Try.func140, Try.ntmps140
    go_wp2
    go_ret
    exact ⟨rfl, rfl⟩

def upA : Array Value := #[.int .i64 65, .int .i64 90, .int .i64 (-1), .int .i64 192, .int .i64 222, .int .i64 215, .int .i64 913, .int .i64 939, .int .i64 930, .int .i64 1040, .int .i64 1071, .int .i64 (-1)]
def upZ : Array Value := #[.int .i64 0, .int .i64 0, .int .i64 0, .int .i64 0, .int .i64 0, .int .i64 0, .int .i64 0, .int .i64 0, .int .i64 0, .int .i64 0, .int .i64 0, .int .i64 0]
theorem upA_one : upA.all (·.oneCell') = true := by simp [upA, Value.oneCell']
def upf : Nat → Int
  | 0 => 65
  | 1 => 192
  | 2 => 913
  | _ => 1040
def upt : Nat → Int
  | 0 => 90
  | 1 => 222
  | 2 => 939
  | _ => 1071
def upb : Nat → Int
  | 0 => (-1)
  | 1 => 215
  | 2 => 930
  | _ => (-1)
theorem idx_up0 (w : World) : (Instr.index 208 (.agg upA) (.int .i64 0)).run Try.prog w = .ok (.agg #[.int .i64 65, .int .i64 90, .int .i64 (-1)]) w := by kernel_rfl
theorem idx_up1 (w : World) : (Instr.index 208 (.agg upA) (.int .i64 1)).run Try.prog w = .ok (.agg #[.int .i64 192, .int .i64 222, .int .i64 215]) w := by kernel_rfl
theorem idx_up2 (w : World) : (Instr.index 208 (.agg upA) (.int .i64 2)).run Try.prog w = .ok (.agg #[.int .i64 913, .int .i64 939, .int .i64 930]) w := by kernel_rfl
theorem idx_up3 (w : World) : (Instr.index 208 (.agg upA) (.int .i64 3)).run Try.prog w = .ok (.agg #[.int .i64 1040, .int .i64 1071, .int .i64 (-1)]) w := by kernel_rfl
theorem idx_up (j : Nat) (hj : j < 4) (w : World) : (Instr.index 208 (.agg upA) (.int .i64 (j : Int))).run Try.prog w = .ok (.agg #[.int .i64 (upf j), .int .i64 (upt j), .int .i64 (upb j)]) w := by
  match j, hj with
  | 0, _ => exact idx_up0 w
  | 1, _ => exact idx_up1 w
  | 2, _ => exact idx_up2 w
  | 3, _ => exact idx_up3 w

def wdA : Array Value := #[.int .i64 48, .int .i64 57, .int .i64 (-1), .int .i64 65, .int .i64 90, .int .i64 (-1), .int .i64 97, .int .i64 122, .int .i64 (-1), .int .i64 192, .int .i64 255, .int .i64 215, .int .i64 913, .int .i64 974, .int .i64 930, .int .i64 1024, .int .i64 1119, .int .i64 (-1)]
def wdZ : Array Value := #[.int .i64 0, .int .i64 0, .int .i64 0, .int .i64 0, .int .i64 0, .int .i64 0, .int .i64 0, .int .i64 0, .int .i64 0, .int .i64 0, .int .i64 0, .int .i64 0, .int .i64 0, .int .i64 0, .int .i64 0, .int .i64 0, .int .i64 0, .int .i64 0]
theorem wdA_one : wdA.all (·.oneCell') = true := by simp [wdA, Value.oneCell']
def wdf : Nat → Int
  | 0 => 48
  | 1 => 65
  | 2 => 97
  | 3 => 192
  | 4 => 913
  | _ => 1024
def wdt : Nat → Int
  | 0 => 57
  | 1 => 90
  | 2 => 122
  | 3 => 255
  | 4 => 974
  | _ => 1119
def wdb : Nat → Int
  | 0 => (-1)
  | 1 => (-1)
  | 2 => (-1)
  | 3 => 215
  | 4 => 930
  | _ => (-1)
theorem idx_wd0 (w : World) : (Instr.index 177 (.agg wdA) (.int .i64 0)).run Try.prog w = .ok (.agg #[.int .i64 48, .int .i64 57, .int .i64 (-1)]) w := by kernel_rfl
theorem idx_wd1 (w : World) : (Instr.index 177 (.agg wdA) (.int .i64 1)).run Try.prog w = .ok (.agg #[.int .i64 65, .int .i64 90, .int .i64 (-1)]) w := by kernel_rfl
theorem idx_wd2 (w : World) : (Instr.index 177 (.agg wdA) (.int .i64 2)).run Try.prog w = .ok (.agg #[.int .i64 97, .int .i64 122, .int .i64 (-1)]) w := by kernel_rfl
theorem idx_wd3 (w : World) : (Instr.index 177 (.agg wdA) (.int .i64 3)).run Try.prog w = .ok (.agg #[.int .i64 192, .int .i64 255, .int .i64 215]) w := by kernel_rfl
theorem idx_wd4 (w : World) : (Instr.index 177 (.agg wdA) (.int .i64 4)).run Try.prog w = .ok (.agg #[.int .i64 913, .int .i64 974, .int .i64 930]) w := by kernel_rfl
theorem idx_wd5 (w : World) : (Instr.index 177 (.agg wdA) (.int .i64 5)).run Try.prog w = .ok (.agg #[.int .i64 1024, .int .i64 1119, .int .i64 (-1)]) w := by kernel_rfl
theorem idx_wd (j : Nat) (hj : j < 6) (w : World) : (Instr.index 177 (.agg wdA) (.int .i64 (j : Int))).run Try.prog w = .ok (.agg #[.int .i64 (wdf j), .int .i64 (wdt j), .int .i64 (wdb j)]) w := by
  match j, hj with
  | 0, _ => exact idx_wd0 w
  | 1, _ => exact idx_wd1 w
  | 2, _ => exact idx_wd2 w
  | 3, _ => exact idx_wd3 w
  | 4, _ => exact idx_wd4 w
  | 5, _ => exact idx_wd5 w

theorem up_in (r : Int) (j : Nat) (hj : j < 4) (h : inB (upf j) (upt j) (upb j) r = true) : lower r = r + 32 ∧ r ≤ 1071 ∧ 0 ≤ r := by
  unfold inB at h
  simp only [Bool.and_eq_true, decide_eq_true_eq] at h
  unfold lower
  match j, hj with
  | 0, _ => simp only [upf, upt, upb] at h; exact ⟨by rw [if_pos (by omega)], by omega, by omega⟩
  | 1, _ => simp only [upf, upt, upb] at h; exact ⟨by rw [if_pos (by omega)], by omega, by omega⟩
  | 2, _ => simp only [upf, upt, upb] at h; exact ⟨by rw [if_pos (by omega)], by omega, by omega⟩
  | 3, _ => simp only [upf, upt, upb] at h; exact ⟨by rw [if_pos (by omega)], by omega, by omega⟩
theorem inB_false {f t b r : Int} (h : inB f t b r = false) : ¬ (f ≤ r ∧ r ≤ t ∧ r ≠ b) := by
  intro c
  rw [inB_yes c] at h
  cases h
theorem up_out (r : Int) (h : ∀ j, j < 4 → inB (upf j) (upt j) (upb j) r = false) : lower r = if 1024 ≤ r ∧ r ≤ 1039 then r + 80 else r := by
  have h0 := inB_false (h 0 (by omega))
  have h1 := inB_false (h 1 (by omega))
  have h2 := inB_false (h 2 (by omega))
  have h3 := inB_false (h 3 (by omega))
  simp only [upf, upt, upb] at h0 h1 h2 h3
  unfold lower
  rw [if_neg (by omega)]
theorem wd_in (r : Int) (j : Nat) (hj : j < 6) (h : inB (wdf j) (wdt j) (wdb j) r = true) : isWord r = (r != 247) := by
  unfold inB at h
  simp only [Bool.and_eq_true, decide_eq_true_eq] at h
  unfold isWord
  rw [Bool.eq_iff_iff, decide_eq_true_eq, bne_iff_ne]
  match j, hj with
  | 0, _ => simp only [wdf, wdt, wdb] at h; omega
  | 1, _ => simp only [wdf, wdt, wdb] at h; omega
  | 2, _ => simp only [wdf, wdt, wdb] at h; omega
  | 3, _ => simp only [wdf, wdt, wdb] at h; omega
  | 4, _ => simp only [wdf, wdt, wdb] at h; omega
  | 5, _ => simp only [wdf, wdt, wdb] at h; omega
theorem wd_out (r : Int) (h : ∀ j, j < 6 → inB (wdf j) (wdt j) (wdb j) r = false) : isWord r = false := by
  have h0 := inB_false (h 0 (by omega))
  have h1 := inB_false (h 1 (by omega))
  have h2 := inB_false (h 2 (by omega))
  have h3 := inB_false (h 3 (by omega))
  have h4 := inB_false (h 4 (by omega))
  have h5 := inB_false (h 5 (by omega))
  simp only [wdf, wdt, wdb] at h0 h1 h2 h3 h4 h5
  unfold isWord
  rw [decide_eq_false_iff_not]
  omega

set_option maxRecDepth 20000 in
set_option maxHeartbeats 800000 in
theorem lower_any (r : Int) (w : World) : Calls Try.prog 117 #[.int .i64 r] w fun e w' => e = .returned (.int .i64 (lower r)) ∧ Below w.heap.size w w' := by
  have hb : Below w.heap.size w ((w.alloc (.cells upZ 208)).setRow w.heap.size upA) := below_setRow ((Below.refl _ _).alloc (Nat.le_refl _) _) (Nat.le_refl _) _
  have hh := setRow_heap (w.alloc (.cells upZ 208)) w.heap.size upZ upA 208 (0, 0) (heap_alloc_new w _)
  have Hb := Lib.hid hb
  clear hb
  go_enter Try.func117, Try.ntmps117
  go_wp2_with (first
    | (refine wpList_store_row (o := ⟨none, .store 208 _ _, _, _, _, _⟩) rfl 208 _ _ rfl w.heap.size upA rfl rfl 208 upZ (heap_alloc_new w _) (by kernel_rfl) rfl upA_one ?_)
    | (refine wpList_load_row (o := ⟨some 11, .load 208 _, _, _, _, _⟩) rfl 208 _ rfl w.heap.size rfl 208 upA (0, 0) _ hh Try.underlying208 rfl (by kernel_rfl) ?_))
  clear hh
  go_loopw [12] (fun i wr => ∃ j : Nat, j ≤ 4 ∧ i = .int .i64 j ∧ (∀ i, i < j → inB (upf i) (upt i) (upb i) r = false) ∧ Below w.heap.size w wr) (fun i _ => 4 - (intOf i).toNat)
  case atStart => exact ⟨0, by omega, rfl, fun i h => by omega, Hb.out⟩
  case round =>
    obtain ⟨j, hj, rfl, hno, hb⟩ := hrel
    have Hno := Lib.hid hno
    clear hno
    by_cases hj4 : j < 4
    · have hix := idx_up j hj4
      by_cases hin : inB (upf j) (upt j) (upb j) r = true
      · have hl := up_in r j hj4 hin
        have hr1 := hl.2.1
        have hr0 := hl.2.2
        have Hl := Lib.hid hl.1
        clear hl
        go_wp2_with (go_at_call 115; refine (calls_from (hb.alloc hb.size _) (in_any _ _ _ _ _)).mono ?_; rintro e w' ⟨rfl, hb⟩)
        go_ret
        exact ⟨by rw [Hl.out]; rfl, hb⟩
      · have hinf : inB (upf j) (upt j) (upb j) r = false := by simpa using hin
        have Hin := Lib.hid hinf
        clear hin
        go_wp2_with (go_at_call 115; refine (calls_from (hb.alloc hb.size _) (in_any _ _ _ _ _)).mono ?_; rintro e w' ⟨rfl, hb⟩)
        go_roundw
        case rel => exact ⟨j + 1, by omega, by go_num, fun i h => by
          by_cases e : i = j
          · subst e; exact Hin.out
          · exact Hno.out i (by omega), hb⟩
        case measure => simp [intOf]; omega
    · obtain rfl : j = 4 := by omega
      have hl := up_out r Hno.out
      by_cases h5 : 1024 ≤ r ∧ r ≤ 1039
      · rw [if_pos h5] at hl
        have e5 : inB 1024 1039 (-1) r = true := inB_yes (by omega)
        have h51 := h5.1
        have h52 := h5.2
        have Hl := Lib.hid hl
        clear hl h5
        go_wp2_with (go_at_call 115; refine (calls_from hb (in_any _ _ _ _ _)).mono ?_; rintro e w' ⟨rfl, hb⟩)
        go_ret
        exact ⟨by rw [Hl.out]; rfl, hb⟩
      · rw [if_neg h5] at hl
        have e5 : inB 1024 1039 (-1) r = false := inB_no (by omega)
        have Hl := Lib.hid hl
        clear hl h5
        go_wp2_with (go_at_call 115; refine (calls_from hb (in_any _ _ _ _ _)).mono ?_; rintro e w' ⟨rfl, hb⟩)
        go_ret
        exact ⟨by rw [Hl.out]; rfl, hb⟩

set_option maxRecDepth 20000 in
set_option maxHeartbeats 800000 in
theorem word_any (r : Int) (w : World) : Calls Try.prog 101 #[.int .i64 r] w fun e w' => e = .returned (.bool (isWord r)) ∧ Below w.heap.size w w' := by
  have hb : Below w.heap.size w ((w.alloc (.cells wdZ 177)).setRow w.heap.size wdA) := below_setRow ((Below.refl _ _).alloc (Nat.le_refl _) _) (Nat.le_refl _) _
  have hh := setRow_heap (w.alloc (.cells wdZ 177)) w.heap.size wdZ wdA 177 (0, 0) (heap_alloc_new w _)
  have Hb := Lib.hid hb
  clear hb
  go_enter Try.func101, Try.ntmps101
  go_wp2_with (first
    | (refine wpList_store_row (o := ⟨none, .store 177 _ _, _, _, _, _⟩) rfl 177 _ _ rfl w.heap.size wdA rfl rfl 177 wdZ (heap_alloc_new w _) (by kernel_rfl) rfl wdA_one ?_)
    | (refine wpList_load_row (o := ⟨some 13, .load 177 _, _, _, _, _⟩) rfl 177 _ rfl w.heap.size rfl 177 wdA (0, 0) _ hh Try.underlying177 rfl (by kernel_rfl) ?_))
  clear hh
  go_loopw [14] (fun i wr => ∃ j : Nat, j ≤ 6 ∧ i = .int .i64 j ∧ (∀ i, i < j → inB (wdf i) (wdt i) (wdb i) r = false) ∧ Below w.heap.size w wr) (fun i _ => 6 - (intOf i).toNat)
  case atStart => exact ⟨0, by omega, rfl, fun i h => by omega, Hb.out⟩
  case round =>
    obtain ⟨j, hj, rfl, hno, hb⟩ := hrel
    have Hno := Lib.hid hno
    clear hno
    by_cases hj6 : j < 6
    · have hix := idx_wd j hj6
      by_cases hin : inB (wdf j) (wdt j) (wdb j) r = true
      · have Hl := Lib.hid (wd_in r j hj6 hin)
        go_wp2_with (go_at_call 115; refine (calls_from (hb.alloc hb.size _) (in_any _ _ _ _ _)).mono ?_; rintro e w' ⟨rfl, hb⟩)
        go_ret
        exact ⟨by rw [Hl.out]; rfl, hb⟩
      · have hinf : inB (wdf j) (wdt j) (wdb j) r = false := by simpa using hin
        have Hin := Lib.hid hinf
        clear hin
        go_wp2_with (go_at_call 115; refine (calls_from (hb.alloc hb.size _) (in_any _ _ _ _ _)).mono ?_; rintro e w' ⟨rfl, hb⟩)
        go_roundw
        case rel => exact ⟨j + 1, by omega, by go_num, fun i h => by
          by_cases e : i = j
          · subst e; exact Hin.out
          · exact Hno.out i (by omega), hb⟩
        case measure => simp [intOf]; omega
    · obtain rfl : j = 6 := by omega
      have Hl := Lib.hid (wd_out r Hno.out)
      go_wp2
      go_ret
      exact ⟨by rw [Hl.out]; rfl, hb⟩
end Go.Proofs.Ytfegkchajkpgfaa.Ut
