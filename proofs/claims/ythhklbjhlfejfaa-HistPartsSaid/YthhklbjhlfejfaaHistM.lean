/- hist.floor, Key, Start; the reference's Key, Start. -/
import Derived.Test.YthhklbjhlfejfaaHistL
namespace Go.Proofs.Ythhklbjhlfejfaa.Hi
open Go.RowKit
set_option maxRecDepth 20000
theorem fl_neg (n d : Int) (hd : 1 ≤ d) (h : n.tmod d < 0) : n.tdiv d - 1 = n / d := by
  have h1 := Int.mul_tdiv_add_tmod n d
  have h2 := Int.lt_tmod_of_pos n (show 0 < d by omega)
  have h3 : n = d * (n.tdiv d - 1) + (n.tmod d + d) := by rw [Int.mul_sub]; omega
  have h4 : n / d = (d * (n.tdiv d - 1) + (n.tmod d + d)) / d := by rw [← h3]
  rw [h4, Int.add_comm, Int.add_mul_ediv_left _ _ (by omega), Int.ediv_eq_zero_of_lt (by omega) (by omega)]; omega
theorem fl_pos (n d : Int) (hd : 1 ≤ d) (h : ¬ n.tmod d < 0) : n.tdiv d = n / d := by
  have h1 := Int.mul_tdiv_add_tmod n d
  have h2 := Int.tmod_lt_of_pos n (show 0 < d by omega)
  have h4 : n / d = (d * (n.tdiv d) + n.tmod d) / d := by rw [h1]
  rw [h4, Int.add_comm, Int.add_mul_ediv_left _ _ (by omega), Int.ediv_eq_zero_of_lt (by omega) (by omega)]; omega
theorem td_b (n d : Int) (hd : 1 ≤ d) (h1 : -9223372036854775808 ≤ n) (h2 : n ≤ 9223372036854775807) : -9223372036854775808 ≤ n.tdiv d ∧ n.tdiv d ≤ 9223372036854775807 := by
  have := Int.natAbs_tdiv_le_natAbs n d
  constructor
  · rcases Int.le_total 0 n with h | h
    · have := Int.tdiv_nonneg h (show 0 ≤ d by omega); omega
    · have := Int.natAbs_tdiv_le_natAbs n d; omega
  · rcases Int.le_total 0 n with h | h
    · have := Int.natAbs_tdiv_le_natAbs n d; omega
    · have := Int.tdiv_nonneg (a := -n) (b := d) (by omega) (by omega)
      rw [Int.neg_tdiv] at this
      omega
theorem fl_b (n d : Int) (hd : 1 ≤ d) (h1 : -9223372036854775808 ≤ n) (h2 : n ≤ 9223372036854775807) : -9223372036854775808 ≤ n / d ∧ n / d ≤ 9223372036854775807 := by
  have a := Int.le_ediv_of_mul_le (c := d) (a := -9223372036854775808) (b := n) (by omega) (by omega)
  have b := Int.ediv_lt_of_lt_mul (c := d) (a := n) (b := 9223372036854775808) (by omega) (by omega)
  omega
abbrev In64 (n : Int) : Prop := -9223372036854775808 ≤ n ∧ n ≤ 9223372036854775807

set_option maxHeartbeats 800000 in
theorem floor_any (n d : Int) (w : World) (hd : 1 ≤ d) (hn : In64 n) (hd2 : d ≤ 9223372036854775807) : Calls Try.prog 27 #[.int .i64 n, .int .i64 d] w fun e w' => e = .returned (.int .i64 (n / d)) ∧ w = w' := by
  have hb := td_b n d hd hn.1 hn.2
  have hf := fl_b n d hd hn.1 hn.2
  have h0 : ¬ d = 0 := by omega
  have hw1 : wrap64 (n.tdiv d) = n.tdiv d := IntWalk.wrap64_in _ hb
  have hm1 := Int.tmod_lt_of_pos n (show 0 < d by omega)
  have hm2 := Int.lt_tmod_of_pos n (show 0 < d by omega)
  have hw2 : wrap64 (n.tmod d) = n.tmod d := IntWalk.wrap64_in _ (by omega)
  by_cases h : n.tmod d < 0
  · have e := Lib.hid (fl_neg n d hd h)
    have hw3 : wrap64 (n.tdiv d - 1) = n.tdiv d - 1 := IntWalk.wrap64_in _ (by rw [e.out]; exact hf)
    clear hm1 hm2 hf hb hn
    go_enter Try.func27, Try.ntmps27
    go_wp2
    go_ret
    exact ⟨by show Ending.returned (.int .i64 (wrap64 (n.tdiv d - 1))) = _; rw [hw3, e.out], rfl⟩
  · have e := Lib.hid (fl_pos n d hd h)
    clear hm1 hm2 hf hb hn
    go_enter Try.func27, Try.ntmps27
    go_wp2
    go_ret
    exact ⟨by show Ending.returned (.int .i64 (n.tdiv d)) = _; rw [e.out], rfl⟩

set_option maxHeartbeats 800000 in
theorem rkey_any (n d : Int) (w : World) (hd : 1 ≤ d) (hn : In64 n) (hd2 : d ≤ 9223372036854775807) : Calls Try.prog 12 #[.int .i64 n, .int .i64 d] w fun e w' => e = .returned (.int .i64 (n / d)) ∧ w = w' := by
  have hb := td_b n d hd hn.1 hn.2
  have hf := fl_b n d hd hn.1 hn.2
  have h0 : ¬ d = 0 := by omega
  have hw1 : wrap64 (n.tdiv d) = n.tdiv d := IntWalk.wrap64_in _ hb
  by_cases h : n.tmod d < 0
  · have e := Lib.hid (fl_neg n d hd h)
    have hw3 : wrap64 (n.tdiv d - 1) = n.tdiv d - 1 := IntWalk.wrap64_in _ (by rw [e.out]; exact hf)
    clear hf hb hn
    go_enter Try.func12, Try.ntmps12
    go_wp2
    go_ret
    exact ⟨by show Ending.returned (.int .i64 (wrap64 (n.tdiv d - 1))) = _; rw [hw3, e.out], rfl⟩
  · have e := Lib.hid (fl_pos n d hd h)
    clear hf hb hn
    go_enter Try.func12, Try.ntmps12
    go_wp2
    go_ret
    exact ⟨by show Ending.returned (.int .i64 (n.tdiv d)) = _; rw [e.out], rfl⟩

set_option maxHeartbeats 800000 in
theorem key_any (n d : Int) (w : World) (hn : In64 n) (hd2 : d ≤ 9223372036854775807) : Calls Try.prog 8 #[.int .i64 n, .int .i64 d] w fun e w' => e = .returned (.tuple (if d < 1 then #[.int .i64 0, .int .i64 240] else #[.int .i64 (n / d), .int .i64 0])) ∧ w = w' := by
  by_cases hd : d < 1
  · rw [if_pos hd]
    go_enter Try.func8, Try.ntmps8
    go_wp2
    go_ret2
    exact ⟨rfl, rfl⟩
  · rw [if_neg hd]
    have c := floor_any n d w (by omega) hn hd2
    go_enter Try.func8, Try.ntmps8
    go_wp2_with fail
    refine c.mono ?_
    rintro e w' ⟨rfl, rfl⟩
    go_wp2
    go_ret2
    exact ⟨rfl, rfl⟩

/-- Where a bucket begins. -/
def startF (k d : Int) : Int :=
  if d < 1 then 0 else if 9223372036854775807 / d < k then 9223372036854775807 else if k < -(9223372036854775808 / d) then -9223372036854775808 else k * d
theorem mx_b (d : Int) (hd : 1 ≤ d) : 0 ≤ 9223372036854775807 / d ∧ 9223372036854775807 / d ≤ 9223372036854775807 ∧ 9223372036854775807 / d * d ≤ 9223372036854775807 ∧ 9223372036854775807 < (9223372036854775807 / d + 1) * d := by
  have h1 := Int.mul_ediv_add_emod 9223372036854775807 d
  have h2 := Int.emod_lt_of_pos 9223372036854775807 (show 0 < d by omega)
  have h3 := Int.emod_nonneg 9223372036854775807 (show d ≠ 0 by omega)
  have h4 := Int.ediv_nonneg (a := 9223372036854775807) (b := d) (by omega) (by omega)
  have h5 := Int.ediv_le_self d (show (0 : Int) ≤ 9223372036854775807 by omega)
  rw [Int.mul_comm] at h1
  refine ⟨h4, h5, by omega, ?_⟩
  rw [Int.add_mul]
  omega
theorem mn_b (d : Int) (hd : 1 ≤ d) : 0 ≤ 9223372036854775808 / d ∧ 9223372036854775808 / d ≤ 9223372036854775808 ∧ 9223372036854775808 / d * d ≤ 9223372036854775808 ∧ 9223372036854775808 < (9223372036854775808 / d + 1) * d := by
  have h1 := Int.mul_ediv_add_emod 9223372036854775808 d
  have h2 := Int.emod_lt_of_pos 9223372036854775808 (show 0 < d by omega)
  have h3 := Int.emod_nonneg 9223372036854775808 (show d ≠ 0 by omega)
  have h4 := Int.ediv_nonneg (a := 9223372036854775808) (b := d) (by omega) (by omega)
  have h5 := Int.ediv_le_self d (show (0 : Int) ≤ 9223372036854775808 by omega)
  rw [Int.mul_comm] at h1
  refine ⟨h4, h5, by omega, ?_⟩
  rw [Int.add_mul]
  omega
theorem start_b (k d : Int) (hd : 1 ≤ d) (h1 : ¬ 9223372036854775807 / d < k) (h2 : ¬ k < -(9223372036854775808 / d)) : In64 (k * d) := by
  have a := Int.mul_le_mul_of_nonneg_right (show k ≤ 9223372036854775807 / d by omega) (show 0 ≤ d by omega)
  have b := Int.mul_le_mul_of_nonneg_right (show -(9223372036854775808 / d) ≤ k by omega) (show 0 ≤ d by omega)
  have x := mx_b d hd
  have y := mn_b d hd
  rw [Int.neg_mul] at b
  omega

set_option maxHeartbeats 1600000 in
theorem start_any (k d : Int) (w : World) : Calls Try.prog 9 #[.int .i64 k, .int .i64 d] w fun e w' => e = .returned (.int .i64 (startF k d)) ∧ w = w' := by
  unfold startF
  by_cases hd : d < 1
  · rw [if_pos hd]
    go_enter Try.func9, Try.ntmps9
    go_wp2
    go_ret
    exact ⟨rfl, rfl⟩
  · rw [if_neg hd]
    have x := mx_b d (by omega)
    have y := mn_b d (by omega)
    have h0 : ¬ d = 0 := by omega
    have hw1 : wrap64 (9223372036854775807 / d) = 9223372036854775807 / d := IntWalk.wrap64_in _ (by omega)
    have hw2 : wrap64 (-(9223372036854775808 : Int).tdiv d) = -(9223372036854775808 / d) := by rw [Int.tdiv_eq_ediv_of_nonneg (by omega)]; exact IntWalk.wrap64_in _ (by omega)
    clear x y
    by_cases h1 : 9223372036854775807 / d < k
    · rw [if_pos h1]
      go_enter Try.func9, Try.ntmps9
      go_wp2
      go_ret
      exact ⟨rfl, rfl⟩
    · rw [if_neg h1]
      by_cases h2 : k < -(9223372036854775808 / d)
      · rw [if_pos h2]
        go_enter Try.func9, Try.ntmps9
        go_wp2
        go_ret
        exact ⟨rfl, rfl⟩
      · rw [if_neg h2]
        have hw3 : wrap64 (k * d) = k * d := IntWalk.wrap64_in _ (start_b k d (by omega) h1 h2)
        go_enter Try.func9, Try.ntmps9
        go_wp2
        go_ret
        exact ⟨rfl, rfl⟩

set_option maxHeartbeats 1600000 in
theorem rstart_any (k d : Int) (w : World) : Calls Try.prog 10 #[.int .i64 k, .int .i64 d] w fun e w' => e = .returned (.int .i64 (startF k d)) ∧ w = w' := by
  unfold startF
  by_cases hd : d < 1
  · rw [if_pos hd]
    go_enter Try.func10, Try.ntmps10
    go_wp2
    go_ret
    exact ⟨rfl, rfl⟩
  · rw [if_neg hd]
    have x := mx_b d (by omega)
    have y := mn_b d (by omega)
    have h0 : ¬ d = 0 := by omega
    have hw1 : wrap64 (9223372036854775807 / d) = 9223372036854775807 / d := IntWalk.wrap64_in _ (by omega)
    have hw2 : wrap64 (-(9223372036854775808 : Int).tdiv d) = -(9223372036854775808 / d) := by rw [Int.tdiv_eq_ediv_of_nonneg (by omega)]; exact IntWalk.wrap64_in _ (by omega)
    by_cases h1 : 9223372036854775807 / d < k
    · rw [if_pos h1]
      have hk : 0 < k := by omega
      clear x y
      go_enter Try.func10, Try.ntmps10
      go_wp2
      go_ret
      exact ⟨rfl, rfl⟩
    · rw [if_neg h1]
      by_cases h2 : k < -(9223372036854775808 / d)
      · rw [if_pos h2]
        have hk : k < 0 := by omega
        have hk' : ¬ 0 < k := by omega
        clear x y
        go_enter Try.func10, Try.ntmps10
        go_wp2
        go_ret
        exact ⟨rfl, rfl⟩
      · rw [if_neg h2]
        have hw3 : wrap64 (k * d) = k * d := IntWalk.wrap64_in _ (start_b k d (by omega) h1 h2)
        clear x y
        rcases Int.lt_trichotomy k 0 with hk | hk | hk
        · have hk' : ¬ 0 < k := by omega
          go_enter Try.func10, Try.ntmps10
          go_wp2
          go_ret
          exact ⟨rfl, rfl⟩
        · subst hk
          go_enter Try.func10, Try.ntmps10
          go_wp2
          go_ret
          exact ⟨rfl, rfl⟩
        · have hk' : ¬ k < 0 := by omega
          go_enter Try.func10, Try.ntmps10
          go_wp2
          go_ret
          exact ⟨rfl, rfl⟩
end Go.Proofs.Ythhklbjhlfejfaa.Hi
