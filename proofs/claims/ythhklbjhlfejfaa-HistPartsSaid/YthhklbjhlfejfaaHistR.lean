/- HistKeys. -/
import Derived.Test.YthhklbjhlfejfaaHistQ
namespace Go.Proofs.Ythhklbjhlfejfaa.Hi
open Go.RowKit
set_option maxRecDepth 20000
theorem in64_wf {n : Int} (h : (Lit.int .i64 n).wf = true) : In64 n := by
  simpa [Lit.wf, IntKind.min, IntKind.max, IntKind.signed, IntKind.bits] using h
theorem startF_b (k d : Int) : In64 (startF k d) := by
  unfold startF
  split
  · decide
  · split
    · decide
    · split
      · decide
      · exact start_b k d (by omega) (by omega) (by omega)
/-- A time lies in its bucket. -/
theorem start_lies (n d : Int) (hd : 1 ≤ d) (hn : In64 n) : startF (n / d) d ≤ n ∧ (startF (n / d) d ≤ 9223372036854775807 - d → n < startF (n / d) d + d) := by
  have h1 := Int.mul_ediv_add_emod n d
  have h2 := Int.emod_lt_of_pos n (show 0 < d by omega)
  have h3 := Int.emod_nonneg n (show d ≠ 0 by omega)
  have hx := mx_b d hd
  have hy := mn_b d hd
  generalize n / d = q at *
  generalize n % d = r at *
  rw [Int.mul_comm] at h1
  unfold startF
  rw [if_neg (by omega)]
  split
  · rename_i h
    have := Int.mul_le_mul_of_nonneg_right (show 9223372036854775807 / d + 1 ≤ q by omega) (show 0 ≤ d by omega)
    omega
  · split
    · rename_i h
      have := Int.mul_le_mul_of_nonneg_right (show q ≤ -(9223372036854775808 / d + 1) by omega) (show 0 ≤ d by omega)
      rw [Int.neg_mul] at this
      omega
    · omega

set_option maxHeartbeats 3200000 in
theorem keys_walk (n d k : Int) (w : World) (hn0 : (Lit.int .i64 n).wf = true) (hd0 : (Lit.int .i64 d).wf = true) : Calls Try.prog 3 #[.int .i64 n, .int .i64 d, .int .i64 k] w fun e w' => e = .returned (.bool true) ∧ Below w.heap.size w w' := by
  have hn := in64_wf hn0
  have hd := in64_wf hd0
  have c0 := key_any n d w hn hd.2
  have c1 := start_any k d w
  have c2 := rstart_any k d w
  have ca := awake_any w
  clear hn0 hd0
  by_cases h1 : d < 1
  · rw [if_pos h1] at c0
    go_enter Try.func3, Try.ntmps3
    go_wp2_with fail
    refine c0.mono ?_
    rintro e w1 ⟨rfl, rfl⟩
    go_wp2_with fail
    refine c1.mono ?_
    rintro e w1 ⟨rfl, rfl⟩
    go_wp2_with fail
    refine c2.mono ?_
    rintro e w1 ⟨rfl, rfl⟩
    clear c0 c1 c2
    generalize startF k d = z at *
    go_wp2_with fail
    refine ca.mono ?_
    rintro e w1 ⟨rfl, hb⟩
    have Hb := Lib.hid hb
    clear hb ca
    go_wp2
    go_ret
    exact ⟨rfl, Hb.out⟩
  · rw [if_neg h1] at c0
    have c3 := start_any (n / d) d w
    have c4 := rkey_any n d w (by omega) hn hd.2
    have c5 := rstart_any (n / d) d w
    obtain ⟨l1, l2⟩ := start_lies n d (by omega) hn
    have sb := startF_b (n / d) d
    generalize startF (n / d) d = s at *
    generalize n / d = q at *
    generalize startF k d = z at *
    have hw1 : wrap64 (9223372036854775807 - d) = 9223372036854775807 - d := IntWalk.wrap64_in _ (by omega)
    have hl : ¬ n < s := by omega
    by_cases h2 : s ≤ 9223372036854775807 - d
    · have hw2 : wrap64 (s + d) = s + d := IntWalk.wrap64_in _ (by omega)
      have h3 : ¬ s + d ≤ n := by have := l2 h2; omega
      clear l1 l2 sb
      go_enter Try.func3, Try.ntmps3
      go_wp2_with fail
      refine c0.mono ?_
      rintro e w1 ⟨rfl, rfl⟩
      go_wp2_with fail
      refine c1.mono ?_
      rintro e w1 ⟨rfl, rfl⟩
      go_wp2_with fail
      refine c2.mono ?_
      rintro e w1 ⟨rfl, rfl⟩
      go_wp2_with fail
      refine c3.mono ?_
      rintro e w1 ⟨rfl, rfl⟩
      go_wp2_with fail
      refine c4.mono ?_
      rintro e w1 ⟨rfl, rfl⟩
      go_wp2_with fail
      refine c5.mono ?_
      rintro e w1 ⟨rfl, rfl⟩
      go_wp2_with fail
      refine ca.mono ?_
      rintro e w1 ⟨rfl, hb⟩
      have Hb := Lib.hid hb
      clear hb ca
      go_wp2
      go_ret
      exact ⟨rfl, Hb.out⟩
    · clear l1 l2 sb
      go_enter Try.func3, Try.ntmps3
      go_wp2_with fail
      refine c0.mono ?_
      rintro e w1 ⟨rfl, rfl⟩
      go_wp2_with fail
      refine c1.mono ?_
      rintro e w1 ⟨rfl, rfl⟩
      go_wp2_with fail
      refine c2.mono ?_
      rintro e w1 ⟨rfl, rfl⟩
      go_wp2_with fail
      refine c3.mono ?_
      rintro e w1 ⟨rfl, rfl⟩
      go_wp2_with fail
      refine c4.mono ?_
      rintro e w1 ⟨rfl, rfl⟩
      go_wp2_with fail
      refine c5.mono ?_
      rintro e w1 ⟨rfl, rfl⟩
      go_wp2_with fail
      refine ca.mono ?_
      rintro e w1 ⟨rfl, hb⟩
      have Hb := Lib.hid hb
      clear hb ca
      go_wp2
      go_ret
      exact ⟨rfl, Hb.out⟩
end Go.Proofs.Ythhklbjhlfejfaa.Hi
