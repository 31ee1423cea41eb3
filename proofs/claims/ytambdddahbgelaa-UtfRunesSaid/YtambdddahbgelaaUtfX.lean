/- UtfRunes: the law's walk. -/
import Derived.Test.YtambdddahbgelaaUtfV
import Derived.Deep.QuietTactic
import Derived.BigQuiet
namespace Go.Proofs.Ytambdddahbgelaa.Ut
open Go.RowKit

set_option maxRecDepth 20000 in
set_option maxHeartbeats 3200000 in
theorem runes_walk (s : ByteArray) (a : Int) (A : Option Addr) (n c : Nat) (zs : List Int) (w : World) (hR : Reads w w.heap.size 1 A n (zs.map (Value.int .i64))) (hnc : n ≤ c) : Calls Try.prog 6 #[.string s, .int .i64 a, .slice A n c] w fun e w' => e = .returned (.bool true) ∧ Below w.heap.size w w' := by
  have hsz := ct_size 2000 s
  go_enter Try.func6, Try.ntmps6
  by_cases h5 : n ≤ 500
  case' pos =>
    have hX : ∃ ys : List Int, Reads w w.heap.size 1 A n (ys.map (Value.int .i64)) ∧ ys.length = n := ⟨_, hR, by have := hR.1; simpa using this⟩
    have h5' : ¬ (500 : Int) < n := by omega
    have hmin : (if (500 : Int) < (n : Int) then (500 : Int) else (n : Int)) = (n : Int) := if_neg (by omega)
  case' neg =>
    have hX : ∃ ys : List Int, Reads w w.heap.size 1 A 500 (ys.map (Value.int .i64)) ∧ ys.length = 500 := ⟨_, Reads.take (m := 500) hR (by omega), by have := (Reads.take (m := 500) hR (by omega)).1; simpa using this⟩
    have h5' : (500 : Int) < n := by omega
    have h5c : (500 : Int) ≤ c := by omega
    have hmin : (if (500 : Int) < (n : Int) then (500 : Int) else (n : Int)) = (500 : Int) := if_pos (by omega)
  all_goals
    obtain ⟨ys, hY, hyl⟩ := hX
    have hyb : ys.length ≤ 500 := by omega
    go_wp2
    go_quiet (first | (go_at_call 23; exact Calls.quiet_of_same ((cut_any _ _).mono fun _ _ h => ⟨h.1, h.2.symm⟩)))
    generalize ct 2000 s = t at *
    go_wp2_with fail
    refine (decode_any t a _ (by omega)).mono ?_
    rintro e w1 ⟨rfl, hb1⟩
    have hb1' : Below w.heap.size w w1 := (below_drewN (Below.refl _ _) _).trans hb1
    have c2 := decr_any t a w1 (by omega)
    generalize decAt t a = d at *
    clear hb1
    go_wp2_with fail
    refine c2.mono ?_
    rintro e w2 ⟨rfl, rfl⟩
    have c3 := runes_any t w1 (by omega)
    clear c2
    go_wp2_with fail
    refine c3.mono ?_
    rintro e w3 ⟨v3, rfl, hown3, hb3⟩
    obtain ⟨A3, cp3, rfl, hR3⟩ := own_shape hown3
    have hb3' := hb1'.trans (hb3.mono hb1'.size)
    have c4 := runes_ref t w3 (by omega)
    clear c3 hown3 hb3 hb1'
    go_wp2_with fail
    refine c4.mono ?_
    rintro e w4 ⟨v4, rfl, hown4, hb4⟩
    obtain ⟨A4, cp4, rfl, hR4⟩ := own_shape hown4
    have hb4' := hb3'.trans (hb4.mono hb3'.size)
    have hrl := runes_len t.data.toList
    rw [bsize] at hrl
    have c5 := calls_from hb4' (same_ref A3 A4 _ cp3 cp4 _ w4 ((hR3.below hb4).more hb4.size) hR4 (by omega))
    clear c4 hown4 hb4 hb3' hR3 hR4
    go_wp2_with fail
    refine c5.mono ?_
    rintro e w5 ⟨rfl, hb5⟩
    have c6 := calls_from hb5 (encode_any A _ c ys w5 ((hY.below hb5).more hb5.size) (by omega))
    clear c5 hb4'
    go_wp2_with fail
    refine c6.mono ?_
    rintro e w6 ⟨rfl, hb6⟩
    have c7 := calls_from hb6 (encode_ref A _ c ys w6 ((hY.below hb6).more hb6.size) (by omega))
    clear c6 hb5
    generalize str (encode ys) = q at *
    go_wp2_with fail
    refine c7.mono ?_
    rintro e w7 ⟨rfl, hb7⟩
    have c8 := calls_from hb7 (awake_any w7)
    clear c7 hb6 hb7 hY
    go_wp2_with fail
    refine c8.mono ?_
    rintro e w8 ⟨rfl, hb8⟩
    go_wp2
    go_ret
    exact ⟨rfl, hb8⟩
end Go.Proofs.Ytambdddahbgelaa.Ut
