/- UtfFolds, UtfBack: the laws' walks. -/
import Derived.Test.YtambdddahbgelaaUtfH
namespace Go.Proofs.Ytambdddahbgelaa.Ut
open Go.RowKit

def exA : ByteArray := ⟨#[195, 137, 255]⟩
def exB : ByteArray := ⟨#[255]⟩
theorem ex_dec : decAt exA 0 = (201, 2) := by decide +kernel
theorem ex_fold : str (fold exA.data.toList) = ⟨#[195, 169, 239, 191, 189]⟩ := by decide +kernel
theorem ex_w1 : isWord 201 = true := by decide
theorem ex_w2 : isWord 32 = false := by decide
theorem ex_low : lower 65 = 97 := by decide
theorem ex_valid : valid exB.data.toList = false := by decide +kernel

set_option maxHeartbeats 800000 in
theorem awake_any (w : World) : Calls Try.prog 31 #[] w fun e w' => e = .returned (.bool true) ∧ Below w.heap.size w w' := by
  have c1 := decode_any exA 0 w (by decide)
  rw [ex_dec] at c1
  go_enter Try.func31, Try.ntmps31
  go_wp2_with fail
  refine c1.mono ?_
  rintro e w1 ⟨rfl, hb1⟩
  have c2 := calls_from hb1 (fold_any exA w1 (by decide))
  rw [ex_fold] at c2
  go_wp2_with fail
  refine c2.mono ?_
  rintro e w2 ⟨rfl, hb2⟩
  have c3 := calls_from hb2 (word_any 201 w2)
  rw [ex_w1] at c3
  go_wp2_with fail
  refine c3.mono ?_
  rintro e w3 ⟨rfl, hb3⟩
  have c4 := calls_from hb3 (word_any 32 w3)
  rw [ex_w2] at c4
  go_wp2_with fail
  refine c4.mono ?_
  rintro e w4 ⟨rfl, hb4⟩
  have c5 := calls_from hb4 (lower_any 65 w4)
  rw [ex_low] at c5
  go_wp2_with fail
  refine c5.mono ?_
  rintro e w5 ⟨rfl, hb5⟩
  have c6 := calls_from hb5 (valid_any exB w5 (by decide))
  rw [ex_valid] at c6
  go_wp2_with fail
  refine c6.mono ?_
  rintro e w6 ⟨rfl, hb6⟩
  go_wp2
  go_ret
  exact ⟨rfl, hb6⟩

def ct (n : Nat) (s : ByteArray) : ByteArray := s.extract 0 (min s.size n)
theorem ct_size (n : Nat) (s : ByteArray) : (ct n s).size ≤ n := by
  unfold ct; rw [ByteArray.size_extract]; omega
theorem cut_any (s : ByteArray) (w : World) : Calls Try.prog 23 #[.string s] w fun e w' => e = .returned (.string (ct 2000 s)) ∧ w = w' := by
  by_cases h : s.size ≤ 2000
  · have hc : ct 2000 s = s := by unfold ct; rw [Nat.min_eq_left h]; exact ByteArray.extract_zero_size
    have h' : (s.size : Int) ≤ 2000 := by omega
    rw [hc]
    clear hc
    go_enter Try.func23, Try.ntmps23
    go_wp2
    go_ret
    exact ⟨by simp, rfl⟩
  · have hc : ct 2000 s = s.extract 0 2000 := by unfold ct; rw [Nat.min_eq_right (by omega)]
    have h' : (2000 : Int) < s.size := by omega
    rw [hc]
    clear hc
    go_enter Try.func23, Try.ntmps23
    go_wp2
    go_ret
    exact ⟨by rfl, rfl⟩

theorem fold_len (l : List UInt8) : (fold l).length ≤ 4 * l.length := by
  unfold fold
  have h1 := encode_len ((ints (runes l)).map lower)
  have h2 := runes_len l
  have h3 : ((ints (runes l)).map lower).length = (runes l).length := by simp [ints]
  omega
theorem runes_fold_len (l : List UInt8) : (runes (fold l)).length = (runes l).length := by rw [runes_fold, List.length_map]

set_option maxHeartbeats 1600000 in
theorem folds_walk (s : ByteArray) (w : World) : Calls Try.prog 9 #[.string s] w fun e w' => e = .returned (.bool true) ∧ Below w.heap.size w w' := by
  have c0 := cut_any s w
  have hsz := ct_size 2000 s
  go_enter Try.func9, Try.ntmps9
  go_wp2_with fail
  refine c0.mono ?_
  rintro e w' ⟨rfl, rfl⟩
  generalize ct 2000 s = t at *
  have hfl := fold_len t.data.toList
  rw [bsize] at hfl
  have c1 := fold_any t w (by omega)
  go_wp2_with fail
  refine c1.mono ?_
  rintro e w1 ⟨rfl, hb1⟩
  have c2 := calls_from hb1 (fold_any (str (fold t.data.toList)) w1 (by rw [str_size]; omega))
  rw [str_data, fold_fold] at c2
  have hv : valid (str (fold t.data.toList)).data.toList = true := by rw [str_data]; exact valid_fold _
  have hsf : (str (fold t.data.toList)).size ≤ 8000 := by rw [str_size]; omega
  have hrf : (runes (str (fold t.data.toList)).data.toList).length = (runes t.data.toList).length := by rw [str_data]; exact runes_fold_len _
  have Hv := Lib.hid hv
  have Hrf := Lib.hid hrf
  clear hv hrf c0 c1 hfl
  generalize str (fold t.data.toList) = f at *
  go_wp2_with fail
  refine c2.mono ?_
  rintro e w2 ⟨rfl, hb2⟩
  have c3 := calls_from hb2 (valid_any f w2 (by omega))
  rw [Hv.out] at c3
  go_wp2_with fail
  refine c3.mono ?_
  rintro e w3 ⟨rfl, hb3⟩
  have c4 := runes_any f w3 (by omega)
  rw [Hrf.out] at c4
  have hrl := runes_len t.data.toList
  rw [bsize] at hrl
  go_wp2_with fail
  refine c4.mono ?_
  rintro e w4 ⟨v4, rfl, hown4, hb4⟩
  obtain ⟨A4, cp4, rfl, _⟩ := own_shape hown4
  have hb4' := hb3.trans (hb4.mono hb3.size)
  have c5 := runes_any t w4 (by omega)
  clear hown4 c2 c3 c4
  go_wp2_with fail
  refine c5.mono ?_
  rintro e w5 ⟨v5, rfl, hown5, hb5⟩
  obtain ⟨A5, cp5, rfl, _⟩ := own_shape hown5
  have hb5' := hb4'.trans (hb5.mono hb4'.size)
  have Hb5 := Lib.hid hb5'
  clear hown5 c5 hb5 hb4 hb4' hb5'
  go_wp2_with fail
  go_loopw [4, 5] (fun a c wr => ∃ (k m : Nat), k ≤ t.size ∧ m ≤ k ∧ a = .int .i64 k ∧ c = .int .i64 m ∧ (runes t.data.toList).length = m + (runes (t.data.toList.drop k)).length ∧ Below w.heap.size w wr)
    (fun a _ _ => t.size - (intOf a).toNat)
  case atStart => exact ⟨0, 0, by omega, by omega, rfl, rfl, by simp, Hb5.out⟩
  case round =>
    obtain ⟨k, m, hk, hmk, rfl, rfl, hru, hb⟩ := hrel
    by_cases hlt : k < t.size
    · have hne : t.data.toList.drop k ≠ [] := by rw [drop_cons t k hlt]; simp
      have hsz := dec_size _ hne
      rw [List.length_drop, bsize] at hsz
      have hrc := runes_cons _ hne
      rw [hrc, List.drop_drop] at hru
      have c := decode_any t (k : Int) wr (by omega)
      rw [decAt_nat] at c
      have Hru := Lib.hid hru
      clear hrc hru hne
      generalize dec (t.data.toList.drop k) = d at *
      have hd1 := hsz.1
      have hd2 := hsz.2.1
      have hd4 := hsz.2.2
      clear hsz
      go_wp2_with fail
      refine c.mono ?_
      rintro e w6 ⟨rfl, hb6⟩
      have Hb6 := Lib.hid (hb.trans (hb6.mono hb.size))
      clear hb hb6
      go_wp2
      go_roundw
      case rel => exact ⟨k + d.2, m + 1, by omega, by omega, by go_num, by go_num, by have := Hru.out; rw [List.length_cons] at this; omega, Hb6.out⟩
      case measure => simp [intOf]; omega
    · have hd0 : t.data.toList.drop k = [] := drop_out t k (by omega)
      rw [hd0, runes_nil] at hru
      have hkk : k = t.size := by omega
      subst hkk
      have hmm : (runes t.data.toList).length = m := by simpa using hru
      have c6 := runes_any t wr (by omega)
      rw [hmm] at c6
      clear hd0 hru
      go_wp2_with fail
      refine c6.mono ?_
      rintro e w6 ⟨v6, rfl, hown6, hb6⟩
      obtain ⟨A6, cp6, rfl, _⟩ := own_shape hown6
      have hb6' := hb.trans (hb6.mono hb.size)
      have c7 := awake_any w6
      clear hown6 hb6 hb
      go_wp2_with fail
      refine c7.mono ?_
      rintro e w7 ⟨rfl, hb7⟩
      have Hb7 := Lib.hid (hb6'.trans (hb7.mono hb6'.size))
      clear hb6' hb7
      go_wp2
      go_ret
      exact ⟨rfl, Hb7.out⟩
end Go.Proofs.Ytambdddahbgelaa.Ut
