/- Bits, Count, and the law's example. -/
import Derived.Test.YtambdddahbgelaaBloomX
namespace Go.Proofs.Ytambdddahbgelaa.Bl
open Go.RowKit

set_option maxHeartbeats 400000 in
theorem bits_any (g h : Nat) (bs : List Nat) (w : World) (hF : FAt w g h bs) :
    Calls Try.prog 20 #[.pointer (some ⟨g, 0, none⟩)] w fun e w' => e = .returned (.int .i64 ((8 * bs.length : Nat) : Int)) ∧ w = w' := by
  have c0 := none_any g h bs w hF
  have c1 := size_any g h bs w hF
  go_enter Try.func20, Try.ntmps20
  go_wp2_with (first
    | (go_at_call 44; refine c0.mono ?_; rintro e w' ⟨rfl, rfl⟩)
    | (go_at_call 46; refine c1.mono ?_; rintro e w' ⟨rfl, rfl⟩))
  go_ret
  exact ⟨by simp, rfl⟩

def cnt (bs : List Nat) (k : Nat) : Nat := ((List.range k).filter (gb bs)).length
theorem cnt_le (bs : List Nat) (k : Nat) : cnt bs k ≤ k := by
  have := List.length_filter_le (gb bs) (List.range k)
  rwa [List.length_range] at this
theorem cnt_succ (bs : List Nat) (k : Nat) : cnt bs (k + 1) = cnt bs k + if gb bs k then 1 else 0 := by
  unfold cnt
  rw [List.range_succ, List.filter_append, List.length_append]
  congr 1
  by_cases h : gb bs k <;> simp [h]

set_option maxHeartbeats 800000 in
theorem count_any (g h : Nat) (bs : List Nat) (w : World) (hF : FAt w g h bs) :
    Calls Try.prog 21 #[.pointer (some ⟨g, 0, none⟩)] w fun e w' => e = .returned (.int .i64 (cnt bs (8 * bs.length) : Nat)) ∧ w = w' := by
  have c0 := bits_any g h bs w hF
  have hhi := hF.hi
  go_enter Try.func21, Try.ntmps21
  go_wp2_with (go_at_call 20; refine c0.mono ?_; rintro e w' ⟨rfl, rfl⟩)
  go_loop [3, 7] (fun n i => ∃ k : Nat, k ≤ 8 * bs.length ∧ i = .int .i64 k ∧ n = .int .i64 (cnt bs k : Nat)) (fun _ i => 8 * bs.length - (intOf i).toNat)
  case atStart => exact ⟨0, Nat.zero_le _, rfl, rfl⟩
  case round =>
    obtain ⟨k, hk, rfl, rfl⟩ := hrel
    by_cases hlt : k < 8 * bs.length
    · have c1 := has_any g h k bs w hF hlt
      have hn := cnt_succ bs k
      have hle := cnt_le bs k
      by_cases hg : gb bs k = true
      · rw [hg] at c1 hn
        have Hn := Lib.hid hn
        clear hn hg
        go_wp2_with (go_at_call 48; refine c1.mono ?_; rintro e w' ⟨rfl, rfl⟩)
        go_round
        case rel => exact ⟨k + 1, by omega, by go_num, by rw [Hn.out]; go_num⟩
        case measure => simp [intOf]; omega
      · have hgf : gb bs k = false := by simpa using hg
        rw [hgf] at c1 hn
        have Hn := Lib.hid hn
        clear hn hg hgf
        go_wp2_with (go_at_call 48; refine c1.mono ?_; rintro e w' ⟨rfl, rfl⟩)
        go_round
        case rel => exact ⟨k + 1, by omega, by go_num, by rw [Hn.out]; go_num⟩
        case measure => simp [intOf]; omega
    · obtain rfl : k = 8 * bs.length := by omega
      go_wp2
      go_ret
      exact ⟨by simp, rfl⟩

def oneA : ByteArray := ⟨#[97]⟩
theorem ex_nby : nby 0 = 8 := by decide
theorem ex_may : may (zs 8) oneA.data.toList = false := by decide +kernel
theorem ex_add : (addT (zs 8, 0) [oneA]).2 = 4 := by decide +kernel
theorem ex_may2 : may (addT (zs 8, 0) [oneA]).1 oneA.data.toList = true := by decide +kernel
theorem ex_cnt : cnt (addT (zs 8, 0) [oneA]).1 64 = 4 := by decide +kernel
theorem ex_len : (addT (zs 8, 0) [oneA]).1.length = 8 := by rw [addT_len, zs_len]

/-- A fresh row of one string. -/
theorem reads_one (w : World) (t : TypeId) (s : ByteArray) : Reads (w.alloc (.cells #[.string s] t)) (w.alloc (.cells #[.string s] t)).heap.size 1 (some ⟨w.heap.size, 0, none⟩) 1 ([s].map Value.string) := by
  refine ⟨by simp, fun _ => ⟨_, _, rfl, by simp, fun j u hu => ?_⟩⟩
  match j, hu with
  | 0, hu =>
    simp only [List.map_cons, List.map_nil, List.getElem?_cons_zero, Option.some.injEq] at hu
    subst hu
    exact (Blk.new w t #[.string s]).cell 0

set_option maxHeartbeats 800000 in
theorem awake_any (w : World) : Calls Try.prog 13 #[] w fun e w' => e = .returned (.bool true) ∧ Below w.heap.size w w' := by
  have c1 := new_ok 0 w (by decide)
  rw [ex_nby] at c1
  go_enter Try.func13, Try.ntmps13
  go_wp2_with fail
  refine c1.mono ?_
  rintro e w1 ⟨g, h, rfl, hF, hb1, hg, hh⟩
  go_wp2_with fail
  refine (new_bad (-1) w1 (by omega)).mono ?_
  rintro e w' ⟨rfl, rfl⟩
  have c3 := bits_any g h _ w1 hF
  rw [zs_len] at c3
  have c4 := may_yes g h _ oneA w1 hF (by decide)
  rw [ex_may] at c4
  go_wp2_with (first
    | (go_at_call 20; refine c3.mono ?_; rintro e w' ⟨rfl, rfl⟩)
    | (go_at_call 15; refine c4.mono ?_; rintro e w2 ⟨rfl, hb2⟩))
  have hF2 := hF.keep hb2
  have hF3 := hF2.keep (w' := w2.alloc (.cells #[.string oneA] 9)) ((Below.refl _ _).alloc (Nat.le_refl _) _)
  have c5 := add_any g h _ _ _ 1 [oneA] _ hF3 (reads_one w2 9 oneA) (by intro s hs; simp only [List.mem_singleton] at hs; subst hs; decide) (by omega)
    (by intro b o e _; have := hF2.hlt; injection e with e; injection e with e1 e2; omega)
  rw [ex_add] at c5
  refine c5.mono ?_
  rintro e w4 ⟨rfl, hF4, hg4⟩
  have c6 := may_yes g h _ oneA w4 hF4 (by decide)
  rw [ex_may2] at c6
  have hb4 : Below w.heap.size w w4 := ((hb1.trans (hb2.mono hb1.size)).alloc (by have := hb1.size; have := hb2.size; omega) _).grown hg4 (by have := hb1.size; have := hb2.size; simp; omega) (fun k hk => by injection hk with hk; omega)
  go_wp2_with (go_at_call 15; refine c6.mono ?_; rintro e w5 ⟨rfl, hb5⟩)
  have c7 := count_any g h _ w5 (hF4.keep hb5)
  rw [ex_len, ex_cnt] at c7
  refine c7.mono ?_
  rintro e w' ⟨rfl, rfl⟩
  go_wp2
  go_ret
  exact ⟨rfl, hb4.trans (hb5.mono hb4.size)⟩
end Go.Proofs.Ytambdddahbgelaa.Bl
