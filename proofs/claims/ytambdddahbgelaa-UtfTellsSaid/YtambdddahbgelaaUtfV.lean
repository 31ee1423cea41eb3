/- The reference's Encode, Valid, SameInts. -/
import Derived.Test.YtambdddahbgelaaUtfU
import Derived.Test.YtambdddahbgelaaUtfK
namespace Go.Proofs.Ytambdddahbgelaa.Ut
open Go.RowKit

set_option maxHeartbeats 800000 in
theorem encode_ref (A : Option Addr) (n c : Nat) (rs : List Int) (w : World) (hR : Reads w w.heap.size 1 A n (rs.map (Value.int .i64))) (hn : n ≤ 35000000000000) :
    Calls Try.prog 30 #[.slice A n c] w fun e w' => e = .returned (.string (str (encode rs))) ∧ Below w.heap.size w w' := by
  have hlen : rs.length = n := by have := hR.1; simpa using this
  have HR := Lib.hid hR
  have Hl := Lib.hid hlen
  have St := Lib.hid (Putting.start w)
  clear hR hlen
  go_enter Try.func30, Try.ntmps30
  go_wp2
  go_loopw [3, 4] (fun v i wr => ∃ k : Nat, k ≤ n ∧ i = .int .i64 k ∧ Putting w wr v (rs.take k)) (fun _ i _ => n - (intOf i).toNat)
  case atStart => exact ⟨0, Nat.zero_le _, rfl, St.out⟩
  case round =>
    obtain ⟨k, hk, rfl, hp⟩ := hrel
    have hel := encode_len (rs.take k)
    have htl : (rs.take k).length ≤ n := by rw [List.length_take]; omega
    by_cases hlt : k < n
    · obtain ⟨ab, ao, hkl, rfl, hab, hcw⟩ := HR.out.at_map hlt
      have hcx := (hp.bel.cell (p := ⟨ab, ao + k, none⟩) hab).trans hcw
      have hts : rs.take (k + 1) = rs.take k ++ [rs[k]] := by rw [List.take_succ_eq_append_getElem hkl]
      have Hts := Lib.hid hts
      have c1 := rput_any w.heap.size _ u3 _ rs[k] wr hp.own hp.bel.size (by omega)
      have Hp := Lib.hid hp
      clear hts hcw hp
      generalize rs[k] = r at *
      go_wp2_with fail
      refine c1.mono ?_
      rintro e w2 ⟨v', rfl, hown2, hg2⟩
      have Hp2 := Lib.hid (Hp.out.put hown2 hg2)
      clear hown2 hg2
      go_wp2
      go_roundw
      case rel => exact ⟨k + 1, by omega, by go_num, by rw [Hts.out]; exact Hp2.out⟩
      case measure => simp [intOf]; omega
    · have hall : rs.take k = rs := List.take_of_length_le (by rw [Hl.out]; omega)
      have hcv := conv_own (P := Try.prog) (tb := 32) (ts := 9) hp.own Try.underlying32 Try.underlying5 Try.underlying9
      have Hall := Lib.hid hall
      have Hb := Lib.hid hp.bel
      clear hall hp hel htl
      go_wp2
      go_ret
      exact ⟨by rw [Hall.out]; rfl, Hb.out⟩

theorem valid_ref (s : ByteArray) (w : World) (hs : s.size ≤ 4398046511104) :
    Calls Try.prog 39 #[.string s] w fun e w' => e = .returned (.bool (valid s.data.toList)) ∧ Below w.heap.size w w' := by
  have c0 := runes_ref s w hs
  have hrl := runes_len s.data.toList
  rw [bsize] at hrl
  go_enter Try.func39, Try.ntmps39
  go_wp2_with fail
  refine c0.mono ?_
  rintro e w1 ⟨v, rfl, hown, hb1⟩
  obtain ⟨A, c, rfl, hR⟩ := own_shape hown
  have hR2 : Reads w1 w1.heap.size 1 A (runes s.data.toList).length ((ints (runes s.data.toList)).map (Value.int .i64)) := by
    have e : (ints (runes s.data.toList)).map (Value.int .i64) = rv (runes s.data.toList) := by simp only [ints, rv, List.map_map]; rfl
    rw [e]; exact hR
  have c1 := encode_ref A _ c _ w1 hR2 (by omega)
  go_wp2_with fail
  refine c1.mono ?_
  rintro e w2 ⟨rfl, hb2⟩
  have hfin : ((str (encode (ints (runes s.data.toList)))).toList == s.toList) = valid s.data.toList := by
    rw [Lib.toList_data, Lib.toList_data, str_data]; rfl
  have Hfin := Lib.hid hfin
  clear hfin hR hown hR2 c0 c1
  go_wp2
  go_ret
  exact ⟨by rw [← Hfin.out]; rfl, hb1.trans (hb2.mono hb1.size)⟩

set_option maxHeartbeats 800000 in
theorem same_ref (A A2 : Option Addr) (n c c2 : Nat) (l : List Nat) (w : World) (h1 : Reads w w.heap.size 1 A n (rv l)) (h2 : Reads w w.heap.size 1 A2 n (rv l)) (hn : n ≤ 140737488351232) :
    Calls Try.prog 26 #[.slice A n c, .slice A2 n c2] w fun e w' => e = .returned (.bool true) ∧ Below w.heap.size w w' := by
  have H1 := Lib.hid h1
  have H2 := Lib.hid h2
  clear h1 h2
  have Hb0 := Lib.hid (Below.refl w.heap.size w)
  go_enter Try.func26, Try.ntmps26
  go_wp2
  go_loopw [5] (fun i wr => ∃ k : Nat, k ≤ n ∧ i = .int .i64 k ∧ Below w.heap.size w wr) (fun i _ => n - (intOf i).toNat)
  case atStart => exact ⟨0, by omega, rfl, Hb0.out⟩
  case round =>
    obtain ⟨k, hk, rfl, hb⟩ := hrel
    by_cases hlt : k < n
    · obtain ⟨ab, ao, hkl, rfl, hab, hcw⟩ := Reads.at_map (f := fun r : Nat => Value.int .i64 (r : Int)) (H1.out.below hb) hlt
      obtain ⟨ab2, ao2, hkl2, rfl, hab2, hcw2⟩ := Reads.at_map (f := fun r : Nat => Value.int .i64 (r : Int)) (H2.out.below hb) hlt
      generalize (l[k] : Int) = z at *
      have Hb := Lib.hid hb
      clear hb
      go_wp2
      go_quiet (fail)
      go_wp2
      go_roundw
      case rel => exact ⟨k + 1, by omega, by go_num, below_drewN Hb.out _⟩
      case measure => simp [intOf]; omega
    · go_wp2
      go_ret
      exact ⟨rfl, hb⟩
end Go.Proofs.Ytambdddahbgelaa.Ut
