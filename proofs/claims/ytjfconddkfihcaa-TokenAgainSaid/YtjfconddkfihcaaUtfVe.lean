/- The reference's Encode. -/
import Derived.Test.YtjfconddkfihcaaUtfU
namespace Go.Proofs.Ytjfconddkfihcaa.Ut
open Go.RowKit
set_option maxRecDepth 20000

set_option maxHeartbeats 800000 in
theorem encode_ref (A : Option Addr) (n c : Nat) (rs : List Int) (w : World) (hR : Reads w w.heap.size 1 A n (rs.map (Value.int .i64))) (hn : n ≤ 35000000000000) :
    Calls Try.prog 105 #[.slice A n c] w fun e w' => e = .returned (.string (str (encode rs))) ∧ Below w.heap.size w w' := by
  have hlen : rs.length = n := by have := hR.1; simpa using this
  have HR := Lib.hid hR
  have Hl := Lib.hid hlen
  have St := Lib.hid (Putting.start w)
  clear hR hlen
  go_enter Try.func105, Try.ntmps105
  go_wp2
  go_loopw [3, 4] (fun v i wr => ∃ k : Nat, k ≤ n ∧ i = .int .i64 k ∧ Putting w wr v (rs.take k)) (fun _ i _ => n - (intOf i).toNat)
  case atStart => exact ⟨0, Nat.zero_le _, rfl, St.out⟩
  case round =>
    obtain ⟨k, hk, rfl, hp⟩ := hrel
    have hel := encode_len (rs.take k)
    have htl : (rs.take k).length ≤ n := by rw [List.length_take]; omega
    by_cases hlt : k < n
    · obtain ⟨ab, ao, hkl, rfl, hab, hcw⟩ := HR.out.at_map hlt
      have hcx := (hp.bel.cell (p := ⟨ab, ao + k, none⟩) hab).trans hcw
      have hts : rs.take (k + 1) = rs.take k ++ [rs[k]] := by rw [List.take_succ_eq_append_getElem hkl]
      have Hts := Lib.hid hts
      have c1 := rput_any w.heap.size _ u3 _ rs[k] wr hp.own hp.bel.size (by omega)
      have Hp := Lib.hid hp
      clear hts hcw hp
      generalize rs[k] = r at *
      go_wp2_with fail
      refine c1.mono ?_
      rintro e w2 ⟨v', rfl, hown2, hg2⟩
      have Hp2 := Lib.hid (Hp.out.put hown2 hg2)
      clear hown2 hg2
      go_wp2
      go_roundw
      case rel => exact ⟨k + 1, by omega, by go_num, by rw [Hts.out]; exact Hp2.out⟩
      case measure => simp [intOf]; omega
    · have hall : rs.take k = rs := List.take_of_length_le (by rw [Hl.out]; omega)
      have hcv := conv_own (P := Try.prog) (tb := 102) (ts := 9) hp.own Try.underlying102 Try.underlying5 Try.underlying9
      have Hall := Lib.hid hall
      have Hb := Lib.hid hp.bel
      clear hall hp hel htl
      go_wp2
      go_ret
      exact ⟨by rw [Hall.out]; rfl, Hb.out⟩
end Go.Proofs.Ytjfconddkfihcaa.Ut
