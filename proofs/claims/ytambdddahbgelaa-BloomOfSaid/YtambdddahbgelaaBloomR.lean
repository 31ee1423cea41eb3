/- The walks of the document's filters: bits. -/
import Derived.Test.YtambdddahbgelaaProg
import Derived.Test.YtambdddahbgelaaBloomRp
import Derived.Lib.Hide
import Derived.Deep.RegionHeld3
import Derived.Deep.QuietTactic
import Derived.BigQuiet
import Derived.Outline
namespace Go.Proofs.Ytambdddahbgelaa.Bl
open Go.RowKit

set_option maxHeartbeats 400000 in
theorem number_ref (s : ByteArray) (w : World) (hs : s.size ≤ 140737488351232) :
    Calls Try.prog 60 #[.string s] w fun e w' => e = .returned (.int .u64 (fnv s.data.toList : Nat)) ∧ w = w' := by
  go_enter Try.func60, Try.ntmps60
  go_wp2
  go_loop [3, 4] (fun n i => ∃ k : Nat, k ≤ s.size ∧ i = .int .i64 k ∧ n = .int .u64 (fnv (s.data.toList.take k) : Nat)) (fun _ i => s.size - (intOf i).toNat)
  case atStart => exact ⟨0, Nat.zero_le _, rfl, fnv_start⟩
  case round =>
    obtain ⟨k, hk, rfl, rfl⟩ := hrel
    by_cases hlt : k < s.size
    · have hu := (s[k]).toNat_lt
      have hw := fnv_walk (fnv (s.data.toList.take k)) s[k] (fnv_lt _)
      have hn := fnv_snoc s k hlt
      rw [← hn] at hw
      clear hn
      go_wp2
      go_round
      case rel => exact ⟨k + 1, by omega, by go_num, by first | rfl | rw [hw]⟩
      case measure => simp [intOf]; omega
    · obtain rfl : k = s.size := by omega
      have htk : s.data.toList.take s.size = s.data.toList := List.take_of_length_le (Nat.le_of_eq (by rw [Array.length_toList]; rfl))
      rw [htk]
      clear htk
      go_wp2
      go_ret
      exact ⟨rfl, rfl⟩

theorem bit_end (z : Int) (r : Nat) (h : z = r) (hr : r < 1048577) : Ending.returned (.int .i64 (wrap64 z)) = .returned (.int .i64 (r : Int)) := by
  subst h
  rw [IntWalk.wrap64_in _ ⟨by omega, by omega⟩]
set_option maxHeartbeats 1600000 in
theorem bit_ref (A : Option Addr) (n c i : Nat) (s : ByteArray) (w : World) (hi : i < 4) (hn : 0 < n) (hn2 : n ≤ 131072) (hs : s.size ≤ 140737488351232) :
    Calls Try.prog 50 #[.agg #[.slice A n c], .string s, .int .i64 (i : Int)] w fun e w' => e = .returned (.int .i64 (pl s.data.toList (8 * n) i : Nat)) ∧ Below w.heap.size w w' := by
  have c0 := number_ref s (w.alloc (.cells #[.slice A n c] 34)) hs
  have hf := fnv_lt s.data.toList
  have ho := sec_odd s.data.toList
  have hrl : pl s.data.toList (8 * n) i < 8 * n := pl_lt _ _ _ (by omega)
  have hpl : pl s.data.toList (8 * n) i = (fnv s.data.toList % 4294967296 + i * sec s.data.toList) % (8 * n) := rfl
  rw [ho] at hpl
  have Hpl := Lib.hid hpl
  clear hpl ho
  generalize pl s.data.toList (8 * n) i = r at *
  generalize fnv s.data.toList = f at *
  have hb : Below w.heap.size w (w.alloc (.cells #[.slice A n c] 34)) := (Below.refl _ _).alloc (Nat.le_refl _) _
  have Hb := Lib.hid hb
  clear hb
  obtain rfl | rfl | rfl | rfl : i = 0 ∨ i = 1 ∨ i = 2 ∨ i = 3 := by omega
  all_goals
    by_cases hp : f / 4294967296 % 2 = 0
    · have hp' : ((f : Int) / 4294967296 % 2 == 0) = true := by rw [beq_iff_eq]; omega
      have Hp := Lib.hid hp
      clear hp
      go_enter Try.func50, Try.ntmps50
      go_wp2_with (go_at_call 60; refine c0.mono ?_; rintro e w' ⟨rfl, rfl⟩)
      go_ret
      refine ⟨bit_end _ r ?_ (by omega), Hb.out⟩
      rw [Hpl.out, if_pos Hp.out, Int.natCast_emod]
      congr 1 <;> omega
    · have hp' : ((f : Int) / 4294967296 % 2 == 0) = false := by rw [beq_eq_false_iff_ne]; omega
      have Hp := Lib.hid hp
      clear hp
      go_enter Try.func50, Try.ntmps50
      go_wp2_with (go_at_call 60; refine c0.mono ?_; rintro e w' ⟨rfl, rfl⟩)
      go_ret
      refine ⟨bit_end _ r ?_ (by omega), Hb.out⟩
      rw [Hpl.out, if_neg Hp.out, Int.natCast_emod]
      congr 1 <;> omega

/-- A slice that reads as bytes. -/
def RD (w : World) (B : Nat) (A : Option Addr) (bs : List Nat) : Prop := Reads w B 1 A bs.length (bs.map bc) ∧ Bytes bs
theorem RD.below {w w' : World} {B : Nat} {A : Option Addr} {bs : List Nat} (h : RD w B A bs) (hb : Below B w w') : RD w' B A bs := ⟨h.1.below hb, h.2⟩

set_option maxHeartbeats 400000 in
theorem has_ref (A : Option Addr) (c k B : Nat) (bs : List Nat) (w : World) (h : RD w B A bs) (hB : B ≤ w.heap.size) (hk : k < 8 * bs.length) (hn2 : bs.length ≤ 131072) :
    Calls Try.prog 51 #[.agg #[.slice A bs.length c], .int .i64 (k : Int)] w fun e w' => e = .returned (.bool (gb bs k)) ∧ Below w.heap.size w w' := by
  obtain ⟨b, o, hl, rfl, hb, hc⟩ := h.1.at_map (k := k / 8) (by omega)
  have hb2 := h.2 bs[k / 8] (List.getElem_mem hl)
  have hr := hasr_walk bs[k / 8] k hb2
  have hg : bs[k / 8].testBit (k % 8) = gb bs k := by unfold gb; rw [List.getD_eq_getElem?_getD, List.getElem?_eq_getElem hl]; rfl
  rw [hg] at hr
  have hc' : w.cell? ⟨b, o + k / 8, none⟩ = some (.int .u8 (bs[k / 8] : Nat)) := hc
  have hbw : Below w.heap.size w (w.alloc (.cells #[.slice (some ⟨b, o, none⟩) bs.length c] 34)) := (Below.refl _ _).alloc (Nat.le_refl _) _
  have Hb := Lib.hid hbw
  have hbl : b < w.heap.size := by omega
  have hpw := pow_ne k
  clear hc hbw hg h
  generalize gb bs k = r at *
  generalize bs[k / 8] = x at *
  have hk8 : k / 8 < bs.length := by omega
  generalize bs.length = n at *
  go_enter Try.func51, Try.ntmps51
  go_wp2
  go_ret
  exact ⟨rfl, Hb.out⟩
end Go.Proofs.Ytambdddahbgelaa.Bl
