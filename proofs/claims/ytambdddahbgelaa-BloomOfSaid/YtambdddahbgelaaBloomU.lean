/- Bytes of filters: slices.Clone, Bytes. -/
import Derived.Test.YtambdddahbgelaaBloomAd
namespace Go.Proofs.Ytambdddahbgelaa.Bl
open Go.RowKit

/-- Bytes of the call's own. -/
def Byt (w : World) (bs : List Nat) (e : Ending) (w' : World) : Prop :=
  ∃ g cap, e = .returned (.slice (some ⟨g, 0, none⟩) bs.length cap) ∧ Own w' w.heap.size (.slice (some ⟨g, 0, none⟩) bs.length cap) bs ∧ Below w.heap.size w w'

set_option maxHeartbeats 400000 in
theorem clone_any (A : Option Addr) (c : Nat) (bs : List Nat) (w : World) (h : RD w w.heap.size A bs) (hlo : 8 ≤ bs.length) (hhi : bs.length ≤ 131072) :
    Calls Try.prog 52 #[.slice A bs.length c] w (Byt w bs) := by
  obtain ⟨i0, hi0, hz0, hz1, hz2⟩ := info_parts u8r_info
  obtain ⟨ab, ao, rfl, hab, hcs⟩ := h.1.2 (by omega)
  have Hcs := Lib.hid hcs
  have Hby := Lib.hid h.2
  clear hcs h
  have hnil := fun W : World => Lib.run_eql_slice_nil (P := Try.prog) W _ _ (some ⟨ab, ao, none⟩) bs.length c 0 0 Try.underlying32
  go_enter Try.func52, Try.ntmps52
  go_wp2_with (at_builtin; refine wpList_append_own _ rfl _ _ 32 rfl w.heap.size 5 i0 (.int .u8 0) 1 1 Try.underlying32 hi0 hz0 hz1 hz2 rfl (by decide) (.slice (some ⟨w.heap.size, 0, none⟩) 0 0) 0 [] rfl ?hown ⟨ab, ao, none⟩ bs.length c (bv bs) rfl ?hl ?c1 ?c2 ?c3 ?c4 ?c5 ?_)
  case hown =>
    have h := World.ownsRow_made (base := w.heap.size) (e := 5) (size := 1) w #[] 0 (by simp) (by unfold maxLen; omega) rfl
    simpa using h
  case hl => rw [bv_len]; omega
  case c1 =>
    intro j u hj
    have hp := Hcs.out j u hj
    have e : (⟨ab, ao, none⟩ : Addr).add j = ⟨ab, ao + j, none⟩ := by unfold Addr.add; split <;> simp_all
    rw [e]
    exact (((Below.refl _ _).alloc (Nat.le_refl _) _ : Below w.heap.size w _).cell (p := ⟨ab, ao + j, none⟩) hab).trans hp
  case c2 => exact bv_one bs
  case c3 => unfold maxLen; omega
  case c4 => omega
  case c5 => simp
  intro v' w2 hown hgrow _
  obtain ⟨g, cap, rfl, hg⟩ : ∃ g cap, v' = .slice (some ⟨g, 0, none⟩) bs.length cap ∧ w.heap.size ≤ g := by
    rcases hown.2 with ⟨_, h0⟩ | ⟨g, cap, cur, hv, hb, _⟩
    · omega
    · exact ⟨g, cap, hv, hb⟩
  have hbx : Below w.heap.size w w2 := ((Below.refl _ _).alloc (Nat.le_refl _) _ : Below w.heap.size w _).grown hgrow (by simp) (fun j hj => by
    injection hj with hj
    have hj' : w.heap.size = j := hj
    omega)
  have Fin : Hid (Own w2 w.heap.size (.slice (some ⟨g, 0, none⟩) bs.length cap) bs) := Lib.hid ⟨hown, Hby.out⟩
  have Hbx := Lib.hid hbx
  clear hbx hgrow hown
  go_wp2
  go_ret
  exact ⟨g, cap, rfl, Fin.out, Hbx.out⟩

theorem FAt.rd {w : World} {g h : Nat} {bs : List Nat} (hF : FAt w g h bs) : RD w w.heap.size (some ⟨h, 0, none⟩) bs := by
  refine ⟨⟨by simp, fun _ => ⟨h, 0, rfl, hF.hlt, fun j u hu => ?_⟩⟩, hF.byt⟩
  have hj : j < bs.length := by
    have := (List.getElem?_eq_some_iff.1 hu).1
    simpa using this
  rw [Nat.zero_add, hF.byte hj]
  rw [← bv_get bs j hj]
  exact hu

set_option maxHeartbeats 400000 in
theorem bytes_any (g h : Nat) (bs : List Nat) (w : World) (hF : FAt w g h bs) :
    Calls Try.prog 19 #[.pointer (some ⟨g, 0, none⟩)] w (Byt w bs) := by
  have c0 := none_any g h bs w hF
  obtain ⟨cap, hc⟩ := hF.cell
  have c1 := clone_any (some ⟨h, 0, none⟩) cap bs w hF.rd hF.lo hF.hi
  go_enter Try.func19, Try.ntmps19
  go_wp2_with (go_at_call 44; refine c0.mono ?_; rintro e w' ⟨rfl, rfl⟩)
  refine c1.mono ?_
  rintro e w' ⟨g', cap', rfl, ho, hb⟩
  have Ho := Lib.hid ho
  have Hb := Lib.hid hb
  clear ho hb
  go_wp2
  go_ret
  exact ⟨g', cap', rfl, Ho.out, Hb.out⟩

/-- 'string(b)' of bytes. -/
def bstr (bs : List Nat) : ByteArray := ⟨(bs.map (fun b => UInt8.ofNat b)).toArray⟩
theorem conv_rd (A : Option Addr) (c : Nat) (bs : List Nat) (w : World) (B : Nat) (h : RD w B A bs) (hlo : 0 < bs.length) :
    (convert 32 9 (.slice A bs.length c)).run Try.prog w = .ok (.string (bstr bs)) w := by
  obtain ⟨ab, ao, rfl, hab, hcs⟩ := h.1.2 (by omega)
  have hr := run_convert_bytes_back w 32 9 5 ⟨ab, ao, none⟩ c (bs.map (fun b => UInt8.ofNat b)) Try.underlying32 Try.underlying5 Try.underlying9 fun j hj => by
    have hj' : j < bs.length := by simpa using hj
    have e : (⟨ab, ao, none⟩ : Addr).add j = ⟨ab, ao + j, none⟩ := by unfold Addr.add; split <;> simp_all
    rw [e]
    have hb : bs[j] < 256 := h.2 _ (List.getElem_mem hj')
    rw [hcs j _ (by rw [List.getElem?_map, List.getElem?_eq_getElem hj']; rfl)]
    simp [bc, Nat.mod_eq_of_lt hb]
  rw [List.length_map] at hr
  exact hr
end Go.Proofs.Ytambdddahbgelaa.Bl
