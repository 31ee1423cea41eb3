/- The walks of the document's filters: New, Count, May. -/
import Derived.Test.YtambdddahbgelaaBloomR
import Derived.Test.YtambdddahbgelaaBloomY
import Derived.Outline
namespace Go.Proofs.Ytambdddahbgelaa.Bl
open Go.RowKit

set_option maxHeartbeats 400000 in
theorem count_ref (A : Option Addr) (c : Nat) (bs : List Nat) (w : World) (h : RD w w.heap.size A bs) (hhi : bs.length ≤ 131072) :
    Calls Try.prog 22 #[.agg #[.slice A bs.length c]] w fun e w' => e = .returned (.int .i64 (cnt bs (8 * bs.length) : Nat)) ∧ Below w.heap.size w w' := by
  have H := Lib.hid h
  clear h
  go_enter Try.func22, Try.ntmps22
  go_wp2
  go_loopw [3, 4] (fun n i wr => ∃ k : Nat, k ≤ 8 * bs.length ∧ i = .int .i64 k ∧ n = .int .i64 (cnt bs k : Nat) ∧ Below w.heap.size w wr ∧ wr.cell? ⟨w.heap.size, 0, none⟩ = some (.slice A bs.length c)) (fun _ i _ => 8 * bs.length - (intOf i).toNat)
  case atStart => exact ⟨0, Nat.zero_le _, rfl, rfl, (Below.refl _ _).alloc (Nat.le_refl _) _, (Blk.new w _ _).cell 0⟩
  case round =>
    obtain ⟨k, hk, rfl, rfl, hb, hbox⟩ := hrel
    by_cases hlt : k < 8 * bs.length
    · have c1 := has_ref A c k w.heap.size bs wr (H.out.below hb) hb.size hlt hhi
      have hn := cnt_succ bs k
      have hle := cnt_le bs k
      have hsz := World.block_lt_of_cell? wr _ hbox
      have Hb := Lib.hid hb
      clear hb
      by_cases hg : gb bs k = true
      · rw [hg] at c1 hn
        have Hn := Lib.hid hn
        clear hn hg
        go_wp2_with (go_at_call 51; refine c1.mono ?_; rintro e w2 ⟨rfl, hb2⟩)
        go_roundw
        case rel => exact ⟨k + 1, by omega, by go_num, by rw [Hn.out]; go_num, Hb.out.trans (hb2.mono Hb.out.size), (hb2.cell (p := ⟨w.heap.size, 0, none⟩) hsz).trans hbox⟩
        case measure => simp [intOf]; omega
      · have hgf : gb bs k = false := by simpa using hg
        rw [hgf] at c1 hn
        have Hn := Lib.hid hn
        clear hn hg hgf
        go_wp2_with (go_at_call 51; refine c1.mono ?_; rintro e w2 ⟨rfl, hb2⟩)
        go_roundw
        case rel => exact ⟨k + 1, by omega, by go_num, by rw [Hn.out]; go_num, Hb.out.trans (hb2.mono Hb.out.size), (hb2.cell (p := ⟨w.heap.size, 0, none⟩) hsz).trans hbox⟩
        case measure => simp [intOf]; omega
    · obtain rfl : k = 8 * bs.length := by omega
      have Hb := Lib.hid hb
      clear hb
      go_wp2
      go_ret
      exact ⟨by simp, Hb.out⟩

set_option maxHeartbeats 800000 in
theorem may_ref (A : Option Addr) (c : Nat) (bs : List Nat) (s : ByteArray) (w : World) (h : RD w w.heap.size A bs) (hlo : 8 ≤ bs.length) (hhi : bs.length ≤ 131072) (hs : s.size ≤ 140737488351232) :
    Calls Try.prog 18 #[.agg #[.slice A bs.length c], .string s] w fun e w' => e = .returned (.bool (may bs s.data.toList)) ∧ Below w.heap.size w w' := by
  have H := Lib.hid h
  clear h
  go_enter Try.func18, Try.ntmps18
  go_wp2
  go_loopw [5] (fun i wr => ∃ j : Nat, j ≤ 4 ∧ i = .int .i64 j ∧ ((pls s.data.toList (8 * bs.length)).take j).all (gb bs) = true ∧ Below w.heap.size w wr ∧ wr.cell? ⟨w.heap.size, 0, none⟩ = some (.slice A bs.length c)) (fun i _ => 4 - (intOf i).toNat)
  case atStart => exact ⟨0, Nat.zero_le _, rfl, rfl, (Below.refl _ _).alloc (Nat.le_refl _) _, (Blk.new w _ _).cell 0⟩
  case round =>
    obtain ⟨j, hj, rfl, hall, hb, hbox⟩ := hrel
    by_cases hj4 : j < 4
    · have htk := pls_take s.data.toList (8 * bs.length) j hj4
      have hpj : pl s.data.toList (8 * bs.length) j < 8 * bs.length := pl_lt _ _ _ (by omega)
      have hmem : pl s.data.toList (8 * bs.length) j ∈ pls s.data.toList (8 * bs.length) := List.mem_of_mem_take (i := j + 1) (by rw [htk]; simp)
      have Htk := Lib.hid htk
      have Hall := Lib.hid hall
      have Hmem := Lib.hid hmem
      have c2 := fun wx => bit_ref A bs.length c j s wx hj4 (by omega) hhi hs
      have c3 := fun wx (hbx : Below w.heap.size w wx) => has_ref A c (pl s.data.toList (8 * bs.length) j) w.heap.size bs wx (H.out.below hbx) hbx.size hpj hhi
      have hsz := World.block_lt_of_cell? wr _ hbox
      have C2 := Lib.hid c2
      have C3 := Lib.hid c3
      have Hb := Lib.hid hb
      have Fin : Hid (gb bs (pl s.data.toList (8 * bs.length) j) = false → may bs s.data.toList = false) := Lib.hid (fun e => by
          unfold may
          rw [List.all_eq_false]
          exact ⟨_, Hmem.out, by rw [e]; decide⟩)
      clear htk hall hmem hpj hb c2 c3
      generalize hgb : gb bs (pl s.data.toList (8 * bs.length) j) = p at *
      have Hgb := Lib.hid hgb
      clear hgb
      go_wp2_with fail
      go_region_held3 (fun w' => w'.cell? ⟨w.heap.size, 0, none⟩ = some (.slice A bs.length c)) (first | go_keep | (exact (hb3.cell (p := ⟨w.heap.size, 0, none⟩) (Nat.lt_of_lt_of_le hsz hb2.size)).trans (by assumption)) | (exact (hb2.cell (p := ⟨w.heap.size, 0, none⟩) (by assumption)).trans (by assumption)))
        (first | (go_at_call 50; refine (C2.out _).mono ?_; rintro e w2 ⟨rfl, hb2⟩) | (go_at_call 51; refine (C3.out _ (Hb.out.drew.trans (hb2.mono Hb.out.size))).mono ?_; rintro e w3 ⟨rfl, hb3⟩))
      have hbw : Below w.heap.size w w3 := (Hb.out.drew.trans (hb2.mono Hb.out.size)).trans (hb3.mono (Nat.le_trans Hb.out.size hb2.size))
      have Hbw := Lib.hid hbw
      clear hbw hb2 hb3
      cases p
      · go_wp2
        go_ret
        exact ⟨by rw [Fin.out trivial]; rfl, Hbw.out⟩
      · go_wp2
        go_roundw
        case rel => exact ⟨j + 1, by omega, by go_num, by rw [Htk.out, List.all_append, Hall.out]; simp [Hgb.out], Hbw.out, by assumption⟩
        case measure => simp [intOf]; omega
    · obtain rfl : j = 4 := by omega
      have Fin : Hid (may bs s.data.toList = true) := hall
      have Hb := Lib.hid hb
      clear hall hb
      go_wp2
      go_ret
      exact ⟨by rw [Fin.out]; rfl, Hb.out⟩
end Go.Proofs.Ytambdddahbgelaa.Bl
