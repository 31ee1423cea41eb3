/- The walks of the document's filters: Add. -/
import Derived.Test.YtambdddahbgelaaBloomT
import Derived.Laws.OwnMore
import Derived.Deep.Onto
namespace Go.Proofs.Ytambdddahbgelaa.Bl
open Go.RowKit

theorem u8r_info : (Try.prog.info? 5).map (fun i => (i.zero, i.size, i.bytes)) = some (some (.int .u8 0), 1, 1) := by kernel_rfl
/-- What holds of a filter that is added to, in the loop over a text's four places. -/
structure Adr (w wr : World) (g cap : Nat) (x : List Nat × Nat) (n : Value) : Prop where
  own : Own wr (w.heap.size + 2) (.slice (some ⟨g, 0, none⟩) x.1.length cap) x.1
  bel : Below w.heap.size w wr
  box : Blk wr w.heap.size 34 #[.slice (some ⟨g, 0, none⟩) x.1.length cap]
  res : Blk wr (w.heap.size + 1) 34 #[.slice none 0 0]
  n_ : n = .int .i64 (x.2 : Int)
theorem Adr.below {w wr w2 : World} {g cap : Nat} {x : List Nat × Nat} {n : Value} (a : Adr w wr g cap x n) (hb : Below wr.heap.size wr w2) : Adr w w2 g cap x n :=
  ⟨a.own.kept hb, a.bel.trans (hb.mono a.bel.size), a.box.below hb a.box.lt, a.res.below hb a.res.lt, a.n_⟩
theorem Adr.drew {w wr : World} {g cap : Nat} {x : List Nat × Nat} {n : Value} (a : Adr w wr g cap x n) : Adr w wr.drew g cap x n := ⟨a.own, a.bel.drew, a.box, a.res, a.n_⟩
theorem Adr.glt {w wr : World} {g cap : Nat} {x : List Nat × Nat} {n : Value} (a : Adr w wr g cap x n) : w.heap.size + 2 ≤ g ∧ g < wr.heap.size := a.own.1.lt g rfl
theorem Adr.yes {w wr : World} {g cap k : Nat} {x : List Nat × Nat} {n : Value} (a : Adr w wr g cap x n) (hy : gb x.1 k = true) : Adr w wr g cap (step x k) (.int .i64 (x.2 : Int)) := by
  unfold step; rw [if_pos hy]; exact ⟨a.own, a.bel, a.box, a.res, rfl⟩
theorem Adr.no {w wr : World} {g cap k : Nat} {x : List Nat × Nat} {n : Value} (a : Adr w wr g cap x n) (hy : ¬ gb x.1 k = true) (_hk : k / 8 < x.1.length) :
    Adr w (wr.setCell ⟨g, k / 8, none⟩ (.int .u8 ((x.1.getD (k / 8) 0 ||| 2 ^ (k % 8) : Nat) : Int))) g cap (step x k) (.int .i64 ((x.2 : Int) + 1)) := by
  have hg := a.glt
  have hs := a.own.1.stored (k / 8) (.int .u8 ((x.1.getD (k / 8) 0 ||| 2 ^ (k % 8) : Nat) : Int))
  rw [bv_set] at hs
  have hl : (x.1.set (k / 8) (x.1.getD (k / 8) 0 ||| 2 ^ (k % 8))).length = x.1.length := by simp
  unfold step; rw [if_neg hy]
  refine ⟨?_, a.bel.setCell (p := ⟨g, k / 8, none⟩) (by show w.heap.size ≤ g; omega) _, ?_, a.res.far (by show w.heap.size + 1 ≠ g; omega) _, by simp⟩
  · show Own _ _ (.slice (some ⟨g, 0, none⟩) (sb x.1 k).length cap) (sb x.1 k)
    rw [length_sb]
    refine ⟨?_, a.own.2.sb k⟩
    rw [length_sb]
    exact hs.1
  · show Blk _ _ _ #[.slice (some ⟨g, 0, none⟩) (sb x.1 k).length cap]
    rw [length_sb]
    exact a.box.far (by show w.heap.size ≠ g; omega) _

set_option maxHeartbeats 1600000 in
theorem addr_any (A : Option Addr) (c : Nat) (bs : List Nat) (s : ByteArray) (w : World) (h : RD w w.heap.size A bs) (hlo : 8 ≤ bs.length) (hhi : bs.length ≤ 131072) (hs : s.size ≤ 140737488351232) :
    Calls Try.prog 17 #[.agg #[.slice A bs.length c], .string s] w (FilN w (addK (bs, 0) (pls s.data.toList (8 * bs.length))).1 ((addK (bs, 0) (pls s.data.toList (8 * bs.length))).2 : Nat)) := by
  obtain ⟨i0, hi0, hz0, hz1, hz2⟩ := info_parts u8r_info
  obtain ⟨ab, ao, rfl, hab, hcs⟩ := h.1.2 (by omega)
  have Hcs := Lib.hid hcs
  have Hby := Lib.hid h.2
  clear hcs h
  have hln : ∀ j, (addK (bs, 0) ((pls s.data.toList (8 * bs.length)).take j)).1.length = bs.length := fun j => addK_len _ _
  have hle : ∀ j, (addK (bs, 0) ((pls s.data.toList (8 * bs.length)).take j)).2 ≤ 4 := fun j => by
    have h1 := addK_n_le ((pls s.data.toList (8 * bs.length)).take j) (bs, 0)
    have h2 : ((pls s.data.toList (8 * bs.length)).take j).length ≤ 4 := by rw [List.length_take]; exact Nat.min_le_right _ _
    have h3 : ((bs, 0) : List Nat × Nat).2 = 0 := rfl
    omega
  have Hln := Lib.hid hln
  have Hle := Lib.hid hle
  clear hln hle
  go_enter Try.func17, Try.ntmps17
  go_wp2_with (at_builtin; refine wpList_append_own _ rfl _ _ 32 rfl (w.heap.size + 2) 5 i0 (.int .u8 0) 1 1 Try.underlying32 hi0 hz0 hz1 hz2 rfl (by decide) (.slice (some ⟨w.heap.size + 1 + 1, 0, none⟩) 0 0) 0 [] rfl ?hown ⟨ab, ao, none⟩ bs.length c (bv bs) rfl ?hl ?c1 ?c2 ?c3 ?c4 ?c5 ?_)
  case hown =>
    have h := World.ownsRow_made (base := w.heap.size + 2) (e := 5) (size := 1) ((w.alloc (.cells #[.slice (some ⟨ab, ao, none⟩) bs.length c] 34)).alloc (.cells #[.slice none 0 0] 34)) #[] 0 (by simp) (by unfold maxLen; omega) rfl
    simpa using h
  case hl => rw [bv_len]; omega
  case c1 =>
    intro j u hj
    have hp := Hcs.out j u hj
    have e : (⟨ab, ao, none⟩ : Addr).add j = ⟨ab, ao + j, none⟩ := by unfold Addr.add; split <;> simp_all
    rw [e]
    exact (((((Below.refl _ _).alloc (Nat.le_refl _) _).alloc (by simp) _).alloc (by simp; omega) _ : Below w.heap.size w _).cell (p := ⟨ab, ao + j, none⟩) hab).trans hp
  case c2 => exact bv_one bs
  case c3 => unfold maxLen; omega
  case c4 => omega
  case c5 => simp
  intro v' w2 hown hgrow _
  obtain ⟨g, cap, rfl, hg⟩ : ∃ g cap, v' = .slice (some ⟨g, 0, none⟩) bs.length cap ∧ w.heap.size + 2 ≤ g := by
    rcases hown.2 with ⟨_, h0⟩ | ⟨g, cap, cur, hv, hb, _⟩
    · omega
    · exact ⟨g, cap, hv, hb⟩
  have hbx : Below w.heap.size w w2 := (((((Below.refl _ _).alloc (Nat.le_refl _) _).alloc (by simp) _).alloc (by simp; omega) _ : Below w.heap.size w _)).grown hgrow (by simp; omega) (fun j hj => by
    injection hj with hj
    have hj' : w.heap.size + 1 + 1 = j := hj
    omega)
  have hbox0 := (((Blk.new w 34 #[.slice (some ⟨ab, ao, none⟩) bs.length c]).alloc (.cells #[.slice none 0 0] 34)).alloc (.cells #[] 5)).grown hgrow (by simp [Value.ownBlock]; omega)
  have hres0 := (((Blk.new (w.alloc (.cells #[.slice (some ⟨ab, ao, none⟩) bs.length c] 34)) 34 #[.slice none 0 0]).alloc (.cells #[] 5)).grown hgrow (by simp [Value.ownBlock]))
  have e1 : (w.alloc (.cells #[.slice (some ⟨ab, ao, none⟩) bs.length c] 34)).heap.size = w.heap.size + 1 := by simp
  rw [e1] at hres0
  have hA : Adr w (w2.setCell ⟨w.heap.size, 0, none⟩ (.slice (some ⟨g, 0, none⟩) bs.length cap)) g cap (addK (bs, 0) ((pls s.data.toList (8 * bs.length)).take 0)) (.int .i64 0) :=
    ⟨⟨hown.kept (grownBy_setCell w2 w.heap.size 0 _) (.inr (by simp [Value.ownBlock]; omega)), Hby.out⟩, hbx.setCell (p := ⟨w.heap.size, 0, none⟩) (Nat.le_refl _) _, hbox0.set_ 0 _, hres0.far (by show w.heap.size + 1 ≠ w.heap.size; omega) _, rfl⟩
  have HA := Lib.hid hA
  have b0 := hbox0.cell 0
  have f0 := hbox0.frozen 0
  clear hA hbox0 hres0 hbx hgrow hown e1
  go_wp2
  go_loopw [6, 7] (fun n i wr => ∃ j : Nat, j ≤ 4 ∧ i = .int .i64 j ∧ Adr w wr g cap (addK (bs, 0) ((pls s.data.toList (8 * bs.length)).take j)) n) (fun _ i _ => 4 - (intOf i).toNat)
  case atStart => exact ⟨0, Nat.zero_le _, rfl, HA.out⟩
  case round =>
    obtain ⟨j, hj, rfl, hadd⟩ := hrel
    by_cases hj4 : j < 4
    · have hl := Hln.out j
      have hst := addK_snoc (bs, 0) ((pls s.data.toList (8 * bs.length)).take j) (pl s.data.toList (8 * bs.length) j)
      rw [← pls_take _ _ _ hj4] at hst
      have hle := Hle.out j
      have hpj : pl s.data.toList (8 * bs.length) j < 8 * bs.length := pl_lt _ _ _ (by omega)
      have c1 := bit_ref (some ⟨g, 0, none⟩) bs.length cap j s wr hj4 (by omega) hhi hs
      have Hst := Lib.hid hst
      clear hst
      have hb0 := hadd.box.cell 0
      have hn3 := hadd.n_
      have hg := hadd.glt
      simp at hb0
      rw [hl] at hb0
      generalize addK (bs, 0) ((pls s.data.toList (8 * bs.length)).take j) = y at *
      generalize pl s.data.toList (8 * bs.length) j = p at *
      have Hadd := Lib.hid hadd
      clear hadd
      obtain rfl := hn3
      go_wp2_with fail
      refine c1.mono ?_
      rintro e w3 ⟨rfl, hb3⟩
      have had3 := Hadd.out.below hb3
      have c2 := has_ref (some ⟨g, 0, none⟩) cap p w3.heap.size y.1 w3 had3.own.rd (Nat.le_refl _) (by omega) (by omega)
      rw [hl] at c2
      have hb0 := had3.box.cell 0
      simp at hb0
      rw [hl] at hb0
      have Had3 := Lib.hid had3
      clear had3 hb3 c1
      go_wp2_with fail
      refine c2.mono ?_
      rintro e w4 ⟨rfl, hb4⟩
      have had4 := Had3.out.below hb4
      have hb0 := had4.box.cell 0
      simp at hb0
      rw [hl] at hb0
      by_cases hgb : gb y.1 p = true
      · have Hy := Lib.hid (had4.yes hgb)
        rw [hgb]
        clear had4 hb4 hgb
        go_wp2
        go_roundw
        case rel => exact ⟨j + 1, by omega, by go_num, by rw [Hst.out]; exact Hy.out⟩
        case measure => simp [intOf]; omega
      · have Hy := Lib.hid (had4.drew.no hgb (by omega))
        have hgb' : gb y.1 p = false := by simpa using hgb
        rw [hgb']
        have Hgb := Lib.hid hgb'
        clear hb4 hgb hgb'
        have hcx : w4.cell? ⟨g, p / 8, none⟩ = some (.int .u8 (y.1.getD (p / 8) 0 : Nat)) := by
          rw [had4.own.1.cellAt (p / 8) (by omega)]
          exact bv_get y.1 (p / 8) (by omega)
        have hfx := had4.own.1.frozenAt (p / 8)
        have hx2 := had4.own.2.getD (p / 8)
        have hwx := addr_walk (y.1.getD (p / 8) 0) p hx2 Hgb.out
        clear had4
        generalize y.1.getD (p / 8) 0 ||| 2 ^ (p % 8) = x' at *
        generalize y.1.getD (p / 8) 0 = x at *
        go_wp2_with fail
        go_region
        go_wp2
        go_roundw
        case rel => exact ⟨j + 1, by omega, by go_num, by rw [Hst.out]; exact Hy.out⟩
        case measure => simp [intOf]; omega
    · obtain rfl : j = 4 := by omega
      have ht4 : (pls s.data.toList (8 * bs.length)).take 4 = pls s.data.toList (8 * bs.length) := rfl
      have hl := Hln.out 4
      rw [ht4] at hadd hl
      have hle := Hle.out 4
      have hn3 := hadd.n_
      have hb0 := hadd.box.cell 0
      have hr0 := hadd.res.cell 0
      have hf0 := hadd.res.frozen 0
      simp at hb0 hr0
      rw [hl] at hb0
      have Hadd := Lib.hid hadd
      clear hadd
      generalize addK (bs, 0) (pls s.data.toList (8 * bs.length)) = y at *
      obtain rfl := hn3
      go_wp2
      have hg := Hadd.out.glt
      have hq := (Hadd.out.res.set_ 0 (.slice (some ⟨g, 0, none⟩) bs.length cap)).cell 0
      simp at hq
      refine bodyPost_ret (v := .tuple #[.agg #[.slice (some ⟨g, 0, none⟩) bs.length cap], .int .i64 (y.2 : Int)]) (by simp [results, Try.results17, go_sem, hq]) rfl ?_
      have ho := Hadd.out.own
      have ho2 : Own wr w.heap.size (.slice (some ⟨g, 0, none⟩) y.1.length cap) y.1 := ⟨ho.1.mono (by omega), ho.2⟩
      exact ⟨g, cap, by rw [hl], ho2.far (grownBy_setCell wr (w.heap.size + 1) 0 _) (by simp [Value.ownBlock]; omega), Hadd.out.bel.setCell (p := ⟨w.heap.size + 1, 0, none⟩) (by simp) _⟩
end Go.Proofs.Ytambdddahbgelaa.Bl
