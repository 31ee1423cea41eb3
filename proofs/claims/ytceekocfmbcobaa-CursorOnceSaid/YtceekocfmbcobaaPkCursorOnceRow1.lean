/- loggialaw25.CursorOnce: the walk (printed by gen_cuz.py). -/
import Derived.Test.YtceekocfmbcobaaPkCursorOnceRow0
import Derived.Test.YtceekocfmbcobaaPkCursorFollowsRow37
import Derived.Test.YtceekocfmbcobaaPkCursorFollowsRow38
import Derived.Test.YtceekocfmbcobaaPkCursorFollowsRow2
import Derived.Test.YtceekocfmbcobaaPkCursorBytesRow1
section
namespace Go.Proofs.Ytceekocfmbcobaa.Cu
open Go.RowKit Go.Proofs.Ytceekocfmbcobaa Go.Proofs.Ytceekocfmbcobaa.Qy Go.Proofs.Ytceekocfmbcobaa.Ph Go.Proofs.Ytceekocfmbcobaa.Cr Go.Proofs.Ytceekocfmbcobaa.Qp
set_option maxRecDepth 200000
set_option linter.unusedSimpArgs false
set_option linter.unusedVariables false

set_option maxHeartbeats 12800000 in
theorem once_walk (A1 : Option Addr) (n1 c1 : Nat) (G : List UInt8) (y : UInt8) (A2 : Option Addr) (n2 c2 : Nat) (S : List (UInt8 × UInt8)) (w : World) (hG : Reads w w.heap.size 1 A1 n1 (bv G)) (hn1 : n1 ≤ 140737488351232) (hS : Reads w w.heap.size 2 A2 n2 (stC S)) (hn2 : n2 ≤ 140737488351232) :
    Calls Try.prog 10 #[.slice A1 n1 c1, .int .u8 (y.toNat : Int), .slice A2 n2 c2] w fun e w' => e = .returned (.bool true) ∧ Below w.heap.size w w' := by
  obtain ⟨i0, hi0, hz0, hz1, hz2⟩ := info_parts doc_info
  have hlG : G.length = n1 := by have := hG.1; rw [bv_len] at this; omega
  have hlS : S.length = n2 := by have := hS.1; rw [stC_len] at this; omega
  have HG := Lib.hid hG
  have HS := Lib.hid hS
  have HlG := Lib.hid hlG
  have HlS := Lib.hid hlS
  clear hG hS hlG hlS
  go_enter Try.func10, Try.ntmps10
  go_wp2_with fail
  go_loopw [7, 8, 9] (fun v m i wr => ∃ k : Nat, k ≤ n1 ∧ k ≤ 60 ∧ i = .int .i64 (k : Int) ∧ m = .int .i64 (mkD (G.take k)).1 ∧ DocsOwn w wr v (mkD (G.take k)).2) (fun _ _ i _ => 60 - (intOf i).toNat)
  case atStart => exact ⟨0, Nat.zero_le _, by omega, rfl, rfl, DocsOwn.start w⟩
  case round =>
    obtain ⟨k, hk, hk60, rfl, rfl, hO⟩ := hrel
    have hkl : (G.take k).length = k := by rw [List.length_take, HlG.out]; omega
    have hok := mkD_ok k (G.take k) hkl
    by_cases hlt : k < n1 ∧ k < 60
    · obtain ⟨hlt1, hlt2⟩ := hlt
      have hkG : k < G.length := by rw [HlG.out]; exact hlt1
      obtain ⟨b, o, hl, rfl, hbl, hcell⟩ := HG.out.at_map hlt1
      have hce := (hO.bel.cell (p := ⟨b, o + k, none⟩) hbl).trans hcell
      have Hs : Hid (mkD (G.take (k + 1)) = ((mkD (G.take k)).1 + (1 + ((G[k]'hkG).toNat : Int) % 3), (mkD (G.take k)).2 ++ [⟨(mkD (G.take k)).1 + (1 + ((G[k]'hkG).toNat : Int) % 3), 0, []⟩])) := Lib.hid (by rw [List.take_succ_eq_append_getElem hkG, mkD_snoc])
      have HO := Lib.hid hO
      obtain ⟨_, _, hln, hp0, hp1⟩ := hok
      clear hO hcell hkl
      generalize (mkD (G.take k)).1 = p at *
      generalize (mkD (G.take k)).2 = ds at *
      generalize (G[k]'hkG) = g at *
      have hg := g.toNat_lt
      have hlt1' : (k : Int) < (n1 : Int) := by omega
      have hlt2' : (k : Int) < 60 := by omega
      have hg3 : 0 ≤ (g.toNat : Int) % 3 ∧ (g.toNat : Int) % 3 < 3 := by omega
      have hg30 := hg3.1
      have hg31 := hg3.2
      have hp2 : p ≤ 180 := by omega
      have hbw := HO.out.bel.size
      obtain ⟨A4, c4, rfl, _⟩ := HO.out.read
      have hln' : ds.length ≤ 60 := by omega
      have Hln := Lib.hid hln
      clear hg3 hp1 hln
      go_upto_region 7 with (fail)
      generalize p + (1 + (g.toNat : Int) % 3) = N at *
      have HOx := Lib.hid (HO.out.below ((Below.refl wr.heap.size wr).alloc (Nat.le_refl _) (.cells #[.int .i64 N, .int .i64 0, .slice none 0 0] 71)))
      obtain ⟨vss, g1, g2, g3⟩ := HOx.out.ex
      have HX := Lib.hid (⟨vss, g1, g2, g3, rfl⟩ : ∃ vss' : List (List Value), vss'.length = ds.length ∧ (wr.alloc (.cells #[.int .i64 N, .int .i64 0, .slice none 0 0] 71)).ownsRow w.heap.size 71 3 (.slice A4 ds.length c4) ds.length vss'.flatten ∧ (∀ i (h : i < ds.length) (h' : i < vss'.length), DcV (wr.alloc (.cells #[.int .i64 N, .int .i64 0, .slice none 0 0] 71)) (wr.alloc (.cells #[.int .i64 N, .int .i64 0, .slice none 0 0] 71)).heap.size ds[i] vss'[i] ∧ Far (wr.alloc (.cells #[.int .i64 N, .int .i64 0, .slice none 0 0] 71)) w.heap.size vss'[i]) ∧ vss.flatten = vss'.flatten)
      clear g1 g3
      go_wp2_with (at_builtin; refine wpList_append_own _ rfl _ _ 59 rfl w.heap.size 71 i0 _ 3 40 Try.underlying59 hi0 hz0 hz1 hz2 rfl (by decide) _ _ _ rfl g2 ⟨wr.heap.size, 0, none⟩ 1 1 [.int .i64 N, .int .i64 0, .slice none 0 0] rfl rfl ?d1 ?d2 ?d3 ?d4 ?d5 ?_)
      case d1 => exact World.news_of_block (cs := #[.int .i64 N, .int .i64 0, .slice none 0 0]) (t := 71) (fr := (0, 0)) (heap_alloc_new wr _)
      case d2 => intro u hu; simp at hu; rcases hu with rfl | rfl | rfl <;> rfl
      case d3 => unfold maxLen; omega
      case d4 => omega
      case d5 => simp; omega
      intro v5 w5 hown5 hg5 _
      have Fin : Hid (DocsOwn w w5 v5 (ds ++ [⟨N, 0, []⟩])) := Lib.hid (HOx.out.put HX.out hown5 hg5 (exD_v _ _ N) (far_nil (exD_v (wr.alloc (.cells #[.int .i64 N, .int .i64 0, .slice none 0 0] 71)) 0 N) rfl))
      clear hown5 hg5 g2
      go_wp2
      go_roundw
      case rel => exact ⟨k + 1, by omega, by omega, by go_num, by rw [Hs.out], by rw [Hs.out]; exact Fin.out⟩
      case measure => simp [intOf]; omega
    · -- the docs are made
      have hstop : (k : Int) < (n1 : Int) → ¬ (k : Int) < 60 := by omega
      obtain ⟨hrise, hfs, hln, _, _⟩ := hok
      have Hrise := Lib.hid hrise
      have Hfs : Hid (∀ d ∈ (mkD (G.take k)).2, d.fs = []) := Lib.hid fun d hd => (hfs d hd).2
      have hl60 : (mkD (G.take k)).2.length ≤ 60 := by omega
      clear hrise hfs hkl hln
      generalize (mkD (G.take k)).1 = p at *
      generalize (mkD (G.take k)).2 = docs at *
      obtain ⟨Ad, cd, rfl, hD⟩ := hO.read
      have HD := Lib.hid hD
      have HB := Lib.hid hO.bel
      have hbw := hO.bel.size
      clear hO hD
      have hy := y.toNat_lt
      have hf0 : 0 ≤ (y.toNat : Int) % 20 ∧ (y.toNat : Int) % 20 < 20 := by omega
      have hf1 := hf0.1
      have hf2 := hf0.2
      clear hf0
      by_cases hk1 : k < n1
      case' pos =>
        have hk1' : (k : Int) < (n1 : Int) := by omega
        have hk2 : ¬ (k : Int) < 60 := by omega
        clear hlt hstop
        go_upto_region 10 with (fail)
      case' neg =>
        have hk1' : ¬ (k : Int) < (n1 : Int) := by omega
        clear hlt hstop
        go_upto_region 10 with (fail)
      all_goals
        generalize (y.toNat : Int) % 20 = f at *
        obtain ⟨w1, rfl⟩ : ∃ w1 : World, w1 = wr := ⟨_, rfl⟩
        have HN0 : Hid (Onc w1 (w1.alloc (.cells #[.int .i64 f, .string ⟨#[42]⟩] 45)) f ⟨#[42]⟩ (.slice none 0 0) []) := Lib.hid ⟨Blk.new w1 _ _, (DocsOwn.start w1).below ((Below.refl _ _).alloc (Nat.le_refl _) _)⟩
        generalize hwa : w1.alloc (.cells #[.int .i64 f, .string ⟨#[42]⟩] 45) = wa at *
        clear hwa hy
        generalize (⟨#[42]⟩ : ByteArray) = star at *
        go_wp2_with fail
        go_loopw [12, 13, 14] (fun ka v i wr => ∃ (k : Nat) (K c : Int) (told : List Dc), k ≤ n2 ∧ k ≤ 40 ∧ i = .int .i64 (k : Int) ∧ ka = .int .i64 K ∧ 0 ≤ K ∧ K ≤ 8 * (k : Int) ∧ Onc w1 wr c star v told ∧ told = sel f c docs ∧ f ≤ c ∧ c ≤ max f K) (fun _ _ i _ => 40 - (intOf i).toNat)
        case' atStart => exact ⟨0, 0, f, [], Nat.zero_le _, by omega, rfl, rfl, by omega, by omega, HN0.out, (sel_empty docs (Int.le_refl f)).symm, Int.le_refl f, by omega⟩
        case' round =>
          obtain ⟨k2, K, c, told, hk2n, hk240, rfl, rfl, hK0, hK1, hO, htold, hfc, hcm⟩ := hrel
          have hbl := hO.box.lt
          have hb0 := hO.box.cell 0
          have hb1 := hO.box.cell 1
          simp at hb0 hb1
          have htl : told.length ≤ 60 := by rw [htold]; exact Nat.le_trans (sel_len ..) hl60
          have HO := Lib.hid hO
          have Htold := Lib.hid htold
          clear hO htold
          by_cases hs2 : k2 < n2 ∧ k2 < 40
          · obtain ⟨hs21, hs22⟩ := hs2
            have hkS : k2 < S.length := by rw [HlS.out]; exact hs21
            obtain ⟨b, o, rfl, hbS, hm1, hm2⟩ := step_at HS.out hkS
            have hBw : Below w.heap.size w wr := HB.out.trans (HO.out.own.bel.mono hbw)
            have hm1 := (hBw.cell (p := ⟨b, o + k2 * 2, none⟩) hbS).trans hm1
            have hm2 := (hBw.cell (p := ⟨b, o + k2 * 2 + 1, none⟩) hbS).trans hm2
            have hbSr : b < wr.heap.size := Nat.lt_of_lt_of_le hbS hBw.size
            generalize (S[k2]'hkS).1 = m at *
            generalize (S[k2]'hkS).2 = q at *
            have hmn := m.toNat_lt
            have hqn := q.toNat_lt
            have hm9 : 0 ≤ (m.toNat : Int) % 9 ∧ (m.toNat : Int) % 9 ≤ 8 := by omega
            have hm90 := hm9.1
            have hm91 := hm9.2
            have hs21' : (k2 : Int) < (n2 : Int) := by omega
            have hs22' : (k2 : Int) < 40 := by omega
            clear hBw hm9
            go_upto_region 16 with (fail)
            obtain ⟨K2, hK2⟩ : ∃ K2, K + (m.toNat : Int) % 9 = K2 := ⟨_, rfl⟩
            have hK20 : K ≤ K2 := by omega
            have hK21 : K2 ≤ 8 * ((k2 : Int) + 1) := by omega
            rw [hK2]
            obtain ⟨lm, hlm⟩ : ∃ lm, (q.toNat : Int) % 5 = lm := ⟨_, rfl⟩
            have Hqw : Hid (IntKind.i64.wrap (q.toNat : Int) = (q.toNat : Int)) := Lib.hid (IntWalk.i64_in _ (by omega))
            have Hq5 : Hid (((q.toNat : Int)).tmod 5 = lm) := Lib.hid (by rw [Int.tmod_eq_emod_of_nonneg (by omega), hlm])
            have hlm0 : 0 ≤ lm := by omega
            have hlm1 : lm ≤ 4 := by omega
            have Hlw : Hid (IntKind.i64.wrap (1 + lm) = 1 + lm) := Lib.hid (IntWalk.i64_in _ (by omega))
            clear hK2 hlm hm90 hm91 hmn hqn hm1
            obtain ⟨p, hp⟩ : ∃ p, folP c K2 (1 + lm) docs = p := ⟨_, rfl⟩
            have hstep := fol_step (f := f) (c := c) (k := K2) (l := 1 + lm) Hrise.out hfc (by omega)
            have hsub := fol_sub c K2 (1 + lm) docs Hfs.out
            have hlo := outP_len c K2 (1 + lm) docs
            rw [hp] at hstep hsub hlo
            obtain ⟨out, last⟩ := p
            dsimp only at hstep hsub hlo
            have CF : Hid (∀ wx, Below wr.heap.size wr wx → Calls Try.prog 27 #[.agg #[.int .i64 c, .string star], .int .i64 K2, .int .i64 (1 + lm), .slice Ad docs.length cd] wx (FolTo wx (out, last) star)) := Lib.hid (fun wx hC => by
              have hb : Below w1.heap.size w1 wx := HO.out.own.bel.trans (hC.mono HO.out.own.bel.size)
              have := follow_any c K2 (1 + lm) star Ad docs.length cd docs wx (HD.out.grow hb) (by omega)
              rw [hp] at this
              exact this)
            have Hstep := Lib.hid hstep
            have Hsub := Lib.hid hsub
            clear hp hstep hsub
            have hcells : ∀ wx, Below wr.heap.size wr wx → wx.cell? ⟨w1.heap.size, 0, none⟩ = some (.int .i64 c) ∧ wx.cell? ⟨w1.heap.size, 1, none⟩ = some (.string star) ∧ wx.cell? ⟨b, o + k2 * 2 + 1, none⟩ = some (.int .u8 (q.toNat : Int)) := fun wx hb =>
              ⟨(hb.cell (p := ⟨w1.heap.size, 0, none⟩) hbl).trans hb0, (hb.cell (p := ⟨w1.heap.size, 1, none⟩) hbl).trans hb1, (hb.cell (p := ⟨b, o + k2 * 2 + 1, none⟩) hbSr).trans hm2⟩
            have Hcells := Lib.hid hcells
            clear hcells hb0 hb1 hm2
            have hk20 : (0 : Int) ≤ (k2 : Int) := by omega
            have hqw := Hqw.out
            have hq5 := Hq5.out
            have hlw := Hlw.out
            refine wp_region_grow_tail 17 (specOf [(11, ⟨Option Addr × Nat, fun x => .tuple #[.slice x.1 out.length x.2, .agg #[.int .i64 last, .string star]], fun x wx => ∃ wb, DocsOwn wb wx (.slice x.1 out.length x.2) out⟩), (15, ⟨Nat, fun x => .pointer (some ⟨x, 0, none⟩), fun x wx => Blk wx x 45 #[.int .i64 0, .string ⟨#[]⟩] ∧ wr.heap.size ≤ x⟩)]) (fun wx => Below wr.heap.size wr wx) (fun w1 w2 => Below w1.heap.size w1 w2) (by kernel_rfl) (by kernel_rfl) (stab_cons (fun x w1 w2 hg h => h.elim fun wb h => ⟨wb, h.below hg⟩) (stab_cons (fun x w1 w2 hg h => ⟨h.1.below hg h.1.lt, h.2⟩) (stab_nil))) ((Below.refl _ _).drew) ?_
            simp only [List.take_succ_cons, List.take_zero, List.drop_succ_cons, List.drop_zero]
            refine grow_fix 1 ?_ rfl (by rfl) (by rfl) (fun wx hC hD => ?_) ?_
            rotate_left
            · have hSw := Hcells.out wx hC
              go_simp
              all_goals with_reducible rfl
            try simp only [Act.put, List.setIfInBounds_toArray, List.set_cons_zero, List.set_cons_succ]
            refine grow_fix 2 ?_ rfl (by rfl) (by rfl) (fun wx hC hD => ?_) ?_
            rotate_left
            · have hSw := Hcells.out wx hC
              go_simp
              all_goals with_reducible rfl
            try simp only [Act.put, List.setIfInBounds_toArray, List.set_cons_zero, List.set_cons_succ]
            refine grow_fix 3 ?_ rfl (by rfl) (by rfl) (fun wx hC hD => ?_) ?_
            rotate_left
            · have hSw := Hcells.out wx hC
              go_simp
              all_goals with_reducible rfl
            try simp only [Act.put, List.setIfInBounds_toArray, List.set_cons_zero, List.set_cons_succ]
            refine grow_fix 4 ?_ rfl (by rfl) (by rfl) (fun wx hC hD => ?_) ?_
            rotate_left
            · have hSw := Hcells.out wx hC
              go_simp
              all_goals with_reducible rfl
            try simp only [Act.put, List.setIfInBounds_toArray, List.set_cons_zero, List.set_cons_succ]
            refine grow_fix 5 ?_ rfl (by rfl) (by rfl) (fun wx hC hD => ?_) ?_
            rotate_left
            · have hSw := Hcells.out wx hC
              go_simp
              all_goals with_reducible rfl
            try simp only [Act.put, List.setIfInBounds_toArray, List.set_cons_zero, List.set_cons_succ]
            refine grow_fix 6 ?_ rfl (by rfl) (by rfl) (fun wx hC hD => ?_) ?_
            rotate_left
            · have hSw := Hcells.out wx hC
              go_simp
              all_goals with_reducible rfl
            try simp only [Act.put, List.setIfInBounds_toArray, List.set_cons_zero, List.set_cons_succ]
            refine grow_fix 7 ?_ rfl (by rfl) (by rfl) (fun wx hC hD => ?_) ?_
            rotate_left
            · have hSw := Hcells.out wx hC
              go_simp
              all_goals with_reducible rfl
            try simp only [Act.put, List.setIfInBounds_toArray, List.set_cons_zero, List.set_cons_succ]
            refine grow_fix 8 ?_ rfl (by rfl) (by rfl) (fun wx hC hD => ?_) ?_
            rotate_left
            · have hSw := Hcells.out wx hC
              go_simp
              all_goals with_reducible rfl
            try simp only [Act.put, List.setIfInBounds_toArray, List.set_cons_zero, List.set_cons_succ]
            refine grow_fix 9 ?_ rfl (by rfl) (by rfl) (fun wx hC hD => ?_) ?_
            rotate_left
            · have hSw := Hcells.out wx hC
              go_simp
              all_goals with_reducible rfl
            try simp only [Act.put, List.setIfInBounds_toArray, List.set_cons_zero, List.set_cons_succ]
            refine grow_fix 10 ?_ rfl (by rfl) (by rfl) (fun wx hC hD => ?_) ?_
            rotate_left
            · have hSw := Hcells.out wx hC
              go_simp
              all_goals with_reducible rfl
            try simp only [Act.put, List.setIfInBounds_toArray, List.set_cons_zero, List.set_cons_succ]
            refine grow_fix 11 ?_ rfl (by rfl) (by rfl) (fun wx hC hD => ?_) ?_
            rotate_left
            · have hSw := Hcells.out wx hC
              go_simp
              all_goals with_reducible rfl
            try simp only [Act.put, List.setIfInBounds_toArray, List.set_cons_zero, List.set_cons_succ]
            refine grow_give 12 _ rfl (by rfl) (by rfl) (fun wx hC hD => ?_) (fun x => ?_)
            · refine give_enter (f := ?_) (args := ?_) ?_ ?_
              rotate_left 2
              · have hSw := Hcells.out wx hC
                go_simp
                all_goals first | with_reducible rfl | (refine ⟨?_, ?_⟩ <;> with_reducible rfl)
              refine (CF.out wx hC).mono ?_
              rintro e w9 ⟨v9, rfl, hO9⟩
              obtain ⟨A9, c9, rfl, _⟩ := hO9.read
              exact ⟨_, rfl, hO9.bel, hC.trans (hO9.bel.mono hC.size), (A9, c9), rfl, ⟨wx, hO9⟩⟩
            obtain ⟨A9, c9⟩ := x
            try simp only [Act.put, List.setIfInBounds_toArray, List.set_cons_zero, List.set_cons_succ]
            refine grow_fix 13 ?_ rfl (by rfl) (by rfl) (fun wx hC hD => ?_) ?_
            rotate_left
            · have hSw := Hcells.out wx hC
              go_simp
              all_goals with_reducible rfl
            try simp only [Act.put, List.setIfInBounds_toArray, List.set_cons_zero, List.set_cons_succ]
            refine grow_fix 14 ?_ rfl (by rfl) (by rfl) (fun wx hC hD => ?_) ?_
            rotate_left
            · have hSw := Hcells.out wx hC
              go_simp
              all_goals with_reducible rfl
            try simp only [Act.put, List.setIfInBounds_toArray, List.set_cons_zero, List.set_cons_succ]
            refine grow_fix 15 ?_ rfl (by rfl) (by rfl) (fun wx hC hD => ?_) ?_
            rotate_left
            · have hSw := Hcells.out wx hC
              go_simp
              all_goals with_reducible rfl
            try simp only [Act.put, List.setIfInBounds_toArray, List.set_cons_zero, List.set_cons_succ]
            refine grow_give 16 _ rfl (by rfl) (by rfl) (fun wx hC hD => ?_) (fun x => ?_)
            · refine give_value (u := ?_) (w' := ?_) ?_ ?_ ?_
              rotate_left 2
              · have hSw := Hcells.out wx hC
                go_simp
                all_goals first | with_reducible rfl | (refine ⟨?_, ?_⟩ <;> with_reducible rfl)
              · exact ((Below.refl _ _).alloc (Nat.le_refl _) _)
              · exact ⟨hC.alloc hC.size _, wx.heap.size, rfl, Blk.new _ _ _, hC.size⟩
            rename Nat => x9
            try simp only [Act.put, List.setIfInBounds_toArray, List.set_cons_zero, List.set_cons_succ]
            refine grow_fix 17 ?_ rfl (by rfl) (by rfl) (fun wx hC hD => ?_) ?_
            rotate_left
            · have hSw := Hcells.out wx hC
              go_simp
              all_goals with_reducible rfl
            try simp only [Act.put, List.setIfInBounds_toArray, List.set_cons_zero, List.set_cons_succ]
            refine grow_nil (fun w6 hC hF => ?_)
            obtain ⟨wb, hOl⟩ := upd_hit (upd_miss (hF 11) (by decide)) (by decide)
            obtain ⟨hBx, hxge⟩ := upd_hit (hF 15) (by decide)
            have hBx : Blk w6 x9 45 #[.int .i64 0, .string ⟨#[]⟩] := hBx
            have hxge : wr.heap.size ≤ x9 := hxge
            have he0 := hBx.cell 0
            have he1 := hBx.cell 1
            have hf0 := hBx.frozen 0
            have hf1x := hBx.frozen 1
            simp at he0 he1
            have HX7 := Lib.hid (blk_over (b0 := .int .i64 last) (b1 := .string star) hBx)
            have HO7 := Lib.hid (HO.out.below ((hC.setCell (p := ⟨x9, 0, none⟩) hxge (.int .i64 last)).setCell (p := ⟨x9, 1, none⟩) hxge (.string star)))
            have hL7 : (A9 = none → c9 = 0) ∧ DocsAt ((w6.setCell ⟨x9, 0, none⟩ (.int .i64 last)).setCell ⟨x9, 1, none⟩ (.string star)) ((w6.setCell ⟨x9, 0, none⟩ (.int .i64 last)).setCell ⟨x9, 1, none⟩ (.string star)).heap.size A9 out.length out := by
              obtain ⟨A', c', e', hn', hd'⟩ := docs_beside (w2 := (w6.setCell ⟨x9, 0, none⟩ (.int .i64 last)).setCell ⟨x9, 1, none⟩ (.string star)) hOl Hsub.out hBx (fun b hb => (Below.heap_setCell _ ⟨x9, 1, none⟩ _ b hb).trans (Below.heap_setCell _ ⟨x9, 0, none⟩ _ b hb)) (by simp [World.setCell])
              injection e' with e1 _ e3
              subst e1 e3
              exact ⟨hn', hd'⟩
            have Hnil := Lib.hid hL7.1
            have HL7 := Lib.hid hL7.2
            clear hC hF hOl hBx hL7 CF Hcells hqw hq5 hlw
            go_upto_region 17 with (fail)
            generalize hw7 : (w6.setCell ⟨x9, 0, none⟩ (.int .i64 last)).setCell ⟨x9, 1, none⟩ (.string star) = w7 at *
            clear hw7 he0 he1 hf0 hf1x
            refine wp_region_ph_tail 5 (specOf [(2, ⟨Value, fun x => x, fun x wx => Onc w1 wx c star x (told ++ out)⟩)]) (fun wx => Blk wx x9 45 #[.int .i64 last, .string star]) (fun wx => Onc w1 wx c star u13 told ∧ DocsAt wx wx.heap.size A9 out.length out) (by kernel_rfl) (by kernel_rfl) (turns_of (by kernel_rfl)) HX7.out.drew ⟨HO7.out.drew, HL7.out.grow (Below.refl _ _).drew⟩ ?_
            refine ph_fix 1 ?_ rfl (by rfl) (by rfl) (fun wx hC => ?_) ?_
            rotate_left
            · have g0 := hC.cell 0; have g1 := hC.cell 1; simp at g0 g1
              go_simp
              all_goals with_reducible rfl
            try simp only [Act.put, List.setIfInBounds_toArray, List.set_cons_zero, List.set_cons_succ]
            refine ph_fix 2 ?_ rfl (by rfl) (by rfl) (fun wx hC => ?_) ?_
            rotate_left
            · have g0 := hC.cell 0; have g1 := hC.cell 1; simp at g0 g1
              go_simp
              all_goals with_reducible rfl
            try simp only [Act.put, List.setIfInBounds_toArray, List.set_cons_zero, List.set_cons_succ]
            refine ph_give 3 _ rfl (by rfl) (by rfl) (fun wx hC hI => ?_) (fun x => ?_)
            · obtain ⟨hOx, hLx⟩ := hI
              obtain ⟨vss, g1, g2, g3⟩ := hOx.own.ex
              obtain ⟨vss2, q1, q2, q3, q4⟩ := docs_cells hLx
              refine give_append_reads _ _ 59 rfl w1.heap.size 71 i0 _ 3 40 Try.underlying59 hi0 hz0 hz1 hz2 rfl (by decide) u13 told.length vss.flatten rfl g2 A9 out.length c9 vss2.flatten rfl q2 Hnil.out q4 (by unfold maxLen; omega) (by omega) (by have := hOx.box.lt; omega) ?_
              intro v9 w9 hown9 hg9
              have hE := hOx.puts ⟨vss, g1, g2, g3, rfl⟩ q1 hown9 hg9 q3 Hsub.out
              exact ⟨hC.grown hg9 (docs_row hOx.own hC (by decide)), v9, rfl, hE⟩
            rename Value => x2
            try simp only [Act.put, List.setIfInBounds_toArray, List.set_cons_zero, List.set_cons_succ]
            refine ph_fix 4 ?_ rfl (by rfl) (by rfl) (fun wx hC => ?_) ?_
            rotate_left
            · have g0 := hC.cell 0; have g1 := hC.cell 1; simp at g0 g1
              go_simp
              all_goals with_reducible rfl
            try simp only [Act.put, List.setIfInBounds_toArray, List.set_cons_zero, List.set_cons_succ]
            refine ph_fix 5 ?_ rfl (by rfl) (by rfl) (fun wx hC => ?_) ?_
            rotate_left
            · have g0 := hC.cell 0; have g1 := hC.cell 1; simp at g0 g1
              go_simp
              all_goals with_reducible rfl
            try simp only [Act.put, List.setIfInBounds_toArray, List.set_cons_zero, List.set_cons_succ]
            refine ph_nil (fun w8 hC hI => ?_)
            have HE := Lib.hid (hI.next last star)
            have hb0 := hI.box.cell 0
            have hb1 := hI.box.cell 1
            have hf80 := hI.box.frozen 0
            have hf81 := hI.box.frozen 1
            simp at hb0 hb1
            clear hI hC HO7 HL7 HX7
            go_wp2
            go_roundw
            case rel => exact ⟨k2 + 1, K2, last, told ++ out, by omega, by omega, by go_num, rfl, by omega, by omega, HE.out, by rw [Htold.out]; exact Hstep.out.1, by have := Hstep.out.2.1; omega, by have := Hstep.out.2.2.1; omega⟩
            case measure => simp [intOf]; omega
          · have hex : ¬ (k2 < n2 ∧ k2 < 40) := hs2
            clear hb0 hb1
            by_cases hk3 : k2 < n2
            case' pos =>
              have hk3' : (k2 : Int) < (n2 : Int) := by omega
              have hk4 : ¬ (k2 : Int) < 40 := by omega
              clear hs2 hex
              go_wp2_with fail
            case' neg =>
              have hk3' : ¬ (k2 : Int) < (n2 : Int) := by omega
              clear hs2 hex
              go_wp2_with fail
            all_goals
              have HOx := HO
              clear HO
              go_loopw [13, 17] (fun v i wr => ∃ (k3 : Nat) (c : Int) (told : List Dc), k3 ≤ 100 ∧ i = .int .i64 (k3 : Int) ∧ Onc w1 wr c star v told ∧ told = sel f c docs ∧ f ≤ c ∧ c ≤ max f K ∧ 3 * k3 ≤ told.length) (fun _ i _ => 100 - (intOf i).toNat)
              case' atStart => exact ⟨0, c, told, by omega, rfl, HOx.out, Htold.out, hfc, hcm, by omega⟩
              case' round =>
                clear HOx Htold hfc hcm htl hbl
                obtain ⟨k3, c, told, hk3100, rfl, hO, htold, hfc, hcm, h3k⟩ := hrel
                have hbl := hO.box.lt
                have hb0 := hO.box.cell 0
                have hb1 := hO.box.cell 1
                simp at hb0 hb1
                have htl : told.length ≤ 60 := by rw [htold]; exact Nat.le_trans (sel_len ..) hl60
                have hlt3 : (k3 : Int) < 100 := by omega
                have HO := Lib.hid hO
                have Htold := Lib.hid htold
                clear hO htold
                obtain ⟨p, hp⟩ : ∃ p, folP c K 3 docs = p := ⟨_, rfl⟩
                have hstep := fol_step (f := f) (c := c) (k := K) (l := 3) Hrise.out hfc (by omega)
                have hsub := fol_sub c K 3 docs Hfs.out
                have hlo := outP_len c K 3 docs
                have cf := follow_any c K 3 star Ad docs.length cd docs wr (HD.out.grow HO.out.own.bel) (by omega)
                rw [hp] at hstep hsub hlo cf
                obtain ⟨out, last⟩ := p
                dsimp only at hstep hsub hlo
                have Hstep := Lib.hid hstep
                have Hsub := Lib.hid hsub
                clear hp hstep hsub
                go_wp2_with fail
                refine cf.mono ?_
                rintro e w6 ⟨v9, rfl, hO9⟩
                obtain ⟨A9, c9, rfl, hnil9, hD9⟩ : ∃ A c, v9 = .slice A out.length c ∧ (A = none → c = 0) ∧ DocsAt w6 w6.heap.size A out.length out := by
                  obtain ⟨A, c, e, hD⟩ := hO9.read
                  obtain ⟨vss, _, g2, _⟩ := hO9.ex
                  obtain ⟨A', c', e', _, _, hn, _⟩ := own_shape2 g2
                  rw [e] at e'
                  injection e' with e1 _ e3
                  subst e1 e3
                  exact ⟨A, c, e, hn, hD⟩
                have hba := (Below.refl w6.heap.size w6).alloc (Nat.le_refl _) (.cells #[.int .i64 last, .string star] 45)
                have HX7 := Lib.hid (Blk.new w6 45 #[.int .i64 last, .string star])
                have HO7 := Lib.hid ((HO.out.below hO9.bel).below hba)
                have HL7 := Lib.hid (hD9.grow hba)
                have Hnil := Lib.hid hnil9
                clear cf hO9 hD9 hnil9 hba hb0 hb1
                go_upto_region 22 with (fail)
                generalize hw7 : w6.alloc (.cells #[.int .i64 last, .string star] 45) = w7 at *
                clear hw7
                generalize hx9 : w6.heap.size = x9 at *
                clear hx9
                refine wp_region_ph_tail 5 (specOf [(2, ⟨Value, fun x => x, fun x wx => Onc w1 wx c star x (told ++ out)⟩)]) (fun wx => Blk wx x9 45 #[.int .i64 last, .string star]) (fun wx => Onc w1 wx c star u13 told ∧ DocsAt wx wx.heap.size A9 out.length out) (by kernel_rfl) (by kernel_rfl) (turns_of (by kernel_rfl)) HX7.out.drew ⟨HO7.out.drew, HL7.out.grow (Below.refl _ _).drew⟩ ?_
                refine ph_fix 1 ?_ rfl (by rfl) (by rfl) (fun wx hC => ?_) ?_
                rotate_left
                · have g0 := hC.cell 0; have g1 := hC.cell 1; simp at g0 g1
                  go_simp
                  all_goals with_reducible rfl
                try simp only [Act.put, List.setIfInBounds_toArray, List.set_cons_zero, List.set_cons_succ]
                refine ph_fix 2 ?_ rfl (by rfl) (by rfl) (fun wx hC => ?_) ?_
                rotate_left
                · have g0 := hC.cell 0; have g1 := hC.cell 1; simp at g0 g1
                  go_simp
                  all_goals with_reducible rfl
                try simp only [Act.put, List.setIfInBounds_toArray, List.set_cons_zero, List.set_cons_succ]
                refine ph_give 3 _ rfl (by rfl) (by rfl) (fun wx hC hI => ?_) (fun x => ?_)
                · obtain ⟨hOx, hLx⟩ := hI
                  obtain ⟨vss, g1, g2, g3⟩ := hOx.own.ex
                  obtain ⟨vss2, q1, q2, q3, q4⟩ := docs_cells hLx
                  refine give_append_reads _ _ 59 rfl w1.heap.size 71 i0 _ 3 40 Try.underlying59 hi0 hz0 hz1 hz2 rfl (by decide) u13 told.length vss.flatten rfl g2 A9 out.length c9 vss2.flatten rfl q2 Hnil.out q4 (by unfold maxLen; omega) (by omega) (by have := hOx.box.lt; omega) ?_
                  intro v9 w9 hown9 hg9
                  have hE := hOx.puts ⟨vss, g1, g2, g3, rfl⟩ q1 hown9 hg9 q3 Hsub.out
                  exact ⟨hC.grown hg9 (docs_row hOx.own hC (by decide)), v9, rfl, hE⟩
                rename Value => x2
                try simp only [Act.put, List.setIfInBounds_toArray, List.set_cons_zero, List.set_cons_succ]
                refine ph_fix 4 ?_ rfl (by rfl) (by rfl) (fun wx hC => ?_) ?_
                rotate_left
                · have g0 := hC.cell 0; have g1 := hC.cell 1; simp at g0 g1
                  go_simp
                  all_goals with_reducible rfl
                try simp only [Act.put, List.setIfInBounds_toArray, List.set_cons_zero, List.set_cons_succ]
                refine ph_fix 5 ?_ rfl (by rfl) (by rfl) (fun wx hC => ?_) ?_
                rotate_left
                · have g0 := hC.cell 0; have g1 := hC.cell 1; simp at g0 g1
                  go_simp
                  all_goals with_reducible rfl
                try simp only [Act.put, List.setIfInBounds_toArray, List.set_cons_zero, List.set_cons_succ]
                refine ph_nil (fun w8 hC hI => ?_)
                have HE := Lib.hid (hI.next last star)
                have hb0 := hI.box.cell 0
                have hb1 := hI.box.cell 1
                have hf80 := hI.box.frozen 0
                have hf81 := hI.box.frozen 1
                simp at hb0 hb1
                clear hI hC HO7 HL7 HX7
                by_cases ho3 : (out.length : Int) < 3
                · -- all is told
                  have hTall : told ++ out = sel f K docs := by
                    have h1 := Hstep.out.1
                    rw [Htold.out, h1, Hstep.out.2.2.2.1 ho3]
                    exact told_all docs hcm
                  have HTall := Lib.hid hTall
                  rw [hTall] at HE
                  clear hTall Hstep
                  go_wp2_with fail
                  generalize hw10 : (w8.setCell ⟨w1.heap.size, 0, none⟩ (.int .i64 last)).setCell ⟨w1.heap.size, 1, none⟩ (.string star) = w10 at *
                  clear hw10 hf80 hf81 hb0 hb1
                  obtain ⟨At, ct, hx2, hDt⟩ := HE.out.own.read
                  have hx2' : x2 = .slice At (sel f K docs).length ct := hx2
                  subst hx2'
                  have HDt := Lib.hid hDt
                  clear hx2 hDt
                  go_loopw [20, 21] (fun v i wr => ∃ j : Nat, j ≤ docs.length ∧ i = .int .i64 (j : Int) ∧ DocsOwn w10 wr v (sel f K (docs.take j))) (fun _ i _ => docs.length - (intOf i).toNat)
                  case' atStart => exact ⟨0, Nat.zero_le _, rfl, DocsOwn.start w10⟩
                  case' round =>
                    obtain ⟨j, hj, rfl, hO⟩ := hrel
                    have hsl : (sel f K (docs.take j)).length ≤ 60 := Nat.le_trans (sel_len ..) (by rw [List.length_take]; omega)
                    have hB4 : Below w1.heap.size w1 wr := HE.out.own.bel.trans (hO.bel.mono HE.out.own.bel.size)
                    by_cases hjl : j < docs.length
                    · obtain ⟨bd, od, F, fn, fc, rfl, hbb, hc0, hc1, hc2, hR, hfl, hfn, hff, hfnil⟩ := HD.out.at_ hjl
                      have hc0 := (hB4.cell (p := ⟨bd, od + j * 3, none⟩) hbb).trans hc0
                      have hc1 := (hB4.cell (p := ⟨bd, od + j * 3 + 1, none⟩) hbb).trans hc1
                      have hc2 := (hB4.cell (p := ⟨bd, od + j * 3 + 2, none⟩) hbb).trans hc2
                      have Hyes := Lib.hid (sel_yes f K docs j hjl)
                      have Hno := Lib.hid (sel_no f K docs j hjl)
                      have hDc : DcV w1 w1.heap.size docs[j] [.int .i64 docs[j].seq, .int .i64 docs[j].at_, .slice F fn fc] := ⟨F, fn, fc, rfl, hR, hfl, hfn, hff, hfnil⟩
                      have hDx : DcV wr wr.heap.size docs[j] [.int .i64 docs[j].seq, .int .i64 docs[j].at_, .slice F fn fc] := (hDc.keep fun _ _ hp => hB4.cell hp).more hB4.size
                      have hdf : docs[j].fs = [] := Hfs.out _ (List.getElem_mem hjl)
                      have HDx := Lib.hid hDx
                      have Hdf := Lib.hid hdf
                      have HO4 := Lib.hid hO
                      obtain ⟨A6, c6, rfl, _⟩ := hO.read
                      have hbw4 := hO.bel.size
                      clear hR hfl hDc hDx hdf hO hB4
                      generalize hdj : docs[j] = d at *
                      clear hdj
                      obtain ⟨s, at_, fs⟩ := d
                      dsimp only at hc0 hc1 HDx Hyes Hno Hdf
                      have hjx0 : (0 : Int) ≤ (j : Int) := by omega
                      have hji : (j : Int) < (docs.length : Int) := by omega
                      by_cases h1 : f < s
                      · by_cases h2 : s ≤ K
                        · have Hys : Hid (sel f K (docs.take (j + 1)) = sel f K (docs.take j) ++ [⟨s, at_, fs⟩]) := Lib.hid (Hyes.out h1 h2)
                          clear Hyes Hno
                          generalize sel f K (docs.take j) = out4 at *
                          have hbx := (Below.refl wr.heap.size wr).alloc (Nat.le_refl _) (.cells #[.int .i64 s, .int .i64 at_, .slice F fn fc] 71)
                          have HOx := Lib.hid (HO4.out.below hbx)
                          have hDy : DcV (wr.alloc (.cells #[.int .i64 s, .int .i64 at_, .slice F fn fc] 71)) (wr.alloc (.cells #[.int .i64 s, .int .i64 at_, .slice F fn fc] 71)).heap.size ⟨s, at_, fs⟩ [.int .i64 s, .int .i64 at_, .slice F fn fc] := (HDx.out.keep fun _ _ hp => hbx.cell hp).more hbx.size
                          have HDy := Lib.hid hDy
                          obtain ⟨vss, g1, g2, g3⟩ := HOx.out.ex
                          have HX := Lib.hid g3
                          have Hg1 := Lib.hid g1
                          clear hbx hDy g1 g3
                          go_wp2_with (at_builtin; refine wpList_append_own _ rfl _ _ 59 rfl w10.heap.size 71 i0 _ 3 40 Try.underlying59 hi0 hz0 hz1 hz2 rfl (by decide) _ _ _ rfl g2 ⟨wr.heap.size, 0, none⟩ 1 1 [.int .i64 s, .int .i64 at_, .slice F fn fc] rfl rfl (World.news_of_block (cs := #[.int .i64 s, .int .i64 at_, .slice F fn fc]) (t := 71) (fr := (0, 0)) (heap_alloc_new wr _)) (by intro u hu; simp at hu; rcases hu with rfl | rfl | rfl <;> rfl) (by unfold maxLen; omega) (by omega) (by simp; omega) ?_)
                          intro v9 w9 hown9 hg9 _
                          have Fin := Lib.hid (HOx.out.put ⟨vss, Hg1.out, g2, HX.out, rfl⟩ hown9 hg9 HDy.out (far_nil HDy.out Hdf.out))
                          clear hown9 hg9 g2
                          go_wp2
                          go_roundw
                          case rel => exact ⟨j + 1, by omega, by go_num, by rw [Hys.out]; exact Fin.out⟩
                          case measure => simp [intOf]; omega
                        · have Hsn : Hid (sel f K (docs.take (j + 1)) = sel f K (docs.take j)) := Lib.hid (Hno.out (fun h => h2 h.2))
                          have h2' : K < s := by omega
                          clear Hyes Hno h2
                          go_wp2
                          go_roundw
                          case rel => exact ⟨j + 1, by omega, by go_num, by rw [Hsn.out]; exact HO4.out⟩
                          case measure => simp [intOf]; omega
                      · have Hsn : Hid (sel f K (docs.take (j + 1)) = sel f K (docs.take j)) := Lib.hid (Hno.out (fun h => h1 h.1))
                        have h1' : s ≤ f := by omega
                        clear Hyes Hno h1
                        go_wp2
                        go_roundw
                        case rel => exact ⟨j + 1, by omega, by go_num, by rw [Hsn.out]; exact HO4.out⟩
                        case measure => simp [intOf]; omega
                    · have hjn : ¬ (j : Int) < (docs.length : Int) := by omega
                      have ht : docs.take j = docs := List.take_of_length_le (by omega)
                      rw [ht] at hO hsl
                      obtain ⟨Aw, cw, rfl, hDw⟩ := hO.read
                      have Hbz := Lib.hid (HB.out.trans (hB4.mono hbw))
                      have cs := sameDocs_eq At Aw (sel f K docs).length ct cw (sel f K docs) wr (HDt.out.grow hO.bel) hDw (by omega)
                      clear hO hDw hB4 ht
                      generalize sel f K docs = all at *
                      go_wp2_with fail
                      refine cs.mono ?_
                      rintro e w11 ⟨rfl, hb11⟩
                      have Hb11 := Lib.hid (Hbz.out.trans (hb11.mono Hbz.out.size))
                      have c9 := awake25 w11
                      clear cs hb11
                      go_wp2_with fail
                      refine c9.mono ?_
                      rintro e w12 ⟨rfl, hb12⟩
                      have Hb12 := Lib.hid (Hb11.out.trans (hb12.mono Hb11.out.size))
                      clear c9 hb12
                      go_wp2_with fail
                      go_ret
                      exact ⟨rfl, Hb12.out⟩
                · go_wp2
                  go_roundw
                  case rel => exact ⟨k3 + 1, last, told ++ out, by omega, by go_num, HE.out, by rw [Htold.out]; exact Hstep.out.1, by have := Hstep.out.2.1; omega, by have := Hstep.out.2.2.1; omega, by rw [List.length_append]; have := Hstep.out.2.2.2.2; omega⟩
                  case measure => simp [intOf]; omega
end Go.Proofs.Ytceekocfmbcobaa.Cu
end

section
/- Steps that came in; CursorOnce at what came in. -/
namespace Go.Proofs.Ytceekocfmbcobaa.Cu
set_option maxRecDepth 20000
open Go.RowKit Go.ChangeShapes Go.WideShapes Go.ChangeAt Go.Deep Go.Joins Go.Proofs.Ytceekocfmbcobaa Go.Proofs.Ytceekocfmbcobaa.Qy Go.Proofs.Ytceekocfmbcobaa.Cr
section
variable {H : Type} {enc : TypeId × Value → H} {W : World} {base : Nat}
theorem step_cells : Try.prog.cellsOf 73 = 2 := by kernel_rfl
theorem step_bytes : Try.prog.bytesOf 73 = 2 := by kernel_rfl
theorem steps_in {v : Value} {d : DataW H} {p : List MemPlace} (hv : Value.okWide Try.prog W .any base 66 v) (h : DataW.Trod enc Try.prog W 0 (fun _ => true) true 66 v d p) (hw : ∀ n ∈ d.weights Try.prog 66, n ≤ 140737488351232) :
    ∃ (A : Option Addr) (n c : Nat) (S : List (UInt8 × UInt8)), v = .slice A n c ∧ Reads W W.heap.size 2 A n (stC S) ∧ n ≤ 140737488351232 := by
  obtain ⟨A0, n0, c0, rfl⟩ := okWide_slice Try.underlying66 hv
  obtain ⟨fuel, hf⟩ := h
  have hf : DataW.trod enc Try.prog W 0 (fun _ => true) true fuel 66 [.slice A0 n0 c0] = some (d, p) := by simpa [Value.cells] using hf
  obtain ⟨A, len, cap, vss, ds, spare, e0, hl, hv, h2, hR, hd, hx, hall⟩ := slice_at Try.underlying66 step_cells (by omega) hf
  have each : ∀ i : Nat, ∃ f : UInt8 × UInt8, ∀ (h1 : i < vss.length) (h2 : i < ds.length), vss[i] = [.int .u8 (f.1.toNat : Int), .int .u8 (f.2.toNat : Int)] := fun i => by
    by_cases hi : i < vss.length ∧ i < ds.length
    · obtain ⟨n, y, g1, g2⟩ := hall i hi.1 hi.2
      obtain ⟨y0, y1, n', rfl, hlen, t0, t1⟩ := trod_struct2 Try.underlying73 g1
      have hvl := h2 _ (List.getElem_mem hi.1)
      obtain ⟨u0, u1, hu⟩ := len_two hvl
      rw [hu] at t0 t1
      simp only [u8_cells, List.drop_zero, List.drop_succ_cons, List.take_succ_cons, List.take_zero] at t0 t1
      obtain ⟨z0, e0, _, wz0⟩ := DataW.trod_int Try.underlying5 t0
      obtain ⟨z1, e1, _, wz1⟩ := DataW.trod_int Try.underlying5 t1
      simp only [List.cons.injEq, and_true] at e0 e1
      subst e0 e1
      obtain ⟨a, rfl⟩ := u8_of wz0
      obtain ⟨b, rfl⟩ := u8_of wz1
      exact ⟨(a, b), fun _ _ => hu⟩
    · exact ⟨(0, 0), fun h1 h2 => absurd ⟨h1, h2⟩ hi⟩
  obtain ⟨f, hf'⟩ := Classical.skolem.1 each
  have hlen : ((List.range len).map f).length = len := by simp
  have e : vss.flatten = stC ((List.range len).map f) := by
    apply List.ext_getElem?
    intro j
    by_cases hj : j < len * 2
    · have hi : j / 2 < vss.length := by omega
      have hg := stC_get ((List.range len).map f) (j / 2) (by rw [hlen]; omega)
      have hfi := hf' (j / 2) hi (by omega)
      have hget : ((List.range len).map f)[j / 2]'(by rw [hlen]; omega) = f (j / 2) := by simp
      rw [hget] at hg
      rcases Nat.mod_two_eq_zero_or_one j with e0 | e1
      · have h0 := flat_get h2 (j / 2) 0 hi (by omega)
        have e : j = j / 2 * 2 := by omega
        rw [hfi, Nat.add_zero] at h0
        rw [e, h0, hg.1]
        rfl
      · have h0 := flat_get h2 (j / 2) 1 hi (by omega)
        have e : j = j / 2 * 2 + 1 := by omega
        rw [hfi] at h0
        rw [e, h0, hg.2]
        rfl
    · rw [List.getElem?_eq_none (by rw [flat_len h2]; omega), List.getElem?_eq_none (by rw [stC_len, hlen]; omega)]
  rw [e] at hR
  have hcap : len ≤ 140737488351232 := by
    rcases hx with hx | ⟨z0, _⟩
    · have hx : d = .slice ds spare := hx
      rw [hx] at hw
      have := weights_len Try.underlying66 hw
      rw [step_bytes] at this
      omega
    · omega
  exact ⟨A, len, cap, _, e0, hR, hcap⟩
theorem once_any (A1 : Option Addr) (n1 c1 : Nat) (zs : List Int) (y : Int) (A2 : Option Addr) (n2 c2 : Nat) (S : List (UInt8 × UInt8)) (w : World) (hG : Reads w w.heap.size 1 A1 n1 (zs.map (Value.int .u8))) (hz : ∀ n ∈ zs, (Lit.int .u8 n).wf = true) (hn1 : n1 * 1 ≤ 140737488351232) (hy : (Lit.int .u8 y).wf = true) (hS : Reads w w.heap.size 2 A2 n2 (stC S)) (hn2 : n2 ≤ 140737488351232) :
    Calls Try.prog 10 #[.slice A1 n1 c1, .int .u8 y, .slice A2 n2 c2] w fun e w' => e = .returned (.bool true) ∧ Below w.heap.size w w' := by
  obtain ⟨b, rfl⟩ := u8_of hy
  rw [bv_of_ints zs hz] at hG
  exact once_walk A1 n1 c1 _ b A2 n2 c2 S w hG (by omega) hS hn2
end
end Go.Proofs.Ytceekocfmbcobaa.Cu
end
