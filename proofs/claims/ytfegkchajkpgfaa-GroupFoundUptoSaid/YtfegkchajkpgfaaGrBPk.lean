/- loggialaw30.of; Total, twice: the walks (printed by gen_grb.py). -/
import Derived.Test.YtfegkchajkpgfaaPkGroupRowsRow16
import Derived.Test.YtfegkchajkpgfaaGrowTPk
namespace Go.Proofs.Ytfegkchajkpgfaa.Gr
open Go.RowKit Go.Proofs.Ytfegkchajkpgfaa Go.Proofs.Ytfegkchajkpgfaa.Ut Go.Proofs.Ytfegkchajkpgfaa.Tk
set_option maxRecDepth 20000
set_option linter.unusedSimpArgs false
set_option linter.unusedVariables false

set_option maxHeartbeats 1600000 in
theorem of_any (A : Option Addr) (n c : Nat) (l : List Ct) (w : World) (hR : Reads w w.heap.size 2 A n (ctC l)) (hn : n ≤ 1048576) :
    Calls Try.prog 24 #[.slice A n c] w (CtPost 81 w l) := by
  obtain ⟨i0, hi0, hz0, hz1, hz2⟩ := info_parts gcount_info
  have hl := cts_len hR
  have HR := Lib.hid hR
  have Hl := Lib.hid hl
  have HS0 := Lib.hid (Cts.start 81 w)
  clear hR hl
  go_enter Try.func24, Try.ntmps24
  go_wp2_with fail
  go_loopw [3, 4] (fun v i wr => ∃ k : Nat, k ≤ n ∧ i = .int .i64 (k : Nat) ∧ Cts 81 w wr v (l.take k)) (fun _ i _ => n - (intOf i).toNat)
  case atStart => exact ⟨0, Nat.zero_le _, rfl, HS0.out⟩
  case round =>
    obtain ⟨k, hk, rfl, hT⟩ := hrel
    by_cases hlt : k < n
    · have hki : (k : Int) < (n : Int) := by omega
      have hki0 : (0 : Int) ≤ (k : Int) := by omega
      have hkl : k < l.length := by rw [Hl.out]; exact hlt
      obtain ⟨tb, tq, rfl, htb, hd1, hd2⟩ := cts_at HR.out hkl
      have hcells : ∀ wx, Below wr.heap.size wr wx → wx.cell? ⟨tb, tq + k * 2, none⟩ = some (.string l[k].1) ∧ wx.cell? ⟨tb, tq + k * 2 + 1, none⟩ = some (.int .i64 l[k].2) := fun wx hC =>
        have hb := hT.bel.trans (hC.mono hT.bel.size)
        ⟨(hb.cell (p := ⟨tb, tq + k * 2, none⟩) htb).trans hd1, (hb.cell (p := ⟨tb, tq + k * 2 + 1, none⟩) htb).trans hd2⟩
      have hts : l.take (k + 1) = l.take k ++ [l[k]] := List.take_succ_eq_append_getElem hkl
      have Hts := Lib.hid hts
      have hlen : (l.take k).length ≤ 1048576 := by rw [List.length_take]; omega
      have hbs := hT.bel.size
      have HT := Lib.hid hT
      have Hcells := Lib.hid hcells
      clear hd1 hd2 hts hT hcells
      generalize hx : l[k] = xx at *
      clear hx
      obtain ⟨x, y⟩ := xx
      generalize l.take k = P at *
      simp only at Hcells
      go_upto_region 5 with (fail)

      refine wp_region_grow_tail 13 (specOf [(12, ⟨Nat, fun x => .slice (some ⟨x, 0, none⟩) 1 1, fun g wx => Blk wx g 81 #[.string x, .int .i64 y] ∧ wr.heap.size ≤ g⟩)]) (fun wx => Below wr.heap.size wr wx) (fun w1 w2 => Below w1.heap.size w1 w2) (by kernel_rfl) (by kernel_rfl) (stab_cons (fun x w1 w2 hg h => ⟨h.1.below hg h.1.lt, h.2⟩) (stab_nil)) ((Below.refl _ _).drew) ?_
      simp only [List.take_succ_cons, List.take_zero, List.drop_succ_cons, List.drop_zero]
      refine grow_fix 1 ?_ rfl (by rfl) (by rfl) (fun wx hC hD => ?_) ?_
      rotate_left
      · have hSw := Hcells.out wx hC
        go_simp
        all_goals with_reducible rfl
      try simp only [Act.put, List.setIfInBounds_toArray, List.set_cons_zero, List.set_cons_succ]
      refine grow_fix 2 ?_ rfl (by rfl) (by rfl) (fun wx hC hD => ?_) ?_
      rotate_left
      · have hSw := Hcells.out wx hC
        go_simp
        all_goals with_reducible rfl
      try simp only [Act.put, List.setIfInBounds_toArray, List.set_cons_zero, List.set_cons_succ]
      refine grow_fix 3 ?_ rfl (by rfl) (by rfl) (fun wx hC hD => ?_) ?_
      rotate_left
      · have hSw := Hcells.out wx hC
        go_simp
        all_goals with_reducible rfl
      try simp only [Act.put, List.setIfInBounds_toArray, List.set_cons_zero, List.set_cons_succ]
      refine grow_fix 4 ?_ rfl (by rfl) (by rfl) (fun wx hC hD => ?_) ?_
      rotate_left
      · have hSw := Hcells.out wx hC
        go_simp
        all_goals with_reducible rfl
      try simp only [Act.put, List.setIfInBounds_toArray, List.set_cons_zero, List.set_cons_succ]
      refine grow_fix 5 ?_ rfl (by rfl) (by rfl) (fun wx hC hD => ?_) ?_
      rotate_left
      · have hSw := Hcells.out wx hC
        go_simp
        all_goals with_reducible rfl
      try simp only [Act.put, List.setIfInBounds_toArray, List.set_cons_zero, List.set_cons_succ]
      refine grow_fix 6 ?_ rfl (by rfl) (by rfl) (fun wx hC hD => ?_) ?_
      rotate_left
      · have hSw := Hcells.out wx hC
        go_simp
        all_goals with_reducible rfl
      try simp only [Act.put, List.setIfInBounds_toArray, List.set_cons_zero, List.set_cons_succ]
      refine grow_fix 7 ?_ rfl (by rfl) (by rfl) (fun wx hC hD => ?_) ?_
      rotate_left
      · have hSw := Hcells.out wx hC
        go_simp
        all_goals with_reducible rfl
      try simp only [Act.put, List.setIfInBounds_toArray, List.set_cons_zero, List.set_cons_succ]
      refine grow_fix 8 ?_ rfl (by rfl) (by rfl) (fun wx hC hD => ?_) ?_
      rotate_left
      · have hSw := Hcells.out wx hC
        go_simp
        all_goals with_reducible rfl
      try simp only [Act.put, List.setIfInBounds_toArray, List.set_cons_zero, List.set_cons_succ]
      refine grow_fix 9 ?_ rfl (by rfl) (by rfl) (fun wx hC hD => ?_) ?_
      rotate_left
      · have hSw := Hcells.out wx hC
        go_simp
        all_goals with_reducible rfl
      try simp only [Act.put, List.setIfInBounds_toArray, List.set_cons_zero, List.set_cons_succ]
      refine grow_fix 10 ?_ rfl (by rfl) (by rfl) (fun wx hC hD => ?_) ?_
      rotate_left
      · have hSw := Hcells.out wx hC
        go_simp
        all_goals with_reducible rfl
      try simp only [Act.put, List.setIfInBounds_toArray, List.set_cons_zero, List.set_cons_succ]
      refine grow_fix 11 ?_ rfl (by rfl) (by rfl) (fun wx hC hD => ?_) ?_
      rotate_left
      · have hSw := Hcells.out wx hC
        go_simp
        all_goals with_reducible rfl
      try simp only [Act.put, List.setIfInBounds_toArray, List.set_cons_zero, List.set_cons_succ]
      refine grow_fix 12 ?_ rfl (by rfl) (by rfl) (fun wx hC hD => ?_) ?_
      rotate_left
      · have hSw := Hcells.out wx hC
        go_simp
        all_goals with_reducible rfl
      try simp only [Act.put, List.setIfInBounds_toArray, List.set_cons_zero, List.set_cons_succ]
      refine grow_give 13 _ rfl (by rfl) (by rfl) (fun wx hC hD => ?_) (fun x => ?_)
      · refine give_value (u := ?_) (w' := ?_) ?_ ?_ ?_
        rotate_left 2
        · have hSw := Hcells.out wx hC
          go_simp
          all_goals first | with_reducible rfl | (refine ⟨?_, ?_⟩ <;> with_reducible rfl)
        · exact ((Below.refl _ _).alloc (Nat.le_refl _) _)
        · exact ⟨hC.alloc hC.size _, wx.heap.size, rfl, Blk.new _ _ _, hC.size⟩
      rename Nat => x9
      try simp only [Act.put, List.setIfInBounds_toArray, List.set_cons_zero, List.set_cons_succ]
      refine grow_nil (fun w6 hC hF => ?_)
      have hblk := upd_hit (hF 12) (by decide)
      have hT6 := HT.out.below hC
      have hown := hT6.own
      have hb6 := hT6.bel.size
      have Hblk := Lib.hid hblk
      have HT6 := Lib.hid hT6
      clear hF hC hblk hT6
      go_wp2_with (at_builtin; refine wpList_append_own _ rfl _ _ 61 rfl w.heap.size 81 i0 _ 2 24 Try.underlying61 hi0 hz0 hz1 hz2 rfl (by decide) _ _ _ rfl hown ⟨x9, 0, none⟩ 1 1 [.string x, .int .i64 y] rfl rfl ?d1 ?d2 ?d3 ?d4 ?d5 ?_)
      case d1 => exact World.news_of_block (cs := #[.string x, .int .i64 y]) (t := 81) (fr := (0, 0)) Hblk.out.1
      case d2 => intro u hu; simp at hu; rcases hu with rfl | rfl <;> rfl
      case d3 => unfold maxLen; omega
      case d4 => have := Hblk.out.1.lt; have := Hblk.out.2; omega
      case d5 => first | omega | (have := Hblk.out.1.lt; have := Hblk.out.2; simp; omega)
      intro v' w5 hown5 hg5 _
      have FinA := Lib.hid (Cts.put (x := (x, y)) HT6.out hown5 hg5)
      clear hown5 hg5 hown
      go_wp2
      go_roundw
      case rel => exact ⟨k + 1, by omega, by go_num, by rw [Hts.out]; exact FinA.out⟩
      case measure => simp [intOf]; omega
    · have h1 : (n : Int) ≤ (k : Int) := by omega
      have hall : l.take k = l := List.take_of_length_le (by rw [Hl.out]; omega)
      rw [hall] at hT
      have HT := Lib.hid hT
      clear hT hall
      go_wp2
      go_ret
      exact ⟨_, rfl, HT.out.own, HT.out.bel⟩

set_option maxHeartbeats 1600000 in
theorem total_any (A : Option Addr) (n c : Nat) (l : List Ct) (w : World) (hR : Reads w w.heap.size 2 A n (ctC l)) (hn : n ≤ 8796093021952) :
    Calls Try.prog 28 #[.slice A n c] w fun e w' => e = .returned (.int .i64 (totR l)) ∧ Below w.heap.size w w' := by
  have hl := cts_len hR
  have HR := Lib.hid hR
  have Hl := Lib.hid hl
  clear hR hl
  go_enter Try.func28, Try.ntmps28
  go_wp2_with fail
  go_loopw [3, 8] (fun v i wr => ∃ k : Nat, k ≤ n ∧ i = .int .i64 (k : Nat) ∧ v = .int .i64 (totR (l.take k)) ∧ Below w.heap.size w wr) (fun _ i _ => n - (intOf i).toNat)
  case atStart => exact ⟨0, Nat.zero_le _, rfl, rfl, Below.refl _ _⟩
  case round =>
    obtain ⟨k, hk, rfl, rfl, hb⟩ := hrel
    by_cases hlt : k < n
    · have hki : (k : Int) < (n : Int) := by omega
      have hki0 : (0 : Int) ≤ (k : Int) := by omega
      have hkl : k < l.length := by rw [Hl.out]; exact hlt
      obtain ⟨tb, tq, rfl, htb, hd1, hd2⟩ := cts_at HR.out hkl
      have hc1 := (hb.cell (p := ⟨tb, tq + k * 2, none⟩) htb).trans hd1
      have hc2 := (hb.cell (p := ⟨tb, tq + k * 2 + 1, none⟩) htb).trans hd2
      have hts := totR_snoc l k hkl
      have Hts := Lib.hid hts
      have Hb := Lib.hid hb
      clear hd1 hd2 hts
      generalize l[k] = xx at *
      obtain ⟨x, y⟩ := xx
      generalize totR (l.take k) = T at *
      have hsum : IntKind.i64.wrap (T + y) = totR (l.take (k + 1)) := Hts.out.symm
      simp only at hc1 hc2
      generalize hT1 : totR (l.take (k + 1)) = T1 at *
      have HT1 := Lib.hid hT1
      clear Hts hT1
      go_wp2
      go_roundw
      case rel => exact ⟨k + 1, by omega, by go_num, by rw [HT1.out], Hb.out.alloc Hb.out.size _⟩
      case measure => simp [intOf]; omega
    · have h1 : (n : Int) ≤ (k : Int) := by omega
      have hall : l.take k = l := List.take_of_length_le (by rw [Hl.out]; omega)
      have Hb := Lib.hid hb
      rw [hall]
      clear hb hall
      go_wp2
      go_ret
      exact ⟨rfl, Hb.out⟩

set_option maxHeartbeats 1600000 in
theorem rtotal_any (A : Option Addr) (n c : Nat) (l : List Ct) (w : World) (hR : Reads w w.heap.size 2 A n (ctC l)) (hn : n ≤ 8796093021952) :
    Calls Try.prog 29 #[.slice A n c] w fun e w' => e = .returned (.int .i64 (totR l)) ∧ Below w.heap.size w w' := by
  have hl := cts_len hR
  have HR := Lib.hid hR
  have Hl := Lib.hid hl
  clear hR hl
  go_enter Try.func29, Try.ntmps29
  go_wp2_with fail
  go_loopw [3, 4] (fun v i wr => ∃ k : Nat, k ≤ n ∧ i = .int .i64 (k : Nat) ∧ v = .int .i64 (totR (l.take k)) ∧ Below w.heap.size w wr) (fun _ i _ => n - (intOf i).toNat)
  case atStart => exact ⟨0, Nat.zero_le _, rfl, rfl, Below.refl _ _⟩
  case round =>
    obtain ⟨k, hk, rfl, rfl, hb⟩ := hrel
    by_cases hlt : k < n
    · have hki : (k : Int) < (n : Int) := by omega
      have hki0 : (0 : Int) ≤ (k : Int) := by omega
      have hkl : k < l.length := by rw [Hl.out]; exact hlt
      obtain ⟨tb, tq, rfl, htb, hd1, hd2⟩ := cts_at HR.out hkl
      have hc1 := (hb.cell (p := ⟨tb, tq + k * 2, none⟩) htb).trans hd1
      have hc2 := (hb.cell (p := ⟨tb, tq + k * 2 + 1, none⟩) htb).trans hd2
      have hts := totR_snoc l k hkl
      have Hts := Lib.hid hts
      have Hb := Lib.hid hb
      clear hd1 hd2 hts
      generalize l[k] = xx at *
      obtain ⟨x, y⟩ := xx
      generalize totR (l.take k) = T at *
      have hsum : IntKind.i64.wrap (T + y) = totR (l.take (k + 1)) := Hts.out.symm
      simp only at hc1 hc2
      generalize hT1 : totR (l.take (k + 1)) = T1 at *
      have HT1 := Lib.hid hT1
      clear Hts hT1
      go_wp2
      go_roundw
      case rel => exact ⟨k + 1, by omega, by go_num, by rw [HT1.out], Hb.out⟩
      case measure => simp [intOf]; omega
    · have h1 : (n : Int) ≤ (k : Int) := by omega
      have hall : l.take k = l := List.take_of_length_le (by rw [Hl.out]; omega)
      have Hb := Lib.hid hb
      rw [hall]
      clear hb hall
      go_wp2
      go_ret
      exact ⟨rfl, Hb.out⟩

end Go.Proofs.Ytfegkchajkpgfaa.Gr
