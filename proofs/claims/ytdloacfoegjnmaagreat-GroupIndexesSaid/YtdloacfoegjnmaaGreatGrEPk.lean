/- group.Check; loggiaref30.Is, Check: the walks (printed by gen_gre.py). -/
import Derived.Test.YtdloacfoegjnmaaGreatPkGroupIndexesRow26
import Derived.Test.YtdloacfoegjnmaaGreatPkGroupIndexesRow10
namespace Go.Proofs.YtdloacfoegjnmaaGreat.Gr
open Go.RowKit Go.Proofs.YtdloacfoegjnmaaGreat Go.Proofs.YtdloacfoegjnmaaGreat.Ut Go.Proofs.YtdloacfoegjnmaaGreat.Tk
set_option maxRecDepth 20000
set_option linter.unusedSimpArgs false
set_option linter.unusedVariables false

def errR (l : List Ct) : Int := if okR l then 0 else 1
theorem errR_no {l : List Ct} (h : okR l = false) : errR l = 1 := by unfold errR; rw [h]; rfl
theorem errR_yes {l : List Ct} (h : okR l = true) : errR l = 0 := by unfold errR; rw [h]; rfl


set_option maxHeartbeats 12800000 in
theorem check_any (A : Option Addr) (n c : Nat) (l : List Ct) (w : World) (hR : Reads w w.heap.size 2 A n (ctC l)) (hn : n ≤ 1048576) (hs : ∀ x ∈ l, x.1.size ≤ 140737488351232) :
    Calls Tryz.prog 36 #[.slice A n c] w fun e w' => e = .returned (.int .i64 (errR l)) ∧ Below w.heap.size w w' := by
  have hl := cts_len hR
  have HR := Lib.hid hR
  have Hl := Lib.hid hl
  have Hs := Lib.hid hs
  clear hR hl hs
  go_enter Tryz.func36, Tryz.ntmps36
  go_wp2_with fail
  go_loopw [7] (fun i wr => ∃ k : Nat, k ≤ n ∧ i = .int .i64 (k : Nat) ∧ Hid (∀ j, j < k → okK l j = true) ∧ Below w.heap.size w wr) (fun i _ => n - (intOf i).toNat)
  case atStart => exact ⟨0, Nat.zero_le _, rfl, Lib.hid (fun j h => absurd h (by omega)), Below.refl _ _⟩
  case round =>
    obtain ⟨k, hk, rfl, hS, hb⟩ := hrel
    by_cases hlt : k < n
    · have hki : (k : Int) < (n : Int) := by omega
      have hki0 : (0 : Int) ≤ (k : Int) := by omega
      have hkl : k < l.length := by rw [Hl.out]; exact hlt
      have hok := okK_eq hkl
      have hsz := Hs.out _ (List.getElem_mem hkl)
      have hno : okK l k = false → okR l = false := okR_no hkl
      have hyes : okK l k = true → ∀ j, j < k + 1 → okK l j = true := fun h j hj => by
        rcases Nat.lt_succ_iff_lt_or_eq.1 hj with h1 | rfl
        · exact hS.out j h1
        · exact h
      obtain ⟨tb, tq, rfl, htb, hd1, hd2⟩ := cts_at HR.out hkl
      have hc1 := (hb.cell (p := ⟨tb, tq + k * 2, none⟩) htb).trans hd1
      have hc2 := (hb.cell (p := ⟨tb, tq + k * 2 + 1, none⟩) htb).trans hd2
      by_cases hk0 : k = 0
      · have hkz : (k : Int) ≤ 0 := by omega
        have hkz2 : ¬ 0 < k := by omega
        have hok2 : okK l k = (isW l[k].1.data.toList && decide (1 ≤ l[k].2) && decide (l[k].2 ≤ 1099511627776)) := by rw [hok, decide_eq_true hk0]; simp
        have c1 := fun wx => isWord_anyB l[k].1 wx (by omega)
        generalize isW l[k].1.data.toList = tw at *
        generalize l[k].1 = x at *
        generalize l[k].2 = y at *
        have htr : tb < wr.heap.size := by have := hb.size; omega
        have hbA : Below wr.heap.size wr (wr.alloc (.cells #[.string x, .int .i64 y] 62)) := (Below.refl _ _).alloc (Nat.le_refl _) _
        have hBk := Blk.new wr 62 #[.string x, .int .i64 y]
        have hzA : wr.heap.size < (wr.alloc (.cells #[.string x, .int .i64 y] 62)).heap.size := by simp
        have hcells : ∀ wx, Below (wr.alloc (.cells #[.string x, .int .i64 y] 62)).heap.size (wr.alloc (.cells #[.string x, .int .i64 y] 62)) wx → wx.cell? ⟨tb, tq + k * 2, none⟩ = some (.string x) ∧ wx.cell? ⟨tb, tq + k * 2 + 1, none⟩ = some (.int .i64 y) ∧ wx.cell? ⟨wr.heap.size, 0, none⟩ = some (.string x) ∧ wx.cell? ⟨wr.heap.size, 1, none⟩ = some (.int .i64 y) := fun wx hD =>
          have hC := hbA.trans (hD.mono hbA.size)
          have hB2 := hBk.below hD hzA
          ⟨(hC.cell (p := ⟨tb, tq + k * 2, none⟩) htr).trans hc1, (hC.cell (p := ⟨tb, tq + k * 2 + 1, none⟩) htr).trans hc2, hB2.cell 0, hB2.cell 1⟩
        have Hba := Lib.hid (hb.trans (hbA.mono hb.size))
        have Hcells := Lib.hid hcells
        have C1 := Lib.hid (fun wx (_ : Below (wr.alloc (.cells #[.string x, .int .i64 y] 62)).heap.size (wr.alloc (.cells #[.string x, .int .i64 y] 62)) wx) => c1 wx)
        have Hno0 := Lib.hid hno
        have Hyes0 := Lib.hid hyes
        have Hok2 := Lib.hid hok2
        clear hk0 hd1 hd2 hno hyes hok hok2 c1 hS hb hlt hk hbA hBk hcells
        cases tw with
        | false =>
          have Hno : Hid (okR l = false) := Lib.hid (Hno0.out (by rw [Hok2.out]; rfl))
          clear Hno0 Hyes0 Hok2
          go_upto_region 4 with (fail)
          generalize hwa : (wr.alloc (.cells #[.string x, .int .i64 y] 62)) = wa at *
          clear hwa
          refine wp_region_grow (specOf [(2, ⟨Unit, fun _ => (.bool false), fun _ _ => True⟩)]) (fun wx => Below (World.heap wa).size wa wx) (fun w1 w2 => Below w1.heap.size w1 w2) (by kernel_rfl) (by kernel_rfl) (stab_cons (fun _ _ _ _ h => h) (stab_nil)) (Below.refl _ _).drew ?_
          refine grow_fix 1 ?_ rfl (by rfl) (by rfl) (fun wx hC hD => ?_) ?_
          rotate_left
          · have hSw := Hcells.out wx hC
            go_simp
            all_goals with_reducible rfl
          try simp only [Act.put, List.setIfInBounds_toArray, List.set_cons_zero, List.set_cons_succ]
          refine grow_fix 2 ?_ rfl (by rfl) (by rfl) (fun wx hC hD => ?_) ?_
          rotate_left
          · have hSw := Hcells.out wx hC
            go_simp
            all_goals with_reducible rfl
          try simp only [Act.put, List.setIfInBounds_toArray, List.set_cons_zero, List.set_cons_succ]
          refine grow_give 3 _ rfl (by rfl) (by rfl) (fun wx hC hD => ?_) (fun x => ?_)
          · refine give_enter (f := ?_) (args := ?_) ?_ ?_
            rotate_left 2
            · have hSw := Hcells.out wx hC
              go_simp
              all_goals first | with_reducible rfl | (refine ⟨?_, ?_⟩ <;> with_reducible rfl)
            exact calls_cst hC (C1.out wx hC)
          obtain ⟨⟩ := x
          try simp only [Act.put, List.setIfInBounds_toArray, List.set_cons_zero, List.set_cons_succ]
          refine grow_fix 4 ?_ rfl (by rfl) (by rfl) (fun wx hC hD => ?_) ?_
          rotate_left
          · have hSw := Hcells.out wx hC
            go_simp
            all_goals with_reducible rfl
          try simp only [Act.put, List.setIfInBounds_toArray, List.set_cons_zero, List.set_cons_succ]
          refine grow_fix 5 ?_ rfl (by rfl) (by rfl) (fun wx hC hD => ?_) ?_
          rotate_left
          · have hSw := Hcells.out wx hC
            go_simp
            all_goals with_reducible rfl
          try simp only [Act.put, List.setIfInBounds_toArray, List.set_cons_zero, List.set_cons_succ]
          refine grow_skip 6 (some true) false rfl (by rfl) (by rfl) (by rfl) ?_
          try simp only [Act.put, List.setIfInBounds_toArray, List.set_cons_zero, List.set_cons_succ]
          refine grow_skip 7 (some true) false rfl (by rfl) (by rfl) (by rfl) ?_
          try simp only [Act.put, List.setIfInBounds_toArray, List.set_cons_zero, List.set_cons_succ]
          refine grow_skip 8 (some true) false rfl (by rfl) (by rfl) (by rfl) ?_
          try simp only [Act.put, List.setIfInBounds_toArray, List.set_cons_zero, List.set_cons_succ]
          refine grow_fix 9 ?_ rfl (by rfl) (by rfl) (fun wx hC hD => ?_) ?_
          rotate_left
          · have hSw := Hcells.out wx hC
            go_simp
            all_goals with_reducible rfl
          try simp only [Act.put, List.setIfInBounds_toArray, List.set_cons_zero, List.set_cons_succ]
          refine grow_fix 10 ?_ rfl (by rfl) (by rfl) (fun wx hC hD => ?_) ?_
          rotate_left
          · have hSw := Hcells.out wx hC
            go_simp
            all_goals with_reducible rfl
          try simp only [Act.put, List.setIfInBounds_toArray, List.set_cons_zero, List.set_cons_succ]
          refine grow_skip 11 (some true) false rfl (by rfl) (by rfl) (by rfl) ?_
          try simp only [Act.put, List.setIfInBounds_toArray, List.set_cons_zero, List.set_cons_succ]
          refine grow_skip 12 (some true) false rfl (by rfl) (by rfl) (by rfl) ?_
          try simp only [Act.put, List.setIfInBounds_toArray, List.set_cons_zero, List.set_cons_succ]
          refine grow_skip 13 (some true) false rfl (by rfl) (by rfl) (by rfl) ?_
          try simp only [Act.put, List.setIfInBounds_toArray, List.set_cons_zero, List.set_cons_succ]
          refine grow_fix 14 ?_ rfl (by rfl) (by rfl) (fun wx hC hD => ?_) ?_
          rotate_left
          · have hSw := Hcells.out wx hC
            go_simp
            all_goals with_reducible rfl
          try simp only [Act.put, List.setIfInBounds_toArray, List.set_cons_zero, List.set_cons_succ]
          refine grow_fix 15 ?_ rfl (by rfl) (by rfl) (fun wx hC hD => ?_) ?_
          rotate_left
          · have hSw := Hcells.out wx hC
            go_simp
            all_goals with_reducible rfl
          try simp only [Act.put, List.setIfInBounds_toArray, List.set_cons_zero, List.set_cons_succ]
          refine grow_skip 16 (some true) false rfl (by rfl) (by rfl) (by rfl) ?_
          try simp only [Act.put, List.setIfInBounds_toArray, List.set_cons_zero, List.set_cons_succ]
          refine grow_skip 17 (some true) false rfl (by rfl) (by rfl) (by rfl) ?_
          try simp only [Act.put, List.setIfInBounds_toArray, List.set_cons_zero, List.set_cons_succ]
          refine grow_skip 18 (some true) false rfl (by rfl) (by rfl) (by rfl) ?_
          try simp only [Act.put, List.setIfInBounds_toArray, List.set_cons_zero, List.set_cons_succ]
          refine grow_skip 19 none true rfl (by rfl) (by rfl) (by rfl) ?_
          try simp only [Act.put, List.setIfInBounds_toArray, List.set_cons_zero, List.set_cons_succ]
          refine grow_skip 20 none true rfl (by rfl) (by rfl) (by rfl) ?_
          try simp only [Act.put, List.setIfInBounds_toArray, List.set_cons_zero, List.set_cons_succ]
          refine grow_skip 21 none true rfl (by rfl) (by rfl) (by rfl) ?_
          try simp only [Act.put, List.setIfInBounds_toArray, List.set_cons_zero, List.set_cons_succ]
          refine grow_skip 22 none true rfl (by rfl) (by rfl) (by rfl) ?_
          try simp only [Act.put, List.setIfInBounds_toArray, List.set_cons_zero, List.set_cons_succ]
          refine grow_skip 23 none true rfl (by rfl) (by rfl) (by rfl) ?_
          try simp only [Act.put, List.setIfInBounds_toArray, List.set_cons_zero, List.set_cons_succ]
          refine grow_skip 24 none true rfl (by rfl) (by rfl) (by rfl) ?_
          try simp only [Act.put, List.setIfInBounds_toArray, List.set_cons_zero, List.set_cons_succ]
          refine grow_skip 25 none true rfl (by rfl) (by rfl) (by rfl) ?_
          try simp only [Act.put, List.setIfInBounds_toArray, List.set_cons_zero, List.set_cons_succ]
          refine grow_skip 26 none true rfl (by rfl) (by rfl) (by rfl) ?_
          try simp only [Act.put, List.setIfInBounds_toArray, List.set_cons_zero, List.set_cons_succ]
          refine grow_skip 27 none true rfl (by rfl) (by rfl) (by rfl) ?_
          try simp only [Act.put, List.setIfInBounds_toArray, List.set_cons_zero, List.set_cons_succ]
          refine grow_skip 28 (some true) false rfl (by rfl) (by rfl) (by rfl) ?_
          try simp only [Act.put, List.setIfInBounds_toArray, List.set_cons_zero, List.set_cons_succ]
          refine grow_fix 29 ?_ rfl (by rfl) (by rfl) (fun wx hC hD => ?_) ?_
          rotate_left
          · have hSw := Hcells.out wx hC
            go_simp
            all_goals with_reducible rfl
          try simp only [Act.put, List.setIfInBounds_toArray, List.set_cons_zero, List.set_cons_succ]
          refine grow_nil (fun w9 hC hF => ?_)
          have Hbz := Lib.hid (Hba.out.trans (hC.mono Hba.out.size))
          clear hF hC
          go_wp2
          go_ret
          exact ⟨by rw [errR_no Hno.out]; rfl, Hbz.out⟩
        | true =>
          by_cases h1 : y < 1
          · have Hno : Hid (okR l = false) := Lib.hid (Hno0.out (by rw [Hok2.out]; rw [decide_eq_false (show ¬ 1 ≤ y by omega)]; simp))
            clear Hno0 Hyes0 Hok2
            go_upto_region 4 with (fail)
            generalize hwa : (wr.alloc (.cells #[.string x, .int .i64 y] 62)) = wa at *
            clear hwa
            refine wp_region_grow (specOf [(2, ⟨Unit, fun _ => (.bool true), fun _ _ => True⟩)]) (fun wx => Below (World.heap wa).size wa wx) (fun w1 w2 => Below w1.heap.size w1 w2) (by kernel_rfl) (by kernel_rfl) (stab_cons (fun _ _ _ _ h => h) (stab_nil)) (Below.refl _ _).drew ?_
            refine grow_fix 1 ?_ rfl (by rfl) (by rfl) (fun wx hC hD => ?_) ?_
            rotate_left
            · have hSw := Hcells.out wx hC
              go_simp
              all_goals with_reducible rfl
            try simp only [Act.put, List.setIfInBounds_toArray, List.set_cons_zero, List.set_cons_succ]
            refine grow_fix 2 ?_ rfl (by rfl) (by rfl) (fun wx hC hD => ?_) ?_
            rotate_left
            · have hSw := Hcells.out wx hC
              go_simp
              all_goals with_reducible rfl
            try simp only [Act.put, List.setIfInBounds_toArray, List.set_cons_zero, List.set_cons_succ]
            refine grow_give 3 _ rfl (by rfl) (by rfl) (fun wx hC hD => ?_) (fun x => ?_)
            · refine give_enter (f := ?_) (args := ?_) ?_ ?_
              rotate_left 2
              · have hSw := Hcells.out wx hC
                go_simp
                all_goals first | with_reducible rfl | (refine ⟨?_, ?_⟩ <;> with_reducible rfl)
              exact calls_cst hC (C1.out wx hC)
            obtain ⟨⟩ := x
            try simp only [Act.put, List.setIfInBounds_toArray, List.set_cons_zero, List.set_cons_succ]
            refine grow_fix 4 ?_ rfl (by rfl) (by rfl) (fun wx hC hD => ?_) ?_
            rotate_left
            · have hSw := Hcells.out wx hC
              go_simp
              all_goals with_reducible rfl
            try simp only [Act.put, List.setIfInBounds_toArray, List.set_cons_zero, List.set_cons_succ]
            refine grow_fix 5 ?_ rfl (by rfl) (by rfl) (fun wx hC hD => ?_) ?_
            rotate_left
            · have hSw := Hcells.out wx hC
              go_simp
              all_goals with_reducible rfl
            try simp only [Act.put, List.setIfInBounds_toArray, List.set_cons_zero, List.set_cons_succ]
            refine grow_fix 6 ?_ rfl (by rfl) (by rfl) (fun wx hC hD => ?_) ?_
            rotate_left
            · have hSw := Hcells.out wx hC
              go_simp
              all_goals with_reducible rfl
            try simp only [Act.put, List.setIfInBounds_toArray, List.set_cons_zero, List.set_cons_succ]
            refine grow_fix 7 ?_ rfl (by rfl) (by rfl) (fun wx hC hD => ?_) ?_
            rotate_left
            · have hSw := Hcells.out wx hC
              go_simp
              all_goals with_reducible rfl
            try simp only [Act.put, List.setIfInBounds_toArray, List.set_cons_zero, List.set_cons_succ]
            refine grow_fix 8 ?_ rfl (by rfl) (by rfl) (fun wx hC hD => ?_) ?_
            rotate_left
            · have hSw := Hcells.out wx hC
              go_simp
              all_goals with_reducible rfl
            try simp only [Act.put, List.setIfInBounds_toArray, List.set_cons_zero, List.set_cons_succ]
            refine grow_fix 9 ?_ rfl (by rfl) (by rfl) (fun wx hC hD => ?_) ?_
            rotate_left
            · have hSw := Hcells.out wx hC
              go_simp
              all_goals with_reducible rfl
            try simp only [Act.put, List.setIfInBounds_toArray, List.set_cons_zero, List.set_cons_succ]
            refine grow_fix 10 ?_ rfl (by rfl) (by rfl) (fun wx hC hD => ?_) ?_
            rotate_left
            · have hSw := Hcells.out wx hC
              go_simp
              all_goals with_reducible rfl
            try simp only [Act.put, List.setIfInBounds_toArray, List.set_cons_zero, List.set_cons_succ]
            refine grow_skip 11 (some true) false rfl (by rfl) (by rfl) (by rfl) ?_
            try simp only [Act.put, List.setIfInBounds_toArray, List.set_cons_zero, List.set_cons_succ]
            refine grow_skip 12 (some true) false rfl (by rfl) (by rfl) (by rfl) ?_
            try simp only [Act.put, List.setIfInBounds_toArray, List.set_cons_zero, List.set_cons_succ]
            refine grow_skip 13 (some true) false rfl (by rfl) (by rfl) (by rfl) ?_
            try simp only [Act.put, List.setIfInBounds_toArray, List.set_cons_zero, List.set_cons_succ]
            refine grow_fix 14 ?_ rfl (by rfl) (by rfl) (fun wx hC hD => ?_) ?_
            rotate_left
            · have hSw := Hcells.out wx hC
              go_simp
              all_goals with_reducible rfl
            try simp only [Act.put, List.setIfInBounds_toArray, List.set_cons_zero, List.set_cons_succ]
            refine grow_fix 15 ?_ rfl (by rfl) (by rfl) (fun wx hC hD => ?_) ?_
            rotate_left
            · have hSw := Hcells.out wx hC
              go_simp
              all_goals with_reducible rfl
            try simp only [Act.put, List.setIfInBounds_toArray, List.set_cons_zero, List.set_cons_succ]
            refine grow_skip 16 (some true) false rfl (by rfl) (by rfl) (by rfl) ?_
            try simp only [Act.put, List.setIfInBounds_toArray, List.set_cons_zero, List.set_cons_succ]
            refine grow_skip 17 (some true) false rfl (by rfl) (by rfl) (by rfl) ?_
            try simp only [Act.put, List.setIfInBounds_toArray, List.set_cons_zero, List.set_cons_succ]
            refine grow_skip 18 (some true) false rfl (by rfl) (by rfl) (by rfl) ?_
            try simp only [Act.put, List.setIfInBounds_toArray, List.set_cons_zero, List.set_cons_succ]
            refine grow_skip 19 none true rfl (by rfl) (by rfl) (by rfl) ?_
            try simp only [Act.put, List.setIfInBounds_toArray, List.set_cons_zero, List.set_cons_succ]
            refine grow_skip 20 none true rfl (by rfl) (by rfl) (by rfl) ?_
            try simp only [Act.put, List.setIfInBounds_toArray, List.set_cons_zero, List.set_cons_succ]
            refine grow_skip 21 none true rfl (by rfl) (by rfl) (by rfl) ?_
            try simp only [Act.put, List.setIfInBounds_toArray, List.set_cons_zero, List.set_cons_succ]
            refine grow_skip 22 none true rfl (by rfl) (by rfl) (by rfl) ?_
            try simp only [Act.put, List.setIfInBounds_toArray, List.set_cons_zero, List.set_cons_succ]
            refine grow_skip 23 none true rfl (by rfl) (by rfl) (by rfl) ?_
            try simp only [Act.put, List.setIfInBounds_toArray, List.set_cons_zero, List.set_cons_succ]
            refine grow_skip 24 none true rfl (by rfl) (by rfl) (by rfl) ?_
            try simp only [Act.put, List.setIfInBounds_toArray, List.set_cons_zero, List.set_cons_succ]
            refine grow_skip 25 none true rfl (by rfl) (by rfl) (by rfl) ?_
            try simp only [Act.put, List.setIfInBounds_toArray, List.set_cons_zero, List.set_cons_succ]
            refine grow_skip 26 none true rfl (by rfl) (by rfl) (by rfl) ?_
            try simp only [Act.put, List.setIfInBounds_toArray, List.set_cons_zero, List.set_cons_succ]
            refine grow_skip 27 none true rfl (by rfl) (by rfl) (by rfl) ?_
            try simp only [Act.put, List.setIfInBounds_toArray, List.set_cons_zero, List.set_cons_succ]
            refine grow_skip 28 (some true) false rfl (by rfl) (by rfl) (by rfl) ?_
            try simp only [Act.put, List.setIfInBounds_toArray, List.set_cons_zero, List.set_cons_succ]
            refine grow_fix 29 ?_ rfl (by rfl) (by rfl) (fun wx hC hD => ?_) ?_
            rotate_left
            · have hSw := Hcells.out wx hC
              go_simp
              all_goals with_reducible rfl
            try simp only [Act.put, List.setIfInBounds_toArray, List.set_cons_zero, List.set_cons_succ]
            refine grow_nil (fun w9 hC hF => ?_)
            have Hbz := Lib.hid (Hba.out.trans (hC.mono Hba.out.size))
            clear hF hC
            go_wp2
            go_ret
            exact ⟨by rw [errR_no Hno.out]; rfl, Hbz.out⟩
          have h1' : 1 ≤ y := by omega
          by_cases h2 : 1099511627776 < y
          · have Hno : Hid (okR l = false) := Lib.hid (Hno0.out (by rw [Hok2.out]; rw [decide_eq_false (show ¬ y ≤ 1099511627776 by omega)]; simp))
            clear Hno0 Hyes0 Hok2
            go_upto_region 4 with (fail)
            generalize hwa : (wr.alloc (.cells #[.string x, .int .i64 y] 62)) = wa at *
            clear hwa
            refine wp_region_grow (specOf [(2, ⟨Unit, fun _ => (.bool true), fun _ _ => True⟩)]) (fun wx => Below (World.heap wa).size wa wx) (fun w1 w2 => Below w1.heap.size w1 w2) (by kernel_rfl) (by kernel_rfl) (stab_cons (fun _ _ _ _ h => h) (stab_nil)) (Below.refl _ _).drew ?_
            refine grow_fix 1 ?_ rfl (by rfl) (by rfl) (fun wx hC hD => ?_) ?_
            rotate_left
            · have hSw := Hcells.out wx hC
              go_simp
              all_goals with_reducible rfl
            try simp only [Act.put, List.setIfInBounds_toArray, List.set_cons_zero, List.set_cons_succ]
            refine grow_fix 2 ?_ rfl (by rfl) (by rfl) (fun wx hC hD => ?_) ?_
            rotate_left
            · have hSw := Hcells.out wx hC
              go_simp
              all_goals with_reducible rfl
            try simp only [Act.put, List.setIfInBounds_toArray, List.set_cons_zero, List.set_cons_succ]
            refine grow_give 3 _ rfl (by rfl) (by rfl) (fun wx hC hD => ?_) (fun x => ?_)
            · refine give_enter (f := ?_) (args := ?_) ?_ ?_
              rotate_left 2
              · have hSw := Hcells.out wx hC
                go_simp
                all_goals first | with_reducible rfl | (refine ⟨?_, ?_⟩ <;> with_reducible rfl)
              exact calls_cst hC (C1.out wx hC)
            obtain ⟨⟩ := x
            try simp only [Act.put, List.setIfInBounds_toArray, List.set_cons_zero, List.set_cons_succ]
            refine grow_fix 4 ?_ rfl (by rfl) (by rfl) (fun wx hC hD => ?_) ?_
            rotate_left
            · have hSw := Hcells.out wx hC
              go_simp
              all_goals with_reducible rfl
            try simp only [Act.put, List.setIfInBounds_toArray, List.set_cons_zero, List.set_cons_succ]
            refine grow_fix 5 ?_ rfl (by rfl) (by rfl) (fun wx hC hD => ?_) ?_
            rotate_left
            · have hSw := Hcells.out wx hC
              go_simp
              all_goals with_reducible rfl
            try simp only [Act.put, List.setIfInBounds_toArray, List.set_cons_zero, List.set_cons_succ]
            refine grow_fix 6 ?_ rfl (by rfl) (by rfl) (fun wx hC hD => ?_) ?_
            rotate_left
            · have hSw := Hcells.out wx hC
              go_simp
              all_goals with_reducible rfl
            try simp only [Act.put, List.setIfInBounds_toArray, List.set_cons_zero, List.set_cons_succ]
            refine grow_fix 7 ?_ rfl (by rfl) (by rfl) (fun wx hC hD => ?_) ?_
            rotate_left
            · have hSw := Hcells.out wx hC
              go_simp
              all_goals with_reducible rfl
            try simp only [Act.put, List.setIfInBounds_toArray, List.set_cons_zero, List.set_cons_succ]
            refine grow_fix 8 ?_ rfl (by rfl) (by rfl) (fun wx hC hD => ?_) ?_
            rotate_left
            · have hSw := Hcells.out wx hC
              go_simp
              all_goals with_reducible rfl
            try simp only [Act.put, List.setIfInBounds_toArray, List.set_cons_zero, List.set_cons_succ]
            refine grow_fix 9 ?_ rfl (by rfl) (by rfl) (fun wx hC hD => ?_) ?_
            rotate_left
            · have hSw := Hcells.out wx hC
              go_simp
              all_goals with_reducible rfl
            try simp only [Act.put, List.setIfInBounds_toArray, List.set_cons_zero, List.set_cons_succ]
            refine grow_fix 10 ?_ rfl (by rfl) (by rfl) (fun wx hC hD => ?_) ?_
            rotate_left
            · have hSw := Hcells.out wx hC
              go_simp
              all_goals with_reducible rfl
            try simp only [Act.put, List.setIfInBounds_toArray, List.set_cons_zero, List.set_cons_succ]
            refine grow_fix 11 ?_ rfl (by rfl) (by rfl) (fun wx hC hD => ?_) ?_
            rotate_left
            · have hSw := Hcells.out wx hC
              go_simp
              all_goals with_reducible rfl
            try simp only [Act.put, List.setIfInBounds_toArray, List.set_cons_zero, List.set_cons_succ]
            refine grow_fix 12 ?_ rfl (by rfl) (by rfl) (fun wx hC hD => ?_) ?_
            rotate_left
            · have hSw := Hcells.out wx hC
              go_simp
              all_goals with_reducible rfl
            try simp only [Act.put, List.setIfInBounds_toArray, List.set_cons_zero, List.set_cons_succ]
            refine grow_fix 13 ?_ rfl (by rfl) (by rfl) (fun wx hC hD => ?_) ?_
            rotate_left
            · have hSw := Hcells.out wx hC
              go_simp
              all_goals with_reducible rfl
            try simp only [Act.put, List.setIfInBounds_toArray, List.set_cons_zero, List.set_cons_succ]
            refine grow_fix 14 ?_ rfl (by rfl) (by rfl) (fun wx hC hD => ?_) ?_
            rotate_left
            · have hSw := Hcells.out wx hC
              go_simp
              all_goals with_reducible rfl
            try simp only [Act.put, List.setIfInBounds_toArray, List.set_cons_zero, List.set_cons_succ]
            refine grow_fix 15 ?_ rfl (by rfl) (by rfl) (fun wx hC hD => ?_) ?_
            rotate_left
            · have hSw := Hcells.out wx hC
              go_simp
              all_goals with_reducible rfl
            try simp only [Act.put, List.setIfInBounds_toArray, List.set_cons_zero, List.set_cons_succ]
            refine grow_skip 16 (some true) false rfl (by rfl) (by rfl) (by rfl) ?_
            try simp only [Act.put, List.setIfInBounds_toArray, List.set_cons_zero, List.set_cons_succ]
            refine grow_skip 17 (some true) false rfl (by rfl) (by rfl) (by rfl) ?_
            try simp only [Act.put, List.setIfInBounds_toArray, List.set_cons_zero, List.set_cons_succ]
            refine grow_skip 18 (some true) false rfl (by rfl) (by rfl) (by rfl) ?_
            try simp only [Act.put, List.setIfInBounds_toArray, List.set_cons_zero, List.set_cons_succ]
            refine grow_skip 19 none true rfl (by rfl) (by rfl) (by rfl) ?_
            try simp only [Act.put, List.setIfInBounds_toArray, List.set_cons_zero, List.set_cons_succ]
            refine grow_skip 20 none true rfl (by rfl) (by rfl) (by rfl) ?_
            try simp only [Act.put, List.setIfInBounds_toArray, List.set_cons_zero, List.set_cons_succ]
            refine grow_skip 21 none true rfl (by rfl) (by rfl) (by rfl) ?_
            try simp only [Act.put, List.setIfInBounds_toArray, List.set_cons_zero, List.set_cons_succ]
            refine grow_skip 22 none true rfl (by rfl) (by rfl) (by rfl) ?_
            try simp only [Act.put, List.setIfInBounds_toArray, List.set_cons_zero, List.set_cons_succ]
            refine grow_skip 23 none true rfl (by rfl) (by rfl) (by rfl) ?_
            try simp only [Act.put, List.setIfInBounds_toArray, List.set_cons_zero, List.set_cons_succ]
            refine grow_skip 24 none true rfl (by rfl) (by rfl) (by rfl) ?_
            try simp only [Act.put, List.setIfInBounds_toArray, List.set_cons_zero, List.set_cons_succ]
            refine grow_skip 25 none true rfl (by rfl) (by rfl) (by rfl) ?_
            try simp only [Act.put, List.setIfInBounds_toArray, List.set_cons_zero, List.set_cons_succ]
            refine grow_skip 26 none true rfl (by rfl) (by rfl) (by rfl) ?_
            try simp only [Act.put, List.setIfInBounds_toArray, List.set_cons_zero, List.set_cons_succ]
            refine grow_skip 27 none true rfl (by rfl) (by rfl) (by rfl) ?_
            try simp only [Act.put, List.setIfInBounds_toArray, List.set_cons_zero, List.set_cons_succ]
            refine grow_skip 28 (some true) false rfl (by rfl) (by rfl) (by rfl) ?_
            try simp only [Act.put, List.setIfInBounds_toArray, List.set_cons_zero, List.set_cons_succ]
            refine grow_fix 29 ?_ rfl (by rfl) (by rfl) (fun wx hC hD => ?_) ?_
            rotate_left
            · have hSw := Hcells.out wx hC
              go_simp
              all_goals with_reducible rfl
            try simp only [Act.put, List.setIfInBounds_toArray, List.set_cons_zero, List.set_cons_succ]
            refine grow_nil (fun w9 hC hF => ?_)
            have Hbz := Lib.hid (Hba.out.trans (hC.mono Hba.out.size))
            clear hF hC
            go_wp2
            go_ret
            exact ⟨by rw [errR_no Hno.out]; rfl, Hbz.out⟩
          have h2' : y ≤ 1099511627776 := by omega
          have Hyes := Lib.hid (Hyes0.out (by rw [Hok2.out]; rw [decide_eq_true h1', decide_eq_true h2']; rfl))
          clear Hno0 Hyes0 Hok2
          go_upto_region 4 with (fail)
          generalize hwa : (wr.alloc (.cells #[.string x, .int .i64 y] 62)) = wa at *
          clear hwa
          refine wp_region_grow (specOf [(2, ⟨Unit, fun _ => (.bool true), fun _ _ => True⟩)]) (fun wx => Below (World.heap wa).size wa wx) (fun w1 w2 => Below w1.heap.size w1 w2) (by kernel_rfl) (by kernel_rfl) (stab_cons (fun _ _ _ _ h => h) (stab_nil)) (Below.refl _ _).drew ?_
          refine grow_fix 1 ?_ rfl (by rfl) (by rfl) (fun wx hC hD => ?_) ?_
          rotate_left
          · have hSw := Hcells.out wx hC
            go_simp
            all_goals with_reducible rfl
          try simp only [Act.put, List.setIfInBounds_toArray, List.set_cons_zero, List.set_cons_succ]
          refine grow_fix 2 ?_ rfl (by rfl) (by rfl) (fun wx hC hD => ?_) ?_
          rotate_left
          · have hSw := Hcells.out wx hC
            go_simp
            all_goals with_reducible rfl
          try simp only [Act.put, List.setIfInBounds_toArray, List.set_cons_zero, List.set_cons_succ]
          refine grow_give 3 _ rfl (by rfl) (by rfl) (fun wx hC hD => ?_) (fun x => ?_)
          · refine give_enter (f := ?_) (args := ?_) ?_ ?_
            rotate_left 2
            · have hSw := Hcells.out wx hC
              go_simp
              all_goals first | with_reducible rfl | (refine ⟨?_, ?_⟩ <;> with_reducible rfl)
            exact calls_cst hC (C1.out wx hC)
          obtain ⟨⟩ := x
          try simp only [Act.put, List.setIfInBounds_toArray, List.set_cons_zero, List.set_cons_succ]
          refine grow_fix 4 ?_ rfl (by rfl) (by rfl) (fun wx hC hD => ?_) ?_
          rotate_left
          · have hSw := Hcells.out wx hC
            go_simp
            all_goals with_reducible rfl
          try simp only [Act.put, List.setIfInBounds_toArray, List.set_cons_zero, List.set_cons_succ]
          refine grow_fix 5 ?_ rfl (by rfl) (by rfl) (fun wx hC hD => ?_) ?_
          rotate_left
          · have hSw := Hcells.out wx hC
            go_simp
            all_goals with_reducible rfl
          try simp only [Act.put, List.setIfInBounds_toArray, List.set_cons_zero, List.set_cons_succ]
          refine grow_fix 6 ?_ rfl (by rfl) (by rfl) (fun wx hC hD => ?_) ?_
          rotate_left
          · have hSw := Hcells.out wx hC
            go_simp
            all_goals with_reducible rfl
          try simp only [Act.put, List.setIfInBounds_toArray, List.set_cons_zero, List.set_cons_succ]
          refine grow_fix 7 ?_ rfl (by rfl) (by rfl) (fun wx hC hD => ?_) ?_
          rotate_left
          · have hSw := Hcells.out wx hC
            go_simp
            all_goals with_reducible rfl
          try simp only [Act.put, List.setIfInBounds_toArray, List.set_cons_zero, List.set_cons_succ]
          refine grow_fix 8 ?_ rfl (by rfl) (by rfl) (fun wx hC hD => ?_) ?_
          rotate_left
          · have hSw := Hcells.out wx hC
            go_simp
            all_goals with_reducible rfl
          try simp only [Act.put, List.setIfInBounds_toArray, List.set_cons_zero, List.set_cons_succ]
          refine grow_fix 9 ?_ rfl (by rfl) (by rfl) (fun wx hC hD => ?_) ?_
          rotate_left
          · have hSw := Hcells.out wx hC
            go_simp
            all_goals with_reducible rfl
          try simp only [Act.put, List.setIfInBounds_toArray, List.set_cons_zero, List.set_cons_succ]
          refine grow_fix 10 ?_ rfl (by rfl) (by rfl) (fun wx hC hD => ?_) ?_
          rotate_left
          · have hSw := Hcells.out wx hC
            go_simp
            all_goals with_reducible rfl
          try simp only [Act.put, List.setIfInBounds_toArray, List.set_cons_zero, List.set_cons_succ]
          refine grow_fix 11 ?_ rfl (by rfl) (by rfl) (fun wx hC hD => ?_) ?_
          rotate_left
          · have hSw := Hcells.out wx hC
            go_simp
            all_goals with_reducible rfl
          try simp only [Act.put, List.setIfInBounds_toArray, List.set_cons_zero, List.set_cons_succ]
          refine grow_fix 12 ?_ rfl (by rfl) (by rfl) (fun wx hC hD => ?_) ?_
          rotate_left
          · have hSw := Hcells.out wx hC
            go_simp
            all_goals with_reducible rfl
          try simp only [Act.put, List.setIfInBounds_toArray, List.set_cons_zero, List.set_cons_succ]
          refine grow_fix 13 ?_ rfl (by rfl) (by rfl) (fun wx hC hD => ?_) ?_
          rotate_left
          · have hSw := Hcells.out wx hC
            go_simp
            all_goals with_reducible rfl
          try simp only [Act.put, List.setIfInBounds_toArray, List.set_cons_zero, List.set_cons_succ]
          refine grow_fix 14 ?_ rfl (by rfl) (by rfl) (fun wx hC hD => ?_) ?_
          rotate_left
          · have hSw := Hcells.out wx hC
            go_simp
            all_goals with_reducible rfl
          try simp only [Act.put, List.setIfInBounds_toArray, List.set_cons_zero, List.set_cons_succ]
          refine grow_fix 15 ?_ rfl (by rfl) (by rfl) (fun wx hC hD => ?_) ?_
          rotate_left
          · have hSw := Hcells.out wx hC
            go_simp
            all_goals with_reducible rfl
          try simp only [Act.put, List.setIfInBounds_toArray, List.set_cons_zero, List.set_cons_succ]
          refine grow_fix 16 ?_ rfl (by rfl) (by rfl) (fun wx hC hD => ?_) ?_
          rotate_left
          · have hSw := Hcells.out wx hC
            go_simp
            all_goals with_reducible rfl
          try simp only [Act.put, List.setIfInBounds_toArray, List.set_cons_zero, List.set_cons_succ]
          refine grow_fix 17 ?_ rfl (by rfl) (by rfl) (fun wx hC hD => ?_) ?_
          rotate_left
          · have hSw := Hcells.out wx hC
            go_simp
            all_goals with_reducible rfl
          try simp only [Act.put, List.setIfInBounds_toArray, List.set_cons_zero, List.set_cons_succ]
          refine grow_fix 18 ?_ rfl (by rfl) (by rfl) (fun wx hC hD => ?_) ?_
          rotate_left
          · have hSw := Hcells.out wx hC
            go_simp
            all_goals with_reducible rfl
          try simp only [Act.put, List.setIfInBounds_toArray, List.set_cons_zero, List.set_cons_succ]
          refine grow_skip 19 (some false) true rfl (by rfl) (by rfl) (by rfl) ?_
          try simp only [Act.put, List.setIfInBounds_toArray, List.set_cons_zero, List.set_cons_succ]
          refine grow_skip 20 (some false) true rfl (by rfl) (by rfl) (by rfl) ?_
          try simp only [Act.put, List.setIfInBounds_toArray, List.set_cons_zero, List.set_cons_succ]
          refine grow_skip 21 (some false) true rfl (by rfl) (by rfl) (by rfl) ?_
          try simp only [Act.put, List.setIfInBounds_toArray, List.set_cons_zero, List.set_cons_succ]
          refine grow_skip 22 (some false) true rfl (by rfl) (by rfl) (by rfl) ?_
          try simp only [Act.put, List.setIfInBounds_toArray, List.set_cons_zero, List.set_cons_succ]
          refine grow_skip 23 (some false) true rfl (by rfl) (by rfl) (by rfl) ?_
          try simp only [Act.put, List.setIfInBounds_toArray, List.set_cons_zero, List.set_cons_succ]
          refine grow_skip 24 (some false) true rfl (by rfl) (by rfl) (by rfl) ?_
          try simp only [Act.put, List.setIfInBounds_toArray, List.set_cons_zero, List.set_cons_succ]
          refine grow_skip 25 (some false) true rfl (by rfl) (by rfl) (by rfl) ?_
          try simp only [Act.put, List.setIfInBounds_toArray, List.set_cons_zero, List.set_cons_succ]
          refine grow_skip 26 (some false) true rfl (by rfl) (by rfl) (by rfl) ?_
          try simp only [Act.put, List.setIfInBounds_toArray, List.set_cons_zero, List.set_cons_succ]
          refine grow_skip 27 (some false) true rfl (by rfl) (by rfl) (by rfl) ?_
          try simp only [Act.put, List.setIfInBounds_toArray, List.set_cons_zero, List.set_cons_succ]
          refine grow_fix 28 ?_ rfl (by rfl) (by rfl) (fun wx hC hD => ?_) ?_
          rotate_left
          · have hSw := Hcells.out wx hC
            go_simp
            all_goals with_reducible rfl
          try simp only [Act.put, List.setIfInBounds_toArray, List.set_cons_zero, List.set_cons_succ]
          refine grow_fix 29 ?_ rfl (by rfl) (by rfl) (fun wx hC hD => ?_) ?_
          rotate_left
          · have hSw := Hcells.out wx hC
            go_simp
            all_goals with_reducible rfl
          try simp only [Act.put, List.setIfInBounds_toArray, List.set_cons_zero, List.set_cons_succ]
          refine grow_nil (fun w9 hC hF => ?_)
          have Hbz := Lib.hid (Hba.out.trans (hC.mono Hba.out.size))
          clear hF hC
          go_wp2
          go_roundw
          case rel => exact ⟨k + 1, by omega, by go_num, Hyes, Hbz.out⟩
          case measure => simp [intOf]; omega
      · obtain ⟨j, hjk⟩ : ∃ j, j + 1 = k := ⟨k - 1, by omega⟩
        have hjl : j < l.length := by omega
        have hok2 : okK l k = (isW l[k].1.data.toList && decide (1 ≤ l[k].2) && decide (l[k].2 ≤ 1099511627776) && ltS l[j].1 l[k].1) := by rw [hok, decide_eq_false hk0]; subst hjk; simp
        obtain ⟨tb', tq', e0, _, hp1, _⟩ := cts_at HR.out hjl
        injection e0 with e0; injection e0 with e1 e2; subst e1 e2
        have hp := (hb.cell (p := ⟨tb, tq + j * 2, none⟩) htb).trans hp1
        have hsp := Hs.out _ (List.getElem_mem hjl)
        have hwk : IntKind.i64.wrap ((k : Int) - 1) = (j : Int) := by rw [IntWalk.i64_in _ (by omega)]; omega
        have hj0 : (0 : Int) ≤ (j : Int) := by omega
        have hjn : (j : Int) < (n : Int) := by omega
        have hjp : (0 : Int) < (k : Int) := by omega
        have hjp2 : 0 < k := by omega
        have hbl : Op.bytesLess l[j].1.toList l[k].1.toList = ltS l[j].1 l[k].1 := rfl
        generalize ltS l[j].1 l[k].1 = r at *
        generalize l[j].1 = p at *
        have c1 := fun wx => isWord_anyB l[k].1 wx (by omega)
        generalize isW l[k].1.data.toList = tw at *
        generalize l[k].1 = x at *
        generalize l[k].2 = y at *
        have htr : tb < wr.heap.size := by have := hb.size; omega
        have hbA : Below wr.heap.size wr (wr.alloc (.cells #[.string x, .int .i64 y] 62)) := (Below.refl _ _).alloc (Nat.le_refl _) _
        have hBk := Blk.new wr 62 #[.string x, .int .i64 y]
        have hzA : wr.heap.size < (wr.alloc (.cells #[.string x, .int .i64 y] 62)).heap.size := by simp
        have hcells : ∀ wx, Below (wr.alloc (.cells #[.string x, .int .i64 y] 62)).heap.size (wr.alloc (.cells #[.string x, .int .i64 y] 62)) wx → wx.cell? ⟨tb, tq + k * 2, none⟩ = some (.string x) ∧ wx.cell? ⟨tb, tq + k * 2 + 1, none⟩ = some (.int .i64 y) ∧ wx.cell? ⟨tb, tq + j * 2, none⟩ = some (.string p) ∧ wx.cell? ⟨wr.heap.size, 0, none⟩ = some (.string x) ∧ wx.cell? ⟨wr.heap.size, 1, none⟩ = some (.int .i64 y) := fun wx hD =>
          have hC := hbA.trans (hD.mono hbA.size)
          have hB2 := hBk.below hD hzA
          ⟨(hC.cell (p := ⟨tb, tq + k * 2, none⟩) htr).trans hc1, (hC.cell (p := ⟨tb, tq + k * 2 + 1, none⟩) htr).trans hc2, (hC.cell (p := ⟨tb, tq + j * 2, none⟩) htr).trans hp, hB2.cell 0, hB2.cell 1⟩
        have Hba := Lib.hid (hb.trans (hbA.mono hb.size))
        have Hcells := Lib.hid hcells
        have C1 := Lib.hid (fun wx (_ : Below (wr.alloc (.cells #[.string x, .int .i64 y] 62)).heap.size (wr.alloc (.cells #[.string x, .int .i64 y] 62)) wx) => c1 wx)
        have Hno0 := Lib.hid hno
        have Hyes0 := Lib.hid hyes
        have Hok2 := Lib.hid hok2
        clear hk0 hd1 hd2 hno hyes hok hok2 c1 hS hb hlt hk hbA hBk hcells hp1
        cases tw with
        | false =>
          have Hno : Hid (okR l = false) := Lib.hid (Hno0.out (by rw [Hok2.out]; rfl))
          clear Hno0 Hyes0 Hok2
          go_upto_region 4 with (fail)
          generalize hwa : (wr.alloc (.cells #[.string x, .int .i64 y] 62)) = wa at *
          clear hwa
          refine wp_region_grow (specOf [(2, ⟨Unit, fun _ => (.bool false), fun _ _ => True⟩)]) (fun wx => Below (World.heap wa).size wa wx) (fun w1 w2 => Below w1.heap.size w1 w2) (by kernel_rfl) (by kernel_rfl) (stab_cons (fun _ _ _ _ h => h) (stab_nil)) (Below.refl _ _).drew ?_
          refine grow_fix 1 ?_ rfl (by rfl) (by rfl) (fun wx hC hD => ?_) ?_
          rotate_left
          · have hSw := Hcells.out wx hC
            go_simp
            all_goals with_reducible rfl
          try simp only [Act.put, List.setIfInBounds_toArray, List.set_cons_zero, List.set_cons_succ]
          refine grow_fix 2 ?_ rfl (by rfl) (by rfl) (fun wx hC hD => ?_) ?_
          rotate_left
          · have hSw := Hcells.out wx hC
            go_simp
            all_goals with_reducible rfl
          try simp only [Act.put, List.setIfInBounds_toArray, List.set_cons_zero, List.set_cons_succ]
          refine grow_give 3 _ rfl (by rfl) (by rfl) (fun wx hC hD => ?_) (fun x => ?_)
          · refine give_enter (f := ?_) (args := ?_) ?_ ?_
            rotate_left 2
            · have hSw := Hcells.out wx hC
              go_simp
              all_goals first | with_reducible rfl | (refine ⟨?_, ?_⟩ <;> with_reducible rfl)
            exact calls_cst hC (C1.out wx hC)
          obtain ⟨⟩ := x
          try simp only [Act.put, List.setIfInBounds_toArray, List.set_cons_zero, List.set_cons_succ]
          refine grow_fix 4 ?_ rfl (by rfl) (by rfl) (fun wx hC hD => ?_) ?_
          rotate_left
          · have hSw := Hcells.out wx hC
            go_simp
            all_goals with_reducible rfl
          try simp only [Act.put, List.setIfInBounds_toArray, List.set_cons_zero, List.set_cons_succ]
          refine grow_fix 5 ?_ rfl (by rfl) (by rfl) (fun wx hC hD => ?_) ?_
          rotate_left
          · have hSw := Hcells.out wx hC
            go_simp
            all_goals with_reducible rfl
          try simp only [Act.put, List.setIfInBounds_toArray, List.set_cons_zero, List.set_cons_succ]
          refine grow_skip 6 (some true) false rfl (by rfl) (by rfl) (by rfl) ?_
          try simp only [Act.put, List.setIfInBounds_toArray, List.set_cons_zero, List.set_cons_succ]
          refine grow_skip 7 (some true) false rfl (by rfl) (by rfl) (by rfl) ?_
          try simp only [Act.put, List.setIfInBounds_toArray, List.set_cons_zero, List.set_cons_succ]
          refine grow_skip 8 (some true) false rfl (by rfl) (by rfl) (by rfl) ?_
          try simp only [Act.put, List.setIfInBounds_toArray, List.set_cons_zero, List.set_cons_succ]
          refine grow_fix 9 ?_ rfl (by rfl) (by rfl) (fun wx hC hD => ?_) ?_
          rotate_left
          · have hSw := Hcells.out wx hC
            go_simp
            all_goals with_reducible rfl
          try simp only [Act.put, List.setIfInBounds_toArray, List.set_cons_zero, List.set_cons_succ]
          refine grow_fix 10 ?_ rfl (by rfl) (by rfl) (fun wx hC hD => ?_) ?_
          rotate_left
          · have hSw := Hcells.out wx hC
            go_simp
            all_goals with_reducible rfl
          try simp only [Act.put, List.setIfInBounds_toArray, List.set_cons_zero, List.set_cons_succ]
          refine grow_skip 11 (some true) false rfl (by rfl) (by rfl) (by rfl) ?_
          try simp only [Act.put, List.setIfInBounds_toArray, List.set_cons_zero, List.set_cons_succ]
          refine grow_skip 12 (some true) false rfl (by rfl) (by rfl) (by rfl) ?_
          try simp only [Act.put, List.setIfInBounds_toArray, List.set_cons_zero, List.set_cons_succ]
          refine grow_skip 13 (some true) false rfl (by rfl) (by rfl) (by rfl) ?_
          try simp only [Act.put, List.setIfInBounds_toArray, List.set_cons_zero, List.set_cons_succ]
          refine grow_fix 14 ?_ rfl (by rfl) (by rfl) (fun wx hC hD => ?_) ?_
          rotate_left
          · have hSw := Hcells.out wx hC
            go_simp
            all_goals with_reducible rfl
          try simp only [Act.put, List.setIfInBounds_toArray, List.set_cons_zero, List.set_cons_succ]
          refine grow_fix 15 ?_ rfl (by rfl) (by rfl) (fun wx hC hD => ?_) ?_
          rotate_left
          · have hSw := Hcells.out wx hC
            go_simp
            all_goals with_reducible rfl
          try simp only [Act.put, List.setIfInBounds_toArray, List.set_cons_zero, List.set_cons_succ]
          refine grow_skip 16 (some true) false rfl (by rfl) (by rfl) (by rfl) ?_
          try simp only [Act.put, List.setIfInBounds_toArray, List.set_cons_zero, List.set_cons_succ]
          refine grow_skip 17 (some true) false rfl (by rfl) (by rfl) (by rfl) ?_
          try simp only [Act.put, List.setIfInBounds_toArray, List.set_cons_zero, List.set_cons_succ]
          refine grow_skip 18 (some true) false rfl (by rfl) (by rfl) (by rfl) ?_
          try simp only [Act.put, List.setIfInBounds_toArray, List.set_cons_zero, List.set_cons_succ]
          refine grow_skip 19 none true rfl (by rfl) (by rfl) (by rfl) ?_
          try simp only [Act.put, List.setIfInBounds_toArray, List.set_cons_zero, List.set_cons_succ]
          refine grow_skip 20 none true rfl (by rfl) (by rfl) (by rfl) ?_
          try simp only [Act.put, List.setIfInBounds_toArray, List.set_cons_zero, List.set_cons_succ]
          refine grow_skip 21 none true rfl (by rfl) (by rfl) (by rfl) ?_
          try simp only [Act.put, List.setIfInBounds_toArray, List.set_cons_zero, List.set_cons_succ]
          refine grow_skip 22 none true rfl (by rfl) (by rfl) (by rfl) ?_
          try simp only [Act.put, List.setIfInBounds_toArray, List.set_cons_zero, List.set_cons_succ]
          refine grow_skip 23 none true rfl (by rfl) (by rfl) (by rfl) ?_
          try simp only [Act.put, List.setIfInBounds_toArray, List.set_cons_zero, List.set_cons_succ]
          refine grow_skip 24 none true rfl (by rfl) (by rfl) (by rfl) ?_
          try simp only [Act.put, List.setIfInBounds_toArray, List.set_cons_zero, List.set_cons_succ]
          refine grow_skip 25 none true rfl (by rfl) (by rfl) (by rfl) ?_
          try simp only [Act.put, List.setIfInBounds_toArray, List.set_cons_zero, List.set_cons_succ]
          refine grow_skip 26 none true rfl (by rfl) (by rfl) (by rfl) ?_
          try simp only [Act.put, List.setIfInBounds_toArray, List.set_cons_zero, List.set_cons_succ]
          refine grow_skip 27 none true rfl (by rfl) (by rfl) (by rfl) ?_
          try simp only [Act.put, List.setIfInBounds_toArray, List.set_cons_zero, List.set_cons_succ]
          refine grow_skip 28 (some true) false rfl (by rfl) (by rfl) (by rfl) ?_
          try simp only [Act.put, List.setIfInBounds_toArray, List.set_cons_zero, List.set_cons_succ]
          refine grow_fix 29 ?_ rfl (by rfl) (by rfl) (fun wx hC hD => ?_) ?_
          rotate_left
          · have hSw := Hcells.out wx hC
            go_simp
            all_goals with_reducible rfl
          try simp only [Act.put, List.setIfInBounds_toArray, List.set_cons_zero, List.set_cons_succ]
          refine grow_nil (fun w9 hC hF => ?_)
          have Hbz := Lib.hid (Hba.out.trans (hC.mono Hba.out.size))
          clear hF hC
          go_wp2
          go_ret
          exact ⟨by rw [errR_no Hno.out]; rfl, Hbz.out⟩
        | true =>
          by_cases h1 : y < 1
          · have Hno : Hid (okR l = false) := Lib.hid (Hno0.out (by rw [Hok2.out]; rw [decide_eq_false (show ¬ 1 ≤ y by omega)]; simp))
            clear Hno0 Hyes0 Hok2
            go_upto_region 4 with (fail)
            generalize hwa : (wr.alloc (.cells #[.string x, .int .i64 y] 62)) = wa at *
            clear hwa
            refine wp_region_grow (specOf [(2, ⟨Unit, fun _ => (.bool true), fun _ _ => True⟩)]) (fun wx => Below (World.heap wa).size wa wx) (fun w1 w2 => Below w1.heap.size w1 w2) (by kernel_rfl) (by kernel_rfl) (stab_cons (fun _ _ _ _ h => h) (stab_nil)) (Below.refl _ _).drew ?_
            refine grow_fix 1 ?_ rfl (by rfl) (by rfl) (fun wx hC hD => ?_) ?_
            rotate_left
            · have hSw := Hcells.out wx hC
              go_simp
              all_goals with_reducible rfl
            try simp only [Act.put, List.setIfInBounds_toArray, List.set_cons_zero, List.set_cons_succ]
            refine grow_fix 2 ?_ rfl (by rfl) (by rfl) (fun wx hC hD => ?_) ?_
            rotate_left
            · have hSw := Hcells.out wx hC
              go_simp
              all_goals with_reducible rfl
            try simp only [Act.put, List.setIfInBounds_toArray, List.set_cons_zero, List.set_cons_succ]
            refine grow_give 3 _ rfl (by rfl) (by rfl) (fun wx hC hD => ?_) (fun x => ?_)
            · refine give_enter (f := ?_) (args := ?_) ?_ ?_
              rotate_left 2
              · have hSw := Hcells.out wx hC
                go_simp
                all_goals first | with_reducible rfl | (refine ⟨?_, ?_⟩ <;> with_reducible rfl)
              exact calls_cst hC (C1.out wx hC)
            obtain ⟨⟩ := x
            try simp only [Act.put, List.setIfInBounds_toArray, List.set_cons_zero, List.set_cons_succ]
            refine grow_fix 4 ?_ rfl (by rfl) (by rfl) (fun wx hC hD => ?_) ?_
            rotate_left
            · have hSw := Hcells.out wx hC
              go_simp
              all_goals with_reducible rfl
            try simp only [Act.put, List.setIfInBounds_toArray, List.set_cons_zero, List.set_cons_succ]
            refine grow_fix 5 ?_ rfl (by rfl) (by rfl) (fun wx hC hD => ?_) ?_
            rotate_left
            · have hSw := Hcells.out wx hC
              go_simp
              all_goals with_reducible rfl
            try simp only [Act.put, List.setIfInBounds_toArray, List.set_cons_zero, List.set_cons_succ]
            refine grow_fix 6 ?_ rfl (by rfl) (by rfl) (fun wx hC hD => ?_) ?_
            rotate_left
            · have hSw := Hcells.out wx hC
              go_simp
              all_goals with_reducible rfl
            try simp only [Act.put, List.setIfInBounds_toArray, List.set_cons_zero, List.set_cons_succ]
            refine grow_fix 7 ?_ rfl (by rfl) (by rfl) (fun wx hC hD => ?_) ?_
            rotate_left
            · have hSw := Hcells.out wx hC
              go_simp
              all_goals with_reducible rfl
            try simp only [Act.put, List.setIfInBounds_toArray, List.set_cons_zero, List.set_cons_succ]
            refine grow_fix 8 ?_ rfl (by rfl) (by rfl) (fun wx hC hD => ?_) ?_
            rotate_left
            · have hSw := Hcells.out wx hC
              go_simp
              all_goals with_reducible rfl
            try simp only [Act.put, List.setIfInBounds_toArray, List.set_cons_zero, List.set_cons_succ]
            refine grow_fix 9 ?_ rfl (by rfl) (by rfl) (fun wx hC hD => ?_) ?_
            rotate_left
            · have hSw := Hcells.out wx hC
              go_simp
              all_goals with_reducible rfl
            try simp only [Act.put, List.setIfInBounds_toArray, List.set_cons_zero, List.set_cons_succ]
            refine grow_fix 10 ?_ rfl (by rfl) (by rfl) (fun wx hC hD => ?_) ?_
            rotate_left
            · have hSw := Hcells.out wx hC
              go_simp
              all_goals with_reducible rfl
            try simp only [Act.put, List.setIfInBounds_toArray, List.set_cons_zero, List.set_cons_succ]
            refine grow_skip 11 (some true) false rfl (by rfl) (by rfl) (by rfl) ?_
            try simp only [Act.put, List.setIfInBounds_toArray, List.set_cons_zero, List.set_cons_succ]
            refine grow_skip 12 (some true) false rfl (by rfl) (by rfl) (by rfl) ?_
            try simp only [Act.put, List.setIfInBounds_toArray, List.set_cons_zero, List.set_cons_succ]
            refine grow_skip 13 (some true) false rfl (by rfl) (by rfl) (by rfl) ?_
            try simp only [Act.put, List.setIfInBounds_toArray, List.set_cons_zero, List.set_cons_succ]
            refine grow_fix 14 ?_ rfl (by rfl) (by rfl) (fun wx hC hD => ?_) ?_
            rotate_left
            · have hSw := Hcells.out wx hC
              go_simp
              all_goals with_reducible rfl
            try simp only [Act.put, List.setIfInBounds_toArray, List.set_cons_zero, List.set_cons_succ]
            refine grow_fix 15 ?_ rfl (by rfl) (by rfl) (fun wx hC hD => ?_) ?_
            rotate_left
            · have hSw := Hcells.out wx hC
              go_simp
              all_goals with_reducible rfl
            try simp only [Act.put, List.setIfInBounds_toArray, List.set_cons_zero, List.set_cons_succ]
            refine grow_skip 16 (some true) false rfl (by rfl) (by rfl) (by rfl) ?_
            try simp only [Act.put, List.setIfInBounds_toArray, List.set_cons_zero, List.set_cons_succ]
            refine grow_skip 17 (some true) false rfl (by rfl) (by rfl) (by rfl) ?_
            try simp only [Act.put, List.setIfInBounds_toArray, List.set_cons_zero, List.set_cons_succ]
            refine grow_skip 18 (some true) false rfl (by rfl) (by rfl) (by rfl) ?_
            try simp only [Act.put, List.setIfInBounds_toArray, List.set_cons_zero, List.set_cons_succ]
            refine grow_skip 19 none true rfl (by rfl) (by rfl) (by rfl) ?_
            try simp only [Act.put, List.setIfInBounds_toArray, List.set_cons_zero, List.set_cons_succ]
            refine grow_skip 20 none true rfl (by rfl) (by rfl) (by rfl) ?_
            try simp only [Act.put, List.setIfInBounds_toArray, List.set_cons_zero, List.set_cons_succ]
            refine grow_skip 21 none true rfl (by rfl) (by rfl) (by rfl) ?_
            try simp only [Act.put, List.setIfInBounds_toArray, List.set_cons_zero, List.set_cons_succ]
            refine grow_skip 22 none true rfl (by rfl) (by rfl) (by rfl) ?_
            try simp only [Act.put, List.setIfInBounds_toArray, List.set_cons_zero, List.set_cons_succ]
            refine grow_skip 23 none true rfl (by rfl) (by rfl) (by rfl) ?_
            try simp only [Act.put, List.setIfInBounds_toArray, List.set_cons_zero, List.set_cons_succ]
            refine grow_skip 24 none true rfl (by rfl) (by rfl) (by rfl) ?_
            try simp only [Act.put, List.setIfInBounds_toArray, List.set_cons_zero, List.set_cons_succ]
            refine grow_skip 25 none true rfl (by rfl) (by rfl) (by rfl) ?_
            try simp only [Act.put, List.setIfInBounds_toArray, List.set_cons_zero, List.set_cons_succ]
            refine grow_skip 26 none true rfl (by rfl) (by rfl) (by rfl) ?_
            try simp only [Act.put, List.setIfInBounds_toArray, List.set_cons_zero, List.set_cons_succ]
            refine grow_skip 27 none true rfl (by rfl) (by rfl) (by rfl) ?_
            try simp only [Act.put, List.setIfInBounds_toArray, List.set_cons_zero, List.set_cons_succ]
            refine grow_skip 28 (some true) false rfl (by rfl) (by rfl) (by rfl) ?_
            try simp only [Act.put, List.setIfInBounds_toArray, List.set_cons_zero, List.set_cons_succ]
            refine grow_fix 29 ?_ rfl (by rfl) (by rfl) (fun wx hC hD => ?_) ?_
            rotate_left
            · have hSw := Hcells.out wx hC
              go_simp
              all_goals with_reducible rfl
            try simp only [Act.put, List.setIfInBounds_toArray, List.set_cons_zero, List.set_cons_succ]
            refine grow_nil (fun w9 hC hF => ?_)
            have Hbz := Lib.hid (Hba.out.trans (hC.mono Hba.out.size))
            clear hF hC
            go_wp2
            go_ret
            exact ⟨by rw [errR_no Hno.out]; rfl, Hbz.out⟩
          have h1' : 1 ≤ y := by omega
          by_cases h2 : 1099511627776 < y
          · have Hno : Hid (okR l = false) := Lib.hid (Hno0.out (by rw [Hok2.out]; rw [decide_eq_false (show ¬ y ≤ 1099511627776 by omega)]; simp))
            clear Hno0 Hyes0 Hok2
            go_upto_region 4 with (fail)
            generalize hwa : (wr.alloc (.cells #[.string x, .int .i64 y] 62)) = wa at *
            clear hwa
            refine wp_region_grow (specOf [(2, ⟨Unit, fun _ => (.bool true), fun _ _ => True⟩)]) (fun wx => Below (World.heap wa).size wa wx) (fun w1 w2 => Below w1.heap.size w1 w2) (by kernel_rfl) (by kernel_rfl) (stab_cons (fun _ _ _ _ h => h) (stab_nil)) (Below.refl _ _).drew ?_
            refine grow_fix 1 ?_ rfl (by rfl) (by rfl) (fun wx hC hD => ?_) ?_
            rotate_left
            · have hSw := Hcells.out wx hC
              go_simp
              all_goals with_reducible rfl
            try simp only [Act.put, List.setIfInBounds_toArray, List.set_cons_zero, List.set_cons_succ]
            refine grow_fix 2 ?_ rfl (by rfl) (by rfl) (fun wx hC hD => ?_) ?_
            rotate_left
            · have hSw := Hcells.out wx hC
              go_simp
              all_goals with_reducible rfl
            try simp only [Act.put, List.setIfInBounds_toArray, List.set_cons_zero, List.set_cons_succ]
            refine grow_give 3 _ rfl (by rfl) (by rfl) (fun wx hC hD => ?_) (fun x => ?_)
            · refine give_enter (f := ?_) (args := ?_) ?_ ?_
              rotate_left 2
              · have hSw := Hcells.out wx hC
                go_simp
                all_goals first | with_reducible rfl | (refine ⟨?_, ?_⟩ <;> with_reducible rfl)
              exact calls_cst hC (C1.out wx hC)
            obtain ⟨⟩ := x
            try simp only [Act.put, List.setIfInBounds_toArray, List.set_cons_zero, List.set_cons_succ]
            refine grow_fix 4 ?_ rfl (by rfl) (by rfl) (fun wx hC hD => ?_) ?_
            rotate_left
            · have hSw := Hcells.out wx hC
              go_simp
              all_goals with_reducible rfl
            try simp only [Act.put, List.setIfInBounds_toArray, List.set_cons_zero, List.set_cons_succ]
            refine grow_fix 5 ?_ rfl (by rfl) (by rfl) (fun wx hC hD => ?_) ?_
            rotate_left
            · have hSw := Hcells.out wx hC
              go_simp
              all_goals with_reducible rfl
            try simp only [Act.put, List.setIfInBounds_toArray, List.set_cons_zero, List.set_cons_succ]
            refine grow_fix 6 ?_ rfl (by rfl) (by rfl) (fun wx hC hD => ?_) ?_
            rotate_left
            · have hSw := Hcells.out wx hC
              go_simp
              all_goals with_reducible rfl
            try simp only [Act.put, List.setIfInBounds_toArray, List.set_cons_zero, List.set_cons_succ]
            refine grow_fix 7 ?_ rfl (by rfl) (by rfl) (fun wx hC hD => ?_) ?_
            rotate_left
            · have hSw := Hcells.out wx hC
              go_simp
              all_goals with_reducible rfl
            try simp only [Act.put, List.setIfInBounds_toArray, List.set_cons_zero, List.set_cons_succ]
            refine grow_fix 8 ?_ rfl (by rfl) (by rfl) (fun wx hC hD => ?_) ?_
            rotate_left
            · have hSw := Hcells.out wx hC
              go_simp
              all_goals with_reducible rfl
            try simp only [Act.put, List.setIfInBounds_toArray, List.set_cons_zero, List.set_cons_succ]
            refine grow_fix 9 ?_ rfl (by rfl) (by rfl) (fun wx hC hD => ?_) ?_
            rotate_left
            · have hSw := Hcells.out wx hC
              go_simp
              all_goals with_reducible rfl
            try simp only [Act.put, List.setIfInBounds_toArray, List.set_cons_zero, List.set_cons_succ]
            refine grow_fix 10 ?_ rfl (by rfl) (by rfl) (fun wx hC hD => ?_) ?_
            rotate_left
            · have hSw := Hcells.out wx hC
              go_simp
              all_goals with_reducible rfl
            try simp only [Act.put, List.setIfInBounds_toArray, List.set_cons_zero, List.set_cons_succ]
            refine grow_fix 11 ?_ rfl (by rfl) (by rfl) (fun wx hC hD => ?_) ?_
            rotate_left
            · have hSw := Hcells.out wx hC
              go_simp
              all_goals with_reducible rfl
            try simp only [Act.put, List.setIfInBounds_toArray, List.set_cons_zero, List.set_cons_succ]
            refine grow_fix 12 ?_ rfl (by rfl) (by rfl) (fun wx hC hD => ?_) ?_
            rotate_left
            · have hSw := Hcells.out wx hC
              go_simp
              all_goals with_reducible rfl
            try simp only [Act.put, List.setIfInBounds_toArray, List.set_cons_zero, List.set_cons_succ]
            refine grow_fix 13 ?_ rfl (by rfl) (by rfl) (fun wx hC hD => ?_) ?_
            rotate_left
            · have hSw := Hcells.out wx hC
              go_simp
              all_goals with_reducible rfl
            try simp only [Act.put, List.setIfInBounds_toArray, List.set_cons_zero, List.set_cons_succ]
            refine grow_fix 14 ?_ rfl (by rfl) (by rfl) (fun wx hC hD => ?_) ?_
            rotate_left
            · have hSw := Hcells.out wx hC
              go_simp
              all_goals with_reducible rfl
            try simp only [Act.put, List.setIfInBounds_toArray, List.set_cons_zero, List.set_cons_succ]
            refine grow_fix 15 ?_ rfl (by rfl) (by rfl) (fun wx hC hD => ?_) ?_
            rotate_left
            · have hSw := Hcells.out wx hC
              go_simp
              all_goals with_reducible rfl
            try simp only [Act.put, List.setIfInBounds_toArray, List.set_cons_zero, List.set_cons_succ]
            refine grow_skip 16 (some true) false rfl (by rfl) (by rfl) (by rfl) ?_
            try simp only [Act.put, List.setIfInBounds_toArray, List.set_cons_zero, List.set_cons_succ]
            refine grow_skip 17 (some true) false rfl (by rfl) (by rfl) (by rfl) ?_
            try simp only [Act.put, List.setIfInBounds_toArray, List.set_cons_zero, List.set_cons_succ]
            refine grow_skip 18 (some true) false rfl (by rfl) (by rfl) (by rfl) ?_
            try simp only [Act.put, List.setIfInBounds_toArray, List.set_cons_zero, List.set_cons_succ]
            refine grow_skip 19 none true rfl (by rfl) (by rfl) (by rfl) ?_
            try simp only [Act.put, List.setIfInBounds_toArray, List.set_cons_zero, List.set_cons_succ]
            refine grow_skip 20 none true rfl (by rfl) (by rfl) (by rfl) ?_
            try simp only [Act.put, List.setIfInBounds_toArray, List.set_cons_zero, List.set_cons_succ]
            refine grow_skip 21 none true rfl (by rfl) (by rfl) (by rfl) ?_
            try simp only [Act.put, List.setIfInBounds_toArray, List.set_cons_zero, List.set_cons_succ]
            refine grow_skip 22 none true rfl (by rfl) (by rfl) (by rfl) ?_
            try simp only [Act.put, List.setIfInBounds_toArray, List.set_cons_zero, List.set_cons_succ]
            refine grow_skip 23 none true rfl (by rfl) (by rfl) (by rfl) ?_
            try simp only [Act.put, List.setIfInBounds_toArray, List.set_cons_zero, List.set_cons_succ]
            refine grow_skip 24 none true rfl (by rfl) (by rfl) (by rfl) ?_
            try simp only [Act.put, List.setIfInBounds_toArray, List.set_cons_zero, List.set_cons_succ]
            refine grow_skip 25 none true rfl (by rfl) (by rfl) (by rfl) ?_
            try simp only [Act.put, List.setIfInBounds_toArray, List.set_cons_zero, List.set_cons_succ]
            refine grow_skip 26 none true rfl (by rfl) (by rfl) (by rfl) ?_
            try simp only [Act.put, List.setIfInBounds_toArray, List.set_cons_zero, List.set_cons_succ]
            refine grow_skip 27 none true rfl (by rfl) (by rfl) (by rfl) ?_
            try simp only [Act.put, List.setIfInBounds_toArray, List.set_cons_zero, List.set_cons_succ]
            refine grow_skip 28 (some true) false rfl (by rfl) (by rfl) (by rfl) ?_
            try simp only [Act.put, List.setIfInBounds_toArray, List.set_cons_zero, List.set_cons_succ]
            refine grow_fix 29 ?_ rfl (by rfl) (by rfl) (fun wx hC hD => ?_) ?_
            rotate_left
            · have hSw := Hcells.out wx hC
              go_simp
              all_goals with_reducible rfl
            try simp only [Act.put, List.setIfInBounds_toArray, List.set_cons_zero, List.set_cons_succ]
            refine grow_nil (fun w9 hC hF => ?_)
            have Hbz := Lib.hid (Hba.out.trans (hC.mono Hba.out.size))
            clear hF hC
            go_wp2
            go_ret
            exact ⟨by rw [errR_no Hno.out]; rfl, Hbz.out⟩
          have h2' : y ≤ 1099511627776 := by omega
          cases r with
          | false =>
            have Hno : Hid (okR l = false) := Lib.hid (Hno0.out (by rw [Hok2.out]; simp))
            clear Hno0 Hyes0 Hok2
            go_upto_region 4 with (fail)
            generalize hwa : (wr.alloc (.cells #[.string x, .int .i64 y] 62)) = wa at *
            clear hwa
            refine wp_region_grow (specOf [(2, ⟨Unit, fun _ => (.bool true), fun _ _ => True⟩)]) (fun wx => Below (World.heap wa).size wa wx) (fun w1 w2 => Below w1.heap.size w1 w2) (by kernel_rfl) (by kernel_rfl) (stab_cons (fun _ _ _ _ h => h) (stab_nil)) (Below.refl _ _).drew ?_
            refine grow_fix 1 ?_ rfl (by rfl) (by rfl) (fun wx hC hD => ?_) ?_
            rotate_left
            · have hSw := Hcells.out wx hC
              go_simp
              all_goals with_reducible rfl
            try simp only [Act.put, List.setIfInBounds_toArray, List.set_cons_zero, List.set_cons_succ]
            refine grow_fix 2 ?_ rfl (by rfl) (by rfl) (fun wx hC hD => ?_) ?_
            rotate_left
            · have hSw := Hcells.out wx hC
              go_simp
              all_goals with_reducible rfl
            try simp only [Act.put, List.setIfInBounds_toArray, List.set_cons_zero, List.set_cons_succ]
            refine grow_give 3 _ rfl (by rfl) (by rfl) (fun wx hC hD => ?_) (fun x => ?_)
            · refine give_enter (f := ?_) (args := ?_) ?_ ?_
              rotate_left 2
              · have hSw := Hcells.out wx hC
                go_simp
                all_goals first | with_reducible rfl | (refine ⟨?_, ?_⟩ <;> with_reducible rfl)
              exact calls_cst hC (C1.out wx hC)
            obtain ⟨⟩ := x
            try simp only [Act.put, List.setIfInBounds_toArray, List.set_cons_zero, List.set_cons_succ]
            refine grow_fix 4 ?_ rfl (by rfl) (by rfl) (fun wx hC hD => ?_) ?_
            rotate_left
            · have hSw := Hcells.out wx hC
              go_simp
              all_goals with_reducible rfl
            try simp only [Act.put, List.setIfInBounds_toArray, List.set_cons_zero, List.set_cons_succ]
            refine grow_fix 5 ?_ rfl (by rfl) (by rfl) (fun wx hC hD => ?_) ?_
            rotate_left
            · have hSw := Hcells.out wx hC
              go_simp
              all_goals with_reducible rfl
            try simp only [Act.put, List.setIfInBounds_toArray, List.set_cons_zero, List.set_cons_succ]
            refine grow_fix 6 ?_ rfl (by rfl) (by rfl) (fun wx hC hD => ?_) ?_
            rotate_left
            · have hSw := Hcells.out wx hC
              go_simp
              all_goals with_reducible rfl
            try simp only [Act.put, List.setIfInBounds_toArray, List.set_cons_zero, List.set_cons_succ]
            refine grow_fix 7 ?_ rfl (by rfl) (by rfl) (fun wx hC hD => ?_) ?_
            rotate_left
            · have hSw := Hcells.out wx hC
              go_simp
              all_goals with_reducible rfl
            try simp only [Act.put, List.setIfInBounds_toArray, List.set_cons_zero, List.set_cons_succ]
            refine grow_fix 8 ?_ rfl (by rfl) (by rfl) (fun wx hC hD => ?_) ?_
            rotate_left
            · have hSw := Hcells.out wx hC
              go_simp
              all_goals with_reducible rfl
            try simp only [Act.put, List.setIfInBounds_toArray, List.set_cons_zero, List.set_cons_succ]
            refine grow_fix 9 ?_ rfl (by rfl) (by rfl) (fun wx hC hD => ?_) ?_
            rotate_left
            · have hSw := Hcells.out wx hC
              go_simp
              all_goals with_reducible rfl
            try simp only [Act.put, List.setIfInBounds_toArray, List.set_cons_zero, List.set_cons_succ]
            refine grow_fix 10 ?_ rfl (by rfl) (by rfl) (fun wx hC hD => ?_) ?_
            rotate_left
            · have hSw := Hcells.out wx hC
              go_simp
              all_goals with_reducible rfl
            try simp only [Act.put, List.setIfInBounds_toArray, List.set_cons_zero, List.set_cons_succ]
            refine grow_fix 11 ?_ rfl (by rfl) (by rfl) (fun wx hC hD => ?_) ?_
            rotate_left
            · have hSw := Hcells.out wx hC
              go_simp
              all_goals with_reducible rfl
            try simp only [Act.put, List.setIfInBounds_toArray, List.set_cons_zero, List.set_cons_succ]
            refine grow_fix 12 ?_ rfl (by rfl) (by rfl) (fun wx hC hD => ?_) ?_
            rotate_left
            · have hSw := Hcells.out wx hC
              go_simp
              all_goals with_reducible rfl
            try simp only [Act.put, List.setIfInBounds_toArray, List.set_cons_zero, List.set_cons_succ]
            refine grow_fix 13 ?_ rfl (by rfl) (by rfl) (fun wx hC hD => ?_) ?_
            rotate_left
            · have hSw := Hcells.out wx hC
              go_simp
              all_goals with_reducible rfl
            try simp only [Act.put, List.setIfInBounds_toArray, List.set_cons_zero, List.set_cons_succ]
            refine grow_fix 14 ?_ rfl (by rfl) (by rfl) (fun wx hC hD => ?_) ?_
            rotate_left
            · have hSw := Hcells.out wx hC
              go_simp
              all_goals with_reducible rfl
            try simp only [Act.put, List.setIfInBounds_toArray, List.set_cons_zero, List.set_cons_succ]
            refine grow_fix 15 ?_ rfl (by rfl) (by rfl) (fun wx hC hD => ?_) ?_
            rotate_left
            · have hSw := Hcells.out wx hC
              go_simp
              all_goals with_reducible rfl
            try simp only [Act.put, List.setIfInBounds_toArray, List.set_cons_zero, List.set_cons_succ]
            refine grow_fix 16 ?_ rfl (by rfl) (by rfl) (fun wx hC hD => ?_) ?_
            rotate_left
            · have hSw := Hcells.out wx hC
              go_simp
              all_goals with_reducible rfl
            try simp only [Act.put, List.setIfInBounds_toArray, List.set_cons_zero, List.set_cons_succ]
            refine grow_fix 17 ?_ rfl (by rfl) (by rfl) (fun wx hC hD => ?_) ?_
            rotate_left
            · have hSw := Hcells.out wx hC
              go_simp
              all_goals with_reducible rfl
            try simp only [Act.put, List.setIfInBounds_toArray, List.set_cons_zero, List.set_cons_succ]
            refine grow_fix 18 ?_ rfl (by rfl) (by rfl) (fun wx hC hD => ?_) ?_
            rotate_left
            · have hSw := Hcells.out wx hC
              go_simp
              all_goals with_reducible rfl
            try simp only [Act.put, List.setIfInBounds_toArray, List.set_cons_zero, List.set_cons_succ]
            refine grow_fix 19 ?_ rfl (by rfl) (by rfl) (fun wx hC hD => ?_) ?_
            rotate_left
            · have hSw := Hcells.out wx hC
              go_simp
              all_goals with_reducible rfl
            try simp only [Act.put, List.setIfInBounds_toArray, List.set_cons_zero, List.set_cons_succ]
            refine grow_fix 20 ?_ rfl (by rfl) (by rfl) (fun wx hC hD => ?_) ?_
            rotate_left
            · have hSw := Hcells.out wx hC
              go_simp
              all_goals with_reducible rfl
            try simp only [Act.put, List.setIfInBounds_toArray, List.set_cons_zero, List.set_cons_succ]
            refine grow_fix 21 ?_ rfl (by rfl) (by rfl) (fun wx hC hD => ?_) ?_
            rotate_left
            · have hSw := Hcells.out wx hC
              go_simp
              all_goals with_reducible rfl
            try simp only [Act.put, List.setIfInBounds_toArray, List.set_cons_zero, List.set_cons_succ]
            refine grow_fix 22 ?_ rfl (by rfl) (by rfl) (fun wx hC hD => ?_) ?_
            rotate_left
            · have hSw := Hcells.out wx hC
              go_simp
              all_goals with_reducible rfl
            try simp only [Act.put, List.setIfInBounds_toArray, List.set_cons_zero, List.set_cons_succ]
            refine grow_fix 23 ?_ rfl (by rfl) (by rfl) (fun wx hC hD => ?_) ?_
            rotate_left
            · have hSw := Hcells.out wx hC
              go_simp
              all_goals with_reducible rfl
            try simp only [Act.put, List.setIfInBounds_toArray, List.set_cons_zero, List.set_cons_succ]
            refine grow_fix 24 ?_ rfl (by rfl) (by rfl) (fun wx hC hD => ?_) ?_
            rotate_left
            · have hSw := Hcells.out wx hC
              go_simp
              all_goals with_reducible rfl
            try simp only [Act.put, List.setIfInBounds_toArray, List.set_cons_zero, List.set_cons_succ]
            refine grow_fix 25 ?_ rfl (by rfl) (by rfl) (fun wx hC hD => ?_) ?_
            rotate_left
            · have hSw := Hcells.out wx hC
              go_simp
              all_goals with_reducible rfl
            try simp only [Act.put, List.setIfInBounds_toArray, List.set_cons_zero, List.set_cons_succ]
            refine grow_fix 26 ?_ rfl (by rfl) (by rfl) (fun wx hC hD => ?_) ?_
            rotate_left
            · have hSw := Hcells.out wx hC
              go_simp
              all_goals with_reducible rfl
            try simp only [Act.put, List.setIfInBounds_toArray, List.set_cons_zero, List.set_cons_succ]
            refine grow_fix 27 ?_ rfl (by rfl) (by rfl) (fun wx hC hD => ?_) ?_
            rotate_left
            · have hSw := Hcells.out wx hC
              go_simp
              all_goals with_reducible rfl
            try simp only [Act.put, List.setIfInBounds_toArray, List.set_cons_zero, List.set_cons_succ]
            refine grow_fix 28 ?_ rfl (by rfl) (by rfl) (fun wx hC hD => ?_) ?_
            rotate_left
            · have hSw := Hcells.out wx hC
              go_simp
              all_goals with_reducible rfl
            try simp only [Act.put, List.setIfInBounds_toArray, List.set_cons_zero, List.set_cons_succ]
            refine grow_fix 29 ?_ rfl (by rfl) (by rfl) (fun wx hC hD => ?_) ?_
            rotate_left
            · have hSw := Hcells.out wx hC
              go_simp
              all_goals with_reducible rfl
            try simp only [Act.put, List.setIfInBounds_toArray, List.set_cons_zero, List.set_cons_succ]
            refine grow_nil (fun w9 hC hF => ?_)
            have Hbz := Lib.hid (Hba.out.trans (hC.mono Hba.out.size))
            clear hF hC
            go_wp2
            go_ret
            exact ⟨by rw [errR_no Hno.out]; rfl, Hbz.out⟩
          | true =>
            have Hyes := Lib.hid (Hyes0.out (by rw [Hok2.out]; rw [decide_eq_true h1', decide_eq_true h2']; rfl))
            clear Hno0 Hyes0 Hok2
            go_upto_region 4 with (fail)
            generalize hwa : (wr.alloc (.cells #[.string x, .int .i64 y] 62)) = wa at *
            clear hwa
            refine wp_region_grow (specOf [(2, ⟨Unit, fun _ => (.bool true), fun _ _ => True⟩)]) (fun wx => Below (World.heap wa).size wa wx) (fun w1 w2 => Below w1.heap.size w1 w2) (by kernel_rfl) (by kernel_rfl) (stab_cons (fun _ _ _ _ h => h) (stab_nil)) (Below.refl _ _).drew ?_
            refine grow_fix 1 ?_ rfl (by rfl) (by rfl) (fun wx hC hD => ?_) ?_
            rotate_left
            · have hSw := Hcells.out wx hC
              go_simp
              all_goals with_reducible rfl
            try simp only [Act.put, List.setIfInBounds_toArray, List.set_cons_zero, List.set_cons_succ]
            refine grow_fix 2 ?_ rfl (by rfl) (by rfl) (fun wx hC hD => ?_) ?_
            rotate_left
            · have hSw := Hcells.out wx hC
              go_simp
              all_goals with_reducible rfl
            try simp only [Act.put, List.setIfInBounds_toArray, List.set_cons_zero, List.set_cons_succ]
            refine grow_give 3 _ rfl (by rfl) (by rfl) (fun wx hC hD => ?_) (fun x => ?_)
            · refine give_enter (f := ?_) (args := ?_) ?_ ?_
              rotate_left 2
              · have hSw := Hcells.out wx hC
                go_simp
                all_goals first | with_reducible rfl | (refine ⟨?_, ?_⟩ <;> with_reducible rfl)
              exact calls_cst hC (C1.out wx hC)
            obtain ⟨⟩ := x
            try simp only [Act.put, List.setIfInBounds_toArray, List.set_cons_zero, List.set_cons_succ]
            refine grow_fix 4 ?_ rfl (by rfl) (by rfl) (fun wx hC hD => ?_) ?_
            rotate_left
            · have hSw := Hcells.out wx hC
              go_simp
              all_goals with_reducible rfl
            try simp only [Act.put, List.setIfInBounds_toArray, List.set_cons_zero, List.set_cons_succ]
            refine grow_fix 5 ?_ rfl (by rfl) (by rfl) (fun wx hC hD => ?_) ?_
            rotate_left
            · have hSw := Hcells.out wx hC
              go_simp
              all_goals with_reducible rfl
            try simp only [Act.put, List.setIfInBounds_toArray, List.set_cons_zero, List.set_cons_succ]
            refine grow_fix 6 ?_ rfl (by rfl) (by rfl) (fun wx hC hD => ?_) ?_
            rotate_left
            · have hSw := Hcells.out wx hC
              go_simp
              all_goals with_reducible rfl
            try simp only [Act.put, List.setIfInBounds_toArray, List.set_cons_zero, List.set_cons_succ]
            refine grow_fix 7 ?_ rfl (by rfl) (by rfl) (fun wx hC hD => ?_) ?_
            rotate_left
            · have hSw := Hcells.out wx hC
              go_simp
              all_goals with_reducible rfl
            try simp only [Act.put, List.setIfInBounds_toArray, List.set_cons_zero, List.set_cons_succ]
            refine grow_fix 8 ?_ rfl (by rfl) (by rfl) (fun wx hC hD => ?_) ?_
            rotate_left
            · have hSw := Hcells.out wx hC
              go_simp
              all_goals with_reducible rfl
            try simp only [Act.put, List.setIfInBounds_toArray, List.set_cons_zero, List.set_cons_succ]
            refine grow_fix 9 ?_ rfl (by rfl) (by rfl) (fun wx hC hD => ?_) ?_
            rotate_left
            · have hSw := Hcells.out wx hC
              go_simp
              all_goals with_reducible rfl
            try simp only [Act.put, List.setIfInBounds_toArray, List.set_cons_zero, List.set_cons_succ]
            refine grow_fix 10 ?_ rfl (by rfl) (by rfl) (fun wx hC hD => ?_) ?_
            rotate_left
            · have hSw := Hcells.out wx hC
              go_simp
              all_goals with_reducible rfl
            try simp only [Act.put, List.setIfInBounds_toArray, List.set_cons_zero, List.set_cons_succ]
            refine grow_fix 11 ?_ rfl (by rfl) (by rfl) (fun wx hC hD => ?_) ?_
            rotate_left
            · have hSw := Hcells.out wx hC
              go_simp
              all_goals with_reducible rfl
            try simp only [Act.put, List.setIfInBounds_toArray, List.set_cons_zero, List.set_cons_succ]
            refine grow_fix 12 ?_ rfl (by rfl) (by rfl) (fun wx hC hD => ?_) ?_
            rotate_left
            · have hSw := Hcells.out wx hC
              go_simp
              all_goals with_reducible rfl
            try simp only [Act.put, List.setIfInBounds_toArray, List.set_cons_zero, List.set_cons_succ]
            refine grow_fix 13 ?_ rfl (by rfl) (by rfl) (fun wx hC hD => ?_) ?_
            rotate_left
            · have hSw := Hcells.out wx hC
              go_simp
              all_goals with_reducible rfl
            try simp only [Act.put, List.setIfInBounds_toArray, List.set_cons_zero, List.set_cons_succ]
            refine grow_fix 14 ?_ rfl (by rfl) (by rfl) (fun wx hC hD => ?_) ?_
            rotate_left
            · have hSw := Hcells.out wx hC
              go_simp
              all_goals with_reducible rfl
            try simp only [Act.put, List.setIfInBounds_toArray, List.set_cons_zero, List.set_cons_succ]
            refine grow_fix 15 ?_ rfl (by rfl) (by rfl) (fun wx hC hD => ?_) ?_
            rotate_left
            · have hSw := Hcells.out wx hC
              go_simp
              all_goals with_reducible rfl
            try simp only [Act.put, List.setIfInBounds_toArray, List.set_cons_zero, List.set_cons_succ]
            refine grow_fix 16 ?_ rfl (by rfl) (by rfl) (fun wx hC hD => ?_) ?_
            rotate_left
            · have hSw := Hcells.out wx hC
              go_simp
              all_goals with_reducible rfl
            try simp only [Act.put, List.setIfInBounds_toArray, List.set_cons_zero, List.set_cons_succ]
            refine grow_fix 17 ?_ rfl (by rfl) (by rfl) (fun wx hC hD => ?_) ?_
            rotate_left
            · have hSw := Hcells.out wx hC
              go_simp
              all_goals with_reducible rfl
            try simp only [Act.put, List.setIfInBounds_toArray, List.set_cons_zero, List.set_cons_succ]
            refine grow_fix 18 ?_ rfl (by rfl) (by rfl) (fun wx hC hD => ?_) ?_
            rotate_left
            · have hSw := Hcells.out wx hC
              go_simp
              all_goals with_reducible rfl
            try simp only [Act.put, List.setIfInBounds_toArray, List.set_cons_zero, List.set_cons_succ]
            refine grow_fix 19 ?_ rfl (by rfl) (by rfl) (fun wx hC hD => ?_) ?_
            rotate_left
            · have hSw := Hcells.out wx hC
              go_simp
              all_goals with_reducible rfl
            try simp only [Act.put, List.setIfInBounds_toArray, List.set_cons_zero, List.set_cons_succ]
            refine grow_fix 20 ?_ rfl (by rfl) (by rfl) (fun wx hC hD => ?_) ?_
            rotate_left
            · have hSw := Hcells.out wx hC
              go_simp
              all_goals with_reducible rfl
            try simp only [Act.put, List.setIfInBounds_toArray, List.set_cons_zero, List.set_cons_succ]
            refine grow_fix 21 ?_ rfl (by rfl) (by rfl) (fun wx hC hD => ?_) ?_
            rotate_left
            · have hSw := Hcells.out wx hC
              go_simp
              all_goals with_reducible rfl
            try simp only [Act.put, List.setIfInBounds_toArray, List.set_cons_zero, List.set_cons_succ]
            refine grow_fix 22 ?_ rfl (by rfl) (by rfl) (fun wx hC hD => ?_) ?_
            rotate_left
            · have hSw := Hcells.out wx hC
              go_simp
              all_goals with_reducible rfl
            try simp only [Act.put, List.setIfInBounds_toArray, List.set_cons_zero, List.set_cons_succ]
            refine grow_fix 23 ?_ rfl (by rfl) (by rfl) (fun wx hC hD => ?_) ?_
            rotate_left
            · have hSw := Hcells.out wx hC
              go_simp
              all_goals with_reducible rfl
            try simp only [Act.put, List.setIfInBounds_toArray, List.set_cons_zero, List.set_cons_succ]
            refine grow_fix 24 ?_ rfl (by rfl) (by rfl) (fun wx hC hD => ?_) ?_
            rotate_left
            · have hSw := Hcells.out wx hC
              go_simp
              all_goals with_reducible rfl
            try simp only [Act.put, List.setIfInBounds_toArray, List.set_cons_zero, List.set_cons_succ]
            refine grow_fix 25 ?_ rfl (by rfl) (by rfl) (fun wx hC hD => ?_) ?_
            rotate_left
            · have hSw := Hcells.out wx hC
              go_simp
              all_goals with_reducible rfl
            try simp only [Act.put, List.setIfInBounds_toArray, List.set_cons_zero, List.set_cons_succ]
            refine grow_fix 26 ?_ rfl (by rfl) (by rfl) (fun wx hC hD => ?_) ?_
            rotate_left
            · have hSw := Hcells.out wx hC
              go_simp
              all_goals with_reducible rfl
            try simp only [Act.put, List.setIfInBounds_toArray, List.set_cons_zero, List.set_cons_succ]
            refine grow_fix 27 ?_ rfl (by rfl) (by rfl) (fun wx hC hD => ?_) ?_
            rotate_left
            · have hSw := Hcells.out wx hC
              go_simp
              all_goals with_reducible rfl
            try simp only [Act.put, List.setIfInBounds_toArray, List.set_cons_zero, List.set_cons_succ]
            refine grow_fix 28 ?_ rfl (by rfl) (by rfl) (fun wx hC hD => ?_) ?_
            rotate_left
            · have hSw := Hcells.out wx hC
              go_simp
              all_goals with_reducible rfl
            try simp only [Act.put, List.setIfInBounds_toArray, List.set_cons_zero, List.set_cons_succ]
            refine grow_fix 29 ?_ rfl (by rfl) (by rfl) (fun wx hC hD => ?_) ?_
            rotate_left
            · have hSw := Hcells.out wx hC
              go_simp
              all_goals with_reducible rfl
            try simp only [Act.put, List.setIfInBounds_toArray, List.set_cons_zero, List.set_cons_succ]
            refine grow_nil (fun w9 hC hF => ?_)
            have Hbz := Lib.hid (Hba.out.trans (hC.mono Hba.out.size))
            clear hF hC
            go_wp2
            go_roundw
            case rel => exact ⟨k + 1, by omega, by go_num, Hyes, Hbz.out⟩
            case measure => simp [intOf]; omega
    · have h1 : (n : Int) ≤ (k : Int) := by omega
      have Hall : Hid (okR l = true) := Lib.hid (okR_yes (fun j hj => hS.out j (by have := Hl.out; omega)))
      have Hb := Lib.hid hb
      clear hS hb
      go_wp2
      go_ret
      exact ⟨by rw [errR_yes Hall.out]; rfl, Hb.out⟩
end Go.Proofs.YtdloacfoegjnmaaGreat.Gr
