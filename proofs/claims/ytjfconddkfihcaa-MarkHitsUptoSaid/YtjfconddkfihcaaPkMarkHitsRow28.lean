/- The document's Runs, the law's same and cut: the walks (printed by gen_mkj.py). -/
import Derived.Test.YtjfconddkfihcaaPkMarkHitsRow27
import Derived.Test.YtjfconddkfihcaaPkMarkHitsRow14
import Derived.Test.YtjfconddkfihcaaPkMarkHitsRow15
import Derived.Test.YtjfconddkfihcaaPkMarkHitsRow16
section
namespace Go.Proofs.Ytjfconddkfihcaa.Mk
open Go.RowKit Go.Proofs.Ytjfconddkfihcaa Go.Proofs.Ytjfconddkfihcaa.Ut Go.Proofs.Ytjfconddkfihcaa.Tk Go.Proofs.Ytjfconddkfihcaa.Qy
set_option maxRecDepth 20000
set_option linter.unusedSimpArgs false

theorem rspan_info : (Try.prog.info? 90).map (fun i => (i.zero, i.size, i.bytes)) = some (some (.agg #[.int .i64 0, .int .i64 0]), 2, 16) := by kernel_rfl
/-- The document's spans, of the call's own. -/
def RSp (w : World) (l : List (Nat × Nat)) (e : Ending) (w' : World) : Prop := ∃ v, e = .returned v ∧ w'.ownsRow w.heap.size 90 2 v l.length (spC l) ∧ Below w.heap.size w w'
structure RR (w : World) (s : ByteArray) (v : Value) (wr : World) (k : Nat) (fo : Option Nat) (pre : List (Nat × Nat)) : Prop where
  le : k ≤ s.size
  all : pre ++ sp (s.data.toList.drop k) k fo = sp s.data.toList 0 none
  lt : ∀ x, fo = some x → x < k
  row : wr.ownsRow w.heap.size 90 2 v pre.length (spC pre)
  bel : Below w.heap.size w wr
theorem RR.few {w : World} {s : ByteArray} {v : Value} {wr : World} {k : Nat} {fo : Option Nat} {pre : List (Nat × Nat)} (h : RR w s v wr k fo pre) : pre.length ≤ s.size := by
  have h1 := congrArg List.length h.all
  have h2 := sp_count s.data.toList
  rw [bsize] at h2
  rw [List.length_append] at h1
  omega

set_option maxHeartbeats 3200000 in
theorem runs_ref (s : ByteArray) (w : World) (hs : s.size ≤ 1048576) : Calls Try.prog 17 #[.string s] w (RSp w (sp s.data.toList 0 none)) := by
  obtain ⟨i0, hi0, hz0, hz1, hz2⟩ := info_parts rspan_info
  have st : Hid (RR w s (.slice none 0 0) w 0 none []) := Lib.hid ⟨Nat.zero_le _, by simp, fun x h => (by cases h), World.ownsRow_nil _ _ _ _, Below.refl _ _⟩
  go_enter Try.func17, Try.ntmps17
  go_wp2
  go_loopw [3, 4, 5] (fun v f a wr => ∃ (k : Nat) (fo : Option Nat) (pre : List (Nat × Nat)), a = .int .i64 k ∧ f = .int .i64 (fv fo) ∧ RR w s v wr k fo pre) (fun _ _ a _ => s.size - (intOf a).toNat)
  case atStart => exact ⟨0, none, [], rfl, rfl, st.out⟩
  case round =>
    obtain ⟨k, fo, pre, rfl, rfl, hR⟩ := hrel
    have hk := hR.le
    by_cases hlt : k < s.size
    · have hne := drop_ne s k hlt
      have hds := dec_size _ hne
      have c1 := decr_any s (k : Int) wr (by omega)
      rw [decAt_in s k] at c1
      have hdl : (s.data.toList.drop k).drop (dec (s.data.toList.drop k)).2 = s.data.toList.drop (k + (dec (s.data.toList.drop k)).2) := by rw [List.drop_drop]
      have hw1 := sp_word (s.data.toList.drop k) k fo hne
      have hw2 := sp_gap (s.data.toList.drop k) k fo hne
      rw [hdl] at hw1 hw2
      have hln : (s.data.toList.drop k).length = s.size - k := by rw [List.length_drop, bsize]
      rw [hln] at hds
      generalize dec (s.data.toList.drop k) = d at *
      obtain ⟨r, nn⟩ := d
      simp only at c1 hds hw1 hw2
      have hkn : k + nn ≤ s.size := by omega
      have hkl : (k : Int) < (s.size : Int) := by omega
      have HR := Lib.hid hR
      have Hw1 := Lib.hid hw1
      have Hw2 := Lib.hid hw2
      clear hR hw1 hw2 hdl hne
      have cw := fun w2 => word_ref (r : Int) w2
      have hwc : isWord (r : Int) = true ∨ isWord (r : Int) = false := by cases isWord (r : Int) <;> simp
      have Cw := Lib.hid cw
      clear cw
      rcases hwc with hw | hw
      · have hn : Hid (RR w s u3 wr (k + nn) (some (fo.getD k)) pre) := Lib.hid ⟨hkn, by rw [← Hw1.out hw]; exact HR.out.all, fun x e => by
            injection e with e
            subst e
            cases fo with
            | none => simp; omega
            | some a => have := HR.out.lt a rfl; simp; omega, HR.out.row, HR.out.bel⟩
        have c2 := Cw.out
        rw [hw] at c2
        cases fo with
        | none =>
          have hfv : fv none = -1 := rfl
          simp only [hfv]
          go_wp2_with (first
            | (go_at_call 63; refine c1.mono ?_; rintro e w2 ⟨rfl, rfl⟩)
            | (go_at_call 64; refine (c2 _).mono ?_; rintro e w2 ⟨rfl, rfl⟩))
          go_roundw
          case rel => exact ⟨k + nn, some k, pre, by go_num, rfl, hn.out⟩
          case measure => simp [intOf]; omega
        | some a =>
          have ha : (0 : Int) ≤ (a : Int) := by omega
          have hfv : fv (some a) = (a : Int) := rfl
          simp only [hfv]
          go_wp2_with (first
            | (go_at_call 63; refine c1.mono ?_; rintro e w2 ⟨rfl, rfl⟩)
            | (go_at_call 64; refine (c2 _).mono ?_; rintro e w2 ⟨rfl, rfl⟩))
          go_roundw
          case rel => exact ⟨k + nn, some a, pre, by go_num, rfl, hn.out⟩
          case measure => simp [intOf]; omega
      · have c2 := Cw.out
        rw [hw] at c2
        cases fo with
        | none =>
          have hn : Hid (RR w s u3 wr (k + nn) none pre) := Lib.hid ⟨hkn, by have := HR.out.all; rw [Hw2.out hw] at this; exact this, fun x e => (by cases e), HR.out.row, HR.out.bel⟩
          have hfv : fv none = -1 := rfl
          simp only [hfv]
          go_wp2_with (first
            | (go_at_call 63; refine c1.mono ?_; rintro e w2 ⟨rfl, rfl⟩)
            | (go_at_call 64; refine (c2 _).mono ?_; rintro e w2 ⟨rfl, rfl⟩))
          go_roundw
          case rel => exact ⟨k + nn, none, pre, by go_num, rfl, hn.out⟩
          case measure => simp [intOf]; omega
        | some a =>
          have ha : (0 : Int) ≤ (a : Int) := by omega
          have hfv : fv (some a) = (a : Int) := rfl
          have hal := HR.out.all
          rw [Hw2.out hw] at hal
          have hal2 : (pre ++ [(a, k)]) ++ sp (s.data.toList.drop (k + nn)) (k + nn) none = sp s.data.toList 0 none := by rw [← hal]; simp [tailS]
          have Hal := Lib.hid hal2
          have hpl := HR.out.few
          have hrow := HR.out.row
          have hbl := HR.out.bel.size
          clear hal hal2
          simp only [hfv]
          go_wp2_with (first
            | (go_at_call 63; refine c1.mono ?_; rintro e w2 ⟨rfl, rfl⟩)
            | (go_at_call 64; refine (c2 _).mono ?_; rintro e w2 ⟨rfl, rfl⟩)
            | (at_builtin; refine wpList_append_own _ rfl _ _ 26 rfl w.heap.size 90 i0 _ 2 16 Try.underlying26 hi0 hz0 hz1 hz2 rfl (by decide) _ _ _ rfl (hrow.alloc _) ⟨wr.heap.size, 0, none⟩ 1 1 [.int .i64 (a : Nat), .int .i64 (k : Nat)] rfl rfl (World.news_of_block (cs := #[.int .i64 (a : Nat), .int .i64 (k : Nat)]) (t := 90) (fr := (0, 0)) (heap_alloc_new wr _)) ?d2 ?d3 ?d4 ?d5 ?_))
          case d2 => intro u hu; simp at hu; rcases hu with rfl | rfl <;> rfl
          case d3 => unfold maxLen; omega
          case d4 => omega
          case d5 => first | omega | (simp; omega)
          intro v' w4 hown4 hgrow _
          have hb4 := (HR.out.bel.alloc hbl (.cells #[.int .i64 (a : Nat), .int .i64 (k : Nat)] 90)).grown hgrow (by simp; omega) (fun j hj => (hrow.lt j hj).1)
          have hn : Hid (RR w s v' w4 (k + nn) none (pre ++ [(a, k)])) := Lib.hid ⟨hkn, Hal.out, fun x e => (by cases e), by rw [spC_snoc, List.length_append]; exact hown4, hb4⟩
          clear hown4 hgrow hb4 hrow
          go_wp2
          go_roundw
          case rel => exact ⟨k + nn, none, pre ++ [(a, k)], by go_num, rfl, hn.out⟩
          case measure => simp [intOf]; omega
    · obtain rfl : k = s.size := by omega
      have hal := hR.all
      have hdn : s.data.toList.drop s.size = [] := List.drop_of_length_le (by rw [bsize]; omega)
      rw [hdn, sp_nil] at hal
      have hrow := hR.row
      have hpl := hR.few
      have hbl := hR.bel.size
      have Hbl := Lib.hid hR.bel
      cases fo with
      | none =>
        have hfv : fv none = -1 := rfl
        simp only [hfv]
        simp only [tailS, List.append_nil] at hal
        have Hal := Lib.hid hal
        have Hrow := Lib.hid hrow
        clear hal hR hrow
        go_wp2
        go_ret
        exact ⟨_, rfl, by rw [← Hal.out]; exact Hrow.out, Hbl.out⟩
      | some a =>
        have ha : (0 : Int) ≤ (a : Int) := by omega
        have hfv : fv (some a) = (a : Int) := rfl
        simp only [hfv]
        simp only [tailS] at hal
        have Hal := Lib.hid hal
        clear hal hR
        go_wp2_with (at_builtin; refine wpList_append_own _ rfl _ _ 26 rfl w.heap.size 90 i0 _ 2 16 Try.underlying26 hi0 hz0 hz1 hz2 rfl (by decide) _ _ _ rfl (hrow.alloc _) ⟨wr.heap.size, 0, none⟩ 1 1 [.int .i64 (a : Nat), .int .i64 (s.size : Nat)] rfl rfl (World.news_of_block (cs := #[.int .i64 (a : Nat), .int .i64 (s.size : Nat)]) (t := 90) (fr := (0, 0)) (heap_alloc_new wr _)) ?d2 ?d3 ?d4 ?d5 ?_)
        case d2 => intro u hu; simp at hu; rcases hu with rfl | rfl <;> rfl
        case d3 => unfold maxLen; omega
        case d4 => omega
        case d5 => first | omega | (simp; omega)
        intro v' w4 hown4 hgrow _
        have hb4 := (Hbl.out.alloc hbl (.cells #[.int .i64 (a : Nat), .int .i64 (s.size : Nat)] 90)).grown hgrow (by simp; omega) (fun j hj => (hrow.lt j hj).1)
        have Hrow : Hid (w4.ownsRow w.heap.size 90 2 v' (pre ++ [(a, s.size)]).length (spC (pre ++ [(a, s.size)]))) := Lib.hid (by rw [spC_snoc, List.length_append]; exact hown4)
        have Hb4 := Lib.hid hb4
        clear hown4 hgrow hb4 hrow
        go_wp2
        go_ret
        exact ⟨_, rfl, by rw [← Hal.out]; exact Hrow.out, Hb4.out⟩

set_option maxHeartbeats 3200000 in
theorem same_spans (A1 A2 : Option Addr) (c1 c2 : Nat) (l : List (Nat × Nat)) (w : World) (h1 : Reads w w.heap.size 2 A1 l.length (spC l)) (h2 : Reads w w.heap.size 2 A2 l.length (spC l)) (hn : l.length ≤ 8796093021952) :
    Calls Try.prog 16 #[.slice A1 l.length c1, .slice A2 l.length c2] w fun e w' => e = .returned (.bool true) ∧ Below w.heap.size w w' := by
  have H1 := Lib.hid h1
  have H2 := Lib.hid h2
  clear h1 h2
  go_enter Try.func16, Try.ntmps16
  go_wp2
  go_loopw [5] (fun i wr => ∃ k : Nat, k ≤ l.length ∧ i = .int .i64 k ∧ Below w.heap.size w wr) (fun i _ => l.length - (intOf i).toNat)
  case atStart => exact ⟨0, Nat.zero_le _, rfl, Below.refl _ _⟩
  case round =>
    obtain ⟨k, hk, rfl, hb⟩ := hrel
    by_cases hlt : k < l.length
    · obtain ⟨b1, o1, rfl, hl1, g0, g1⟩ := spans_at (reads_grow hb H1.out) hlt
      obtain ⟨b2, o2, rfl, hl2, g2, g3⟩ := spans_at (reads_grow hb H2.out) hlt
      have hi0 : (0 : Int) ≤ (k : Int) := by omega
      have hi1 : (k : Int) < (l.length : Int) := by omega
      generalize l[k] = x at *
      obtain ⟨x1, x2⟩ := x
      simp only at g0 g1 g2 g3
      have hs1 : ((x1 : Int) != (x1 : Int)) = false := by simp
      have hs2 : ((x2 : Int) != (x2 : Int)) = false := by simp
      have hcells : ∀ wx, Below wr.heap.size wr wx → wx.cell? ⟨b1, o1 + k * 2, none⟩ = some (.int .i64 (x1 : Nat)) ∧ wx.cell? ⟨b1, o1 + k * 2 + 1, none⟩ = some (.int .i64 (x2 : Nat)) ∧ wx.cell? ⟨b2, o2 + k * 2, none⟩ = some (.int .i64 (x1 : Nat)) ∧ wx.cell? ⟨b2, o2 + k * 2 + 1, none⟩ = some (.int .i64 (x2 : Nat)) := fun wx hC =>
        ⟨(hC.cell (p := ⟨b1, o1 + k * 2, none⟩) hl1).trans g0, (hC.cell (p := ⟨b1, o1 + k * 2 + 1, none⟩) hl1).trans g1, (hC.cell (p := ⟨b2, o2 + k * 2, none⟩) hl2).trans g2, (hC.cell (p := ⟨b2, o2 + k * 2 + 1, none⟩) hl2).trans g3⟩
      have Hcells := Lib.hid hcells
      have Hb := Lib.hid hb
      clear hcells g0 g1 g2 g3 hb
      go_wp2_with fail
      refine wp_region_grow (specOf []) (fun wx => Below (World.heap wr).size wr wx) (fun w1 w2 => Below w1.heap.size w1 w2) (by kernel_rfl) (by kernel_rfl) (stab_nil) (Below.refl _ _).drew ?_
      refine grow_fix 1 ?_ rfl (by rfl) (by rfl) (fun wx hC hD => ?_) ?_
      rotate_left
      · have hSw := Hcells.out wx hC
        go_simp
        all_goals with_reducible rfl
      try simp only [Act.put, List.setIfInBounds_toArray, List.set_cons_zero, List.set_cons_succ]
      refine grow_fix 2 ?_ rfl (by rfl) (by rfl) (fun wx hC hD => ?_) ?_
      rotate_left
      · have hSw := Hcells.out wx hC
        go_simp
        all_goals with_reducible rfl
      try simp only [Act.put, List.setIfInBounds_toArray, List.set_cons_zero, List.set_cons_succ]
      refine grow_fix 3 ?_ rfl (by rfl) (by rfl) (fun wx hC hD => ?_) ?_
      rotate_left
      · have hSw := Hcells.out wx hC
        go_simp
        all_goals with_reducible rfl
      try simp only [Act.put, List.setIfInBounds_toArray, List.set_cons_zero, List.set_cons_succ]
      refine grow_fix 4 ?_ rfl (by rfl) (by rfl) (fun wx hC hD => ?_) ?_
      rotate_left
      · have hSw := Hcells.out wx hC
        go_simp
        all_goals with_reducible rfl
      try simp only [Act.put, List.setIfInBounds_toArray, List.set_cons_zero, List.set_cons_succ]
      refine grow_fix 5 ?_ rfl (by rfl) (by rfl) (fun wx hC hD => ?_) ?_
      rotate_left
      · have hSw := Hcells.out wx hC
        go_simp
        all_goals with_reducible rfl
      try simp only [Act.put, List.setIfInBounds_toArray, List.set_cons_zero, List.set_cons_succ]
      refine grow_fix 6 ?_ rfl (by rfl) (by rfl) (fun wx hC hD => ?_) ?_
      rotate_left
      · have hSw := Hcells.out wx hC
        go_simp
        all_goals with_reducible rfl
      try simp only [Act.put, List.setIfInBounds_toArray, List.set_cons_zero, List.set_cons_succ]
      refine grow_fix 7 ?_ rfl (by rfl) (by rfl) (fun wx hC hD => ?_) ?_
      rotate_left
      · have hSw := Hcells.out wx hC
        go_simp
        all_goals with_reducible rfl
      try simp only [Act.put, List.setIfInBounds_toArray, List.set_cons_zero, List.set_cons_succ]
      refine grow_fix 8 ?_ rfl (by rfl) (by rfl) (fun wx hC hD => ?_) ?_
      rotate_left
      · have hSw := Hcells.out wx hC
        go_simp
        all_goals with_reducible rfl
      try simp only [Act.put, List.setIfInBounds_toArray, List.set_cons_zero, List.set_cons_succ]
      refine grow_fix 9 ?_ rfl (by rfl) (by rfl) (fun wx hC hD => ?_) ?_
      rotate_left
      · have hSw := Hcells.out wx hC
        go_simp
        all_goals with_reducible rfl
      try simp only [Act.put, List.setIfInBounds_toArray, List.set_cons_zero, List.set_cons_succ]
      refine grow_fix 10 ?_ rfl (by rfl) (by rfl) (fun wx hC hD => ?_) ?_
      rotate_left
      · have hSw := Hcells.out wx hC
        go_simp
        all_goals with_reducible rfl
      try simp only [Act.put, List.setIfInBounds_toArray, List.set_cons_zero, List.set_cons_succ]
      refine grow_fix 11 ?_ rfl (by rfl) (by rfl) (fun wx hC hD => ?_) ?_
      rotate_left
      · have hSw := Hcells.out wx hC
        go_simp
        all_goals with_reducible rfl
      try simp only [Act.put, List.setIfInBounds_toArray, List.set_cons_zero, List.set_cons_succ]
      refine grow_fix 12 ?_ rfl (by rfl) (by rfl) (fun wx hC hD => ?_) ?_
      rotate_left
      · have hSw := Hcells.out wx hC
        go_simp
        all_goals with_reducible rfl
      try simp only [Act.put, List.setIfInBounds_toArray, List.set_cons_zero, List.set_cons_succ]
      refine grow_fix 13 ?_ rfl (by rfl) (by rfl) (fun wx hC hD => ?_) ?_
      rotate_left
      · have hSw := Hcells.out wx hC
        go_simp
        all_goals with_reducible rfl
      try simp only [Act.put, List.setIfInBounds_toArray, List.set_cons_zero, List.set_cons_succ]
      refine grow_fix 14 ?_ rfl (by rfl) (by rfl) (fun wx hC hD => ?_) ?_
      rotate_left
      · have hSw := Hcells.out wx hC
        go_simp
        all_goals with_reducible rfl
      try simp only [Act.put, List.setIfInBounds_toArray, List.set_cons_zero, List.set_cons_succ]
      refine grow_fix 15 ?_ rfl (by rfl) (by rfl) (fun wx hC hD => ?_) ?_
      rotate_left
      · have hSw := Hcells.out wx hC
        go_simp
        all_goals with_reducible rfl
      try simp only [Act.put, List.setIfInBounds_toArray, List.set_cons_zero, List.set_cons_succ]
      refine grow_fix 16 ?_ rfl (by rfl) (by rfl) (fun wx hC hD => ?_) ?_
      rotate_left
      · have hSw := Hcells.out wx hC
        go_simp
        all_goals with_reducible rfl
      try simp only [Act.put, List.setIfInBounds_toArray, List.set_cons_zero, List.set_cons_succ]
      refine grow_fix 17 ?_ rfl (by rfl) (by rfl) (fun wx hC hD => ?_) ?_
      rotate_left
      · have hSw := Hcells.out wx hC
        go_simp
        all_goals with_reducible rfl
      try simp only [Act.put, List.setIfInBounds_toArray, List.set_cons_zero, List.set_cons_succ]
      refine grow_fix 18 ?_ rfl (by rfl) (by rfl) (fun wx hC hD => ?_) ?_
      rotate_left
      · have hSw := Hcells.out wx hC
        go_simp
        all_goals with_reducible rfl
      try simp only [Act.put, List.setIfInBounds_toArray, List.set_cons_zero, List.set_cons_succ]
      refine grow_fix 19 ?_ rfl (by rfl) (by rfl) (fun wx hC hD => ?_) ?_
      rotate_left
      · have hSw := Hcells.out wx hC
        go_simp
        all_goals with_reducible rfl
      try simp only [Act.put, List.setIfInBounds_toArray, List.set_cons_zero, List.set_cons_succ]
      refine grow_fix 20 ?_ rfl (by rfl) (by rfl) (fun wx hC hD => ?_) ?_
      rotate_left
      · have hSw := Hcells.out wx hC
        go_simp
        all_goals with_reducible rfl
      try simp only [Act.put, List.setIfInBounds_toArray, List.set_cons_zero, List.set_cons_succ]
      refine grow_fix 21 ?_ rfl (by rfl) (by rfl) (fun wx hC hD => ?_) ?_
      rotate_left
      · have hSw := Hcells.out wx hC
        go_simp
        all_goals with_reducible rfl
      try simp only [Act.put, List.setIfInBounds_toArray, List.set_cons_zero, List.set_cons_succ]
      refine grow_fix 22 ?_ rfl (by rfl) (by rfl) (fun wx hC hD => ?_) ?_
      rotate_left
      · have hSw := Hcells.out wx hC
        go_simp
        all_goals with_reducible rfl
      try simp only [Act.put, List.setIfInBounds_toArray, List.set_cons_zero, List.set_cons_succ]
      refine grow_fix 23 ?_ rfl (by rfl) (by rfl) (fun wx hC hD => ?_) ?_
      rotate_left
      · have hSw := Hcells.out wx hC
        go_simp
        all_goals with_reducible rfl
      try simp only [Act.put, List.setIfInBounds_toArray, List.set_cons_zero, List.set_cons_succ]
      refine grow_fix 24 ?_ rfl (by rfl) (by rfl) (fun wx hC hD => ?_) ?_
      rotate_left
      · have hSw := Hcells.out wx hC
        go_simp
        all_goals with_reducible rfl
      try simp only [Act.put, List.setIfInBounds_toArray, List.set_cons_zero, List.set_cons_succ]
      refine grow_nil (fun w5 hC hF => ?_)
      have Hb5 := Lib.hid (Hb.out.trans (hC.mono Hb.out.size))
      clear hF hC Hcells
      go_wp2
      go_roundw
      case rel => exact ⟨k + 1, by omega, by go_num, Hb5.out⟩
      case measure => simp [intOf]; omega
    · have hi1 : ¬ (k : Int) < (l.length : Int) := by omega
      have Hb := Lib.hid hb
      clear hb
      go_wp2
      go_ret
      exact ⟨rfl, Hb.out⟩
end Go.Proofs.Ytjfconddkfihcaa.Mk
end

section
/- MarkRuns: the law's walk. -/
namespace Go.Proofs.Ytjfconddkfihcaa.Mk
open Go.RowKit Go.Proofs.Ytjfconddkfihcaa Go.Proofs.Ytjfconddkfihcaa.Ut Go.Proofs.Ytjfconddkfihcaa.Tk Go.Proofs.Ytjfconddkfihcaa.Qy
set_option maxRecDepth 20000
set_option linter.unusedSimpArgs false

theorem mcut_any (s : ByteArray) (w : World) (hs : s.size ≤ 140737488351232) : Calls Try.prog 14 #[.string s] w fun e w' => e = .returned (.string (ct 400 s)) ∧ w = w' := by
  by_cases h : s.size ≤ 400
  · have F : Hid (ct 400 s = s) := Lib.hid (by unfold ct; rw [Nat.min_eq_left h, ByteArray.extract_zero_size])
    have h' : (s.size : Int) ≤ 400 := by omega
    clear h
    go_enter Try.func14, Try.ntmps14
    go_wp2
    go_ret
    rw [F.out]
    exact ⟨rfl, rfl⟩
  · have F : Hid (ct 400 s = s.extract 0 400) := Lib.hid (by unfold ct; rw [Nat.min_eq_right (by omega)])
    have h' : (400 : Int) < (s.size : Int) := by omega
    clear h
    go_enter Try.func14, Try.ntmps14
    go_wp2
    go_ret
    rw [F.out]
    exact ⟨rfl, rfl⟩

set_option maxHeartbeats 3200000 in
theorem markRuns_walk (s0 : ByteArray) (w : World) (hs : s0.size ≤ 140737488351232) : Calls Try.prog 3 #[.string s0] w fun e w' => e = .returned (.bool true) ∧ Below w.heap.size w w' := by
  have k1 := mcut_any s0 w hs
  have zs0 := ct_size 400 s0
  generalize ct 400 s0 = s at *
  have c1 := fun wx => runsM_any s wx (by omega)
  have c2 := fun wx => runs_ref s wx (by omega)
  have c3 := fun wx => words_ref s wx (by omega)
  have hwl := sp_words s.data.toList
  have hcnt := sp_count s.data.toList
  rw [bsize] at hcnt
  have hok := spans_ok s.data.toList
  rw [bsize] at hok
  have hck : chk 0 s.size (zs (sp s.data.toList 0 none)) = true := by have := chk_zs (e := 0) hok; simpa using this
  have hzl : (zs (sp s.data.toList 0 none)).length = (sp s.data.toList 0 none).length := by simp [zs]
  have c4 := fun (A : Option Addr) (c : Nat) wx (hR : Reads wx wx.heap.size 2 A (sp s.data.toList 0 none).length (spC (sp s.data.toList 0 none))) => check_any s A c (zs (sp s.data.toList 0 none)) (by omega) wx (by rw [hzl, ← spC_zs]; exact hR)
  simp only [hck, hzl] at c4
  generalize Tk.words s.data.toList = T at *
  generalize sp s.data.toList 0 none = sps at *
  have C1 := Lib.hid c1
  have C2 := Lib.hid c2
  have C3 := Lib.hid c3
  have C4 := Lib.hid c4
  have Hwl := Lib.hid hwl
  clear c1 c2 c3 c4 hok hck hzl hwl
  go_enter Try.func3, Try.ntmps3
  go_wp2_with fail
  refine k1.mono ?_
  rintro e w1 ⟨rfl, hw1⟩
  subst hw1
  clear k1
  go_wp2_with fail
  refine (C1.out _).mono ?_
  rintro e w1 ⟨v1, rfl, hown1, hb1⟩
  obtain ⟨A1, d1, rfl, hR1⟩ := own_shape hown1
  have HR1 := Lib.hid hR1
  have Hb1 := Lib.hid hb1
  clear hown1 hR1 hb1 C1
  go_wp2_with fail
  refine (C2.out _).mono ?_
  rintro e w2 ⟨v2, rfl, hown2, hb2⟩
  obtain ⟨A2, d2, rfl, hR2⟩ := own_shape hown2
  have HR2 := Lib.hid hR2
  have Hb2 := Lib.hid (Hb1.out.trans (hb2.mono Hb1.out.size))
  have c5 := same_spans A1 A2 d1 d2 sps w2 (reads_grow hb2 HR1.out) hR2 (by omega)
  have HR12 := Lib.hid (reads_grow hb2 HR1.out)
  clear hown2 hR2 hb2 C2 HR1 Hb1
  go_wp2_with fail
  refine c5.mono ?_
  rintro e w3 ⟨rfl, hb3⟩
  have HR13 := Lib.hid (reads_grow hb3 HR12.out)
  have Hb3 := Lib.hid (Hb2.out.trans (hb3.mono Hb2.out.size))
  clear c5 hb3 HR12 Hb2 HR2
  go_wp2_with fail
  refine (C3.out _).mono ?_
  rintro e w4 ⟨v4, rfl, hown4, hb4⟩
  obtain ⟨A4, d4, rfl, _⟩ := own_shape hown4
  have c6 := C4.out A1 d1 w4 (reads_grow hb4 HR13.out)
  have Hb4 := Lib.hid (Hb3.out.trans (hb4.mono Hb3.out.size))
  have hlen : ((sps.length : Int) == (T.length : Int)) = true := by rw [Hwl.out]; simp
  clear hown4 hb4 HR13 Hb3 C3 C4
  go_wp2_with fail
  refine c6.mono ?_
  rintro e w5 ⟨rfl, hb5⟩
  have Hb5 := Lib.hid (Hb4.out.trans (hb5.mono Hb4.out.size))
  clear c6 hb5 Hb4
  go_wp2_with fail
  refine (awake_any _).mono ?_
  rintro e w6 ⟨rfl, hb6⟩
  have Hb6 := Lib.hid (Hb5.out.trans (hb6.mono Hb5.out.size))
  clear hb6
  go_wp2
  go_ret
  exact ⟨rfl, Hb6.out⟩
end Go.Proofs.Ytjfconddkfihcaa.Mk
end
