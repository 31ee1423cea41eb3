/- mark.Cuts, the document's Cuts and Text: the walks (printed by gen_mkm.py). -/
import Derived.Test.YtjfconddkfihcaaMkLPk
import Derived.Test.YtjfconddkfihcaaPkMarkTextsRow35
namespace Go.Proofs.Ytjfconddkfihcaa.Mk
open Go.RowKit Go.Proofs.Ytjfconddkfihcaa Go.Proofs.Ytjfconddkfihcaa.Ut Go.Proofs.Ytjfconddkfihcaa.Tk Go.Proofs.Ytjfconddkfihcaa.Qy
set_option maxRecDepth 20000
set_option linter.unusedSimpArgs false

/-- Spans that are in a text are of natural numbers. -/
theorem chk_ok {n : Nat} : ∀ {l : List (Int × Int)} {e : Nat}, chk e n l = true → ∃ m : List (Nat × Nat), l = zs m ∧ okS e n m
  | [], _, _ => ⟨[], rfl, trivial⟩
  | (a, b) :: t, e, h => by
    rw [chk] at h
    simp only [Bool.and_eq_true, decide_eq_true_eq] at h
    obtain ⟨⟨⟨h1, h2⟩, h3⟩, h4⟩ := h
    have ha : ((a.toNat : Nat) : Int) = a := by omega
    have hb : ((b.toNat : Nat) : Int) = b := by omega
    rw [← hb] at h4
    obtain ⟨m, rfl, hm⟩ := chk_ok h4
    refine ⟨(a.toNat, b.toNat) :: m, ?_, by show e ≤ a.toNat; omega, by show a.toNat < b.toNat; omega, by show b.toNat ≤ n; omega, hm⟩
    unfold zs
    rw [List.map_cons, ha, hb]
theorem okS_drop {n : Nat} : ∀ {e : Nat} {l : List (Nat × Nat)}, okS e n l → ∀ k (h : k < l.length), l[k].1 < l[k].2 ∧ l[k].2 ≤ n := fun h k hk => ⟨(okS_get h k hk).2.1, (okS_get h k hk).2.2.1⟩
/-- The bytes of spans. -/
def cutsB (s : ByteArray) (l : List (Nat × Nat)) : List ByteArray := l.map fun x => s.extract x.1 x.2
theorem cutsB_take (s : ByteArray) (l : List (Nat × Nat)) (k : Nat) (h : k < l.length) : cutsB s (l.take (k + 1)) = cutsB s (l.take k) ++ [s.extract l[k].1 l[k].2] := by
  unfold cutsB
  rw [List.take_succ_eq_append_getElem h, List.map_append]; rfl
def CutPost (w : World) (L : List ByteArray) (e : Ending) (w' : World) : Prop := ∃ v, e = .returned (.tuple #[v, .int .i64 0]) ∧ w'.ownsRow w.heap.size 9 1 v L.length (bsv L) ∧ Below w.heap.size w w'
theorem text_bad (s b e : ByteArray) (A : Option Addr) (c : Nat) (l : List (Int × Int)) (hl : l.length ≤ 8796093021952) (hno : chk 0 s.size l = false) (w : World) (hR : Reads w w.heap.size 2 A l.length (spZ l)) :
    Calls Try.prog 24 #[.string s, .string b, .string e, .slice A l.length c] w fun r w' => r = .returned (.tuple #[.string ⟨#[]⟩, .int .i64 5]) ∧ Below w.heap.size w w' := by
  have cc := check_any s A c l hl w hR
  rw [hno] at cc
  go_enter Try.func24, Try.ntmps24
  go_wp2_with fail
  refine cc.mono ?_
  rintro r w2 ⟨rfl, hb2⟩
  go_wp2
  go_ret2
  exact ⟨rfl, hb2⟩
theorem cuts_bad (s : ByteArray) (A : Option Addr) (c : Nat) (l : List (Int × Int)) (hl : l.length ≤ 8796093021952) (hno : chk 0 s.size l = false) (w : World) (hR : Reads w w.heap.size 2 A l.length (spZ l)) :
    Calls Try.prog 32 #[.string s, .slice A l.length c] w fun r w' => r = .returned (.tuple #[.slice none 0 0, .int .i64 5]) ∧ Below w.heap.size w w' := by
  have cc := check_any s A c l hl w hR
  rw [hno] at cc
  go_enter Try.func32, Try.ntmps32
  go_wp2_with fail
  refine cc.mono ?_
  rintro r w2 ⟨rfl, hb2⟩
  go_wp2
  go_ret2
  exact ⟨rfl, hb2⟩
theorem rtext_bad (s b e : ByteArray) (A : Option Addr) (c : Nat) (l : List (Int × Int)) (hl : l.length ≤ 8796093021952) (hno : chk 0 s.size l = false) (w : World) (hR : Reads w w.heap.size 2 A l.length (spZ l)) :
    Calls Try.prog 31 #[.string s, .string b, .string e, .slice A l.length c] w fun r w' => r = .returned (.tuple #[.string ⟨#[]⟩, .int .i64 5]) ∧ Below w.heap.size w w' := by
  have cc := in_any s A c l hl w hR
  rw [hno] at cc
  go_enter Try.func31, Try.ntmps31
  go_wp2_with fail
  refine cc.mono ?_
  rintro r w2 ⟨rfl, hb2⟩
  go_wp2
  go_ret2
  exact ⟨rfl, hb2⟩
theorem rcuts_bad (s : ByteArray) (A : Option Addr) (c : Nat) (l : List (Int × Int)) (hl : l.length ≤ 8796093021952) (hno : chk 0 s.size l = false) (w : World) (hR : Reads w w.heap.size 2 A l.length (spZ l)) :
    Calls Try.prog 33 #[.string s, .slice A l.length c] w fun r w' => r = .returned (.tuple #[.slice none 0 0, .int .i64 5]) ∧ Below w.heap.size w w' := by
  have cc := in_any s A c l hl w hR
  rw [hno] at cc
  go_enter Try.func33, Try.ntmps33
  go_wp2_with fail
  refine cc.mono ?_
  rintro r w2 ⟨rfl, hb2⟩
  go_wp2
  go_ret2
  exact ⟨rfl, hb2⟩

set_option maxHeartbeats 3200000 in
theorem cuts_ok (s : ByteArray) (A : Option Addr) (c : Nat) (l : List (Nat × Nat)) (hok : okS 0 s.size l) (hl : l.length ≤ 1000) (w : World) (hR : Reads w w.heap.size 2 A l.length (spC l)) :
    Calls Try.prog 32 #[.string s, .slice A l.length c] w (CutPost w (cutsB s l)) := by
  obtain ⟨i0, hi0, hz0, hz1, hz2⟩ := info_parts str_info
  have hzl : (zs l).length = l.length := by simp [zs]
  have cc := check_any s A c (zs l) (by omega) w (by rw [hzl, ← spC_zs]; exact hR)
  have hck : chk 0 s.size (zs l) = true := by have := chk_zs (n := s.size) (e := 0) hok; simpa using this
  rw [hck, hzl] at cc
  have HR := Lib.hid hR
  have Hok := Lib.hid (okS_drop hok)
  clear hR hok hzl hck
  go_enter Try.func32, Try.ntmps32
  go_wp2_with fail
  refine cc.mono ?_
  rintro r w2 ⟨rfl, hb2⟩
  have Hb2 := Lib.hid hb2
  have HR2 := Lib.hid (reads_grow hb2 HR.out)
  clear cc hb2
  go_wp2_with fail
  go_loopw [7, 18] (fun v i wr => ∃ k : Nat, k ≤ l.length ∧ i = .int .i64 k ∧ wr.ownsRow w2.heap.size 9 1 v k (bsv (cutsB s (l.take k))) ∧ Below w2.heap.size w2 wr) (fun _ i _ => l.length - (intOf i).toNat)
  case atStart => exact ⟨0, Nat.zero_le _, rfl, World.ownsRow_nil _ _ _ _, Below.refl _ _⟩
  case round =>
    obtain ⟨k, hk, rfl, hrow, hb⟩ := hrel
    by_cases hlt : k < l.length
    · obtain ⟨bb, o, rfl, hbb, y0, y1⟩ := spans_at (reads_grow hb HR2.out) hlt
      have hk1 : (k : Int) < (l.length : Int) := by omega
      have hts := cutsB_take s l k hlt
      obtain ⟨q1, q2⟩ := Hok.out k hlt
      generalize l[k] = x at *
      obtain ⟨x1, x2⟩ := x
      simp only at y0 y1 q1 q2 hts
      have hsl2 : ∀ W : World, (Instr.slice 9 (.string s) (some (.int .i64 (x1 : Nat))) (some (.int .i64 (x2 : Nat))) none).run Try.prog W = .ok (.string (s.extract x1 x2)) W := fun W => by
        rw [run_slice_string W 9 s .i64 .i64 _ _ Try.underlying9 (by omega) (by omega) (by omega)]
        simp
      have hbz := hb.size
      have Hts := Lib.hid hts
      have Hb := Lib.hid hb
      have Hrow := Lib.hid hrow
      clear hts hb hrow
      go_wp2_with (at_builtin; refine wpList_append_own _ rfl _ _ 28 rfl w2.heap.size 9 i0 _ 1 16 Try.underlying28 hi0 hz0 hz1 hz2 rfl (by decide) _ _ _ rfl ((Hrow.out.alloc _).alloc _) ⟨wr.heap.size + 1, 0, none⟩ 1 1 [.string (s.extract x1 x2)] rfl rfl (World.news_of_block (cs := #[.string (s.extract x1 x2)]) (t := 9) (fr := (0, 0)) (new2 wr _ _)) ?d2 ?d3 ?d4 ?d5 ?_)
      case d2 => intro u hu; simp at hu; subst hu; rfl
      case d3 => unfold maxLen; omega
      case d4 => omega
      case d5 => first | omega | (simp; omega)
      intro v' w4 hown4 hgrow _
      have hb4 := ((Hb.out.alloc hbz (.cells #[.int .i64 (x1 : Nat), .int .i64 (x2 : Nat)] 45)).alloc (by simp; omega) (.cells #[.string (s.extract x1 x2)] 9)).grown hgrow (by simp; omega) (fun j hj => (Hrow.out.lt j hj).1)
      have hrow4 : w4.ownsRow w2.heap.size 9 1 v' (k + 1) (bsv (cutsB s (l.take (k + 1)))) := by rw [Hts.out, bsv_snoc]; exact hown4
      have Hrow4 := Lib.hid hrow4
      have Hb4 := Lib.hid hb4
      clear hown4 hgrow hb4 hrow4
      go_wp2
      go_roundw
      case rel => exact ⟨k + 1, by omega, by go_num, Hrow4.out, Hb4.out⟩
      case measure => simp [intOf]; omega
    · obtain rfl : k = l.length := by omega
      have hall : l.take l.length = l := List.take_of_length_le (Nat.le_refl _)
      rw [hall] at hrow
      have Hrow := Lib.hid (row_base hrow Hb2.out.size)
      have Hb := Lib.hid (Hb2.out.trans (hb.mono Hb2.out.size))
      have Hcl : Hid ((cutsB s l).length = l.length) := Lib.hid (by simp [cutsB])
      clear hrow hb hall
      go_wp2
      go_ret2
      exact ⟨_, rfl, by rw [Hcl.out]; exact Hrow.out, Hb.out⟩

set_option maxHeartbeats 3200000 in
theorem rcuts_ok (s : ByteArray) (A : Option Addr) (c : Nat) (l : List (Nat × Nat)) (hok : okS 0 s.size l) (hl : l.length ≤ 1000) (w : World) (hR : Reads w w.heap.size 2 A l.length (spC l)) :
    Calls Try.prog 33 #[.string s, .slice A l.length c] w (CutPost w (cutsB s l)) := by
  obtain ⟨i0, hi0, hz0, hz1, hz2⟩ := info_parts str_info
  have hzl : (zs l).length = l.length := by simp [zs]
  have cc := in_any s A c (zs l) (by omega) w (by rw [hzl, ← spC_zs]; exact hR)
  have hck : chk 0 s.size (zs l) = true := by have := chk_zs (n := s.size) (e := 0) hok; simpa using this
  rw [hck, hzl] at cc
  have HR := Lib.hid hR
  have Hok := Lib.hid (okS_drop hok)
  clear hR hok hzl hck
  go_enter Try.func33, Try.ntmps33
  go_wp2_with fail
  refine cc.mono ?_
  rintro r w2 ⟨rfl, hb2⟩
  have Hb2 := Lib.hid hb2
  have HR2 := Lib.hid (reads_grow hb2 HR.out)
  clear cc hb2
  go_wp2_with fail
  go_loopw [6, 7] (fun v i wr => ∃ k : Nat, k ≤ l.length ∧ i = .int .i64 k ∧ wr.ownsRow w2.heap.size 9 1 v k (bsv (cutsB s (l.take k))) ∧ Below w2.heap.size w2 wr) (fun _ i _ => l.length - (intOf i).toNat)
  case atStart => exact ⟨0, Nat.zero_le _, rfl, World.ownsRow_nil _ _ _ _, Below.refl _ _⟩
  case round =>
    obtain ⟨k, hk, rfl, hrow, hb⟩ := hrel
    by_cases hlt : k < l.length
    · obtain ⟨bb, o, rfl, hbb, y0, y1⟩ := spans_at (reads_grow hb HR2.out) hlt
      have hk0 : (0 : Int) ≤ (k : Int) := by omega
      have hk1 : (k : Int) < (l.length : Int) := by omega
      have hts := cutsB_take s l k hlt
      obtain ⟨q1, q2⟩ := Hok.out k hlt
      generalize l[k] = x at *
      obtain ⟨x1, x2⟩ := x
      simp only at y0 y1 q1 q2 hts
      have hcells : ∀ wx, Below wr.heap.size wr wx → wx.cell? ⟨bb, o + k * 2, none⟩ = some (.int .i64 (x1 : Nat)) ∧ wx.cell? ⟨bb, o + k * 2 + 1, none⟩ = some (.int .i64 (x2 : Nat)) := fun wx hC =>
        ⟨(hC.cell (p := ⟨bb, o + k * 2, none⟩) hbb).trans y0, (hC.cell (p := ⟨bb, o + k * 2 + 1, none⟩) hbb).trans y1⟩
      have hsl2 : ∀ W : World, (Instr.slice 9 (.string s) (some (.int .i64 (x1 : Nat))) (some (.int .i64 (x2 : Nat))) none).run Try.prog W = .ok (.string (s.extract x1 x2)) W := fun W => by
        rw [run_slice_string W 9 s .i64 .i64 _ _ Try.underlying9 (by omega) (by omega) (by omega)]
        simp
      have Hcells := Lib.hid hcells
      have hbz := hb.size
      have Hts := Lib.hid hts
      have Hb := Lib.hid hb
      have Hrow := Lib.hid hrow
      clear hts hb hrow hcells y0 y1
      go_wp2_with fail
      refine wp_region_grow_tail 14 (specOf [(13, ⟨Nat, fun x => .slice (some ⟨x, 0, none⟩) 1 1, fun x w' => Blk w' x 9 #[.string (s.extract x1 x2)] ∧ wr.heap.size ≤ x⟩)]) (fun wx => Below wr.heap.size wr wx) (fun w1 w2 => Below w1.heap.size w1 w2) (by kernel_rfl) (by kernel_rfl) (stab_cons (fun x w1 w2 hg h => ⟨h.1.below hg h.1.lt, h.2⟩) (stab_nil)) ((Below.refl _ _).drew) ?_
      simp only [List.take_succ_cons, List.take_zero, List.drop_succ_cons, List.drop_zero]
      refine grow_fix 1 ?_ rfl (by rfl) (by rfl) (fun wx hC hD => ?_) ?_
      rotate_left
      · have hSw := Hcells.out wx hC
        go_simp
        all_goals with_reducible rfl
      try simp only [Act.put, List.setIfInBounds_toArray, List.set_cons_zero, List.set_cons_succ]
      refine grow_fix 2 ?_ rfl (by rfl) (by rfl) (fun wx hC hD => ?_) ?_
      rotate_left
      · have hSw := Hcells.out wx hC
        go_simp
        all_goals with_reducible rfl
      try simp only [Act.put, List.setIfInBounds_toArray, List.set_cons_zero, List.set_cons_succ]
      refine grow_fix 3 ?_ rfl (by rfl) (by rfl) (fun wx hC hD => ?_) ?_
      rotate_left
      · have hSw := Hcells.out wx hC
        go_simp
        all_goals with_reducible rfl
      try simp only [Act.put, List.setIfInBounds_toArray, List.set_cons_zero, List.set_cons_succ]
      refine grow_fix 4 ?_ rfl (by rfl) (by rfl) (fun wx hC hD => ?_) ?_
      rotate_left
      · have hSw := Hcells.out wx hC
        go_simp
        all_goals with_reducible rfl
      try simp only [Act.put, List.setIfInBounds_toArray, List.set_cons_zero, List.set_cons_succ]
      refine grow_fix 5 ?_ rfl (by rfl) (by rfl) (fun wx hC hD => ?_) ?_
      rotate_left
      · have hSw := Hcells.out wx hC
        go_simp
        all_goals with_reducible rfl
      try simp only [Act.put, List.setIfInBounds_toArray, List.set_cons_zero, List.set_cons_succ]
      refine grow_fix 6 ?_ rfl (by rfl) (by rfl) (fun wx hC hD => ?_) ?_
      rotate_left
      · have hSw := Hcells.out wx hC
        go_simp
        all_goals with_reducible rfl
      try simp only [Act.put, List.setIfInBounds_toArray, List.set_cons_zero, List.set_cons_succ]
      refine grow_fix 7 ?_ rfl (by rfl) (by rfl) (fun wx hC hD => ?_) ?_
      rotate_left
      · have hSw := Hcells.out wx hC
        go_simp
        all_goals with_reducible rfl
      try simp only [Act.put, List.setIfInBounds_toArray, List.set_cons_zero, List.set_cons_succ]
      refine grow_fix 8 ?_ rfl (by rfl) (by rfl) (fun wx hC hD => ?_) ?_
      rotate_left
      · have hSw := Hcells.out wx hC
        go_simp
        all_goals with_reducible rfl
      try simp only [Act.put, List.setIfInBounds_toArray, List.set_cons_zero, List.set_cons_succ]
      refine grow_fix 9 ?_ rfl (by rfl) (by rfl) (fun wx hC hD => ?_) ?_
      rotate_left
      · have hSw := Hcells.out wx hC
        go_simp
        all_goals with_reducible rfl
      try simp only [Act.put, List.setIfInBounds_toArray, List.set_cons_zero, List.set_cons_succ]
      refine grow_fix 10 ?_ rfl (by rfl) (by rfl) (fun wx hC hD => ?_) ?_
      rotate_left
      · have hSw := Hcells.out wx hC
        go_simp
        all_goals with_reducible rfl
      try simp only [Act.put, List.setIfInBounds_toArray, List.set_cons_zero, List.set_cons_succ]
      refine grow_fix 11 ?_ rfl (by rfl) (by rfl) (fun wx hC hD => ?_) ?_
      rotate_left
      · have hSw := Hcells.out wx hC
        go_simp
        all_goals with_reducible rfl
      try simp only [Act.put, List.setIfInBounds_toArray, List.set_cons_zero, List.set_cons_succ]
      refine grow_fix 12 ?_ rfl (by rfl) (by rfl) (fun wx hC hD => ?_) ?_
      rotate_left
      · have hSw := Hcells.out wx hC
        go_simp
        all_goals with_reducible rfl
      try simp only [Act.put, List.setIfInBounds_toArray, List.set_cons_zero, List.set_cons_succ]
      refine grow_fix 13 ?_ rfl (by rfl) (by rfl) (fun wx hC hD => ?_) ?_
      rotate_left
      · have hSw := Hcells.out wx hC
        go_simp
        all_goals with_reducible rfl
      try simp only [Act.put, List.setIfInBounds_toArray, List.set_cons_zero, List.set_cons_succ]
      refine grow_give 14 _ rfl (by rfl) (by rfl) (fun wx hC hD => ?_) (fun x => ?_)
      · refine give_value (u := ?_) (w' := ?_) ?_ ?_ ?_
        rotate_left 2
        · have hSw := Hcells.out wx hC
          go_simp
          all_goals first | with_reducible rfl | (refine ⟨?_, ?_⟩ <;> with_reducible rfl)
        · exact (Below.refl _ _).alloc (Nat.le_refl _) _
        · exact ⟨hC.alloc hC.size _, wx.heap.size, rfl, Blk.new _ _ _, hC.size⟩
      rename Nat => g
      try simp only [Act.put, List.setIfInBounds_toArray, List.set_cons_zero, List.set_cons_succ]
      refine grow_nil (fun w5 hC hF => ?_)
      obtain ⟨hBg, hgl⟩ := upd_hit (hF 13) (by decide)
      have hrow5 := Hrow.out.kept (grow_of_below hC none) (by cases hv : u6.ownBlock <;> simp)
      have hb5 := Hb.out.trans (hC.mono Hb.out.size)
      have hz5 := hC.size
      have Hb5 := Lib.hid hb5
      have HBg := Lib.hid hBg
      have Hown := Lib.hid hrow5
      clear hF hC Hcells Hrow Hb hb5 hBg hrow5 hsl2
      show wpList _ _ _ _ _ _
      go_wp2_with (at_builtin; refine wpList_append_own _ rfl _ _ 28 rfl w2.heap.size 9 i0 _ 1 16 Try.underlying28 hi0 hz0 hz1 hz2 rfl (by decide) _ _ _ rfl Hown.out ⟨g, 0, none⟩ 1 1 [.string (s.extract x1 x2)] rfl rfl (World.news_of_block (cs := #[.string (s.extract x1 x2)]) (t := 9) (fr := (0, 0)) HBg.out) ?d2 ?d3 ?d4 ?d5 ?_)
      case d2 => intro u hu; simp at hu; subst hu; rfl
      case d3 => unfold maxLen; omega
      case d4 => omega
      case d5 => omega
      intro v' w6 hown6 hgrow _
      have hb6 := Hb5.out.grown hgrow Hb5.out.size (fun j hj => (Hown.out.lt j hj).1)
      have hrow6 : w6.ownsRow w2.heap.size 9 1 v' (k + 1) (bsv (cutsB s (l.take (k + 1)))) := by rw [Hts.out, bsv_snoc]; exact hown6
      have Hb6 := Lib.hid hb6
      have Hrow6 := Lib.hid hrow6
      clear hown6 hgrow hb6 hrow6
      go_wp2
      go_roundw
      case rel => exact ⟨k + 1, by omega, by go_num, Hrow6.out, Hb6.out⟩
      case measure => simp [intOf]; omega
    · obtain rfl : k = l.length := by omega
      have hall : l.take l.length = l := List.take_of_length_le (Nat.le_refl _)
      rw [hall] at hrow
      have Hrow := Lib.hid (row_base hrow Hb2.out.size)
      have Hb := Lib.hid (Hb2.out.trans (hb.mono Hb2.out.size))
      have Hcl : Hid ((cutsB s l).length = l.length) := Lib.hid (by simp [cutsB])
      clear hrow hb hall
      go_wp2
      go_ret2
      exact ⟨_, rfl, by rw [Hcl.out]; exact Hrow.out, Hb.out⟩
end Go.Proofs.Ytjfconddkfihcaa.Mk
