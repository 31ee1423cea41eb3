/- mark.Text, larger bounds. -/
import Derived.Test.YtjfconddkfihcaaMkWPk
namespace Go.Proofs.Ytjfconddkfihcaa.Mk
open Go.RowKit Go.Proofs.Ytjfconddkfihcaa Go.Proofs.Ytjfconddkfihcaa.Ut Go.Proofs.Ytjfconddkfihcaa.Tk Go.Proofs.Ytjfconddkfihcaa.Qy
set_option maxRecDepth 20000
set_option linter.unusedSimpArgs false

theorem write_anyL {w wr : World} {a : List UInt8} (h : Wr w wr a) (s : List UInt8) (hl : a.length + s.length ≤ 1000000) : Calls Try.prog 69 #[.pointer (some ⟨w.heap.size, 0, none⟩), .string (str s)] wr fun e w' =>
    e = .returned (.tuple #[.int .i64 (s.length : Nat), .nilIface]) ∧ Wr w w' (a ++ s) ∧ wr.heap.size ≤ w'.heap.size ∧ ∀ g t cs, t ≠ 104 → t ≠ 5 → Blk wr g t cs → Blk w' g t cs := by
  have c := writeStringK w.heap.size w.heap.size (Lib.byteCells a) (str s) wr h.bu (by rw [str_size]; simp [Lib.byteCells]; omega) h.bel.size
  refine c.mono fun e w' ⟨he, hb, hw, hk⟩ => ⟨by rw [he, str_size], ⟨?_, h.bel.trans hw⟩, hw.size, hk⟩
  have e2 : Lib.byteCells a ++ Lib.strCells (str s) = Lib.byteCells (a ++ s) := by
    simp [Lib.byteCells, Lib.strCells, str]
  rw [← e2]
  exact .inr hb

theorem write_anyM {w wr : World} {a : List UInt8} (h : Wr w wr a) (s : List UInt8) (hl : a.length + s.length ≤ 1000000) : Calls Try.prog 69 #[.pointer (some ⟨w.heap.size, 0, none⟩), .string (str s)] wr fun e w' =>
    e = .returned (.tuple #[.int .i64 (s.length : Nat), .nilIface]) ∧ Wr w w' (a ++ s) := (write_anyL h s hl).mono fun _ _ h => ⟨h.1, h.2.1⟩

set_option maxHeartbeats 6400000 in
theorem text_okL (s b e : ByteArray) (A : Option Addr) (c : Nat) (l : List (Nat × Nat)) (hok : okS 0 s.size l) (hl : l.length ≤ 1000000) (hbd : s.size + l.length * (b.size + e.size) ≤ 1000000) (w : World) (hR : Reads w w.heap.size 2 A l.length (spC l)) :
    Calls Try.prog 24 #[.string s, .string b, .string e, .slice A l.length c] w fun r w' => r = .returned (.tuple #[.string (str (textN s.data.toList b.data.toList e.data.toList 0 l)), .int .i64 0]) ∧ Below w.heap.size w w' := by
  have hzl : (zs l).length = l.length := by simp [zs]
  have cc := check_any s A c (zs l) (by omega) w (by rw [hzl, ← spC_zs]; exact hR)
  have hck : chk 0 s.size (zs l) = true := by have := chk_zs (n := s.size) (e := 0) hok; simpa using this
  rw [hck, hzl] at cc
  have HR := Lib.hid hR
  have Hok := Lib.hid hok
  have hmul : ∀ k, k ≤ l.length → k * (b.size + e.size) ≤ l.length * (b.size + e.size) := fun k h => Nat.mul_le_mul_right _ h
  have Hmul := Lib.hid hmul
  clear hR hok hzl hmul
  go_enter Try.func24, Try.ntmps24
  go_wp2_with fail
  refine cc.mono ?_
  rintro r w2 ⟨rfl, hb2⟩
  have Hb2 := Lib.hid hb2
  have hW0 := Wr.start w2
  have HW0 := Lib.hid hW0
  have HR2 := Lib.hid (reads_grow hb2 HR.out)
  clear cc hb2 hW0
  go_wp2_with fail
  go_loopw [12, 23] (fun v i wr => ∃ (k at_ : Nat) (acc : List UInt8), k ≤ l.length ∧ i = .int .i64 k ∧ v = .int .i64 (at_ : Nat) ∧ Hid (acc ++ textN s.data.toList b.data.toList e.data.toList at_ (l.drop k) = textN s.data.toList b.data.toList e.data.toList 0 l) ∧ Hid (okS at_ s.size (l.drop k)) ∧ at_ ≤ s.size ∧ acc.length = at_ + k * (b.size + e.size) ∧ Wr w2 wr acc) (fun _ i _ => l.length - (intOf i).toNat)
  case atStart => exact ⟨0, 0, [], Nat.zero_le _, rfl, rfl, Lib.hid rfl, Hok, Nat.zero_le _, by simp, HW0.out⟩
  case round =>
    obtain ⟨k, at_, acc, hk, rfl, rfl, hT, hO, hat, hal, hW⟩ := hrel
    by_cases hlt : k < l.length
    · obtain ⟨bb, o, rfl, hbb, y0, y1⟩ := spans_at (reads_grow hW.bel HR2.out) hlt
      have hk1 : (k : Int) < (l.length : Int) := by omega
      have hdr : l.drop k = l[k] :: l.drop (k + 1) := List.drop_eq_getElem_cons hlt
      have hT1 := hT.out
      have hO1 := hO.out
      rw [hdr] at hT1 hO1
      have hm1 := Hmul.out (k + 1) hlt
      rw [Nat.add_mul, Nat.one_mul] at hm1
      clear hdr
      generalize l[k] = x at *
      obtain ⟨x1, x2⟩ := x
      obtain ⟨q1, q2, q3, q4⟩ := hO1
      simp only [textN] at hT1
      simp only at y0 y1 q1 q2 q3 q4
      have hba : Below wr.heap.size wr (wr.alloc (.cells #[.int .i64 (x1 : Nat), .int .i64 (x2 : Nat)] 45)) := (Below.refl _ _).alloc (Nat.le_refl _) _
      have hWa := hW.below hba
      have hBx := Blk.new wr 45 #[.int .i64 (x1 : Nat), .int .i64 (x2 : Nat)]
      have hza : wr.heap.size < (wr.alloc (.cells #[.int .i64 (x1 : Nat), .int .i64 (x2 : Nat)] 45)).heap.size := by simp
      have hsl1 : ∀ W : World, (Instr.slice 9 (.string s) (some (.int .i64 (at_ : Nat))) (some (.int .i64 (x1 : Nat))) none).run Try.prog W = .ok (.string (s.extract at_ x1)) W := fun W => by
        rw [run_slice_string W 9 s .i64 .i64 _ _ Try.underlying9 (by omega) (by omega) (by omega)]
        simp
      have hsl2 : ∀ W : World, (Instr.slice 9 (.string s) (some (.int .i64 (x1 : Nat))) (some (.int .i64 (x2 : Nat))) none).run Try.prog W = .ok (.string (s.extract x1 x2)) W := fun W => by
        rw [run_slice_string W 9 s .i64 .i64 _ _ Try.underlying9 (by omega) (by omega) (by omega)]
        simp
      have hnew : (((s.extract at_ x1 ++ b) ++ s.extract x1 x2) ++ e).data.toList = (s.data.toList.take x1).drop at_ ++ b.data.toList ++ (s.data.toList.take x2).drop x1 ++ e.data.toList := by
        rw [app_list, app_list, app_list, extract_list, extract_list]
      have hnl : (((s.extract at_ x1 ++ b) ++ s.extract x1 x2) ++ e).data.toList.length = (x2 - at_) + (b.size + e.size) := by
        rw [bsize]
        simp only [ByteArray.size_append, ByteArray.size_extract]
        omega
      have HWa := Lib.hid hWa
      have HBx := Lib.hid hBx
      have HT1 := Lib.hid hT1
      have HO1 := Lib.hid q4
      have Hnew := Lib.hid hnew
      have Hnl := Lib.hid hnl
      clear hW hT hO hba hWa hBx hT1 q4 hnew hnl
      have hcells : ∀ wx, Below (wr.alloc (.cells #[.int .i64 (x1 : Nat), .int .i64 (x2 : Nat)] 45)).heap.size (wr.alloc (.cells #[.int .i64 (x1 : Nat), .int .i64 (x2 : Nat)] 45)) wx → wx.cell? ⟨wr.heap.size, 0, none⟩ = some (.int .i64 (x1 : Nat)) ∧ wx.cell? ⟨wr.heap.size, 1, none⟩ = some (.int .i64 (x2 : Nat)) := fun wx hC =>
        ⟨(HBx.out.below hC hza).cell 0, (HBx.out.below hC hza).cell 1⟩
      have Hcells := Lib.hid hcells
      clear hcells
      go_wp2_with fail
      generalize hwa : (wr.alloc (.cells #[.int .i64 (x1 : Nat), .int .i64 (x2 : Nat)] 45)) = wa at *
      clear hwa y0 y1
      have hcA : ¬ 9223372036854775807 < min x1 s.size - at_ + b.size := by omega
      have hcB : ¬ 9223372036854775807 < min x1 s.size - at_ + b.size + (x2 - x1) := by omega
      have hcC : ¬ 9223372036854775807 < min x1 s.size - at_ + b.size + (x2 - x1) + e.size := by omega

      refine wp_region_grow_tail 16 (specOf []) (fun wx => Below wa.heap.size wa wx) (fun w1 w2 => Below w1.heap.size w1 w2) (by kernel_rfl) (by kernel_rfl) (stab_nil) ((Below.refl _ _).drew) ?_
      simp only [List.take_succ_cons, List.take_zero, List.drop_succ_cons, List.drop_zero]
      refine grow_fix 1 ?_ rfl (by rfl) (by rfl) (fun wx hC hD => ?_) ?_
      rotate_left
      · have hSw := Hcells.out wx hC
        go_simp
        all_goals with_reducible rfl
      try simp only [Act.put, List.setIfInBounds_toArray, List.set_cons_zero, List.set_cons_succ]
      refine grow_fix 2 ?_ rfl (by rfl) (by rfl) (fun wx hC hD => ?_) ?_
      rotate_left
      · have hSw := Hcells.out wx hC
        go_simp
        all_goals with_reducible rfl
      try simp only [Act.put, List.setIfInBounds_toArray, List.set_cons_zero, List.set_cons_succ]
      refine grow_fix 3 ?_ rfl (by rfl) (by rfl) (fun wx hC hD => ?_) ?_
      rotate_left
      · have hSw := Hcells.out wx hC
        go_simp
        all_goals with_reducible rfl
      try simp only [Act.put, List.setIfInBounds_toArray, List.set_cons_zero, List.set_cons_succ]
      refine grow_fix 4 ?_ rfl (by rfl) (by rfl) (fun wx hC hD => ?_) ?_
      rotate_left
      · have hSw := Hcells.out wx hC
        go_simp
        all_goals with_reducible rfl
      try simp only [Act.put, List.setIfInBounds_toArray, List.set_cons_zero, List.set_cons_succ]
      refine grow_fix 5 ?_ rfl (by rfl) (by rfl) (fun wx hC hD => ?_) ?_
      rotate_left
      · have hSw := Hcells.out wx hC
        go_simp
        all_goals with_reducible rfl
      try simp only [Act.put, List.setIfInBounds_toArray, List.set_cons_zero, List.set_cons_succ]
      refine grow_fix 6 ?_ rfl (by rfl) (by rfl) (fun wx hC hD => ?_) ?_
      rotate_left
      · have hSw := Hcells.out wx hC
        go_simp
        all_goals with_reducible rfl
      try simp only [Act.put, List.setIfInBounds_toArray, List.set_cons_zero, List.set_cons_succ]
      refine grow_fix 7 ?_ rfl (by rfl) (by rfl) (fun wx hC hD => ?_) ?_
      rotate_left
      · have hSw := Hcells.out wx hC
        go_simp
        all_goals with_reducible rfl
      try simp only [Act.put, List.setIfInBounds_toArray, List.set_cons_zero, List.set_cons_succ]
      refine grow_fix 8 ?_ rfl (by rfl) (by rfl) (fun wx hC hD => ?_) ?_
      rotate_left
      · have hSw := Hcells.out wx hC
        go_simp
        all_goals with_reducible rfl
      try simp only [Act.put, List.setIfInBounds_toArray, List.set_cons_zero, List.set_cons_succ]
      refine grow_fix 9 ?_ rfl (by rfl) (by rfl) (fun wx hC hD => ?_) ?_
      rotate_left
      · have hSw := Hcells.out wx hC
        go_simp
        all_goals with_reducible rfl
      try simp only [Act.put, List.setIfInBounds_toArray, List.set_cons_zero, List.set_cons_succ]
      refine grow_fix 10 ?_ rfl (by rfl) (by rfl) (fun wx hC hD => ?_) ?_
      rotate_left
      · have hSw := Hcells.out wx hC
        go_simp
        all_goals with_reducible rfl
      try simp only [Act.put, List.setIfInBounds_toArray, List.set_cons_zero, List.set_cons_succ]
      refine grow_fix 11 ?_ rfl (by rfl) (by rfl) (fun wx hC hD => ?_) ?_
      rotate_left
      · have hSw := Hcells.out wx hC
        go_simp
        all_goals with_reducible rfl
      try simp only [Act.put, List.setIfInBounds_toArray, List.set_cons_zero, List.set_cons_succ]
      refine grow_fix 12 ?_ rfl (by rfl) (by rfl) (fun wx hC hD => ?_) ?_
      rotate_left
      · have hSw := Hcells.out wx hC
        go_simp
        all_goals with_reducible rfl
      try simp only [Act.put, List.setIfInBounds_toArray, List.set_cons_zero, List.set_cons_succ]
      refine grow_fix 13 ?_ rfl (by rfl) (by rfl) (fun wx hC hD => ?_) ?_
      rotate_left
      · have hSw := Hcells.out wx hC
        go_simp
        all_goals with_reducible rfl
      try simp only [Act.put, List.setIfInBounds_toArray, List.set_cons_zero, List.set_cons_succ]
      refine grow_fix 14 ?_ rfl (by rfl) (by rfl) (fun wx hC hD => ?_) ?_
      rotate_left
      · have hSw := Hcells.out wx hC
        go_simp
        all_goals with_reducible rfl
      try simp only [Act.put, List.setIfInBounds_toArray, List.set_cons_zero, List.set_cons_succ]
      refine grow_fix 15 ?_ rfl (by rfl) (by rfl) (fun wx hC hD => ?_) ?_
      rotate_left
      · have hSw := Hcells.out wx hC
        go_simp
        all_goals with_reducible rfl
      try simp only [Act.put, List.setIfInBounds_toArray, List.set_cons_zero, List.set_cons_succ]
      refine grow_fix 16 ?_ rfl (by rfl) (by rfl) (fun wx hC hD => ?_) ?_
      rotate_left
      · have hSw := Hcells.out wx hC
        go_simp
        all_goals with_reducible rfl
      try simp only [Act.put, List.setIfInBounds_toArray, List.set_cons_zero, List.set_cons_succ]
      refine grow_nil (fun w3 hC hF => ?_)
      have hW3 := HWa.out.below hC
      have cw := write_anyL hW3 (((s.extract at_ x1 ++ b) ++ s.extract x1 x2) ++ e).data.toList (by rw [Hnl.out, hal]; omega)
      rw [of_str] at cw
      have hB3 := HBx.out.below hC hza
      have HB3 := Lib.hid hB3
      clear hF hC hW3 Hcells hcA hcB hcC hB3
      show wpList _ _ _ _ _ _
      go_wp2_with fail
      refine cw.mono ?_
      rintro r4 w4 ⟨rfl, hW4, hz4, hk4⟩
      have hx4 := (hk4 _ _ _ (by decide) (by decide) HB3.out).cell 1
      simp only [List.getElem?_toArray, List.getElem?_cons_succ, List.getElem?_cons_zero] at hx4
      have Fin : Hid ((acc ++ (((s.extract at_ x1 ++ b) ++ s.extract x1 x2) ++ e).data.toList) ++ textN s.data.toList b.data.toList e.data.toList x2 (l.drop (k + 1)) = textN s.data.toList b.data.toList e.data.toList 0 l) := Lib.hid (by
        rw [Hnew.out, ← HT1.out]
        simp only [List.append_assoc])
      have HW4 := Lib.hid hW4
      have hlen : (acc ++ (((s.extract at_ x1 ++ b) ++ s.extract x1 x2) ++ e).data.toList).length = x2 + (k + 1) * (b.size + e.size) := by
        rw [List.length_append, Hnl.out, hal, Nat.add_mul, Nat.one_mul]
        omega
      have Hlen := Lib.hid hlen
      clear cw hW4 hk4 HB3 hlen
      go_wp2
      go_roundw
      case rel => exact ⟨k + 1, x2, _, by omega, by go_num, rfl, Fin, HO1, q3, Hlen.out, HW4.out⟩
      case measure => simp [intOf]; omega
    · obtain rfl : k = l.length := by omega
      have hd : l.drop l.length = [] := List.drop_eq_nil_of_le (by omega)
      have hT1 := hT.out
      rw [hd, textN] at hT1
      have hsl : ∀ W : World, (Instr.slice 9 (.string s) (some (.int .i64 (at_ : Nat))) none none).run Try.prog W = .ok (.string (s.extract at_ s.size)) W := fun W => by
        rw [run_slice_string_l W 9 s Try.underlying9 .i64 _ (by omega) (by omega)]
        simp
      have hnew : (s.extract at_ s.size).data.toList = s.data.toList.drop at_ := by
        rw [extract_list, ← bsize, List.take_length]
      have hnl : (s.extract at_ s.size).data.toList.length = s.size - at_ := by rw [hnew, List.length_drop, bsize]
      have cw := write_anyM hW (s.extract at_ s.size).data.toList (by rw [hnl, hal]; omega)
      rw [of_str, hnew, hT1] at cw
      have Hb3 := Lib.hid Hb2.out
      clear hW hT hO hT1 hd hnew hnl
      go_wp2_with fail
      refine cw.mono ?_
      rintro r4 w4 ⟨rfl, hW4⟩
      have cs := string_any hW4
      have hbs := hW4.bel
      clear cw hW4
      go_wp2_with (go_at_call 70; refine cs.mono ?_; rintro r5 w5 ⟨rfl, hb5⟩)
      go_ret2
      exact ⟨rfl, Hb3.out.trans (hb5.mono Hb3.out.size)⟩

end Go.Proofs.Ytjfconddkfihcaa.Mk
