/- The document's Text, the law MarkTexts: the walks (printed by gen_mkn.py). -/
import Derived.Test.YtjfconddkfihcaaPkMarkHitsRow34
import Derived.Test.YtjfconddkfihcaaPkMarkHitsRow28
section
namespace Go.Proofs.Ytjfconddkfihcaa.Mk
open Go.RowKit Go.Proofs.Ytjfconddkfihcaa Go.Proofs.Ytjfconddkfihcaa.Ut Go.Proofs.Ytjfconddkfihcaa.Tk Go.Proofs.Ytjfconddkfihcaa.Qy
set_option maxRecDepth 20000
set_option linter.unusedSimpArgs false

set_option maxHeartbeats 12800000 in
theorem rtext_ok (s b e : ByteArray) (A : Option Addr) (c : Nat) (l : List (Nat × Nat)) (hok : okS 0 s.size l) (hl : l.length ≤ 100000) (hbd : s.size + l.length * (b.size + e.size) ≤ 100000) (w : World) (hR : Reads w w.heap.size 2 A l.length (spC l)) :
    Calls Try.prog 31 #[.string s, .string b, .string e, .slice A l.length c] w fun r w' => r = .returned (.tuple #[.string (str (textN s.data.toList b.data.toList e.data.toList 0 l)), .int .i64 0]) ∧ Below w.heap.size w w' := by
  have hzl : (zs l).length = l.length := by simp [zs]
  have cc := in_any s A c (zs l) (by omega) w (by rw [hzl, ← spC_zs]; exact hR)
  have hck : chk 0 s.size (zs l) = true := by have := chk_zs (n := s.size) (e := 0) hok; simpa using this
  rw [hck, hzl] at cc
  have HR := Lib.hid hR
  have Hok := Lib.hid hok
  have hmul : ∀ k, k ≤ l.length → k * (b.size + e.size) ≤ l.length * (b.size + e.size) := fun k h => Nat.mul_le_mul_right _ h
  have Hmul := Lib.hid hmul
  clear hR hok hzl hmul hck
  go_enter Try.func31, Try.ntmps31
  go_wp2_with fail
  refine cc.mono ?_
  rintro r w2 ⟨rfl, hb2⟩
  have Hb2 := Lib.hid hb2
  have HR2 := Lib.hid (reads_grow hb2 HR.out)
  clear cc hb2
  go_wp2_with fail
  go_loopw [10, 11, 12] (fun a v i wr => ∃ (k at_ : Nat) (acc : ByteArray), k ≤ l.length ∧ i = .int .i64 k ∧ v = .int .i64 (at_ : Nat) ∧ a = .string acc ∧ Hid (acc.data.toList ++ textN s.data.toList b.data.toList e.data.toList at_ (l.drop k) = textN s.data.toList b.data.toList e.data.toList 0 l) ∧ Hid (okS at_ s.size (l.drop k)) ∧ at_ ≤ s.size ∧ Hid (acc.size = at_ + k * (b.size + e.size)) ∧ Below w2.heap.size w2 wr) (fun _ _ i _ => l.length - (intOf i).toNat)
  case atStart => exact ⟨0, 0, ⟨#[]⟩, Nat.zero_le _, rfl, rfl, rfl, Lib.hid rfl, Hok, Nat.zero_le _, Lib.hid (by rw [Nat.zero_mul]; rfl), Below.refl _ _⟩
  case round =>
    obtain ⟨k, at_, acc, hk, rfl, rfl, rfl, hT, hO, hat, hal, hb⟩ := hrel
    by_cases hlt : k < l.length
    · obtain ⟨bb, o, rfl, hbb, y0, y1⟩ := spans_at (reads_grow hb HR2.out) hlt
      have hk0 : (0 : Int) ≤ (k : Int) := by omega
      have hk1 : (k : Int) < (l.length : Int) := by omega
      have hdr : l.drop k = l[k] :: l.drop (k + 1) := List.drop_eq_getElem_cons hlt
      have hT1 := hT.out
      have hO1 := hO.out
      rw [hdr] at hT1 hO1
      have hm1 := Hmul.out (k + 1) hlt
      rw [Nat.add_mul, Nat.one_mul] at hm1
      have hal1 := hal.out
      clear hdr
      generalize l[k] = x at *
      obtain ⟨x1, x2⟩ := x
      obtain ⟨q1, q2, q3, q4⟩ := hO1
      simp only [textN] at hT1
      simp only at y0 y1 q1 q2 q3 q4
      have hsl1 : ∀ W : World, (Instr.slice 9 (.string s) (some (.int .i64 (at_ : Nat))) (some (.int .i64 (x1 : Nat))) none).run Try.prog W = .ok (.string (s.extract at_ x1)) W := fun W => by
        rw [run_slice_string W 9 s .i64 .i64 _ _ Try.underlying9 (by omega) (by omega) (by omega)]
        simp
      have hsl2 : ∀ W : World, (Instr.slice 9 (.string s) (some (.int .i64 (x1 : Nat))) (some (.int .i64 (x2 : Nat))) none).run Try.prog W = .ok (.string (s.extract x1 x2)) W := fun W => by
        rw [run_slice_string W 9 s .i64 .i64 _ _ Try.underlying9 (by omega) (by omega) (by omega)]
        simp
      have hnew : (acc ++ s.extract at_ x1 ++ b ++ s.extract x1 x2 ++ e).data.toList = acc.data.toList ++ ((s.data.toList.take x1).drop at_ ++ b.data.toList ++ (s.data.toList.take x2).drop x1 ++ e.data.toList) := by
        rw [app_list, app_list, app_list, app_list, extract_list, extract_list]
        simp only [List.append_assoc]
      have hnl : (acc ++ s.extract at_ x1 ++ b ++ s.extract x1 x2 ++ e).size = x2 + (k + 1) * (b.size + e.size) := by
        simp only [ByteArray.size_append, ByteArray.size_extract]
        rw [Nat.add_mul, Nat.one_mul]
        omega
      have hcA : ¬ 9223372036854775807 < acc.size + (min x1 s.size - at_) := by omega
      have hcB : ¬ 9223372036854775807 < acc.size + (min x1 s.size - at_) + b.size := by omega
      have hcC : ¬ 9223372036854775807 < acc.size + (min x1 s.size - at_) + b.size + (x2 - x1) := by omega
      have hcD : ¬ 9223372036854775807 < acc.size + (min x1 s.size - at_) + b.size + (x2 - x1) + e.size := by omega
      have hcells : ∀ wx, Below wr.heap.size wr wx → wx.cell? ⟨bb, o + k * 2, none⟩ = some (.int .i64 (x1 : Nat)) ∧ wx.cell? ⟨bb, o + k * 2 + 1, none⟩ = some (.int .i64 (x2 : Nat)) := fun wx hC =>
        ⟨(hC.cell (p := ⟨bb, o + k * 2, none⟩) hbb).trans y0, (hC.cell (p := ⟨bb, o + k * 2 + 1, none⟩) hbb).trans y1⟩
      have Hcells := Lib.hid hcells
      have HT1 := Lib.hid hT1
      have HO1 := Lib.hid q4
      have Hnew := Lib.hid hnew
      have Hnl := Lib.hid hnl
      have Hb := Lib.hid hb
      clear hT hO hT1 q4 hnew hnl hb hcells hal hal1 hm1
      go_wp2_with fail
      refine wp_region_grow (specOf []) (fun wx => Below (World.heap wr).size wr wx) (fun w1 w2 => Below w1.heap.size w1 w2) (by kernel_rfl) (by kernel_rfl) (stab_nil) (Below.refl _ _).drew ?_
      refine grow_fix 1 ?_ rfl (by rfl) (by rfl) (fun wx hC hD => ?_) ?_
      rotate_left
      · have hSw := Hcells.out wx hC
        go_simp
        all_goals with_reducible rfl
      try simp only [Act.put, List.setIfInBounds_toArray, List.set_cons_zero, List.set_cons_succ]
      refine grow_fix 2 ?_ rfl (by rfl) (by rfl) (fun wx hC hD => ?_) ?_
      rotate_left
      · have hSw := Hcells.out wx hC
        go_simp
        all_goals with_reducible rfl
      try simp only [Act.put, List.setIfInBounds_toArray, List.set_cons_zero, List.set_cons_succ]
      refine grow_fix 3 ?_ rfl (by rfl) (by rfl) (fun wx hC hD => ?_) ?_
      rotate_left
      · have hSw := Hcells.out wx hC
        go_simp
        all_goals with_reducible rfl
      try simp only [Act.put, List.setIfInBounds_toArray, List.set_cons_zero, List.set_cons_succ]
      refine grow_fix 4 ?_ rfl (by rfl) (by rfl) (fun wx hC hD => ?_) ?_
      rotate_left
      · have hSw := Hcells.out wx hC
        go_simp
        all_goals with_reducible rfl
      try simp only [Act.put, List.setIfInBounds_toArray, List.set_cons_zero, List.set_cons_succ]
      refine grow_fix 5 ?_ rfl (by rfl) (by rfl) (fun wx hC hD => ?_) ?_
      rotate_left
      · have hSw := Hcells.out wx hC
        go_simp
        all_goals with_reducible rfl
      try simp only [Act.put, List.setIfInBounds_toArray, List.set_cons_zero, List.set_cons_succ]
      refine grow_fix 6 ?_ rfl (by rfl) (by rfl) (fun wx hC hD => ?_) ?_
      rotate_left
      · have hSw := Hcells.out wx hC
        go_simp
        all_goals with_reducible rfl
      try simp only [Act.put, List.setIfInBounds_toArray, List.set_cons_zero, List.set_cons_succ]
      refine grow_fix 7 ?_ rfl (by rfl) (by rfl) (fun wx hC hD => ?_) ?_
      rotate_left
      · have hSw := Hcells.out wx hC
        go_simp
        all_goals with_reducible rfl
      try simp only [Act.put, List.setIfInBounds_toArray, List.set_cons_zero, List.set_cons_succ]
      refine grow_fix 8 ?_ rfl (by rfl) (by rfl) (fun wx hC hD => ?_) ?_
      rotate_left
      · have hSw := Hcells.out wx hC
        go_simp
        all_goals with_reducible rfl
      try simp only [Act.put, List.setIfInBounds_toArray, List.set_cons_zero, List.set_cons_succ]
      refine grow_fix 9 ?_ rfl (by rfl) (by rfl) (fun wx hC hD => ?_) ?_
      rotate_left
      · have hSw := Hcells.out wx hC
        go_simp
        all_goals with_reducible rfl
      try simp only [Act.put, List.setIfInBounds_toArray, List.set_cons_zero, List.set_cons_succ]
      refine grow_fix 10 ?_ rfl (by rfl) (by rfl) (fun wx hC hD => ?_) ?_
      rotate_left
      · have hSw := Hcells.out wx hC
        go_simp
        all_goals with_reducible rfl
      try simp only [Act.put, List.setIfInBounds_toArray, List.set_cons_zero, List.set_cons_succ]
      refine grow_fix 11 ?_ rfl (by rfl) (by rfl) (fun wx hC hD => ?_) ?_
      rotate_left
      · have hSw := Hcells.out wx hC
        go_simp
        all_goals with_reducible rfl
      try simp only [Act.put, List.setIfInBounds_toArray, List.set_cons_zero, List.set_cons_succ]
      refine grow_fix 12 ?_ rfl (by rfl) (by rfl) (fun wx hC hD => ?_) ?_
      rotate_left
      · have hSw := Hcells.out wx hC
        go_simp
        all_goals with_reducible rfl
      try simp only [Act.put, List.setIfInBounds_toArray, List.set_cons_zero, List.set_cons_succ]
      refine grow_fix 13 ?_ rfl (by rfl) (by rfl) (fun wx hC hD => ?_) ?_
      rotate_left
      · have hSw := Hcells.out wx hC
        go_simp
        all_goals with_reducible rfl
      try simp only [Act.put, List.setIfInBounds_toArray, List.set_cons_zero, List.set_cons_succ]
      refine grow_fix 14 ?_ rfl (by rfl) (by rfl) (fun wx hC hD => ?_) ?_
      rotate_left
      · have hSw := Hcells.out wx hC
        go_simp
        all_goals with_reducible rfl
      try simp only [Act.put, List.setIfInBounds_toArray, List.set_cons_zero, List.set_cons_succ]
      refine grow_fix 15 ?_ rfl (by rfl) (by rfl) (fun wx hC hD => ?_) ?_
      rotate_left
      · have hSw := Hcells.out wx hC
        go_simp
        all_goals with_reducible rfl
      try simp only [Act.put, List.setIfInBounds_toArray, List.set_cons_zero, List.set_cons_succ]
      refine grow_fix 16 ?_ rfl (by rfl) (by rfl) (fun wx hC hD => ?_) ?_
      rotate_left
      · have hSw := Hcells.out wx hC
        go_simp
        all_goals with_reducible rfl
      try simp only [Act.put, List.setIfInBounds_toArray, List.set_cons_zero, List.set_cons_succ]
      refine grow_fix 17 ?_ rfl (by rfl) (by rfl) (fun wx hC hD => ?_) ?_
      rotate_left
      · have hSw := Hcells.out wx hC
        go_simp
        all_goals with_reducible rfl
      try simp only [Act.put, List.setIfInBounds_toArray, List.set_cons_zero, List.set_cons_succ]
      refine grow_fix 18 ?_ rfl (by rfl) (by rfl) (fun wx hC hD => ?_) ?_
      rotate_left
      · have hSw := Hcells.out wx hC
        go_simp
        all_goals with_reducible rfl
      try simp only [Act.put, List.setIfInBounds_toArray, List.set_cons_zero, List.set_cons_succ]
      refine grow_fix 19 ?_ rfl (by rfl) (by rfl) (fun wx hC hD => ?_) ?_
      rotate_left
      · have hSw := Hcells.out wx hC
        go_simp
        all_goals with_reducible rfl
      try simp only [Act.put, List.setIfInBounds_toArray, List.set_cons_zero, List.set_cons_succ]
      refine grow_fix 20 ?_ rfl (by rfl) (by rfl) (fun wx hC hD => ?_) ?_
      rotate_left
      · have hSw := Hcells.out wx hC
        go_simp
        all_goals with_reducible rfl
      try simp only [Act.put, List.setIfInBounds_toArray, List.set_cons_zero, List.set_cons_succ]
      refine grow_fix 21 ?_ rfl (by rfl) (by rfl) (fun wx hC hD => ?_) ?_
      rotate_left
      · have hSw := Hcells.out wx hC
        go_simp
        all_goals with_reducible rfl
      try simp only [Act.put, List.setIfInBounds_toArray, List.set_cons_zero, List.set_cons_succ]
      refine grow_fix 22 ?_ rfl (by rfl) (by rfl) (fun wx hC hD => ?_) ?_
      rotate_left
      · have hSw := Hcells.out wx hC
        go_simp
        all_goals with_reducible rfl
      try simp only [Act.put, List.setIfInBounds_toArray, List.set_cons_zero, List.set_cons_succ]
      refine grow_fix 23 ?_ rfl (by rfl) (by rfl) (fun wx hC hD => ?_) ?_
      rotate_left
      · have hSw := Hcells.out wx hC
        go_simp
        all_goals with_reducible rfl
      try simp only [Act.put, List.setIfInBounds_toArray, List.set_cons_zero, List.set_cons_succ]
      refine grow_fix 24 ?_ rfl (by rfl) (by rfl) (fun wx hC hD => ?_) ?_
      rotate_left
      · have hSw := Hcells.out wx hC
        go_simp
        all_goals with_reducible rfl
      try simp only [Act.put, List.setIfInBounds_toArray, List.set_cons_zero, List.set_cons_succ]
      refine grow_fix 25 ?_ rfl (by rfl) (by rfl) (fun wx hC hD => ?_) ?_
      rotate_left
      · have hSw := Hcells.out wx hC
        go_simp
        all_goals with_reducible rfl
      try simp only [Act.put, List.setIfInBounds_toArray, List.set_cons_zero, List.set_cons_succ]
      refine grow_fix 26 ?_ rfl (by rfl) (by rfl) (fun wx hC hD => ?_) ?_
      rotate_left
      · have hSw := Hcells.out wx hC
        go_simp
        all_goals with_reducible rfl
      try simp only [Act.put, List.setIfInBounds_toArray, List.set_cons_zero, List.set_cons_succ]
      refine grow_fix 27 ?_ rfl (by rfl) (by rfl) (fun wx hC hD => ?_) ?_
      rotate_left
      · have hSw := Hcells.out wx hC
        go_simp
        all_goals with_reducible rfl
      try simp only [Act.put, List.setIfInBounds_toArray, List.set_cons_zero, List.set_cons_succ]
      refine grow_fix 28 ?_ rfl (by rfl) (by rfl) (fun wx hC hD => ?_) ?_
      rotate_left
      · have hSw := Hcells.out wx hC
        go_simp
        all_goals with_reducible rfl
      try simp only [Act.put, List.setIfInBounds_toArray, List.set_cons_zero, List.set_cons_succ]
      refine grow_nil (fun w5 hC hF => ?_)
      have Hb5 := Lib.hid (Hb.out.trans (hC.mono Hb.out.size))
      have hx2 := (Hcells.out w5 hC).2
      have Fin : Hid ((acc ++ s.extract at_ x1 ++ b ++ s.extract x1 x2 ++ e).data.toList ++ textN s.data.toList b.data.toList e.data.toList x2 (l.drop (k + 1)) = textN s.data.toList b.data.toList e.data.toList 0 l) := Lib.hid (by
        rw [Hnew.out, ← HT1.out]
        simp only [List.append_assoc])
      clear hF hC Hcells hcA hcB hcC hcD hsl1 hsl2 y0 y1 HT1 Hnew
      go_wp2
      go_roundw
      case rel => exact ⟨k + 1, x2, _, by omega, by go_num, rfl, rfl, Fin, HO1, q3, Hnl, Hb5.out⟩
      case measure => simp [intOf]; omega
    · obtain rfl : k = l.length := by omega
      have hd : l.drop l.length = [] := List.drop_eq_nil_of_le (by omega)
      have hT1 := hT.out
      rw [hd, textN] at hT1
      have hal1 := hal.out
      have hm1 := Hmul.out l.length (Nat.le_refl _)
      have hsl : ∀ W : World, (Instr.slice 9 (.string s) (some (.int .i64 (at_ : Nat))) none none).run Try.prog W = .ok (.string (s.extract at_ s.size)) W := fun W => by
        rw [run_slice_string_l W 9 s Try.underlying9 .i64 _ (by omega) (by omega)]
        simp
      have hres : acc ++ s.extract at_ s.size = str (textN s.data.toList b.data.toList e.data.toList 0 l) := by
        rw [← of_str (acc ++ s.extract at_ s.size)]
        congr 1
        rw [app_list, extract_list, ← bsize, List.take_length, hT1]
      have hcA : ¬ 9223372036854775807 < acc.size + (s.size - at_) := by omega
      have Hres := Lib.hid hres
      have Hb := Lib.hid (Hb2.out.trans (hb.mono Hb2.out.size))
      clear hT hO hT1 hd hal hal1 hres hb hm1
      go_wp2
      go_ret2
      exact ⟨by rw [← Hres.out]; rfl, Hb.out⟩
end Go.Proofs.Ytjfconddkfihcaa.Mk
end

section
/- MarkTexts: the law's walk (printed by gen_mko.py). -/
namespace Go.Proofs.Ytjfconddkfihcaa.Mk
open Go.RowKit Go.Proofs.Ytjfconddkfihcaa Go.Proofs.Ytjfconddkfihcaa.Ut Go.Proofs.Ytjfconddkfihcaa.Tk Go.Proofs.Ytjfconddkfihcaa.Qy
set_option maxRecDepth 20000
set_option linter.unusedSimpArgs false

/-- What Cuts answers, a row of strings and a code. -/
def CQ (L : List ByteArray) (er : Int) (w : World) (e : Ending) (w' : World) : Prop := ∃ A c, e = .returned (.tuple #[.slice A L.length c, .int .i64 er]) ∧ Reads w' w'.heap.size 1 A L.length (bsv L) ∧ Below w.heap.size w w'
theorem cut_len (s : ByteArray) (l : List (Nat × Nat)) : (cutsB s l).length = l.length := by simp [cutsB]
theorem cq_of {w w' : World} {s : ByteArray} {l : List (Nat × Nat)} {e : Ending} (h : CutPost w (cutsB s l) e w') : CQ (cutsB s l) 0 w e w' := by
  obtain ⟨v, rfl, hown, hb⟩ := h
  obtain ⟨A, c, rfl, hR⟩ := own_shape hown
  exact ⟨A, c, rfl, hR, hb⟩

set_option maxHeartbeats 6400000 in
theorem texts_gen (s0 b0 e0 s b e T : ByteArray) (A : Option Addr) (c : Nat) (l0 l : List (Int × Int)) (L : List ByteArray) (er k : Int) (q : Bool) (w : World)
    (k1 : ∀ w, Calls Try.prog 14 #[.string s0] w fun r w' => r = .returned (.string s) ∧ w = w')
    (k2 : ∀ w, Calls Try.prog 14 #[.string b0] w fun r w' => r = .returned (.string b) ∧ w = w')
    (k3 : ∀ w, Calls Try.prog 14 #[.string e0] w fun r w' => r = .returned (.string e) ∧ w = w')
    (k4 : Calls Try.prog 29 #[.slice A l0.length c] w fun r w' => r = .returned (.slice A l.length c) ∧ w = w')
    (hR : Reads w w.heap.size 2 A l.length (spZ l)) (hl : l.length ≤ 1000) (hL : L.length ≤ 1000)
    (c1 : ∀ (A : Option Addr) (c : Nat) (w : World), Reads w w.heap.size 2 A l.length (spZ l) → Calls Try.prog 24 #[.string s, .string b, .string e, .slice A l.length c] w fun r w' => r = .returned (.tuple #[.string T, .int .i64 er]) ∧ Below w.heap.size w w')
    (c2 : ∀ (A : Option Addr) (c : Nat) (w : World), Reads w w.heap.size 2 A l.length (spZ l) → Calls Try.prog 31 #[.string s, .string b, .string e, .slice A l.length c] w fun r w' => r = .returned (.tuple #[.string T, .int .i64 er]) ∧ Below w.heap.size w w')
    (c3 : ∀ (A : Option Addr) (c : Nat) (w : World), Reads w w.heap.size 2 A l.length (spZ l) → Calls Try.prog 32 #[.string s, .slice A l.length c] w (CQ L er w))
    (c4 : ∀ (A : Option Addr) (c : Nat) (w : World), Reads w w.heap.size 2 A l.length (spZ l) → Calls Try.prog 33 #[.string s, .slice A l.length c] w (CQ L er w))
    (c5 : ∀ (A : Option Addr) (c : Nat) (w : World), Reads w w.heap.size 2 A l.length (spZ l) → Calls Try.prog 19 #[.string s, .slice A l.length c] w fun r w' => r = .returned (.int .i64 k) ∧ Below w.heap.size w w')
    (c6 : ∀ (A : Option Addr) (c : Nat) (w : World), Reads w w.heap.size 2 A l.length (spZ l) → Calls Try.prog 35 #[.string s, .slice A l.length c] w fun r w' => r = .returned (.bool q) ∧ Below w.heap.size w w')
    (hk : (k == 0) = q) :
    Calls Try.prog 7 #[.string s0, .string b0, .string e0, .slice A l0.length c] w fun r w' => r = .returned (.bool true) ∧ Below w.heap.size w w' := by
  have Hl := Lib.hid hl
  have HL := Lib.hid hL
  have HR0 := Lib.hid hR
  have C1 := Lib.hid c1
  have C2 := Lib.hid c2
  have C3 := Lib.hid c3
  have C4 := Lib.hid c4
  have C5 := Lib.hid c5
  have C6 := Lib.hid c6
  have K2 := Lib.hid k2
  have K3 := Lib.hid k3
  have K4 := Lib.hid k4
  clear hl hL hR c1 c2 c3 c4 c5 c6 k2 k3 k4
  go_enter Try.func7, Try.ntmps7
  go_wp2_with fail
  refine (k1 _).mono ?_
  rintro r w1 ⟨rfl, hw1⟩
  subst hw1
  clear k1
  go_wp2_with fail
  refine (K2.out _).mono ?_
  rintro r w1 ⟨rfl, hw1⟩
  subst hw1
  clear K2
  go_wp2_with fail
  refine (K3.out _).mono ?_
  rintro r w1 ⟨rfl, hw1⟩
  subst hw1
  clear K3
  go_wp2_with fail
  refine K4.out.mono ?_
  rintro r w1 ⟨rfl, hw1⟩
  subst hw1
  clear K4

  go_wp2_with fail
  refine (of_any A l c Hl.out _ (HR0.out)).mono ?_
  rintro r w2 ⟨v2, rfl, hown, hbx⟩
  obtain ⟨B2, d2, rfl, hRx⟩ := own_shape hown
  have HO2 := Lib.hid hRx
  have HR2a := Lib.hid (reads_grow hbx HR0.out)
  have Hb2 := Lib.hid hbx
  clear hown hRx hbx
  go_wp2_with fail
  refine (C1.out B2 d2 _ HO2.out).mono ?_
  rintro r w3 ⟨rfl, hbx⟩
  have HR3a := Lib.hid (reads_grow hbx HR2a.out)
  have Hb3 := Lib.hid (Hb2.out.trans (hbx.mono Hb2.out.size))
  clear hbx HO2 C1
  go_wp2_with fail
  refine (C2.out A c _ HR3a.out).mono ?_
  rintro r w4 ⟨rfl, hbx⟩
  have HR4a := Lib.hid (reads_grow hbx HR3a.out)
  have Hb4 := Lib.hid (Hb3.out.trans (hbx.mono Hb3.out.size))
  clear hbx C2
  go_wp2_with fail
  refine (of_any A l c Hl.out _ (HR4a.out)).mono ?_
  rintro r w5 ⟨v5, rfl, hown, hbx⟩
  obtain ⟨B5, d5, rfl, hRx⟩ := own_shape hown
  have HO5 := Lib.hid hRx
  have HR5a := Lib.hid (reads_grow hbx HR4a.out)
  have Hb5 := Lib.hid (Hb4.out.trans (hbx.mono Hb4.out.size))
  clear hown hRx hbx
  go_wp2_with fail
  refine (C3.out B5 d5 _ HO5.out).mono ?_
  rintro r w6 ⟨X, x, rfl, hRx, hbx⟩
  have HX := Lib.hid hRx
  have HR6a := Lib.hid (reads_grow hbx HR5a.out)
  have Hb6 := Lib.hid (Hb5.out.trans (hbx.mono Hb5.out.size))
  clear hbx hRx HO5 C3
  go_wp2_with fail
  refine (C4.out A c _ HR6a.out).mono ?_
  rintro r w7 ⟨Y, y, rfl, hRy, hbx⟩
  have cs := sameB_eq X Y x y L w7 (reads_grow hbx HX.out) hRy (by have := HL.out; omega)
  have Cs := Lib.hid cs
  have HR7a := Lib.hid (reads_grow hbx HR6a.out)
  have Hb7 := Lib.hid (Hb6.out.trans (hbx.mono Hb6.out.size))
  clear hbx hRy HX C4 cs
  go_wp2_with fail
  refine Cs.out.mono ?_
  rintro r w8 ⟨rfl, hbx⟩
  have HR8a := Lib.hid (reads_grow hbx HR7a.out)
  have Hb8 := Lib.hid (Hb7.out.trans (hbx.mono Hb7.out.size))
  clear hbx Cs
  go_wp2_with fail
  refine (of_any A l c Hl.out _ (HR8a.out)).mono ?_
  rintro r w9 ⟨v9, rfl, hown, hbx⟩
  obtain ⟨B9, d9, rfl, hRx⟩ := own_shape hown
  have HO9 := Lib.hid hRx
  have HR9a := Lib.hid (reads_grow hbx HR8a.out)
  have Hb9 := Lib.hid (Hb8.out.trans (hbx.mono Hb8.out.size))
  clear hown hRx hbx
  go_wp2_with fail
  refine (C5.out B9 d9 _ HO9.out).mono ?_
  rintro r w10 ⟨rfl, hbx⟩
  have HR10a := Lib.hid (reads_grow hbx HR9a.out)
  have Hb10 := Lib.hid (Hb9.out.trans (hbx.mono Hb9.out.size))
  clear hbx HO9 C5
  go_wp2_with fail
  refine (C6.out A c _ HR10a.out).mono ?_
  rintro r w11 ⟨rfl, hbx⟩
  have HR11a := Lib.hid (reads_grow hbx HR10a.out)
  have Hb11 := Lib.hid (Hb10.out.trans (hbx.mono Hb10.out.size))
  clear hbx C6
  go_wp2_with fail
  refine (awake_any _).mono ?_
  rintro r w12 ⟨rfl, hbx⟩
  have HR12a := Lib.hid (reads_grow hbx HR11a.out)
  have Hb12 := Lib.hid (Hb11.out.trans (hbx.mono Hb11.out.size))
  clear hbx
  go_wp2
  go_ret
  exact ⟨rfl, Hb12.out⟩

theorem nat_mul30 (n k : Nat) (hn : n ≤ 30) (hk : k ≤ 800) : n * k ≤ 24000 := Nat.mul_le_mul hn hk
theorem markTexts_walk (s0 b0 e0 : ByteArray) (A : Option Addr) (c : Nat) (l : List (Int × Int)) (hc : l.length ≤ c) (hl : l.length ≤ 8796093021952) (w : World) (hs : s0.size ≤ 140737488351232) (hs1 : b0.size ≤ 140737488351232) (hs2 : e0.size ≤ 140737488351232) (hR : Reads w w.heap.size 2 A l.length (spZ l)) :
    Calls Try.prog 7 #[.string s0, .string b0, .string e0, .slice A l.length c] w fun r w' => r = .returned (.bool true) ∧ Below w.heap.size w w' := by
  have k1 := fun w => mcut_any s0 w hs
  have k2 := fun w => mcut_any b0 w hs1
  have k3 := fun w => mcut_any e0 w hs2
  have z1 := ct_size 400 s0
  have z2 := ct_size 400 b0
  have z3 := ct_size 400 e0
  have k4 := mfew_any A l c hc hl w hR
  have hR' := few_reads 30 hR
  have hl' : (l.take 30).length ≤ 30 := by rw [List.length_take]; omega
  generalize ct 400 s0 = s at *
  generalize ct 400 b0 = b at *
  generalize ct 400 e0 = e at *
  generalize l.take 30 = m at *
  by_cases hq : chk 0 s.size m = true
  · obtain ⟨t, rfl, hok⟩ := chk_ok (e := 0) (n := s.size) (by simpa using hq)
    have htl : (zs t).length = t.length := by simp [zs]
    rw [htl] at hl'
    have hbd : s.size + t.length * (b.size + e.size) ≤ 100000 := by have := nat_mul30 t.length (b.size + e.size) hl' (by omega); omega
    refine texts_gen s0 b0 e0 s b e (str (textN s.data.toList b.data.toList e.data.toList 0 t)) A c l (zs t) (cutsB s t) 0 0 true w k1 k2 k3 k4 hR' (by omega) (by rw [cut_len]; omega) ?_ ?_ ?_ ?_ ?_ ?_ rfl
    · intro A c w h; rw [htl, ← spC_zs] at h; rw [htl]; exact text_ok s b e A c t hok (by omega) hbd w h
    · intro A c w h; rw [htl, ← spC_zs] at h; rw [htl]; exact rtext_ok s b e A c t hok (by omega) hbd w h
    · intro A c w h; rw [htl, ← spC_zs] at h; rw [htl]; exact (cuts_ok s A c t hok (by omega) w h).mono fun _ _ => cq_of
    · intro A c w h; rw [htl, ← spC_zs] at h; rw [htl]; exact (rcuts_ok s A c t hok (by omega) w h).mono fun _ _ => cq_of
    · intro A c w h; have := check_any s A c (zs t) (by omega) w h; rw [hq] at this; exact this
    · intro A c w h; have := in_any s A c (zs t) (by omega) w h; rw [hq] at this; exact this
  · have hq' : chk 0 s.size m = false := by simpa using hq
    refine texts_gen s0 b0 e0 s b e ⟨#[]⟩ A c l m [] 5 5 false w k1 k2 k3 k4 hR' (by omega) (by simp) ?_ ?_ ?_ ?_ ?_ ?_ rfl
    · intro A c w h; exact text_bad s b e A c m (by omega) hq' w h
    · intro A c w h; exact rtext_bad s b e A c m (by omega) hq' w h
    · intro A c w h; exact (cuts_bad s A c m (by omega) hq' w h).mono fun _ w' ⟨h1, h2⟩ => ⟨none, 0, h1, Reads.none_, h2⟩
    · intro A c w h; exact (rcuts_bad s A c m (by omega) hq' w h).mono fun _ w' ⟨h1, h2⟩ => ⟨none, 0, h1, Reads.none_, h2⟩
    · intro A c w h; have := check_any s A c m (by omega) w h; rw [hq'] at this; exact this
    · intro A c w h; have := in_any s A c m (by omega) w h; rw [hq'] at this; exact this
end Go.Proofs.Ytjfconddkfihcaa.Mk
end

section
/- loggiaref18.size, Few: the walks (printed by gen_mkr.py). -/
namespace Go.Proofs.Ytjfconddkfihcaa.Mk
open Go.RowKit Go.Proofs.Ytjfconddkfihcaa Go.Proofs.Ytjfconddkfihcaa.Ut Go.Proofs.Ytjfconddkfihcaa.Tk Go.Proofs.Ytjfconddkfihcaa.Qy
set_option maxRecDepth 20000
set_option linter.unusedSimpArgs false

def SizeOk (q : Q) : Prop := ∀ (dp z : Int), 0 ≤ dp → dp ≤ 20 → 0 ≤ z → z ≤ 300 → ∀ (w : World) (a0 a1 a2 a3 : Value), QAt w w.heap.size q [a0, a1, a2, a3] →
  Calls Try.prog 66 #[.agg #[a0, a1, a2, a3], .int .i64 dp, .int .i64 z] w fun e w' => (∃ r : Int, e = .returned (.int .i64 r) ∧ 0 ≤ r ∧ r ≤ 601 ∧ (r ≤ 300 → z + wq q ≤ r)) ∧ Below w.heap.size w w'

set_option maxHeartbeats 6400000 in
theorem size_step (k : Int) (nm : ByteArray) (ws : List ByteArray) (l : List Q) (hl2 : ws.length ≤ 8796093021952) (hl3 : l.length ≤ 8796093021952) (ih : ∀ x ∈ l, SizeOk x) : SizeOk (.mk k nm ws l) := by
  intro dp z0 hd0 hd20 hz0 hz300 w a0 a1 a2 a3 hQ
  obtain ⟨WA, m, wc, CA, n, c2, e, hI⟩ := hQ.is
  simp only [List.cons.injEq, and_true] at e
  obtain ⟨rfl, rfl, rfl, rfl⟩ := e
  have hb1 : Below w.heap.size w (w.alloc (.cells #[.int .i64 k, .string nm, .slice WA m wc, .slice CA n c2] 37)) := (Below.refl _ _).alloc (Nat.le_refl _) _
  have hB1 := (Blk.new w 37 #[.int .i64 k, .string nm, .slice WA m wc, .slice CA n c2])
  have hz1 : (w.alloc (.cells #[.int .i64 k, .string nm, .slice WA m wc, .slice CA n c2] 37)).heap.size = w.heap.size + 1 := by simp
  have hm : m ≤ 8796093021952 := by rw [← hI.wn]; exact hl2
  have hn : n ≤ 8796093021952 := by rw [← hI.lm]; exact hl3
  have hkid : ∀ i (h : i < l.length), ∀ (dp z : Int), 0 ≤ dp → dp ≤ 20 → 0 ≤ z → z ≤ 300 → ∀ w1, Below w.heap.size w w1 → ∃ b o A' n' c' C' m' d', CA = some ⟨b, o, none⟩ ∧ b < w.heap.size ∧
      w1.cell? ⟨b, o + i * 4, none⟩ = some (.int .i64 l[i].kind) ∧ w1.cell? ⟨b, o + i * 4 + 1, none⟩ = some (.string l[i].name) ∧ w1.cell? ⟨b, o + i * 4 + 2, none⟩ = some (.slice A' n' c') ∧ w1.cell? ⟨b, o + i * 4 + 3, none⟩ = some (.slice C' m' d') ∧
      Calls Try.prog 66 #[.agg #[.int .i64 l[i].kind, .string l[i].name, .slice A' n' c', .slice C' m' d'], .int .i64 dp, .int .i64 z] w1 fun e w' => (∃ r : Int, e = .returned (.int .i64 r) ∧ 0 ≤ r ∧ r ≤ 601 ∧ (r ≤ 300 → z + (wqs (l.take (i + 1)) - wqs (l.take i) : Nat) ≤ r)) ∧ Below w1.heap.size w1 w' := by
    intro i hi dp z h1 h2 h3 h4 w1 hb
    obtain ⟨tb, tq, A', n', c', C', m', d', rfl, htb, hq, hc0, hc1, hc2, hc3⟩ := hI.at_ hi
    have hx := ih _ (List.getElem_mem hi) dp z h1 h2 h3 h4 w1 _ _ _ _ (hq.grow hb)
    refine ⟨tb, tq, A', n', c', C', m', d', rfl, htb, (hb.cell (p := ⟨tb, tq + i * 4, none⟩) htb).trans hc0, (hb.cell (p := ⟨tb, tq + i * 4 + 1, none⟩) htb).trans hc1, (hb.cell (p := ⟨tb, tq + i * 4 + 2, none⟩) htb).trans hc2, (hb.cell (p := ⟨tb, tq + i * 4 + 3, none⟩) htb).trans hc3, ?_⟩
    have he : wqs (l.take (i + 1)) - wqs (l.take i) = wq l[i] := by rw [wqs_take l i hi]; omega
    rw [he]
    exact hx
  have hwd : ∀ i, i < m → ∀ w1, Below w.heap.size w w1 → ∃ b o, ∃ s : ByteArray, WA = some ⟨b, o, none⟩ ∧ b < w.heap.size ∧ w1.cell? ⟨b, o + i, none⟩ = some (.string s) := by
    intro i hi w1 hb
    obtain ⟨b, o, hl, e, hbb, hc⟩ := hI.wds.at_map hi
    exact ⟨b, o, ws[i], e, hbb, (hb.cell (p := ⟨b, o + i, none⟩) hbb).trans hc⟩
  have hmon : ∀ i, i < l.length → wqs (l.take i) ≤ wqs (l.take (i + 1)) := fun i hi => by rw [wqs_take l i hi]; omega
  have hall : wqs (l.take l.length) = wqs l := by rw [List.take_length]
  rw [hI.lm] at hall
  have hlm := hI.lm
  have hwn := hI.wn
  have HB1 := Lib.hid hB1
  have Hb1 := Lib.hid hb1
  have Hkid := Lib.hid hkid
  have Hwd := Lib.hid hwd
  have Hmon := Lib.hid hmon
  have Hall := Lib.hid hall
  have Hlm := Lib.hid hlm
  have Hwn := Lib.hid hwn
  clear hQ hB1 hb1 hI ih hl2 hl3 hkid hwd hmon hall hlm hwn
  have Fin : ∀ r : Int, (r ≤ 300 → z0 + 1 + (m : Int) + wqs l ≤ r) → (r ≤ 300 → z0 + wq (.mk k nm ws l) ≤ r) := fun r h h3 => by
    have := h h3
    rw [wq_eq, Hwn.out]
    omega
  have HFin := Lib.hid Fin
  clear Fin
  go_enter Try.func66, Try.ntmps66
  go_wp2_with fail
  generalize hw0 : (w.alloc (.cells #[.int .i64 k, .string nm, .slice WA m wc, .slice CA n c2] 37)) = w0 at *
  clear hw0
  go_loopw [2, 7] (fun s i wr => ∃ (j : Nat) (z : Int), j ≤ m ∧ i = .int .i64 j ∧ s = .int .i64 z ∧ 0 ≤ z ∧ z ≤ 601 ∧ (z ≤ 300 → z0 + 1 + (j : Int) ≤ z) ∧ w0 = wr) (fun _ i _ => m - (intOf i).toNat)
  case atStart => exact ⟨0, _, Nat.zero_le _, rfl, rfl, by omega, by omega, by omega, rfl⟩
  case round =>
    obtain ⟨j, z, hj, rfl, rfl, hy0, hy6, hzb, rfl⟩ := hrel
    have hc0 := HB1.out.cell 0
    have hc1 := HB1.out.cell 1
    have hc2' := HB1.out.cell 2
    have hc3 := HB1.out.cell 3
    simp at hc0 hc1 hc2' hc3
    by_cases hlt : j < m
    · by_cases hz : z ≤ 300
      · obtain ⟨wb, wo, s, rfl, hwb, hwc⟩ := Hwd.out j hlt w0 Hb1.out
        have hji : (j : Int) < (m : Int) := by omega
        have hji0 : (0 : Int) ≤ (j : Int) := by omega
        have hzz := hzb hz
        clear hlt
        go_wp2
        go_roundw
        case rel => exact ⟨j + 1, _, by omega, by go_num, rfl, by omega, by omega, by omega, by trivial⟩
        case measure => simp [intOf]; omega
      · have hz' : 300 < z := by omega
        have hji : (j : Int) < (m : Int) := by omega
        have hzq : z ≤ 300 → z0 + 1 + (m : Int) ≤ z := fun h => absurd h hz
        have Hzq := Lib.hid hzq
        clear hlt hzb hzq hz
        by_cases hdz : dp = 0
        · subst hdz
          by_cases hnz : n = 0
          · have hnp : (n : Int) ≤ 0 := by omega
            go_wp2_with fail
            go_loopw [2, 8] (fun s i wr => ∃ (j : Nat) (z : Int), j ≤ n ∧ i = .int .i64 j ∧ s = .int .i64 z ∧ 0 ≤ z ∧ z ≤ 601 ∧ (z ≤ 300 → z0 + 1 + (m : Int) + (wqs (l.take j) : Nat) ≤ z) ∧ Below (w.heap.size + 1) w0 wr) (fun _ i _ => n - (intOf i).toNat)
            case atStart => exact ⟨0, _, Nat.zero_le _, rfl, rfl, hy0, hy6, fun h => by have := Hzq.out h; simp [wqs]; omega, Below.refl _ _⟩
            case round =>
              obtain ⟨i, y, hi, rfl, rfl, hu0, hu6, hyb, hb⟩ := hrel
              have hls := (hb.cell (p := ⟨w.heap.size, 3, none⟩) (by show w.heap.size < _; omega)).trans hc3
              have Hb := Lib.hid hb
              have hbz := hb.size
              by_cases hlt2 : i < n
              · exact absurd hlt2 (by omega)
              · obtain rfl : n = i := by omega
                have hyb' : y ≤ 300 → z0 + 1 + (m : Int) + (wqs l : Nat) ≤ y := fun h => by have := hyb h; rw [Hall.out] at this; exact this
                have Hyb := Lib.hid hyb'
                clear hb hyb hyb' hi hlt2
                go_wp2
                go_ret
                exact ⟨⟨y, rfl, hu0, hu6, HFin.out y Hyb.out⟩, Hb1.out.trans (Hb.out.mono (by omega))⟩
          · have hnp : (0 : Int) < (n : Int) := by omega
            go_wp2
            go_ret
            exact ⟨⟨301, rfl, by omega, by omega, fun h => absurd h (by omega)⟩, Hb1.out⟩
        · have hdp : 0 < dp := by omega
          go_wp2_with fail
          go_loopw [2, 8] (fun s i wr => ∃ (j : Nat) (z : Int), j ≤ n ∧ i = .int .i64 j ∧ s = .int .i64 z ∧ 0 ≤ z ∧ z ≤ 601 ∧ (z ≤ 300 → z0 + 1 + (m : Int) + (wqs (l.take j) : Nat) ≤ z) ∧ Below (w.heap.size + 1) w0 wr) (fun _ i _ => n - (intOf i).toNat)
          case atStart => exact ⟨0, _, Nat.zero_le _, rfl, rfl, hy0, hy6, fun h => by have := Hzq.out h; simp [wqs]; omega, Below.refl _ _⟩
          case round =>
            obtain ⟨i, y, hi, rfl, rfl, hu0, hu6, hyb, hb⟩ := hrel
            have hls := (hb.cell (p := ⟨w.heap.size, 3, none⟩) (by show w.heap.size < _; omega)).trans hc3
            have Hb := Lib.hid hb
            have hbz := hb.size
            by_cases hlt2 : i < n
            · by_cases hz2 : y ≤ 300
              · have hil : i < l.length := by rw [Hlm.out]; exact hlt2
                have hbw := Hb1.out.trans (hb.mono (by omega))
                obtain ⟨tb, tq, A', n', c', C', m', d', rfl, htb, hd0, hd1, hd2, hd3, c1⟩ := Hkid.out i hil (dp - 1) y (by omega) (by omega) hu0 hz2 wr hbw
                have hji2 : (i : Int) < (n : Int) := by omega
                have hji20 : (0 : Int) ≤ (i : Int) := by omega
                have hyy := hyb hz2
                have hmo := Hmon.out i hil
                have Hyy := Lib.hid hyy
                have Hmo := Lib.hid hmo
                clear hb hbw hyb hyy hmo hlt2
                generalize (l[i]).kind = x0 at *
                generalize (l[i]).name = x1 at *
                go_wp2_with (go_at_call 66; refine c1.mono ?_; rintro e wa ⟨⟨r, rfl, hr0, hr6, hr3⟩, hba⟩)
                have FinB := Lib.hid (Hb.out.trans (hba.mono (by omega)))
                have FinR : Hid (r ≤ 300 → z0 + 1 + (m : Int) + (wqs (l.take (i + 1)) : Nat) ≤ r) := Lib.hid (fun h => by have h1 := hr3 h; have h2 := Hyy.out; have h3 := Hmo.out; omega)
                clear c1 hba hr3
                go_roundw
                case rel => exact ⟨i + 1, _, by omega, by go_num, rfl, hr0, hr6, FinR.out, FinB.out⟩
                case measure => simp [intOf]; omega
              · have hz2' : 300 < y := by omega
                have hji2 : (i : Int) < (n : Int) := by omega
                clear hb hls
                have hls := (Hb.out.cell (p := ⟨w.heap.size, 3, none⟩) (by show w.heap.size < _; omega)).trans hc3
                go_wp2
                go_ret
                exact ⟨⟨y, rfl, hu0, hu6, fun h => absurd h (by omega)⟩, Hb1.out.trans (Hb.out.mono (by omega))⟩
            · obtain rfl : n = i := by omega
              have hyb' : y ≤ 300 → z0 + 1 + (m : Int) + (wqs l : Nat) ≤ y := fun h => by have := hyb h; rw [Hall.out] at this; exact this
              have Hyb := Lib.hid hyb'
              clear hb hyb hyb' hi hlt2
              go_wp2
              go_ret
              exact ⟨⟨y, rfl, hu0, hu6, HFin.out y Hyb.out⟩, Hb1.out.trans (Hb.out.mono (by omega))⟩
    · obtain rfl : m = j := by omega
      have Hzq := Lib.hid hzb
      clear hzb hlt hj
      by_cases hdz : dp = 0
      · subst hdz
        by_cases hnz : n = 0
        · have hnp : (n : Int) ≤ 0 := by omega
          go_wp2_with fail
          go_loopw [2, 8] (fun s i wr => ∃ (j : Nat) (z : Int), j ≤ n ∧ i = .int .i64 j ∧ s = .int .i64 z ∧ 0 ≤ z ∧ z ≤ 601 ∧ (z ≤ 300 → z0 + 1 + (m : Int) + (wqs (l.take j) : Nat) ≤ z) ∧ Below (w.heap.size + 1) w0 wr) (fun _ i _ => n - (intOf i).toNat)
          case atStart => exact ⟨0, _, Nat.zero_le _, rfl, rfl, hy0, hy6, fun h => by have := Hzq.out h; simp [wqs]; omega, Below.refl _ _⟩
          case round =>
            obtain ⟨i, y, hi, rfl, rfl, hu0, hu6, hyb, hb⟩ := hrel
            have hls := (hb.cell (p := ⟨w.heap.size, 3, none⟩) (by show w.heap.size < _; omega)).trans hc3
            have Hb := Lib.hid hb
            have hbz := hb.size
            by_cases hlt2 : i < n
            · exact absurd hlt2 (by omega)
            · obtain rfl : n = i := by omega
              have hyb' : y ≤ 300 → z0 + 1 + (m : Int) + (wqs l : Nat) ≤ y := fun h => by have := hyb h; rw [Hall.out] at this; exact this
              have Hyb := Lib.hid hyb'
              clear hb hyb hyb' hi hlt2
              go_wp2
              go_ret
              exact ⟨⟨y, rfl, hu0, hu6, HFin.out y Hyb.out⟩, Hb1.out.trans (Hb.out.mono (by omega))⟩
        · have hnp : (0 : Int) < (n : Int) := by omega
          go_wp2
          go_ret
          exact ⟨⟨301, rfl, by omega, by omega, fun h => absurd h (by omega)⟩, Hb1.out⟩
      · have hdp : 0 < dp := by omega
        go_wp2_with fail
        go_loopw [2, 8] (fun s i wr => ∃ (j : Nat) (z : Int), j ≤ n ∧ i = .int .i64 j ∧ s = .int .i64 z ∧ 0 ≤ z ∧ z ≤ 601 ∧ (z ≤ 300 → z0 + 1 + (m : Int) + (wqs (l.take j) : Nat) ≤ z) ∧ Below (w.heap.size + 1) w0 wr) (fun _ i _ => n - (intOf i).toNat)
        case atStart => exact ⟨0, _, Nat.zero_le _, rfl, rfl, hy0, hy6, fun h => by have := Hzq.out h; simp [wqs]; omega, Below.refl _ _⟩
        case round =>
          obtain ⟨i, y, hi, rfl, rfl, hu0, hu6, hyb, hb⟩ := hrel
          have hls := (hb.cell (p := ⟨w.heap.size, 3, none⟩) (by show w.heap.size < _; omega)).trans hc3
          have Hb := Lib.hid hb
          have hbz := hb.size
          by_cases hlt2 : i < n
          · by_cases hz2 : y ≤ 300
            · have hil : i < l.length := by rw [Hlm.out]; exact hlt2
              have hbw := Hb1.out.trans (hb.mono (by omega))
              obtain ⟨tb, tq, A', n', c', C', m', d', rfl, htb, hd0, hd1, hd2, hd3, c1⟩ := Hkid.out i hil (dp - 1) y (by omega) (by omega) hu0 hz2 wr hbw
              have hji2 : (i : Int) < (n : Int) := by omega
              have hji20 : (0 : Int) ≤ (i : Int) := by omega
              have hyy := hyb hz2
              have hmo := Hmon.out i hil
              have Hyy := Lib.hid hyy
              have Hmo := Lib.hid hmo
              clear hb hbw hyb hyy hmo hlt2
              generalize (l[i]).kind = x0 at *
              generalize (l[i]).name = x1 at *
              go_wp2_with (go_at_call 66; refine c1.mono ?_; rintro e wa ⟨⟨r, rfl, hr0, hr6, hr3⟩, hba⟩)
              have FinB := Lib.hid (Hb.out.trans (hba.mono (by omega)))
              have FinR : Hid (r ≤ 300 → z0 + 1 + (m : Int) + (wqs (l.take (i + 1)) : Nat) ≤ r) := Lib.hid (fun h => by have h1 := hr3 h; have h2 := Hyy.out; have h3 := Hmo.out; omega)
              clear c1 hba hr3
              go_roundw
              case rel => exact ⟨i + 1, _, by omega, by go_num, rfl, hr0, hr6, FinR.out, FinB.out⟩
              case measure => simp [intOf]; omega
            · have hz2' : 300 < y := by omega
              have hji2 : (i : Int) < (n : Int) := by omega
              clear hb hls
              have hls := (Hb.out.cell (p := ⟨w.heap.size, 3, none⟩) (by show w.heap.size < _; omega)).trans hc3
              go_wp2
              go_ret
              exact ⟨⟨y, rfl, hu0, hu6, fun h => absurd h (by omega)⟩, Hb1.out.trans (Hb.out.mono (by omega))⟩
          · obtain rfl : n = i := by omega
            have hyb' : y ≤ 300 → z0 + 1 + (m : Int) + (wqs l : Nat) ≤ y := fun h => by have := hyb h; rw [Hall.out] at this; exact this
            have Hyb := Lib.hid hyb'
            clear hb hyb hyb' hi hlt2
            go_wp2
            go_ret
            exact ⟨⟨y, rfl, hu0, hu6, HFin.out y Hyb.out⟩, Hb1.out.trans (Hb.out.mono (by omega))⟩
theorem size_any : ∀ q, QSz q → SizeOk q := by
  refine Q.ind (p := fun q => QSz q → SizeOk q) (fun k nm ws l ih h => ?_)
  cases h with
  | mk h1 h2 h3 => exact size_step k nm ws l h1 h2 (fun x hx => ih x hx (h3 x hx))

theorem rfew_any (q : Q) (hq : QSz q) (a0 a1 a2 a3 : Value) (w : World) (hQ : QAt w w.heap.size q [a0, a1, a2, a3]) :
    Calls Try.prog 21 #[.agg #[a0, a1, a2, a3]] w fun e w' => (∃ t : Bool, e = .returned (.bool t) ∧ (t = true → wq q ≤ 300)) ∧ Below w.heap.size w w' := by
  obtain ⟨k0, nm, WA, m, wc, CA, n1, c2, e⟩ := (show ∃ k nm A n c C m d, [a0, a1, a2, a3] = [.int .i64 k, .string nm, .slice A n c, .slice C m d] by cases hQ; exact ⟨_, _, _, _, _, _, _, _, rfl⟩)
  simp only [List.cons.injEq, and_true] at e
  obtain ⟨rfl, rfl, rfl, rfl⟩ := e
  have hb1 : Below w.heap.size w (w.alloc (.cells #[.int .i64 k0, .string nm, .slice WA m wc, .slice CA n1 c2] 37)) := (Below.refl _ _).alloc (Nat.le_refl _) _
  have cs := size_any q hq 20 0 (by omega) (by omega) (by omega) (by omega) _ _ _ _ _ (hQ.grow hb1)
  have Hb1 := Lib.hid hb1
  clear hQ hq hb1
  go_enter Try.func21, Try.ntmps21
  go_wp2_with fail
  refine cs.mono ?_
  rintro e w2 ⟨⟨r, rfl, h0, h6, hr⟩, hb2⟩
  have HF := Lib.hid (Hb1.out.trans (hb2.mono Hb1.out.size))
  by_cases hle : r ≤ 300
  · have hq3 : wq q ≤ 300 := by have := hr hle; omega
    have Hq3 := Lib.hid hq3
    clear cs hb2 hr hq3
    go_wp2
    go_ret
    exact ⟨⟨true, by simp [hle], fun _ => Hq3.out⟩, HF.out⟩
  · have hgt : 300 < r := by omega
    clear cs hb2 hr
    go_wp2
    go_ret
    exact ⟨⟨false, by simp [hle], fun h => by cases h⟩, HF.out⟩
end Go.Proofs.Ytjfconddkfihcaa.Mk
end
