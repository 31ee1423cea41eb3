/- The law's few and of, the document's In: the walks (printed by gen_mkl.py). -/
import Derived.Test.YtjfconddkfihcaaPkMarkHitsRow28
namespace Go.Proofs.Ytjfconddkfihcaa.Mk
open Go.RowKit Go.Proofs.Ytjfconddkfihcaa Go.Proofs.Ytjfconddkfihcaa.Ut Go.Proofs.Ytjfconddkfihcaa.Tk Go.Proofs.Ytjfconddkfihcaa.Qy
set_option maxRecDepth 20000
set_option linter.unusedSimpArgs false

theorem spZ_append (a b : List (Int × Int)) : spZ (a ++ b) = spZ a ++ spZ b := by simp [spZ]
theorem spZ_snoc (l : List (Int × Int)) (x : Int × Int) : spZ (l ++ [x]) = spZ l ++ [.int .i64 x.1, .int .i64 x.2] := by simp [spZ]
theorem few_reads {w : World} {B : Nat} {A : Option Addr} {l : List (Int × Int)} (k : Nat) (h : Reads w B 2 A l.length (spZ l)) : Reads w B 2 A (l.take k).length (spZ (l.take k)) := by
  refine ⟨spZ_len _, fun hn => ?_⟩
  obtain ⟨b, o, e, hb, hc⟩ := h.2 (by rw [List.length_take] at hn; omega)
  refine ⟨b, o, e, hb, fun j u hu => hc j u ?_⟩
  have hs : spZ l = spZ (l.take k) ++ spZ (l.drop k) := by rw [← spZ_append, List.take_append_drop]
  rw [hs, List.getElem?_append_left (List.getElem?_eq_some_iff.1 hu).1]
  exact hu
theorem mfew_any (A : Option Addr) (l : List (Int × Int)) (c : Nat) (hc : l.length ≤ c) (hl : l.length ≤ 8796093021952) (w : World) (hR : Reads w w.heap.size 2 A l.length (spZ l)) :
    Calls Try.prog 29 #[.slice A l.length c] w fun e w' => e = .returned (.slice A (l.take 30).length c) ∧ w = w' := by
  by_cases h : l.length ≤ 30
  · have F : Hid ((l.take 30).length = l.length) := Lib.hid (by rw [List.length_take]; omega)
    have h' : (l.length : Int) ≤ 30 := by omega
    clear hR
    go_enter Try.func29, Try.ntmps29
    go_wp2
    go_ret
    rw [F.out]
    exact ⟨rfl, rfl⟩
  · have F : Hid ((l.take 30).length = 30) := Lib.hid (by rw [List.length_take]; omega)
    have h' : (30 : Int) < (l.length : Int) := by omega
    obtain ⟨b, o, rfl, _⟩ := hR.2 (by omega)
    have hs1 : (30 : Int) ≤ (c : Int) := by omega
    go_enter Try.func29, Try.ntmps29
    go_wp2
    go_ret
    rw [F.out]
    exact ⟨rfl, rfl⟩

set_option maxHeartbeats 3200000 in
theorem of_any (A : Option Addr) (l : List (Int × Int)) (c : Nat) (hl : l.length ≤ 1000) (w : World) (hR : Reads w w.heap.size 2 A l.length (spZ l)) :
    Calls Try.prog 30 #[.slice A l.length c] w fun e w' => ∃ v, e = .returned v ∧ w'.ownsRow w.heap.size 45 2 v l.length (spZ l) ∧ Below w.heap.size w w' := by
  obtain ⟨i0, hi0, hz0, hz1, hz2⟩ := info_parts span_info
  have HR := Lib.hid hR
  clear hR
  go_enter Try.func30, Try.ntmps30
  go_wp2
  go_loopw [3, 4] (fun v i wr => ∃ k : Nat, k ≤ l.length ∧ i = .int .i64 k ∧ wr.ownsRow w.heap.size 45 2 v k (spZ (l.take k)) ∧ Below w.heap.size w wr) (fun _ i _ => l.length - (intOf i).toNat)
  case atStart => exact ⟨0, Nat.zero_le _, rfl, World.ownsRow_nil _ _ _ _, Below.refl _ _⟩
  case round =>
    obtain ⟨k, hk, rfl, hrow, hb⟩ := hrel
    by_cases hlt : k < l.length
    · obtain ⟨b1, o1, rfl, hl1, g0, g1⟩ := spz_at (reads_grow hb HR.out) hlt
      have hi0' : (0 : Int) ≤ (k : Int) := by omega
      have hi1 : (k : Int) < (l.length : Int) := by omega
      have hts : spZ (l.take (k + 1)) = spZ (l.take k) ++ [.int .i64 l[k].1, .int .i64 l[k].2] := by rw [List.take_succ_eq_append_getElem hlt, spZ_snoc]
      generalize l[k] = x at *
      obtain ⟨x1, x2⟩ := x
      simp only at g0 g1 hts
      have hcells : ∀ wx, Below wr.heap.size wr wx → wx.cell? ⟨b1, o1 + k * 2, none⟩ = some (.int .i64 x1) ∧ wx.cell? ⟨b1, o1 + k * 2 + 1, none⟩ = some (.int .i64 x2) := fun wx hC =>
        ⟨(hC.cell (p := ⟨b1, o1 + k * 2, none⟩) hl1).trans g0, (hC.cell (p := ⟨b1, o1 + k * 2 + 1, none⟩) hl1).trans g1⟩
      have Hcells := Lib.hid hcells
      have Hts := Lib.hid hts
      have Hb := Lib.hid hb
      have Hrow := Lib.hid hrow
      clear hcells g0 g1 hb hrow hts
      go_wp2_with fail
      refine wp_region_grow_tail 13 (specOf [(12, ⟨Nat, fun x => .slice (some ⟨x, 0, none⟩) 1 1, fun x w' => Blk w' x 45 #[.int .i64 x1, .int .i64 x2] ∧ wr.heap.size ≤ x⟩)]) (fun wx => Below wr.heap.size wr wx) (fun w1 w2 => Below w1.heap.size w1 w2) (by kernel_rfl) (by kernel_rfl) (stab_cons (fun x w1 w2 hg h => ⟨h.1.below hg h.1.lt, h.2⟩) (stab_nil)) ((Below.refl _ _).drew) ?_
      simp only [List.take_succ_cons, List.take_zero, List.drop_succ_cons, List.drop_zero]
      refine grow_fix 1 ?_ rfl (by rfl) (by rfl) (fun wx hC hD => ?_) ?_
      rotate_left
      · have hSw := Hcells.out wx hC
        go_simp
        all_goals with_reducible rfl
      try simp only [Act.put, List.setIfInBounds_toArray, List.set_cons_zero, List.set_cons_succ]
      refine grow_fix 2 ?_ rfl (by rfl) (by rfl) (fun wx hC hD => ?_) ?_
      rotate_left
      · have hSw := Hcells.out wx hC
        go_simp
        all_goals with_reducible rfl
      try simp only [Act.put, List.setIfInBounds_toArray, List.set_cons_zero, List.set_cons_succ]
      refine grow_fix 3 ?_ rfl (by rfl) (by rfl) (fun wx hC hD => ?_) ?_
      rotate_left
      · have hSw := Hcells.out wx hC
        go_simp
        all_goals with_reducible rfl
      try simp only [Act.put, List.setIfInBounds_toArray, List.set_cons_zero, List.set_cons_succ]
      refine grow_fix 4 ?_ rfl (by rfl) (by rfl) (fun wx hC hD => ?_) ?_
      rotate_left
      · have hSw := Hcells.out wx hC
        go_simp
        all_goals with_reducible rfl
      try simp only [Act.put, List.setIfInBounds_toArray, List.set_cons_zero, List.set_cons_succ]
      refine grow_fix 5 ?_ rfl (by rfl) (by rfl) (fun wx hC hD => ?_) ?_
      rotate_left
      · have hSw := Hcells.out wx hC
        go_simp
        all_goals with_reducible rfl
      try simp only [Act.put, List.setIfInBounds_toArray, List.set_cons_zero, List.set_cons_succ]
      refine grow_fix 6 ?_ rfl (by rfl) (by rfl) (fun wx hC hD => ?_) ?_
      rotate_left
      · have hSw := Hcells.out wx hC
        go_simp
        all_goals with_reducible rfl
      try simp only [Act.put, List.setIfInBounds_toArray, List.set_cons_zero, List.set_cons_succ]
      refine grow_fix 7 ?_ rfl (by rfl) (by rfl) (fun wx hC hD => ?_) ?_
      rotate_left
      · have hSw := Hcells.out wx hC
        go_simp
        all_goals with_reducible rfl
      try simp only [Act.put, List.setIfInBounds_toArray, List.set_cons_zero, List.set_cons_succ]
      refine grow_fix 8 ?_ rfl (by rfl) (by rfl) (fun wx hC hD => ?_) ?_
      rotate_left
      · have hSw := Hcells.out wx hC
        go_simp
        all_goals with_reducible rfl
      try simp only [Act.put, List.setIfInBounds_toArray, List.set_cons_zero, List.set_cons_succ]
      refine grow_fix 9 ?_ rfl (by rfl) (by rfl) (fun wx hC hD => ?_) ?_
      rotate_left
      · have hSw := Hcells.out wx hC
        go_simp
        all_goals with_reducible rfl
      try simp only [Act.put, List.setIfInBounds_toArray, List.set_cons_zero, List.set_cons_succ]
      refine grow_fix 10 ?_ rfl (by rfl) (by rfl) (fun wx hC hD => ?_) ?_
      rotate_left
      · have hSw := Hcells.out wx hC
        go_simp
        all_goals with_reducible rfl
      try simp only [Act.put, List.setIfInBounds_toArray, List.set_cons_zero, List.set_cons_succ]
      refine grow_fix 11 ?_ rfl (by rfl) (by rfl) (fun wx hC hD => ?_) ?_
      rotate_left
      · have hSw := Hcells.out wx hC
        go_simp
        all_goals with_reducible rfl
      try simp only [Act.put, List.setIfInBounds_toArray, List.set_cons_zero, List.set_cons_succ]
      refine grow_fix 12 ?_ rfl (by rfl) (by rfl) (fun wx hC hD => ?_) ?_
      rotate_left
      · have hSw := Hcells.out wx hC
        go_simp
        all_goals with_reducible rfl
      try simp only [Act.put, List.setIfInBounds_toArray, List.set_cons_zero, List.set_cons_succ]
      refine grow_give 13 _ rfl (by rfl) (by rfl) (fun wx hC hD => ?_) (fun x => ?_)
      · refine give_value (u := ?_) (w' := ?_) ?_ ?_ ?_
        rotate_left 2
        · have hSw := Hcells.out wx hC
          go_simp
          all_goals first | with_reducible rfl | (refine ⟨?_, ?_⟩ <;> with_reducible rfl)
        · exact (Below.refl _ _).alloc (Nat.le_refl _) _
        · exact ⟨hC.alloc hC.size _, wx.heap.size, rfl, Blk.new _ _ _, hC.size⟩
      rename Nat => g
      try simp only [Act.put, List.setIfInBounds_toArray, List.set_cons_zero, List.set_cons_succ]
      refine grow_nil (fun w5 hC hF => ?_)
      obtain ⟨hBg, hgl⟩ := upd_hit (hF 12) (by decide)
      have hrow5 := Hrow.out.kept (grow_of_below hC none) (by cases hv : u3.ownBlock <;> simp)
      have hb5 := Hb.out.trans (hC.mono Hb.out.size)
      have hz5 := hC.size
      have hbz := Hb.out.size
      have Hb5 := Lib.hid hb5
      have HBg := Lib.hid hBg
      have Hown := Lib.hid hrow5
      clear hF hC Hcells Hrow Hb hb5 hBg hrow5
      show wpList _ _ _ _ _ _
      go_wp2_with (at_builtin; refine wpList_append_own _ rfl _ _ 23 rfl w.heap.size 45 i0 _ 2 16 Try.underlying23 hi0 hz0 hz1 hz2 rfl (by decide) _ _ _ rfl Hown.out ⟨g, 0, none⟩ 1 1 [.int .i64 x1, .int .i64 x2] rfl rfl (World.news_of_block (cs := #[.int .i64 x1, .int .i64 x2]) (t := 45) (fr := (0, 0)) HBg.out) ?d2 ?d3 ?d4 ?d5 ?_)
      case d2 => intro u hu; simp at hu; rcases hu with rfl | rfl <;> rfl
      case d3 => unfold maxLen; omega
      case d4 => omega
      case d5 => omega
      intro v' w6 hown6 hgrow _
      have hb6 := Hb5.out.grown hgrow Hb5.out.size (fun j hj => (Hown.out.lt j hj).1)
      have hrow6 : w6.ownsRow w.heap.size 45 2 v' (k + 1) (spZ (l.take (k + 1))) := by rw [Hts.out]; exact hown6
      have Hb6 := Lib.hid hb6
      have Hrow6 := Lib.hid hrow6
      clear hown6 hgrow hb6 hrow6
      go_wp2
      go_roundw
      case rel => exact ⟨k + 1, by omega, by go_num, Hrow6.out, Hb6.out⟩
      case measure => simp [intOf]; omega
    · obtain rfl : k = l.length := by omega
      have hall : l.take l.length = l := List.take_of_length_le (Nat.le_refl _)
      rw [hall] at hrow
      have Hrow := Lib.hid hrow
      have Hb := Lib.hid hb
      clear hrow hb hall
      go_wp2
      go_ret
      exact ⟨_, rfl, Hrow.out, Hb.out⟩

set_option maxHeartbeats 12800000 in
theorem in_any (s : ByteArray) (A : Option Addr) (c : Nat) (l : List (Int × Int)) (hl : l.length ≤ 8796093021952) (w : World) (hR : Reads w w.heap.size 2 A l.length (spZ l)) :
    Calls Try.prog 35 #[.string s, .slice A l.length c] w fun e w' => e = .returned (.bool (chk 0 s.size l)) ∧ Below w.heap.size w w' := by
  have HR := Lib.hid hR
  clear hR
  go_enter Try.func35, Try.ntmps35
  go_wp2
  go_loopw [5, 6] (fun e i wr => ∃ (k : Nat) (z : Int), k ≤ l.length ∧ i = .int .i64 k ∧ e = .int .i64 z ∧ Hid (chk 0 s.size l = chk z s.size (l.drop k)) ∧ Below w.heap.size w wr) (fun _ i _ => l.length - (intOf i).toNat)
  case atStart => exact ⟨0, 0, Nat.zero_le _, rfl, rfl, Lib.hid rfl, Below.refl _ _⟩
  case round =>
    obtain ⟨k, z, hk, rfl, rfl, hch, hb⟩ := hrel
    by_cases hlt : k < l.length
    · obtain ⟨b1, o1, rfl, hl1, g0, g1⟩ := spz_at (reads_grow hb HR.out) hlt
      have hi0' : (0 : Int) ≤ (k : Int) := by omega
      have hi1 : (k : Int) < (l.length : Int) := by omega
      have hdr : chk z s.size (l.drop k) = (decide (z ≤ l[k].1) && decide (l[k].1 < l[k].2) && decide (l[k].2 ≤ (s.size : Int)) && chk l[k].2 s.size (l.drop (k + 1))) := by
        rw [List.drop_eq_getElem_cons hlt, chk]
      have Hdr := Lib.hid (hch.out.trans hdr)
      clear hdr hch
      generalize l[k] = x at *
      obtain ⟨x1, x2⟩ := x
      simp only at g0 g1 Hdr
      have hcells : ∀ wx, Below wr.heap.size wr wx → wx.cell? ⟨b1, o1 + k * 2, none⟩ = some (.int .i64 x1) ∧ wx.cell? ⟨b1, o1 + k * 2 + 1, none⟩ = some (.int .i64 x2) := fun wx hC =>
        ⟨(hC.cell (p := ⟨b1, o1 + k * 2, none⟩) hl1).trans g0, (hC.cell (p := ⟨b1, o1 + k * 2 + 1, none⟩) hl1).trans g1⟩
      have Hcells := Lib.hid hcells
      have Hb := Lib.hid hb
      clear hcells hb
      by_cases h1 : x1 < z
      · have hf : chk 0 s.size l = false := by
          rw [Hdr.out]
          have : decide (z ≤ x1) = false := decide_eq_false (by omega)
          simp [this]
        have Fv := Lib.hid hf
        have hd1 : decide (x1 < z) = true := decide_eq_true h1
        clear hf
        go_wp2_with fail
        refine wp_region_grow (specOf []) (fun wx => Below (World.heap wr).size wr wx) (fun w1 w2 => Below w1.heap.size w1 w2) (by kernel_rfl) (by kernel_rfl) (stab_nil) (Below.refl _ _).drew ?_
        refine grow_fix 1 ?_ rfl (by rfl) (by rfl) (fun wx hC hD => ?_) ?_
        rotate_left
        · have hSw := Hcells.out wx hC
          go_simp
          all_goals with_reducible rfl
        try simp only [Act.put, List.setIfInBounds_toArray, List.set_cons_zero, List.set_cons_succ]
        refine grow_fix 2 ?_ rfl (by rfl) (by rfl) (fun wx hC hD => ?_) ?_
        rotate_left
        · have hSw := Hcells.out wx hC
          go_simp
          all_goals with_reducible rfl
        try simp only [Act.put, List.setIfInBounds_toArray, List.set_cons_zero, List.set_cons_succ]
        refine grow_fix 3 ?_ rfl (by rfl) (by rfl) (fun wx hC hD => ?_) ?_
        rotate_left
        · have hSw := Hcells.out wx hC
          go_simp
          all_goals with_reducible rfl
        try simp only [Act.put, List.setIfInBounds_toArray, List.set_cons_zero, List.set_cons_succ]
        refine grow_fix 4 ?_ rfl (by rfl) (by rfl) (fun wx hC hD => ?_) ?_
        rotate_left
        · have hSw := Hcells.out wx hC
          go_simp
          all_goals with_reducible rfl
        try simp only [Act.put, List.setIfInBounds_toArray, List.set_cons_zero, List.set_cons_succ]
        refine grow_fix 5 ?_ rfl (by rfl) (by rfl) (fun wx hC hD => ?_) ?_
        rotate_left
        · have hSw := Hcells.out wx hC
          go_simp
          all_goals with_reducible rfl
        try simp only [Act.put, List.setIfInBounds_toArray, List.set_cons_zero, List.set_cons_succ]
        refine grow_fix 6 ?_ rfl (by rfl) (by rfl) (fun wx hC hD => ?_) ?_
        rotate_left
        · have hSw := Hcells.out wx hC
          go_simp
          all_goals with_reducible rfl
        try simp only [Act.put, List.setIfInBounds_toArray, List.set_cons_zero, List.set_cons_succ]
        refine grow_fix 7 ?_ rfl (by rfl) (by rfl) (fun wx hC hD => ?_) ?_
        rotate_left
        · have hSw := Hcells.out wx hC
          go_simp
          all_goals with_reducible rfl
        try simp only [Act.put, List.setIfInBounds_toArray, List.set_cons_zero, List.set_cons_succ]
        refine grow_fix 8 ?_ rfl (by rfl) (by rfl) (fun wx hC hD => ?_) ?_
        rotate_left
        · have hSw := Hcells.out wx hC
          go_simp
          all_goals with_reducible rfl
        try simp only [Act.put, List.setIfInBounds_toArray, List.set_cons_zero, List.set_cons_succ]
        refine grow_skip 9 (some true) false rfl (by rfl) (by rfl) (by rfl) ?_
        try simp only [Act.put, List.setIfInBounds_toArray, List.set_cons_zero, List.set_cons_succ]
        refine grow_skip 10 (some true) false rfl (by rfl) (by rfl) (by rfl) ?_
        try simp only [Act.put, List.setIfInBounds_toArray, List.set_cons_zero, List.set_cons_succ]
        refine grow_skip 11 (some true) false rfl (by rfl) (by rfl) (by rfl) ?_
        try simp only [Act.put, List.setIfInBounds_toArray, List.set_cons_zero, List.set_cons_succ]
        refine grow_skip 12 (some true) false rfl (by rfl) (by rfl) (by rfl) ?_
        try simp only [Act.put, List.setIfInBounds_toArray, List.set_cons_zero, List.set_cons_succ]
        refine grow_skip 13 (some true) false rfl (by rfl) (by rfl) (by rfl) ?_
        try simp only [Act.put, List.setIfInBounds_toArray, List.set_cons_zero, List.set_cons_succ]
        refine grow_skip 14 (some true) false rfl (by rfl) (by rfl) (by rfl) ?_
        try simp only [Act.put, List.setIfInBounds_toArray, List.set_cons_zero, List.set_cons_succ]
        refine grow_skip 15 (some true) false rfl (by rfl) (by rfl) (by rfl) ?_
        try simp only [Act.put, List.setIfInBounds_toArray, List.set_cons_zero, List.set_cons_succ]
        refine grow_skip 16 (some true) false rfl (by rfl) (by rfl) (by rfl) ?_
        try simp only [Act.put, List.setIfInBounds_toArray, List.set_cons_zero, List.set_cons_succ]
        refine grow_skip 17 (some true) false rfl (by rfl) (by rfl) (by rfl) ?_
        try simp only [Act.put, List.setIfInBounds_toArray, List.set_cons_zero, List.set_cons_succ]
        refine grow_skip 18 (some true) false rfl (by rfl) (by rfl) (by rfl) ?_
        try simp only [Act.put, List.setIfInBounds_toArray, List.set_cons_zero, List.set_cons_succ]
        refine grow_skip 19 (some true) false rfl (by rfl) (by rfl) (by rfl) ?_
        try simp only [Act.put, List.setIfInBounds_toArray, List.set_cons_zero, List.set_cons_succ]
        refine grow_fix 20 ?_ rfl (by rfl) (by rfl) (fun wx hC hD => ?_) ?_
        rotate_left
        · have hSw := Hcells.out wx hC
          go_simp
          all_goals with_reducible rfl
        try simp only [Act.put, List.setIfInBounds_toArray, List.set_cons_zero, List.set_cons_succ]
        refine grow_fix 21 ?_ rfl (by rfl) (by rfl) (fun wx hC hD => ?_) ?_
        rotate_left
        · have hSw := Hcells.out wx hC
          go_simp
          all_goals with_reducible rfl
        try simp only [Act.put, List.setIfInBounds_toArray, List.set_cons_zero, List.set_cons_succ]
        refine grow_skip 22 (some true) false rfl (by rfl) (by rfl) (by rfl) ?_
        try simp only [Act.put, List.setIfInBounds_toArray, List.set_cons_zero, List.set_cons_succ]
        refine grow_skip 23 (some true) false rfl (by rfl) (by rfl) (by rfl) ?_
        try simp only [Act.put, List.setIfInBounds_toArray, List.set_cons_zero, List.set_cons_succ]
        refine grow_skip 24 (some true) false rfl (by rfl) (by rfl) (by rfl) ?_
        try simp only [Act.put, List.setIfInBounds_toArray, List.set_cons_zero, List.set_cons_succ]
        refine grow_skip 25 (some true) false rfl (by rfl) (by rfl) (by rfl) ?_
        try simp only [Act.put, List.setIfInBounds_toArray, List.set_cons_zero, List.set_cons_succ]
        refine grow_skip 26 (some true) false rfl (by rfl) (by rfl) (by rfl) ?_
        try simp only [Act.put, List.setIfInBounds_toArray, List.set_cons_zero, List.set_cons_succ]
        refine grow_skip 27 (some true) false rfl (by rfl) (by rfl) (by rfl) ?_
        try simp only [Act.put, List.setIfInBounds_toArray, List.set_cons_zero, List.set_cons_succ]
        refine grow_skip 28 (some true) false rfl (by rfl) (by rfl) (by rfl) ?_
        try simp only [Act.put, List.setIfInBounds_toArray, List.set_cons_zero, List.set_cons_succ]
        refine grow_skip 29 (some true) false rfl (by rfl) (by rfl) (by rfl) ?_
        try simp only [Act.put, List.setIfInBounds_toArray, List.set_cons_zero, List.set_cons_succ]
        refine grow_fix 30 ?_ rfl (by rfl) (by rfl) (fun wx hC hD => ?_) ?_
        rotate_left
        · have hSw := Hcells.out wx hC
          go_simp
          all_goals with_reducible rfl
        try simp only [Act.put, List.setIfInBounds_toArray, List.set_cons_zero, List.set_cons_succ]
        refine grow_nil (fun w5 hC hF => ?_)
        have Hb5 := Lib.hid (Hb.out.trans (hC.mono Hb.out.size))
        clear hF hC Hcells
        go_wp2
        go_ret
        exact ⟨by rw [Fv.out]; rfl, Hb5.out⟩
      · have hd1 : decide (x1 < z) = false := decide_eq_false h1
        by_cases h2 : x2 ≤ x1
        · have hf : chk 0 s.size l = false := by
            rw [Hdr.out]
            have : decide (x1 < x2) = false := decide_eq_false (by omega)
            simp [this]
          have Fv := Lib.hid hf
          have hd2 : decide (x2 ≤ x1) = true := decide_eq_true h2
          clear hf
          go_wp2_with fail
          refine wp_region_grow (specOf []) (fun wx => Below (World.heap wr).size wr wx) (fun w1 w2 => Below w1.heap.size w1 w2) (by kernel_rfl) (by kernel_rfl) (stab_nil) (Below.refl _ _).drew ?_
          refine grow_fix 1 ?_ rfl (by rfl) (by rfl) (fun wx hC hD => ?_) ?_
          rotate_left
          · have hSw := Hcells.out wx hC
            go_simp
            all_goals with_reducible rfl
          try simp only [Act.put, List.setIfInBounds_toArray, List.set_cons_zero, List.set_cons_succ]
          refine grow_fix 2 ?_ rfl (by rfl) (by rfl) (fun wx hC hD => ?_) ?_
          rotate_left
          · have hSw := Hcells.out wx hC
            go_simp
            all_goals with_reducible rfl
          try simp only [Act.put, List.setIfInBounds_toArray, List.set_cons_zero, List.set_cons_succ]
          refine grow_fix 3 ?_ rfl (by rfl) (by rfl) (fun wx hC hD => ?_) ?_
          rotate_left
          · have hSw := Hcells.out wx hC
            go_simp
            all_goals with_reducible rfl
          try simp only [Act.put, List.setIfInBounds_toArray, List.set_cons_zero, List.set_cons_succ]
          refine grow_fix 4 ?_ rfl (by rfl) (by rfl) (fun wx hC hD => ?_) ?_
          rotate_left
          · have hSw := Hcells.out wx hC
            go_simp
            all_goals with_reducible rfl
          try simp only [Act.put, List.setIfInBounds_toArray, List.set_cons_zero, List.set_cons_succ]
          refine grow_fix 5 ?_ rfl (by rfl) (by rfl) (fun wx hC hD => ?_) ?_
          rotate_left
          · have hSw := Hcells.out wx hC
            go_simp
            all_goals with_reducible rfl
          try simp only [Act.put, List.setIfInBounds_toArray, List.set_cons_zero, List.set_cons_succ]
          refine grow_fix 6 ?_ rfl (by rfl) (by rfl) (fun wx hC hD => ?_) ?_
          rotate_left
          · have hSw := Hcells.out wx hC
            go_simp
            all_goals with_reducible rfl
          try simp only [Act.put, List.setIfInBounds_toArray, List.set_cons_zero, List.set_cons_succ]
          refine grow_fix 7 ?_ rfl (by rfl) (by rfl) (fun wx hC hD => ?_) ?_
          rotate_left
          · have hSw := Hcells.out wx hC
            go_simp
            all_goals with_reducible rfl
          try simp only [Act.put, List.setIfInBounds_toArray, List.set_cons_zero, List.set_cons_succ]
          refine grow_fix 8 ?_ rfl (by rfl) (by rfl) (fun wx hC hD => ?_) ?_
          rotate_left
          · have hSw := Hcells.out wx hC
            go_simp
            all_goals with_reducible rfl
          try simp only [Act.put, List.setIfInBounds_toArray, List.set_cons_zero, List.set_cons_succ]
          refine grow_fix 9 ?_ rfl (by rfl) (by rfl) (fun wx hC hD => ?_) ?_
          rotate_left
          · have hSw := Hcells.out wx hC
            go_simp
            all_goals with_reducible rfl
          try simp only [Act.put, List.setIfInBounds_toArray, List.set_cons_zero, List.set_cons_succ]
          refine grow_fix 10 ?_ rfl (by rfl) (by rfl) (fun wx hC hD => ?_) ?_
          rotate_left
          · have hSw := Hcells.out wx hC
            go_simp
            all_goals with_reducible rfl
          try simp only [Act.put, List.setIfInBounds_toArray, List.set_cons_zero, List.set_cons_succ]
          refine grow_fix 11 ?_ rfl (by rfl) (by rfl) (fun wx hC hD => ?_) ?_
          rotate_left
          · have hSw := Hcells.out wx hC
            go_simp
            all_goals with_reducible rfl
          try simp only [Act.put, List.setIfInBounds_toArray, List.set_cons_zero, List.set_cons_succ]
          refine grow_fix 12 ?_ rfl (by rfl) (by rfl) (fun wx hC hD => ?_) ?_
          rotate_left
          · have hSw := Hcells.out wx hC
            go_simp
            all_goals with_reducible rfl
          try simp only [Act.put, List.setIfInBounds_toArray, List.set_cons_zero, List.set_cons_succ]
          refine grow_fix 13 ?_ rfl (by rfl) (by rfl) (fun wx hC hD => ?_) ?_
          rotate_left
          · have hSw := Hcells.out wx hC
            go_simp
            all_goals with_reducible rfl
          try simp only [Act.put, List.setIfInBounds_toArray, List.set_cons_zero, List.set_cons_succ]
          refine grow_fix 14 ?_ rfl (by rfl) (by rfl) (fun wx hC hD => ?_) ?_
          rotate_left
          · have hSw := Hcells.out wx hC
            go_simp
            all_goals with_reducible rfl
          try simp only [Act.put, List.setIfInBounds_toArray, List.set_cons_zero, List.set_cons_succ]
          refine grow_fix 15 ?_ rfl (by rfl) (by rfl) (fun wx hC hD => ?_) ?_
          rotate_left
          · have hSw := Hcells.out wx hC
            go_simp
            all_goals with_reducible rfl
          try simp only [Act.put, List.setIfInBounds_toArray, List.set_cons_zero, List.set_cons_succ]
          refine grow_fix 16 ?_ rfl (by rfl) (by rfl) (fun wx hC hD => ?_) ?_
          rotate_left
          · have hSw := Hcells.out wx hC
            go_simp
            all_goals with_reducible rfl
          try simp only [Act.put, List.setIfInBounds_toArray, List.set_cons_zero, List.set_cons_succ]
          refine grow_fix 17 ?_ rfl (by rfl) (by rfl) (fun wx hC hD => ?_) ?_
          rotate_left
          · have hSw := Hcells.out wx hC
            go_simp
            all_goals with_reducible rfl
          try simp only [Act.put, List.setIfInBounds_toArray, List.set_cons_zero, List.set_cons_succ]
          refine grow_fix 18 ?_ rfl (by rfl) (by rfl) (fun wx hC hD => ?_) ?_
          rotate_left
          · have hSw := Hcells.out wx hC
            go_simp
            all_goals with_reducible rfl
          try simp only [Act.put, List.setIfInBounds_toArray, List.set_cons_zero, List.set_cons_succ]
          refine grow_fix 19 ?_ rfl (by rfl) (by rfl) (fun wx hC hD => ?_) ?_
          rotate_left
          · have hSw := Hcells.out wx hC
            go_simp
            all_goals with_reducible rfl
          try simp only [Act.put, List.setIfInBounds_toArray, List.set_cons_zero, List.set_cons_succ]
          refine grow_fix 20 ?_ rfl (by rfl) (by rfl) (fun wx hC hD => ?_) ?_
          rotate_left
          · have hSw := Hcells.out wx hC
            go_simp
            all_goals with_reducible rfl
          try simp only [Act.put, List.setIfInBounds_toArray, List.set_cons_zero, List.set_cons_succ]
          refine grow_fix 21 ?_ rfl (by rfl) (by rfl) (fun wx hC hD => ?_) ?_
          rotate_left
          · have hSw := Hcells.out wx hC
            go_simp
            all_goals with_reducible rfl
          try simp only [Act.put, List.setIfInBounds_toArray, List.set_cons_zero, List.set_cons_succ]
          refine grow_skip 22 (some true) false rfl (by rfl) (by rfl) (by rfl) ?_
          try simp only [Act.put, List.setIfInBounds_toArray, List.set_cons_zero, List.set_cons_succ]
          refine grow_skip 23 (some true) false rfl (by rfl) (by rfl) (by rfl) ?_
          try simp only [Act.put, List.setIfInBounds_toArray, List.set_cons_zero, List.set_cons_succ]
          refine grow_skip 24 (some true) false rfl (by rfl) (by rfl) (by rfl) ?_
          try simp only [Act.put, List.setIfInBounds_toArray, List.set_cons_zero, List.set_cons_succ]
          refine grow_skip 25 (some true) false rfl (by rfl) (by rfl) (by rfl) ?_
          try simp only [Act.put, List.setIfInBounds_toArray, List.set_cons_zero, List.set_cons_succ]
          refine grow_skip 26 (some true) false rfl (by rfl) (by rfl) (by rfl) ?_
          try simp only [Act.put, List.setIfInBounds_toArray, List.set_cons_zero, List.set_cons_succ]
          refine grow_skip 27 (some true) false rfl (by rfl) (by rfl) (by rfl) ?_
          try simp only [Act.put, List.setIfInBounds_toArray, List.set_cons_zero, List.set_cons_succ]
          refine grow_skip 28 (some true) false rfl (by rfl) (by rfl) (by rfl) ?_
          try simp only [Act.put, List.setIfInBounds_toArray, List.set_cons_zero, List.set_cons_succ]
          refine grow_skip 29 (some true) false rfl (by rfl) (by rfl) (by rfl) ?_
          try simp only [Act.put, List.setIfInBounds_toArray, List.set_cons_zero, List.set_cons_succ]
          refine grow_fix 30 ?_ rfl (by rfl) (by rfl) (fun wx hC hD => ?_) ?_
          rotate_left
          · have hSw := Hcells.out wx hC
            go_simp
            all_goals with_reducible rfl
          try simp only [Act.put, List.setIfInBounds_toArray, List.set_cons_zero, List.set_cons_succ]
          refine grow_nil (fun w5 hC hF => ?_)
          have Hb5 := Lib.hid (Hb.out.trans (hC.mono Hb.out.size))
          clear hF hC Hcells
          go_wp2
          go_ret
          exact ⟨by rw [Fv.out]; rfl, Hb5.out⟩
        · have hd2 : decide (x2 ≤ x1) = false := decide_eq_false h2
          by_cases h3 : (s.size : Int) < x2
          · have hf : chk 0 s.size l = false := by
              rw [Hdr.out]
              have : decide (x2 ≤ (s.size : Int)) = false := decide_eq_false (by omega)
              simp [this]
            have Fv := Lib.hid hf
            have hd3 : decide ((s.size : Int) < x2) = true := decide_eq_true h3
            clear hf
            go_wp2_with fail
            refine wp_region_grow (specOf []) (fun wx => Below (World.heap wr).size wr wx) (fun w1 w2 => Below w1.heap.size w1 w2) (by kernel_rfl) (by kernel_rfl) (stab_nil) (Below.refl _ _).drew ?_
            refine grow_fix 1 ?_ rfl (by rfl) (by rfl) (fun wx hC hD => ?_) ?_
            rotate_left
            · have hSw := Hcells.out wx hC
              go_simp
              all_goals with_reducible rfl
            try simp only [Act.put, List.setIfInBounds_toArray, List.set_cons_zero, List.set_cons_succ]
            refine grow_fix 2 ?_ rfl (by rfl) (by rfl) (fun wx hC hD => ?_) ?_
            rotate_left
            · have hSw := Hcells.out wx hC
              go_simp
              all_goals with_reducible rfl
            try simp only [Act.put, List.setIfInBounds_toArray, List.set_cons_zero, List.set_cons_succ]
            refine grow_fix 3 ?_ rfl (by rfl) (by rfl) (fun wx hC hD => ?_) ?_
            rotate_left
            · have hSw := Hcells.out wx hC
              go_simp
              all_goals with_reducible rfl
            try simp only [Act.put, List.setIfInBounds_toArray, List.set_cons_zero, List.set_cons_succ]
            refine grow_fix 4 ?_ rfl (by rfl) (by rfl) (fun wx hC hD => ?_) ?_
            rotate_left
            · have hSw := Hcells.out wx hC
              go_simp
              all_goals with_reducible rfl
            try simp only [Act.put, List.setIfInBounds_toArray, List.set_cons_zero, List.set_cons_succ]
            refine grow_fix 5 ?_ rfl (by rfl) (by rfl) (fun wx hC hD => ?_) ?_
            rotate_left
            · have hSw := Hcells.out wx hC
              go_simp
              all_goals with_reducible rfl
            try simp only [Act.put, List.setIfInBounds_toArray, List.set_cons_zero, List.set_cons_succ]
            refine grow_fix 6 ?_ rfl (by rfl) (by rfl) (fun wx hC hD => ?_) ?_
            rotate_left
            · have hSw := Hcells.out wx hC
              go_simp
              all_goals with_reducible rfl
            try simp only [Act.put, List.setIfInBounds_toArray, List.set_cons_zero, List.set_cons_succ]
            refine grow_fix 7 ?_ rfl (by rfl) (by rfl) (fun wx hC hD => ?_) ?_
            rotate_left
            · have hSw := Hcells.out wx hC
              go_simp
              all_goals with_reducible rfl
            try simp only [Act.put, List.setIfInBounds_toArray, List.set_cons_zero, List.set_cons_succ]
            refine grow_fix 8 ?_ rfl (by rfl) (by rfl) (fun wx hC hD => ?_) ?_
            rotate_left
            · have hSw := Hcells.out wx hC
              go_simp
              all_goals with_reducible rfl
            try simp only [Act.put, List.setIfInBounds_toArray, List.set_cons_zero, List.set_cons_succ]
            refine grow_fix 9 ?_ rfl (by rfl) (by rfl) (fun wx hC hD => ?_) ?_
            rotate_left
            · have hSw := Hcells.out wx hC
              go_simp
              all_goals with_reducible rfl
            try simp only [Act.put, List.setIfInBounds_toArray, List.set_cons_zero, List.set_cons_succ]
            refine grow_fix 10 ?_ rfl (by rfl) (by rfl) (fun wx hC hD => ?_) ?_
            rotate_left
            · have hSw := Hcells.out wx hC
              go_simp
              all_goals with_reducible rfl
            try simp only [Act.put, List.setIfInBounds_toArray, List.set_cons_zero, List.set_cons_succ]
            refine grow_fix 11 ?_ rfl (by rfl) (by rfl) (fun wx hC hD => ?_) ?_
            rotate_left
            · have hSw := Hcells.out wx hC
              go_simp
              all_goals with_reducible rfl
            try simp only [Act.put, List.setIfInBounds_toArray, List.set_cons_zero, List.set_cons_succ]
            refine grow_fix 12 ?_ rfl (by rfl) (by rfl) (fun wx hC hD => ?_) ?_
            rotate_left
            · have hSw := Hcells.out wx hC
              go_simp
              all_goals with_reducible rfl
            try simp only [Act.put, List.setIfInBounds_toArray, List.set_cons_zero, List.set_cons_succ]
            refine grow_fix 13 ?_ rfl (by rfl) (by rfl) (fun wx hC hD => ?_) ?_
            rotate_left
            · have hSw := Hcells.out wx hC
              go_simp
              all_goals with_reducible rfl
            try simp only [Act.put, List.setIfInBounds_toArray, List.set_cons_zero, List.set_cons_succ]
            refine grow_fix 14 ?_ rfl (by rfl) (by rfl) (fun wx hC hD => ?_) ?_
            rotate_left
            · have hSw := Hcells.out wx hC
              go_simp
              all_goals with_reducible rfl
            try simp only [Act.put, List.setIfInBounds_toArray, List.set_cons_zero, List.set_cons_succ]
            refine grow_fix 15 ?_ rfl (by rfl) (by rfl) (fun wx hC hD => ?_) ?_
            rotate_left
            · have hSw := Hcells.out wx hC
              go_simp
              all_goals with_reducible rfl
            try simp only [Act.put, List.setIfInBounds_toArray, List.set_cons_zero, List.set_cons_succ]
            refine grow_fix 16 ?_ rfl (by rfl) (by rfl) (fun wx hC hD => ?_) ?_
            rotate_left
            · have hSw := Hcells.out wx hC
              go_simp
              all_goals with_reducible rfl
            try simp only [Act.put, List.setIfInBounds_toArray, List.set_cons_zero, List.set_cons_succ]
            refine grow_fix 17 ?_ rfl (by rfl) (by rfl) (fun wx hC hD => ?_) ?_
            rotate_left
            · have hSw := Hcells.out wx hC
              go_simp
              all_goals with_reducible rfl
            try simp only [Act.put, List.setIfInBounds_toArray, List.set_cons_zero, List.set_cons_succ]
            refine grow_fix 18 ?_ rfl (by rfl) (by rfl) (fun wx hC hD => ?_) ?_
            rotate_left
            · have hSw := Hcells.out wx hC
              go_simp
              all_goals with_reducible rfl
            try simp only [Act.put, List.setIfInBounds_toArray, List.set_cons_zero, List.set_cons_succ]
            refine grow_fix 19 ?_ rfl (by rfl) (by rfl) (fun wx hC hD => ?_) ?_
            rotate_left
            · have hSw := Hcells.out wx hC
              go_simp
              all_goals with_reducible rfl
            try simp only [Act.put, List.setIfInBounds_toArray, List.set_cons_zero, List.set_cons_succ]
            refine grow_fix 20 ?_ rfl (by rfl) (by rfl) (fun wx hC hD => ?_) ?_
            rotate_left
            · have hSw := Hcells.out wx hC
              go_simp
              all_goals with_reducible rfl
            try simp only [Act.put, List.setIfInBounds_toArray, List.set_cons_zero, List.set_cons_succ]
            refine grow_fix 21 ?_ rfl (by rfl) (by rfl) (fun wx hC hD => ?_) ?_
            rotate_left
            · have hSw := Hcells.out wx hC
              go_simp
              all_goals with_reducible rfl
            try simp only [Act.put, List.setIfInBounds_toArray, List.set_cons_zero, List.set_cons_succ]
            refine grow_fix 22 ?_ rfl (by rfl) (by rfl) (fun wx hC hD => ?_) ?_
            rotate_left
            · have hSw := Hcells.out wx hC
              go_simp
              all_goals with_reducible rfl
            try simp only [Act.put, List.setIfInBounds_toArray, List.set_cons_zero, List.set_cons_succ]
            refine grow_fix 23 ?_ rfl (by rfl) (by rfl) (fun wx hC hD => ?_) ?_
            rotate_left
            · have hSw := Hcells.out wx hC
              go_simp
              all_goals with_reducible rfl
            try simp only [Act.put, List.setIfInBounds_toArray, List.set_cons_zero, List.set_cons_succ]
            refine grow_fix 24 ?_ rfl (by rfl) (by rfl) (fun wx hC hD => ?_) ?_
            rotate_left
            · have hSw := Hcells.out wx hC
              go_simp
              all_goals with_reducible rfl
            try simp only [Act.put, List.setIfInBounds_toArray, List.set_cons_zero, List.set_cons_succ]
            refine grow_fix 25 ?_ rfl (by rfl) (by rfl) (fun wx hC hD => ?_) ?_
            rotate_left
            · have hSw := Hcells.out wx hC
              go_simp
              all_goals with_reducible rfl
            try simp only [Act.put, List.setIfInBounds_toArray, List.set_cons_zero, List.set_cons_succ]
            refine grow_fix 26 ?_ rfl (by rfl) (by rfl) (fun wx hC hD => ?_) ?_
            rotate_left
            · have hSw := Hcells.out wx hC
              go_simp
              all_goals with_reducible rfl
            try simp only [Act.put, List.setIfInBounds_toArray, List.set_cons_zero, List.set_cons_succ]
            refine grow_fix 27 ?_ rfl (by rfl) (by rfl) (fun wx hC hD => ?_) ?_
            rotate_left
            · have hSw := Hcells.out wx hC
              go_simp
              all_goals with_reducible rfl
            try simp only [Act.put, List.setIfInBounds_toArray, List.set_cons_zero, List.set_cons_succ]
            refine grow_fix 28 ?_ rfl (by rfl) (by rfl) (fun wx hC hD => ?_) ?_
            rotate_left
            · have hSw := Hcells.out wx hC
              go_simp
              all_goals with_reducible rfl
            try simp only [Act.put, List.setIfInBounds_toArray, List.set_cons_zero, List.set_cons_succ]
            refine grow_fix 29 ?_ rfl (by rfl) (by rfl) (fun wx hC hD => ?_) ?_
            rotate_left
            · have hSw := Hcells.out wx hC
              go_simp
              all_goals with_reducible rfl
            try simp only [Act.put, List.setIfInBounds_toArray, List.set_cons_zero, List.set_cons_succ]
            refine grow_fix 30 ?_ rfl (by rfl) (by rfl) (fun wx hC hD => ?_) ?_
            rotate_left
            · have hSw := Hcells.out wx hC
              go_simp
              all_goals with_reducible rfl
            try simp only [Act.put, List.setIfInBounds_toArray, List.set_cons_zero, List.set_cons_succ]
            refine grow_nil (fun w5 hC hF => ?_)
            have Hb5 := Lib.hid (Hb.out.trans (hC.mono Hb.out.size))
            clear hF hC Hcells
            go_wp2
            go_ret
            exact ⟨by rw [Fv.out]; rfl, Hb5.out⟩
          · have hnx : chk 0 s.size l = chk x2 s.size (l.drop (k + 1)) := by
              rw [Hdr.out, decide_eq_true (show z ≤ x1 by omega), decide_eq_true (show x1 < x2 by omega), decide_eq_true (show x2 ≤ (s.size : Int) by omega)]
              simp
            have Hnx := Lib.hid hnx
            have hd3 : decide ((s.size : Int) < x2) = false := decide_eq_false h3
            clear hnx
            go_wp2_with fail
            refine wp_region_grow (specOf []) (fun wx => Below (World.heap wr).size wr wx) (fun w1 w2 => Below w1.heap.size w1 w2) (by kernel_rfl) (by kernel_rfl) (stab_nil) (Below.refl _ _).drew ?_
            refine grow_fix 1 ?_ rfl (by rfl) (by rfl) (fun wx hC hD => ?_) ?_
            rotate_left
            · have hSw := Hcells.out wx hC
              go_simp
              all_goals with_reducible rfl
            try simp only [Act.put, List.setIfInBounds_toArray, List.set_cons_zero, List.set_cons_succ]
            refine grow_fix 2 ?_ rfl (by rfl) (by rfl) (fun wx hC hD => ?_) ?_
            rotate_left
            · have hSw := Hcells.out wx hC
              go_simp
              all_goals with_reducible rfl
            try simp only [Act.put, List.setIfInBounds_toArray, List.set_cons_zero, List.set_cons_succ]
            refine grow_fix 3 ?_ rfl (by rfl) (by rfl) (fun wx hC hD => ?_) ?_
            rotate_left
            · have hSw := Hcells.out wx hC
              go_simp
              all_goals with_reducible rfl
            try simp only [Act.put, List.setIfInBounds_toArray, List.set_cons_zero, List.set_cons_succ]
            refine grow_fix 4 ?_ rfl (by rfl) (by rfl) (fun wx hC hD => ?_) ?_
            rotate_left
            · have hSw := Hcells.out wx hC
              go_simp
              all_goals with_reducible rfl
            try simp only [Act.put, List.setIfInBounds_toArray, List.set_cons_zero, List.set_cons_succ]
            refine grow_fix 5 ?_ rfl (by rfl) (by rfl) (fun wx hC hD => ?_) ?_
            rotate_left
            · have hSw := Hcells.out wx hC
              go_simp
              all_goals with_reducible rfl
            try simp only [Act.put, List.setIfInBounds_toArray, List.set_cons_zero, List.set_cons_succ]
            refine grow_fix 6 ?_ rfl (by rfl) (by rfl) (fun wx hC hD => ?_) ?_
            rotate_left
            · have hSw := Hcells.out wx hC
              go_simp
              all_goals with_reducible rfl
            try simp only [Act.put, List.setIfInBounds_toArray, List.set_cons_zero, List.set_cons_succ]
            refine grow_fix 7 ?_ rfl (by rfl) (by rfl) (fun wx hC hD => ?_) ?_
            rotate_left
            · have hSw := Hcells.out wx hC
              go_simp
              all_goals with_reducible rfl
            try simp only [Act.put, List.setIfInBounds_toArray, List.set_cons_zero, List.set_cons_succ]
            refine grow_fix 8 ?_ rfl (by rfl) (by rfl) (fun wx hC hD => ?_) ?_
            rotate_left
            · have hSw := Hcells.out wx hC
              go_simp
              all_goals with_reducible rfl
            try simp only [Act.put, List.setIfInBounds_toArray, List.set_cons_zero, List.set_cons_succ]
            refine grow_fix 9 ?_ rfl (by rfl) (by rfl) (fun wx hC hD => ?_) ?_
            rotate_left
            · have hSw := Hcells.out wx hC
              go_simp
              all_goals with_reducible rfl
            try simp only [Act.put, List.setIfInBounds_toArray, List.set_cons_zero, List.set_cons_succ]
            refine grow_fix 10 ?_ rfl (by rfl) (by rfl) (fun wx hC hD => ?_) ?_
            rotate_left
            · have hSw := Hcells.out wx hC
              go_simp
              all_goals with_reducible rfl
            try simp only [Act.put, List.setIfInBounds_toArray, List.set_cons_zero, List.set_cons_succ]
            refine grow_fix 11 ?_ rfl (by rfl) (by rfl) (fun wx hC hD => ?_) ?_
            rotate_left
            · have hSw := Hcells.out wx hC
              go_simp
              all_goals with_reducible rfl
            try simp only [Act.put, List.setIfInBounds_toArray, List.set_cons_zero, List.set_cons_succ]
            refine grow_fix 12 ?_ rfl (by rfl) (by rfl) (fun wx hC hD => ?_) ?_
            rotate_left
            · have hSw := Hcells.out wx hC
              go_simp
              all_goals with_reducible rfl
            try simp only [Act.put, List.setIfInBounds_toArray, List.set_cons_zero, List.set_cons_succ]
            refine grow_fix 13 ?_ rfl (by rfl) (by rfl) (fun wx hC hD => ?_) ?_
            rotate_left
            · have hSw := Hcells.out wx hC
              go_simp
              all_goals with_reducible rfl
            try simp only [Act.put, List.setIfInBounds_toArray, List.set_cons_zero, List.set_cons_succ]
            refine grow_fix 14 ?_ rfl (by rfl) (by rfl) (fun wx hC hD => ?_) ?_
            rotate_left
            · have hSw := Hcells.out wx hC
              go_simp
              all_goals with_reducible rfl
            try simp only [Act.put, List.setIfInBounds_toArray, List.set_cons_zero, List.set_cons_succ]
            refine grow_fix 15 ?_ rfl (by rfl) (by rfl) (fun wx hC hD => ?_) ?_
            rotate_left
            · have hSw := Hcells.out wx hC
              go_simp
              all_goals with_reducible rfl
            try simp only [Act.put, List.setIfInBounds_toArray, List.set_cons_zero, List.set_cons_succ]
            refine grow_fix 16 ?_ rfl (by rfl) (by rfl) (fun wx hC hD => ?_) ?_
            rotate_left
            · have hSw := Hcells.out wx hC
              go_simp
              all_goals with_reducible rfl
            try simp only [Act.put, List.setIfInBounds_toArray, List.set_cons_zero, List.set_cons_succ]
            refine grow_fix 17 ?_ rfl (by rfl) (by rfl) (fun wx hC hD => ?_) ?_
            rotate_left
            · have hSw := Hcells.out wx hC
              go_simp
              all_goals with_reducible rfl
            try simp only [Act.put, List.setIfInBounds_toArray, List.set_cons_zero, List.set_cons_succ]
            refine grow_fix 18 ?_ rfl (by rfl) (by rfl) (fun wx hC hD => ?_) ?_
            rotate_left
            · have hSw := Hcells.out wx hC
              go_simp
              all_goals with_reducible rfl
            try simp only [Act.put, List.setIfInBounds_toArray, List.set_cons_zero, List.set_cons_succ]
            refine grow_fix 19 ?_ rfl (by rfl) (by rfl) (fun wx hC hD => ?_) ?_
            rotate_left
            · have hSw := Hcells.out wx hC
              go_simp
              all_goals with_reducible rfl
            try simp only [Act.put, List.setIfInBounds_toArray, List.set_cons_zero, List.set_cons_succ]
            refine grow_fix 20 ?_ rfl (by rfl) (by rfl) (fun wx hC hD => ?_) ?_
            rotate_left
            · have hSw := Hcells.out wx hC
              go_simp
              all_goals with_reducible rfl
            try simp only [Act.put, List.setIfInBounds_toArray, List.set_cons_zero, List.set_cons_succ]
            refine grow_fix 21 ?_ rfl (by rfl) (by rfl) (fun wx hC hD => ?_) ?_
            rotate_left
            · have hSw := Hcells.out wx hC
              go_simp
              all_goals with_reducible rfl
            try simp only [Act.put, List.setIfInBounds_toArray, List.set_cons_zero, List.set_cons_succ]
            refine grow_fix 22 ?_ rfl (by rfl) (by rfl) (fun wx hC hD => ?_) ?_
            rotate_left
            · have hSw := Hcells.out wx hC
              go_simp
              all_goals with_reducible rfl
            try simp only [Act.put, List.setIfInBounds_toArray, List.set_cons_zero, List.set_cons_succ]
            refine grow_fix 23 ?_ rfl (by rfl) (by rfl) (fun wx hC hD => ?_) ?_
            rotate_left
            · have hSw := Hcells.out wx hC
              go_simp
              all_goals with_reducible rfl
            try simp only [Act.put, List.setIfInBounds_toArray, List.set_cons_zero, List.set_cons_succ]
            refine grow_fix 24 ?_ rfl (by rfl) (by rfl) (fun wx hC hD => ?_) ?_
            rotate_left
            · have hSw := Hcells.out wx hC
              go_simp
              all_goals with_reducible rfl
            try simp only [Act.put, List.setIfInBounds_toArray, List.set_cons_zero, List.set_cons_succ]
            refine grow_fix 25 ?_ rfl (by rfl) (by rfl) (fun wx hC hD => ?_) ?_
            rotate_left
            · have hSw := Hcells.out wx hC
              go_simp
              all_goals with_reducible rfl
            try simp only [Act.put, List.setIfInBounds_toArray, List.set_cons_zero, List.set_cons_succ]
            refine grow_fix 26 ?_ rfl (by rfl) (by rfl) (fun wx hC hD => ?_) ?_
            rotate_left
            · have hSw := Hcells.out wx hC
              go_simp
              all_goals with_reducible rfl
            try simp only [Act.put, List.setIfInBounds_toArray, List.set_cons_zero, List.set_cons_succ]
            refine grow_fix 27 ?_ rfl (by rfl) (by rfl) (fun wx hC hD => ?_) ?_
            rotate_left
            · have hSw := Hcells.out wx hC
              go_simp
              all_goals with_reducible rfl
            try simp only [Act.put, List.setIfInBounds_toArray, List.set_cons_zero, List.set_cons_succ]
            refine grow_fix 28 ?_ rfl (by rfl) (by rfl) (fun wx hC hD => ?_) ?_
            rotate_left
            · have hSw := Hcells.out wx hC
              go_simp
              all_goals with_reducible rfl
            try simp only [Act.put, List.setIfInBounds_toArray, List.set_cons_zero, List.set_cons_succ]
            refine grow_fix 29 ?_ rfl (by rfl) (by rfl) (fun wx hC hD => ?_) ?_
            rotate_left
            · have hSw := Hcells.out wx hC
              go_simp
              all_goals with_reducible rfl
            try simp only [Act.put, List.setIfInBounds_toArray, List.set_cons_zero, List.set_cons_succ]
            refine grow_fix 30 ?_ rfl (by rfl) (by rfl) (fun wx hC hD => ?_) ?_
            rotate_left
            · have hSw := Hcells.out wx hC
              go_simp
              all_goals with_reducible rfl
            try simp only [Act.put, List.setIfInBounds_toArray, List.set_cons_zero, List.set_cons_succ]
            refine grow_nil (fun w5 hC hF => ?_)
            have Hb5 := Lib.hid (Hb.out.trans (hC.mono Hb.out.size))
            have hx2 := (Hcells.out w5 hC).2
            clear hF hC Hcells g0 g1
            go_wp2
            go_roundw
            case rel => exact ⟨k + 1, x2, by omega, by go_num, rfl, Hnx, Hb5.out⟩
            case measure => simp [intOf]; omega
    · have hi1 : ¬ (k : Int) < (l.length : Int) := by omega
      have hd : l.drop k = [] := List.drop_eq_nil_of_le (by omega)
      have hf : chk 0 s.size l = true := by rw [hch.out, hd]; rfl
      have Fv := Lib.hid hf
      have Hb := Lib.hid hb
      clear hf hd hch hb
      go_wp2
      go_ret
      exact ⟨by rw [Fv.out]; rfl, Hb.out⟩
end Go.Proofs.Ytjfconddkfihcaa.Mk
