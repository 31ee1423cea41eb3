/- loggiaref10.Light: the walk (turned from GrLi). -/
import Derived.Deep.RegionHeld3
import Derived.Outline
import Derived.Test.YtioekhiaoajgfaaGreatPkMemidxForksRow30
import Derived.Test.YtioekhiaoajgfaaGreatPkMemidxForksRow22
import Derived.Test.YtioekhiaoajgfaaGreatPkMemidxForksRow14
import Derived.Test.YtioekhiaoajgfaaGreatPkMemidxForksRow32
section
namespace Go.Proofs.YtioekhiaoajgfaaGreat.Gr
open Go.RowKit Go.Proofs.YtioekhiaoajgfaaGreat Go.Proofs.YtioekhiaoajgfaaGreat.Ut Go.Proofs.YtioekhiaoajgfaaGreat.Tk Go.Proofs.YtioekhiaoajgfaaGreat.Qy Go.Proofs.YtioekhiaoajgfaaGreat.Ph
set_option maxRecDepth 20000
set_option linter.unusedSimpArgs false
set_option linter.unusedVariables false

/-- An event's fields. -/
structure EvAt (w : World) (F : Option Addr) (fn : Nat) (fs : List (ByteArray × ByteArray)) : Prop where
  rd : Reads w w.heap.size 2 F fn (fldC fs)
  len : fs.length = fn
  few : fn ≤ 8796093021952
/-- It tells yes or no. -/
def BoolE (e : Ending) : Prop := ∃ b : Bool, e = .returned (.bool b)
set_option maxHeartbeats 6400000 in
theorem light_any (t : Int) (F : Option Addr) (fn fc : Nat) (fs : List (ByteArray × ByteArray)) (w : World) (hF : EvAt w F fn fs) :
    Calls Tryz.prog 28 #[.agg #[.int .i64 t, .slice F fn fc]] w fun e w' => BoolE e ∧ Below w.heap.size w w' := by
  have hb1 : Below w.heap.size w (w.alloc (.cells #[.int .i64 t, .slice F fn fc] 51)) := (Below.refl _ _).alloc (Nat.le_refl _) _
  have hB1 := Blk.new w 51 #[.int .i64 t, .slice F fn fc]
  have hz1 : w.heap.size < (w.alloc (.cells #[.int .i64 t, .slice F fn fc] 51)).heap.size := by simp
  have hfew := hF.few
  have hlen := hF.len
  have HF := Lib.hid hF
  have Hb1 := Lib.hid hb1
  have HB1 := Lib.hid hB1
  have Hlen := Lib.hid hlen
  clear hF hb1 hB1 hlen
  go_enter Tryz.func28, Tryz.ntmps28
  go_wp2_with fail
  generalize hw1 : (w.alloc (.cells #[.int .i64 t, .slice F fn fc] 51)) = w1 at *
  clear hw1
  go_loopw [3, 4] (fun v i wr => ∃ (j : Nat) (z : Int), j ≤ fn ∧ i = .int .i64 (j : Nat) ∧ v = .int .i64 z ∧ 0 ≤ z ∧ z ≤ 3000 ∧ Below w1.heap.size w1 wr) (fun _ i _ => fn - (intOf i).toNat)
  case atStart => exact ⟨0, 0, Nat.zero_le _, rfl, rfl, by omega, by omega, Below.refl _ _⟩
  case round =>
    obtain ⟨j, z, hj, rfl, rfl, hz0, hz3, hb⟩ := hrel
    have Hb := Lib.hid hb
    have hls := (hb.cell (p := ⟨w.heap.size, 1, none⟩) (by show w.heap.size < _; exact hz1)).trans (HB1.out.cell 1)
    simp at hls
    by_cases hlt : j < fn
    · have hji : (j : Int) < (fn : Int) := by omega
      have hji0 : (0 : Int) ≤ (j : Int) := by omega
      by_cases h20 : (j : Int) < 20
      · by_cases hzz : z < 1000
        · have hjl : j < fs.length := by rw [Hlen.out]; exact hlt
          obtain ⟨tb, tq, rfl, htb, hd1, hd2⟩ := fields_at HF.out.rd (k := j) hjl
          have hc1 := ((Hb1.out.trans (hb.mono Hb1.out.size)).cell (p := ⟨tb, tq + j * 2, none⟩) htb).trans hd1
          have hc2 := ((Hb1.out.trans (hb.mono Hb1.out.size)).cell (p := ⟨tb, tq + j * 2 + 1, none⟩) htb).trans hd2
          clear hb hlt hd1 hd2
          generalize fs[j].1 = s1 at *
          generalize fs[j].2 = s2 at *
          go_upto_region 5 with (fail)
          refine wp_region_ph_tail 19 (specOf []) (fun wx => wx = wr.drew) (fun _ => True) (by kernel_rfl) (by kernel_rfl) (turns_of (by kernel_rfl)) rfl trivial ?_
          refine ph_fix 1 ?_ rfl (by rfl) (by rfl) (fun wx hC => ?_) ?_
          rotate_left
          · subst hC
            go_simp
            all_goals with_reducible rfl
          try simp only [Act.put, List.setIfInBounds_toArray, List.set_cons_zero, List.set_cons_succ]
          refine ph_fix 2 ?_ rfl (by rfl) (by rfl) (fun wx hC => ?_) ?_
          rotate_left
          · subst hC
            go_simp
            all_goals with_reducible rfl
          try simp only [Act.put, List.setIfInBounds_toArray, List.set_cons_zero, List.set_cons_succ]
          refine ph_fix 3 ?_ rfl (by rfl) (by rfl) (fun wx hC => ?_) ?_
          rotate_left
          · subst hC
            go_simp
            all_goals with_reducible rfl
          try simp only [Act.put, List.setIfInBounds_toArray, List.set_cons_zero, List.set_cons_succ]
          refine ph_fix 4 ?_ rfl (by rfl) (by rfl) (fun wx hC => ?_) ?_
          rotate_left
          · subst hC
            go_simp
            all_goals with_reducible rfl
          try simp only [Act.put, List.setIfInBounds_toArray, List.set_cons_zero, List.set_cons_succ]
          refine ph_fix 5 ?_ rfl (by rfl) (by rfl) (fun wx hC => ?_) ?_
          rotate_left
          · subst hC
            go_simp
            all_goals with_reducible rfl
          try simp only [Act.put, List.setIfInBounds_toArray, List.set_cons_zero, List.set_cons_succ]
          refine ph_fix 6 ?_ rfl (by rfl) (by rfl) (fun wx hC => ?_) ?_
          rotate_left
          · subst hC
            go_simp
            all_goals with_reducible rfl
          try simp only [Act.put, List.setIfInBounds_toArray, List.set_cons_zero, List.set_cons_succ]
          refine ph_fix 7 ?_ rfl (by rfl) (by rfl) (fun wx hC => ?_) ?_
          rotate_left
          · subst hC
            go_simp
            all_goals with_reducible rfl
          try simp only [Act.put, List.setIfInBounds_toArray, List.set_cons_zero, List.set_cons_succ]
          refine ph_fix 8 ?_ rfl (by rfl) (by rfl) (fun wx hC => ?_) ?_
          rotate_left
          · subst hC
            go_simp
            all_goals with_reducible rfl
          try simp only [Act.put, List.setIfInBounds_toArray, List.set_cons_zero, List.set_cons_succ]
          refine ph_fix 9 ?_ rfl (by rfl) (by rfl) (fun wx hC => ?_) ?_
          rotate_left
          · subst hC
            go_simp
            all_goals with_reducible rfl
          try simp only [Act.put, List.setIfInBounds_toArray, List.set_cons_zero, List.set_cons_succ]
          refine ph_fix 10 ?_ rfl (by rfl) (by rfl) (fun wx hC => ?_) ?_
          rotate_left
          · subst hC
            go_simp
            all_goals with_reducible rfl
          try simp only [Act.put, List.setIfInBounds_toArray, List.set_cons_zero, List.set_cons_succ]
          refine ph_fix 11 ?_ rfl (by rfl) (by rfl) (fun wx hC => ?_) ?_
          rotate_left
          · subst hC
            go_simp
            all_goals with_reducible rfl
          try simp only [Act.put, List.setIfInBounds_toArray, List.set_cons_zero, List.set_cons_succ]
          refine ph_fix 12 ?_ rfl (by rfl) (by rfl) (fun wx hC => ?_) ?_
          rotate_left
          · subst hC
            go_simp
            all_goals with_reducible rfl
          try simp only [Act.put, List.setIfInBounds_toArray, List.set_cons_zero, List.set_cons_succ]
          refine ph_fix 13 ?_ rfl (by rfl) (by rfl) (fun wx hC => ?_) ?_
          rotate_left
          · subst hC
            go_simp
            all_goals with_reducible rfl
          try simp only [Act.put, List.setIfInBounds_toArray, List.set_cons_zero, List.set_cons_succ]
          refine ph_fix 14 ?_ rfl (by rfl) (by rfl) (fun wx hC => ?_) ?_
          rotate_left
          · subst hC
            go_simp
            all_goals with_reducible rfl
          try simp only [Act.put, List.setIfInBounds_toArray, List.set_cons_zero, List.set_cons_succ]
          refine ph_fix 15 ?_ rfl (by rfl) (by rfl) (fun wx hC => ?_) ?_
          rotate_left
          · subst hC
            go_simp
            all_goals with_reducible rfl
          try simp only [Act.put, List.setIfInBounds_toArray, List.set_cons_zero, List.set_cons_succ]
          refine ph_fix 16 ?_ rfl (by rfl) (by rfl) (fun wx hC => ?_) ?_
          rotate_left
          · subst hC
            go_simp
            all_goals with_reducible rfl
          try simp only [Act.put, List.setIfInBounds_toArray, List.set_cons_zero, List.set_cons_succ]
          refine ph_fix 17 ?_ rfl (by rfl) (by rfl) (fun wx hC => ?_) ?_
          rotate_left
          · subst hC
            go_simp
            all_goals with_reducible rfl
          try simp only [Act.put, List.setIfInBounds_toArray, List.set_cons_zero, List.set_cons_succ]
          refine ph_fix 18 ?_ rfl (by rfl) (by rfl) (fun wx hC => ?_) ?_
          rotate_left
          · subst hC
            go_simp
            all_goals with_reducible rfl
          try simp only [Act.put, List.setIfInBounds_toArray, List.set_cons_zero, List.set_cons_succ]
          refine ph_fix 19 ?_ rfl (by rfl) (by rfl) (fun wx hC => ?_) ?_
          rotate_left
          · subst hC
            go_simp
            all_goals with_reducible rfl
          try simp only [Act.put, List.setIfInBounds_toArray, List.set_cons_zero, List.set_cons_succ]
          refine ph_nil (fun w9 hC hI => ?_)
          subst hC
          clear hI
          go_wp2
          go_roundw
          case rel => exact ⟨j + 1, _, by omega, by go_num, rfl, by omega, by omega, Hb.out.drew⟩
          case measure => simp [intOf]; omega
        · have hzz' : (1000 : Int) ≤ z := by omega
          clear hb hlt
          go_wp2
          go_ret
          exact ⟨⟨_, rfl⟩, Hb1.out.trans (Hb.out.mono Hb1.out.size)⟩
      · have h20' : (20 : Int) ≤ (j : Int) := by omega
        clear hb hlt
        go_wp2
        go_ret
        exact ⟨⟨_, rfl⟩, Hb1.out.trans (Hb.out.mono Hb1.out.size)⟩
    · have hji : (fn : Int) ≤ (j : Int) := by omega
      clear hb hlt
      go_wp2
      go_ret
      exact ⟨⟨_, rfl⟩, Hb1.out.trans (Hb.out.mono Hb1.out.size)⟩
end Go.Proofs.YtioekhiaoajgfaaGreat.Gr
end

section
/- loggialaw14.Few: the walk. -/
namespace Go.Proofs.YtioekhiaoajgfaaGreat.Mx
open Go.RowKit Go.Proofs.YtioekhiaoajgfaaGreat Go.Proofs.YtioekhiaoajgfaaGreat.Ut Go.Proofs.YtioekhiaoajgfaaGreat.Tk Go.Proofs.YtioekhiaoajgfaaGreat.Qy Go.Proofs.YtioekhiaoajgfaaGreat.Ev Go.Proofs.YtioekhiaoajgfaaGreat.Qp
set_option linter.unusedVariables false
set_option linter.unusedSimpArgs false
set_option maxRecDepth 20000

/-- The batches, or no. -/
def FewE (w : World) (L : List Bt) (e : Ending) (w' : World) : Prop :=
  (e = .returned (.tuple #[.slice none 0 0, .bool false]) ∧ Below w.heap.size w w') ∨ (∃ v, e = .returned (.tuple #[v, .bool true]) ∧ BOwn w' w.heap.size w.heap.size v (L.take 8) ∧ Below w.heap.size w w')
set_option maxHeartbeats 3200000 in
theorem few_any (A : Option Addr) (n c : Nat) (L : List Bt) (w : World) (hB : BtsAt w (· < w.heap.size) w.heap.size A n c L) (hn : n ≤ 4398046511104) :
    Calls Tryz.prog 5 #[.slice A n c] w (FewE w L) := by
  obtain ⟨i0, hi0, hz0, hz1, hz2⟩ := info_parts batch_info
  have HG : Hid (∀ wx, Below w.heap.size w wx → ∀ i (hi : i < L.length), ∃ b o E m q, A = some ⟨b, o, none⟩ ∧ b < wx.heap.size ∧ wx.cell? ⟨b, o + i * 2, none⟩ = some (.int .i64 L[i].1) ∧ wx.cell? ⟨b, o + i * 2 + 1, none⟩ = some (.slice E m q) ∧ EvsAt wx w.heap.size E m q L[i].2) := Lib.hid (fun wx hb i hi => by
    obtain ⟨b, o, E, m, q, e, hlt, c0, c1, hE⟩ := hB.at_ hi
    exact ⟨b, o, E, m, q, e, Nat.lt_of_lt_of_le hlt hb.size, (hb.cell hlt).trans c0, (hb.cell hlt).trans c1, hE.keep (fun b o hlt => hb.cell hlt)⟩)
  have Hl := Lib.hid hB.ln
  clear hB
  go_enter Tryz.func5, Tryz.ntmps5
  go_wp2_with fail
  go_loopw [4, 5, 6] (fun v s i wr => ∃ (k : Nat) (z : Int), k ≤ n ∧ k ≤ 8 ∧ i = .int .i64 (k : Nat) ∧ s = .int .i64 z ∧ 0 ≤ z ∧ z ≤ 80 ∧ Hid (BOwn wr w.heap.size w.heap.size v (L.take k)) ∧ Hid (Below w.heap.size w wr)) (fun _ _ i _ => 8 - (intOf i).toNat)
  case atStart => exact ⟨0, 0, Nat.zero_le _, by omega, rfl, rfl, by omega, by omega, Lib.hid (BOwn.start _ _ _), Lib.hid (Below.refl _ _)⟩
  case round =>
    obtain ⟨k, z, hk, hk8, rfl, rfl, hz0', hz8, HO, HW⟩ := hrel
    by_cases hlt : k < n ∧ k < 8
    · obtain ⟨hlt, hl8⟩ := hlt
      have hki : (k : Int) < (n : Int) := by omega
      have hki0 : (0 : Int) ≤ (k : Int) := by omega
      have hki2 : (k : Int) < 8 := by omega
      have hkl : k < L.length := by rw [Hl.out]; exact hlt
      obtain ⟨b, o, E, m, q, rfl, hb, g0, g1, hE⟩ := HG.out wr HW.out k hkl
      have hbw : w.heap.size ≤ wr.heap.size := HW.out.size
      have hts : L.take (k + 1) = L.take k ++ [L[k]] := List.take_succ_eq_append_getElem hkl
      have Hts := Lib.hid hts
      have hol : (L.take k).length ≤ 8 := by rw [List.length_take]; omega
      have hEl := hE.ln
      have hEf := hE.few
      have HDV : Hid (∀ W : World, Below wr.heap.size wr W → BtV W w.heap.size L[k] [.int .i64 L[k].1, .slice E m q]) := Lib.hid (fun W hW => ⟨E, m, q, rfl, hE.keep (fun b o hlt => hW.cell (Nat.lt_of_lt_of_le hlt hbw))⟩)
      have HE : Hid (∀ W : World, Below wr.heap.size wr W → EvsAt W W.heap.size E m q L[k].2) := Lib.hid (fun W hW => (hE.keep (fun b o hlt => hW.cell (Nat.lt_of_lt_of_le hlt hbw))).more (Nat.le_trans hbw hW.size))
      clear hts hE
      generalize hdd : L[k] = dd at *
      clear hdd
      generalize L.take k = out at *
      obtain ⟨t, ht, ht0, ht6⟩ : ∃ t : Int, min 66 (m : Int) = t ∧ 0 ≤ t ∧ t ≤ 66 := ⟨_, rfl, by omega, by omega⟩
      have hX := Blk.new wr 45 #[.int .i64 dd.1, .slice E m q]
      have hB1 : Below wr.heap.size wr (wr.alloc (.cells #[.int .i64 dd.1, .slice E m q] 45)) := (Below.refl _ _).alloc (Nat.le_refl _) _
      have HX := Lib.hid hX
      have HB1 := Lib.hid hB1
      have hw1 := hB1.size
      clear hX hB1
      obtain ⟨wo, rfl⟩ : ∃ wo : World, wo = wr := ⟨_, rfl⟩
      by_cases hz : 80 < z + t
      · have hzw : IntKind.i64.wrap (z + t) = z + t := by rw [IntKind.wrap_i64]; omega
        go_wp2
        go_ret2
        exact .inl ⟨rfl, HW.out.trans (HB1.out.mono hbw)⟩
      · have hzw : IntKind.i64.wrap (z + t) = z + t := by rw [IntKind.wrap_i64]; omega
        have hz2' : z + t ≤ 80 := by omega
        clear hz
        go_wp2_with fail
        generalize hwa : (wo.alloc (.cells #[.int .i64 dd.1, .slice E m q] 45)) = wa at *
        clear hwa
        go_loopw [8] (fun i wq => ∃ j : Nat, j ≤ m ∧ j ≤ 66 ∧ i = .int .i64 (j : Nat) ∧ Hid (Below wa.heap.size wa wq)) (fun i _ => 66 - (intOf i).toNat)
        case atStart => exact ⟨0, Nat.zero_le _, by omega, rfl, Lib.hid (Below.refl _ _)⟩
        case round =>
          obtain ⟨j, hj, hj6, rfl, HQ⟩ := hrel
          have hXq := HX.out.below HQ.out HX.out.lt
          have x0 := hXq.cell 0
          have x1 := hXq.cell 1
          simp only [List.getElem?_toArray, List.getElem?_cons_zero, List.getElem?_cons_succ] at x0 x1
          have hqs := HQ.out.size
          have hWQ : Below wo.heap.size wo wr := HB1.out.trans (HQ.out.mono hw1)
          have HWQ := Lib.hid hWQ
          have HXq := Lib.hid hXq
          clear hWQ hXq
          by_cases hjl : j < m ∧ j < 66
          · obtain ⟨hjl, hjl6⟩ := hjl
            have hji : (j : Int) < (m : Int) := by omega
            have hji0 : (0 : Int) ≤ (j : Int) := by omega
            have hji2 : (j : Int) < 66 := by omega
            obtain ⟨eb, eo, F, fn, fc, rfl, heb, e0, e1, hF⟩ := (HE.out wr HWQ.out).at_ (i := j) (by omega)
            have C1 := Lib.hid (Gr.light_any dd.2[j].1 F fn fc dd.2[j].2 wr ⟨hF.rd, hF.len, hF.few⟩)
            clear hF
            generalize dd.2[j].1 = ta at *
            go_wp2_with fail
            refine C1.out.mono ?_
            rintro e w2 ⟨⟨bb, rfl⟩, hb2⟩
            have HQ2 := Lib.hid (HQ.out.trans (hb2.mono hqs))
            have HW2 := Lib.hid ((HW.out.trans (HWQ.out.mono hbw)).trans (hb2.mono (by omega)))
            clear hb2
            cases bb with
            | false =>
              go_wp2
              go_ret2
              exact .inl ⟨rfl, HW2.out⟩
            | true =>
              go_wp2_with fail
              go_roundw
              case rel => exact ⟨j + 1, by omega, by omega, by go_num, HQ2⟩
              case measure => simp [intOf]; omega
          · have HO2 := HO.out.below HWQ.out hbw
            obtain ⟨vss, hv1, hv2, hv3⟩ := HO2.ex
            have Hv3 := Lib.hid hv3
            have HWF := Lib.hid (HW.out.trans (HWQ.out.mono hbw))
            have hown := hv2.alloc (.cells #[.int .i64 dd.1, .slice E m q] 45)
            have hAA := (Below.refl wr.heap.size wr).alloc (Nat.le_refl _) (.cells #[.int .i64 dd.1, .slice E m q] 45)
            have HAA := Lib.hid hAA
            clear hv3 HO2 hAA
            by_cases hjm : j < m
            · have hji : (j : Int) < (m : Int) := by omega
              have hji2 : ¬ (j : Int) < 66 := by omega
              clear hjl
              go_wp2_with (at_builtin; refine wpList_append_own _ rfl _ _ 22 rfl w.heap.size 45 i0 _ 2 32 Tryz.underlying22 hi0 hz0 hz1 hz2 rfl (by decide) _ out.length vss.flatten rfl hown ⟨wr.heap.size, 0, none⟩ 1 1 [.int .i64 dd.1, .slice E m q] rfl rfl (World.news_of_block (cs := #[.int .i64 dd.1, .slice E m q]) (t := 45) (fr := (0, 0)) (heap_alloc_new wr _)) (by simp [Value.oneCell']) ?c1 ?c2 ?c3 ?_)
              case c1 => unfold maxLen; omega
              case c2 => omega
              case c3 => first | omega | (rw [World.size_alloc]; omega)
              intro v' w3 hown' hgrow _
              have HP : Hid (BOwn w3 w.heap.size w.heap.size v' (out ++ [dd])) := Lib.hid (BOwn.put (d := dd) ⟨vss, hv1, hown, fun i h h' => (Hv3.out i h h').keep (fun b o hlt => HAA.out.cell (by show b < _; omega)), rfl⟩ hown' hgrow (HDV.out _ (HWQ.out.trans (HAA.out.mono (by omega)))) (Nat.le_refl _) (by have := HAA.out.size; omega))
              have HB3 := Lib.hid ((HWF.out.trans (HAA.out.mono (by omega))).grown hgrow (by have := HAA.out.size; omega) (fun b hb => (hown.lt b hb).1))
              clear hown hown' hgrow hv1 hv2
              go_wp2
              go_roundw
              case rel => exact ⟨k + 1, _, by omega, by omega, by go_num, rfl, by omega, by omega, Lib.hid (by rw [Hts.out]; exact HP.out), HB3⟩
              case measure => simp [intOf]; omega
            · have hji : ¬ (j : Int) < (m : Int) := by omega
              clear hjl
              go_wp2_with (at_builtin; refine wpList_append_own _ rfl _ _ 22 rfl w.heap.size 45 i0 _ 2 32 Tryz.underlying22 hi0 hz0 hz1 hz2 rfl (by decide) _ out.length vss.flatten rfl hown ⟨wr.heap.size, 0, none⟩ 1 1 [.int .i64 dd.1, .slice E m q] rfl rfl (World.news_of_block (cs := #[.int .i64 dd.1, .slice E m q]) (t := 45) (fr := (0, 0)) (heap_alloc_new wr _)) (by simp [Value.oneCell']) ?e1 ?e2 ?e3 ?_)
              case e1 => unfold maxLen; omega
              case e2 => omega
              case e3 => first | omega | (rw [World.size_alloc]; omega)
              intro v' w3 hown' hgrow _
              have HP : Hid (BOwn w3 w.heap.size w.heap.size v' (out ++ [dd])) := Lib.hid (BOwn.put (d := dd) ⟨vss, hv1, hown, fun i h h' => (Hv3.out i h h').keep (fun b o hlt => HAA.out.cell (by show b < _; omega)), rfl⟩ hown' hgrow (HDV.out _ (HWQ.out.trans (HAA.out.mono (by omega)))) (Nat.le_refl _) (by have := HAA.out.size; omega))
              have HB3 := Lib.hid ((HWF.out.trans (HAA.out.mono (by omega))).grown hgrow (by have := HAA.out.size; omega) (fun b hb => (hown.lt b hb).1))
              clear hown hown' hgrow hv1 hv2
              go_wp2
              go_roundw
              case rel => exact ⟨k + 1, _, by omega, by omega, by go_num, rfl, by omega, by omega, Lib.hid (by rw [Hts.out]; exact HP.out), HB3⟩
              case measure => simp [intOf]; omega
    · have hall : L.take k = L.take 8 := by
        by_cases e : k = 8
        · rw [e]
        · rw [List.take_of_length_le (by rw [Hl.out]; omega), List.take_of_length_le (by rw [Hl.out]; omega)]
      have HALL := Lib.hid hall
      clear hall
      by_cases hkn : k < n
      · have hki : (k : Int) < (n : Int) := by omega
        have hki2 : ¬ (k : Int) < 8 := by omega
        clear hlt
        go_wp2
        go_ret2
        exact .inr ⟨_, rfl, by rw [← HALL.out]; exact HO.out, HW.out⟩
      · have hki : ¬ (k : Int) < (n : Int) := by omega
        clear hlt
        go_wp2
        go_ret2
        exact .inr ⟨_, rfl, by rw [← HALL.out]; exact HO.out, HW.out⟩
end Go.Proofs.YtioekhiaoajgfaaGreat.Mx
end

section
/- Regions that draw their order: another condition from a point on. -/
namespace Go.Proofs.YtioekhiaoajgfaaGreat
section
variable {P : Program} {ops : Array Oper} {Q : Exit → Act → World → Prop} {md : Region.Mode} {S S' : World → Prop}
theorem wpAnyH_weaken (hi : ∀ w, S' w → S w) : ∀ (fuel : Nat) (listed : Array Bool) (a : Act) (w : World), wpAnyH P md ops Q S' fuel listed a w → wpAnyH P md ops Q S fuel listed a w
  | 0, _, _, _, h => h
  | fuel + 1, _, _, _, h => ⟨h.1, fun i hr => wpOp_mono (fun a' w' h' => ⟨hi _ h'.1, wpAnyH_weaken hi fuel _ a' w' h'.2⟩) (h.2 i hr)⟩
/-- From here on S', which says more. -/
theorem wpAnyH_switch {fuel : Nat} {listed : Array Bool} {a : Act} {w : World} (hi : ∀ w, S' w → S w) (hS : S' w) (h : S' w → wpAnyH P md ops Q S' fuel listed a w) : wpAnyH P md ops Q S fuel listed a w :=
  wpAnyH_weaken hi _ _ _ _ (h hS)
/-- Take number i first; its slot is named. -/
theorem wpAnyH_takeD {i : Nat} (d : Tmp) {oi : Oper} {v : Value} {fuel : Nat} {listed : Array Bool} {a : Act} {w : World} (hi : ops[i]? = some oi) (hd : oi.dst = some d)
    (hs : Region.noSelect ops = true) (hf : Region.free md ops listed i = true) (hr : (Region.ready md ops listed).contains i = true)
    (hQ : ∀ c a w, Q (.panic c) (a.put (some d) v) w → Q (.panic c) a w) (hw : Region.wanted oi (yielded ops a.tmps) = true) (hy : ∀ w, S w → (execOp a.eval oi).run P w = .ok (.value v) w) (hS : S w)
    (h : wpAnyH P md ops Q S fuel (listed.setIfInBounds i true) (a.put (some d) v) w) : wpAnyH P md ops Q S (fuel + 1) listed a w := by
  rw [← hd] at h hQ
  exact wpAnyH_take hi hs hf hr hQ (.inl ⟨hw, hy⟩) hS h
end
end Go.Proofs.YtioekhiaoajgfaaGreat
end

section
/- loggialaw14.filled, short: the walks (printed by gen_mxfl.py). -/
namespace Go.Proofs.YtioekhiaoajgfaaGreat.Mx
open Go.RowKit Go.Proofs.YtioekhiaoajgfaaGreat Go.Proofs.YtioekhiaoajgfaaGreat.Ut Go.Proofs.YtioekhiaoajgfaaGreat.Tk Go.Proofs.YtioekhiaoajgfaaGreat.Qy Go.Proofs.YtioekhiaoajgfaaGreat.Ev Go.Proofs.YtioekhiaoajgfaaGreat.Qp Go.Proofs.YtioekhiaoajgfaaGreat.Mv
set_option linter.unusedVariables false
set_option linter.unusedSimpArgs false
set_option maxRecDepth 40000

theorem results_tmp_cell {fn : Func} {p u : Tmp} {ty : TypeId} (h : fn.results = #[.tmp u, .cell p ty]) (tmps : Array Value) (P : Program) (w : World) :
    (results fn tmps).run P w =
      ((asAddr (tmps.getD p undef)).run P w).andThen fun a w₁ => ((loadVar ty a).run P w₁).andThen fun v w₂ => .ok (.tuple #[tmps.getD u undef, v]) w₂ := by
  simp only [results, h]
  simp [Sem.run_bind, Result.andThen]
theorem results_tc {fn : Func} {p u : Tmp} {ty : TypeId} (h : fn.results = #[.tmp u, .cell p ty]) {tmps : Array Value} {P : Program} {w : World} {a : Addr} {v : Value} (ha : tmps.getD p undef = .pointer (some a)) (hl : (loadVar ty a).run P w = .ok v w) :
    (results fn tmps).run P w = .ok (.tuple #[tmps.getD u undef, v]) w := by
  rw [results_tmp_cell h, ha]
  have : (asAddr (.pointer (some a))).run P w = .ok a w := rfl
  rw [this]
  simp only [Result.andThen_ok]
  rw [hl]
  rfl
/-- What an index has behind batches. -/
def fillD (l : List Bt) : List Dc := l.foldl (fun ds b => addD ds b.1 b.2) []
theorem fillD_snoc (l : List Bt) (b : Bt) : fillD (l ++ [b]) = addD (fillD l) b.1 b.2 := by simp [fillD]
/-- An index that took batches, and the document's. -/
def FilledP (w : World) (l : List Bt) (e : Ending) (w' : World) : Prop := ∃ (n0 X : Nat) (O Rr : Nat → Prop) (A : Option Addr) (n c : Nat), w.heap.size ≤ n0 ∧ e = .returned (.tuple #[.pointer (some ⟨X, 0, none⟩), .agg #[.slice A n c]]) ∧
  IxD w' n0 X O (fillD l) ∧ RIx w' Rr w.heap.size A n c (fillD l) ∧ (∀ b, Rr b → ¬ O b) ∧ Below w.heap.size w w'
theorem RIx.set {w : World} {Rr : Nat → Prop} {B : Nat} {A : Option Addr} {n c : Nat} {ds : List Dc} {w' : World} (h : RIx w Rr B A n c ds) (hR : ∀ b, Rr b ∨ b < B → w'.heap[b]? = w.heap[b]?) (hs : w'.heap.size = w.heap.size) : RIx w' Rr B A n c ds :=
  ⟨h.rd.same (fun b hb => ⟨hb, hR b (.inl hb)⟩) (fun b hb => ⟨hb, hR b hb⟩), h.cap, h.nl, fun b hb => by rw [hs]; exact h.lt b hb, by rw [hs]; exact h.bw⟩
set_option maxHeartbeats 6400000 in
theorem filled_any (A0 : Option Addr) (m c0 : Nat) (l : List Bt) (w : World) (hB : BtsAt w (· < w.heap.size) w.heap.size A0 m c0 l) (hm : m ≤ 4398046511104) :
    Calls Tryz.prog 8 #[.slice A0 m c0] w (FilledP w l) := by
  have HLR : Hid (∀ wx, Below w.heap.size w wx → ∀ k (hk : k < l.length), ∃ b o E m q, A0 = some ⟨b, o, none⟩ ∧ b < w.heap.size ∧ wx.cell? ⟨b, o + k * 2, none⟩ = some (.int .i64 l[k].1) ∧ wx.cell? ⟨b, o + k * 2 + 1, none⟩ = some (.slice E m q) ∧ EvsAt wx w.heap.size E m q l[k].2) := Lib.hid (fun wx hb k hk => by
    obtain ⟨b, o, E, m, q, e, hr, c0, c1, hE⟩ := hB.at_ hk
    exact ⟨b, o, E, m, q, e, hr, (hb.cell hr).trans c0, (hb.cell hr).trans c1, hE.keep (fun b o hlt => hb.cell hlt)⟩)
  have hln := hB.ln
  have hl1 : l.length ≤ m := by omega
  have hl2 : m ≤ l.length := by omega
  clear hB hln
  have hb0 : Below w.heap.size w (w.alloc (.cells #[.slice none 0 0] 30)) := (Below.refl _ _).alloc (Nat.le_refl _) _
  have hk0 := Blk.new w 30 #[.slice none 0 0]
  have HB0 := Lib.hid hb0
  have HK0 := Lib.hid hk0
  have hs0 := hb0.size
  have hlt0 := hk0.lt
  clear hb0 hk0
  go_enter Tryz.func8, Tryz.ntmps8
  go_upto_region 1 with fail
  generalize hw1 : w.alloc (.cells #[.slice none 0 0] 30) = w1 at *
  try rw [hw1]
  clear hw1
  go_wp2_with fail
  refine (new_ix w1).mono ?_
  rintro e w2 ⟨X, rfl, hI, hb2⟩
  have hP0 := Pair.start (B := w.heap.size) hI hs0 hb2.size
  have HP0 := Lib.hid hP0
  have hb3 : Below w1.heap.size w1 (w2.alloc (.cells #[.slice none 0 0] 30)) := hb2.alloc hb2.size _
  have HB3 := Lib.hid hb3
  have hs2 := hb2.size
  clear hI hb2 hP0 hb3
  go_wp2_with fail
  generalize hR0 : w2.heap.size = R0 at *
  generalize hw3 : w2.alloc (.cells #[.slice none 0 0] 30) = w3 at *
  clear hw3
  go_loopw [6] (fun j wr => ∃ (k : Nat) (O Rr : Nat → Prop) (A : Option Addr) (nA cA : Nat), k ≤ l.length ∧ j = .int .i64 (k : Nat) ∧ Hid (Pair wr w1.heap.size w.heap.size X R0 O Rr A nA cA (fillD (l.take k))) ∧ Hid (Below w1.heap.size w1 wr)) (fun j _ => l.length - (intOf j).toNat)
  case atStart => exact ⟨0, _, _, _, _, _, Nat.zero_le _, rfl, HP0, HB3⟩
  case round =>
    obtain ⟨k, O, Rr, A, nA, cA, hk, rfl, HP, HW⟩ := hrel
    by_cases hlt : k < l.length
    · have hki : (k : Int) < (m : Int) := by omega
      have hki0 : (0 : Int) ≤ (k : Int) := by omega
      have hwr := HW.out.size
      have HW0 : Hid (Below w.heap.size w wr) := Lib.hid (HB0.out.trans (HW.out.mono hs0))
      obtain ⟨b, o, E, mE, q, rfl, hb, g0, g1, hE⟩ := HLR.out wr HW0.out k hlt
      have hfd : fillD (l.take (k + 1)) = addD (fillD (l.take k)) l[k].1 l[k].2 := by rw [List.take_succ_eq_append_getElem hlt, fillD_snoc]
      have HFD := Lib.hid hfd
      generalize hds : fillD (l.take k) = ds at *
      have C1 := Lib.hid (add_walk l[k].1 E mE q l[k].2 w1.heap.size X O ds wr HP.out.ix HP.out.hn (hE.more (Nat.le_trans hs0 hwr)))
      clear hE hfd hds
      go_wp2_with fail
      refine C1.out.mono ?_
      rintro e w4 ⟨rfl, hI4, hc4⟩
      obtain ⟨hr4, hk4, hb4, hd4, hO4⟩ := HP.out.add hI4 hc4
      have hW4 : Below w1.heap.size w1 w4 := HW.out.trans hb4
      have hs4 := hb4.size
      have HI4 := Lib.hid hI4
      have HR4 := Lib.hid hr4
      have HK4 := Lib.hid hk4
      have HD4 := Lib.hid hd4
      have HO4 := Lib.hid hO4
      have HW4 := Lib.hid hW4
      have OK := Lib.hid (And.intro HP.out.ix.ok HP.out.ix.few)
      have hR0b := HP.out.hR
      obtain ⟨b', o', E', m', q', e', hb', g0', g1', hE'⟩ := HLR.out w4 (HB0.out.trans (hW4.mono hs0)) k hlt
      injection e' with e'
      injection e' with e1 e2
      subst e1 e2
      have HE4 := Lib.hid hE'
      have q0 := hk4.cell 0
      simp only [List.getElem?_toArray, List.getElem?_cons_zero] at q0
      have hsz : R0 < w4.heap.size := hk4.lt
      have hbl : b < w4.heap.size := Nat.lt_of_lt_of_le hb (by omega)
      have CA : Hid (∀ wx, Below w4.heap.size w4 wx → Calls Tryz.prog 30 #[.agg #[.slice A nA cA], .agg #[.int .i64 l[k].1, .slice E' m' q']] wx (RAddPost wx Rr w.heap.size ds l[k].1 l[k].2)) := Lib.hid (fun wx hC =>
        radd_any l[k].1 E' m' q' l[k].2 A nA cA ds Rr w.heap.size wx (HR4.out.below hC (fun b hb => hb) (fun b hb => Nat.lt_of_lt_of_le (HR4.out.lt b hb) hC.size)) (HE4.out.keep (fun b o hlt => hC.cell (by show b < _; omega))) OK.out.1 OK.out.2)
      clear hI4 hc4 hr4 hk4 hb4 hd4 hO4 g0 g1 hE' C1
      generalize l[k].1 = sq at *
      generalize l[k].2 = evs at *
      go_upto_region 7 with (fail)
      refine wp_region_noPanic ?_
      refine wp_region_held_drew (S := fun w' => w'.cell? ⟨b, o + k * 2, none⟩ = some (.int .i64 sq) ∧ w'.cell? ⟨b, o + k * 2 + 1, none⟩ = some (.slice E' m' q')) (by kernel_rfl) (by exact ⟨g0', g1'⟩) (fun hHeld => ?_)
      refine wpAnyH_takeD (i := 1) 22 (v := ?_) rfl rfl (by kernel_rfl) (by kernel_rfl) (by kernel_rfl) (fun _ _ _ h => h) (by rfl) ?_ hHeld ?_
      rotate_left
      · intro W hSw; (try dsimp only at hSw); go_simp
        all_goals with_reducible rfl
      try simp only [Act.put, List.setIfInBounds_toArray, List.set_cons_zero, List.set_cons_succ]
      refine wpAnyH_takeD (i := 2) 23 (v := ?_) rfl rfl (by kernel_rfl) (by kernel_rfl) (by kernel_rfl) (fun _ _ _ h => h) (by rfl) ?_ hHeld ?_
      rotate_left
      · intro W hSw; (try dsimp only at hSw); go_simp
        all_goals with_reducible rfl
      try simp only [Act.put, List.setIfInBounds_toArray, List.set_cons_zero, List.set_cons_succ]
      refine wpAnyH_takeD (i := 3) 24 (v := ?_) rfl rfl (by kernel_rfl) (by kernel_rfl) (by kernel_rfl) (fun _ _ _ h => h) (by rfl) ?_ hHeld ?_
      rotate_left
      · intro W hSw; (try dsimp only at hSw); go_simp
        all_goals with_reducible rfl
      try simp only [Act.put, List.setIfInBounds_toArray, List.set_cons_zero, List.set_cons_succ]
      refine wpAnyH_takeD (i := 4) 25 (v := ?_) rfl rfl (by kernel_rfl) (by kernel_rfl) (by kernel_rfl) (fun _ _ _ h => h) (by rfl) ?_ hHeld ?_
      rotate_left
      · intro W hSw; (try dsimp only at hSw); go_simp
        all_goals with_reducible rfl
      try simp only [Act.put, List.setIfInBounds_toArray, List.set_cons_zero, List.set_cons_succ]
      refine wpAnyH_ready (rs := [0]) (by kernel_rfl) (by simp) ?_
      refine AllReadyH.cons (o := _) rfl (fun K hK => ?_) AllReadyH.nil
      go_simp
      refine hK.out _ _ ?_ (fun hHeld => ?_)
      · exact ⟨g0', g1'⟩
      clear hK K
      try simp only [Act.put, List.setIfInBounds_toArray, List.set_cons_zero, List.set_cons_succ]
      refine wpAnyH_ready (rs := [5]) (by kernel_rfl) (by simp) ?_
      refine AllReadyH.cons (o := _) rfl (fun K hK => ?_) AllReadyH.nil
      go_simp
      refine (CA.out _ (Below.refl _ _).drew).mono ?_
      rintro e w6 ⟨A9, n9, c9, rfl, hr9, hb9⟩
      have hb9' : Below w4.heap.size w4 w6 := (Below.refl _ _).drew.trans hb9
      refine hK.out _ _ ?_ (fun hHeld => ?_)
      · exact ⟨(hb9'.cell (p := ⟨b, o + k * 2, none⟩) hbl).trans g0', (hb9'.cell (p := ⟨b, o + k * 2 + 1, none⟩) hbl).trans g1'⟩
      clear hK K
      try simp only [Act.put, List.setIfInBounds_toArray, List.set_cons_zero, List.set_cons_succ]
      refine wpAnyH_takeD (i := 6) 20 (v := ?_) rfl rfl (by kernel_rfl) (by kernel_rfl) (by kernel_rfl) (fun _ _ _ h => h) (by rfl) ?_ hHeld ?_
      rotate_left
      · intro W hSw; (try dsimp only at hSw); go_simp
        all_goals with_reducible rfl
      try simp only [Act.put, List.setIfInBounds_toArray, List.set_cons_zero, List.set_cons_succ]
      refine wpAnyH_takeD (i := 7) 27 (v := ?_) rfl rfl (by kernel_rfl) (by kernel_rfl) (by kernel_rfl) (fun _ _ _ h => h) (by rfl) ?_ hHeld ?_
      rotate_left
      · intro W hSw; (try dsimp only at hSw); go_simp
        all_goals with_reducible rfl
      try simp only [Act.put, List.setIfInBounds_toArray, List.set_cons_zero, List.set_cons_succ]
      refine wpAnyH_takeD (i := 8) 28 (v := ?_) rfl rfl (by kernel_rfl) (by kernel_rfl) (by kernel_rfl) (fun _ _ _ h => h) (by rfl) ?_ hHeld ?_
      rotate_left
      · intro W hSw; (try dsimp only at hSw); go_simp
        all_goals with_reducible rfl
      try simp only [Act.put, List.setIfInBounds_toArray, List.set_cons_zero, List.set_cons_succ]
      have hk6 := HK4.out.below hb9' HK4.out.lt
      have y0 := hk6.cell 0
      have y0f := hk6.frozen 0
      simp only [List.getElem?_toArray, List.getElem?_cons_zero] at y0
      have hP8 := Pair.put HI4.out hb9' hr9 HD4.out HK4.out HO4.out HP.out.hB (Nat.le_trans hwr hs4) hR0b
      have HP8 : Hid (Pair (w6.setCell ⟨R0, 0, none⟩ (.slice A9 n9 c9)) w1.heap.size w.heap.size X R0 _ _ A9 n9 c9 (fillD (l.take (k + 1)))) := Lib.hid (by rw [HFD.out]; exact hP8)
      have HB8 := Lib.hid ((HW4.out.trans (hb9'.mono (Nat.le_trans hwr hs4))).setCell (p := ⟨R0, 0, none⟩) hR0b (.slice A9 n9 c9))
      have hh9 : (w6.setCell ⟨R0, 0, none⟩ (.slice A9 n9 c9)).cell? ⟨b, o + k * 2, none⟩ = some (.int .i64 sq) ∧ (w6.setCell ⟨R0, 0, none⟩ (.slice A9 n9 c9)).cell? ⟨b, o + k * 2 + 1, none⟩ = some (.slice E' m' q') := by
        have hne : b ≠ R0 := by omega
        have e1 : ∀ (q : Nat), (w6.setCell ⟨R0, 0, none⟩ (.slice A9 n9 c9)).cell? ⟨b, q, none⟩ = w6.cell? ⟨b, q, none⟩ := fun q => World.cell?_of_block (Below.heap_setCell _ ⟨R0, 0, none⟩ _ _ hne)
        exact ⟨(e1 _).trans ((hb9'.cell (p := ⟨b, o + k * 2, none⟩) hbl).trans g0'), (e1 _).trans ((hb9'.cell (p := ⟨b, o + k * 2 + 1, none⟩) hbl).trans g1')⟩
      clear hP8 hr9 hk6 q0
      refine wpAnyH_ready (rs := [9]) (by kernel_rfl) (by simp) ?_
      refine AllReadyH.cons (o := _) rfl (fun K hK => ?_) AllReadyH.nil
      go_simp
      refine hK.out _ _ ?_ (fun hHeld => ?_)
      · exact hh9
      clear hK K
      try simp only [Act.put, List.setIfInBounds_toArray, List.set_cons_zero, List.set_cons_succ]
      refine wpAnyH_done (by kernel_rfl) ?_ _
      refine NoPanic.normal ?_
      clear hh9 hHeld
      go_wp2_with fail
      go_roundw
      case rel => exact ⟨k + 1, _, _, _, _, _, by omega, by go_num, HP8, HB8⟩
      case measure => simp [intOf]; omega
    · obtain rfl : k = l.length := by omega
      rw [List.take_length] at HP
      have x0 := HP.out.blk.cell 0
      simp only [List.getElem?_toArray, List.getElem?_cons_zero] at x0
      have hkr := HK0.out.below (HW.out) (by omega)
      have r0 := hkr.cell 0
      have r0f := hkr.frozen 0
      simp only [List.getElem?_toArray, List.getElem?_cons_zero] at r0
      have hR0b := HP.out.hR
      have hne : R0 ≠ w.heap.size := by omega
      have hw1r := HW.out.size
      have kp : ∀ b, w1.heap.size ≤ b ∨ b < w.heap.size → (wr.setCell ⟨w.heap.size, 0, none⟩ (.slice A nA cA)).heap[b]? = wr.heap[b]? := fun b hb => Below.heap_setCell _ ⟨w.heap.size, 0, none⟩ _ _ (by show b ≠ w.heap.size; omega)
      have HRR : Hid (RIx (wr.setCell ⟨w.heap.size, 0, none⟩ (.slice A nA cA)) Rr w.heap.size A nA cA (fillD l)) := Lib.hid (HP.out.rx.write hkr (Nat.le_refl _) _)
      have HII : Hid (IxD (wr.setCell ⟨w.heap.size, 0, none⟩ (.slice A nA cA)) w1.heap.size X O (fillD l)) := Lib.hid (HP.out.ix.write hkr (fun hO => by have := (HP.out.ix.lt _ hO).1; omega) _)
      have hbF : Hid (Below w.heap.size w (wr.setCell ⟨w.heap.size, 0, none⟩ (.slice A nA cA))) := Lib.hid ((HB0.out.trans (HW.out.mono hs0)).setCell (p := ⟨w.heap.size, 0, none⟩) (Nat.le_refl _) _)
      have hkF : Blk (wr.setCell ⟨w.heap.size, 0, none⟩ (.slice A nA cA)) w.heap.size 30 #[.slice A nA cA] := by
        have := hkr.set_ 0 (.slice A nA cA)
        simpa using this
      have HKF := Lib.hid hkF
      clear hkr hkF kp
      go_wp2_with fail
      go_region
      go_wp2_with fail
      all_goals exact bodyPost_ret (results_tc rfl rfl (run_loadVar_row _ w.heap.size 30 30 #[.slice A nA cA] (0, 0) _ HKF.out Tryz.underlying30 rfl (by kernel_rfl))) rfl ⟨w1.heap.size, X, O, Rr, A, nA, cA, hs0, rfl, HII.out.below (Below.refl _ _).drew (fun _ h => h) (fun b h => HII.out.lt b h), HRR.out.below (Below.refl _ _).drew (fun _ h => h) (fun b h => HRR.out.lt b h), HP.out.dis, hbF.out.drew⟩
/-- The first 80 bytes. -/
def cut80 (s : ByteArray) : ByteArray := if 80 < s.size then s.extract 0 80 else s
theorem cut80_len (s : ByteArray) : (cut80 s).size ≤ 80 := by
  unfold cut80
  split
  · simp; omega
  · omega
theorem short_any (s : ByteArray) (w : World) (hs : s.size ≤ 140737488351232) : Calls Tryz.prog 7 #[.string s] w fun e w' => e = .returned (.string (cut80 s)) ∧ w = w' := by
  by_cases h : 80 < s.size
  · have hc : cut80 s = s.extract 0 80 := if_pos h
    have HC := Lib.hid hc
    have h1 : (80 : Int) < (s.size : Int) := by omega
    have h2 : (80 : Int) ≤ (s.size : Int) := by omega
    clear hc
    go_enter Tryz.func7, Tryz.ntmps7
    go_wp2
    go_ret
    exact ⟨by rw [HC.out]; first | rfl | simp, rfl⟩
  · have hc : cut80 s = s := if_neg h
    have HC := Lib.hid hc
    have h1 : ¬ (80 : Int) < (s.size : Int) := by omega
    clear hc
    go_enter Tryz.func7, Tryz.ntmps7
    go_wp2
    go_ret
    exact ⟨by rw [HC.out]; rfl, rfl⟩
end Go.Proofs.YtioekhiaoajgfaaGreat.Mx
end
