/- loggiaref10.Light, with what 'yes' tells: the walk (printed by gen_gil.py). -/
import Derived.Test.YtdloacfoegjnmaaGreatPkGroupIndexesRow33
import Derived.Test.YtdloacfoegjnmaaGreatPkGroupIndexesRow20
import Derived.Test.YtdloacfoegjnmaaGreatPkGroupIndexesRow13
import Derived.Test.YtdloacfoegjnmaaGreatPkGroupIndexesRow31
section
namespace Go.Proofs.YtdloacfoegjnmaaGreat.Gi
open Go.RowKit Go.Proofs.YtdloacfoegjnmaaGreat Go.Proofs.YtdloacfoegjnmaaGreat.Ut Go.Proofs.YtdloacfoegjnmaaGreat.Tk Go.Proofs.YtdloacfoegjnmaaGreat.Qy Go.Proofs.YtdloacfoegjnmaaGreat.Ev Go.Proofs.YtdloacfoegjnmaaGreat.Ph
set_option maxRecDepth 20000
set_option linter.unusedSimpArgs false
set_option linter.unusedVariables false

/-- An event's fields. -/
structure EvtAt (w : World) (F : Option Addr) (fn : Nat) (fs : List (ByteArray × ByteArray)) : Prop where
  rd : Reads w w.heap.size 2 F fn (fldC fs)
  len : fs.length = fn
  few : fn ≤ 8796093021952
/-- Not much text, where all fields are looked at. -/
def LightP (fs : List Fl) : Prop := fs.length ≤ 20 → szF fs < 1000
/-- It tells yes or no; and what yes tells. -/
def LightE (fs : List Fl) (e : Ending) : Prop := ∃ b : Bool, e = .returned (.bool b) ∧ (b = true → LightP fs)
set_option maxHeartbeats 6400000 in
theorem lightP_any (t : Int) (F : Option Addr) (fn fc : Nat) (fs : List (ByteArray × ByteArray)) (w : World) (hF : EvtAt w F fn fs) :
    Calls Tryz.prog 12 #[.agg #[.int .i64 t, .slice F fn fc]] w fun e w' => LightE fs e ∧ Below w.heap.size w w' := by
  have hb1 : Below w.heap.size w (w.alloc (.cells #[.int .i64 t, .slice F fn fc] 54)) := (Below.refl _ _).alloc (Nat.le_refl _) _
  have hB1 := Blk.new w 54 #[.int .i64 t, .slice F fn fc]
  have hz1 : w.heap.size < (w.alloc (.cells #[.int .i64 t, .slice F fn fc] 54)).heap.size := by simp
  have hfew := hF.few
  have hlen := hF.len
  have HF := Lib.hid hF
  have Hb1 := Lib.hid hb1
  have HB1 := Lib.hid hB1
  have Hlen := Lib.hid hlen
  clear hF hb1 hB1 hlen
  go_enter Tryz.func12, Tryz.ntmps12
  go_wp2_with fail
  generalize hw1 : (w.alloc (.cells #[.int .i64 t, .slice F fn fc] 54)) = w1 at *
  clear hw1
  go_loopw [3, 4] (fun v i wr => ∃ (j : Nat) (z : Int), j ≤ fn ∧ i = .int .i64 (j : Nat) ∧ v = .int .i64 z ∧ 0 ≤ z ∧ z ≤ 3000 ∧ Hid (z < 1000 → ((szF (fs.take j) : Nat) : Int) = z) ∧ Below w1.heap.size w1 wr) (fun _ i _ => fn - (intOf i).toNat)
  case atStart => exact ⟨0, 0, Nat.zero_le _, rfl, rfl, by omega, by omega, Lib.hid (fun _ => rfl), Below.refl _ _⟩
  case round =>
    obtain ⟨j, z, hj, rfl, rfl, hz0, hz3, HZ, hb⟩ := hrel
    have Hb := Lib.hid hb
    have hls := (hb.cell (p := ⟨w.heap.size, 1, none⟩) (by show w.heap.size < _; exact hz1)).trans (HB1.out.cell 1)
    simp at hls
    by_cases hlt : j < fn
    · have hji : (j : Int) < (fn : Int) := by omega
      have hji0 : (0 : Int) ≤ (j : Int) := by omega
      by_cases h20 : (j : Int) < 20
      · by_cases hzz : z < 1000
        · have hjl : j < fs.length := by rw [Hlen.out]; exact hlt
          obtain ⟨tb, tq, rfl, htb, hd1, hd2⟩ := fields_at HF.out.rd (k := j) hjl
          have hc1 := ((Hb1.out.trans (hb.mono Hb1.out.size)).cell (p := ⟨tb, tq + j * 2, none⟩) htb).trans hd1
          have hc2 := ((Hb1.out.trans (hb.mono Hb1.out.size)).cell (p := ⟨tb, tq + j * 2 + 1, none⟩) htb).trans hd2
          have HS : Hid (szF (fs.take (j + 1)) = szF (fs.take j) + (fs[j].1.size + fs[j].2.size)) := Lib.hid (by rw [List.take_succ_eq_append_getElem hjl, szF_snoc])
          clear hb hlt hd1 hd2
          generalize fs[j].1 = s1 at *
          generalize fs[j].2 = s2 at *
          go_upto_region 5 with (fail)
          refine wp_region_ph_tail 19 (specOf []) (fun wx => wx = wr.drew) (fun _ => True) (by kernel_rfl) (by kernel_rfl) (turns_of (by kernel_rfl)) rfl trivial ?_
          refine ph_fix 1 ?_ rfl (by rfl) (by rfl) (fun wx hC => ?_) ?_
          rotate_left
          · subst hC
            go_simp
            all_goals with_reducible rfl
          try simp only [Act.put, List.setIfInBounds_toArray, List.set_cons_zero, List.set_cons_succ]
          refine ph_fix 2 ?_ rfl (by rfl) (by rfl) (fun wx hC => ?_) ?_
          rotate_left
          · subst hC
            go_simp
            all_goals with_reducible rfl
          try simp only [Act.put, List.setIfInBounds_toArray, List.set_cons_zero, List.set_cons_succ]
          refine ph_fix 3 ?_ rfl (by rfl) (by rfl) (fun wx hC => ?_) ?_
          rotate_left
          · subst hC
            go_simp
            all_goals with_reducible rfl
          try simp only [Act.put, List.setIfInBounds_toArray, List.set_cons_zero, List.set_cons_succ]
          refine ph_fix 4 ?_ rfl (by rfl) (by rfl) (fun wx hC => ?_) ?_
          rotate_left
          · subst hC
            go_simp
            all_goals with_reducible rfl
          try simp only [Act.put, List.setIfInBounds_toArray, List.set_cons_zero, List.set_cons_succ]
          refine ph_fix 5 ?_ rfl (by rfl) (by rfl) (fun wx hC => ?_) ?_
          rotate_left
          · subst hC
            go_simp
            all_goals with_reducible rfl
          try simp only [Act.put, List.setIfInBounds_toArray, List.set_cons_zero, List.set_cons_succ]
          refine ph_fix 6 ?_ rfl (by rfl) (by rfl) (fun wx hC => ?_) ?_
          rotate_left
          · subst hC
            go_simp
            all_goals with_reducible rfl
          try simp only [Act.put, List.setIfInBounds_toArray, List.set_cons_zero, List.set_cons_succ]
          refine ph_fix 7 ?_ rfl (by rfl) (by rfl) (fun wx hC => ?_) ?_
          rotate_left
          · subst hC
            go_simp
            all_goals with_reducible rfl
          try simp only [Act.put, List.setIfInBounds_toArray, List.set_cons_zero, List.set_cons_succ]
          refine ph_fix 8 ?_ rfl (by rfl) (by rfl) (fun wx hC => ?_) ?_
          rotate_left
          · subst hC
            go_simp
            all_goals with_reducible rfl
          try simp only [Act.put, List.setIfInBounds_toArray, List.set_cons_zero, List.set_cons_succ]
          refine ph_fix 9 ?_ rfl (by rfl) (by rfl) (fun wx hC => ?_) ?_
          rotate_left
          · subst hC
            go_simp
            all_goals with_reducible rfl
          try simp only [Act.put, List.setIfInBounds_toArray, List.set_cons_zero, List.set_cons_succ]
          refine ph_fix 10 ?_ rfl (by rfl) (by rfl) (fun wx hC => ?_) ?_
          rotate_left
          · subst hC
            go_simp
            all_goals with_reducible rfl
          try simp only [Act.put, List.setIfInBounds_toArray, List.set_cons_zero, List.set_cons_succ]
          refine ph_fix 11 ?_ rfl (by rfl) (by rfl) (fun wx hC => ?_) ?_
          rotate_left
          · subst hC
            go_simp
            all_goals with_reducible rfl
          try simp only [Act.put, List.setIfInBounds_toArray, List.set_cons_zero, List.set_cons_succ]
          refine ph_fix 12 ?_ rfl (by rfl) (by rfl) (fun wx hC => ?_) ?_
          rotate_left
          · subst hC
            go_simp
            all_goals with_reducible rfl
          try simp only [Act.put, List.setIfInBounds_toArray, List.set_cons_zero, List.set_cons_succ]
          refine ph_fix 13 ?_ rfl (by rfl) (by rfl) (fun wx hC => ?_) ?_
          rotate_left
          · subst hC
            go_simp
            all_goals with_reducible rfl
          try simp only [Act.put, List.setIfInBounds_toArray, List.set_cons_zero, List.set_cons_succ]
          refine ph_fix 14 ?_ rfl (by rfl) (by rfl) (fun wx hC => ?_) ?_
          rotate_left
          · subst hC
            go_simp
            all_goals with_reducible rfl
          try simp only [Act.put, List.setIfInBounds_toArray, List.set_cons_zero, List.set_cons_succ]
          refine ph_fix 15 ?_ rfl (by rfl) (by rfl) (fun wx hC => ?_) ?_
          rotate_left
          · subst hC
            go_simp
            all_goals with_reducible rfl
          try simp only [Act.put, List.setIfInBounds_toArray, List.set_cons_zero, List.set_cons_succ]
          refine ph_fix 16 ?_ rfl (by rfl) (by rfl) (fun wx hC => ?_) ?_
          rotate_left
          · subst hC
            go_simp
            all_goals with_reducible rfl
          try simp only [Act.put, List.setIfInBounds_toArray, List.set_cons_zero, List.set_cons_succ]
          refine ph_fix 17 ?_ rfl (by rfl) (by rfl) (fun wx hC => ?_) ?_
          rotate_left
          · subst hC
            go_simp
            all_goals with_reducible rfl
          try simp only [Act.put, List.setIfInBounds_toArray, List.set_cons_zero, List.set_cons_succ]
          refine ph_fix 18 ?_ rfl (by rfl) (by rfl) (fun wx hC => ?_) ?_
          rotate_left
          · subst hC
            go_simp
            all_goals with_reducible rfl
          try simp only [Act.put, List.setIfInBounds_toArray, List.set_cons_zero, List.set_cons_succ]
          refine ph_fix 19 ?_ rfl (by rfl) (by rfl) (fun wx hC => ?_) ?_
          rotate_left
          · subst hC
            go_simp
            all_goals with_reducible rfl
          try simp only [Act.put, List.setIfInBounds_toArray, List.set_cons_zero, List.set_cons_succ]
          refine ph_nil (fun w9 hC hI => ?_)
          subst hC
          clear hI
          go_wp2
          go_roundw
          case rel => exact ⟨j + 1, _, by omega, by go_num, rfl, by omega, by omega, Lib.hid (fun hz => by have h1 := HZ.out (by omega); have h2 := HS.out; omega), Hb.out.drew⟩
          case measure => simp [intOf]; omega
        · have hzz' : (1000 : Int) ≤ z := by omega
          clear hb hlt
          go_wp2
          go_ret
          exact ⟨⟨_, rfl, fun hb h20 => by first | (exact absurd hb (by decide)) | exact absurd (show z < 1000 by simpa using hb) (by omega)⟩, Hb1.out.trans (Hb.out.mono Hb1.out.size)⟩
      · have h20' : (20 : Int) ≤ (j : Int) := by omega
        clear hb hlt
        go_wp2
        go_ret
        exact ⟨⟨_, rfl, fun hb h20 => by
          have hz : z < 1000 := by simpa using hb
          have h1 := HZ.out hz
          rw [List.take_of_length_le (by have := Hlen.out; omega)] at h1
          omega⟩, Hb1.out.trans (Hb.out.mono Hb1.out.size)⟩
    · have hji : (fn : Int) ≤ (j : Int) := by omega
      clear hb hlt
      go_wp2
      go_ret
      exact ⟨⟨_, rfl, fun hb h20 => by
        have hz : z < 1000 := by simpa using hb
        have h1 := HZ.out hz
        rw [List.take_of_length_le (by have := Hlen.out; omega)] at h1
        omega⟩, Hb1.out.trans (Hb.out.mono Hb1.out.size)⟩
end Go.Proofs.YtdloacfoegjnmaaGreat.Gi
end

section
/- loggialaw14.Few: the walk. -/
namespace Go.Proofs.YtdloacfoegjnmaaGreat.Gi
open Go.RowKit Go.Proofs.YtdloacfoegjnmaaGreat Go.Proofs.YtdloacfoegjnmaaGreat.Ut Go.Proofs.YtdloacfoegjnmaaGreat.Tk Go.Proofs.YtdloacfoegjnmaaGreat.Qy Go.Proofs.YtdloacfoegjnmaaGreat.Ev Go.Proofs.YtdloacfoegjnmaaGreat.Qp Go.Proofs.YtdloacfoegjnmaaGreat.Mx
set_option linter.unusedVariables false
set_option linter.unusedSimpArgs false
set_option maxRecDepth 20000

/-- What batches that are let through are: not many events, and light ones. -/
structure FewL (L : List Bt) : Prop where
  num : (L.map fun b => min 66 b.2.length).sum ≤ 80
  light : ∀ b ∈ L, ∀ i (h : i < b.2.length), i < 66 → LightP b.2[i].2
/-- The batches, or no. -/
def FewQ (w : World) (L : List Bt) (e : Ending) (w' : World) : Prop :=
  (e = .returned (.tuple #[.slice none 0 0, .bool false]) ∧ Below w.heap.size w w') ∨ (∃ v, e = .returned (.tuple #[v, .bool true]) ∧ BOwn w' w.heap.size w.heap.size v (L.take 8) ∧ FewL (L.take 8) ∧ Below w.heap.size w w')
theorem sum_snoc (l : List Bt) (b : Bt) : ((l ++ [b]).map fun b => min 66 b.2.length).sum = (l.map fun b => min 66 b.2.length).sum + min 66 b.2.length := by simp [List.sum_append]
set_option maxHeartbeats 3200000 in
theorem fewL_any (A : Option Addr) (n c : Nat) (L : List Bt) (w : World) (hB : BtsAt w (· < w.heap.size) w.heap.size A n c L) (hn : n ≤ 4398046511104) :
    Calls Tryz.prog 4 #[.slice A n c] w (FewQ w L) := by
  obtain ⟨i0, hi0, hz0, hz1, hz2⟩ := info_parts batch_info
  have HG : Hid (∀ wx, Below w.heap.size w wx → ∀ i (hi : i < L.length), ∃ b o E m q, A = some ⟨b, o, none⟩ ∧ b < wx.heap.size ∧ wx.cell? ⟨b, o + i * 2, none⟩ = some (.int .i64 L[i].1) ∧ wx.cell? ⟨b, o + i * 2 + 1, none⟩ = some (.slice E m q) ∧ EvsAt wx w.heap.size E m q L[i].2) := Lib.hid (fun wx hb i hi => by
    obtain ⟨b, o, E, m, q, e, hlt, c0, c1, hE⟩ := hB.at_ hi
    exact ⟨b, o, E, m, q, e, Nat.lt_of_lt_of_le hlt hb.size, (hb.cell hlt).trans c0, (hb.cell hlt).trans c1, hE.keep (fun b o hlt => hb.cell hlt)⟩)
  have Hl := Lib.hid hB.ln
  clear hB
  go_enter Tryz.func4, Tryz.ntmps4
  go_wp2_with fail
  go_loopw [4, 5, 6] (fun v s i wr => ∃ (k : Nat) (z : Int), k ≤ n ∧ k ≤ 8 ∧ i = .int .i64 (k : Nat) ∧ s = .int .i64 z ∧ 0 ≤ z ∧ z ≤ 80 ∧ Hid (((((L.take k).map fun b => min 66 b.2.length).sum : Nat) : Int) = z ∧ ∀ b ∈ L.take k, ∀ i (h : i < b.2.length), i < 66 → LightP b.2[i].2) ∧ Hid (BOwn wr w.heap.size w.heap.size v (L.take k)) ∧ Hid (Below w.heap.size w wr)) (fun _ _ i _ => 8 - (intOf i).toNat)
  case atStart => exact ⟨0, 0, Nat.zero_le _, by omega, rfl, rfl, by omega, by omega, Lib.hid ⟨rfl, fun b hb => by simp at hb⟩, Lib.hid (BOwn.start _ _ _), Lib.hid (Below.refl _ _)⟩
  case round =>
    obtain ⟨k, z, hk, hk8, rfl, rfl, hz0', hz8, HQL, HO, HW⟩ := hrel
    by_cases hlt : k < n ∧ k < 8
    · obtain ⟨hlt, hl8⟩ := hlt
      have hki : (k : Int) < (n : Int) := by omega
      have hki0 : (0 : Int) ≤ (k : Int) := by omega
      have hki2 : (k : Int) < 8 := by omega
      have hkl : k < L.length := by rw [Hl.out]; exact hlt
      obtain ⟨b, o, E, m, q, rfl, hb, g0, g1, hE⟩ := HG.out wr HW.out k hkl
      have hbw : w.heap.size ≤ wr.heap.size := HW.out.size
      have hts : L.take (k + 1) = L.take k ++ [L[k]] := List.take_succ_eq_append_getElem hkl
      have Hts := Lib.hid hts
      have hol : (L.take k).length ≤ 8 := by rw [List.length_take]; omega
      have hEl := hE.ln
      have hEf := hE.few
      have HEL := Lib.hid hEl
      have HDV : Hid (∀ W : World, Below wr.heap.size wr W → BtV W w.heap.size L[k] [.int .i64 L[k].1, .slice E m q]) := Lib.hid (fun W hW => ⟨E, m, q, rfl, hE.keep (fun b o hlt => hW.cell (Nat.lt_of_lt_of_le hlt hbw))⟩)
      have HE : Hid (∀ W : World, Below wr.heap.size wr W → EvsAt W W.heap.size E m q L[k].2) := Lib.hid (fun W hW => (hE.keep (fun b o hlt => hW.cell (Nat.lt_of_lt_of_le hlt hbw))).more (Nat.le_trans hbw hW.size))
      clear hts hE
      generalize hdd : L[k] = dd at *
      clear hdd
      generalize L.take k = out at *
      obtain ⟨t, ht, ht0, ht6⟩ : ∃ t : Int, min 66 (m : Int) = t ∧ 0 ≤ t ∧ t ≤ 66 := ⟨_, rfl, by omega, by omega⟩
      have hX := Blk.new wr 35 #[.int .i64 dd.1, .slice E m q]
      have hB1 : Below wr.heap.size wr (wr.alloc (.cells #[.int .i64 dd.1, .slice E m q] 35)) := (Below.refl _ _).alloc (Nat.le_refl _) _
      have HX := Lib.hid hX
      have HB1 := Lib.hid hB1
      have hw1 := hB1.size
      clear hX hB1
      obtain ⟨wo, rfl⟩ : ∃ wo : World, wo = wr := ⟨_, rfl⟩
      by_cases hz : 80 < z + t
      · have hzw : IntKind.i64.wrap (z + t) = z + t := by rw [IntKind.wrap_i64]; omega
        go_wp2
        go_ret2
        exact .inl ⟨rfl, HW.out.trans (HB1.out.mono hbw)⟩
      · have hzw : IntKind.i64.wrap (z + t) = z + t := by rw [IntKind.wrap_i64]; omega
        have hz2' : z + t ≤ 80 := by omega
        clear hz
        go_wp2_with fail
        generalize hwa : (wo.alloc (.cells #[.int .i64 dd.1, .slice E m q] 35)) = wa at *
        clear hwa
        go_loopw [8] (fun i wq => ∃ j : Nat, j ≤ m ∧ j ≤ 66 ∧ i = .int .i64 (j : Nat) ∧ Hid (∀ i (h : i < dd.2.length), i < j → LightP dd.2[i].2) ∧ Hid (Below wa.heap.size wa wq)) (fun i _ => 66 - (intOf i).toNat)
        case atStart => exact ⟨0, Nat.zero_le _, by omega, rfl, Lib.hid (fun i h h0 => absurd h0 (by omega)), Lib.hid (Below.refl _ _)⟩
        case round =>
          obtain ⟨j, hj, hj6, rfl, HJ, HQ⟩ := hrel
          have hXq := HX.out.below HQ.out HX.out.lt
          have x0 := hXq.cell 0
          have x1 := hXq.cell 1
          simp only [List.getElem?_toArray, List.getElem?_cons_zero, List.getElem?_cons_succ] at x0 x1
          have hqs := HQ.out.size
          have hWQ : Below wo.heap.size wo wr := HB1.out.trans (HQ.out.mono hw1)
          have HWQ := Lib.hid hWQ
          have HXq := Lib.hid hXq
          clear hWQ hXq
          by_cases hjl : j < m ∧ j < 66
          · obtain ⟨hjl, hjl6⟩ := hjl
            have hji : (j : Int) < (m : Int) := by omega
            have hji0 : (0 : Int) ≤ (j : Int) := by omega
            have hji2 : (j : Int) < 66 := by omega
            obtain ⟨eb, eo, F, fn, fc, rfl, heb, e0, e1, hF⟩ := (HE.out wr HWQ.out).at_ (i := j) (by omega)
            have C1 := Lib.hid (lightP_any dd.2[j].1 F fn fc dd.2[j].2 wr ⟨hF.rd, hF.len, hF.few⟩)
            clear hF
            generalize dd.2[j].1 = ta at *
            go_wp2_with fail
            refine C1.out.mono ?_
            rintro e w2 ⟨⟨bb, rfl, hbb⟩, hb2⟩
            have HBB := Lib.hid hbb
            clear hbb
            have HQ2 := Lib.hid (HQ.out.trans (hb2.mono hqs))
            have HW2 := Lib.hid ((HW.out.trans (HWQ.out.mono hbw)).trans (hb2.mono (by omega)))
            clear hb2
            cases bb with
            | false =>
              go_wp2
              go_ret2
              exact .inl ⟨rfl, HW2.out⟩
            | true =>
              go_wp2_with fail
              go_roundw
              case rel => exact ⟨j + 1, by omega, by omega, by go_num, Lib.hid (fun i h hij => by
                rcases Nat.lt_or_ge i j with h1 | h1
                · exact HJ.out i h h1
                · obtain rfl : i = j := by omega
                  exact HBB.out (by first | exact rfl | trivial)), HQ2⟩
              case measure => simp [intOf]; omega
          · have HO2 := HO.out.below HWQ.out hbw
            obtain ⟨vss, hv1, hv2, hv3⟩ := HO2.ex
            have Hv3 := Lib.hid hv3
            have HWF := Lib.hid (HW.out.trans (HWQ.out.mono hbw))
            have hown := hv2.alloc (.cells #[.int .i64 dd.1, .slice E m q] 35)
            have hAA := (Below.refl wr.heap.size wr).alloc (Nat.le_refl _) (.cells #[.int .i64 dd.1, .slice E m q] 35)
            have HAA := Lib.hid hAA
            clear hv3 HO2 hAA
            have HQ2 : Hid (Hid (((((L.take (k + 1)).map fun b => min 66 b.2.length).sum : Nat) : Int) = z + t ∧ ∀ b ∈ L.take (k + 1), ∀ i (h : i < b.2.length), i < 66 → LightP b.2[i].2)) := Lib.hid (Lib.hid (by
              rw [Hts.out, sum_snoc]
              refine ⟨by have h1 := HQL.out.1; have h2 := HEL.out; omega, fun b hb i h h6 => ?_⟩
              rcases List.mem_append.1 hb with h1 | h1
              · exact HQL.out.2 b h1 i h h6
              · obtain rfl := List.mem_singleton.1 h1
                exact HJ.out i h (by have h2 := HEL.out; omega)))
            by_cases hjm : j < m
            · have hji : (j : Int) < (m : Int) := by omega
              have hji2 : ¬ (j : Int) < 66 := by omega
              clear hjl
              go_wp2_with (at_builtin; refine wpList_append_own _ rfl _ _ 22 rfl w.heap.size 35 i0 _ 2 32 Tryz.underlying22 hi0 hz0 hz1 hz2 rfl (by decide) _ out.length vss.flatten rfl hown ⟨wr.heap.size, 0, none⟩ 1 1 [.int .i64 dd.1, .slice E m q] rfl rfl (World.news_of_block (cs := #[.int .i64 dd.1, .slice E m q]) (t := 35) (fr := (0, 0)) (heap_alloc_new wr _)) (by simp [Value.oneCell']) ?c1 ?c2 ?c3 ?_)
              case c1 => unfold maxLen; omega
              case c2 => omega
              case c3 => first | omega | (rw [World.size_alloc]; omega)
              intro v' w3 hown' hgrow _
              have HP : Hid (BOwn w3 w.heap.size w.heap.size v' (out ++ [dd])) := Lib.hid (BOwn.put (d := dd) ⟨vss, hv1, hown, fun i h h' => (Hv3.out i h h').keep (fun b o hlt => HAA.out.cell (by show b < _; omega)), rfl⟩ hown' hgrow (HDV.out _ (HWQ.out.trans (HAA.out.mono (by omega)))) (Nat.le_refl _) (by have := HAA.out.size; omega))
              have HB3 := Lib.hid ((HWF.out.trans (HAA.out.mono (by omega))).grown hgrow (by have := HAA.out.size; omega) (fun b hb => (hown.lt b hb).1))
              clear hown hown' hgrow hv1 hv2
              go_wp2
              go_roundw
              case rel => exact ⟨k + 1, _, by omega, by omega, by go_num, rfl, by omega, by omega, HQ2.out, Lib.hid (by rw [Hts.out]; exact HP.out), HB3⟩
              case measure => simp [intOf]; omega
            · have hji : ¬ (j : Int) < (m : Int) := by omega
              clear hjl
              go_wp2_with (at_builtin; refine wpList_append_own _ rfl _ _ 22 rfl w.heap.size 35 i0 _ 2 32 Tryz.underlying22 hi0 hz0 hz1 hz2 rfl (by decide) _ out.length vss.flatten rfl hown ⟨wr.heap.size, 0, none⟩ 1 1 [.int .i64 dd.1, .slice E m q] rfl rfl (World.news_of_block (cs := #[.int .i64 dd.1, .slice E m q]) (t := 35) (fr := (0, 0)) (heap_alloc_new wr _)) (by simp [Value.oneCell']) ?e1 ?e2 ?e3 ?_)
              case e1 => unfold maxLen; omega
              case e2 => omega
              case e3 => first | omega | (rw [World.size_alloc]; omega)
              intro v' w3 hown' hgrow _
              have HP : Hid (BOwn w3 w.heap.size w.heap.size v' (out ++ [dd])) := Lib.hid (BOwn.put (d := dd) ⟨vss, hv1, hown, fun i h h' => (Hv3.out i h h').keep (fun b o hlt => HAA.out.cell (by show b < _; omega)), rfl⟩ hown' hgrow (HDV.out _ (HWQ.out.trans (HAA.out.mono (by omega)))) (Nat.le_refl _) (by have := HAA.out.size; omega))
              have HB3 := Lib.hid ((HWF.out.trans (HAA.out.mono (by omega))).grown hgrow (by have := HAA.out.size; omega) (fun b hb => (hown.lt b hb).1))
              clear hown hown' hgrow hv1 hv2
              go_wp2
              go_roundw
              case rel => exact ⟨k + 1, _, by omega, by omega, by go_num, rfl, by omega, by omega, HQ2.out, Lib.hid (by rw [Hts.out]; exact HP.out), HB3⟩
              case measure => simp [intOf]; omega
    · have hall : L.take k = L.take 8 := by
        by_cases e : k = 8
        · rw [e]
        · rw [List.take_of_length_le (by rw [Hl.out]; omega), List.take_of_length_le (by rw [Hl.out]; omega)]
      have HALL := Lib.hid hall
      clear hall
      by_cases hkn : k < n
      · have hki : (k : Int) < (n : Int) := by omega
        have hki2 : ¬ (k : Int) < 8 := by omega
        clear hlt
        go_wp2
        go_ret2
        exact .inr ⟨_, rfl, by rw [← HALL.out]; exact HO.out, by rw [← HALL.out]; exact ⟨by have h1 := HQL.out.1; omega, HQL.out.2⟩, HW.out⟩
      · have hki : ¬ (k : Int) < (n : Int) := by omega
        clear hlt
        go_wp2
        go_ret2
        exact .inr ⟨_, rfl, by rw [← HALL.out]; exact HO.out, by rw [← HALL.out]; exact ⟨by have h1 := HQL.out.1; omega, HQL.out.2⟩, HW.out⟩
end Go.Proofs.YtdloacfoegjnmaaGreat.Gi
end

section
/- Light batches make light docs: plain. (No program in sight.) -/
namespace Go.Proofs.YtdloacfoegjnmaaGreat.Gi
open Go.RowKit Go.Proofs.YtdloacfoegjnmaaGreat Go.Proofs.YtdloacfoegjnmaaGreat.Ut Go.Proofs.YtdloacfoegjnmaaGreat.Tk Go.Proofs.YtdloacfoegjnmaaGreat.Qy Go.Proofs.YtdloacfoegjnmaaGreat.Ev Go.Proofs.YtdloacfoegjnmaaGreat.Mx
set_option linter.unusedVariables false
set_option linter.unusedSimpArgs false

theorem wdsF_sz (name : ByteArray) : ∀ fs : List Fl, (Gr.wdsF name fs).length ≤ szF fs
  | [] => Nat.le_refl _
  | f :: fs => by
    have ih := wdsF_sz name fs
    unfold Gr.wdsF at ih ⊢
    rw [List.flatMap_cons, List.length_append]
    simp only [szF]
    have h2 := words_len f.2
    split
    · rw [List.length_map]; omega
    · simp only [List.length_nil]; omega
theorem raw_szF : ∀ (fs : List Fl) (b : Nat), ((basedL b fs).flatMap rawO).length ≤ szF fs
  | [], b => Nat.le_refl _
  | f :: fs, b => by
    have ih := raw_szF fs (b + (64 + (words f.2.data.toList).length))
    simp only [basedL, List.flatMap_cons, List.length_append, szF]
    have h2 := words_len f.2
    have h3 : (rawO (b, f)).length = (words f.2.data.toList).length := by simp [rawO]
    omega
/-- Light docs. -/
def Lit (ds : List Dc) : Prop := ∀ d ∈ ds, szF d.fs < 1000
theorem totW_lit (name : ByteArray) : ∀ {ds : List Dc}, Lit ds → Gr.totW name ds ≤ ds.length * 1000
  | [], _ => Nat.le_refl _
  | d :: ds, h => by
    have ih := totW_lit name (ds := ds) (fun x hx => h x (List.mem_cons_of_mem _ hx))
    have h1 := h d (List.mem_cons_self ..)
    have h2 := wdsF_sz name d.fs
    unfold Gr.totW at ih ⊢
    rw [List.map_cons, List.sum_cons, List.length_cons]
    omega
theorem terms_lit : ∀ (n : Nat) (ds : List (List Fl)), ds.length = n → (∀ fs ∈ ds, szF fs < 1000) → (termsR ds).length ≤ n * 1000
  | 0, ds, h, _ => by
    obtain rfl := List.length_eq_zero_iff.1 h
    simp [termsR]
  | n + 1, ds, h, hk => by
    obtain ⟨dl, d, rfl⟩ : ∃ dl d, ds = dl ++ [d] := by
      rcases List.eq_nil_or_concat ds with h0 | ⟨dl, d, h0⟩
      · subst h0; simp at h
      · exact ⟨dl, d, by rw [h0, List.concat_eq_append]⟩
    have ih := terms_lit n dl (by simpa using h) (fun f hf => hk f (List.mem_append_left _ hf))
    have h1 := insT_len (addAll (raw d)) (termsR dl)
    have h2 := addAll_len (raw d)
    have h3 : (raw d).length ≤ szF d := raw_szF d 0
    have h4 := hk d (by simp)
    rw [termsR_snoc, Nat.add_mul, Nat.one_mul]
    omega
theorem addD_lit {ds : List Dc} {seq : Int} {l : List Evn} (h : Lit ds) (hl : ∀ i (h : i < l.length), i < 66 → LightP l[i].2) : Lit (addD ds seq l) ∧ (addD ds seq l).length ≤ ds.length + min 66 l.length := by
  unfold addD
  split
  · rename_i he
    have hc : chkB seq l = 0 := by
      unfold addE at he
      split at he
      · assumption
      · exact he
    have hk := chkB_ok hc
    refine ⟨fun d hd => ?_, by rw [List.length_append, mkD_len]; have := hk.2.1; omega⟩
    rcases List.mem_append.1 hd with hd | hd
    · exact h d hd
    · obtain ⟨i, hi, rfl⟩ := List.mem_iff_getElem.1 hd
      rw [mkD_len] at hi
      simp only [mkD, List.getElem_mapIdx]
      exact hl i hi (by have := hk.2.1; omega) (by have := (chkE_ok (hk.2.2.1 _ (List.getElem_mem hi))).1; omega)
  · exact ⟨h, by omega⟩
/-- What an index has behind batches. -/
def fillG (l : List Bt) : List Dc := l.foldl (fun ds b => addD ds b.1 b.2) []
theorem fillG_snoc (l : List Bt) (b : Bt) : fillG (l ++ [b]) = addD (fillG l) b.1 b.2 := by simp [fillG]
theorem fill_lit : ∀ (n : Nat) (l : List Bt), l.length = n → (∀ b ∈ l, ∀ i (h : i < b.2.length), i < 66 → LightP b.2[i].2) → Lit (fillG l) ∧ (fillG l).length ≤ (l.map fun b => min 66 b.2.length).sum
  | 0, l, h, _ => by
    obtain rfl := List.length_eq_zero_iff.1 h
    exact ⟨fun d hd => (by cases hd), Nat.le_refl _⟩
  | n + 1, l, h, hk => by
    obtain ⟨dl, d, rfl⟩ : ∃ dl d, l = dl ++ [d] := by
      rcases List.eq_nil_or_concat l with h0 | ⟨dl, d, h0⟩
      · subst h0; simp at h
      · exact ⟨dl, d, by rw [h0, List.concat_eq_append]⟩
    obtain ⟨i1, i2⟩ := fill_lit n dl (by simpa using h) (fun b hb => hk b (List.mem_append_left _ hb))
    obtain ⟨j1, j2⟩ := addD_lit (seq := d.1) i1 (hk d (by simp))
    rw [fillG_snoc, sum_snoc]
    exact ⟨j1, by omega⟩
/-- Batches that are let through: what the index has is light. -/
theorem few_lit {l : List Bt} (h : FewL l) : Lit (fillG l) ∧ (fillG l).length ≤ 80 := by
  obtain ⟨h1, h2⟩ := fill_lit _ l rfl h.light
  exact ⟨h1, Nat.le_trans h2 h.num⟩
end Go.Proofs.YtdloacfoegjnmaaGreat.Gi
end
