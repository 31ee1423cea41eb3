/- loggiaref10.Light: the walk (turned from HitF). -/
import Derived.Test.YtjeahdnbpiahaaaGreatGrOfPk
import Derived.Test.YtjeahdnbpiahaaaGreatGrowSPk
import Derived.Test.YtjeahdnbpiahaaaGreatPkGroupCountsRow29
section
namespace Go.Proofs.YtjeahdnbpiahaaaGreat.Gr
open Go.RowKit Go.Proofs.YtjeahdnbpiahaaaGreat Go.Proofs.YtjeahdnbpiahaaaGreat.Ut Go.Proofs.YtjeahdnbpiahaaaGreat.Tk Go.Proofs.YtjeahdnbpiahaaaGreat.Qy Go.Proofs.YtjeahdnbpiahaaaGreat.Ph
set_option maxRecDepth 20000
set_option linter.unusedSimpArgs false
set_option linter.unusedVariables false

/-- An event's fields. -/
structure EvAt (w : World) (F : Option Addr) (fn : Nat) (fs : List (ByteArray × ByteArray)) : Prop where
  rd : Reads w w.heap.size 2 F fn (fldC fs)
  len : fs.length = fn
  few : fn ≤ 8796093021952
theorem fields_at {w : World} {B n : Nat} {A : Option Addr} {fs : List (ByteArray × ByteArray)} (h : Reads w B 2 A n (fldC fs)) {k : Nat} (hk : k < fs.length) :
    ∃ b o, A = some ⟨b, o, none⟩ ∧ b < B ∧ w.cell? ⟨b, o + k * 2, none⟩ = some (.string fs[k].1) ∧ w.cell? ⟨b, o + k * 2 + 1, none⟩ = some (.string fs[k].2) := by
  have hl := h.1
  rw [fldC_len] at hl
  obtain ⟨b, o, e, hb, hc⟩ := h.2 (by omega)
  have g := fld_get k hk
  have g2 := hc _ _ g.2
  rw [← Nat.add_assoc] at g2
  exact ⟨b, o, e, hb, hc _ _ g.1, g2⟩
/-- It tells yes or no. -/
def BoolE (e : Ending) : Prop := ∃ b : Bool, e = .returned (.bool b)
set_option maxHeartbeats 6400000 in
theorem light_any (t : Int) (F : Option Addr) (fn fc : Nat) (fs : List (ByteArray × ByteArray)) (w : World) (hF : EvAt w F fn fs) :
    Calls Tryz.prog 12 #[.agg #[.int .i64 t, .slice F fn fc]] w fun e w' => BoolE e ∧ Below w.heap.size w w' := by
  have hb1 : Below w.heap.size w (w.alloc (.cells #[.int .i64 t, .slice F fn fc] 46)) := (Below.refl _ _).alloc (Nat.le_refl _) _
  have hB1 := Blk.new w 46 #[.int .i64 t, .slice F fn fc]
  have hz1 : w.heap.size < (w.alloc (.cells #[.int .i64 t, .slice F fn fc] 46)).heap.size := by simp
  have hfew := hF.few
  have hlen := hF.len
  have HF := Lib.hid hF
  have Hb1 := Lib.hid hb1
  have HB1 := Lib.hid hB1
  have Hlen := Lib.hid hlen
  clear hF hb1 hB1 hlen
  go_enter Tryz.func12, Tryz.ntmps12
  go_wp2_with fail
  generalize hw1 : (w.alloc (.cells #[.int .i64 t, .slice F fn fc] 46)) = w1 at *
  clear hw1
  go_loopw [3, 4] (fun v i wr => ∃ (j : Nat) (z : Int), j ≤ fn ∧ i = .int .i64 (j : Nat) ∧ v = .int .i64 z ∧ 0 ≤ z ∧ z ≤ 3000 ∧ Below w1.heap.size w1 wr) (fun _ i _ => fn - (intOf i).toNat)
  case atStart => exact ⟨0, 0, Nat.zero_le _, rfl, rfl, by omega, by omega, Below.refl _ _⟩
  case round =>
    obtain ⟨j, z, hj, rfl, rfl, hz0, hz3, hb⟩ := hrel
    have Hb := Lib.hid hb
    have hls := (hb.cell (p := ⟨w.heap.size, 1, none⟩) (by show w.heap.size < _; exact hz1)).trans (HB1.out.cell 1)
    simp at hls
    by_cases hlt : j < fn
    · have hji : (j : Int) < (fn : Int) := by omega
      have hji0 : (0 : Int) ≤ (j : Int) := by omega
      by_cases h20 : (j : Int) < 20
      · by_cases hzz : z < 1000
        · have hjl : j < fs.length := by rw [Hlen.out]; exact hlt
          obtain ⟨tb, tq, rfl, htb, hd1, hd2⟩ := fields_at HF.out.rd (k := j) hjl
          have hc1 := ((Hb1.out.trans (hb.mono Hb1.out.size)).cell (p := ⟨tb, tq + j * 2, none⟩) htb).trans hd1
          have hc2 := ((Hb1.out.trans (hb.mono Hb1.out.size)).cell (p := ⟨tb, tq + j * 2 + 1, none⟩) htb).trans hd2
          clear hb hlt hd1 hd2
          generalize fs[j].1 = s1 at *
          generalize fs[j].2 = s2 at *
          go_upto_region 5 with (fail)
          refine wp_region_ph_tail 19 (specOf []) (fun wx => wx = wr.drew) (fun _ => True) (by kernel_rfl) (by kernel_rfl) (turns_of (by kernel_rfl)) rfl trivial ?_
          refine ph_fix 1 ?_ rfl (by rfl) (by rfl) (fun wx hC => ?_) ?_
          rotate_left
          · subst hC
            go_simp
            all_goals with_reducible rfl
          try simp only [Act.put, List.setIfInBounds_toArray, List.set_cons_zero, List.set_cons_succ]
          refine ph_fix 2 ?_ rfl (by rfl) (by rfl) (fun wx hC => ?_) ?_
          rotate_left
          · subst hC
            go_simp
            all_goals with_reducible rfl
          try simp only [Act.put, List.setIfInBounds_toArray, List.set_cons_zero, List.set_cons_succ]
          refine ph_fix 3 ?_ rfl (by rfl) (by rfl) (fun wx hC => ?_) ?_
          rotate_left
          · subst hC
            go_simp
            all_goals with_reducible rfl
          try simp only [Act.put, List.setIfInBounds_toArray, List.set_cons_zero, List.set_cons_succ]
          refine ph_fix 4 ?_ rfl (by rfl) (by rfl) (fun wx hC => ?_) ?_
          rotate_left
          · subst hC
            go_simp
            all_goals with_reducible rfl
          try simp only [Act.put, List.setIfInBounds_toArray, List.set_cons_zero, List.set_cons_succ]
          refine ph_fix 5 ?_ rfl (by rfl) (by rfl) (fun wx hC => ?_) ?_
          rotate_left
          · subst hC
            go_simp
            all_goals with_reducible rfl
          try simp only [Act.put, List.setIfInBounds_toArray, List.set_cons_zero, List.set_cons_succ]
          refine ph_fix 6 ?_ rfl (by rfl) (by rfl) (fun wx hC => ?_) ?_
          rotate_left
          · subst hC
            go_simp
            all_goals with_reducible rfl
          try simp only [Act.put, List.setIfInBounds_toArray, List.set_cons_zero, List.set_cons_succ]
          refine ph_fix 7 ?_ rfl (by rfl) (by rfl) (fun wx hC => ?_) ?_
          rotate_left
          · subst hC
            go_simp
            all_goals with_reducible rfl
          try simp only [Act.put, List.setIfInBounds_toArray, List.set_cons_zero, List.set_cons_succ]
          refine ph_fix 8 ?_ rfl (by rfl) (by rfl) (fun wx hC => ?_) ?_
          rotate_left
          · subst hC
            go_simp
            all_goals with_reducible rfl
          try simp only [Act.put, List.setIfInBounds_toArray, List.set_cons_zero, List.set_cons_succ]
          refine ph_fix 9 ?_ rfl (by rfl) (by rfl) (fun wx hC => ?_) ?_
          rotate_left
          · subst hC
            go_simp
            all_goals with_reducible rfl
          try simp only [Act.put, List.setIfInBounds_toArray, List.set_cons_zero, List.set_cons_succ]
          refine ph_fix 10 ?_ rfl (by rfl) (by rfl) (fun wx hC => ?_) ?_
          rotate_left
          · subst hC
            go_simp
            all_goals with_reducible rfl
          try simp only [Act.put, List.setIfInBounds_toArray, List.set_cons_zero, List.set_cons_succ]
          refine ph_fix 11 ?_ rfl (by rfl) (by rfl) (fun wx hC => ?_) ?_
          rotate_left
          · subst hC
            go_simp
            all_goals with_reducible rfl
          try simp only [Act.put, List.setIfInBounds_toArray, List.set_cons_zero, List.set_cons_succ]
          refine ph_fix 12 ?_ rfl (by rfl) (by rfl) (fun wx hC => ?_) ?_
          rotate_left
          · subst hC
            go_simp
            all_goals with_reducible rfl
          try simp only [Act.put, List.setIfInBounds_toArray, List.set_cons_zero, List.set_cons_succ]
          refine ph_fix 13 ?_ rfl (by rfl) (by rfl) (fun wx hC => ?_) ?_
          rotate_left
          · subst hC
            go_simp
            all_goals with_reducible rfl
          try simp only [Act.put, List.setIfInBounds_toArray, List.set_cons_zero, List.set_cons_succ]
          refine ph_fix 14 ?_ rfl (by rfl) (by rfl) (fun wx hC => ?_) ?_
          rotate_left
          · subst hC
            go_simp
            all_goals with_reducible rfl
          try simp only [Act.put, List.setIfInBounds_toArray, List.set_cons_zero, List.set_cons_succ]
          refine ph_fix 15 ?_ rfl (by rfl) (by rfl) (fun wx hC => ?_) ?_
          rotate_left
          · subst hC
            go_simp
            all_goals with_reducible rfl
          try simp only [Act.put, List.setIfInBounds_toArray, List.set_cons_zero, List.set_cons_succ]
          refine ph_fix 16 ?_ rfl (by rfl) (by rfl) (fun wx hC => ?_) ?_
          rotate_left
          · subst hC
            go_simp
            all_goals with_reducible rfl
          try simp only [Act.put, List.setIfInBounds_toArray, List.set_cons_zero, List.set_cons_succ]
          refine ph_fix 17 ?_ rfl (by rfl) (by rfl) (fun wx hC => ?_) ?_
          rotate_left
          · subst hC
            go_simp
            all_goals with_reducible rfl
          try simp only [Act.put, List.setIfInBounds_toArray, List.set_cons_zero, List.set_cons_succ]
          refine ph_fix 18 ?_ rfl (by rfl) (by rfl) (fun wx hC => ?_) ?_
          rotate_left
          · subst hC
            go_simp
            all_goals with_reducible rfl
          try simp only [Act.put, List.setIfInBounds_toArray, List.set_cons_zero, List.set_cons_succ]
          refine ph_fix 19 ?_ rfl (by rfl) (by rfl) (fun wx hC => ?_) ?_
          rotate_left
          · subst hC
            go_simp
            all_goals with_reducible rfl
          try simp only [Act.put, List.setIfInBounds_toArray, List.set_cons_zero, List.set_cons_succ]
          refine ph_nil (fun w9 hC hI => ?_)
          subst hC
          clear hI
          go_wp2
          go_roundw
          case rel => exact ⟨j + 1, _, by omega, by go_num, rfl, by omega, by omega, Hb.out.drew⟩
          case measure => simp [intOf]; omega
        · have hzz' : (1000 : Int) ≤ z := by omega
          clear hb hlt
          go_wp2
          go_ret
          exact ⟨⟨_, rfl⟩, Hb1.out.trans (Hb.out.mono Hb1.out.size)⟩
      · have h20' : (20 : Int) ≤ (j : Int) := by omega
        clear hb hlt
        go_wp2
        go_ret
        exact ⟨⟨_, rfl⟩, Hb1.out.trans (Hb.out.mono Hb1.out.size)⟩
    · have hji : (fn : Int) ≤ (j : Int) := by omega
      clear hb hlt
      go_wp2
      go_ret
      exact ⟨⟨_, rfl⟩, Hb1.out.trans (Hb.out.mono Hb1.out.size)⟩
end Go.Proofs.YtjeahdnbpiahaaaGreat.Gr
end

section
/- loggialaw30.few: the walk; parts of a row of docs. -/
namespace Go.Proofs.YtjeahdnbpiahaaaGreat.Gr
open Go.RowKit Go.Proofs.YtjeahdnbpiahaaaGreat Go.Proofs.YtjeahdnbpiahaaaGreat.Ut Go.Proofs.YtjeahdnbpiahaaaGreat.Tk Go.Proofs.YtjeahdnbpiahaaaGreat.Qy
set_option maxRecDepth 20000
set_option linter.unusedSimpArgs false
set_option linter.unusedVariables false

theorem doc_info : (Tryz.prog.info? 48).map (fun i => (i.zero, i.size, i.bytes)) = some (some (.agg #[.int .i64 0, .int .i64 0, .slice none 0 0]), 3, 40) := by kernel_rfl
/-- The docs, or no. -/
def FewE (w : World) (ds : List Dc) (e : Ending) (w' : World) : Prop := ((∃ v, e = .returned (.tuple #[v, .bool false])) ∧ Below w.heap.size w w') ∨ (∃ v, e = .returned (.tuple #[v, .bool true]) ∧ DocsOwn w w' v (ds.take 25))
theorem flat_take3 : ∀ (vss : List (List Value)) (k : Nat), (∀ v ∈ vss, v.length = 3) → (vss.take k).flatten = vss.flatten.take (k * 3)
  | [], k, _ => by simp
  | v :: vss, 0, _ => by simp
  | v :: vss, k + 1, h => by
    have ih := flat_take3 vss k (fun x hx => h x (List.mem_cons_of_mem _ hx))
    have hv := h v (List.mem_cons_self ..)
    have h5 : v.take ((k + 1) * 3) = v := List.take_of_length_le (by omega)
    rw [List.take_succ_cons, List.flatten_cons, List.flatten_cons, List.take_append, ih, hv, h5, show (k + 1) * 3 - 3 = k * 3 by omega]
theorem flat_drop3 : ∀ (vss : List (List Value)) (k : Nat), (∀ v ∈ vss, v.length = 3) → (vss.drop k).flatten = vss.flatten.drop (k * 3)
  | [], k, _ => by simp
  | v :: vss, 0, _ => by simp
  | v :: vss, k + 1, h => by
    have ih := flat_drop3 vss k (fun x hx => h x (List.mem_cons_of_mem _ hx))
    have hv := h v (List.mem_cons_self ..)
    have h5 : v.drop ((k + 1) * 3) = [] := List.drop_eq_nil_of_le (by omega)
    rw [List.drop_succ_cons, List.flatten_cons, List.drop_append, ih, hv, h5, show (k + 1) * 3 - 3 = k * 3 by omega, List.nil_append]
theorem flat_len3 : ∀ (vss : List (List Value)), (∀ v ∈ vss, v.length = 3) → vss.flatten.length = vss.length * 3
  | [], _ => rfl
  | v :: vss, h => by
    rw [List.flatten_cons, List.length_append, h v (List.mem_cons_self ..), flat_len3 vss (fun x hx => h x (List.mem_cons_of_mem _ hx)), List.length_cons]
    omega
theorem docs_take {w : World} {B n k : Nat} {A : Option Addr} {ds : List Dc} (h : DocsAt w B A n ds) (hk : k ≤ n) : DocsAt w B A k (ds.take k) := by
  obtain ⟨vss, h1, h2, h3⟩ := h.ex
  have hl := h.ln
  have h4 : ∀ v ∈ vss, v.length = 3 := fun v hv => by
    obtain ⟨j, hj, rfl⟩ := List.mem_iff_getElem.1 hv
    exact (h3 j (by omega) hj).len
  refine ⟨by rw [List.length_take]; omega, vss.take k, by rw [List.length_take]; omega, ?_, fun i a b => ?_⟩
  · refine ⟨by rw [flat_take3 vss k h4, List.length_take, flat_len3 vss h4]; omega, fun h0 => ?_⟩
    obtain ⟨b, o, e, hb, hc⟩ := h2.2 (by omega)
    refine ⟨b, o, e, hb, fun j u hj => hc j u ?_⟩
    rw [flat_take3 vss k h4, List.getElem?_take] at hj
    split at hj
    · exact hj
    · cases hj
  · rw [List.getElem_take, List.getElem_take]
    exact h3 i _ _
theorem docs_drop {w : World} {B n c k : Nat} {A : Option Addr} {ds : List Dc} (h : DocsAt w B A n ds) (hk : k ≤ n) (hc : n ≤ c) : DocsAt w B (if c = k then A else A.map (·.add (k * 3))) (n - k) (ds.drop k) := by
  obtain ⟨vss, h1, h2, h3⟩ := h.ex
  have hl := h.ln
  have h4 : ∀ v ∈ vss, v.length = 3 := fun v hv => by
    obtain ⟨j, hj, rfl⟩ := List.mem_iff_getElem.1 hv
    exact (h3 j (by omega) hj).len
  refine ⟨by rw [List.length_drop]; omega, vss.drop k, by rw [List.length_drop]; omega, ?_, fun i a b => ?_⟩
  · refine ⟨by rw [flat_drop3 vss k h4, List.length_drop, flat_len3 vss h4]; omega, fun h0 => ?_⟩
    rw [if_neg (by omega)]
    obtain ⟨b, o, rfl, hb, hcl⟩ := h2.2 (by omega)
    refine ⟨b, o + k * 3, ?_, hb, fun j u hj => ?_⟩
    · show some ((⟨b, o, none⟩ : Addr).add (k * 3)) = _
      have : (⟨b, o, none⟩ : Addr).add (k * 3) = ⟨b, o + k * 3, none⟩ := by unfold Addr.add; split <;> simp_all
      rw [this]
    · rw [flat_drop3 vss k h4, List.getElem?_drop] at hj
      have := hcl _ _ hj
      rwa [← Nat.add_assoc] at this
  · rw [List.getElem_drop, List.getElem_drop]
    exact h3 _ _ _

set_option maxHeartbeats 3200000 in
theorem few_any (A : Option Addr) (n c : Nat) (ds : List Dc) (w : World) (hD : DocsAt w w.heap.size A n ds) (hn : n ≤ 8796093021952) :
    Calls Tryz.prog 4 #[.slice A n c] w (FewE w ds) := by
  obtain ⟨i0, hi0, hz0, hz1, hz2⟩ := info_parts doc_info
  have HD := Lib.hid hD
  have Hl := Lib.hid hD.ln
  clear hD
  go_enter Tryz.func4, Tryz.ntmps4
  go_wp2_with fail
  go_loopw [4, 5] (fun v i wr => ∃ k : Nat, k ≤ n ∧ k ≤ 25 ∧ i = .int .i64 (k : Nat) ∧ Hid (DocsOwn w wr v (ds.take k))) (fun _ i _ => 25 - (intOf i).toNat)
  case atStart => exact ⟨0, Nat.zero_le _, by omega, rfl, Lib.hid (DocsOwn.start w)⟩
  case round =>
    obtain ⟨k, hk, hk25, rfl, HO⟩ := hrel
    by_cases hlt : k < n ∧ k < 25
    · obtain ⟨hlt, hl25⟩ := hlt
      have hki : (k : Int) < (n : Int) := by omega
      have hki2 : (k : Int) < 25 := by omega
      have hkl : k < ds.length := by rw [Hl.out]; exact hlt
      obtain ⟨b, o, F, fn, fc, rfl, hb, hc0, hc1, hc2, hR, hfl, hfn, hfc, hf0⟩ := HD.out.at_ hkl
      have hbw : w.heap.size ≤ wr.heap.size := HO.out.bel.size
      have g0 := (HO.out.bel.cell (p := ⟨b, o + k * 3, none⟩) hb).trans hc0
      have g1 := (HO.out.bel.cell (p := ⟨b, o + k * 3 + 1, none⟩) hb).trans hc1
      have g2 := (HO.out.bel.cell (p := ⟨b, o + k * 3 + 2, none⟩) hb).trans hc2
      have hts : ds.take (k + 1) = ds.take k ++ [ds[k]] := List.take_succ_eq_append_getElem hkl
      have Hts := Lib.hid hts
      have cl := light_any ds[k].at_ F fn fc ds[k].fs wr ⟨(hR.below HO.out.bel).more hbw, hfl, hfn⟩
      have HDV : Hid (∀ W : World, Below w.heap.size w W → DcV W W.heap.size ds[k] [.int .i64 ds[k].seq, .int .i64 ds[k].at_, .slice F fn fc]) := Lib.hid (fun W hW => ⟨F, fn, fc, rfl, (hR.below hW).more hW.size, hfl, hfn, hfc, hf0⟩)
      have HFar : Hid (∀ W : World, Far W w.heap.size [.int .i64 ds[k].seq, .int .i64 ds[k].at_, .slice F fn fc]) := Lib.hid (fun W F' fn' fc' e hn' => by
        simp only [List.getElem?_cons_succ, List.getElem?_cons_zero, Option.some.injEq, Value.slice.injEq] at e
        obtain ⟨rfl, rfl, rfl⟩ := e
        obtain ⟨b', o', e', hb', _⟩ := hR.2 hn'
        exact ⟨b', o', e', .inl hb'⟩)
      have hol : (ds.take k).length ≤ 25 := by rw [List.length_take]; omega
      clear hts hR hc0 hc1 hc2 hf0
      generalize hdd : ds[k] = dd at *
      clear hdd
      generalize dd.seq = s at *
      generalize dd.at_ = a at *
      generalize ds.take k = out at *
      go_wp2_with fail
      refine cl.mono ?_
      rintro e w2 ⟨⟨bb, rfl⟩, hb2⟩
      have HO2 := Lib.hid (HO.out.below hb2)
      have h0 := (hb2.cell (p := ⟨b, o + k * 3, none⟩) (by show b < _; omega)).trans g0
      have h1 := (hb2.cell (p := ⟨b, o + k * 3 + 1, none⟩) (by show b < _; omega)).trans g1
      have h2 := (hb2.cell (p := ⟨b, o + k * 3 + 2, none⟩) (by show b < _; omega)).trans g2
      have hb2s := hb2.size
      clear cl g0 g1 g2 hb2
      cases bb with
      | false =>
        go_wp2
        go_ret2
        exact .inl ⟨⟨_, rfl⟩, HO2.out.bel⟩
      | true =>
        obtain ⟨vss, hv1, hv2, hv3⟩ := HO2.out.ex
        have Hv3 := Lib.hid hv3
        have HA := Lib.hid (HO2.out.below ((Below.refl _ _).alloc (Nat.le_refl _) (.cells #[.int .i64 s, .int .i64 a, .slice F fn fc] 48)))
        have hown := hv2.alloc (.cells #[.int .i64 s, .int .i64 a, .slice F fn fc] 48)
        clear hv3
        go_wp2_with (at_builtin; refine wpList_append_own _ rfl _ _ 22 rfl w.heap.size 48 i0 _ 3 40 Tryz.underlying22 hi0 hz0 hz1 hz2 rfl (by decide) _ out.length vss.flatten rfl hown ⟨w2.heap.size, 0, none⟩ 1 1 [.int .i64 s, .int .i64 a, .slice F fn fc] rfl rfl (World.news_of_block (cs := #[.int .i64 s, .int .i64 a, .slice F fn fc]) (t := 48) (fr := (0, 0)) (heap_alloc_new w2 _)) (by simp [Value.oneCell']) ?c1 ?c2 ?c3 ?_)
        case c1 => unfold maxLen; omega
        case c2 => omega
        case c3 => first | omega | (rw [World.size_alloc]; omega)
        intro v' w3 hown' hgrow _
        have hA3 := (Below.refl w2.heap.size w2).alloc (Nat.le_refl _) (.cells #[.int .i64 s, .int .i64 a, .slice F fn fc] 48)
        have HP : Hid (DocsOwn w w3 v' (out ++ [dd])) := Lib.hid (HA.out.put ⟨vss, hv1, hown, fun i h h' => ⟨((Hv3.out i h h').1.keep fun _ _ hp => hA3.cell hp).more hA3.size, (Hv3.out i h h').2.below hA3⟩, rfl⟩ hown' hgrow (HDV.out _ HA.out.bel) (HFar.out _))
        clear hown hown' hgrow hv1 hv2 hA3
        go_wp2
        go_roundw
        case rel => exact ⟨k + 1, by omega, by omega, by go_num, Lib.hid (by rw [Hts.out]; exact HP.out)⟩
        case measure => simp [intOf]; omega
    · have hall : ds.take k = ds.take 25 := by
        by_cases e : k = 25
        · rw [e]
        · rw [List.take_of_length_le (by rw [Hl.out]; omega), List.take_of_length_le (by rw [Hl.out]; omega)]
      by_cases hkn : k < n
      · have hki : (k : Int) < (n : Int) := by omega
        have hki2 : ¬ (k : Int) < 25 := by omega
        clear hlt
        go_wp2
        go_ret2
        exact .inr ⟨_, rfl, by rw [← hall]; exact HO.out⟩
      · have hki : ¬ (k : Int) < (n : Int) := by omega
        clear hlt
        go_wp2
        go_ret2
        exact .inr ⟨_, rfl, by rw [← hall]; exact HO.out⟩
end Go.Proofs.YtjeahdnbpiahaaaGreat.Gr
end
