/- loggiaref08.one, Is at rows that may be: the walks (seat k; printed by gen_mxis.py). -/
import Derived.BigQuiet
import Derived.Test.YtioekhiaoajgfaaGreatMxPqPk
import Derived.Test.YtioekhiaoajgfaaGreatMxOPk
import Derived.Test.YtioekhiaoajgfaaGreatPkMemidxForksRow21
namespace Go.Proofs.YtioekhiaoajgfaaGreat.Mx
open Go.RowKit Go.Proofs.YtioekhiaoajgfaaGreat Go.Proofs.YtioekhiaoajgfaaGreat.Ut Go.Proofs.YtioekhiaoajgfaaGreat.Tk Go.Proofs.YtioekhiaoajgfaaGreat.Qy Go.Proofs.YtioekhiaoajgfaaGreat.Ev Go.Proofs.YtioekhiaoajgfaaGreat.Qp Go.Proofs.YtioekhiaoajgfaaGreat.Mv
set_option linter.unusedVariables false
set_option linter.unusedSimpArgs false
set_option maxRecDepth 20000

/-- A post that may be. -/
structure GoodP (p : Po) : Prop where
  doc : p.1 ≤ 65535
  ne : p.2 ≠ []
  up : UpN p.2
  bd : ∀ x ∈ p.2, x ≤ 1048575
set_option maxHeartbeats 3200000 in
theorem one_any (P : Option Addr) (pc : Nat) (p : Po) (w : World) (h : Reads w w.heap.size 1 P p.2.length (nC p.2)) (hg : GoodP p) (hn : p.2.length ≤ 8796093021952) :
    Calls Tryz.prog 40 #[.agg #[.int .i64 (p.1 : Nat), .slice P p.2.length pc]] w fun e w' => e = .returned (.bool true) ∧ Below w.heap.size w w' := by
  obtain ⟨d, ps⟩ := p
  have hd := hg.doc
  have hp := List.length_pos_iff.2 hg.ne
  have HU := Lib.hid hg.up
  have HBd := Lib.hid hg.bd
  simp only at h hd hp hn
  have hB1 : Below w.heap.size w (w.alloc (.cells #[.int .i64 (d : Nat), .slice P ps.length pc] 74)) := (Below.refl _ _).alloc (Nat.le_refl _) _
  have hX := Blk.new w 74 #[.int .i64 (d : Nat), .slice P ps.length pc]
  have HR : Hid (∀ wx, Below w.heap.size w wx → ∀ k (hk : k < ps.length), ∃ b o, P = some ⟨b, o, none⟩ ∧ wx.cell? ⟨b, o + k, none⟩ = some (.int .i64 (ps[k] : Nat))) := Lib.hid (fun wx hb k hk => by
    obtain ⟨b, o, e, hlt, hc⟩ := ints_at h rfl hk
    exact ⟨b, o, e, (hb.cell hlt).trans hc⟩)
  have HX := Lib.hid hX
  have HB1 := Lib.hid hB1
  have x0 := hX.cell 0
  have x1 := hX.cell 1
  simp only [List.getElem?_toArray, List.getElem?_cons_zero, List.getElem?_cons_succ] at x0 x1
  have hd0 : ¬ ((d : Int) < 0) := by omega
  have hd1 : ¬ (65535 < (d : Int)) := by omega
  have hnz : ((ps.length : Int) == 0) = false := beq_eq_false_iff_ne.2 (by omega)
  have hnzn : (ps.length == 0) = false := beq_eq_false_iff_ne.2 (by omega)
  have hpl : (ps.length = 0) = False := eq_false (by omega)
  clear h hX hB1 hg
  go_enter Tryz.func40, Tryz.ntmps40
  go_wp2_with fail
  generalize hw1 : w.alloc (.cells #[.int .i64 (d : Nat), .slice P ps.length pc] 74) = w1 at *
  clear hw1 x0 x1
  go_loopw [3] (fun i wr => ∃ k : Nat, k ≤ ps.length ∧ i = .int .i64 (k : Nat) ∧ Hid (Below w1.heap.size w1 wr)) (fun i _ => ps.length - (intOf i).toNat)
  case atStart => exact ⟨0, Nat.zero_le _, rfl, Lib.hid (Below.refl _ _)⟩
  case round =>
    obtain ⟨k, hk, rfl, hB⟩ := hrel
    have hk' := HX.out.below hB.out HX.out.lt
    have x0 := hk'.cell 0
    have x1 := hk'.cell 1
    simp only [List.getElem?_toArray, List.getElem?_cons_zero, List.getElem?_cons_succ] at x0 x1
    clear hk'
    have hBw := HB1.out.trans (hB.out.mono HB1.out.size)
    by_cases hlt : k < ps.length
    · have hkz : (k : Int) < (ps.length : Int) := by omega
      have hk0 : (0 : Int) ≤ (k : Int) := by omega
      obtain ⟨b, o, rfl, y1⟩ := HR.out wr hBw k hlt
      have hb1 := HBd.out ps[k] (List.getElem_mem hlt)
      have g1 : decide (((ps[k] : Nat) : Int) < 0) = false := decide_eq_false (by omega)
      have g2 : decide (1048575 < ((ps[k] : Nat) : Int)) = false := decide_eq_false (by omega)
      have g2n : decide (1048575 < ps[k]) = false := decide_eq_false (by omega)
      rcases Nat.eq_zero_or_pos k with h0 | h0
      · subst h0
        generalize ps[0] = q at *
        have g3 : decide ((0 : Int) < ((0 : Nat) : Int)) = false := rfl
        rw [Nat.add_zero] at y1
        clear hBw
        go_wp2_with fail
        go_quiet (fail)
        have HB2 := Lib.hid (below_dN hB.out nq)
        go_wp2_with fail
        go_roundw
        case rel => exact ⟨1, by omega, by go_num, HB2⟩
        case measure => simp [intOf]; omega
      · obtain ⟨m, rfl⟩ : ∃ m, k = m + 1 := ⟨k - 1, by omega⟩
        have hm : m < ps.length := by omega
        obtain ⟨b', o', e', y2⟩ := HR.out wr hBw m hm
        injection e' with e'
        injection e' with e1 e2
        subst e1 e2
        have hup := List.pairwise_iff_getElem.1 HU.out m (m + 1) hm hlt (by omega)
        generalize ps[m + 1] = q at *
        generalize ps[m] = r at *
        have g3 : decide ((0 : Int) < (m : Int) + 1) = true := decide_eq_true (by omega)
        have g3n : decide (0 < m + 1) = true := decide_eq_true (by omega)
        have g4 : decide ((q : Int) ≤ (r : Int)) = false := decide_eq_false (by omega)
        have g4n : decide (q ≤ r) = false := decide_eq_false (by omega)
        have g5 : IntKind.i64.wrap (m : Int) = (m : Int) := by rw [IntKind.wrap_i64]; omega
        have g6 : (m : Int) + 1 - 1 = (m : Int) := by omega
        have g7 : (0 : Int) ≤ (m : Int) := by omega
        have g8 : (m : Int) < (ps.length : Int) := by omega
        have g9 : (m : Int) + 1 < (ps.length : Int) := by omega
        have g10 : (0 : Int) ≤ (m : Int) + 1 := by omega
        have g11 : ((m : Int) + 1).toNat = m + 1 := by omega
        clear hBw
        go_wp2_with fail
        go_quiet (fail)
        have HB2 := Lib.hid (below_dN hB.out nq)
        go_wp2_with fail
        go_roundw
        case rel => exact ⟨m + 1 + 1, by omega, by go_num, HB2⟩
        case measure => simp [intOf]; omega
    · obtain rfl : k = ps.length := by omega
      have HF := Lib.hid hBw
      clear hBw
      go_wp2
      go_ret
      exact ⟨rfl, HF.out⟩
set_option maxHeartbeats 3200000 in
theorem is_any (A : Option Addr) (n c : Nat) (l : List Po) (w : World) (h : PostRd w A n l) (hn : n ≤ 8796093021952) (hg : ∀ p ∈ l, GoodP p) (hup : l.Pairwise (fun x y => x.1 < y.1)) :
    Calls Tryz.prog 16 #[.slice A n c] w fun e w' => e = .returned (.bool true) ∧ Below w.heap.size w w' := by
  have H := Lib.hid h
  have hln := h.ln
  have hl1 : l.length ≤ n := by omega
  have hl2 : n ≤ l.length := by omega
  have HGD := Lib.hid hg
  have HUP := Lib.hid hup
  clear h hln hg hup
  go_enter Tryz.func16, Tryz.ntmps16
  go_wp2_with fail
  go_loopw [3] (fun i wr => ∃ k : Nat, k ≤ l.length ∧ i = .int .i64 (k : Nat) ∧ Hid (Below w.heap.size w wr)) (fun i _ => l.length - (intOf i).toNat)
  case atStart => exact ⟨0, Nat.zero_le _, rfl, Lib.hid (Below.refl _ _)⟩
  case round =>
    obtain ⟨k, hk, rfl, hB⟩ := hrel
    by_cases hlt : k < l.length
    · have hkz : (k : Int) < (n : Int) := by omega
      have hk0 : (0 : Int) ≤ (k : Int) := by omega
      have HCs : Hid (∀ wx, Below wr.heap.size wr wx → ∀ i (hi : i < l.length), ∃ b o F f, A = some ⟨b, o, none⟩ ∧ wx.cell? ⟨b, o + i * 2, none⟩ = some (.int .i64 (l[i].1 : Nat)) ∧ wx.cell? ⟨b, o + i * 2 + 1, none⟩ = some (.slice F l[i].2.length f) ∧ Reads wx wx.heap.size 1 F l[i].2.length (nC l[i].2) ∧ l[i].2.length ≤ 8796093021952) := Lib.hid (fun wx hb i hi => by
        obtain ⟨b, o, F, fn, f, e, hlt, c0, c1, r, q1, q2⟩ := (H.out.grow (hB.out.trans (hb.mono hB.out.size))).at_ hi
        subst q1
        exact ⟨b, o, F, f, e, c0, c1, r, q2⟩)
      obtain ⟨b, o, F, f, rfl, c0, c1, hr, hq2⟩ := HCs.out wr (Below.refl _ _) k hlt
      have HR := Lib.hid hr
      have hg := HGD.out _ (List.getElem_mem hlt)
      have HG := Lib.hid hg
      have hbk : b < wr.heap.size := World.block_lt_of_cell? wr _ c0
      rcases Nat.eq_zero_or_pos k with h0 | h0
      · subst h0
        simp only [Nat.zero_mul, Nat.add_zero] at c0 c1
        generalize l[0] = p at *
        have Hc : Hid (∀ wx, Below wr.heap.size wr wx → wx.cell? ⟨b, o, none⟩ = some (.int .i64 (p.1 : Nat)) ∧ wx.cell? ⟨b, o + 1, none⟩ = some (.slice F p.2.length f)) := Lib.hid (fun wx hb => ⟨(hb.cell (p := ⟨b, o, none⟩) hbk).trans c0, (hb.cell (p := ⟨b, o + 1, none⟩) hbk).trans c1⟩)
        have hzz : decide ((0 : Int) < 0) = false := rfl
        clear c0 c1 hr hg HCs
        go_upto_region 4 with (fail)
        refine wp_region_grow (specOf [(4, ⟨Unit, fun _ => .bool true, fun _ _ => True⟩)]) (fun wx => Below (World.heap wr).size wr wx) (fun w1 w2 => Below w1.heap.size w1 w2) (by kernel_rfl) (by kernel_rfl) (stab_cons (fun _ _ _ _ _ => trivial) (stab_nil)) (Below.refl _ _).drew ?_
        refine grow_fix 1 ?_ rfl (by rfl) (by rfl) (fun wx hC hD => ?_) ?_
        rotate_left
        · have hSw := Hc.out wx hC
          go_simp
          all_goals with_reducible rfl
        try simp only [Act.put, List.setIfInBounds_toArray, List.set_cons_zero, List.set_cons_succ]
        refine grow_fix 2 ?_ rfl (by rfl) (by rfl) (fun wx hC hD => ?_) ?_
        rotate_left
        · have hSw := Hc.out wx hC
          go_simp
          all_goals with_reducible rfl
        try simp only [Act.put, List.setIfInBounds_toArray, List.set_cons_zero, List.set_cons_succ]
        refine grow_fix 3 ?_ rfl (by rfl) (by rfl) (fun wx hC hD => ?_) ?_
        rotate_left
        · have hSw := Hc.out wx hC
          go_simp
          all_goals with_reducible rfl
        try simp only [Act.put, List.setIfInBounds_toArray, List.set_cons_zero, List.set_cons_succ]
        refine grow_fix 4 ?_ rfl (by rfl) (by rfl) (fun wx hC hD => ?_) ?_
        rotate_left
        · have hSw := Hc.out wx hC
          go_simp
          all_goals with_reducible rfl
        try simp only [Act.put, List.setIfInBounds_toArray, List.set_cons_zero, List.set_cons_succ]
        refine grow_give 5 _ rfl (by rfl) (by rfl) (fun wx hC hD => ?_) (fun x => ?_)
        · refine give_enter (f := ?_) (args := ?_) ?_ ?_
          rotate_left 2
          · have hSw := Hc.out wx hC
            go_simp
            all_goals first | with_reducible rfl | (refine ⟨?_, ?_⟩ <;> with_reducible rfl)
          refine (one_any F f p wx (reads_gr hC HR.out) HG.out hq2).mono ?_
          rintro e w9 ⟨rfl, hb9⟩
          exact ⟨_, rfl, hb9, hC.trans (hb9.mono hC.size), (), rfl, trivial⟩
        obtain _ := x
        try simp only [Act.put, List.setIfInBounds_toArray, List.set_cons_zero, List.set_cons_succ]
        refine grow_fix 6 ?_ rfl (by rfl) (by rfl) (fun wx hC hD => ?_) ?_
        rotate_left
        · have hSw := Hc.out wx hC
          go_simp
          all_goals with_reducible rfl
        try simp only [Act.put, List.setIfInBounds_toArray, List.set_cons_zero, List.set_cons_succ]
        refine grow_fix 7 ?_ rfl (by rfl) (by rfl) (fun wx hC hD => ?_) ?_
        rotate_left
        · have hSw := Hc.out wx hC
          go_simp
          all_goals with_reducible rfl
        try simp only [Act.put, List.setIfInBounds_toArray, List.set_cons_zero, List.set_cons_succ]
        refine grow_fix 8 ?_ rfl (by rfl) (by rfl) (fun wx hC hD => ?_) ?_
        rotate_left
        · have hSw := Hc.out wx hC
          go_simp
          all_goals with_reducible rfl
        try simp only [Act.put, List.setIfInBounds_toArray, List.set_cons_zero, List.set_cons_succ]
        refine grow_fix 9 ?_ rfl (by rfl) (by rfl) (fun wx hC hD => ?_) ?_
        rotate_left
        · have hSw := Hc.out wx hC
          go_simp
          all_goals with_reducible rfl
        try simp only [Act.put, List.setIfInBounds_toArray, List.set_cons_zero, List.set_cons_succ]
        refine grow_fix 10 ?_ rfl (by rfl) (by rfl) (fun wx hC hD => ?_) ?_
        rotate_left
        · have hSw := Hc.out wx hC
          go_simp
          all_goals with_reducible rfl
        try simp only [Act.put, List.setIfInBounds_toArray, List.set_cons_zero, List.set_cons_succ]
        refine grow_skip 11 (some false) true rfl (by rfl) (by rfl) (by rfl) ?_
        try simp only [Act.put, List.setIfInBounds_toArray, List.set_cons_zero, List.set_cons_succ]
        refine grow_skip 12 (some false) true rfl (by rfl) (by rfl) (by rfl) ?_
        try simp only [Act.put, List.setIfInBounds_toArray, List.set_cons_zero, List.set_cons_succ]
        refine grow_skip 13 (some false) true rfl (by rfl) (by rfl) (by rfl) ?_
        try simp only [Act.put, List.setIfInBounds_toArray, List.set_cons_zero, List.set_cons_succ]
        refine grow_skip 14 (some false) true rfl (by rfl) (by rfl) (by rfl) ?_
        try simp only [Act.put, List.setIfInBounds_toArray, List.set_cons_zero, List.set_cons_succ]
        refine grow_skip 15 (some false) true rfl (by rfl) (by rfl) (by rfl) ?_
        try simp only [Act.put, List.setIfInBounds_toArray, List.set_cons_zero, List.set_cons_succ]
        refine grow_skip 16 (some false) true rfl (by rfl) (by rfl) (by rfl) ?_
        try simp only [Act.put, List.setIfInBounds_toArray, List.set_cons_zero, List.set_cons_succ]
        refine grow_skip 17 (some false) true rfl (by rfl) (by rfl) (by rfl) ?_
        try simp only [Act.put, List.setIfInBounds_toArray, List.set_cons_zero, List.set_cons_succ]
        refine grow_skip 18 (some false) true rfl (by rfl) (by rfl) (by rfl) ?_
        try simp only [Act.put, List.setIfInBounds_toArray, List.set_cons_zero, List.set_cons_succ]
        refine grow_skip 19 (some false) true rfl (by rfl) (by rfl) (by rfl) ?_
        try simp only [Act.put, List.setIfInBounds_toArray, List.set_cons_zero, List.set_cons_succ]
        refine grow_skip 20 (some false) true rfl (by rfl) (by rfl) (by rfl) ?_
        try simp only [Act.put, List.setIfInBounds_toArray, List.set_cons_zero, List.set_cons_succ]
        refine grow_skip 21 (some false) true rfl (by rfl) (by rfl) (by rfl) ?_
        try simp only [Act.put, List.setIfInBounds_toArray, List.set_cons_zero, List.set_cons_succ]
        refine grow_skip 22 (some false) true rfl (by rfl) (by rfl) (by rfl) ?_
        try simp only [Act.put, List.setIfInBounds_toArray, List.set_cons_zero, List.set_cons_succ]
        refine grow_fix 23 ?_ rfl (by rfl) (by rfl) (fun wx hC hD => ?_) ?_
        rotate_left
        · have hSw := Hc.out wx hC
          go_simp
          all_goals with_reducible rfl
        try simp only [Act.put, List.setIfInBounds_toArray, List.set_cons_zero, List.set_cons_succ]
        refine grow_fix 24 ?_ rfl (by rfl) (by rfl) (fun wx hC hD => ?_) ?_
        rotate_left
        · have hSw := Hc.out wx hC
          go_simp
          all_goals with_reducible rfl
        try simp only [Act.put, List.setIfInBounds_toArray, List.set_cons_zero, List.set_cons_succ]
        refine grow_nil (fun w2 hC hF => ?_)
        have HB2 := Lib.hid (hB.out.trans (hC.mono hB.out.size))
        clear hF hC
        go_wp2_with fail
        go_roundw
        case rel => exact ⟨1, by omega, by go_num, HB2⟩
        case measure => simp [intOf]; omega
      · obtain ⟨m, rfl⟩ : ∃ m, k = m + 1 := ⟨k - 1, by omega⟩
        have hm : m < l.length := by omega
        obtain ⟨b', o', F', f', e', d0, _⟩ := HCs.out wr (Below.refl _ _) m hm
        injection e' with e'
        injection e' with e1 e2
        subst e1 e2
        have hup := List.pairwise_iff_getElem.1 HUP.out m (m + 1) hm hlt (by omega)
        generalize l[m + 1] = p at *
        generalize l[m].1 = r at *
        have Hc : Hid (∀ wx, Below wr.heap.size wr wx → wx.cell? ⟨b, o + (m + 1) * 2, none⟩ = some (.int .i64 (p.1 : Nat)) ∧ wx.cell? ⟨b, o + (m + 1) * 2 + 1, none⟩ = some (.slice F p.2.length f) ∧ wx.cell? ⟨b, o + m * 2, none⟩ = some (.int .i64 (r : Nat))) := Lib.hid (fun wx hb => ⟨(hb.cell (p := ⟨b, o + (m + 1) * 2, none⟩) hbk).trans c0, (hb.cell (p := ⟨b, o + (m + 1) * 2 + 1, none⟩) hbk).trans c1, (hb.cell (p := ⟨b, o + m * 2, none⟩) hbk).trans d0⟩)
        obtain ⟨q, pq⟩ := p
        simp only at hup hq2
        have g3 : decide ((0 : Int) < (m : Int) + 1) = true := decide_eq_true (by omega)
        have g3n : decide (0 < m + 1) = true := decide_eq_true (by omega)
        have g4 : decide ((q : Int) ≤ (r : Int)) = false := decide_eq_false (by omega)
        have g4n : decide (q ≤ r) = false := decide_eq_false (by omega)
        have g5 : IntKind.i64.wrap (m : Int) = (m : Int) := by rw [IntKind.wrap_i64]; omega
        have g6 : (m : Int) + 1 - 1 = (m : Int) := by omega
        have g7 : (0 : Int) ≤ (m : Int) := by omega
        have g8 : (m : Int) < (n : Int) := by omega
        have g9 : (m : Int) + 1 < (n : Int) := by omega
        have g10 : (0 : Int) ≤ (m : Int) + 1 := by omega
        have g11 : ((m : Int) + 1).toNat = m + 1 := by omega
        clear c0 c1 d0 hr hg HCs
        go_upto_region 4 with (fail)
        refine wp_region_grow (specOf [(4, ⟨Unit, fun _ => .bool true, fun _ _ => True⟩)]) (fun wx => Below (World.heap wr).size wr wx) (fun w1 w2 => Below w1.heap.size w1 w2) (by kernel_rfl) (by kernel_rfl) (stab_cons (fun _ _ _ _ _ => trivial) (stab_nil)) (Below.refl _ _).drew ?_
        refine grow_fix 1 ?_ rfl (by rfl) (by rfl) (fun wx hC hD => ?_) ?_
        rotate_left
        · have hSw := Hc.out wx hC
          go_simp
          all_goals with_reducible rfl
        try simp only [Act.put, List.setIfInBounds_toArray, List.set_cons_zero, List.set_cons_succ]
        refine grow_fix 2 ?_ rfl (by rfl) (by rfl) (fun wx hC hD => ?_) ?_
        rotate_left
        · have hSw := Hc.out wx hC
          go_simp
          all_goals with_reducible rfl
        try simp only [Act.put, List.setIfInBounds_toArray, List.set_cons_zero, List.set_cons_succ]
        refine grow_fix 3 ?_ rfl (by rfl) (by rfl) (fun wx hC hD => ?_) ?_
        rotate_left
        · have hSw := Hc.out wx hC
          go_simp
          all_goals with_reducible rfl
        try simp only [Act.put, List.setIfInBounds_toArray, List.set_cons_zero, List.set_cons_succ]
        refine grow_fix 4 ?_ rfl (by rfl) (by rfl) (fun wx hC hD => ?_) ?_
        rotate_left
        · have hSw := Hc.out wx hC
          go_simp
          all_goals with_reducible rfl
        try simp only [Act.put, List.setIfInBounds_toArray, List.set_cons_zero, List.set_cons_succ]
        refine grow_give 5 _ rfl (by rfl) (by rfl) (fun wx hC hD => ?_) (fun x => ?_)
        · refine give_enter (f := ?_) (args := ?_) ?_ ?_
          rotate_left 2
          · have hSw := Hc.out wx hC
            go_simp
            all_goals first | with_reducible rfl | (refine ⟨?_, ?_⟩ <;> with_reducible rfl)
          refine (one_any F f (q, pq) wx (reads_gr hC HR.out) HG.out hq2).mono ?_
          rintro e w9 ⟨rfl, hb9⟩
          exact ⟨_, rfl, hb9, hC.trans (hb9.mono hC.size), (), rfl, trivial⟩
        obtain _ := x
        try simp only [Act.put, List.setIfInBounds_toArray, List.set_cons_zero, List.set_cons_succ]
        refine grow_fix 6 ?_ rfl (by rfl) (by rfl) (fun wx hC hD => ?_) ?_
        rotate_left
        · have hSw := Hc.out wx hC
          go_simp
          all_goals with_reducible rfl
        try simp only [Act.put, List.setIfInBounds_toArray, List.set_cons_zero, List.set_cons_succ]
        refine grow_fix 7 ?_ rfl (by rfl) (by rfl) (fun wx hC hD => ?_) ?_
        rotate_left
        · have hSw := Hc.out wx hC
          go_simp
          all_goals with_reducible rfl
        try simp only [Act.put, List.setIfInBounds_toArray, List.set_cons_zero, List.set_cons_succ]
        refine grow_fix 8 ?_ rfl (by rfl) (by rfl) (fun wx hC hD => ?_) ?_
        rotate_left
        · have hSw := Hc.out wx hC
          go_simp
          all_goals with_reducible rfl
        try simp only [Act.put, List.setIfInBounds_toArray, List.set_cons_zero, List.set_cons_succ]
        refine grow_fix 9 ?_ rfl (by rfl) (by rfl) (fun wx hC hD => ?_) ?_
        rotate_left
        · have hSw := Hc.out wx hC
          go_simp
          all_goals with_reducible rfl
        try simp only [Act.put, List.setIfInBounds_toArray, List.set_cons_zero, List.set_cons_succ]
        refine grow_fix 10 ?_ rfl (by rfl) (by rfl) (fun wx hC hD => ?_) ?_
        rotate_left
        · have hSw := Hc.out wx hC
          go_simp
          all_goals with_reducible rfl
        try simp only [Act.put, List.setIfInBounds_toArray, List.set_cons_zero, List.set_cons_succ]
        refine grow_fix 11 ?_ rfl (by rfl) (by rfl) (fun wx hC hD => ?_) ?_
        rotate_left
        · have hSw := Hc.out wx hC
          go_simp
          all_goals with_reducible rfl
        try simp only [Act.put, List.setIfInBounds_toArray, List.set_cons_zero, List.set_cons_succ]
        refine grow_fix 12 ?_ rfl (by rfl) (by rfl) (fun wx hC hD => ?_) ?_
        rotate_left
        · have hSw := Hc.out wx hC
          go_simp
          all_goals with_reducible rfl
        try simp only [Act.put, List.setIfInBounds_toArray, List.set_cons_zero, List.set_cons_succ]
        refine grow_fix 13 ?_ rfl (by rfl) (by rfl) (fun wx hC hD => ?_) ?_
        rotate_left
        · have hSw := Hc.out wx hC
          go_simp
          all_goals with_reducible rfl
        try simp only [Act.put, List.setIfInBounds_toArray, List.set_cons_zero, List.set_cons_succ]
        refine grow_fix 14 ?_ rfl (by rfl) (by rfl) (fun wx hC hD => ?_) ?_
        rotate_left
        · have hSw := Hc.out wx hC
          go_simp
          all_goals with_reducible rfl
        try simp only [Act.put, List.setIfInBounds_toArray, List.set_cons_zero, List.set_cons_succ]
        refine grow_fix 15 ?_ rfl (by rfl) (by rfl) (fun wx hC hD => ?_) ?_
        rotate_left
        · have hSw := Hc.out wx hC
          go_simp
          all_goals with_reducible rfl
        try simp only [Act.put, List.setIfInBounds_toArray, List.set_cons_zero, List.set_cons_succ]
        refine grow_fix 16 ?_ rfl (by rfl) (by rfl) (fun wx hC hD => ?_) ?_
        rotate_left
        · have hSw := Hc.out wx hC
          go_simp
          all_goals with_reducible rfl
        try simp only [Act.put, List.setIfInBounds_toArray, List.set_cons_zero, List.set_cons_succ]
        refine grow_fix 17 ?_ rfl (by rfl) (by rfl) (fun wx hC hD => ?_) ?_
        rotate_left
        · have hSw := Hc.out wx hC
          go_simp
          all_goals with_reducible rfl
        try simp only [Act.put, List.setIfInBounds_toArray, List.set_cons_zero, List.set_cons_succ]
        refine grow_fix 18 ?_ rfl (by rfl) (by rfl) (fun wx hC hD => ?_) ?_
        rotate_left
        · have hSw := Hc.out wx hC
          go_simp
          all_goals with_reducible rfl
        try simp only [Act.put, List.setIfInBounds_toArray, List.set_cons_zero, List.set_cons_succ]
        refine grow_fix 19 ?_ rfl (by rfl) (by rfl) (fun wx hC hD => ?_) ?_
        rotate_left
        · have hSw := Hc.out wx hC
          go_simp
          all_goals with_reducible rfl
        try simp only [Act.put, List.setIfInBounds_toArray, List.set_cons_zero, List.set_cons_succ]
        refine grow_fix 20 ?_ rfl (by rfl) (by rfl) (fun wx hC hD => ?_) ?_
        rotate_left
        · have hSw := Hc.out wx hC
          go_simp
          all_goals with_reducible rfl
        try simp only [Act.put, List.setIfInBounds_toArray, List.set_cons_zero, List.set_cons_succ]
        refine grow_fix 21 ?_ rfl (by rfl) (by rfl) (fun wx hC hD => ?_) ?_
        rotate_left
        · have hSw := Hc.out wx hC
          go_simp
          all_goals with_reducible rfl
        try simp only [Act.put, List.setIfInBounds_toArray, List.set_cons_zero, List.set_cons_succ]
        refine grow_fix 22 ?_ rfl (by rfl) (by rfl) (fun wx hC hD => ?_) ?_
        rotate_left
        · have hSw := Hc.out wx hC
          go_simp
          all_goals with_reducible rfl
        try simp only [Act.put, List.setIfInBounds_toArray, List.set_cons_zero, List.set_cons_succ]
        refine grow_fix 23 ?_ rfl (by rfl) (by rfl) (fun wx hC hD => ?_) ?_
        rotate_left
        · have hSw := Hc.out wx hC
          go_simp
          all_goals with_reducible rfl
        try simp only [Act.put, List.setIfInBounds_toArray, List.set_cons_zero, List.set_cons_succ]
        refine grow_fix 24 ?_ rfl (by rfl) (by rfl) (fun wx hC hD => ?_) ?_
        rotate_left
        · have hSw := Hc.out wx hC
          go_simp
          all_goals with_reducible rfl
        try simp only [Act.put, List.setIfInBounds_toArray, List.set_cons_zero, List.set_cons_succ]
        refine grow_nil (fun w2 hC hF => ?_)
        have HB2 := Lib.hid (hB.out.trans (hC.mono hB.out.size))
        clear hF hC
        go_wp2_with fail
        go_roundw
        case rel => exact ⟨m + 1 + 1, by omega, by go_num, HB2⟩
        case measure => simp [intOf]; omega
    · obtain rfl : k = l.length := by omega
      go_wp2
      go_ret
      exact ⟨rfl, hB.out⟩
end Go.Proofs.YtioekhiaoajgfaaGreat.Mx
