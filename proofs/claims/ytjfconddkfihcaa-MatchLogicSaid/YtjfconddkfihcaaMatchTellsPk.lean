/- MatchTells: the law's walk (printed by gen_matcht.py). -/
import Derived.Test.YtjfconddkfihcaaAwakePk
import Derived.Test.YtjfconddkfihcaaPkMatchTellsRow35
import Derived.Test.YtjfconddkfihcaaFewDPk
namespace Go.Proofs.Ytjfconddkfihcaa.Qy
open Go.RowKit Go.Proofs.Ytjfconddkfihcaa Go.Proofs.Ytjfconddkfihcaa.Ut Go.Proofs.Ytjfconddkfihcaa.Tk
set_option maxRecDepth 20000
set_option linter.unusedSimpArgs false

theorem fewD_len (ds : List Dc) : (fewD ds).length ≤ 40 := by simp [fewD]; omega
theorem fewD_small (ds : List Dc) : Small (fewD ds) := by
  intro d hd
  obtain ⟨x, _, rfl⟩ := List.mem_map.1 hd
  refine ⟨by simp [fewF]; omega, fun f hf => ?_⟩
  obtain ⟨y, _, rfl⟩ := List.mem_map.1 hf
  have := ct_size 300 y.2
  simp only [cutF]
  omega
theorem qtx_up {b b' : Nat} {q : Q} (h : QTx b q) (hb : b ≤ b') : QTx b' q := by
  induction h with
  | mk h1 h2 _ ih => exact .mk (by omega) (fun x hx => Nat.le_trans (h2 x hx) hb) ih
theorem docs_grow {W w : World} {A : Option Addr} {n : Nat} {ds : List Dc} (hC : Below W.heap.size W w) (h : DocsAt W W.heap.size A n ds) : DocsAt w w.heap.size A n ds := h.grow hC
theorem ev_of {w : World} {F : Option Addr} {fn : Nat} {fs : List (ByteArray × ByteArray)} (h : Reads w w.heap.size 2 F fn (fldC fs)) (hl : fs.length = fn) (hn : fs.length ≤ 1000000) (hs : ∀ f ∈ fs, f.2.size ≤ 1000000) : EvAt w F fn fs := ⟨h, hl, by omega, hs⟩

set_option maxHeartbeats 12800000 in
theorem matchTells_walk (q : Q) (hq : QSz q) (ht : QTx 1048576 q) (hwq : wq q ≤ 1048576) (a0 a1 a2 a3 : Value) (A : Option Addr) (n c : Nat) (ds0 : List Dc) (w : World) (hQ : QAt w w.heap.size q [a0, a1, a2, a3]) (hD : DocsAt w w.heap.size A n ds0) (hn : n ≤ 8796093021952)
    (hs : ∀ d ∈ ds0, ∀ f ∈ d.fs, f.1.size ≤ 140737488351232 ∧ f.2.size ≤ 140737488351232) :
    Calls Try.prog 11 #[.agg #[a0, a1, a2, a3], .slice A n c] w fun e w' => e = .returned (.bool true) ∧ Below w.heap.size w w' := by
  have kw := weigh_any q hq
  have kf := fun wx (hb : Below w.heap.size w wx) => fewD_any A n c ds0 wx (hD.grow hb) hn (fun d hd f hf => (hs d hd f hf).2)
  have hsm := fewD_small ds0
  have hfl := fewD_len ds0
  generalize fewD ds0 = ds at *
  have km := fun d (_ : d ∈ ds) => match_any d.fs q hq
  have kr := fun d (_ : d ∈ ds) => rmatch_any d.fs q hq
  have kd := fun wx A n c a0 a1 a2 a3 (hQ : QAt wx wx.heap.size q [a0, a1, a2, a3]) (hD : DocsAt wx wx.heap.size A n ds) => docs_any q hq a0 a1 a2 a3 A n c ds wx hQ hD (by have := hD.ln; omega) hsm
  have ke := fun wx A n c a0 a1 a2 a3 (hQ : QAt wx wx.heap.size q [a0, a1, a2, a3]) (hD : DocsAt wx wx.heap.size A n ds) => docs_ref q hq a0 a1 a2 a3 A n c ds wx hQ hD (by have := hD.ln; omega) hsm
  have kc := fun wx A n c a0 a1 a2 a3 (hQ : QAt wx wx.heap.size q [a0, a1, a2, a3]) (hD : DocsAt wx wx.heap.size A n ds) => count_any q hq a0 a1 a2 a3 A n c ds wx hQ hD (by have := hD.ln; omega) hsm
  have kn := fun wx a0 a1 a2 a3 (hQ : QAt wx wx.heap.size q [a0, a1, a2, a3]) => needs_any q (qtx_up ht (by omega)) wx a0 a1 a2 a3 hQ hwq
  have ko := fun wx a0 a1 a2 a3 (hQ : QAt wx wx.heap.size q [a0, a1, a2, a3]) => rneeds_any q ht wx a0 a1 a2 a3 hQ hwq
  have hnl := Nat.le_trans (needs_len q) hwq
  have hol : (ds.filter fun d => matchB d.fs q).length ≤ 40 := Nat.le_trans (List.length_filter_le _ _) hfl
  have HQ0 := Lib.hid hQ
  obtain ⟨k0, nm, ws, l⟩ := q
  obtain ⟨WA, m, wc, CA, n1, c2, e, _⟩ := hQ.is
  simp only [List.cons.injEq, and_true] at e
  obtain ⟨rfl, rfl, rfl, rfl⟩ := e
  have hb1 : Below w.heap.size w (w.alloc (.cells #[.int .i64 k0, .string nm, .slice WA m wc, .slice CA n1 c2] 37)) := (Below.refl _ _).alloc (Nat.le_refl _) _
  have hB1 := Blk.new w 37 #[.int .i64 k0, .string nm, .slice WA m wc, .slice CA n1 c2]
  have hQ1 := hQ.grow hb1
  have hz1 : w.heap.size < (w.alloc (.cells #[.int .i64 k0, .string nm, .slice WA m wc, .slice CA n1 c2] 37)).heap.size := by simp
  have cw := kw _ _ _ _ _ hQ1
  have HQ1 := Lib.hid hQ1
  have HB1 := Lib.hid hB1
  have Hb1 := Lib.hid hb1
  have KF := Lib.hid kf
  have KM := Lib.hid km
  have KR := Lib.hid kr
  have KD := Lib.hid kd
  have KE := Lib.hid ke
  have KC := Lib.hid kc
  have KN := Lib.hid kn
  have KO := Lib.hid ko
  have Hsm := Lib.hid hsm
  have Hnl := Lib.hid hnl
  clear kw kf km kr kd ke kc kn ko hQ hQ1 hB1 hb1 hsm HQ0 hD hs hq ht hwq hnl
  generalize ho : ds.filter (fun d => matchB d.fs (.mk k0 nm ws l)) = out at *
  generalize needs (.mk k0 nm ws l) = nl at *
  have Hm := Lib.hid ho
  clear ho
  go_enter Try.func11, Try.ntmps11
  go_wp2_with fail
  generalize hw1 : w.alloc (.cells #[.int .i64 k0, .string nm, .slice WA m wc, .slice CA n1 c2] 37) = w1 at *
  have Hw1 := Lib.hid hw1
  clear hw1
  refine cw.mono ?_
  rintro e w2 ⟨⟨r, rfl⟩, hb2⟩
  have HB2 := Lib.hid (HB1.out.below hb2 hz1)
  have HQ2 := Lib.hid (HQ1.out.grow hb2)
  have Hb2 := Lib.hid (Hb1.out.trans (hb2.mono Hb1.out.size))
  have hz2 := Nat.lt_of_lt_of_le hz1 hb2.size
  clear cw hb2 HB1 HQ1 Hb1 hz1
  by_cases hr : (300 : Int) < r
  case pos =>
    go_wp2_with fail
    refine (awake_any _).mono ?_
    rintro e w3 ⟨rfl, hb3⟩
    have Hb3 := Lib.hid (Hb2.out.trans (hb3.mono Hb2.out.size))
    clear hb3
    go_wp2
    go_ret
    exact ⟨rfl, Hb3.out⟩
  case neg =>
    go_wp2_with fail
    refine (KF.out w2 Hb2.out).mono ?_
    rintro e w3 ⟨v3, rfl, hO3⟩
    obtain ⟨A3, c3, rfl, hD3⟩ := hO3.read
    have hb3 := hO3.bel
    have HB3 := Lib.hid (HB2.out.below hb3 hz2)
    have HQ3 := Lib.hid (HQ2.out.grow hb3)
    have Hb3 := Lib.hid (Hb2.out.trans (hb3.mono Hb2.out.size))
    have hz3 := Nat.lt_of_lt_of_le hz2 hb3.size
    have HD3 := Lib.hid hD3
    have hc0 := HB3.out.cell 0
    have hc1 := HB3.out.cell 1
    have hc2 := HB3.out.cell 2
    have hc3 := HB3.out.cell 3
    clear hb3 hO3 HB2 HQ2 Hb2 hz2 hD3 KF
    have ce := KE.out w3 A3 _ c3 _ _ _ _ HQ3.out HD3.out
    go_wp2_with fail
    refine ce.mono ?_
    rintro e w4 ⟨A4, c4, rfl, hD4, _, hb4⟩
    have HB4 := Lib.hid (HB3.out.below hb4 hz3)
    have HQ4 := Lib.hid (HQ3.out.grow hb4)
    have Hb4 := Lib.hid (Hb3.out.trans (hb4.mono Hb3.out.size))
    have hz4 := Nat.lt_of_lt_of_le hz3 hb4.size
    have HD4 := Lib.hid (HD3.out.grow hb4)
    have HE4 := Lib.hid hD4
    clear ce hb4 hD4 HB3 HQ3 Hb3 hz3 HD3 KE hc0 hc1 hc2 hc3
    go_wp2_with fail
    go_loopw [6] (fun i wr => ∃ k : Nat, k ≤ ds.length ∧ i = .int .i64 k ∧ Below w4.heap.size w4 wr) (fun i _ => ds.length - (intOf i).toNat)
    case atStart => exact ⟨0, Nat.zero_le _, rfl, Below.refl _ _⟩
    case round =>
      obtain ⟨k, hk, rfl, hb⟩ := hrel
      have hQr := HQ4.out.grow hb
      have hBr := HB4.out.below hb hz4
      by_cases hlt : k < ds.length
      · obtain ⟨b1, o1, F1, n5, f1, rfl, hl1, g0, g1, g2, hR1, hln, hfn, _, _⟩ := (HD4.out.grow hb).at_ (i := k) hlt
        have hi0 : (0 : Int) ≤ (k : Int) := by omega
        have hi1 : (k : Int) < (ds.length : Int) := by omega
        have hmem : ds[k] ∈ ds := List.getElem_mem _
        have hev : ∀ wx, Below wr.heap.size wr wx → EvAt wx F1 n5 ds[k].fs := fun wx hC => ev_of (reads_grow hC hR1) hln (Hsm.out _ hmem).1 (Hsm.out _ hmem).2
        have CM : Hid (∀ wx, Below wr.heap.size wr wx → Calls Try.prog 55 #[.agg #[.int .i64 k0, .string nm, .slice WA m wc, .slice CA n1 c2], .agg #[.int .i64 ds[k].at_, .slice F1 n5 f1]] wx fun e w' => e = .returned (.bool (matchB ds[k].fs (.mk k0 nm ws l))) ∧ Below wx.heap.size wx w') := Lib.hid (fun wx hC => KM.out _ hmem wx _ _ _ _ _ F1 n5 f1 (hQr.grow hC) (hev wx hC))
        have CR : Hid (∀ wx, Below wr.heap.size wr wx → Calls Try.prog 28 #[.agg #[.int .i64 k0, .string nm, .slice WA m wc, .slice CA n1 c2], .agg #[.int .i64 ds[k].at_, .slice F1 n5 f1]] wx fun e w' => e = .returned (.bool (matchB ds[k].fs (.mk k0 nm ws l))) ∧ Below wx.heap.size wx w') := Lib.hid (fun wx hC => KR.out _ hmem wx _ _ _ _ _ F1 n5 f1 (hQr.grow hC) (hev wx hC))
        generalize ds[k].at_ = at_ at *
        generalize matchB ds[k].fs (.mk k0 nm ws l) = ans at *
        have hcells : ∀ wx, Below wr.heap.size wr wx → wx.cell? ⟨b1, o1 + k * 3 + 1, none⟩ = some (.int .i64 at_) ∧ wx.cell? ⟨b1, o1 + k * 3 + 2, none⟩ = some (.slice F1 n5 f1) ∧
            wx.cell? ⟨w.heap.size, 0, none⟩ = some (.int .i64 k0) ∧ wx.cell? ⟨w.heap.size, 1, none⟩ = some (.string nm) ∧ wx.cell? ⟨w.heap.size, 2, none⟩ = some (.slice WA m wc) ∧ wx.cell? ⟨w.heap.size, 3, none⟩ = some (.slice CA n1 c2) := fun wx hC =>
          have hB := hBr.below hC (Nat.lt_of_lt_of_le hz4 hb.size)
          ⟨(hC.cell (p := ⟨b1, o1 + k * 3 + 1, none⟩) hl1).trans g1, (hC.cell (p := ⟨b1, o1 + k * 3 + 2, none⟩) hl1).trans g2, hB.cell 0, hB.cell 1, hB.cell 2, hB.cell 3⟩
        have hcells' := Lib.hid hcells
        have Hb := Lib.hid hb
        have hne : (ans != ans) = false := by simp
        clear hcells g0 g1 g2 hR1 hln hev hQr hBr hb hmem hfn
        go_wp2_with fail
        refine wp_region_grow (specOf [(6, ⟨Unit, fun _ => (.bool ans), fun _ _ => True⟩), (13, ⟨Unit, fun _ => (.bool ans), fun _ _ => True⟩)]) (fun wx => Below (World.heap wr).size wr wx) (fun w1 w2 => Below w1.heap.size w1 w2) (by kernel_rfl) (by kernel_rfl) (stab_cons (fun _ _ _ _ h => h) (stab_cons (fun _ _ _ _ h => h) (stab_nil))) (Below.refl _ _).drew ?_
        refine grow_fix 1 ?_ rfl (by rfl) (by rfl) (fun wx hC hD => ?_) ?_
        rotate_left
        · have hSw := hcells'.out wx hC
          go_simp
          all_goals with_reducible rfl
        try simp only [Act.put, List.setIfInBounds_toArray, List.set_cons_zero, List.set_cons_succ]
        refine grow_fix 2 ?_ rfl (by rfl) (by rfl) (fun wx hC hD => ?_) ?_
        rotate_left
        · have hSw := hcells'.out wx hC
          go_simp
          all_goals with_reducible rfl
        try simp only [Act.put, List.setIfInBounds_toArray, List.set_cons_zero, List.set_cons_succ]
        refine grow_fix 3 ?_ rfl (by rfl) (by rfl) (fun wx hC hD => ?_) ?_
        rotate_left
        · have hSw := hcells'.out wx hC
          go_simp
          all_goals with_reducible rfl
        try simp only [Act.put, List.setIfInBounds_toArray, List.set_cons_zero, List.set_cons_succ]
        refine grow_fix 4 ?_ rfl (by rfl) (by rfl) (fun wx hC hD => ?_) ?_
        rotate_left
        · have hSw := hcells'.out wx hC
          go_simp
          all_goals with_reducible rfl
        try simp only [Act.put, List.setIfInBounds_toArray, List.set_cons_zero, List.set_cons_succ]
        refine grow_fix 5 ?_ rfl (by rfl) (by rfl) (fun wx hC hD => ?_) ?_
        rotate_left
        · have hSw := hcells'.out wx hC
          go_simp
          all_goals with_reducible rfl
        try simp only [Act.put, List.setIfInBounds_toArray, List.set_cons_zero, List.set_cons_succ]
        refine grow_fix 6 ?_ rfl (by rfl) (by rfl) (fun wx hC hD => ?_) ?_
        rotate_left
        · have hSw := hcells'.out wx hC
          go_simp
          all_goals with_reducible rfl
        try simp only [Act.put, List.setIfInBounds_toArray, List.set_cons_zero, List.set_cons_succ]
        refine grow_give 7 _ rfl (by rfl) (by rfl) (fun wx hC hD => ?_) (fun x => ?_)
        · refine give_enter (f := ?_) (args := ?_) ?_ ?_
          rotate_left 2
          · have hSw := hcells'.out wx hC
            go_simp
            all_goals first | with_reducible rfl | (refine ⟨?_, ?_⟩ <;> with_reducible rfl)
          exact calls_cst hC (CM.out wx hC)
        obtain ⟨⟩ := x
        try simp only [Act.put, List.setIfInBounds_toArray, List.set_cons_zero, List.set_cons_succ]
        refine grow_fix 8 ?_ rfl (by rfl) (by rfl) (fun wx hC hD => ?_) ?_
        rotate_left
        · have hSw := hcells'.out wx hC
          go_simp
          all_goals with_reducible rfl
        try simp only [Act.put, List.setIfInBounds_toArray, List.set_cons_zero, List.set_cons_succ]
        refine grow_fix 9 ?_ rfl (by rfl) (by rfl) (fun wx hC hD => ?_) ?_
        rotate_left
        · have hSw := hcells'.out wx hC
          go_simp
          all_goals with_reducible rfl
        try simp only [Act.put, List.setIfInBounds_toArray, List.set_cons_zero, List.set_cons_succ]
        refine grow_fix 10 ?_ rfl (by rfl) (by rfl) (fun wx hC hD => ?_) ?_
        rotate_left
        · have hSw := hcells'.out wx hC
          go_simp
          all_goals with_reducible rfl
        try simp only [Act.put, List.setIfInBounds_toArray, List.set_cons_zero, List.set_cons_succ]
        refine grow_fix 11 ?_ rfl (by rfl) (by rfl) (fun wx hC hD => ?_) ?_
        rotate_left
        · have hSw := hcells'.out wx hC
          go_simp
          all_goals with_reducible rfl
        try simp only [Act.put, List.setIfInBounds_toArray, List.set_cons_zero, List.set_cons_succ]
        refine grow_fix 12 ?_ rfl (by rfl) (by rfl) (fun wx hC hD => ?_) ?_
        rotate_left
        · have hSw := hcells'.out wx hC
          go_simp
          all_goals with_reducible rfl
        try simp only [Act.put, List.setIfInBounds_toArray, List.set_cons_zero, List.set_cons_succ]
        refine grow_fix 13 ?_ rfl (by rfl) (by rfl) (fun wx hC hD => ?_) ?_
        rotate_left
        · have hSw := hcells'.out wx hC
          go_simp
          all_goals with_reducible rfl
        try simp only [Act.put, List.setIfInBounds_toArray, List.set_cons_zero, List.set_cons_succ]
        refine grow_give 14 _ rfl (by rfl) (by rfl) (fun wx hC hD => ?_) (fun x => ?_)
        · refine give_enter (f := ?_) (args := ?_) ?_ ?_
          rotate_left 2
          · have hSw := hcells'.out wx hC
            go_simp
            all_goals first | with_reducible rfl | (refine ⟨?_, ?_⟩ <;> with_reducible rfl)
          exact calls_cst hC (CR.out wx hC)
        obtain ⟨⟩ := x
        try simp only [Act.put, List.setIfInBounds_toArray, List.set_cons_zero, List.set_cons_succ]
        refine grow_fix 15 ?_ rfl (by rfl) (by rfl) (fun wx hC hD => ?_) ?_
        rotate_left
        · have hSw := hcells'.out wx hC
          go_simp
          all_goals with_reducible rfl
        try simp only [Act.put, List.setIfInBounds_toArray, List.set_cons_zero, List.set_cons_succ]
        refine grow_nil (fun w5 hC hF => ?_)
        have Hb5 := Lib.hid (Hb.out.trans (hC.mono Hb.out.size))
        clear hF hC hcells' CM CR
        go_wp2
        go_roundw
        case rel => exact ⟨k + 1, by omega, by go_num, Hb5.out⟩
        case measure => simp [intOf]; omega
      · have hcells : ∀ wx, Below wr.heap.size wr wx → wx.cell? ⟨w.heap.size, 0, none⟩ = some (.int .i64 k0) ∧ wx.cell? ⟨w.heap.size, 1, none⟩ = some (.string nm) ∧ wx.cell? ⟨w.heap.size, 2, none⟩ = some (.slice WA m wc) ∧ wx.cell? ⟨w.heap.size, 3, none⟩ = some (.slice CA n1 c2) := fun wx hC =>
          have hB := hBr.below hC (Nat.lt_of_lt_of_le hz4 hb.size)
          ⟨hB.cell 0, hB.cell 1, hB.cell 2, hB.cell 3⟩
        have hcells' := Lib.hid hcells
        have HDr := Lib.hid (HD4.out.grow hb)
        have HEr := Lib.hid (HE4.out.grow hb)
        have HQr := Lib.hid hQr
        have Hb := Lib.hid hb
        clear hcells hQr hBr hb KM KR
        go_wp2_with fail
        refine wp_region_grow (specOf [(2, ⟨Option Addr × Nat, fun x => .slice x.1 out.length x.2, fun x w' => DocsAt w' w'.heap.size x.1 out.length out⟩), (4, ⟨Unit, fun _ => (.bool true), fun _ _ => True⟩), (8, ⟨Unit, fun _ => (.int .i64 (out.length : Nat)), fun _ _ => True⟩), (15, ⟨Option Addr × Nat, fun x => .slice x.1 nl.length x.2, fun x w' => Reads w' w'.heap.size 1 x.1 nl.length (bsv nl)⟩), (17, ⟨Option Addr × Nat, fun x => .slice x.1 nl.length x.2, fun x w' => Reads w' w'.heap.size 1 x.1 nl.length (bsv nl)⟩), (18, ⟨Unit, fun _ => (.bool true), fun _ _ => True⟩), (21, ⟨Unit, fun _ => (.bool true), fun _ _ => True⟩)]) (fun wx => Below (World.heap wr).size wr wx) (fun w1 w2 => Below w1.heap.size w1 w2) (by kernel_rfl) (by kernel_rfl) (stab_cons (fun x w1 w2 hg h => docs_grow hg h) (stab_cons (fun _ _ _ _ h => h) (stab_cons (fun _ _ _ _ h => h) (stab_cons (fun x w1 w2 hg h => reads_grow hg h) (stab_cons (fun x w1 w2 hg h => reads_grow hg h) (stab_cons (fun _ _ _ _ h => h) (stab_cons (fun _ _ _ _ h => h) (stab_nil)))))))) (Below.refl _ _).drew ?_
        refine grow_fix 1 ?_ rfl (by rfl) (by rfl) (fun wx hC hD => ?_) ?_
        rotate_left
        · have hSw := hcells'.out wx hC
          go_simp
          all_goals with_reducible rfl
        try simp only [Act.put, List.setIfInBounds_toArray, List.set_cons_zero, List.set_cons_succ]
        refine grow_fix 2 ?_ rfl (by rfl) (by rfl) (fun wx hC hD => ?_) ?_
        rotate_left
        · have hSw := hcells'.out wx hC
          go_simp
          all_goals with_reducible rfl
        try simp only [Act.put, List.setIfInBounds_toArray, List.set_cons_zero, List.set_cons_succ]
        refine grow_give 3 _ rfl (by rfl) (by rfl) (fun wx hC hD => ?_) (fun x => ?_)
        · refine give_enter (f := ?_) (args := ?_) ?_ ?_
          rotate_left 2
          · have hSw := hcells'.out wx hC
            go_simp
            all_goals first | with_reducible rfl | (refine ⟨?_, ?_⟩ <;> with_reducible rfl)
          refine (KD.out wx A3 _ c3 _ _ _ _ (HQr.out.grow hC) (HDr.out.grow hC)).mono ?_
          rintro e w5 ⟨A5, c5, rfl, hD5, _, hb5⟩
          exact ⟨_, rfl, hb5, hC.trans (hb5.mono hC.size), (A5, c5), rfl, hD5⟩
        obtain ⟨X, x⟩ := x
        try simp only [Act.put, List.setIfInBounds_toArray, List.set_cons_zero, List.set_cons_succ]
        refine grow_fix 4 ?_ rfl (by rfl) (by rfl) (fun wx hC hD => ?_) ?_
        rotate_left
        · have hSw := hcells'.out wx hC
          go_simp
          all_goals with_reducible rfl
        try simp only [Act.put, List.setIfInBounds_toArray, List.set_cons_zero, List.set_cons_succ]
        refine grow_give 5 _ rfl (by rfl) (by rfl) (fun wx hC hD => ?_) (fun x => ?_)
        · refine give_enter (f := ?_) (args := ?_) ?_ ?_
          rotate_left 2
          · have hSw := hcells'.out wx hC
            go_simp
            all_goals first | with_reducible rfl | (refine ⟨?_, ?_⟩ <;> with_reducible rfl)
          exact calls_cst hC (sameDocs_eq X A4 out.length x c4 out wx (upd_hit (deps_get hD 2 (by kernel_rfl)) (by decide)) (HEr.out.grow hC) (by omega))
        obtain ⟨⟩ := x
        try simp only [Act.put, List.setIfInBounds_toArray, List.set_cons_zero, List.set_cons_succ]
        refine grow_fix 6 ?_ rfl (by rfl) (by rfl) (fun wx hC hD => ?_) ?_
        rotate_left
        · have hSw := hcells'.out wx hC
          go_simp
          all_goals with_reducible rfl
        try simp only [Act.put, List.setIfInBounds_toArray, List.set_cons_zero, List.set_cons_succ]
        refine grow_fix 7 ?_ rfl (by rfl) (by rfl) (fun wx hC hD => ?_) ?_
        rotate_left
        · have hSw := hcells'.out wx hC
          go_simp
          all_goals with_reducible rfl
        try simp only [Act.put, List.setIfInBounds_toArray, List.set_cons_zero, List.set_cons_succ]
        refine grow_fix 8 ?_ rfl (by rfl) (by rfl) (fun wx hC hD => ?_) ?_
        rotate_left
        · have hSw := hcells'.out wx hC
          go_simp
          all_goals with_reducible rfl
        try simp only [Act.put, List.setIfInBounds_toArray, List.set_cons_zero, List.set_cons_succ]
        refine grow_give 9 _ rfl (by rfl) (by rfl) (fun wx hC hD => ?_) (fun x => ?_)
        · refine give_enter (f := ?_) (args := ?_) ?_ ?_
          rotate_left 2
          · have hSw := hcells'.out wx hC
            go_simp
            all_goals first | with_reducible rfl | (refine ⟨?_, ?_⟩ <;> with_reducible rfl)
          have hcc := KC.out wx A3 _ c3 _ _ _ _ (HQr.out.grow hC) (HDr.out.grow hC)
          exact calls_cst hC hcc
        obtain ⟨⟩ := x
        try simp only [Act.put, List.setIfInBounds_toArray, List.set_cons_zero, List.set_cons_succ]
        refine grow_fix 10 ?_ rfl (by rfl) (by rfl) (fun wx hC hD => ?_) ?_
        rotate_left
        · have hSw := hcells'.out wx hC
          go_simp
          all_goals with_reducible rfl
        try simp only [Act.put, List.setIfInBounds_toArray, List.set_cons_zero, List.set_cons_succ]
        refine grow_fix 11 ?_ rfl (by rfl) (by rfl) (fun wx hC hD => ?_) ?_
        rotate_left
        · have hSw := hcells'.out wx hC
          go_simp
          all_goals with_reducible rfl
        try simp only [Act.put, List.setIfInBounds_toArray, List.set_cons_zero, List.set_cons_succ]
        refine grow_fix 12 ?_ rfl (by rfl) (by rfl) (fun wx hC hD => ?_) ?_
        rotate_left
        · have hSw := hcells'.out wx hC
          go_simp
          all_goals with_reducible rfl
        try simp only [Act.put, List.setIfInBounds_toArray, List.set_cons_zero, List.set_cons_succ]
        refine grow_fix 13 ?_ rfl (by rfl) (by rfl) (fun wx hC hD => ?_) ?_
        rotate_left
        · have hSw := hcells'.out wx hC
          go_simp
          all_goals with_reducible rfl
        try simp only [Act.put, List.setIfInBounds_toArray, List.set_cons_zero, List.set_cons_succ]
        refine grow_fix 14 ?_ rfl (by rfl) (by rfl) (fun wx hC hD => ?_) ?_
        rotate_left
        · have hSw := hcells'.out wx hC
          go_simp
          all_goals with_reducible rfl
        try simp only [Act.put, List.setIfInBounds_toArray, List.set_cons_zero, List.set_cons_succ]
        refine grow_fix 15 ?_ rfl (by rfl) (by rfl) (fun wx hC hD => ?_) ?_
        rotate_left
        · have hSw := hcells'.out wx hC
          go_simp
          all_goals with_reducible rfl
        try simp only [Act.put, List.setIfInBounds_toArray, List.set_cons_zero, List.set_cons_succ]
        refine grow_give 16 _ rfl (by rfl) (by rfl) (fun wx hC hD => ?_) (fun x => ?_)
        · refine give_enter (f := ?_) (args := ?_) ?_ ?_
          rotate_left 2
          · have hSw := hcells'.out wx hC
            go_simp
            all_goals first | with_reducible rfl | (refine ⟨?_, ?_⟩ <;> with_reducible rfl)
          refine (KN.out wx _ _ _ _ (HQr.out.grow hC)).mono ?_
          rintro e w5 ⟨v5, rfl, ho5, hb5⟩
          obtain ⟨A5, c5, rfl, hR5⟩ := own_shape ho5
          exact ⟨_, rfl, hb5, hC.trans (hb5.mono hC.size), (A5, c5), rfl, hR5⟩
        obtain ⟨Y, y⟩ := x
        try simp only [Act.put, List.setIfInBounds_toArray, List.set_cons_zero, List.set_cons_succ]
        refine grow_fix 17 ?_ rfl (by rfl) (by rfl) (fun wx hC hD => ?_) ?_
        rotate_left
        · have hSw := hcells'.out wx hC
          go_simp
          all_goals with_reducible rfl
        try simp only [Act.put, List.setIfInBounds_toArray, List.set_cons_zero, List.set_cons_succ]
        refine grow_give 18 _ rfl (by rfl) (by rfl) (fun wx hC hD => ?_) (fun x => ?_)
        · refine give_enter (f := ?_) (args := ?_) ?_ ?_
          rotate_left 2
          · have hSw := hcells'.out wx hC
            go_simp
            all_goals first | with_reducible rfl | (refine ⟨?_, ?_⟩ <;> with_reducible rfl)
          refine (KO.out wx _ _ _ _ (HQr.out.grow hC)).mono ?_
          rintro e w5 ⟨v5, rfl, ho5, hb5⟩
          obtain ⟨A5, c5, rfl, hR5⟩ := own_shape ho5
          exact ⟨_, rfl, hb5, hC.trans (hb5.mono hC.size), (A5, c5), rfl, hR5⟩
        obtain ⟨Z, z⟩ := x
        try simp only [Act.put, List.setIfInBounds_toArray, List.set_cons_zero, List.set_cons_succ]
        refine grow_give 19 _ rfl (by rfl) (by rfl) (fun wx hC hD => ?_) (fun x => ?_)
        · refine give_enter (f := ?_) (args := ?_) ?_ ?_
          rotate_left 2
          · have hSw := hcells'.out wx hC
            go_simp
            all_goals first | with_reducible rfl | (refine ⟨?_, ?_⟩ <;> with_reducible rfl)
          exact calls_cst hC (sameB_eq Y Z y z nl wx (upd_hit (upd_miss (deps_get hD 15 (by kernel_rfl)) (by decide)) (by decide)) (upd_hit (deps_get hD 17 (by kernel_rfl)) (by decide)) (by have := Hnl.out; omega))
        obtain ⟨⟩ := x
        try simp only [Act.put, List.setIfInBounds_toArray, List.set_cons_zero, List.set_cons_succ]
        refine grow_fix 20 ?_ rfl (by rfl) (by rfl) (fun wx hC hD => ?_) ?_
        rotate_left
        · have hSw := hcells'.out wx hC
          go_simp
          all_goals with_reducible rfl
        try simp only [Act.put, List.setIfInBounds_toArray, List.set_cons_zero, List.set_cons_succ]
        refine grow_fix 21 ?_ rfl (by rfl) (by rfl) (fun wx hC hD => ?_) ?_
        rotate_left
        · have hSw := hcells'.out wx hC
          go_simp
          all_goals with_reducible rfl
        try simp only [Act.put, List.setIfInBounds_toArray, List.set_cons_zero, List.set_cons_succ]
        refine grow_give 22 _ rfl (by rfl) (by rfl) (fun wx hC hD => ?_) (fun x => ?_)
        · refine give_enter (f := ?_) (args := ?_) ?_ ?_
          rotate_left 2
          · have hSw := hcells'.out wx hC
            go_simp
            all_goals first | with_reducible rfl | (refine ⟨?_, ?_⟩ <;> with_reducible rfl)
          exact calls_cst hC (awake_any wx)
        obtain ⟨⟩ := x
        try simp only [Act.put, List.setIfInBounds_toArray, List.set_cons_zero, List.set_cons_succ]
        refine grow_fix 23 ?_ rfl (by rfl) (by rfl) (fun wx hC hD => ?_) ?_
        rotate_left
        · have hSw := hcells'.out wx hC
          go_simp
          all_goals with_reducible rfl
        try simp only [Act.put, List.setIfInBounds_toArray, List.set_cons_zero, List.set_cons_succ]
        refine grow_fix 24 ?_ rfl (by rfl) (by rfl) (fun wx hC hD => ?_) ?_
        rotate_left
        · have hSw := hcells'.out wx hC
          go_simp
          all_goals with_reducible rfl
        try simp only [Act.put, List.setIfInBounds_toArray, List.set_cons_zero, List.set_cons_succ]
        refine grow_nil (fun w5 hC hF => ?_)
        have Hb5 := Lib.hid (Hb4.out.trans ((Hb.out.trans (hC.mono Hb.out.size)).mono Hb4.out.size))
        clear hF hC hcells'
        go_wp2
        go_ret
        exact ⟨rfl, Hb5.out⟩
end Go.Proofs.Ytjfconddkfihcaa.Qy
