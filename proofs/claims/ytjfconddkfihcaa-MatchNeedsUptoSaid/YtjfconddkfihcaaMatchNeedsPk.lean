/- MatchNeeds: the law's walk (printed by gen_matchn.py). -/
import Derived.Test.YtjfconddkfihcaaMatchTellsPk
import Derived.Test.YtjfconddkfihcaaNeedLPk
namespace Go.Proofs.Ytjfconddkfihcaa.Qy
open Go.RowKit Go.Proofs.Ytjfconddkfihcaa Go.Proofs.Ytjfconddkfihcaa.Ut Go.Proofs.Ytjfconddkfihcaa.Tk
set_option maxRecDepth 20000
set_option linter.unusedSimpArgs false

theorem qsz_term (a b : ByteArray) : QSz (.mk 2 a [b] []) := .mk (by simp) (by simp) (fun x hx => by simp at hx)
theorem bsv_get (l : List ByteArray) (k : Nat) (h : k < l.length) : (bsv l)[k]? = some (.string l[k]) := by simp [bsv, List.getElem?_eq_getElem h]
/-- A term's query, made. -/
theorem qat_term {w : World} {g : Nat} (a b : ByteArray) (h : w.cell? ⟨g, 0, none⟩ = some (.string b)) : QAt w w.heap.size (.mk 2 a [b] []) [.int .i64 2, .string a, .slice (some ⟨g, 0, none⟩) 1 1, .slice none 0 0] :=
  .mk [] rfl (reads_one h) rfl rfl (by simp) Reads.none_ (fun i hi => absurd hi (by simp))

set_option maxHeartbeats 12800000 in
theorem matchNeeds_walk (q : Q) (hq : QSz q) (ht : QTx 140737488351232 q) (hwq : wq q ≤ 1048576) (a0 a1 a2 a3 : Value) (A : Option Addr) (n c : Nat) (ds0 : List Dc) (w : World) (hQ : QAt w w.heap.size q [a0, a1, a2, a3]) (hD : DocsAt w w.heap.size A n ds0) (hn : n ≤ 8796093021952)
    (hs : ∀ d ∈ ds0, ∀ f ∈ d.fs, f.1.size ≤ 140737488351232 ∧ f.2.size ≤ 140737488351232) :
    Calls Try.prog 13 #[.agg #[a0, a1, a2, a3], .slice A n c] w fun e w' => e = .returned (.bool true) ∧ Below w.heap.size w w' := by
  have kw := weigh_any q hq
  have kf := fun wx (hb : Below w.heap.size w wx) => fewD_any A n c ds0 wx (hD.grow hb) hn (fun d hd f hf => (hs d hd f hf).2)
  have hsm := fewD_small ds0
  have hfl := fewD_len ds0
  generalize fewD ds0 = ds at *
  have km := fun d (_ : d ∈ ds) => match_any d.fs q hq
  have kn := fun wx a0 a1 a2 a3 (hQ : QAt wx wx.heap.size q [a0, a1, a2, a3]) => needs_any q ht wx a0 a1 a2 a3 hQ hwq
  have hnl := Nat.le_trans (needs_len q) hwq
  have hhit := fun d (_ : d ∈ ds) => needs_hit d.fs q
  obtain ⟨k0, nm, ws, l⟩ := q
  obtain ⟨WA, m, wc, CA, n1, c2, e, _⟩ := hQ.is
  simp only [List.cons.injEq, and_true] at e
  obtain ⟨rfl, rfl, rfl, rfl⟩ := e
  have hb1 : Below w.heap.size w (w.alloc (.cells #[.int .i64 k0, .string nm, .slice WA m wc, .slice CA n1 c2] 37)) := (Below.refl _ _).alloc (Nat.le_refl _) _
  have hB1 := Blk.new w 37 #[.int .i64 k0, .string nm, .slice WA m wc, .slice CA n1 c2]
  have hQ1 := hQ.grow hb1
  have hz1 : w.heap.size < (w.alloc (.cells #[.int .i64 k0, .string nm, .slice WA m wc, .slice CA n1 c2] 37)).heap.size := by simp
  have cw := kw _ _ _ _ _ hQ1
  have HQ1 := Lib.hid hQ1
  have HB1 := Lib.hid hB1
  have Hb1 := Lib.hid hb1
  have KF := Lib.hid kf
  have KM := Lib.hid km
  have KN := Lib.hid kn
  have Hsm := Lib.hid hsm
  have Hnl := Lib.hid hnl
  have Hit := Lib.hid hhit
  clear kw kf km kn hQ hQ1 hB1 hb1 hsm hD hs hq ht hwq hnl hhit
  generalize needs (.mk k0 nm ws l) = nl at *
  go_enter Try.func13, Try.ntmps13
  go_wp2_with fail
  generalize hw1 : w.alloc (.cells #[.int .i64 k0, .string nm, .slice WA m wc, .slice CA n1 c2] 37) = w1 at *
  have Hw1 := Lib.hid hw1
  clear hw1
  refine cw.mono ?_
  rintro e w2 ⟨⟨r, rfl⟩, hb2⟩
  have HB2 := Lib.hid (HB1.out.below hb2 hz1)
  have HQ2 := Lib.hid (HQ1.out.grow hb2)
  have Hb2 := Lib.hid (Hb1.out.trans (hb2.mono Hb1.out.size))
  have hz2 := Nat.lt_of_lt_of_le hz1 hb2.size
  clear cw hb2 HB1 HQ1 Hb1 hz1
  by_cases hr : (300 : Int) < r
  case pos =>
    go_wp2_with fail
    refine (awake_any _).mono ?_
    rintro e w3 ⟨rfl, hb3⟩
    have Hb3 := Lib.hid (Hb2.out.trans (hb3.mono Hb2.out.size))
    clear hb3
    go_wp2
    go_ret
    exact ⟨rfl, Hb3.out⟩
  case neg =>
    go_wp2_with fail
    refine (KF.out w2 Hb2.out).mono ?_
    rintro e w3 ⟨v3, rfl, hO3⟩
    obtain ⟨A3, c3, rfl, hD3⟩ := hO3.read
    have hb3 := hO3.bel
    have HB3 := Lib.hid (HB2.out.below hb3 hz2)
    have HQ3 := Lib.hid (HQ2.out.grow hb3)
    have Hb3 := Lib.hid (Hb2.out.trans (hb3.mono Hb2.out.size))
    have hz3 := Nat.lt_of_lt_of_le hz2 hb3.size
    have HD3 := Lib.hid hD3
    have hc0 := HB3.out.cell 0
    have hc1 := HB3.out.cell 1
    have hc2 := HB3.out.cell 2
    have hc3 := HB3.out.cell 3
    clear hb3 hO3 HB2 HQ2 Hb2 hz2 hD3 KF
    have ce := KN.out w3 _ _ _ _ HQ3.out
    go_wp2_with fail
    refine ce.mono ?_
    rintro e w4 ⟨v4, rfl, hown4, hb4⟩
    obtain ⟨A4, c4, rfl, hR4⟩ := own_shape hown4
    have HR4 := Lib.hid hR4
    have HB4 := Lib.hid (HB3.out.below hb4 hz3)
    have HQ4 := Lib.hid (HQ3.out.grow hb4)
    have Hb4 := Lib.hid (Hb3.out.trans (hb4.mono Hb3.out.size))
    have hz4 := Nat.lt_of_lt_of_le hz3 hb4.size
    have HD4 := Lib.hid (HD3.out.grow hb4)
    clear ce hb4 hR4 hown4 HB3 HQ3 Hb3 hz3 HD3 KN hc0 hc1 hc2 hc3
    go_wp2_with fail
    go_loopw [6] (fun i wr => ∃ k : Nat, k ≤ ds.length ∧ i = .int .i64 k ∧ Below w4.heap.size w4 wr) (fun i _ => ds.length - (intOf i).toNat)
    case atStart => exact ⟨0, Nat.zero_le _, rfl, Below.refl _ _⟩
    case round =>
      obtain ⟨k, hk, rfl, hb⟩ := hrel
      have hQr := HQ4.out.grow hb
      have hBr := HB4.out.below hb hz4
      by_cases hlt : k < ds.length
      · obtain ⟨b1, o1, F1, n5, f1, rfl, hl1, g0, g1, g2, hR1, hln, hfn, _, _⟩ := (HD4.out.grow hb).at_ (i := k) hlt
        have hi0 : (0 : Int) ≤ (k : Int) := by omega
        have hi1 : (k : Int) < (ds.length : Int) := by omega
        have hmem : ds[k] ∈ ds := List.getElem_mem _
        have hev : ∀ wx, Below wr.heap.size wr wx → EvAt wx F1 n5 ds[k].fs := fun wx hC => ev_of (reads_grow hC hR1) hln (Hsm.out _ hmem).1 (Hsm.out _ hmem).2
        have CM : Hid (∀ wx, Below wr.heap.size wr wx → Calls Try.prog 55 #[.agg #[.int .i64 k0, .string nm, .slice WA m wc, .slice CA n1 c2], .agg #[.int .i64 ds[k].at_, .slice F1 n5 f1]] wx fun e w' => e = .returned (.bool (matchB ds[k].fs (.mk k0 nm ws l))) ∧ Below wx.heap.size wx w') := Lib.hid (fun wx hC => KM.out _ hmem wx _ _ _ _ _ F1 n5 f1 (hQr.grow hC) (hev wx hC))
        have hit := Hit.out _ hmem
        have CT : Hid (∀ a b wx g, matchB ds[k].fs (.mk 2 a [b] []) = true → Below wr.heap.size wr wx → wx.cell? ⟨g, 0, none⟩ = some (.string b) → Calls Try.prog 55 #[.agg #[.int .i64 2, .string a, .slice (some ⟨g, 0, none⟩) 1 1, .slice none 0 0], .agg #[.int .i64 ds[k].at_, .slice F1 n5 f1]] wx fun e w' => e = .returned (.bool true) ∧ Below wx.heap.size wx w') := Lib.hid (fun a b wx g ht hC hg => by
          have := match_any ds[k].fs (.mk 2 a [b] []) (qsz_term a b) wx _ _ _ _ ds[k].at_ F1 n5 f1 (qat_term a b hg) (hev wx hC)
          rw [ht] at this
          exact this)
        generalize ds[k].at_ = at_ at *
        generalize matchB ds[k].fs (.mk k0 nm ws l) = ans at *
        have Hit2 : Hid (ans = true → ∀ t ∈ nl, ∃ a b, splitV t = .tuple #[.string a, .string b, .bool true] ∧ t.size ≤ 1000000 ∧ matchB ds[k].fs (.mk 2 a [b] []) = true) := Lib.hid (fun h t hm => by
          obtain ⟨a, b, h1, rfl, h2⟩ := hit h t hm
          exact ⟨a, b, split_termV a b h1, by have := (termV_size a b h1).1; omega, h2⟩)
        clear hit
        generalize ds[k].fs = dfs at *
        have hcells : ∀ wx, Below wr.heap.size wr wx → wx.cell? ⟨b1, o1 + k * 3 + 1, none⟩ = some (.int .i64 at_) ∧ wx.cell? ⟨b1, o1 + k * 3 + 2, none⟩ = some (.slice F1 n5 f1) ∧
            wx.cell? ⟨w.heap.size, 0, none⟩ = some (.int .i64 k0) ∧ wx.cell? ⟨w.heap.size, 1, none⟩ = some (.string nm) ∧ wx.cell? ⟨w.heap.size, 2, none⟩ = some (.slice WA m wc) ∧ wx.cell? ⟨w.heap.size, 3, none⟩ = some (.slice CA n1 c2) := fun wx hC =>
          have hB := hBr.below hC (Nat.lt_of_lt_of_le hz4 hb.size)
          ⟨(hC.cell (p := ⟨b1, o1 + k * 3 + 1, none⟩) hl1).trans g1, (hC.cell (p := ⟨b1, o1 + k * 3 + 2, none⟩) hl1).trans g2, hB.cell 0, hB.cell 1, hB.cell 2, hB.cell 3⟩
        have hcells' := Lib.hid hcells
        have Hb := Lib.hid hb
        have HRr := Lib.hid (reads_grow hb HR4.out)
        clear hcells g0 g1 g2 hR1 hln hev hQr hBr hb hmem hfn
        go_wp2_with fail
        refine wp_region_grow (specOf [(6, ⟨Unit, fun _ => (.bool ans), fun _ _ => True⟩)]) (fun wx => Below (World.heap wr).size wr wx) (fun w1 w2 => Below w1.heap.size w1 w2) (by kernel_rfl) (by kernel_rfl) (stab_cons (fun _ _ _ _ h => h) (stab_nil)) (Below.refl _ _).drew ?_
        refine grow_fix 1 ?_ rfl (by rfl) (by rfl) (fun wx hC hD => ?_) ?_
        rotate_left
        · have hSw := hcells'.out wx hC
          go_simp
          all_goals with_reducible rfl
        try simp only [Act.put, List.setIfInBounds_toArray, List.set_cons_zero, List.set_cons_succ]
        refine grow_fix 2 ?_ rfl (by rfl) (by rfl) (fun wx hC hD => ?_) ?_
        rotate_left
        · have hSw := hcells'.out wx hC
          go_simp
          all_goals with_reducible rfl
        try simp only [Act.put, List.setIfInBounds_toArray, List.set_cons_zero, List.set_cons_succ]
        refine grow_fix 3 ?_ rfl (by rfl) (by rfl) (fun wx hC hD => ?_) ?_
        rotate_left
        · have hSw := hcells'.out wx hC
          go_simp
          all_goals with_reducible rfl
        try simp only [Act.put, List.setIfInBounds_toArray, List.set_cons_zero, List.set_cons_succ]
        refine grow_fix 4 ?_ rfl (by rfl) (by rfl) (fun wx hC hD => ?_) ?_
        rotate_left
        · have hSw := hcells'.out wx hC
          go_simp
          all_goals with_reducible rfl
        try simp only [Act.put, List.setIfInBounds_toArray, List.set_cons_zero, List.set_cons_succ]
        refine grow_fix 5 ?_ rfl (by rfl) (by rfl) (fun wx hC hD => ?_) ?_
        rotate_left
        · have hSw := hcells'.out wx hC
          go_simp
          all_goals with_reducible rfl
        try simp only [Act.put, List.setIfInBounds_toArray, List.set_cons_zero, List.set_cons_succ]
        refine grow_fix 6 ?_ rfl (by rfl) (by rfl) (fun wx hC hD => ?_) ?_
        rotate_left
        · have hSw := hcells'.out wx hC
          go_simp
          all_goals with_reducible rfl
        try simp only [Act.put, List.setIfInBounds_toArray, List.set_cons_zero, List.set_cons_succ]
        refine grow_give 7 _ rfl (by rfl) (by rfl) (fun wx hC hD => ?_) (fun x => ?_)
        · refine give_enter (f := ?_) (args := ?_) ?_ ?_
          rotate_left 2
          · have hSw := hcells'.out wx hC
            go_simp
            all_goals first | with_reducible rfl | (refine ⟨?_, ?_⟩ <;> with_reducible rfl)
          exact calls_cst hC (CM.out wx hC)
        obtain ⟨⟩ := x
        try simp only [Act.put, List.setIfInBounds_toArray, List.set_cons_zero, List.set_cons_succ]
        refine grow_fix 8 ?_ rfl (by rfl) (by rfl) (fun wx hC hD => ?_) ?_
        rotate_left
        · have hSw := hcells'.out wx hC
          go_simp
          all_goals with_reducible rfl
        try simp only [Act.put, List.setIfInBounds_toArray, List.set_cons_zero, List.set_cons_succ]
        refine grow_nil (fun w5 hC hF => ?_)
        have Hb5 := Lib.hid (Hb.out.trans (hC.mono Hb.out.size))
        have Hr5 := Lib.hid hC
        have HR5 := Lib.hid (reads_grow hC HRr.out)
        clear hF CM HRr Hb
        have hcells5 := Lib.hid (fun wx (h : Below w5.heap.size w5 wx) => hcells'.out wx (Hr5.out.trans (h.mono Hr5.out.size)))
        clear hcells' hC
        cases ans
        case false =>
          go_wp2_with fail
          go_roundw
          case rel => exact ⟨k + 1, by omega, by go_num, Hb5.out⟩
          case measure => simp [intOf]; omega
        case true =>
          have Hit3 := Lib.hid (Hit2.out rfl)
          clear Hit2
          go_wp2_with fail
          go_loopw [7] (fun i wz => ∃ j : Nat, j ≤ nl.length ∧ i = .int .i64 j ∧ Below w5.heap.size w5 wz) (fun i _ => nl.length - (intOf i).toNat)
          case atStart => exact ⟨0, Nat.zero_le _, rfl, Below.refl _ _⟩
          case round =>
            obtain ⟨j, hj, rfl, hbq⟩ := hrel
            by_cases hlj : j < nl.length
            · obtain ⟨a, b, hsp, hsz, hmt⟩ := Hit3.out nl[j] (List.getElem_mem _)
              obtain ⟨b4, o4, rfl, hl4, hcc⟩ := (reads_grow hbq HR5.out).2 (by omega)
              have g4 := hcc j _ (bsv_get nl j hlj)
              have cs := split_any nl[j] wr hsz
              rw [hsp] at cs
              have hj1 : (j : Int) < (nl.length : Int) := by omega
              have hnl2 := Hnl.out
              have Hbq := Lib.hid hbq
              clear hbq hcc hsp hsz
              generalize nl[j] = t at *
              go_wp2_with fail
              refine cs.mono ?_
              rintro e w6 ⟨rfl, hb6⟩
              have Hb6 := Lib.hid (Hbq.out.trans (hb6.mono Hbq.out.size))
              clear hb6 cs g4
              have ct := CT.out a b (w6.alloc (.cells #[.string b] 9)) w6.heap.size hmt (Hr5.out.trans ((Hb6.out.mono Hr5.out.size).alloc (Nat.le_trans Hr5.out.size Hb6.out.size) _)) ((Blk.new w6 9 #[.string b]).cell 0)
              obtain ⟨h1, h2, h3, h4, h5, h6⟩ := hcells5.out (w6.alloc (.cells #[.string b] 9)) (Hb6.out.alloc Hb6.out.size _)
              go_wp2_with fail
              refine ct.mono ?_
              rintro e w7 ⟨rfl, hb7⟩
              have Hb7 := Lib.hid (Hb6.out.trans (((Below.refl _ _).alloc (Nat.le_refl _) _ : Below w6.heap.size w6 _).trans (hb7.mono (by simp)) |>.mono Hb6.out.size))
              clear hb7 ct h1 h2 h3 h4 h5 h6
              go_wp2
              refine ⟨?_, ?measure⟩
              · apply Exists.intro
                repeat apply Exists.intro
                refine ⟨?rel, rfl⟩
                exact ⟨j + 1, by omega, by go_num, Hb7.out⟩
              · simp [intOf]; omega
            · have hj1 : ¬ (j : Int) < (nl.length : Int) := by omega
              have Hbq := Lib.hid hbq
              clear hbq
              go_wp2
              go_roundw
              case rel => exact ⟨k + 1, by omega, by go_num, Hb5.out.trans (Hbq.out.mono Hb5.out.size)⟩
              case measure => simp [intOf]; omega
      · have Hb := Lib.hid hb
        clear hQr hBr hb KM
        go_wp2_with fail
        refine (awake_any _).mono ?_
        rintro e w5 ⟨rfl, hb5⟩
        have Hb5 := Lib.hid (Hb4.out.trans ((Hb.out.trans (hb5.mono Hb.out.size)).mono Hb4.out.size))
        clear hb5
        go_wp2
        go_ret
        exact ⟨rfl, Hb5.out⟩
end Go.Proofs.Ytjfconddkfihcaa.Qy
