/- (*memidx.Index).Add: the walk (printed by gen_mxa.py). -/
import Derived.Deep.CutRange
import Derived.Test.YtdloacfoegjnmaaGreatPkGroupIndexesRow25
import Derived.Test.YtdloacfoegjnmaaGreatPkGroupIndexesRow19
namespace Go.Proofs.YtdloacfoegjnmaaGreat.Mx
open Go.RowKit Go.Proofs.YtdloacfoegjnmaaGreat Go.Proofs.YtdloacfoegjnmaaGreat.Ut Go.Proofs.YtdloacfoegjnmaaGreat.Tk Go.Proofs.YtdloacfoegjnmaaGreat.Qy Go.Proofs.YtdloacfoegjnmaaGreat.Ev Go.Proofs.YtdloacfoegjnmaaGreat.Qp Go.Proofs.YtdloacfoegjnmaaGreat.Mv Go.Proofs.YtdloacfoegjnmaaGreat.Ph
set_option linter.unusedVariables false
set_option linter.unusedSimpArgs false
set_option maxRecDepth 1000000

/-- Where nothing is taken. -/
theorem add_not {w w' : World} {n0 X : Nat} {O : Nat → Prop} {ds : List Dc} {seq : Int} {l : List Evn} (h : IxD w n0 X O ds) (hn : n0 ≤ w.heap.size) (hb : Below w.heap.size w w') {x : Int} (hx : addE ds seq l = x) (hne : x ≠ 0) : AddPost w n0 X O ds seq l (.returned (.int .i64 x)) w' := by
  refine ⟨by rw [hx], ?_, Chg.of_new hb⟩
  unfold addD
  rw [if_neg (by rw [hx]; exact hne)]
  obtain ⟨M, cn, v, F, h1, _⟩ := h.ex
  refine h.below hb (fun b hO => .inl hO) (fun b hO => ?_)
  rcases hO with hO | ⟨q1, q2⟩
  · have := h1.lt b hO
    exact ⟨this.1, Nat.lt_of_lt_of_le this.2 hb.size⟩
  · exact ⟨by omega, q2⟩

set_option maxHeartbeats 6400000 in
theorem add_walk (seq : Int) (A : Option Addr) (n c : Nat) (l : List Evn) (n0 X : Nat) (O : Nat → Prop) (ds : List Dc) (w : World) (hI : IxD w n0 X O ds) (hn0 : n0 ≤ w.heap.size) (h : EvsAt w w.heap.size A n c l) :
    Calls Tryz.prog 7 #[.pointer (some ⟨X, 0, none⟩), .agg #[.int .i64 seq, .slice A n c]] w (AddPost w n0 X O ds seq l) := by
  obtain ⟨i0, hi0, hz0, hz1, hz2⟩ := info_parts doc_info
  obtain ⟨j0, hj0, hy0, hy1, hy2⟩ := info_parts post_info
  obtain ⟨M, cn, v, F, hIx, hcn⟩ := hI.ex
  have hl := h.ln
  have hl1 : l.length ≤ n := by omega
  have hl2 : n ≤ l.length := by omega
  have hcap := h.cap
  have hnf := h.few
  have hfew := hI.few
  have hB1 : Below w.heap.size w (w.alloc (.cells #[.int .i64 seq, .slice A n c] 35)) := (Below.refl _ _).alloc (Nat.le_refl _) _
  have hX := (Blk.new w 35 #[.int .i64 seq, .slice A n c])
  have HN : Hid (∀ wx, Below w.heap.size w wx → Idx wx n0 X M cn v F (Ow O w wx) ds (szD ds) (loD ds) (hiD ds) (postsT (ds.map (·.fs)))) := Lib.hid (fun wx hb => hIx.below hb (fun b hO => .inl hO) (fun b hO => by
    rcases hO with hO | ⟨q1, q2⟩
    · have := hIx.lt b hO
      exact ⟨this.1, Nat.lt_of_lt_of_le this.2 hb.size⟩
    · exact ⟨by omega, q2⟩))
  have HE : Hid (∀ wx, Below w.heap.size w wx → EvsAt wx wx.heap.size A n c l) := Lib.hid (fun wx hb => h.grow hb)
  have H := Lib.hid (And.intro hX hB1)
  have HI := Lib.hid hI
  obtain ⟨A8, c8, rfl, _, hc8, hn8, _⟩ : ∃ A8 c8, v = .slice A8 ds.length c8 ∧ True ∧ ds.length ≤ c8 ∧ (A8 = none → c8 = 0) ∧ True := by
    obtain ⟨vss, _, o2, _⟩ := hIx.own
    obtain ⟨A8, c8, e, _, q1, q2, _⟩ := own_shape2 o2
    exact ⟨A8, c8, e, trivial, q1, q2, trivial⟩
  clear hl h hX hB1 hI hIx
  go_enter Tryz.func7, Tryz.ntmps7
  go_wp2_with fail
  refine (none_no (HN.out _ H.out.2)).mono ?_
  rintro e wz ⟨rfl, rfl⟩
  go_wp2_with fail
  refine (checkBatch_any seq A n c l _ (HE.out _ H.out.2)).mono ?_
  rintro e w1 ⟨rfl, hb1⟩
  have H1 : Hid (Blk w1 w.heap.size 35 #[.int .i64 seq, .slice A n c] ∧ Below w.heap.size w w1) := Lib.hid ⟨H.out.1.below hb1 H.out.1.lt, H.out.2.trans (hb1.mono H.out.2.size)⟩
  clear hb1 H
  by_cases hck : chkB seq l = 0
  · have HCK := Lib.hid hck
    rw [hck]
    have hX1 := (HN.out w1 H1.out.2).blk
    have g3 := hX1.cell 3
    have g0 := H1.out.1.cell 0
    have g1 := H1.out.1.cell 1
    simp only [List.getElem?_toArray, List.getElem?_cons_zero, List.getElem?_cons_succ] at g3 g0 g1
    have hok := chkB_ok hck
    have hn64 : n ≤ 64 := by have := hok.2.1; omega
    have hs1 : 1 ≤ seq := hok.2.2.2.2.1
    have hs2 : seq ≤ 1099511627777 := by have := hok.2.2.2.2.2; omega
    clear hck hX1 hok
    go_upto_region 7 with fail
    go_cut [23] from 24 to 40 (fun s23 wx => s23 = .bool (gapB ds seq) ∧ Blk wx w.heap.size 35 #[.int .i64 seq, .slice A n c] ∧ Below w.heap.size w wx)
    case first =>
      rcases List.eq_nil_or_concat ds with hds | ⟨dl, d, hds⟩
      · have hd0 : decide ((0 : Int) < (ds.length : Int)) = false := by rw [hds]; rfl
        have hd0n : decide (0 < ds.length) = false := by rw [hds]; rfl
        have hd1 : (ds.length : Int) ≤ 0 := by rw [hds]; exact Int.le_refl _
        have HGP : Hid (gapB ds seq = false) := Lib.hid (by rw [hds]; rfl)
        clear hds
        go_quiet (fail)
        go_wp2
        go_meet
        exact ⟨by rw [HGP.out], H1.out.1.drewN nq, H1.out.2.trans (below_dn w1 nq)⟩
      · rw [List.concat_eq_append] at hds
        have hlen : ds.length = dl.length + 1 := by rw [hds]; simp
        have hd0 : decide ((0 : Int) < (ds.length : Int)) = true := decide_eq_true (by omega)
        have hd0n : decide (0 < ds.length) = true := decide_eq_true (by omega)
        have hd1 : (ds.length : Int) - 1 = (dl.length : Int) := by omega
        have hd2 : IntKind.i64.wrap (dl.length : Int) = (dl.length : Int) := by rw [IntKind.wrap_i64]; omega
        have hd3 : (0 : Int) ≤ (dl.length : Int) := by omega
        have hd4 : (dl.length : Int) < (ds.length : Int) := by omega
        obtain ⟨g8, Fa, fa, ca, rfl, hg8, k0, rest8⟩ := (HN.out w1 H1.out.2).doc_at (i := dl.length) (by omega)
        clear rest8
        have hdd : ds[dl.length] = d := by simp [hds]
        have hdok := HI.out.ok d (by rw [hds]; simp)
        rw [hdd] at k0
        have hd5 : IntKind.i64.wrap (d.seq + 1) = d.seq + 1 := by rw [IntKind.wrap_i64]; omega
        have HGP : Hid (gapB ds seq = decide (seq ≠ d.seq + 1)) := Lib.hid (by rw [hds]; exact gapB_snoc _ _ _)
        generalize d.seq = dq at *
        clear hds hlen hdd hdok
        by_cases hsq : seq = dq + 1
        · have hsb : (seq != dq + 1) = false := by simpa using hsq
          have HG2 : Hid (gapB ds seq = false) := Lib.hid (by rw [HGP.out]; simpa using hsq)
          clear hsq HGP
          go_quiet (fail)
          go_wp2
          go_meet
          exact ⟨by rw [HG2.out], H1.out.1.drewN nq, H1.out.2.trans (below_dn w1 nq)⟩
        · have hsb : (seq != dq + 1) = true := by simpa using hsq
          have HG2 : Hid (gapB ds seq = true) := Lib.hid (by rw [HGP.out]; simpa using hsq)
          clear hsq HGP
          go_quiet (fail)
          go_wp2
          go_meet
          exact ⟨by rw [HG2.out], H1.out.1.drewN nq, H1.out.2.trans (below_dn w1 nq)⟩
    case rest =>
      obtain ⟨h23, hcX, hcB⟩ := hcut
      have H2 := Lib.hid (And.intro hcX hcB)
      have g0' := H2.out.1.cell 0
      have g1' := H2.out.1.cell 1
      simp only [List.getElem?_toArray, List.getElem?_cons_zero, List.getElem?_cons_succ] at g0' g1'
      clear g0 g1 g3 H1 hcX hcB
      by_cases hgp : gapB ds seq = true
      · rw [hgp] at h23
        subst h23
        have HA : Hid (addE ds seq l = 140) := Lib.hid (addE_gap HCK.out hgp)
        clear hgp
        go_wp2
        go_ret
        exact add_not HI.out hn0 H2.out.2 HA.out (by decide)
      have hgf : gapB ds seq = false := by simpa using hgp
      rw [hgf] at h23
      subst h23
      have HGF := Lib.hid hgf
      clear hgp hgf
      by_cases hmy : 65536 < ds.length + l.length
      · have hmz : (65536 : Int) < (ds.length : Int) + (n : Int) := by omega
        have HA : Hid (addE ds seq l = 3) := Lib.hid (addE_many HCK.out HGF.out hmy)
        go_wp2
        go_ret
        exact add_not HI.out hn0 H2.out.2 HA.out (by decide)
      have hmz : (ds.length : Int) + (n : Int) ≤ 65536 := by omega
      have HGO : Hid (addE ds seq l = 0) := Lib.hid (addE_ok HCK.out HGF.out hmy)
      clear hmy
      rename World => w2
      go_wp2_with fail
      refine (docs_any seq A n c l _ (HE.out _ H2.out.2) HCK.out).mono ?_
      rintro e W1 ⟨vD, rfl, hD, hbD⟩
      obtain ⟨vss0, v0l, v0o, v0d⟩ := hD.ex
      have hD0n : (mkD seq l).length = n := by rw [mkD_len]; omega
      have hn1 : 0 < n := by have := (chkB_ok HCK.out).1; have := List.length_pos_iff.2 this; omega
      obtain ⟨b0, q0, rfl⟩ : ∃ b0 q0, vD = .slice (some ⟨b0, 0, none⟩) (mkD seq l).length q0 := by
        rcases v0o.2 with ⟨_, h0⟩ | ⟨g, cap, cur, hv, _⟩
        · omega
        · exact ⟨g, cap, hv⟩
      have hb0 := v0o.lt b0 rfl
      have hBD := H2.out.2.trans (hbD.mono H2.out.2.size)
      have HTB : Hid (Tg W1 57 b0) := Lib.hid (tg_own v0o rfl)
      have hL0 : AddLoop w W1 W1 n0 X O ds (mkD seq l) b0 0 := ⟨⟨M, cn, _, F, ⟨by rw [List.take_zero, List.append_nil]; exact HN.out W1 hBD, Chg.of_new hBD, rfl, fun e => by
        have h1 := (HN.out w (Below.refl _ _)).oV b0 e
        have h2 := H2.out.2.size
        rcases h1 with h1 | h1
        · have := ((HN.out w (Below.refl _ _)).lt b0 (.inl h1)).2; omega
        · omega, fun b ht => rfl, Nat.le_refl _⟩, by rw [Nat.add_zero]; exact hcn⟩⟩
      have DOC : Hid (∀ (j : Nat) (hj : j < (mkD seq l).length), ∃ Fa fn fc, W1.cell? ⟨b0, j * 3, none⟩ = some (.int .i64 (mkD seq l)[j].seq) ∧ W1.cell? ⟨b0, j * 3 + 1, none⟩ = some (.int .i64 (mkD seq l)[j].at_) ∧ W1.cell? ⟨b0, j * 3 + 2, none⟩ = some (.slice Fa fn fc) ∧ DcS W1 (fun b => Tg W1 89 b) (mkD seq l)[j] [.int .i64 (mkD seq l)[j].seq, .int .i64 (mkD seq l)[j].at_, .slice Fa fn fc]) := Lib.hid (fun j hj => by
        obtain ⟨A, c, e, hS, _, _⟩ := hD.read
        obtain ⟨b, o, Fa, fn, fc, eA, _, c0, c1, c2, r⟩ := hS.at_ hj
        injection e with e1 _ _
        rw [eA] at e1
        injection e1 with e1
        injection e1 with e1 e2
        subst e1 e2
        rw [Nat.zero_add] at c0 c1 c2
        exact ⟨Fa, fn, fc, c0, c1, c2, ⟨Fa, fn, fc, rfl, r.1.mono (fun b hb => hb.2), r.2⟩⟩)
      have HL0 := Lib.hid hL0
      have DOK := Lib.hid (mkD_ok HCK.out)
      have hW1 : W1.heap.size ≤ W1.heap.size := Nat.le_refl _
      have hb0l := hb0.2
      have hw2 := H2.out.2.size
      have hD1 : (mkD seq l).length ≤ n := by omega
      have hD2 : n ≤ (mkD seq l).length := by omega
      have hmany : ds.length + n ≤ 65536 := by omega
      clear hD vss0 v0l v0o v0d hbD hL0 hBD hD0n hb0
      generalize hmk : mkD seq l = D0 at *
      have HMK := Lib.hid hmk
      clear hmk
      go_wp2_with fail
      go_loopw [51] (fun vi wr => ∃ j : Nat, j ≤ n ∧ vi = .int .i64 (j : Nat) ∧ Hid (AddLoop w W1 wr n0 X O ds D0 b0 j)) (fun vi _ => n - (intOf vi).toNat)
      case atStart => exact ⟨0, Nat.zero_le _, rfl, HL0⟩
      case round =>
        clear HL0
        obtain ⟨j, hj, rfl, hL⟩ := hrel
        by_cases hlt : j < n
        · have hjz : (j : Int) < (n : Int) := by omega
          have hjD : j < D0.length := by omega
          obtain ⟨M, cn, v, F, hA, hcn⟩ := hL.out.ex
          obtain ⟨A8, m8, c8, rfl, hm8, hc8, hn8⟩ : ∃ A8 m8 c8, v = .slice A8 m8 c8 ∧ m8 = (ds ++ D0.take j).length ∧ (ds ++ D0.take j).length ≤ c8 ∧ (A8 = none → c8 = 0) := by
            obtain ⟨A8, c8, h1, h2, h3⟩ := hA.ix.docs_v
            exact ⟨A8, _, c8, h1, rfl, h2, h3⟩
          obtain ⟨Fa, fa, ca, q0', q1', q2', hDc⟩ := DOC.out j hjD
          have hdk := DOK.out _ (List.getElem_mem hjD)
          have htk : ds ++ D0.take (j + 1) = (ds ++ D0.take j) ++ [D0[j]] := by rw [List.take_succ_eq_append_getElem hjD, List.append_assoc]
          have hlj : (ds ++ D0.take j).length = ds.length + j := by rw [List.length_append, List.length_take]; omega
          rw [hlj] at hm8
          have HM8 := Lib.hid hm8
          have hm8a : m8 ≤ ds.length + j := by omega
          have hm8b : ds.length + j ≤ m8 := by omega
          clear hm8
          have p0 := (cell_same hA.same (j * 3)).trans q0'
          have p1 := (cell_same hA.same (j * 3 + 1)).trans q1'
          have p2 := (cell_same hA.same (j * 3 + 2)).trans q2'
          have hb0r : b0 < wr.heap.size := by have := hA.le; omega
          have HTK := Lib.hid htk
          have HLJ := Lib.hid hlj
          have HDC := Lib.hid hDc
          have HDJ := Lib.hid hjD
          have hbx := Blk.new wr 57 #[.int .i64 D0[j].seq, .int .i64 D0[j].at_, .slice Fa fa ca]
          have hAx := hA.below ((Below.refl _ wr).alloc (Nat.le_refl _) (.cells #[.int .i64 D0[j].seq, .int .i64 D0[j].at_, .slice Fa fa ca] 57)) hb0r hn0
          have HAX := Lib.hid hAx
          have HBX := Lib.hid hbx
          have hszl := szD_le (ds := ds ++ D0.take j) (fun d hd => by
            rcases List.mem_append.1 hd with hd | hd
            · exact HI.out.ok d hd
            · exact DOK.out d (List.mem_of_mem_take hd))
          rw [hlj] at hszl
          rw [hlj] at hc8
          have HCN := Lib.hid hcn
          have hVB : (Value.slice A8 m8 c8).ownBlock ≠ some wr.heap.size := fun e => by have := (hA.ix.tgV _ e).lt; omega
          clear q0' q1' q2' hDc hA hL htk hlj hbx hAx hcn
          generalize hd : D0[j] = d at *
          have HD := Lib.hid hd
          clear hd
          obtain ⟨dq, da, dfs⟩ := d
          simp only at p0 p1 p2 HBX HAX HDC hdk
          have x3 := HAX.out.ix.blk.cell 3
          have b0c := HBX.out.cell 0
          have b1c := HBX.out.cell 1
          have b2c := HBX.out.cell 2
          simp only [List.getElem?_toArray, List.getElem?_cons_zero, List.getElem?_cons_succ] at x3 b0c b1c b2c
          have HSZ : Hid (IntKind.i64.wrap (((szD (ds ++ D0.take j) : Nat) : Int) + ((szE dfs : Nat) : Int)) = ((szD (ds ++ D0.take (j + 1)) : Nat) : Int)) := Lib.hid (by
            have h1 := szE_le hdk.1
            rw [HTK.out, szD_snoc, IntKind.wrap_i64]
            dsimp only at h1 ⊢
            omega)
          go_upto_if 60 with (fail)
          generalize hwA : wr.alloc (.cells #[.int .i64 dq, .int .i64 da, .slice Fa fa ca] 57) = wA at *
          have HWA := Lib.hid hwA
          trace_state
          clear hwA p0 p1 p2
          go_cut [] from 60 to 74 (fun wx => ∃ z5 e5 z6 lo5 hi5 lo6 hi6 : Int, IntKind.i64.wrap (z5 + e5) = z6 ∧ e5 = (szE dfs : Nat) ∧ z6 = (szD (ds ++ D0.take (j + 1)) : Nat) ∧ AddAt w W1 wx n0 X O ds D0 b0 j M cn (.slice A8 m8 c8) F z5 lo5 hi5 (postsT ((ds ++ D0.take j).map (·.fs))) ∧ min lo5 da = lo6 ∧ max hi5 da = hi6 ∧ lo6 = loD (ds ++ D0.take (j + 1)) ∧ hi6 = hiD (ds ++ D0.take (j + 1)) ∧ Blk wx wr.heap.size 57 #[.int .i64 dq, .int .i64 da, .slice Fa fa ca] ∧ X ≠ wr.heap.size)
          case first =>
           rcases Nat.eq_zero_or_pos (ds.length + j) with hz | hz
           case inl =>
            have hzz : (m8 : Int) = 0 := by omega
            have hzb : ((m8 : Int) == 0) = true := by simpa using hzz
            have hzn : (m8 == 0) = true := beq_iff_eq.2 (by omega)
            have hnil : ds ++ D0.take j = [] := List.length_eq_zero_iff.1 (by rw [HLJ.out]; exact hz)
            have HNL := Lib.hid hnil
            clear hzz hnil
            go_wp2_with fail
            have x1c := HAX.out.ix.blk.cell 1
            have x2c := HAX.out.ix.blk.cell 2
            have x1f := HAX.out.ix.blk.frozen 1
            have x2f := HAX.out.ix.blk.frozen 2
            simp only [List.getElem?_toArray, List.getElem?_cons_zero, List.getElem?_cons_succ] at x1c x2c
            have hXB : X ≠ wr.heap.size := fun e => absurd ((HAX.out.ix.tgX).one (e ▸ ⟨_, _, HBX.out⟩ : Tg wA 57 X)) (by decide)
            refine wp_region_ph_tail 15 (specOf [(11, ⟨Unit, fun _ => undef, fun _ wx => wx = wA.drew.setCell ⟨X, 1, none⟩ (.int .i64 da)⟩)]) (fun wx => wx.cell? ⟨wr.heap.size, 1, none⟩ = some (.int .i64 da)) (fun wx => wx = wA.drew) (by kernel_rfl) (by kernel_rfl) (turns_of (by kernel_rfl)) b1c rfl ?_
            refine ph_fix 1 ?_ rfl (by rfl) (by rfl) (fun wx hC => ?_) ?_
            rotate_left
            · have q1 := hC
              go_simp
              all_goals with_reducible rfl
            try simp only [Act.put, List.setIfInBounds_toArray, List.set_cons_zero, List.set_cons_succ]
            refine ph_fix 2 ?_ rfl (by rfl) (by rfl) (fun wx hC => ?_) ?_
            rotate_left
            · have q1 := hC
              go_simp
              all_goals with_reducible rfl
            try simp only [Act.put, List.setIfInBounds_toArray, List.set_cons_zero, List.set_cons_succ]
            refine ph_fix 3 ?_ rfl (by rfl) (by rfl) (fun wx hC => ?_) ?_
            rotate_left
            · have q1 := hC
              go_simp
              all_goals with_reducible rfl
            try simp only [Act.put, List.setIfInBounds_toArray, List.set_cons_zero, List.set_cons_succ]
            refine ph_fix 4 ?_ rfl (by rfl) (by rfl) (fun wx hC => ?_) ?_
            rotate_left
            · have q1 := hC
              go_simp
              all_goals with_reducible rfl
            try simp only [Act.put, List.setIfInBounds_toArray, List.set_cons_zero, List.set_cons_succ]
            refine ph_fix 5 ?_ rfl (by rfl) (by rfl) (fun wx hC => ?_) ?_
            rotate_left
            · have q1 := hC
              go_simp
              all_goals with_reducible rfl
            try simp only [Act.put, List.setIfInBounds_toArray, List.set_cons_zero, List.set_cons_succ]
            refine ph_fix 6 ?_ rfl (by rfl) (by rfl) (fun wx hC => ?_) ?_
            rotate_left
            · have q1 := hC
              go_simp
              all_goals with_reducible rfl
            try simp only [Act.put, List.setIfInBounds_toArray, List.set_cons_zero, List.set_cons_succ]
            refine ph_fix 7 ?_ rfl (by rfl) (by rfl) (fun wx hC => ?_) ?_
            rotate_left
            · have q1 := hC
              go_simp
              all_goals with_reducible rfl
            try simp only [Act.put, List.setIfInBounds_toArray, List.set_cons_zero, List.set_cons_succ]
            refine ph_fix 8 ?_ rfl (by rfl) (by rfl) (fun wx hC => ?_) ?_
            rotate_left
            · have q1 := hC
              go_simp
              all_goals with_reducible rfl
            try simp only [Act.put, List.setIfInBounds_toArray, List.set_cons_zero, List.set_cons_succ]
            refine ph_fix 9 ?_ rfl (by rfl) (by rfl) (fun wx hC => ?_) ?_
            rotate_left
            · have q1 := hC
              go_simp
              all_goals with_reducible rfl
            try simp only [Act.put, List.setIfInBounds_toArray, List.set_cons_zero, List.set_cons_succ]
            refine ph_fix 10 ?_ rfl (by rfl) (by rfl) (fun wx hC => ?_) ?_
            rotate_left
            · have q1 := hC
              go_simp
              all_goals with_reducible rfl
            try simp only [Act.put, List.setIfInBounds_toArray, List.set_cons_zero, List.set_cons_succ]
            refine ph_fix 11 ?_ rfl (by rfl) (by rfl) (fun wx hC => ?_) ?_
            rotate_left
            · have q1 := hC
              go_simp
              all_goals with_reducible rfl
            try simp only [Act.put, List.setIfInBounds_toArray, List.set_cons_zero, List.set_cons_succ]
            refine ph_give 12 _ rfl (by rfl) (by rfl) (fun wx hC hI => ?_) (fun x => ?_)
            · subst hI
              have q1 : wA.drew.cell? ⟨X, 1, none⟩ = _ := x1c
              have q2 : wA.drew.frozen? ⟨X, 1, none⟩ = false := x1f
              refine give_skip (w' := wA.drew.setCell ⟨X, 1, none⟩ (.int .i64 da)) ?_ trivial ?_
              · go_simp
                all_goals with_reducible rfl
              · exact ⟨(World.cell?_setCell_other _ _ _ _ (fun e => hXB (by injection e))).trans hC, (), rfl, rfl⟩
            try simp only [Act.put, List.setIfInBounds_toArray, List.set_cons_zero, List.set_cons_succ]
            refine ph_fix 13 ?_ rfl (by rfl) (by rfl) (fun wx hC => ?_) ?_
            rotate_left
            · have q1 := hC
              go_simp
              all_goals with_reducible rfl
            try simp only [Act.put, List.setIfInBounds_toArray, List.set_cons_zero, List.set_cons_succ]
            refine ph_fix 14 ?_ rfl (by rfl) (by rfl) (fun wx hC => ?_) ?_
            rotate_left
            · have q1 := hC
              go_simp
              all_goals with_reducible rfl
            try simp only [Act.put, List.setIfInBounds_toArray, List.set_cons_zero, List.set_cons_succ]
            refine ph_fix 15 ?_ rfl (by rfl) (by rfl) (fun wx hC => ?_) ?_
            rotate_left
            · have q1 := hC
              go_simp
              all_goals with_reducible rfl
            try simp only [Act.put, List.setIfInBounds_toArray, List.set_cons_zero, List.set_cons_succ]
            refine ph_nil (fun wx hC hI => ?_)
            have q1 : wx.cell? ⟨X, 2, none⟩ = some (.int .i64 (hiD (ds ++ D0.take j))) := by rw [hI]; exact (World.cell?_setCell_other _ _ _ _ (fun e => by injection e with _ e; cases e)).trans x2c
            have q2 : wx.frozen? ⟨X, 2, none⟩ = false := by rw [hI]; exact (World.frozen?_setCell _ _ _ _).trans x2f
            have HWX := Lib.hid hI
            clear x1c x2c x1f x2f hI hC
            go_wp2_with fail
            go_meet
            have hwx := HWX.out
            subst hwx
            refine ⟨(szD (ds ++ D0.take j) : Nat), (szE dfs : Nat), (szD (ds ++ D0.take (j + 1)) : Nat), da, da, da, da, HSZ.out, rfl, rfl, HAX.out.nums HTB.out ((((grow_of_below (Below.refl _ wA).drew (some X))).trans (grownBy_setC _ X 1 _)).trans (grownBy_setC _ X 2 _)) ?_ (by simp), by simp, by simp, ?_, ?_, (HBX.out.drew.far (Ne.symm hXB) _).far (Ne.symm hXB) _, hXB⟩
            · have := ((HAX.out.ix.blk.drew).set_ 1 (.int .i64 da)).set_ 2 (.int .i64 da)
              simpa using this
            · rw [HTK.out, loD_snoc, if_pos HNL.out]
            · rw [HTK.out, hiD_snoc, if_pos HNL.out]
           case inr =>
            have hzz : (m8 : Int) ≠ 0 := by omega
            have hzb : ((m8 : Int) == 0) = false := by simpa using hzz
            have hzn : (m8 == 0) = false := beq_eq_false_iff_ne.2 (by omega)
            have hnil : ds ++ D0.take j ≠ [] := fun e => by
              have := congrArg List.length e
              rw [HLJ.out] at this
              simp only [List.length_nil] at this
              omega
            have HNL := Lib.hid hnil
            clear hzz hnil
            go_wp2_with fail
            go_meet
            have hXB : X ≠ wr.heap.size := fun e => absurd ((HAX.out.ix.tgX).one (e ▸ ⟨_, _, HBX.out⟩ : Tg wA 57 X)) (by decide)
            refine ⟨(szD (ds ++ D0.take j) : Nat), (szE dfs : Nat), (szD (ds ++ D0.take (j + 1)) : Nat), _, _, _, _, HSZ.out, rfl, rfl, HAX.out, rfl, rfl, ?_, ?_, HBX.out, hXB⟩
            · rw [HTK.out, loD_snoc, if_neg HNL.out]
            · rw [HTK.out, hiD_snoc, if_neg HNL.out]
          case rest =>
            obtain ⟨z5, e5, z6, lo5, hi5, lo6, hi6, hz6, he5, hz6e, hAB, hmin, hmax, hlo6, hhi6, hBB, hXB⟩ := hcut
            have HE5 := Lib.hid he5
            have HZ6 := Lib.hid hz6e
            have HWZ := Lib.hid hz6
            clear x3 b0c b1c b2c HWA HAX HBX
            have HAB := Lib.hid hAB
            have HBB := Lib.hid hBB
            have HLO := Lib.hid hlo6
            have HHI := Lib.hid hhi6
            clear hAB hBB hlo6 hhi6 he5 hz6e hz6
            rename World => wB
            have y1 := HAB.out.ix.blk.cell 1
            have y2 := HAB.out.ix.blk.cell 2
            have y1f := HAB.out.ix.blk.frozen 1
            have y2f := HAB.out.ix.blk.frozen 2
            have b1c := HBB.out.cell 1
            simp only [List.getElem?_toArray, List.getElem?_cons_zero, List.getElem?_cons_succ] at y1 y2 b1c
            go_upto_region 16 with fail
            refine wp_region_ph_tail 27 (specOf [(6, ⟨Unit, fun _ => .int .i64 lo5, fun _ wx => wx = wB.drew⟩), (23, ⟨Unit, fun _ => undef, fun _ wx => wx = wB.drew.setCell ⟨X, 1, none⟩ (.int .i64 lo6)⟩)]) (fun wx => wx.cell? ⟨wr.heap.size, 1, none⟩ = some (.int .i64 da) ∧ wx.cell? ⟨X, 2, none⟩ = some (.int .i64 hi5)) (fun wx => wx = wB.drew) (by kernel_rfl) (by kernel_rfl) (turns_of (by kernel_rfl)) ⟨b1c, y2⟩ rfl ?_
            refine ph_fix 1 ?_ rfl (by rfl) (by rfl) (fun wx hC => ?_) ?_
            rotate_left
            · have q1 := hC.1
              go_simp
              all_goals with_reducible rfl
            try simp only [Act.put, List.setIfInBounds_toArray, List.set_cons_zero, List.set_cons_succ]
            refine ph_fix 2 ?_ rfl (by rfl) (by rfl) (fun wx hC => ?_) ?_
            rotate_left
            · have q1 := hC.1
              go_simp
              all_goals with_reducible rfl
            try simp only [Act.put, List.setIfInBounds_toArray, List.set_cons_zero, List.set_cons_succ]
            refine ph_fix 3 ?_ rfl (by rfl) (by rfl) (fun wx hC => ?_) ?_
            rotate_left
            · have q1 := hC.1
              go_simp
              all_goals with_reducible rfl
            try simp only [Act.put, List.setIfInBounds_toArray, List.set_cons_zero, List.set_cons_succ]
            refine ph_fix 4 ?_ rfl (by rfl) (by rfl) (fun wx hC => ?_) ?_
            rotate_left
            · have q1 := hC.1
              go_simp
              all_goals with_reducible rfl
            try simp only [Act.put, List.setIfInBounds_toArray, List.set_cons_zero, List.set_cons_succ]
            refine ph_fix 5 ?_ rfl (by rfl) (by rfl) (fun wx hC => ?_) ?_
            rotate_left
            · have q1 := hC.1
              go_simp
              all_goals with_reducible rfl
            try simp only [Act.put, List.setIfInBounds_toArray, List.set_cons_zero, List.set_cons_succ]
            refine ph_fix 6 ?_ rfl (by rfl) (by rfl) (fun wx hC => ?_) ?_
            rotate_left
            · have q1 := hC.1
              go_simp
              all_goals with_reducible rfl
            try simp only [Act.put, List.setIfInBounds_toArray, List.set_cons_zero, List.set_cons_succ]
            refine ph_give 7 _ rfl (by rfl) (by rfl) (fun wx hC hI => ?_) (fun x => ?_)
            · subst hI
              have q1 : wB.drew.cell? ⟨X, 1, none⟩ = _ := y1
              refine give_value (u := ?_) (w' := ?_) ?_ trivial ?_
              rotate_left 2
              · go_simp
                all_goals first | with_reducible rfl | (refine ⟨?_, ?_⟩ <;> with_reducible rfl)
              · exact ⟨hC, (), rfl, rfl⟩
            try simp only [Act.put, List.setIfInBounds_toArray, List.set_cons_zero, List.set_cons_succ]
            refine ph_fix 8 ?_ rfl (by rfl) (by rfl) (fun wx hC => ?_) ?_
            rotate_left
            · have q1 := hC.1; have q2 := hC.2
              go_simp
              all_goals with_reducible rfl
            try simp only [Act.put, List.setIfInBounds_toArray, List.set_cons_zero, List.set_cons_succ]
            refine ph_fix 9 ?_ rfl (by rfl) (by rfl) (fun wx hC => ?_) ?_
            rotate_left
            · have q1 := hC.1; have q2 := hC.2
              go_simp
              all_goals with_reducible rfl
            try simp only [Act.put, List.setIfInBounds_toArray, List.set_cons_zero, List.set_cons_succ]
            refine ph_fix 10 ?_ rfl (by rfl) (by rfl) (fun wx hC => ?_) ?_
            rotate_left
            · have q1 := hC.1; have q2 := hC.2
              go_simp
              all_goals with_reducible rfl
            try simp only [Act.put, List.setIfInBounds_toArray, List.set_cons_zero, List.set_cons_succ]
            refine ph_fix 11 ?_ rfl (by rfl) (by rfl) (fun wx hC => ?_) ?_
            rotate_left
            · have q1 := hC.1; have q2 := hC.2
              go_simp
              all_goals with_reducible rfl
            try simp only [Act.put, List.setIfInBounds_toArray, List.set_cons_zero, List.set_cons_succ]
            refine ph_fix 12 ?_ rfl (by rfl) (by rfl) (fun wx hC => ?_) ?_
            rotate_left
            · have q1 := hC.1; have q2 := hC.2
              go_simp
              all_goals with_reducible rfl
            try simp only [Act.put, List.setIfInBounds_toArray, List.set_cons_zero, List.set_cons_succ]
            refine ph_fix 13 ?_ rfl (by rfl) (by rfl) (fun wx hC => ?_) ?_
            rotate_left
            · have q1 := hC.1; have q2 := hC.2
              go_simp
              all_goals with_reducible rfl
            try simp only [Act.put, List.setIfInBounds_toArray, List.set_cons_zero, List.set_cons_succ]
            refine ph_fix 14 ?_ rfl (by rfl) (by rfl) (fun wx hC => ?_) ?_
            rotate_left
            · have q1 := hC.1; have q2 := hC.2
              go_simp
              all_goals with_reducible rfl
            try simp only [Act.put, List.setIfInBounds_toArray, List.set_cons_zero, List.set_cons_succ]
            refine ph_fix 15 ?_ rfl (by rfl) (by rfl) (fun wx hC => ?_) ?_
            rotate_left
            · have q1 := hC.1; have q2 := hC.2
              go_simp
              all_goals with_reducible rfl
            try simp only [Act.put, List.setIfInBounds_toArray, List.set_cons_zero, List.set_cons_succ]
            refine ph_fix 16 ?_ rfl (by rfl) (by rfl) (fun wx hC => ?_) ?_
            rotate_left
            · have q1 := hC.1; have q2 := hC.2
              go_simp
              all_goals with_reducible rfl
            try simp only [Act.put, List.setIfInBounds_toArray, List.set_cons_zero, List.set_cons_succ]
            refine ph_fix 17 ?_ rfl (by rfl) (by rfl) (fun wx hC => ?_) ?_
            rotate_left
            · have q1 := hC.1; have q2 := hC.2
              go_simp
              all_goals with_reducible rfl
            try simp only [Act.put, List.setIfInBounds_toArray, List.set_cons_zero, List.set_cons_succ]
            refine ph_fix 18 ?_ rfl (by rfl) (by rfl) (fun wx hC => ?_) ?_
            rotate_left
            · have q1 := hC.1; have q2 := hC.2
              go_simp
              all_goals with_reducible rfl
            try simp only [Act.put, List.setIfInBounds_toArray, List.set_cons_zero, List.set_cons_succ]
            refine ph_fix 19 ?_ rfl (by rfl) (by rfl) (fun wx hC => ?_) ?_
            rotate_left
            · have q1 := hC.1; have q2 := hC.2
              go_simp
              all_goals with_reducible rfl
            try simp only [Act.put, List.setIfInBounds_toArray, List.set_cons_zero, List.set_cons_succ]
            refine ph_fix 20 ?_ rfl (by rfl) (by rfl) (fun wx hC => ?_) ?_
            rotate_left
            · have q1 := hC.1; have q2 := hC.2
              go_simp
              all_goals with_reducible rfl
            try simp only [Act.put, List.setIfInBounds_toArray, List.set_cons_zero, List.set_cons_succ]
            refine ph_fix 21 ?_ rfl (by rfl) (by rfl) (fun wx hC => ?_) ?_
            rotate_left
            · have q1 := hC.1; have q2 := hC.2
              go_simp
              all_goals with_reducible rfl
            try simp only [Act.put, List.setIfInBounds_toArray, List.set_cons_zero, List.set_cons_succ]
            refine ph_fix 22 ?_ rfl (by rfl) (by rfl) (fun wx hC => ?_) ?_
            rotate_left
            · have q1 := hC.1; have q2 := hC.2
              go_simp
              all_goals with_reducible rfl
            try simp only [Act.put, List.setIfInBounds_toArray, List.set_cons_zero, List.set_cons_succ]
            refine ph_fix 23 ?_ rfl (by rfl) (by rfl) (fun wx hC => ?_) ?_
            rotate_left
            · have q1 := hC.1; have q2 := hC.2
              go_simp
              all_goals with_reducible rfl
            try simp only [Act.put, List.setIfInBounds_toArray, List.set_cons_zero, List.set_cons_succ]
            refine ph_give 24 _ rfl (by rfl) (by rfl) (fun wx hC hI => ?_) (fun x => ?_)
            · subst hI
              have q1 : wB.drew.cell? ⟨X, 1, none⟩ = _ := y1
              have q2 : wB.drew.frozen? ⟨X, 1, none⟩ = false := y1f
              refine give_skip (w' := wB.drew.setCell ⟨X, 1, none⟩ (.int .i64 lo6)) ?_ trivial ?_
              · go_simp
                all_goals with_reducible rfl
              · exact ⟨⟨(World.cell?_setCell_other _ _ _ _ (fun e => hXB (by injection e))).trans hC.1, (World.cell?_setCell_other _ _ _ _ (fun e => by injection e with _ e; cases e)).trans hC.2⟩, (), rfl, rfl⟩
            try simp only [Act.put, List.setIfInBounds_toArray, List.set_cons_zero, List.set_cons_succ]
            refine ph_fix 25 ?_ rfl (by rfl) (by rfl) (fun wx hC => ?_) ?_
            rotate_left
            · have q1 := hC.1
              go_simp
              all_goals with_reducible rfl
            try simp only [Act.put, List.setIfInBounds_toArray, List.set_cons_zero, List.set_cons_succ]
            refine ph_fix 26 ?_ rfl (by rfl) (by rfl) (fun wx hC => ?_) ?_
            rotate_left
            · have q1 := hC.1
              go_simp
              all_goals with_reducible rfl
            try simp only [Act.put, List.setIfInBounds_toArray, List.set_cons_zero, List.set_cons_succ]
            refine ph_fix 27 ?_ rfl (by rfl) (by rfl) (fun wx hC => ?_) ?_
            rotate_left
            · have q1 := hC.1
              go_simp
              all_goals with_reducible rfl
            try simp only [Act.put, List.setIfInBounds_toArray, List.set_cons_zero, List.set_cons_succ]
            refine ph_nil (fun wx hC hI => ?_)
            have q2 : wx.cell? ⟨X, 2, none⟩ = some (.int .i64 hi5) := hC.2
            have q2f : wx.frozen? ⟨X, 2, none⟩ = false := by rw [hI]; exact (World.frozen?_setCell _ _ _ _).trans y2f
            have HWX := Lib.hid hI
            clear hI hC y1 y2 y1f y2f b1c
            go_upto_region 17 with fail
            clear q2 q2f hmin hmax
            have hAC : AddAt w W1 (wx.setCell ⟨X, 2, none⟩ (.int .i64 hi6)) n0 X O ds D0 b0 j M cn (.slice A8 m8 c8) F z5 lo6 hi6 (postsT ((ds ++ D0.take j).map (·.fs))) := by
              have e := HWX.out
              subst e
              refine HAB.out.nums HTB.out ((((grow_of_below (Below.refl _ wB).drew (some X))).trans (grownBy_setC _ X 1 _)).trans (grownBy_setC _ X 2 _)) ?_ (by simp)
              have := ((HAB.out.ix.blk.drew).set_ 1 (.int .i64 lo6)).set_ 2 (.int .i64 hi6)
              simpa using this
            have hBC : Blk (wx.setCell ⟨X, 2, none⟩ (.int .i64 hi6)) wr.heap.size 57 #[.int .i64 dq, .int .i64 da, .slice Fa fa ca] := by
              have e := HWX.out
              subst e
              exact (HBB.out.drew.far (Ne.symm hXB) _).far (Ne.symm hXB) _
            clear HAB HBB HWX
            generalize (wx.setCell ⟨X, 2, none⟩ (.int .i64 hi6)) = wC at *
            have hb0C : b0 < wC.heap.size := by have := hAC.le; omega
            have Hcells : Hid (∀ wx, Below wC.heap.size wC wx → wx.cell? ⟨X, 0, none⟩ = some (.int .i64 z5) ∧ wx.cell? ⟨wr.heap.size, 1, none⟩ = some (.int .i64 da) ∧ wx.cell? ⟨wr.heap.size, 2, none⟩ = some (.slice Fa fa ca)) := Lib.hid (fun wx hb => by
              have k0 := (hAC.ix.blk.below hb hAC.ix.blk.lt).cell 0
              have k1 := (hBC.below hb hBC.lt).cell 1
              have k2 := (hBC.below hb hBC.lt).cell 2
              simp only [List.getElem?_toArray, List.getElem?_cons_zero, List.getElem?_cons_succ] at k0 k1 k2
              exact ⟨k0, k1, k2⟩)
            have HFL : Hid (∀ {wx : World} {sz lo hi : Int} {f : ByteArray → List Po} {F : ByteArray → Option Value} {v : Value} {cn : Nat}, AddAt w W1 wx n0 X O ds D0 b0 j M cn v F sz lo hi f → FlAt wx wx.heap.size Fa fa ca dfs) := Lib.hid (fun h => dcs_fl (d := ⟨dq, da, dfs⟩) (HDC.out.same (S' := fun b => Tg _ 89 b) (fun b hb => ⟨hb.same (h.fld b hb), h.fld b hb⟩)) (fun b hb => hb.lt) hdk.1)
            have SZ : Hid (∀ wx, Below wC.heap.size wC wx → Calls Tryz.prog 21 #[.agg #[.int .i64 da, .slice Fa fa ca]] wx fun e w' => e = .returned (.int .i64 e5) ∧ Below wx.heap.size wx w') := Lib.hid (fun wx hb => by
              have := size_any da Fa fa ca dfs wx (HFL.out (hAC.below hb hb0C hn0)) hdk.1
              rw [HE5.out]
              exact this)
            have HAC := Lib.hid hAC
            have HBC := Lib.hid hBC
            clear hAC hBC
            refine wp_region_grow_tail 12 (specOf [(7, ⟨Unit, fun _ => .int .i64 e5, fun _ _ => True⟩)]) (fun wx => Below wC.heap.size wC wx) (fun w1 w2 => Below w1.heap.size w1 w2) (by kernel_rfl) (by kernel_rfl) (stab_cons (fun x w1 w2 hg h => trivial) (stab_nil)) ((Below.refl _ _).drew) ?_
            simp only [List.take_succ_cons, List.take_zero, List.drop_succ_cons, List.drop_zero]
            refine grow_fix 1 ?_ rfl (by rfl) (by rfl) (fun wx hC hD => ?_) ?_
            rotate_left
            · have hSw := Hcells.out wx hC
              go_simp
              all_goals with_reducible rfl
            try simp only [Act.put, List.setIfInBounds_toArray, List.set_cons_zero, List.set_cons_succ]
            refine grow_fix 2 ?_ rfl (by rfl) (by rfl) (fun wx hC hD => ?_) ?_
            rotate_left
            · have hSw := Hcells.out wx hC
              go_simp
              all_goals with_reducible rfl
            try simp only [Act.put, List.setIfInBounds_toArray, List.set_cons_zero, List.set_cons_succ]
            refine grow_fix 3 ?_ rfl (by rfl) (by rfl) (fun wx hC hD => ?_) ?_
            rotate_left
            · have hSw := Hcells.out wx hC
              go_simp
              all_goals with_reducible rfl
            try simp only [Act.put, List.setIfInBounds_toArray, List.set_cons_zero, List.set_cons_succ]
            refine grow_fix 4 ?_ rfl (by rfl) (by rfl) (fun wx hC hD => ?_) ?_
            rotate_left
            · have hSw := Hcells.out wx hC
              go_simp
              all_goals with_reducible rfl
            try simp only [Act.put, List.setIfInBounds_toArray, List.set_cons_zero, List.set_cons_succ]
            refine grow_fix 5 ?_ rfl (by rfl) (by rfl) (fun wx hC hD => ?_) ?_
            rotate_left
            · have hSw := Hcells.out wx hC
              go_simp
              all_goals with_reducible rfl
            try simp only [Act.put, List.setIfInBounds_toArray, List.set_cons_zero, List.set_cons_succ]
            refine grow_fix 6 ?_ rfl (by rfl) (by rfl) (fun wx hC hD => ?_) ?_
            rotate_left
            · have hSw := Hcells.out wx hC
              go_simp
              all_goals with_reducible rfl
            try simp only [Act.put, List.setIfInBounds_toArray, List.set_cons_zero, List.set_cons_succ]
            refine grow_fix 7 ?_ rfl (by rfl) (by rfl) (fun wx hC hD => ?_) ?_
            rotate_left
            · have hSw := Hcells.out wx hC
              go_simp
              all_goals with_reducible rfl
            try simp only [Act.put, List.setIfInBounds_toArray, List.set_cons_zero, List.set_cons_succ]
            refine grow_give 8 _ rfl (by rfl) (by rfl) (fun wx hC hD => ?_) (fun x => ?_)
            · refine give_enter (f := ?_) (args := ?_) ?_ ?_
              rotate_left 2
              · have hSw := Hcells.out wx hC
                go_simp
                all_goals first | with_reducible rfl | (refine ⟨?_, ?_⟩ <;> with_reducible rfl)
              refine (SZ.out wx hC).mono ?_
              rintro e w9 ⟨rfl, hb9⟩
              exact ⟨_, rfl, hb9, hC.trans (hb9.mono hC.size), (), rfl, trivial⟩
            obtain ⟨⟩ := x
            try simp only [Act.put, List.setIfInBounds_toArray, List.set_cons_zero, List.set_cons_succ]
            refine grow_fix 9 ?_ rfl (by rfl) (by rfl) (fun wx hC hD => ?_) ?_
            rotate_left
            · have HZW := HWZ.out
              have hSw := Hcells.out wx hC
              go_simp
              all_goals with_reducible rfl
            try simp only [Act.put, List.setIfInBounds_toArray, List.set_cons_zero, List.set_cons_succ]
            refine grow_fix 10 ?_ rfl (by rfl) (by rfl) (fun wx hC hD => ?_) ?_
            rotate_left
            · have hSw := Hcells.out wx hC
              go_simp
              all_goals with_reducible rfl
            try simp only [Act.put, List.setIfInBounds_toArray, List.set_cons_zero, List.set_cons_succ]
            refine grow_fix 11 ?_ rfl (by rfl) (by rfl) (fun wx hC hD => ?_) ?_
            rotate_left
            · have hSw := Hcells.out wx hC
              go_simp
              all_goals with_reducible rfl
            try simp only [Act.put, List.setIfInBounds_toArray, List.set_cons_zero, List.set_cons_succ]
            refine grow_fix 12 ?_ rfl (by rfl) (by rfl) (fun wx hC hD => ?_) ?_
            rotate_left
            · have hSw := Hcells.out wx hC
              go_simp
              all_goals with_reducible rfl
            try simp only [Act.put, List.setIfInBounds_toArray, List.set_cons_zero, List.set_cons_succ]
            refine grow_nil (fun w6 hC hF => ?_)
            have HZW := HWZ.out
            have k0 := (Hcells.out w6 hC).1
            have k0f := (HAC.out.ix.blk.below hC HAC.out.ix.blk.lt).frozen 0
            clear hF
            have HC6 := Lib.hid hC
            clear hC
            go_upto_region 18 with fail
            clear k0 k0f HZW
            have hAD : AddAt w W1 (w6.setCell ⟨X, 0, none⟩ (.int .i64 z6)) n0 X O ds D0 b0 j M cn (.slice A8 m8 c8) F z6 lo6 hi6 (postsT ((ds ++ D0.take j).map (·.fs))) := by
              have h6 := HAC.out.below HC6.out hb0C hn0
              refine h6.nums HTB.out (grownBy_setC _ X 0 _) ?_ (by simp)
              have := h6.ix.blk.set_ 0 (.int .i64 z6)
              simpa using this
            have hBD : Blk (w6.setCell ⟨X, 0, none⟩ (.int .i64 z6)) wr.heap.size 57 #[.int .i64 dq, .int .i64 da, .slice Fa fa ca] := (HBC.out.below HC6.out HBC.out.lt).far (Ne.symm hXB) _
            clear HAC HBC HC6 Hcells SZ HWZ hb0C
            generalize (w6.setCell ⟨X, 0, none⟩ (.int .i64 z6)) = wD at *
            have hb0D : b0 < wD.heap.size := by have := hAD.le; omega
            have k1 := hBD.cell 1
            have k2 := hBD.cell 2
            simp only [List.getElem?_toArray, List.getElem?_cons_zero, List.getElem?_cons_succ] at k1 k2
            have c1 := callsIn_wide.1 (terms_walk da Fa fa ca dfs wD (HFL.out hAD) hdk.1)
            have C1 := Lib.hid c1
            have HAD := Lib.hid hAD
            have HBD := Lib.hid hBD
            clear c1 hAD hBD
            go_wp2_with fail
            refine C1.out.mono ?_
            rintro e W2 ⟨A4, n4, c4, rfl, hc4, hn4, hT, hb2⟩
            obtain ⟨Ot, t1, t2, t3⟩ := hT.ex
            have hOl : Ot.length = n4 := by rw [← hT.ln, ← t1, List.length_map]
            have HTA : Hid (∀ i (h : i < Ot.length), ∃ bt o P pc, A4 = some ⟨bt, o, none⟩ ∧ Tg W2 70 bt ∧ W2.cell? ⟨bt, o + i * 2, none⟩ = some (.string Ot[i].1) ∧ W2.cell? ⟨bt, o + i * 2 + 1, none⟩ = some (.slice P Ot[i].2.2.length pc) ∧ Ot[i].2.1 = .slice P Ot[i].2.2.length pc) := Lib.hid (fun i h => term_at t2 t3 hOl h)
            have HTP := Lib.hid t3
            have HT1 := Lib.hid t1
            have hOl1 : Ot.length ≤ n4 := by omega
            have hOl2 : n4 ≤ Ot.length := by omega
            have hTL : TermsAt w W1 W2 W2 n0 X O ds D0 b0 j M (cn + 0) (.slice A8 m8 c8) z6 lo6 hi6 (postsT ((ds ++ D0.take j).map (·.fs))) := ⟨⟨F, HAD.out.below hb2 hb0D hn0⟩, fun b _ _ => rfl, Nat.le_refl _⟩
            have HTL := Lib.hid hTL
            have HB2 : Hid (Blk W2 wr.heap.size 57 #[.int .i64 dq, .int .i64 da, .slice Fa fa ca]) := Lib.hid (HBD.out.below hb2 HBD.out.lt)
            have hW2l := hb2.size
            have hP0 : ∀ s, (postsT ((ds ++ D0.take j).map (·.fs)) s).length ≤ m8 := fun s => by
              have := postsT_len ((ds ++ D0.take j).map (·.fs)) s
              rw [List.length_map, HLJ.out] at this
              omega
            have HP0 := Lib.hid hP0
            clear hTL hT hb2 t1 t2 t3 hOl hP0 k1 k2
            generalize hbx : wr.heap.size = bx at *
            clear hbx
            go_wp2_with fail
            go_loopw [117] (fun vi w5 => ∃ i : Nat, i ≤ n4 ∧ vi = .int .i64 (i : Nat) ∧ Hid (TermsAt w W1 W2 w5 n0 X O ds D0 b0 j M (cn + i) (.slice A8 m8 c8) z6 lo6 hi6 ((Ot.take i).foldl (fun f t => addP f (ds.length + j) (t.1, t.2.2)) (postsT ((ds ++ D0.take j).map (·.fs)))))) (fun vi _ => n4 - (intOf vi).toNat)
            case atStart => exact ⟨0, Nat.zero_le _, rfl, HTL⟩
            case round =>
              clear HTL
              obtain ⟨i, hi4, rfl, hTi⟩ := hrel
              by_cases hil : i < n4
              · have hiz : (i : Int) < (n4 : Int) := by omega
                have hiO : i < Ot.length := by omega
                obtain ⟨F5, hA5⟩ := hTi.out.ex
                obtain ⟨bt, o4, P5, pc5, rfl, htb, k0, k1, hpe⟩ := HTA.out i hiO
                have k0 := (cell_same (hTi.out.kp bt htb (by decide)) _).trans k0
                have k1 := (cell_same (hTi.out.kp bt htb (by decide)) _).trans k1
                have htp := HTP.out _ (List.getElem_mem hiO)
                have hts : Ot[i].1.size ≤ 65 ∧ Ot[i].2.2.length ≤ 65536 := terms_sz hdk.1 (Ot[i].1, Ot[i].2.2) (by rw [← HT1.out]; exact List.mem_map.2 ⟨Ot[i], List.getElem_mem hiO, rfl⟩)
                have htk : Ot.take (i + 1) = Ot.take i ++ [Ot[i]] := List.take_succ_eq_append_getElem hiO
                have hb05 : b0 < wr.heap.size := by have := hA5.le; omega
                have hpos : ∀ wx, (∀ b, Tg W2 3 b → wx.heap[b]? = W2.heap[b]?) → PosV wx (m8, Ot[i].2.1, Ot[i].2.2) := fun wx hk => pos_v htp hts.2 hk
                have hle5 := hTi.out.le
                have HKP : Hid (∀ b, Tg W2 3 b → wr.heap[b]? = W2.heap[b]?) := Lib.hid (fun b hb => hTi.out.kp b hb (by decide))
                have HTI := hTi
                have HPL : Hid (∀ s, ((Ot.take i).foldl (fun f t => addP f (ds.length + j) (t.1, t.2.2)) (postsT ((ds ++ D0.take j).map (·.fs))) s).length ≤ m8 + i) := Lib.hid (fun s => by
                  have h1 := addP_len (ds.length + j) (Ot.take i) (postsT ((ds ++ D0.take j).map (·.fs))) s
                  have h2 := HP0.out s
                  rw [List.length_take] at h1
                  omega)
                have HA5 := Lib.hid hA5
                have HTK4 : Hid (Ot.take (i + 1) = Ot.take i ++ [Ot[i]]) := Lib.hid htk
                generalize hf5 : (Ot.take i).foldl (fun f t => addP f (ds.length + j) (t.1, t.2.2)) (postsT ((ds ++ D0.take j).map (·.fs))) = f5 at *
                have HF5 := Lib.hid hf5
                have HPOS := Lib.hid hpos
                clear hf5 hpos htp htk hTi hA5 htb
                generalize hx5 : Ot[i] = x5 at *
                obtain ⟨s5, v5, p5⟩ := x5
                simp only at k0 k1 hpe hts HPOS
                subst hpe
                have hAE := HA5.out.below ((Below.refl _ wr).alloc (Nat.le_refl _) (.cells #[.string s5, .slice P5 p5.length pc5] 70)) hb05 hn0
                have hBE := Blk.new wr 70 #[.string s5, .slice P5 p5.length pc5]
                have HAE := Lib.hid hAE
                have HBE := Lib.hid hBE
                have hkey := keyS (s := s5) (by unfold maxLen; omega)
                clear hAE hBE hx5
                go_upto_region 21 with fail
                clear k0 k1
                have HKE : Hid (∀ {T : TypeId} (b : Nat), Tg wr T b → (wr.alloc (.cells #[.string s5, .slice P5 p5.length pc5] 70)).heap[b]? = wr.heap[b]?) := Lib.hid (fun b hb => ((Below.refl _ wr).alloc (Nat.le_refl _) _).block b hb.lt)
                have hszE : wr.heap.size < (wr.alloc (.cells #[.string s5, .slice P5 p5.length pc5] 70)).heap.size := by simp
                generalize (wr.alloc (.cells #[.string s5, .slice P5 p5.length pc5] 70)) = wE at *
                obtain ⟨u, xs, hgu, hFu, hxs, hown, hxp⟩ := HAE.out.ix.row_at s5
                have HFU := Lib.hid hFu
                have HXS := Lib.hid hxs
                have HXP := Lib.hid hxp
                have HGU := Lib.hid hgu
                have hnlen : (f5 s5).length ≤ m8 + i := HPL.out s5
                have hut : ∀ b, u.ownBlock = some b → Tg wE 73 b := fun b hb => tg_own hown hb
                have hBelB : Below wE.heap.size wE ((wE.alloc (.cells #[.int .i64 (m8 : Nat), .slice P5 p5.length pc5] 73)).drew) := ((Below.refl _ _).alloc (Nat.le_refl _) _).drew
                have hownB := own_same (w' := (wE.alloc (.cells #[.int .i64 (m8 : Nat), .slice P5 p5.length pc5] 73)).drew) hown (fun b hb => hBelB.block b (hut b hb).lt)
                have hXu : some X ≠ u.ownBlock := fun e => absurd ((HAE.out.ix.tgX).one (hut X e.symm)) (by decide)
                have hTu : some wr.heap.size ≠ u.ownBlock := fun e => absurd ((tg_blk HBE.out).one (hut _ e.symm)) (by decide)
                have hMu : some M ≠ u.ownBlock := fun e => HAE.out.ix.notM (hut M e.symm) rfl
                have C0 : Blk wE.drew X 48 #[.int .i64 z6, .int .i64 lo6, .int .i64 hi6, .slice A8 m8 c8, .map (some M)] ∧ Blk wE.drew wr.heap.size 70 #[.string s5, .slice P5 p5.length pc5] ∧ MapV Tryz.prog 9 litS wE.drew M (cn + i) F5 := ⟨HAE.out.ix.blk.drew, HBE.out.drew, HAE.out.ix.mp.same rfl⟩
                have CB : Blk ((wE.alloc (.cells #[.int .i64 (m8 : Nat), .slice P5 p5.length pc5] 73)).drew) X 48 #[.int .i64 z6, .int .i64 lo6, .int .i64 hi6, .slice A8 m8 c8, .map (some M)] ∧ Blk ((wE.alloc (.cells #[.int .i64 (m8 : Nat), .slice P5 p5.length pc5] 73)).drew) wr.heap.size 70 #[.string s5, .slice P5 p5.length pc5] ∧ MapV Tryz.prog 9 litS ((wE.alloc (.cells #[.int .i64 (m8 : Nat), .slice P5 p5.length pc5] 73)).drew) M (cn + i) F5 := ⟨(HAE.out.ix.blk.alloc _).drew, (HBE.out.alloc _).drew, HAE.out.ix.mp.below hBelB⟩
                have HOWN := Lib.hid hown
                have HOWNB := Lib.hid hownB
                have HUT := Lib.hid hut
                have HCB := Lib.hid CB
                have HBB := Lib.hid hBelB
                have hbE := HAE.out.ix.lt X HAE.out.ix.oX
                have hnE : n0 ≤ wE.heap.size := by omega
                have hcnb : cn ≤ 8589934592 := by have := HCN.out; omega
                clear hgu hFu hxs hown hownB hxp hut CB hBelB
                refine wp_region_ph_tail 23 (specOf [(21, ⟨Unit, fun _ => .slice (some ⟨wE.heap.size, 0, none⟩) 1 1, fun _ wx => wx = (wE.alloc (.cells #[.int .i64 (m8 : Nat), .slice P5 p5.length pc5] 73)).drew⟩), (22, ⟨Value, fun v' => v', fun v' wx => Put1 n0 73 2 ((wE.alloc (.cells #[.int .i64 (m8 : Nat), .slice P5 p5.length pc5] 73)).drew) wx u v' ((f5 s5).length + 1) (xs.flatMap encP ++ [.int .i64 (m8 : Nat), .slice P5 p5.length pc5])⟩)])
                  (fun wx => Blk wx X 48 #[.int .i64 z6, .int .i64 lo6, .int .i64 hi6, .slice A8 m8 c8, .map (some M)] ∧ Blk wx wr.heap.size 70 #[.string s5, .slice P5 p5.length pc5] ∧ MapV Tryz.prog 9 litS wx M (cn + i) F5) (fun wx => wx = wE.drew) (by kernel_rfl) (by kernel_rfl) (turns_of (by kernel_rfl)) C0 rfl ?_
                clear C0
                refine ph_fix 1 ?_ rfl (by rfl) (by rfl) (fun wx hC => ?_) ?_
                rotate_left
                · have g0 := hC.1.cell 3; have g1 := hC.1.cell 4; have g2 := hC.2.1.cell 0; have g3 := hC.2.1.cell 1; simp only [List.getElem?_toArray, List.getElem?_cons_zero, List.getElem?_cons_succ] at g0 g1 g2 g3
                  go_simp
                  all_goals with_reducible rfl
                try simp only [Act.put, List.setIfInBounds_toArray, List.set_cons_zero, List.set_cons_succ]
                refine ph_fix 2 ?_ rfl (by rfl) (by rfl) (fun wx hC => ?_) ?_
                rotate_left
                · have g0 := hC.1.cell 3; have g1 := hC.1.cell 4; have g2 := hC.2.1.cell 0; have g3 := hC.2.1.cell 1; simp only [List.getElem?_toArray, List.getElem?_cons_zero, List.getElem?_cons_succ] at g0 g1 g2 g3
                  go_simp
                  all_goals with_reducible rfl
                try simp only [Act.put, List.setIfInBounds_toArray, List.set_cons_zero, List.set_cons_succ]
                refine ph_fix 3 ?_ rfl (by rfl) (by rfl) (fun wx hC => ?_) ?_
                rotate_left
                · have g0 := hC.1.cell 3; have g1 := hC.1.cell 4; have g2 := hC.2.1.cell 0; have g3 := hC.2.1.cell 1; simp only [List.getElem?_toArray, List.getElem?_cons_zero, List.getElem?_cons_succ] at g0 g1 g2 g3
                  go_simp
                  all_goals with_reducible rfl
                try simp only [Act.put, List.setIfInBounds_toArray, List.set_cons_zero, List.set_cons_succ]
                refine ph_fix 4 ?_ rfl (by rfl) (by rfl) (fun wx hC => ?_) ?_
                rotate_left
                · have g0 := hC.1.cell 3; have g1 := hC.1.cell 4; have g2 := hC.2.1.cell 0; have g3 := hC.2.1.cell 1; simp only [List.getElem?_toArray, List.getElem?_cons_zero, List.getElem?_cons_succ] at g0 g1 g2 g3
                  go_simp
                  all_goals with_reducible rfl
                try simp only [Act.put, List.setIfInBounds_toArray, List.set_cons_zero, List.set_cons_succ]
                refine ph_fix 5 ?_ rfl (by rfl) (by rfl) (fun wx hC => ?_) ?_
                rotate_left
                · have g0 := hC.1.cell 3; have g1 := hC.1.cell 4; have g2 := hC.2.1.cell 0; have g3 := hC.2.1.cell 1; simp only [List.getElem?_toArray, List.getElem?_cons_zero, List.getElem?_cons_succ] at g0 g1 g2 g3
                  go_simp
                  all_goals with_reducible rfl
                try simp only [Act.put, List.setIfInBounds_toArray, List.set_cons_zero, List.set_cons_succ]
                refine ph_fix 6 ?_ rfl (by rfl) (by rfl) (fun wx hC => ?_) ?_
                rotate_left
                · have g0 := hC.1.cell 3; have g1 := hC.1.cell 4; have g2 := hC.2.1.cell 0; have g3 := hC.2.1.cell 1; simp only [List.getElem?_toArray, List.getElem?_cons_zero, List.getElem?_cons_succ] at g0 g1 g2 g3
                  go_simp
                  all_goals with_reducible rfl
                try simp only [Act.put, List.setIfInBounds_toArray, List.set_cons_zero, List.set_cons_succ]
                refine ph_fix 7 ?_ rfl (by rfl) (by rfl) (fun wx hC => ?_) ?_
                rotate_left
                · have g0 := hC.1.cell 3; have g1 := hC.1.cell 4; have g2 := hC.2.1.cell 0; have g3 := hC.2.1.cell 1; simp only [List.getElem?_toArray, List.getElem?_cons_zero, List.getElem?_cons_succ] at g0 g1 g2 g3
                  go_simp
                  all_goals with_reducible rfl
                try simp only [Act.put, List.setIfInBounds_toArray, List.set_cons_zero, List.set_cons_succ]
                refine ph_fix 8 ?_ rfl (by rfl) (by rfl) (fun wx hC => ?_) ?_
                rotate_left
                · have g0 := hC.1.cell 3; have g1 := hC.1.cell 4; have g2 := hC.2.1.cell 0; have g3 := hC.2.1.cell 1; simp only [List.getElem?_toArray, List.getElem?_cons_zero, List.getElem?_cons_succ] at g0 g1 g2 g3
                  go_simp
                  all_goals with_reducible rfl
                try simp only [Act.put, List.setIfInBounds_toArray, List.set_cons_zero, List.set_cons_succ]
                refine ph_fix 9 ?_ rfl (by rfl) (by rfl) (fun wx hC => ?_) ?_
                rotate_left
                · have g0 := hC.1.cell 3; have g1 := hC.1.cell 4; have g2 := hC.2.1.cell 0; have g3 := hC.2.1.cell 1; simp only [List.getElem?_toArray, List.getElem?_cons_zero, List.getElem?_cons_succ] at g0 g1 g2 g3
                  go_simp
                  all_goals with_reducible rfl
                try simp only [Act.put, List.setIfInBounds_toArray, List.set_cons_zero, List.set_cons_succ]
                refine ph_fix 10 ?_ rfl (by rfl) (by rfl) (fun wx hC => ?_) ?_
                rotate_left
                · have g0 := hC.1.cell 3; have g1 := hC.1.cell 4; have g2 := hC.2.1.cell 0; have g3 := hC.2.1.cell 1; simp only [List.getElem?_toArray, List.getElem?_cons_zero, List.getElem?_cons_succ] at g0 g1 g2 g3
                  go_simp
                  all_goals with_reducible rfl
                try simp only [Act.put, List.setIfInBounds_toArray, List.set_cons_zero, List.set_cons_succ]
                refine ph_fix 11 ?_ rfl (by rfl) (by rfl) (fun wx hC => ?_) ?_
                rotate_left
                · have g0 := hC.1.cell 3; have g1 := hC.1.cell 4; have g2 := hC.2.1.cell 0; have g3 := hC.2.1.cell 1; simp only [List.getElem?_toArray, List.getElem?_cons_zero, List.getElem?_cons_succ] at g0 g1 g2 g3
                  go_simp
                  all_goals with_reducible rfl
                try simp only [Act.put, List.setIfInBounds_toArray, List.set_cons_zero, List.set_cons_succ]
                refine ph_fix 12 ?_ rfl (by rfl) (by rfl) (fun wx hC => ?_) ?_
                rotate_left
                · have g0 := hC.1.cell 3; have g1 := hC.1.cell 4; have g2 := hC.2.1.cell 0; have g3 := hC.2.1.cell 1; simp only [List.getElem?_toArray, List.getElem?_cons_zero, List.getElem?_cons_succ] at g0 g1 g2 g3
                  go_simp
                  all_goals with_reducible rfl
                try simp only [Act.put, List.setIfInBounds_toArray, List.set_cons_zero, List.set_cons_succ]
                refine ph_fix 13 ?_ rfl (by rfl) (by rfl) (fun wx hC => ?_) ?_
                rotate_left
                · refine run_look_v (.tmp 130) (.tmp 132) 46 71 ?_ lawS Tryz.underlying46 (Tryz.zeroValue71 _) M (cn + i) F5 ?_ hC.2.2 s5 ?_ hkey u HGU.out
                  all_goals rfl
                try simp only [Act.put, List.setIfInBounds_toArray, List.set_cons_zero, List.set_cons_succ]
                refine ph_fix 14 ?_ rfl (by rfl) (by rfl) (fun wx hC => ?_) ?_
                rotate_left
                · have g0 := hC.1.cell 3; have g1 := hC.1.cell 4; have g2 := hC.2.1.cell 0; have g3 := hC.2.1.cell 1; simp only [List.getElem?_toArray, List.getElem?_cons_zero, List.getElem?_cons_succ] at g0 g1 g2 g3
                  go_simp
                  all_goals with_reducible rfl
                try simp only [Act.put, List.setIfInBounds_toArray, List.set_cons_zero, List.set_cons_succ]
                refine ph_fix 15 ?_ rfl (by rfl) (by rfl) (fun wx hC => ?_) ?_
                rotate_left
                · have g0 := hC.1.cell 3; have g1 := hC.1.cell 4; have g2 := hC.2.1.cell 0; have g3 := hC.2.1.cell 1; simp only [List.getElem?_toArray, List.getElem?_cons_zero, List.getElem?_cons_succ] at g0 g1 g2 g3
                  go_simp
                  all_goals with_reducible rfl
                try simp only [Act.put, List.setIfInBounds_toArray, List.set_cons_zero, List.set_cons_succ]
                refine ph_fix 16 ?_ rfl (by rfl) (by rfl) (fun wx hC => ?_) ?_
                rotate_left
                · have g0 := hC.1.cell 3; have g1 := hC.1.cell 4; have g2 := hC.2.1.cell 0; have g3 := hC.2.1.cell 1; simp only [List.getElem?_toArray, List.getElem?_cons_zero, List.getElem?_cons_succ] at g0 g1 g2 g3
                  go_simp
                  all_goals with_reducible rfl
                try simp only [Act.put, List.setIfInBounds_toArray, List.set_cons_zero, List.set_cons_succ]
                refine ph_fix 17 ?_ rfl (by rfl) (by rfl) (fun wx hC => ?_) ?_
                rotate_left
                · have g0 := hC.1.cell 3; have g1 := hC.1.cell 4; have g2 := hC.2.1.cell 0; have g3 := hC.2.1.cell 1; simp only [List.getElem?_toArray, List.getElem?_cons_zero, List.getElem?_cons_succ] at g0 g1 g2 g3
                  go_simp
                  all_goals with_reducible rfl
                try simp only [Act.put, List.setIfInBounds_toArray, List.set_cons_zero, List.set_cons_succ]
                refine ph_fix 18 ?_ rfl (by rfl) (by rfl) (fun wx hC => ?_) ?_
                rotate_left
                · have g0 := hC.1.cell 3; have g1 := hC.1.cell 4; have g2 := hC.2.1.cell 0; have g3 := hC.2.1.cell 1; simp only [List.getElem?_toArray, List.getElem?_cons_zero, List.getElem?_cons_succ] at g0 g1 g2 g3
                  go_simp
                  all_goals with_reducible rfl
                try simp only [Act.put, List.setIfInBounds_toArray, List.set_cons_zero, List.set_cons_succ]
                refine ph_fix 19 ?_ rfl (by rfl) (by rfl) (fun wx hC => ?_) ?_
                rotate_left
                · have g0 := hC.1.cell 3; have g1 := hC.1.cell 4; have g2 := hC.2.1.cell 0; have g3 := hC.2.1.cell 1; simp only [List.getElem?_toArray, List.getElem?_cons_zero, List.getElem?_cons_succ] at g0 g1 g2 g3
                  go_simp
                  all_goals with_reducible rfl
                try simp only [Act.put, List.setIfInBounds_toArray, List.set_cons_zero, List.set_cons_succ]
                refine ph_fix 20 ?_ rfl (by rfl) (by rfl) (fun wx hC => ?_) ?_
                rotate_left
                · have g0 := hC.1.cell 3; have g1 := hC.1.cell 4; have g2 := hC.2.1.cell 0; have g3 := hC.2.1.cell 1; simp only [List.getElem?_toArray, List.getElem?_cons_zero, List.getElem?_cons_succ] at g0 g1 g2 g3
                  go_simp
                  all_goals with_reducible rfl
                try simp only [Act.put, List.setIfInBounds_toArray, List.set_cons_zero, List.set_cons_succ]
                refine ph_fix 21 ?_ rfl (by rfl) (by rfl) (fun wx hC => ?_) ?_
                rotate_left
                · have g0 := hC.1.cell 3; have g1 := hC.1.cell 4; have g2 := hC.2.1.cell 0; have g3 := hC.2.1.cell 1; simp only [List.getElem?_toArray, List.getElem?_cons_zero, List.getElem?_cons_succ] at g0 g1 g2 g3
                  go_simp
                  all_goals with_reducible rfl
                try simp only [Act.put, List.setIfInBounds_toArray, List.set_cons_zero, List.set_cons_succ]
                refine ph_give 22 _ rfl (by rfl) (by rfl) (fun wx hC hI => ?_) (fun x => ?_)
                · subst hI
                  refine give_value (u := ?_) (w' := ?_) ?_ trivial ?_
                  rotate_left 2
                  · go_simp
                    all_goals first | with_reducible rfl | (refine ⟨?_, ?_⟩ <;> with_reducible rfl)
                  · exact ⟨HCB.out, (), rfl, rfl⟩
                try simp only [Act.put, List.setIfInBounds_toArray, List.set_cons_zero, List.set_cons_succ]
                refine ph_give 23 _ rfl (by rfl) (by rfl) (fun wx hC hI => ?_) (fun x => ?_)
                · subst hI
                  refine give_append_at _ _ 71 rfl n0 73 j0 _ 2 32 Tryz.underlying71 hj0 hy0 hy1 hy2 rfl (by decide) u (f5 s5).length (xs.flatMap encP) rfl HOWNB.out ⟨wE.heap.size, 0, none⟩ 1 1 [.int .i64 (m8 : Nat), .slice P5 p5.length pc5] rfl rfl (news_at wE 73 [.int .i64 (m8 : Nat), .slice P5 p5.length pc5]) (fun y hy => by rcases List.mem_cons.1 hy with rfl | hy; rfl; rw [List.mem_singleton] at hy; subst hy; rfl) (by unfold maxLen; omega) (by omega) (by have := HBB.out.size; omega) ?_
                  intro v' w' ho hg hat
                  exact ⟨⟨hC.1.grown hg hXu, hC.2.1.grown hg hTu, hC.2.2.kept hg hMu⟩, v', rfl, ho, hg, hat⟩
                try simp only [Act.put, List.setIfInBounds_toArray, List.set_cons_zero, List.set_cons_succ]
                rename Value => x6
                refine ph_nil (fun w7 hC hI => ?_)
                have HC7 := Lib.hid hC
                have HI7 := Lib.hid hI
                simp only [List.drop_succ_cons, List.drop_zero]
                refine wpList_set_v rfl (.tmp 124) (.tmp 126) (.tmp 143) 46 71 rfl lawS Tryz.underlying46 M (cn + i) F5 rfl hC.2.2 (by unfold maxLen; omega) s5 x6 rfl rfl hkey (fun w8 hm8' hg8 => ?_)
                have HN5 : Hid (TermsAt w W1 W2 w8 n0 X O ds D0 b0 j M (cn + (i + 1)) (.slice A8 m8 c8) z6 lo6 hi6 ((Ot.take (i + 1)).foldl (fun f t => addP f (ds.length + j) (t.1, t.2.2)) (postsT ((ds ++ D0.take j).map (·.fs))))) := Lib.hid (by
                  have hb0E : b0 < wE.heap.size := by omega
                  have hB := HAE.out.below HBB.out hb0E hn0
                  have hP := HI7.out
                  have kB : ∀ {T : TypeId} (b : Nat), Tg wE T b → ((wE.alloc (.cells #[.int .i64 (m8 : Nat), .slice P5 p5.length pc5] 73)).drew).heap[b]? = wE.heap[b]? := fun b hb => HBB.out.block b hb.lt
                  have hres := hB.post (s := s5) (u := u) (xs := xs) (x := (m8, .slice P5 p5.length pc5, p5)) (u' := x6) HTB.out hn0 HFU.out HXS.out (fun y hy => (HXP.out y hy).same (fun b hb => kB b hb)) (HPOS.out _ (fun b hb => by
                    have e1 := HKP.out b hb
                    have e2 := HKE.out b (hb.same e1)
                    exact (kB b ((hb.same e1).same e2)).trans (e2.trans e1))) HOWNB.out hP.gr hP.own hP.at_ hg8 hm8'
                  refine ⟨⟨putV F5 s5 x6, ?_⟩, fun b hb hT => ?_, ?_⟩
                  · have h1 := hres.1
                    rw [show cn + i + 1 = cn + (i + 1) by omega] at h1
                    refine h1.congr (fun t => ?_)
                    rw [HTK4.out, List.foldl_append, HF5.out]
                    simp only [List.foldl_cons, List.foldl_nil, addP, prP, HM8.out]
                  · have e1 := HTI.out.kp b hb hT
                    have e2 := HKE.out b (hb.same e1)
                    have e3 := kB b ((hb.same e1).same e2)
                    exact (hres.2 b (((hb.same e1).same e2).same e3) hT).trans (e3.trans (e2.trans e1))
                  · have h1 := HBB.out.size
                    have h2 := hP.gr.size
                    have h3 := hg8.size
                    omega)
                clear hm8' hg8
                go_wp2_with fail
                go_roundw
                case rel => exact ⟨i + 1, by omega, by go_num, HN5⟩
                case measure => simp [intOf]; omega
              · have hiz : (n4 : Int) ≤ (i : Int) := by omega
                obtain ⟨F5, hA5⟩ := hTi.out.ex
                have hAE := hA5.congr (f' := postsT ((ds ++ D0.take (j + 1)).map (·.fs))) (fun s => by
                  have e1 : (ds ++ D0.take (j + 1)).map (·.fs) = (ds ++ D0.take j).map (·.fs) ++ [dfs] := by rw [HTK.out, List.map_append]; rfl
                  rw [e1, ← posts_doc, ← HT1.out, List.foldl_map, List.length_map, HLJ.out, show Ot.take i = Ot from List.take_of_length_le (by omega)])
                have HAE := Lib.hid hAE
                have hBE : Blk wr bx 57 #[.int .i64 dq, .int .i64 da, .slice Fa fa ca] := (hTi.out.kp bx (tg_blk HB2.out) (by decide)).trans HB2.out
                have HBE := Lib.hid hBE
                have hbr : b0 < wr.heap.size := by have := hA5.le; omega
                clear hTi hA5 hAE hBE
                go_upto_region 23 with fail
                have hd : DcS wr (fun b => Tg wr 89 b) ⟨dq, da, dfs⟩ [.int .i64 dq, .int .i64 da, .slice Fa fa ca] := HDC.out.same (fun b hb => ⟨hb.same (HAE.out.fld b hb), HAE.out.fld b hb⟩)
                have HDD := Lib.hid hd
                obtain ⟨vss, o1, o2, o3⟩ := HAE.out.ix.own
                have hBelB : Below wr.heap.size wr ((wr.alloc (.cells #[.int .i64 dq, .int .i64 da, .slice Fa fa ca] 57)).drew) := ((Below.refl _ _).alloc (Nat.le_refl _) _).drew
                have hut : ∀ b, (Value.slice A8 m8 c8).ownBlock = some b → Tg wr 57 b := fun b hb => tg_own o2 hb
                have hownB := own_same (w' := (wr.alloc (.cells #[.int .i64 dq, .int .i64 da, .slice Fa fa ca] 57)).drew) o2 (fun b hb => hBelB.block b (hut b hb).lt)
                rw [HLJ.out, ← HM8.out] at hownB
                have hXu : some X ≠ (Value.slice A8 m8 c8).ownBlock := fun e => absurd ((HAE.out.ix.tgX).one (hut X e.symm)) (by decide)
                have hTu : some bx ≠ (Value.slice A8 m8 c8).ownBlock := fun e => hVB e.symm
                have C0 : Blk wr.drew X 48 #[.int .i64 z6, .int .i64 lo6, .int .i64 hi6, .slice A8 m8 c8, .map (some M)] ∧ Blk wr.drew bx 57 #[.int .i64 dq, .int .i64 da, .slice Fa fa ca] := ⟨HAE.out.ix.blk.drew, HBE.out.drew⟩
                have CB : Blk ((wr.alloc (.cells #[.int .i64 dq, .int .i64 da, .slice Fa fa ca] 57)).drew) X 48 #[.int .i64 z6, .int .i64 lo6, .int .i64 hi6, .slice A8 m8 c8, .map (some M)] ∧ Blk ((wr.alloc (.cells #[.int .i64 dq, .int .i64 da, .slice Fa fa ca] 57)).drew) bx 57 #[.int .i64 dq, .int .i64 da, .slice Fa fa ca] := ⟨(HAE.out.ix.blk.alloc _).drew, (HBE.out.alloc _).drew⟩
                have HOWNB := Lib.hid hownB
                have HCB := Lib.hid CB
                have HBB := Lib.hid hBelB
                have HO1 := Lib.hid o1
                have HO2 := Lib.hid o2
                have HO3 := Lib.hid o3
                have hbE := HAE.out.ix.lt X HAE.out.ix.oX
                have hnE : n0 ≤ wr.heap.size := by omega
                clear o1 o2 o3 hownB CB hBelB hut hd
                refine wp_region_ph_tail 10 (specOf [(6, ⟨Unit, fun _ => .slice (some ⟨wr.heap.size, 0, none⟩) 1 1, fun _ wx => wx = (wr.alloc (.cells #[.int .i64 dq, .int .i64 da, .slice Fa fa ca] 57)).drew⟩), (7, ⟨Value, fun v' => v', fun v' wx => Put1 n0 57 3 ((wr.alloc (.cells #[.int .i64 dq, .int .i64 da, .slice Fa fa ca] 57)).drew) wx (.slice A8 m8 c8) v' (m8 + 1) (vss.flatten ++ [.int .i64 dq, .int .i64 da, .slice Fa fa ca])⟩)])
                  (fun wx => Blk wx X 48 #[.int .i64 z6, .int .i64 lo6, .int .i64 hi6, .slice A8 m8 c8, .map (some M)] ∧ Blk wx bx 57 #[.int .i64 dq, .int .i64 da, .slice Fa fa ca]) (fun wx => wx = wr.drew) (by kernel_rfl) (by kernel_rfl) (turns_of (by kernel_rfl)) C0 rfl ?_
                clear C0
                refine ph_fix 1 ?_ rfl (by rfl) (by rfl) (fun wx hC => ?_) ?_
                rotate_left
                · have g0 := hC.1.cell 3; have g1 := hC.2.cell 0; have g2 := hC.2.cell 1; have g3 := hC.2.cell 2; simp only [List.getElem?_toArray, List.getElem?_cons_zero, List.getElem?_cons_succ] at g0 g1 g2 g3
                  go_simp
                  all_goals with_reducible rfl
                try simp only [Act.put, List.setIfInBounds_toArray, List.set_cons_zero, List.set_cons_succ]
                refine ph_fix 2 ?_ rfl (by rfl) (by rfl) (fun wx hC => ?_) ?_
                rotate_left
                · have g0 := hC.1.cell 3; have g1 := hC.2.cell 0; have g2 := hC.2.cell 1; have g3 := hC.2.cell 2; simp only [List.getElem?_toArray, List.getElem?_cons_zero, List.getElem?_cons_succ] at g0 g1 g2 g3
                  go_simp
                  all_goals with_reducible rfl
                try simp only [Act.put, List.setIfInBounds_toArray, List.set_cons_zero, List.set_cons_succ]
                refine ph_fix 3 ?_ rfl (by rfl) (by rfl) (fun wx hC => ?_) ?_
                rotate_left
                · have g0 := hC.1.cell 3; have g1 := hC.2.cell 0; have g2 := hC.2.cell 1; have g3 := hC.2.cell 2; simp only [List.getElem?_toArray, List.getElem?_cons_zero, List.getElem?_cons_succ] at g0 g1 g2 g3
                  go_simp
                  all_goals with_reducible rfl
                try simp only [Act.put, List.setIfInBounds_toArray, List.set_cons_zero, List.set_cons_succ]
                refine ph_fix 4 ?_ rfl (by rfl) (by rfl) (fun wx hC => ?_) ?_
                rotate_left
                · have g0 := hC.1.cell 3; have g1 := hC.2.cell 0; have g2 := hC.2.cell 1; have g3 := hC.2.cell 2; simp only [List.getElem?_toArray, List.getElem?_cons_zero, List.getElem?_cons_succ] at g0 g1 g2 g3
                  go_simp
                  all_goals with_reducible rfl
                try simp only [Act.put, List.setIfInBounds_toArray, List.set_cons_zero, List.set_cons_succ]
                refine ph_fix 5 ?_ rfl (by rfl) (by rfl) (fun wx hC => ?_) ?_
                rotate_left
                · have g0 := hC.1.cell 3; have g1 := hC.2.cell 0; have g2 := hC.2.cell 1; have g3 := hC.2.cell 2; simp only [List.getElem?_toArray, List.getElem?_cons_zero, List.getElem?_cons_succ] at g0 g1 g2 g3
                  go_simp
                  all_goals with_reducible rfl
                try simp only [Act.put, List.setIfInBounds_toArray, List.set_cons_zero, List.set_cons_succ]
                refine ph_fix 6 ?_ rfl (by rfl) (by rfl) (fun wx hC => ?_) ?_
                rotate_left
                · have g0 := hC.1.cell 3; have g1 := hC.2.cell 0; have g2 := hC.2.cell 1; have g3 := hC.2.cell 2; simp only [List.getElem?_toArray, List.getElem?_cons_zero, List.getElem?_cons_succ] at g0 g1 g2 g3
                  go_simp
                  all_goals with_reducible rfl
                try simp only [Act.put, List.setIfInBounds_toArray, List.set_cons_zero, List.set_cons_succ]
                refine ph_give 7 _ rfl (by rfl) (by rfl) (fun wx hC hI => ?_) (fun x => ?_)
                · subst hI
                  refine give_value (u := ?_) (w' := ?_) ?_ trivial ?_
                  rotate_left 2
                  · go_simp
                    all_goals first | with_reducible rfl | (refine ⟨?_, ?_⟩ <;> with_reducible rfl)
                  · exact ⟨HCB.out, (), rfl, rfl⟩
                try simp only [Act.put, List.setIfInBounds_toArray, List.set_cons_zero, List.set_cons_succ]
                refine ph_give 8 _ rfl (by rfl) (by rfl) (fun wx hC hI => ?_) (fun x => ?_)
                · subst hI
                  refine give_append_at _ _ 28 rfl n0 57 i0 _ 3 40 Tryz.underlying28 hi0 hz0 hz1 hz2 rfl (by decide) (.slice A8 m8 c8) m8 vss.flatten rfl HOWNB.out ⟨wr.heap.size, 0, none⟩ 1 1 [.int .i64 dq, .int .i64 da, .slice Fa fa ca] rfl rfl (news_at wr 57 [.int .i64 dq, .int .i64 da, .slice Fa fa ca]) (fun y hy => by simp only [List.mem_cons, List.mem_nil_iff, or_false] at hy; rcases hy with rfl | rfl | rfl <;> rfl) (by unfold maxLen; omega) (by omega) (by have := HBB.out.size; omega) ?_
                  intro v' w' ho hg hat
                  exact ⟨⟨hC.1.grown hg hXu, hC.2.grown hg hTu⟩, v', rfl, ho, hg, hat⟩
                try simp only [Act.put, List.setIfInBounds_toArray, List.set_cons_zero, List.set_cons_succ]
                refine ph_fix 9 ?_ rfl (by rfl) (by rfl) (fun wx hC => ?_) ?_
                rotate_left
                · have g0 := hC.1.cell 3
                  go_simp
                  all_goals with_reducible rfl
                try simp only [Act.put, List.setIfInBounds_toArray, List.set_cons_zero, List.set_cons_succ]
                refine ph_fix 10 ?_ rfl (by rfl) (by rfl) (fun wx hC => ?_) ?_
                rotate_left
                · have g0 := hC.1.cell 3
                  go_simp
                  all_goals with_reducible rfl
                try simp only [Act.put, List.setIfInBounds_toArray, List.set_cons_zero, List.set_cons_succ]
                rename Value => x6
                refine ph_nil (fun w7 hC hI => ?_)
                obtain ⟨g6, q6, rfl⟩ := own_succ hI.own
                have HC7 := Lib.hid hC
                have HI7 := Lib.hid hI
                have g0 := hC.1.cell 3
                have g0f := hC.1.frozen 3
                simp only [List.getElem?_toArray, List.getElem?_cons_zero, List.getElem?_cons_succ] at g0
                clear hC hI
                go_wp2_with fail
                have HN6 : Hid (AddLoop w W1 (w7.setCell ⟨X, 3, none⟩ (.slice (some ⟨g6, 0, none⟩) (m8 + 1) q6)) n0 X O ds D0 b0 (j + 1)) := Lib.hid (by
                  have hB := HAE.out.below HBB.out hbr hn0
                  have hP := HI7.out
                  have kB : ∀ {T : TypeId} (b : Nat), Tg wr T b → ((wr.alloc (.cells #[.int .i64 dq, .int .i64 da, .slice Fa fa ca] 57)).drew).heap[b]? = wr.heap[b]? := fun b hb => HBB.out.block b hb.lt
                  have hres := hB.docs (d := ⟨dq, da, dfs⟩) (vss := vss) (v' := .slice (some ⟨g6, 0, none⟩) (m8 + 1) q6) HTB.out hn0 ⟨HO1.out, by rw [HLJ.out, ← HM8.out]; exact HOWNB.out, fun i a b => (HO3.out i a b).same (fun b hb => ⟨hb.same (kB b hb), kB b hb⟩)⟩ (HDD.out.same (fun b hb => ⟨hb.same (kB b hb), kB b hb⟩)) hP.gr (by rw [HLJ.out, ← HM8.out]; exact hP.own) hP.at_ (grownBy_setC w7 X 3 _) (by
                    have := HC7.out.1.set_ 3 (.slice (some ⟨g6, 0, none⟩) (m8 + 1) q6)
                    simpa using this) HTK.out
                  refine ⟨⟨M, cn + i, .slice (some ⟨g6, 0, none⟩) (m8 + 1) q6, F5, ?_, ?_⟩⟩
                  · rw [← HZ6.out, ← HLO.out, ← HHI.out]
                    exact hres
                  · have := HCN.out
                    omega)
                go_wp2_with fail
                go_roundw
                case rel => exact ⟨j + 1, by omega, by go_num, HN6⟩
                case measure => simp [intOf]; omega
        · have hjz : (n : Int) ≤ (j : Int) := by omega
          have Fin : Hid (AddPost w n0 X O ds seq l (.returned (.int .i64 0)) wr) := Lib.hid (hL.out.fin (by omega) HGO.out HMK.out HI.out.ok DOK.out (by omega))
          go_wp2
          go_ret
          exact Fin.out
  · have HA := Lib.hid (addE_bad (ds := ds) hck)
    have Fin : Hid (AddPost w n0 X O ds seq l (.returned (.int .i64 (chkB seq l))) w1) := Lib.hid (add_not HI.out hn0 H1.out.2 HA.out hck)
    generalize hcc : chkB seq l = cc at *
    have hcz : (cc != 0) = true := by simpa using hck
    have hcz2 : (cc = 0) = False := eq_false hck
    clear hcc hck HA
    go_wp2
    go_ret
    exact Fin.out
end Go.Proofs.YtdloacfoegjnmaaGreat.Mx
