/- group.Some, loggiaref30.Some; loggialaw30.GroupCounts: the walks. -/
import Derived.Test.YtjeahdnbpiahaaaGreatPkGroupCountsRow39
import Derived.Test.YtjeahdnbpiahaaaGreatPkGroupCountsRow41
import Derived.Test.YtjeahdnbpiahaaaGreatPkGroupCountsRow42
namespace Go.Proofs.YtjeahdnbpiahaaaGreat.Gr
open Go.RowKit Go.Proofs.YtjeahdnbpiahaaaGreat Go.Proofs.YtjeahdnbpiahaaaGreat.Ut Go.Proofs.YtjeahdnbpiahaaaGreat.Tk Go.Proofs.YtjeahdnbpiahaaaGreat.Qy Go.Sort Go.Shelf Go.Lib
set_option maxRecDepth 20000
set_option linter.unusedSimpArgs false
set_option linter.unusedVariables false

set_option maxHeartbeats 400000 in
theorem of_badIn (name : ByteArray) (A : Option Addr) (n c : Nat) (w : World) (hname : name.size ≤ 140737488351232) (hN : isN name.data.toList = false) :
    CallsIn Fence.wide 4 Tryz.prog 7 #[.string name, .slice A n c] w fun e w' => e = .returned (.tuple #[.slice none 0 0, .int .i64 1]) ∧ Below w.heap.size w w' := by
  have c1 := isName_anyB name w hname
  rw [hN] at c1
  refine callsIn_of_wp_marks Tryz.func7 rfl trivial ?_ rfl
  simp only [Tryz.ntmps7, List.size_toArray, List.length_cons, List.length_nil, Nat.reduceAdd, Nat.reduceSub, Array.replicate_succ, Array.replicate_zero, List.push_toArray, List.append_toArray, List.nil_append, List.cons_append]
  gi_wp2_with fail
  refine ⟨trivial, (callsIn_wide.2 c1).mono ?_⟩
  rintro e w1 ⟨rfl, hb1⟩
  have Hb1 := Lib.hid hb1
  clear c1 hb1
  gi_wp2
  exact ⟨_, results_tmp2 rfl _ _ _, rfl, Hb1.out⟩

/-- What both sides tell. -/
def GPost (w : World) (name : ByteArray) (ds : List Dc) (e : Ending) (w' : World) : Prop :=
  ∃ (v : Value) (er : Int) (l : List Ct), e = .returned (.tuple #[v, .int .i64 er]) ∧ SlC w' v l ∧ l.length ≤ 1048576 ∧ (isN name.data.toList = true → er = 0 ∧ IsTab (tabOf (cntN name ds)) l) ∧ (isN name.data.toList = false → er = 1 ∧ l = []) ∧ Below w.heap.size w w'
theorem g_one {name : ByteArray} {ds : List Dc} {er er' : Int} {l l' : List Ct} (h1 : isN name.data.toList = true → er = 0 ∧ IsTab (tabOf (cntN name ds)) l) (h0 : isN name.data.toList = false → er = 1 ∧ l = [])
    (g1 : isN name.data.toList = true → er' = 0 ∧ IsTab (tabOf (cntN name ds)) l') (g0 : isN name.data.toList = false → er' = 1 ∧ l' = []) : l = l' ∧ er = er' := by
  cases hN : isN name.data.toList with
  | true =>
    obtain ⟨e1, t1⟩ := h1 hN
    obtain ⟨e2, t2⟩ := g1 hN
    exact ⟨t1.one t2, e1.trans e2.symm⟩
  | false =>
    obtain ⟨e1, t1⟩ := h0 hN
    obtain ⟨e2, t2⟩ := g0 hN
    exact ⟨t1.trans t2.symm, e1.trans e2.symm⟩
theorem gof_any (name : ByteArray) (A : Option Addr) (n c : Nat) (ds : List Dc) (w : World) (hD : DocsAt w w.heap.size A n ds) (hn : n ≤ 1048576) (hs : ∀ d ∈ ds, ∀ f ∈ d.fs, f.2.size ≤ 1048576) (htot : totW name ds ≤ 1048576) (hname : name.size ≤ 1048576) :
    Calls Tryz.prog 7 #[.string name, .slice A n c] w (GPost w name ds) := by
  cases hN : isN name.data.toList with
  | true =>
    refine (groupOf_any name A n c ds w hD hn hs htot (by omega) hN).mono ?_
    rintro e w1 ⟨l, h1, h2, v, rfl, h3, h4⟩
    exact ⟨v, 0, l, rfl, SlC.of_own h3, h2, fun _ => ⟨rfl, h1⟩, fun h => (by rw [hN] at h; cases h), h4⟩
  | false =>
    refine (callsIn_wide.1 (of_badIn name A n c w (by omega) hN)).mono ?_
    rintro e w1 ⟨rfl, h4⟩
    exact ⟨_, 1, [], rfl, SlC.nil _, Nat.zero_le _, fun h => (by rw [hN] at h; cases h), fun _ => ⟨rfl, rfl⟩, h4⟩
theorem rof_all (name : ByteArray) (A : Option Addr) (n c : Nat) (ds : List Dc) (w : World) (hD : DocsAt w w.heap.size A n ds) (hn : n ≤ 1048576) (hs : ∀ d ∈ ds, ∀ f ∈ d.fs, f.2.size ≤ 1048576) (htot : totW name ds ≤ 1048576) (hname : name.size ≤ 1048576) :
    Calls Tryz.prog 8 #[.string name, .slice A n c] w (GPost w name ds) := by
  cases hN : isN name.data.toList with
  | true =>
    refine (rof_any name A n c ds w hD hn hs htot hname hN).mono ?_
    rintro e w1 ⟨l, h1, h2, v, rfl, h3, h4⟩
    exact ⟨v, 0, l, rfl, h3, h2, fun _ => ⟨rfl, h1⟩, fun h => (by rw [hN] at h; cases h), h4⟩
  | false =>
    refine (rof_bad name A n c w hname hN).mono ?_
    rintro e w1 ⟨rfl, h4⟩
    exact ⟨_, 1, [], rfl, SlC.nil _, Nat.zero_le _, fun h => (by rw [hN] at h; cases h), fun _ => ⟨rfl, rfl⟩, h4⟩
theorem totW_filter (name : ByteArray) (g : Dc → Bool) : ∀ ds : List Dc, totW name (ds.filter g) ≤ totW name ds
  | [] => Nat.le_refl _
  | d :: ds => by
    have ih := totW_filter name g ds
    unfold totW at *
    rw [List.filter_cons]
    split
    · rw [List.map_cons, List.map_cons, List.sum_cons, List.sum_cons]; omega
    · rw [List.map_cons, List.sum_cons]; omega
set_option maxHeartbeats 400000 in
theorem gsome_any (q : Q) (hq : QSz q) (a0 a1 a2 a3 : Value) (name : ByteArray) (A : Option Addr) (n c : Nat) (ds : List Dc) (w : World) (hQ : QAt w w.heap.size q [a0, a1, a2, a3]) (hD : DocsAt w w.heap.size A n ds) (hn : n ≤ 1048576) (hS : Small ds) (htot : totW name ds ≤ 1048576) (hname : name.size ≤ 1048576) :
    Calls Tryz.prog 9 #[.agg #[a0, a1, a2, a3], .string name, .slice A n c] w (GPost w name (ds.filter fun d => matchB d.fs q)) := by
  have hd := fun wx (hb : Below w.heap.size w wx) => docs_any q hq a0 a1 a2 a3 A n c ds wx (hQ.grow hb) (hD.grow hb) hn hS
  have hln : (ds.filter fun d => matchB d.fs q).length ≤ 1048576 := Nat.le_trans (List.length_filter_le _ _) (by rw [hD.ln]; exact hn)
  have htf := Nat.le_trans (totW_filter name (fun d => matchB d.fs q) ds) htot
  have Hs : Hid (∀ d ∈ ds.filter (fun d => matchB d.fs q), ∀ f ∈ d.fs, f.2.size ≤ 1048576) := Lib.hid (fun d hd => (hS d (List.mem_filter.1 hd).1).2)
  obtain ⟨k0, nm, ws, l⟩ := q
  obtain ⟨WA, m, wc, CA, n1, c2, e, _⟩ := hQ.is
  simp only [List.cons.injEq, and_true] at e
  obtain ⟨rfl, rfl, rfl, rfl⟩ := e
  have hb1 : Below w.heap.size w (w.alloc (.cells #[.int .i64 k0, .string nm, .slice WA m wc, .slice CA n1 c2] 27)) := (Below.refl _ _).alloc (Nat.le_refl _) _
  have c1 := hd _ hb1
  have Hb1 := Lib.hid hb1
  clear hd hQ hD hS hq hb1
  generalize ds.filter (fun d => matchB d.fs (.mk k0 nm ws l)) = out at *
  go_enter Tryz.func9, Tryz.ntmps9
  go_wp2_with fail
  refine c1.mono ?_
  rintro e w2 ⟨A2, c3, rfl, hD2, _, hb2⟩
  have Hb2 := Lib.hid (Hb1.out.trans (hb2.mono Hb1.out.size))
  have c4 := gof_any name A2 out.length c3 out w2 hD2 hln Hs.out htf hname
  clear hD2 hb2 c1
  go_wp2_with fail
  refine c4.mono ?_
  rintro e w3 ⟨v, er, l3, rfl, h1, h2, h3, h4, hb3⟩
  have H := Lib.hid (And.intro h1 (And.intro h2 (And.intro h3 h4)))
  have Hb3 := Lib.hid (Hb2.out.trans (hb3.mono Hb2.out.size))
  clear c4 h1 h2 h3 h4 hb3
  go_wp2
  go_ret2
  exact ⟨v, er, l3, rfl, H.out.1, H.out.2.1, H.out.2.2.1, H.out.2.2.2, Hb3.out⟩
set_option maxHeartbeats 400000 in
theorem rsome_any (q : Q) (hq : QSz q) (a0 a1 a2 a3 : Value) (name : ByteArray) (A : Option Addr) (n c : Nat) (ds : List Dc) (w : World) (hQ : QAt w w.heap.size q [a0, a1, a2, a3]) (hD : DocsAt w w.heap.size A n ds) (hn : n ≤ 1048576) (hS : Small ds) (htot : totW name ds ≤ 1048576) (hname : name.size ≤ 1048576) :
    Calls Tryz.prog 10 #[.agg #[a0, a1, a2, a3], .string name, .slice A n c] w (GPost w name (ds.filter fun d => matchB d.fs q)) := by
  have hd := fun wx (hb : Below w.heap.size w wx) => docs_ref q hq a0 a1 a2 a3 A n c ds wx (hQ.grow hb) (hD.grow hb) hn hS
  have hln : (ds.filter fun d => matchB d.fs q).length ≤ 1048576 := Nat.le_trans (List.length_filter_le _ _) (by rw [hD.ln]; exact hn)
  have htf := Nat.le_trans (totW_filter name (fun d => matchB d.fs q) ds) htot
  have Hs : Hid (∀ d ∈ ds.filter (fun d => matchB d.fs q), ∀ f ∈ d.fs, f.2.size ≤ 1048576) := Lib.hid (fun d hd => (hS d (List.mem_filter.1 hd).1).2)
  obtain ⟨k0, nm, ws, l⟩ := q
  obtain ⟨WA, m, wc, CA, n1, c2, e, _⟩ := hQ.is
  simp only [List.cons.injEq, and_true] at e
  obtain ⟨rfl, rfl, rfl, rfl⟩ := e
  have hb1 : Below w.heap.size w (w.alloc (.cells #[.int .i64 k0, .string nm, .slice WA m wc, .slice CA n1 c2] 27)) := (Below.refl _ _).alloc (Nat.le_refl _) _
  have c1 := hd _ hb1
  have Hb1 := Lib.hid hb1
  clear hd hQ hD hS hq hb1
  generalize ds.filter (fun d => matchB d.fs (.mk k0 nm ws l)) = out at *
  go_enter Tryz.func10, Tryz.ntmps10
  go_wp2_with fail
  refine c1.mono ?_
  rintro e w2 ⟨A2, c3, rfl, hD2, _, hb2⟩
  have Hb2 := Lib.hid (Hb1.out.trans (hb2.mono Hb1.out.size))
  have c4 := rof_all name A2 out.length c3 out w2 hD2 hln Hs.out htf hname
  clear hD2 hb2 c1
  go_wp2_with fail
  refine c4.mono ?_
  rintro e w3 ⟨v, er, l3, rfl, h1, h2, h3, h4, hb3⟩
  have H := Lib.hid (And.intro h1 (And.intro h2 (And.intro h3 h4)))
  have Hb3 := Lib.hid (Hb2.out.trans (hb3.mono Hb2.out.size))
  clear c4 h1 h2 h3 h4 hb3
  go_wp2
  go_ret2
  exact ⟨v, er, l3, rfl, H.out.1, H.out.2.1, H.out.2.2.1, H.out.2.2.2, Hb3.out⟩

set_option maxHeartbeats 1000000 in
theorem groupCounts_walk (name : ByteArray) (A : Option Addr) (n c : Nat) (ds : List Dc) (q : Q) (hq : QSz q) (a0 a1 a2 a3 : Value) (w : World) (hD : DocsAt w w.heap.size A n ds) (hn : n ≤ 8796093021952) (hS0 : Small ds) (htot : totW name ds ≤ 1048576) (hname : name.size ≤ 1048576) (hQ : QAt w w.heap.size q [a0, a1, a2, a3]) :
    Calls Tryz.prog 3 #[.string name, .slice A n c, .agg #[a0, a1, a2, a3]] w fun e w' => e = .returned (.bool true) ∧ Below w.heap.size w w' := by
  have F1 := Lib.hid (fun wx (hb : Below w.heap.size w wx) => few_any A n c ds wx (hD.grow hb) hn)
  have F2 := Lib.hid (fun wx (hb : Below w.heap.size w wx) => Mk.rfew_any q hq a0 a1 a2 a3 wx (hQ.grow hb))
  have HSm : Hid (Small (ds.take 25)) := Lib.hid (fun d hd => hS0 d (List.mem_of_mem_take hd))
  have ht25 := Nat.le_trans (totW_le name ds 25) htot
  have hl25 : (ds.take 25).length ≤ 25 := by rw [List.length_take]; omega
  have G := Lib.hid (fun A c (dx : List Dc) wx (hb : Below w.heap.size w wx) (hDx : DocsAt wx wx.heap.size A dx.length dx) (h25 : dx.length ≤ 25) (hSx : Small dx) (ht : totW name dx ≤ 1048576) => gsome_any q hq a0 a1 a2 a3 name A dx.length c dx wx (hQ.grow hb) hDx (by omega) hSx ht hname)
  have R := Lib.hid (fun A c (dx : List Dc) wx (hb : Below w.heap.size w wx) (hDx : DocsAt wx wx.heap.size A dx.length dx) (h25 : dx.length ≤ 25) (hSx : Small dx) (ht : totW name dx ≤ 1048576) => rsome_any q hq a0 a1 a2 a3 name A dx.length c dx wx (hQ.grow hb) hDx (by omega) hSx ht hname)
  obtain ⟨k0, nm, ws, l⟩ := q
  obtain ⟨WA, m, wc, CA, n1, c2, e, _⟩ := hQ.is
  simp only [List.cons.injEq, and_true] at e
  obtain ⟨rfl, rfl, rfl, rfl⟩ := e
  have Hb0 : Hid (Below w.heap.size w (w.alloc (.cells #[.int .i64 k0, .string nm, .slice WA m wc, .slice CA n1 c2] 27))) := Lib.hid ((Below.refl _ _).alloc (Nat.le_refl _) _)
  have HB := Lib.hid (Blk.new w 27 #[.int .i64 k0, .string nm, .slice WA m wc, .slice CA n1 c2])
  have c1 := F1.out _ Hb0.out
  generalize hw0 : (w.alloc (.cells #[.int .i64 k0, .string nm, .slice WA m wc, .slice CA n1 c2] 27)) = w0 at *
  have hz0 : w.heap.size < w0.heap.size := by rw [← hw0]; simp
  clear hD hQ hS0 F1 hq htot
  go_enter Tryz.func3, Tryz.ntmps3
  go_wp2_with fail
  try rw [hw0]
  clear hw0
  refine c1.mono ?_
  rintro e w1 (⟨⟨v, rfl⟩, hb1⟩ | ⟨v, rfl, hO⟩)
  · have c2 := awake_any w1
    have Hb1 := Lib.hid (Hb0.out.trans (hb1.mono Hb0.out.size))
    clear c1 hb1
    go_wp2_with fail
    refine c2.mono ?_
    rintro e w2 ⟨rfl, hb2⟩
    have Hb2 := Lib.hid (Hb1.out.trans (hb2.mono Hb1.out.size))
    clear c2 hb2
    go_wp2
    go_ret
    exact ⟨rfl, Hb2.out⟩
  · have Hb1 := Lib.hid (Hb0.out.trans (hO.bel.mono Hb0.out.size))
    have HB1 := Lib.hid (HB.out.below hO.bel hz0)
    obtain ⟨A1, q1, rfl, hD1⟩ := hO.read
    have HD1 := Lib.hid hD1
    have hlt1 := HB1.out.lt
    have hk10 := HB1.out.cell 0
    have hk11 := HB1.out.cell 1
    have hk12 := HB1.out.cell 2
    have hk13 := HB1.out.cell 3
    simp only [List.getElem?_toArray, List.getElem?_cons_succ, List.getElem?_cons_zero] at hk10 hk11 hk12 hk13
    have c3 := F2.out _ Hb1.out
    clear c1 hO hD1 F2
    generalize ds.take 25 = dx at *
    generalize hqq : (Q.mk k0 nm ws l) = qq at *
    clear hqq
    go_wp2_with fail
    refine c3.mono ?_
    rintro e w2 ⟨⟨t, rfl, _⟩, hb2⟩
    have Hb2 := Lib.hid (Hb1.out.trans (hb2.mono Hb1.out.size))
    cases t with
    | false =>
      have c4 := awake_any w2
      clear c3 hb2 G R hk10 hk11 hk12 hk13
      go_wp2_with fail
      refine c4.mono ?_
      rintro e w4 ⟨rfl, hb4⟩
      have Hb4 := Lib.hid (Hb2.out.trans (hb4.mono Hb2.out.size))
      clear c4 hb4
      go_wp2
      go_ret
      exact ⟨rfl, Hb4.out⟩
    | true =>
      have HD2 := Lib.hid (HD1.out.grow hb2)
      have HB2 := Lib.hid (HB1.out.below hb2 hlt1)
      have c4 := gof_any name A1 dx.length q1 dx w2 HD2.out (by omega) (fun d hd => (HSm.out d hd).2) ht25 hname
      clear c3 hb2 hk10 hk11 hk12 hk13 HD1 HB1 hlt1
      go_wp2_with fail
      refine c4.mono ?_
      rintro e w3 ⟨va, ea, la, rfl, sa, na, ta, ua, hb3⟩
      have Hb3 := Lib.hid (Hb2.out.trans (hb3.mono Hb2.out.size))
      have HD3 := Lib.hid (HD2.out.grow hb3)
      have HB3 := Lib.hid (HB2.out.below hb3 HB2.out.lt)
      have SA3 := Lib.hid sa
      have TA := Lib.hid (And.intro ta ua)
      have c5 := rof_all name A1 dx.length q1 dx w3 HD3.out (by omega) (fun d hd => (HSm.out d hd).2) ht25 hname
      clear c4 sa ta ua hb3 HD2 HB2
      go_wp2_with fail
      refine c5.mono ?_
      rintro e w4 ⟨vb, eb, lb, rfl, sb, nb, tb, ub, hb4⟩
      have Hb4 := Lib.hid (Hb3.out.trans (hb4.mono Hb3.out.size))
      have HD4 := Lib.hid (HD3.out.grow hb4)
      have HB4 := Lib.hid (HB3.out.below hb4 HB3.out.lt)
      have SA4 := Lib.hid (SA3.out.grow hb4)
      have SB4 := Lib.hid sb
      obtain ⟨rfl, rfl⟩ := g_one TA.out.1 TA.out.2 tb ub
      have hk0 := HB4.out.cell 0
      have hk1 := HB4.out.cell 1
      have hk2 := HB4.out.cell 2
      have hk3 := HB4.out.cell 3
      simp only [List.getElem?_toArray, List.getElem?_cons_succ, List.getElem?_cons_zero] at hk0 hk1 hk2 hk3
      have c6 := G.out A1 q1 dx w4 Hb4.out HD4.out hl25 HSm.out ht25
      clear c5 sb tb ub hb4 HD3 HB3 SA3 TA G
      go_wp2_with fail
      refine c6.mono ?_
      rintro e w5 ⟨vc, ec, lc, rfl, sc, nc, tc, uc, hb5⟩
      have Hb5 := Lib.hid (Hb4.out.trans (hb5.mono Hb4.out.size))
      have HD5 := Lib.hid (HD4.out.grow hb5)
      have HB5 := Lib.hid (HB4.out.below hb5 HB4.out.lt)
      have SA5 := Lib.hid (SA4.out.grow hb5)
      have SB5 := Lib.hid (SB4.out.grow hb5)
      have SC5 := Lib.hid sc
      have TC := Lib.hid (And.intro tc uc)
      clear hk0 hk1 hk2 hk3
      have hk0 := HB5.out.cell 0
      have hk1 := HB5.out.cell 1
      have hk2 := HB5.out.cell 2
      have hk3 := HB5.out.cell 3
      simp only [List.getElem?_toArray, List.getElem?_cons_succ, List.getElem?_cons_zero] at hk0 hk1 hk2 hk3
      have c7 := R.out A1 q1 dx w5 Hb5.out HD5.out hl25 HSm.out ht25
      clear c6 sc tc uc hb5 HD4 HB4 SA4 SB4 R
      go_wp2_with fail
      refine c7.mono ?_
      rintro e w6 ⟨vd, ed, ld, rfl, sd, nd, td, ud, hb6⟩
      have Hb6 := Lib.hid (Hb5.out.trans (hb6.mono Hb5.out.size))
      have SA6 := SA5.out.grow hb6
      have SB6 := SB5.out.grow hb6
      have SC6 := Lib.hid (SC5.out.grow hb6)
      have SD6 := Lib.hid sd
      obtain ⟨rfl, rfl⟩ := g_one TC.out.1 TC.out.2 td ud
      obtain ⟨PA, pa, rfl, ra, _, _⟩ := SA6
      obtain ⟨PB, pb, rfl, rb, _, _⟩ := SB6
      have c8 := lsame_any PA PB pa pb _ _ la la w6 ra rb na na
      rw [decide_eq_true rfl] at c8
      clear c7 sd td ud hb6 HD5 HB5 SA5 SB5 SC5 TC hk0 hk1 hk2 hk3 ra rb HSm
      go_wp2_with fail
      refine c8.mono ?_
      rintro e w7 ⟨rfl, hb7⟩
      have Hb7 := Lib.hid (Hb6.out.trans (hb7.mono Hb6.out.size))
      obtain ⟨PC, pc, rfl, rc, _, _⟩ := SC6.out.grow hb7
      obtain ⟨PD, pd, rfl, rd, _, _⟩ := SD6.out.grow hb7
      have c9 := lsame_any PC PD pc pd _ _ lc lc w7 rc rd nc nc
      rw [decide_eq_true rfl] at c9
      clear c8 hb7 rc rd SC6 SD6
      go_wp2_with fail
      refine c9.mono ?_
      rintro e w8 ⟨rfl, hb8⟩
      have Hb8 := Lib.hid (Hb7.out.trans (hb8.mono Hb7.out.size))
      have c10 := awake_any w8
      clear c9 hb8
      go_wp2_with fail
      refine c10.mono ?_
      rintro e w9 ⟨rfl, hb9⟩
      have Hb9 := Lib.hid (Hb8.out.trans (hb9.mono Hb8.out.size))
      clear c10 hb9
      go_wp2
      go_ret
      exact ⟨by first | rfl | simp, Hb9.out⟩
end Go.Proofs.YtjeahdnbpiahaaaGreat.Gr
