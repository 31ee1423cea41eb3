/- loggialaw14.MemidxAdds: the walk (printed by gen_mxy.py). -/
import Derived.Deep.DeepCutAuto
import Derived.Deep.RegionHeld3
import Derived.Outline
import Derived.Test.YtioekhiaoajgfaaPkMemidxAddsRow35
import Derived.Test.YtioekhiaoajgfaaMxVPk
import Derived.Test.YtioekhiaoajgfaaPkMemidxAddsRow37
import Derived.Test.YtioekhiaoajgfaaGrowTPk
namespace Go.Proofs.Ytioekhiaoajgfaa.Mx
open Go.RowKit Go.Proofs.Ytioekhiaoajgfaa Go.Proofs.Ytioekhiaoajgfaa.Ut Go.Proofs.Ytioekhiaoajgfaa.Tk Go.Proofs.Ytioekhiaoajgfaa.Qy Go.Proofs.Ytioekhiaoajgfaa.Ev Go.Proofs.Ytioekhiaoajgfaa.Qp Go.Proofs.Ytioekhiaoajgfaa.Mv
set_option linter.unusedVariables false
set_option linter.unusedSimpArgs false
set_option maxRecDepth 40000

/-- Behind 'next, f := R.Add(r, l[k])'. -/
def CutR (w4 : World) (Rr : Nat → Prop) (B : Nat) (D : List Dc) (er : Int) (s10 s11 : Value) (wx : World) : Prop :=
  ∃ p A n c, s10 = .pointer (some ⟨p, 0, none⟩) ∧ s11 = .int .i64 er ∧ Blk wx p 30 #[.slice A n c] ∧ RIx wx (fun b => Rr b ∨ (w4.heap.size ≤ b ∧ b < wx.heap.size)) B A n c D ∧ Below w4.heap.size w4 wx ∧ w4.heap.size ≤ p
theorem cutR_1 {w4 w2 : World} {Rr : Nat → Prop} {B : Nat} {D : List Dc} {er : Int} {A : Option Addr} {n c : Nat} (hr : RIx w2 (fun b => Rr b ∨ (w4.drew.heap.size ≤ b ∧ b < w2.heap.size)) B A n c D) (hb : Below w4.drew.heap.size w4.drew w2) :
    CutR w4 Rr B D er (.pointer (some ⟨w2.heap.size, 0, none⟩)) (.int .i64 er) (w2.alloc (.cells #[.slice A n c] 30)) := by
  have hs : w4.heap.size ≤ w2.heap.size := hb.size
  have hba : Below w2.heap.size w2 (w2.alloc (.cells #[.slice A n c] 30)) := (Below.refl _ _).alloc (Nat.le_refl _) _
  have hsa := hba.size
  exact ⟨_, A, n, c, rfl, rfl, Blk.new w2 _ _, hr.below hba (fun b hb => hb.imp id (fun q => ⟨q.1, Nat.lt_of_lt_of_le q.2 hsa⟩)) (fun b hb => hb.elim (fun q => Nat.lt_of_lt_of_le (hr.lt b (.inl q)) hsa) (fun q => q.2)), ((Below.refl _ _).drew.trans hb).alloc hs _, hs⟩
theorem cutR_2 {w4 w2 : World} {Rr : Nat → Prop} {B : Nat} {D : List Dc} {er : Int} {A : Option Addr} {n c : Nat} (hB : B ≤ w4.heap.size) (hr : RIx w2 (fun b => Rr b ∨ ((w4.alloc (.cells #[.slice none 0 0] 30)).drew.heap.size ≤ b ∧ b < w2.heap.size)) B A n c D)
    (hb : Below (w4.alloc (.cells #[.slice none 0 0] 30)).drew.heap.size (w4.alloc (.cells #[.slice none 0 0] 30)).drew w2) :
    CutR w4 Rr B D er (.pointer (some ⟨w4.heap.size, 0, none⟩)) (.int .i64 er) (w2.setCell ⟨w4.heap.size, 0, none⟩ (.slice A n c)) := by
  have h1 : (w4.alloc (.cells #[.slice none 0 0] 30)).drew.heap.size = w4.heap.size + 1 := by simp
  have hs : w4.heap.size + 1 ≤ w2.heap.size := by have := hb.size; rw [h1] at this; exact this
  have hbx : Below w4.heap.size w4 w2 := ((Below.refl _ _).alloc (Nat.le_refl _) (.cells #[.slice none 0 0] 30)).drew.trans (hb.mono (by simp))
  have hk : Blk w2 w4.heap.size 30 #[.slice none 0 0] := ((Blk.new w4 _ _).drew).below hb (by simp)
  refine ⟨_, A, n, c, rfl, rfl, ?_, (hr.write hk hB _).below (Below.refl _ _) (fun b hb => hb.imp id (fun q => ⟨by rw [h1] at q; omega, by rw [size_setC]; exact q.2⟩)) (fun b hb => hb.elim (fun q => by rw [size_setC]; exact hr.lt b (.inl q)) (fun q => q.2)), hbx.setCell (p := ⟨w4.heap.size, 0, none⟩) (Nat.le_refl _) _, Nat.le_refl _⟩
  have := hk.set_ 0 (.slice A n c)
  simpa using this
set_option maxHeartbeats 6400000 in
theorem adds_walk (A0 : Option Addr) (n c : Nat) (L : List Bt) (i : Int) (w : World) (hB : BtsAt w (· < w.heap.size) w.heap.size A0 n c L) (hn : n ≤ 4398046511104) :
    Calls Try.prog 4 #[.slice A0 n c, .int .i64 i] w fun e w' => e = .returned (.bool true) ∧ Below w.heap.size w w' := by
  have C0 := Lib.hid (few_any A0 n c L w hB hn)
  clear hB
  go_enter Try.func4, Try.ntmps4
  go_wp2_with fail
  refine C0.out.mono ?_
  clear C0
  rintro e w1 (⟨rfl, hb1⟩ | ⟨v1, rfl, hv1, hb1⟩)
  · have HB1 := Lib.hid hb1
    clear hb1
    go_wp2_with fail
    refine (new_ix w1).mono ?_
    rintro e w2 ⟨X, rfl, hI, hb2⟩
    have HB2 := Lib.hid (HB1.out.trans (hb2.mono HB1.out.size))
    clear hI hb2
    go_wp2_with fail
    refine (awake_any w2).mono ?_
    rintro e w3 ⟨rfl, hb3⟩
    have HB3 := Lib.hid (HB2.out.trans (hb3.mono HB2.out.size))
    clear hb3
    go_wp2
    go_ret
    exact ⟨rfl, HB3.out⟩
  · obtain ⟨A1, c1, rfl, hL⟩ := hv1.read
    have HB1 := Lib.hid hb1
    have HL := Lib.hid hL
    have hm8 : (L.take 8).length ≤ 8 := by rw [List.length_take]; omega
    have hs1 := hb1.size
    clear hb1 hL hv1
    generalize L.take 8 = l at *
    go_wp2_with fail
    refine (new_ix w1).mono ?_
    rintro e w2 ⟨X, rfl, hI, hb2⟩
    have HB2 := Lib.hid hb2
    have hP0 := Pair.start (B := w.heap.size) hI hs1 hb2.size
    have HP0 := Lib.hid hP0
    have hb3 : Below w1.heap.size w1 (w2.alloc (.cells #[.slice none 0 0] 30)) := hb2.alloc hb2.size _
    have HB3 := Lib.hid hb3
    have hs2 := hb2.size
    clear hI hb2 hP0 hb3
    have HLR : Hid (∀ wx, Below w1.heap.size w1 wx → ∀ k (hk : k < l.length), ∃ b o E m q, A1 = some ⟨b, o, none⟩ ∧ b < w1.heap.size ∧ wx.cell? ⟨b, o + k * 2, none⟩ = some (.int .i64 l[k].1) ∧ wx.cell? ⟨b, o + k * 2 + 1, none⟩ = some (.slice E m q) ∧ EvsAt wx w.heap.size E m q l[k].2) := Lib.hid (fun wx hb k hk => by
      obtain ⟨b, o, E, m, q, e, hr, c0, c1, hE⟩ := HL.out.at_ hk
      exact ⟨b, o, E, m, q, e, hr.2, (hb.cell hr.2).trans c0, (hb.cell hr.2).trans c1, hE.keep (fun b o hlt => hb.cell (Nat.lt_of_lt_of_le hlt hs1))⟩)
    clear HL
    go_wp2_with fail
    generalize hR0 : w2.heap.size = R0 at *
    generalize hw3 : w2.alloc (.cells #[.slice none 0 0] 30) = w3 at *
    clear hw3 HB2
    go_loopw [8] (fun j wr => ∃ (k : Nat) (ds : List Dc) (O Rr : Nat → Prop) (A : Option Addr) (nA cA : Nat), k ≤ l.length ∧ j = .int .i64 (k : Nat) ∧ Hid (Pair wr w1.heap.size w.heap.size X R0 O Rr A nA cA ds) ∧ Hid (Below w1.heap.size w1 wr)) (fun j _ => l.length - (intOf j).toNat)
    case atStart => exact ⟨0, [], _, _, _, _, _, Nat.zero_le _, rfl, HP0, HB3⟩
    case round =>
      obtain ⟨k, ds, O, Rr, A, nA, cA, hk, rfl, HP, HW⟩ := hrel
      by_cases hlt : k < l.length
      · have hki : (k : Int) < (l.length : Int) := by omega
        have hki0 : (0 : Int) ≤ (k : Int) := by omega
        obtain ⟨b, o, E, m, q, rfl, hb, g0, g1, hE⟩ := HLR.out wr HW.out k hlt
        have hwr := HW.out.size
        have C1 := Lib.hid (add_walk l[k].1 E m q l[k].2 w1.heap.size X O ds wr HP.out.ix HP.out.hn (hE.more (Nat.le_trans hs1 hwr)))
        clear hE
        go_wp2_with fail
        refine C1.out.mono ?_
        rintro e w4 ⟨rfl, hI4, hc4⟩
        obtain ⟨hr4, hk4, hb4, hd4, hO4⟩ := HP.out.add hI4 hc4
        have hW4 : Below w1.heap.size w1 w4 := HW.out.trans hb4
        have hs4 := hb4.size
        have HI4 := Lib.hid hI4
        have HR4 := Lib.hid hr4
        have HK4 := Lib.hid hk4
        have HD4 := Lib.hid hd4
        have HO4 := Lib.hid hO4
        have HW4 := Lib.hid hW4
        have OK := Lib.hid (And.intro HP.out.ix.ok HP.out.ix.few)
        have hR0b := HP.out.hR
        obtain ⟨b', o', E', m', q', e', hb', g0', g1', hE'⟩ := HLR.out w4 hW4 k hlt
        injection e' with e'
        injection e' with e1 e2
        subst e1 e2
        have HE4 := Lib.hid hE'
        have q0 := hk4.cell 0
        simp only [List.getElem?_toArray, List.getElem?_cons_zero] at q0
        have hsz : R0 < w4.heap.size := hk4.lt
        have hbl : b < w4.heap.size := Nat.lt_of_lt_of_le hb (Nat.le_trans hwr hs4)
        have CA : Hid (∀ wx, Below w4.heap.size w4 wx → Calls Try.prog 15 #[.agg #[.slice A nA cA], .agg #[.int .i64 l[k].1, .slice E' m' q']] wx (RAddPost wx Rr w.heap.size ds l[k].1 l[k].2)) := Lib.hid (fun wx hC =>
          radd_any l[k].1 E' m' q' l[k].2 A nA cA ds Rr w.heap.size wx (HR4.out.below hC (fun b hb => hb) (fun b hb => Nat.lt_of_lt_of_le (HR4.out.lt b hb) hC.size)) (HE4.out.keep (fun b o hlt => hC.cell (by show b < _; omega))) OK.out.1 OK.out.2)
        clear hI4 hc4 hr4 hk4 hb4 hd4 hO4 g0 g1 hE' C1
        generalize l[k].1 = sq at *
        generalize l[k].2 = evs at *
        go_upto_region 10 with (fail)
        go_cut [10, 11] (fun s10 s11 wx => CutR w4 Rr w.heap.size (addD ds sq evs) (addE ds sq evs) s10 s11 wx)
        case first =>
          go_region_held3 (fun w' => w'.cell? ⟨R0, 0, none⟩ = some (.slice A nA cA) ∧ w'.cell? ⟨b, o + k * 2, none⟩ = some (.int .i64 sq) ∧ w'.cell? ⟨b, o + k * 2 + 1, none⟩ = some (.slice E' m' q'))
            (first
              | go_keep
              | exact ⟨h8, h9, h10⟩
              | exact ⟨(World.cell?_alloc_lt w2' _ ⟨R0, 0, none⟩ (World.block_lt_of_cell? w2' _ h8)).trans h8, (World.cell?_alloc_lt w2' _ ⟨b, o + k * 2, none⟩ (World.block_lt_of_cell? w2' _ h9)).trans h9, (World.cell?_alloc_lt w2' _ ⟨b, o + k * 2 + 1, none⟩ (World.block_lt_of_cell? w2' _ h10)).trans h10⟩
              | exact ⟨(((Below.refl w4.heap.size w2').setCell (p := ⟨w4.heap.size, 0, none⟩) (Nat.le_refl _) _).cell (p := ⟨R0, 0, none⟩) hsz).trans h8, (((Below.refl w4.heap.size w2').setCell (p := ⟨w4.heap.size, 0, none⟩) (Nat.le_refl _) _).cell (p := ⟨b, o + k * 2, none⟩) hbl).trans h9, (((Below.refl w4.heap.size w2').setCell (p := ⟨w4.heap.size, 0, none⟩) (Nat.le_refl _) _).cell (p := ⟨b, o + k * 2 + 1, none⟩) hbl).trans h10⟩)
            (first
              | (go_at_call 15; (with_reducible refine (CA.out _ ?hbb).mono ?_); (case hbb => exact ((Below.refl _ _).drew)); rintro e w2' ⟨A9, n9, c9, rfl, hr9, hb9⟩; have h8 : w2'.cell? ⟨R0, 0, none⟩ = some (.slice A nA cA) := (hb9.cell (p := ⟨R0, 0, none⟩) hsz).trans q0; have h9 : w2'.cell? ⟨b, o + k * 2, none⟩ = some (.int .i64 sq) := (hb9.cell (p := ⟨b, o + k * 2, none⟩) hbl).trans g0'; have h10 : w2'.cell? ⟨b, o + k * 2 + 1, none⟩ = some (.slice E' m' q') := (hb9.cell (p := ⟨b, o + k * 2 + 1, none⟩) hbl).trans g1')
              | (go_at_call 15; (with_reducible refine (CA.out _ ?hbb).mono ?_); (case hbb => exact (((Below.refl _ _).alloc (Nat.le_refl _) _).drew)); rintro e w2' ⟨A9, n9, c9, rfl, hr9, hb9⟩; have e0 : w2'.cell? ⟨w4.heap.size, 0, none⟩ = some (.slice none 0 0) := (hb9.cell (p := ⟨w4.heap.size, 0, none⟩) (by simp)).trans ((Blk.new w4 _ _).cell 0); have e1 : w2'.frozen? ⟨w4.heap.size, 0, none⟩ = false := (hb9.frozen (p := ⟨w4.heap.size, 0, none⟩) (by simp)).trans ((Blk.new w4 _ _).frozen 0); have h8 : w2'.cell? ⟨R0, 0, none⟩ = some (.slice A nA cA) := ((hb9.cell (p := ⟨R0, 0, none⟩) (by simp; omega)).trans (World.cell?_alloc_lt w4 _ ⟨R0, 0, none⟩ hsz)).trans q0; have h9 : w2'.cell? ⟨b, o + k * 2, none⟩ = some (.int .i64 sq) := ((hb9.cell (p := ⟨b, o + k * 2, none⟩) (by simp; omega)).trans (World.cell?_alloc_lt w4 _ ⟨b, o + k * 2, none⟩ hbl)).trans g0'; have h10 : w2'.cell? ⟨b, o + k * 2 + 1, none⟩ = some (.slice E' m' q') := ((hb9.cell (p := ⟨b, o + k * 2 + 1, none⟩) (by simp; omega)).trans (World.cell?_alloc_lt w4 _ ⟨b, o + k * 2 + 1, none⟩ hbl)).trans g1'))
          all_goals (go_wp2_with fail; go_meet)
          · exact cutR_1 hr9 hb9
          · exact cutR_2 (by omega) hr9 hb9
        case rest =>
        obtain ⟨x9, A9, n9, c9, rfl, rfl, hp7, hR7, h7, hp9⟩ := hcut
        rename World => w7
        have hb8 : w.heap.size ≤ x9 := by omega
        have hP8 := Pair.put HI4.out h7 hR7 HD4.out HK4.out HO4.out HP.out.hB (Nat.le_trans hwr hs4) hR0b
        have HP8 := Lib.hid hP8
        have HH7 := Lib.hid h7
        have hk7 := HK4.out.below h7 HK4.out.lt
        have q0 := hk7.cell 0
        have q0f := hk7.frozen 0
        have s0 := hp7.cell 0
        simp only [List.getElem?_toArray, List.getElem?_cons_zero] at q0 s0
        clear hR7 hp7 hP8 h7 hk7 CA
        go_upto_region 11 with (fail)
        go_upto_region 12 with (fail)
        generalize hw8 : (w7.setCell ⟨R0, 0, none⟩ (.slice A9 n9 c9)) = w8 at *
        have hb8' : Below w1.heap.size w1 w8 := by rw [← hw8]; exact (HW4.out.trans (HH7.out.mono (Nat.le_trans hwr hs4))).setCell (p := ⟨R0, 0, none⟩) hR0b _
        have HB8 := Lib.hid hb8'
        clear hw8 q0 q0f s0 hb8'
        have x0 := HP8.out.blk.cell 0
        simp only [List.getElem?_toArray, List.getElem?_cons_zero] at x0
        have hez : (addE ds sq evs != addE ds sq evs) = false := by simp
        have C8 := Lib.hid (same_any i HP8.out.ix HP8.out.rx)
        go_wp2_with fail
        refine C8.out.mono ?_
        rintro e w9 ⟨rfl, hb9⟩
        have HP9 := Lib.hid (HP8.out.below hb9)
        have HB9 := Lib.hid (HB8.out.trans (hb9.mono HB8.out.size))
        clear hb9 x0
        go_wp2_with fail
        go_roundw
        case rel => exact ⟨k + 1, _, _, _, _, _, _, by omega, by go_num, HP9, HB9⟩
        case measure => simp [intOf]; omega
      · obtain rfl : k = l.length := by omega
        have hx := HP.out.ix
        obtain ⟨M, cn, v, F, hIx, _⟩ := hx.ex
        have OK := Lib.hid hx.ok
        have hfew := hx.few
        have hna := HP.out.rx.rd.ln
        have hna1 : nA = ds.length := hna.symm
        subst hna1
        have HIX : Hid (∀ wx, Below wr.heap.size wr wx → Idx wx w1.heap.size X M cn v F (fun b => w1.heap.size ≤ b ∧ b < wx.heap.size) ds (szD ds) (loD ds) (hiD ds) (postsT (ds.map (·.fs)))) := Lib.hid (fun wx hb => hIx.later hb)
        have HRX := Lib.hid HP.out.rx.docs
        have HBK := Lib.hid HP.out.blk
        have Hc14 : Hid (∀ wx, Below wr.heap.size wr wx → wx.cell? ⟨R0, 0, none⟩ = some (.slice A ds.length cA)) := Lib.hid (fun wx hbx => by
          have k0 := (HBK.out.below hbx HBK.out.lt).cell 0
          simpa using k0)
        clear hx hIx hna
        go_upto_region 14 with (fail)
        refine wp_region_grow (specOf [(1, ⟨Option Addr × Nat, fun x => .slice x.1 ds.length x.2, fun x wz => DocRd wz x.1 ds.length ds⟩), (4, ⟨Unit, fun _ => .bool true, fun _ _ => True⟩), (6, ⟨Unit, fun _ => .bool true, fun _ _ => True⟩)]) (fun wx => Below (World.heap wr).size wr wx) (fun w1 w2 => Below w1.heap.size w1 w2) (by kernel_rfl) (by kernel_rfl) (stab_cons (fun x wa wb hg h => h.grow hg) (stab_cons (fun _ _ _ _ _ => trivial) (stab_cons (fun _ _ _ _ _ => trivial) (stab_nil)))) (Below.refl _ _).drew ?_
        refine grow_fix 1 ?_ rfl (by rfl) (by rfl) (fun wx hC hD => ?_) ?_
        rotate_left
        · have hSw := Hc14.out wx hC
          go_simp
          all_goals with_reducible rfl
        try simp only [Act.put, List.setIfInBounds_toArray, List.set_cons_zero, List.set_cons_succ]
        refine grow_give 2 _ rfl (by rfl) (by rfl) (fun wx hC hD => ?_) (fun x => ?_)
        · refine give_enter (f := ?_) (args := ?_) ?_ ?_
          rotate_left 2
          · have hSw := Hc14.out wx hC
            go_simp
            all_goals first | with_reducible rfl | (refine ⟨?_, ?_⟩ <;> with_reducible rfl)
          refine (docsX_any (HIX.out wx hC) OK.out hfew).mono ?_
          rintro e w9 ⟨v9, rfl, ho9, hb9⟩
          obtain ⟨A9, c9, rfl, hd9, _, _⟩ := ho9.read
          exact ⟨_, rfl, hb9, hC.trans (hb9.mono hC.size), (A9, c9), rfl, DocRd.of hd9 (fun b hb => hb.2) (fun b hb => hb.2.lt)⟩
        obtain ⟨A9, c9⟩ := x
        try simp only [Act.put, List.setIfInBounds_toArray, List.set_cons_zero, List.set_cons_succ]
        refine grow_fix 3 ?_ rfl (by rfl) (by rfl) (fun wx hC hD => ?_) ?_
        rotate_left
        · have hSw := Hc14.out wx hC
          go_simp
          all_goals with_reducible rfl
        try simp only [Act.put, List.setIfInBounds_toArray, List.set_cons_zero, List.set_cons_succ]
        refine grow_fix 4 ?_ rfl (by rfl) (by rfl) (fun wx hC hD => ?_) ?_
        rotate_left
        · have hSw := Hc14.out wx hC
          go_simp
          all_goals with_reducible rfl
        try simp only [Act.put, List.setIfInBounds_toArray, List.set_cons_zero, List.set_cons_succ]
        refine grow_give 5 _ rfl (by rfl) (by rfl) (fun wx hC hD => ?_) (fun x => ?_)
        · refine give_enter (f := ?_) (args := ?_) ?_ ?_
          rotate_left 2
          · have hSw := Hc14.out wx hC
            go_simp
            all_goals first | with_reducible rfl | (refine ⟨?_, ?_⟩ <;> with_reducible rfl)
          refine (sameDs_eq A9 A ds.length c9 cA ds wx (upd_hit (deps_get hD 1 (by kernel_rfl)) (by decide)) (HRX.out.grow hC) (by omega)).mono ?_
          rintro e w9 ⟨rfl, hb9⟩
          exact ⟨_, rfl, hb9, hC.trans (hb9.mono hC.size), (), rfl, trivial⟩
        obtain _ := x
        try simp only [Act.put, List.setIfInBounds_toArray, List.set_cons_zero, List.set_cons_succ]
        refine grow_fix 6 ?_ rfl (by rfl) (by rfl) (fun wx hC hD => ?_) ?_
        rotate_left
        · have hSw := Hc14.out wx hC
          go_simp
          all_goals with_reducible rfl
        try simp only [Act.put, List.setIfInBounds_toArray, List.set_cons_zero, List.set_cons_succ]
        refine grow_give 7 _ rfl (by rfl) (by rfl) (fun wx hC hD => ?_) (fun x => ?_)
        · refine give_enter (f := ?_) (args := ?_) ?_ ?_
          rotate_left 2
          · have hSw := Hc14.out wx hC
            go_simp
            all_goals first | with_reducible rfl | (refine ⟨?_, ?_⟩ <;> with_reducible rfl)
          refine (awake_any wx).mono ?_
          rintro e w9 ⟨rfl, hb9⟩
          exact ⟨_, rfl, hb9, hC.trans (hb9.mono hC.size), (), rfl, trivial⟩
        obtain _ := x
        try simp only [Act.put, List.setIfInBounds_toArray, List.set_cons_zero, List.set_cons_succ]
        refine grow_fix 8 ?_ rfl (by rfl) (by rfl) (fun wx hC hD => ?_) ?_
        rotate_left
        · have hSw := Hc14.out wx hC
          go_simp
          all_goals with_reducible rfl
        try simp only [Act.put, List.setIfInBounds_toArray, List.set_cons_zero, List.set_cons_succ]
        refine grow_fix 9 ?_ rfl (by rfl) (by rfl) (fun wx hC hD => ?_) ?_
        rotate_left
        · have hSw := Hc14.out wx hC
          go_simp
          all_goals with_reducible rfl
        try simp only [Act.put, List.setIfInBounds_toArray, List.set_cons_zero, List.set_cons_succ]
        refine grow_nil (fun wF hC hF => ?_)
        go_wp2
        go_ret
        exact ⟨rfl, (HB1.out.trans (HW.out.mono hs1)).trans (hC.mono (Nat.le_trans hs1 HW.out.size))⟩
end Go.Proofs.Ytioekhiaoajgfaa.Mx
