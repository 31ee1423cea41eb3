/- loggialaw14.MemidxPosts: the walk (seat k; printed by gen_mxpo.py). -/
import Derived.Test.YtioekhiaoajgfaaGreatMxPxPk
import Derived.Test.YtioekhiaoajgfaaGreatMxIsPk
import Derived.Test.YtioekhiaoajgfaaGreatMxRuPk
import Derived.Test.YtioekhiaoajgfaaGreatPkMemidxForksRow37
import Derived.Test.YtioekhiaoajgfaaGreatPkMemidxForksRow32
namespace Go.Proofs.YtioekhiaoajgfaaGreat.Mx
open Go.RowKit Go.Maps Go.Proofs.YtioekhiaoajgfaaGreat Go.Proofs.YtioekhiaoajgfaaGreat.Ut Go.Proofs.YtioekhiaoajgfaaGreat.Tk Go.Proofs.YtioekhiaoajgfaaGreat.Qy Go.Proofs.YtioekhiaoajgfaaGreat.Ev Go.Proofs.YtioekhiaoajgfaaGreat.Qp Go.Proofs.YtioekhiaoajgfaaGreat.Mv
set_option linter.unusedVariables false
set_option linter.unusedSimpArgs false
set_option maxRecDepth 40000

theorem PRow.rdP {w : World} {n0 : Nat} {v : Value} {l : List Po} (h : PRow w n0 v l) : ∃ A c, v = .slice A l.length c ∧ PostRd w A l.length l := by
  obtain ⟨xs, h1, h2, h3⟩ := h.ex
  obtain ⟨A, c, rfl, _⟩ := own_shape2 h2
  exact ⟨A, c, rfl, PostRd.of h rfl⟩
/-- All posts may be, and their documents rise. -/
theorem postsR_good (s : ByteArray) (whole : Bool) : ∀ (n : Nat) (ds : List (List Fl)), ds.length = n → n ≤ 65536 → (∀ fs ∈ ds, chkE fs = 0) → (∀ p ∈ postsR ds s whole, p.1 < ds.length ∧ GoodP p) ∧ (postsR ds s whole).Pairwise (fun x y => x.1 < y.1)
  | 0, ds, h, _, _ => by
    obtain rfl := List.length_eq_zero_iff.1 h
    exact ⟨fun p hp => (by cases hp), List.Pairwise.nil⟩
  | n + 1, ds, h, hn, hk => by
    obtain ⟨dl, d, rfl⟩ : ∃ dl d, ds = dl ++ [d] := by
      rcases List.eq_nil_or_concat ds with h0 | ⟨dl, d, h0⟩
      · subst h0; simp at h
      · exact ⟨dl, d, by rw [h0, List.concat_eq_append]⟩
    have hl : dl.length = n := by simpa using h
    obtain ⟨i1, i2⟩ := postsR_good s whole n dl hl (by omega) (fun fs hf => hk fs (List.mem_append_left _ hf))
    rw [postsR_snoc]
    have hone : ∀ p ∈ (postE s whole (d, dl.length)).toList, p.1 = dl.length ∧ GoodP p := fun p hp => by
      unfold postE at hp
      split at hp
      · cases hp
      · rename_i hne
        simp only [Option.toList_some, List.mem_singleton] at hp
        subst hp
        exact ⟨rfl, ⟨by show dl.length ≤ 65535; omega, hne, (ofE_up s whole d).1, ofE_bd (hk d (List.mem_append_right _ (List.mem_singleton.2 rfl))) s whole⟩⟩
    refine ⟨fun p hp => ?_, ?_⟩
    · rw [List.length_append, List.length_singleton]
      rcases List.mem_append.1 hp with h1 | h1
      · exact ⟨by have := (i1 p h1).1; omega, (i1 p h1).2⟩
      · exact ⟨by have := (hone p h1).1; omega, (hone p h1).2⟩
    · rw [List.pairwise_append]
      refine ⟨i2, ?_, fun x hx y hy => by rw [(hone y hy).1]; exact (i1 x hx).1⟩
      cases postE s whole (d, dl.length) <;> simp
/-- The terms, read. -/
def TermsQ (w : World) (TT : List ByteArray) (e : Ending) (w' : World) : Prop := ∃ A c, e = .returned (.slice A TT.length c) ∧ Reads w' w'.heap.size 1 A TT.length (TT.map Value.string) ∧ Below w.heap.size w w'
theorem terms_rd {w : World} {n0 X M cn : Nat} {v : Value} {F : ByteArray → Option Value} {O : Nat → Prop} {ds : List Dc} {sz lo hi : Int} (h : Idx w n0 X M cn v F O ds sz lo hi (postsT (ds.map (·.fs)))) (hcn : cn ≤ 4294967296) :
    Calls Tryz.prog 12 #[.pointer (some ⟨X, 0, none⟩)] w (TermsQ w (termsR (ds.map (·.fs)))) := by
  obtain ⟨dsF, hdF⟩ : ∃ dsF, ds.map (·.fs) = dsF := ⟨_, rfl⟩
  rw [hdF] at h ⊢
  have HKEY : ∀ s, (F s).isSome = true ↔ s ∈ termsR dsF := fun s => by
    rw [(termsR_up _ dsF rfl).2 s, ← postsT_ne]
    constructor
    · intro hs
      cases hF : F s with
      | none => rw [hF] at hs; cases hs
      | some u => exact (h.rows s u hF).2
    · intro hs
      cases hF : F s with
      | none => exact absurd (h.nof s hF) hs
      | some u => rfl
  refine (termsX_any h hcn).mono ?_
  rintro e w2 ⟨lt, v2, hlt, hnd, rfl, ho2, hb2⟩
  have hsort := sort_terms hnd (termsR_up _ dsF rfl).1 (fun x => (hlt x).trans (HKEY x))
  have hll : lt.length = (termsR dsF).length := by
    have := congrArg List.length hsort
    simpa using this
  have e1 : ((bts lt).mergeSort fun x y => decide (x ≤ y)).map encStr = (termsR dsF).map Value.string := by
    unfold bts
    rw [hsort, List.map_map]
    rfl
  rw [e1, hll] at ho2
  obtain ⟨AT, cT, rfl, hRT, _⟩ := own_shape2 ho2
  exact ⟨AT, cT, rfl, hRT, hb2⟩
theorem rterms_rd (A : Option Addr) (n c : Nat) (ds : List Dc) (Rr : Nat → Prop) (B : Nat) (w : World) (h : RIx w Rr B A n c ds) (hok : Dok ds) (hfew : ds.length ≤ 65536) :
    Calls Tryz.prog 13 #[.agg #[.slice A n c]] w (TermsQ w (termsR (ds.map (·.fs)))) := by
  refine (rtermsA_any A n c ds Rr B w h hok hfew).mono ?_
  rintro e w2 ⟨v, rfl, hs, hb⟩
  obtain ⟨A', c', rfl, h1, _⟩ := hs.ex
  exact ⟨A', c', rfl, h1, hb⟩
set_option maxHeartbeats 3200000 in
theorem posts_walk (A0 : Option Addr) (n c : Nat) (L : List Bt) (sA sB : ByteArray) (w : World) (hB : BtsAt w (· < w.heap.size) w.heap.size A0 n c L) (hn : n ≤ 4398046511104) (hsA : sA.size ≤ 140737488351232) (hsB : sB.size ≤ 140737488351232) :
    Calls Tryz.prog 3 #[.slice A0 n c, .string sA, .string sB] w fun e w' => e = .returned (.bool true) ∧ Below w.heap.size w w' := by
  have C0 := Lib.hid (few_any A0 n c L w hB hn)
  clear hB
  go_enter Tryz.func3, Tryz.ntmps3
  go_wp2_with fail
  refine C0.out.mono ?_
  clear C0
  rintro e w1 (⟨rfl, hb1⟩ | ⟨v1, rfl, hv1, hb1⟩)
  · have HB1 := Lib.hid hb1
    clear hb1
    go_wp2_with fail
    refine (awake_any w1).mono ?_
    rintro e w3 ⟨rfl, hb3⟩
    have HB3 := Lib.hid (HB1.out.trans (hb3.mono HB1.out.size))
    clear hb3
    go_wp2
    go_ret
    exact ⟨rfl, HB3.out⟩
  · obtain ⟨A1, c1, rfl, hL⟩ := hv1.read
    have HB1 := Lib.hid hb1
    have hm8 : (L.take 8).length ≤ 8 := by rw [List.length_take]; omega
    have hs1 := hb1.size
    have hL' : BtsAt w1 (· < w1.heap.size) w1.heap.size A1 (L.take 8).length c1 (L.take 8) := by
      obtain ⟨vss, q1, q2, q3⟩ := hL.ex
      exact ⟨hL.ln, hL.cap, vss, q1, q2.mono (fun b hb => hb.2), fun i a b => (q3 i a b).more hs1⟩
    have C2 := Lib.hid (filled_any A1 (L.take 8).length c1 (L.take 8) w1 hL' (by omega))
    clear hb1 hL hv1 hL'
    have CA := Lib.hid (short_any sA w1 hsA)
    have CB := Lib.hid (short_any sB w1 hsB)
    have h80 := cut80_len sA
    generalize L.take 8 = l at *
    go_wp2_with fail
    refine CA.out.mono ?_
    rintro e w1' ⟨rfl, rfl⟩
    clear CA
    generalize cut80 sA = tA at *
    go_wp2_with fail
    refine CB.out.mono ?_
    rintro e w1' ⟨rfl, rfl⟩
    clear CB
    have h80B := cut80_len sB
    generalize cut80 sB = tB at *
    go_wp2_with fail
    refine C2.out.mono ?_
    clear C2
    rintro e w4 ⟨n0, X, O, Rr, A2, n2, c2, hn0, rfl, hI, hR, _, hb4⟩
    generalize fillD l = ds at *
    have hb5 : Below w4.heap.size w4 (w4.alloc (.cells #[.slice A2 n2 c2] 30)) := (Below.refl _ _).alloc (Nat.le_refl _) _
    have hr0 := Blk.new w4 30 #[.slice A2 n2 c2]
    have H35 := Lib.hid (hb4.trans (hb5.mono hb4.size))
    have HR5 := Lib.hid (hR.below hb5 (fun b hb => hb) (fun b hb => Nat.lt_of_lt_of_le (hR.lt b hb) hb5.size))
    have HR0 := Lib.hid hr0
    have OK := Lib.hid hI.ok
    have hfew := hI.few
    have hn2 : n2 = ds.length := hR.rd.ln.symm
    subst hn2
    obtain ⟨M, cn, v, F, hIx, hcn⟩ := hI.ex
    have hcn2 : cn ≤ 4294967296 := by
      have h2 : ds.length * 65536 ≤ 65536 * 65536 := Nat.mul_le_mul_right _ hfew
      exact Nat.le_trans hcn h2
    have HI5 := Lib.hid (hIx.later hb5)
    clear hI hR hb4 hb5 hr0 hIx hcn
    have hpl := postsT_len (ds.map (·.fs)) tA
    rw [List.length_map] at hpl
    have C5 := Lib.hid (posts_any tA (by unfold maxLen; omega) HI5.out (by omega))
    go_wp2_with fail
    generalize hw5 : (w4.alloc (.cells #[.slice A2 ds.length c2] 30)) = w5 at *
    try rw [hw5]
    clear hw5
    have HB5 := Lib.hid (HB1.out.trans (H35.out.mono hs1))
    have hs35 := H35.out.size
    have hs5 := HB5.out.size
    refine C5.out.mono ?_
    clear C5
    rintro e w6 ⟨v6, rfl, hp6, hb6⟩
    obtain ⟨A6, c6, rfl, hr6⟩ := hp6.rdP
    have H56 := Lib.hid hb6
    have HP6 := Lib.hid hr6
    have hs6 := hb6.size
    have HI6 := Lib.hid (HI5.out.later hb6)
    have C6 := Lib.hid (prefix_any tB HI6.out OK.out hfew hcn2)
    clear hb6 hr6 hp6
    go_wp2_with fail
    refine C6.out.mono ?_
    clear C6
    rintro e w7 ⟨A7, c7, rfl, hr7, hb7⟩
    have H57 := Lib.hid (H56.out.trans (hb7.mono hs6))
    have hs57 := H57.out.size
    have hchk : ∀ fs ∈ ds.map (·.fs), chkE fs = 0 := fun fs hf => by
      obtain ⟨d, hd, rfl⟩ := List.mem_map.1 hf
      exact (OK.out d hd).1
    have hGP := postsR_good tA true _ (ds.map (·.fs)) rfl (by rw [List.length_map]; exact hfew) hchk
    have hGQ := postsR_good tB false _ (ds.map (·.fs)) rfl (by rw [List.length_map]; exact hfew) hchk
    have hql := postsR_len (ds.map (·.fs)) tB false
    rw [List.length_map] at hql
    rw [postsR_whole] at hGP
    have htl : (termsR (ds.map (·.fs))).length ≤ 4294967296 := by
      have h1 := termsR_len _ (ds.map (·.fs)) rfl hchk
      rw [List.length_map] at h1
      have h2 : ds.length * 65536 ≤ 65536 * 65536 := Nat.mul_le_mul_right _ hfew
      exact Nat.le_trans h1 h2
    have HPP : Hid (∀ wx, Below w7.heap.size w7 wx → PostRd wx A6 (postsT (ds.map (·.fs)) tA).length (postsT (ds.map (·.fs)) tA)) := Lib.hid (fun wx hb => HP6.out.grow (hb7.trans (hb.mono hb7.size)))
    have HQQ : Hid (∀ wx, Below w7.heap.size w7 wx → PostRd wx A7 (postsR (ds.map (·.fs)) tB false).length (postsR (ds.map (·.fs)) tB false)) := Lib.hid (fun wx hb => hr7.grow hb)
    have HRX : Hid (∀ wx, Below w7.heap.size w7 wx → RIx wx (fun b => b < wx.heap.size) w1.heap.size A2 ds.length c2 ds) := Lib.hid (fun wx hb => HR5.out.below (H57.out.trans (hb.mono hs57)) (fun b hb' => Nat.lt_of_lt_of_le (HR5.out.lt b hb') (H57.out.trans (hb.mono hs57)).size) (fun b hb => hb))
    have HTX : Hid (∀ wx, Below w7.heap.size w7 wx → Calls Tryz.prog 12 #[.pointer (some ⟨X, 0, none⟩)] wx (TermsQ wx (termsR (ds.map (·.fs))))) := Lib.hid (fun wx hb => terms_rd (HI5.out.later (H57.out.trans (hb.mono hs57))) hcn2)
    have HTR : Hid (∀ wx, Below w7.heap.size w7 wx → Calls Tryz.prog 13 #[.agg #[.slice A2 ds.length c2]] wx (TermsQ wx (termsR (ds.map (·.fs))))) := Lib.hid (fun wx hb => rterms_rd A2 ds.length c2 ds _ w1.heap.size wx (HRX.out wx hb) OK.out hfew)
    have HPR : Hid (∀ wx, Below w7.heap.size w7 wx → Calls Tryz.prog 15 #[.agg #[.slice A2 ds.length c2], .string tA, .bool true] wx (PostsQ wx (postsT (ds.map (·.fs)) tA))) := Lib.hid (fun wx hb => by
      have h := rposts_any A2 ds.length c2 ds _ w1.heap.size tA true wx (HRX.out wx hb) OK.out hfew (by omega)
      rw [postsR_whole] at h
      exact h)
    have HQR : Hid (∀ wx, Below w7.heap.size w7 wx → Calls Tryz.prog 15 #[.agg #[.slice A2 ds.length c2], .string tB, .bool false] wx (PostsQ wx (postsR (ds.map (·.fs)) tB false))) := Lib.hid (fun wx hb => rposts_any A2 ds.length c2 ds _ w1.heap.size tB false wx (HRX.out wx hb) OK.out hfew (by omega))
    have Hc10 : Hid (∀ wx, Below w7.heap.size w7 wx → wx.cell? ⟨w4.heap.size, 0, none⟩ = some (.slice A2 ds.length c2)) := Lib.hid (fun wx hb => by
      have k := (HR0.out.below (H57.out.trans (hb.mono hs57)) HR0.out.lt).cell 0
      simpa using k)
    have HGP := Lib.hid hGP
    have HGQ := Lib.hid hGQ
    clear hGP hGQ hchk hr7 hb7 HR5 HR0 HI5 HI6 HP6 HRX H56
    generalize postsT (ds.map (·.fs)) tA = P at *
    generalize postsR (ds.map (·.fs)) tB false = Q at *
    generalize termsR (ds.map (·.fs)) = TT at *
    go_upto_region 10 with (fail)
    refine wp_region_grow (specOf [(1, ⟨Option Addr × Nat, fun x => .slice x.1 TT.length x.2, fun x wz => Reads wz wz.heap.size 1 x.1 TT.length (TT.map Value.string)⟩), (3, ⟨Option Addr × Nat, fun x => .slice x.1 TT.length x.2, fun x wz => Reads wz wz.heap.size 1 x.1 TT.length (TT.map Value.string)⟩), (4, ⟨Unit, fun _ => .bool true, fun _ _ => True⟩), (9, ⟨Option Addr × Nat, fun x => .slice x.1 P.length x.2, fun x wz => PostRd wz x.1 P.length P⟩), (10, ⟨Unit, fun _ => .bool true, fun _ _ => True⟩), (16, ⟨Option Addr × Nat, fun x => .slice x.1 Q.length x.2, fun x wz => PostRd wz x.1 Q.length Q⟩), (17, ⟨Unit, fun _ => .bool true, fun _ _ => True⟩), (21, ⟨Unit, fun _ => .bool true, fun _ _ => True⟩), (25, ⟨Unit, fun _ => .bool true, fun _ _ => True⟩), (28, ⟨Unit, fun _ => .bool true, fun _ _ => True⟩)]) (fun wx => Below (World.heap w7).size w7 wx) (fun w1 w2 => Below w1.heap.size w1 w2) (by kernel_rfl) (by kernel_rfl) (stab_cons (fun x wa wb hg h => reads_gr hg h) (stab_cons (fun x wa wb hg h => reads_gr hg h) (stab_cons (fun _ _ _ _ _ => trivial) (stab_cons (fun x wa wb hg h => h.grow hg) (stab_cons (fun _ _ _ _ _ => trivial) (stab_cons (fun x wa wb hg h => h.grow hg) (stab_cons (fun _ _ _ _ _ => trivial) (stab_cons (fun _ _ _ _ _ => trivial) (stab_cons (fun _ _ _ _ _ => trivial) (stab_cons (fun _ _ _ _ _ => trivial) (stab_nil))))))))))) (Below.refl _ _).drew ?_
    refine grow_fix 1 ?_ rfl (by rfl) (by rfl) (fun wx hC hD => ?_) ?_
    rotate_left
    · have hSw := Hc10.out wx hC
      go_simp
      all_goals with_reducible rfl
    try simp only [Act.put, List.setIfInBounds_toArray, List.set_cons_zero, List.set_cons_succ]
    refine grow_give 2 _ rfl (by rfl) (by rfl) (fun wx hC hD => ?_) (fun x => ?_)
    · refine give_enter (f := ?_) (args := ?_) ?_ ?_
      rotate_left 2
      · have hSw := Hc10.out wx hC
        go_simp
        all_goals first | with_reducible rfl | (refine ⟨?_, ?_⟩ <;> with_reducible rfl)
      refine (HTX.out wx hC).mono ?_
      rintro e w9 ⟨A9, c9, rfl, hr9, hb9⟩
      exact ⟨_, rfl, hb9, hC.trans (hb9.mono hC.size), (A9, c9), rfl, hr9⟩
    obtain ⟨Aa, ca⟩ := x
    try simp only [Act.put, List.setIfInBounds_toArray, List.set_cons_zero, List.set_cons_succ]
    refine grow_fix 3 ?_ rfl (by rfl) (by rfl) (fun wx hC hD => ?_) ?_
    rotate_left
    · have hSw := Hc10.out wx hC
      go_simp
      all_goals with_reducible rfl
    try simp only [Act.put, List.setIfInBounds_toArray, List.set_cons_zero, List.set_cons_succ]
    refine grow_give 4 _ rfl (by rfl) (by rfl) (fun wx hC hD => ?_) (fun x => ?_)
    · refine give_enter (f := ?_) (args := ?_) ?_ ?_
      rotate_left 2
      · have hSw := Hc10.out wx hC
        go_simp
        all_goals first | with_reducible rfl | (refine ⟨?_, ?_⟩ <;> with_reducible rfl)
      refine (HTR.out wx hC).mono ?_
      rintro e w9 ⟨A9, c9, rfl, hr9, hb9⟩
      exact ⟨_, rfl, hb9, hC.trans (hb9.mono hC.size), (A9, c9), rfl, hr9⟩
    obtain ⟨Ab, cb⟩ := x
    try simp only [Act.put, List.setIfInBounds_toArray, List.set_cons_zero, List.set_cons_succ]
    refine grow_give 5 _ rfl (by rfl) (by rfl) (fun wx hC hD => ?_) (fun x => ?_)
    · refine give_enter (f := ?_) (args := ?_) ?_ ?_
      rotate_left 2
      · have hSw := Hc10.out wx hC
        go_simp
        all_goals first | with_reducible rfl | (refine ⟨?_, ?_⟩ <;> with_reducible rfl)
      refine (sameW_eq Aa Ab TT.length ca cb TT wx (upd_hit (upd_miss (deps_get hD 1 (by kernel_rfl)) (by decide)) (by decide)) (upd_hit (deps_get hD 3 (by kernel_rfl)) (by decide)) rfl (by omega)).mono ?_
      rintro e w9 ⟨rfl, hb9⟩
      exact ⟨_, rfl, hb9, hC.trans (hb9.mono hC.size), (), rfl, trivial⟩
    obtain _ := x
    try simp only [Act.put, List.setIfInBounds_toArray, List.set_cons_zero, List.set_cons_succ]
    refine grow_fix 6 ?_ rfl (by rfl) (by rfl) (fun wx hC hD => ?_) ?_
    rotate_left
    · have hSw := Hc10.out wx hC
      go_simp
      all_goals with_reducible rfl
    try simp only [Act.put, List.setIfInBounds_toArray, List.set_cons_zero, List.set_cons_succ]
    refine grow_fix 7 ?_ rfl (by rfl) (by rfl) (fun wx hC hD => ?_) ?_
    rotate_left
    · have hSw := Hc10.out wx hC
      go_simp
      all_goals with_reducible rfl
    try simp only [Act.put, List.setIfInBounds_toArray, List.set_cons_zero, List.set_cons_succ]
    refine grow_fix 8 ?_ rfl (by rfl) (by rfl) (fun wx hC hD => ?_) ?_
    rotate_left
    · have hSw := Hc10.out wx hC
      go_simp
      all_goals with_reducible rfl
    try simp only [Act.put, List.setIfInBounds_toArray, List.set_cons_zero, List.set_cons_succ]
    refine grow_fix 9 ?_ rfl (by rfl) (by rfl) (fun wx hC hD => ?_) ?_
    rotate_left
    · have hSw := Hc10.out wx hC
      go_simp
      all_goals with_reducible rfl
    try simp only [Act.put, List.setIfInBounds_toArray, List.set_cons_zero, List.set_cons_succ]
    refine grow_give 10 _ rfl (by rfl) (by rfl) (fun wx hC hD => ?_) (fun x => ?_)
    · refine give_enter (f := ?_) (args := ?_) ?_ ?_
      rotate_left 2
      · have hSw := Hc10.out wx hC
        go_simp
        all_goals first | with_reducible rfl | (refine ⟨?_, ?_⟩ <;> with_reducible rfl)
      refine (HPR.out wx hC).mono ?_
      rintro e w9 ⟨A9, c9, rfl, hr9, hb9⟩
      exact ⟨_, rfl, hb9, hC.trans (hb9.mono hC.size), (A9, c9), rfl, hr9⟩
    obtain ⟨Ac, cc⟩ := x
    try simp only [Act.put, List.setIfInBounds_toArray, List.set_cons_zero, List.set_cons_succ]
    refine grow_give 11 _ rfl (by rfl) (by rfl) (fun wx hC hD => ?_) (fun x => ?_)
    · refine give_enter (f := ?_) (args := ?_) ?_ ?_
      rotate_left 2
      · have hSw := Hc10.out wx hC
        go_simp
        all_goals first | with_reducible rfl | (refine ⟨?_, ?_⟩ <;> with_reducible rfl)
      refine (sameP_eq A6 Ac P.length c6 cc P wx (HPP.out wx hC) (upd_hit (deps_get hD 9 (by kernel_rfl)) (by decide)) (by omega)).mono ?_
      rintro e w9 ⟨rfl, hb9⟩
      exact ⟨_, rfl, hb9, hC.trans (hb9.mono hC.size), (), rfl, trivial⟩
    obtain _ := x
    try simp only [Act.put, List.setIfInBounds_toArray, List.set_cons_zero, List.set_cons_succ]
    refine grow_fix 12 ?_ rfl (by rfl) (by rfl) (fun wx hC hD => ?_) ?_
    rotate_left
    · have hSw := Hc10.out wx hC
      go_simp
      all_goals with_reducible rfl
    try simp only [Act.put, List.setIfInBounds_toArray, List.set_cons_zero, List.set_cons_succ]
    refine grow_fix 13 ?_ rfl (by rfl) (by rfl) (fun wx hC hD => ?_) ?_
    rotate_left
    · have hSw := Hc10.out wx hC
      go_simp
      all_goals with_reducible rfl
    try simp only [Act.put, List.setIfInBounds_toArray, List.set_cons_zero, List.set_cons_succ]
    refine grow_fix 14 ?_ rfl (by rfl) (by rfl) (fun wx hC hD => ?_) ?_
    rotate_left
    · have hSw := Hc10.out wx hC
      go_simp
      all_goals with_reducible rfl
    try simp only [Act.put, List.setIfInBounds_toArray, List.set_cons_zero, List.set_cons_succ]
    refine grow_fix 15 ?_ rfl (by rfl) (by rfl) (fun wx hC hD => ?_) ?_
    rotate_left
    · have hSw := Hc10.out wx hC
      go_simp
      all_goals with_reducible rfl
    try simp only [Act.put, List.setIfInBounds_toArray, List.set_cons_zero, List.set_cons_succ]
    refine grow_fix 16 ?_ rfl (by rfl) (by rfl) (fun wx hC hD => ?_) ?_
    rotate_left
    · have hSw := Hc10.out wx hC
      go_simp
      all_goals with_reducible rfl
    try simp only [Act.put, List.setIfInBounds_toArray, List.set_cons_zero, List.set_cons_succ]
    refine grow_give 17 _ rfl (by rfl) (by rfl) (fun wx hC hD => ?_) (fun x => ?_)
    · refine give_enter (f := ?_) (args := ?_) ?_ ?_
      rotate_left 2
      · have hSw := Hc10.out wx hC
        go_simp
        all_goals first | with_reducible rfl | (refine ⟨?_, ?_⟩ <;> with_reducible rfl)
      refine (HQR.out wx hC).mono ?_
      rintro e w9 ⟨A9, c9, rfl, hr9, hb9⟩
      exact ⟨_, rfl, hb9, hC.trans (hb9.mono hC.size), (A9, c9), rfl, hr9⟩
    obtain ⟨Ad, cd⟩ := x
    try simp only [Act.put, List.setIfInBounds_toArray, List.set_cons_zero, List.set_cons_succ]
    refine grow_give 18 _ rfl (by rfl) (by rfl) (fun wx hC hD => ?_) (fun x => ?_)
    · refine give_enter (f := ?_) (args := ?_) ?_ ?_
      rotate_left 2
      · have hSw := Hc10.out wx hC
        go_simp
        all_goals first | with_reducible rfl | (refine ⟨?_, ?_⟩ <;> with_reducible rfl)
      refine (sameP_eq A7 Ad Q.length c7 cd Q wx (HQQ.out wx hC) (upd_hit (deps_get hD 16 (by kernel_rfl)) (by decide)) (by omega)).mono ?_
      rintro e w9 ⟨rfl, hb9⟩
      exact ⟨_, rfl, hb9, hC.trans (hb9.mono hC.size), (), rfl, trivial⟩
    obtain _ := x
    try simp only [Act.put, List.setIfInBounds_toArray, List.set_cons_zero, List.set_cons_succ]
    refine grow_fix 19 ?_ rfl (by rfl) (by rfl) (fun wx hC hD => ?_) ?_
    rotate_left
    · have hSw := Hc10.out wx hC
      go_simp
      all_goals with_reducible rfl
    try simp only [Act.put, List.setIfInBounds_toArray, List.set_cons_zero, List.set_cons_succ]
    refine grow_fix 20 ?_ rfl (by rfl) (by rfl) (fun wx hC hD => ?_) ?_
    rotate_left
    · have hSw := Hc10.out wx hC
      go_simp
      all_goals with_reducible rfl
    try simp only [Act.put, List.setIfInBounds_toArray, List.set_cons_zero, List.set_cons_succ]
    refine grow_fix 21 ?_ rfl (by rfl) (by rfl) (fun wx hC hD => ?_) ?_
    rotate_left
    · have hSw := Hc10.out wx hC
      go_simp
      all_goals with_reducible rfl
    try simp only [Act.put, List.setIfInBounds_toArray, List.set_cons_zero, List.set_cons_succ]
    refine grow_give 22 _ rfl (by rfl) (by rfl) (fun wx hC hD => ?_) (fun x => ?_)
    · refine give_enter (f := ?_) (args := ?_) ?_ ?_
      rotate_left 2
      · have hSw := Hc10.out wx hC
        go_simp
        all_goals first | with_reducible rfl | (refine ⟨?_, ?_⟩ <;> with_reducible rfl)
      refine (is_any A6 P.length c6 P wx (HPP.out wx hC) (by omega) (fun p hp => (HGP.out.1 p hp).2) HGP.out.2).mono ?_
      rintro e w9 ⟨rfl, hb9⟩
      exact ⟨_, rfl, hb9, hC.trans (hb9.mono hC.size), (), rfl, trivial⟩
    obtain _ := x
    try simp only [Act.put, List.setIfInBounds_toArray, List.set_cons_zero, List.set_cons_succ]
    refine grow_fix 23 ?_ rfl (by rfl) (by rfl) (fun wx hC hD => ?_) ?_
    rotate_left
    · have hSw := Hc10.out wx hC
      go_simp
      all_goals with_reducible rfl
    try simp only [Act.put, List.setIfInBounds_toArray, List.set_cons_zero, List.set_cons_succ]
    refine grow_fix 24 ?_ rfl (by rfl) (by rfl) (fun wx hC hD => ?_) ?_
    rotate_left
    · have hSw := Hc10.out wx hC
      go_simp
      all_goals with_reducible rfl
    try simp only [Act.put, List.setIfInBounds_toArray, List.set_cons_zero, List.set_cons_succ]
    refine grow_fix 25 ?_ rfl (by rfl) (by rfl) (fun wx hC hD => ?_) ?_
    rotate_left
    · have hSw := Hc10.out wx hC
      go_simp
      all_goals with_reducible rfl
    try simp only [Act.put, List.setIfInBounds_toArray, List.set_cons_zero, List.set_cons_succ]
    refine grow_give 26 _ rfl (by rfl) (by rfl) (fun wx hC hD => ?_) (fun x => ?_)
    · refine give_enter (f := ?_) (args := ?_) ?_ ?_
      rotate_left 2
      · have hSw := Hc10.out wx hC
        go_simp
        all_goals first | with_reducible rfl | (refine ⟨?_, ?_⟩ <;> with_reducible rfl)
      refine (is_any A7 Q.length c7 Q wx (HQQ.out wx hC) (by omega) (fun p hp => (HGQ.out.1 p hp).2) HGQ.out.2).mono ?_
      rintro e w9 ⟨rfl, hb9⟩
      exact ⟨_, rfl, hb9, hC.trans (hb9.mono hC.size), (), rfl, trivial⟩
    obtain _ := x
    try simp only [Act.put, List.setIfInBounds_toArray, List.set_cons_zero, List.set_cons_succ]
    refine grow_fix 27 ?_ rfl (by rfl) (by rfl) (fun wx hC hD => ?_) ?_
    rotate_left
    · have hSw := Hc10.out wx hC
      go_simp
      all_goals with_reducible rfl
    try simp only [Act.put, List.setIfInBounds_toArray, List.set_cons_zero, List.set_cons_succ]
    refine grow_fix 28 ?_ rfl (by rfl) (by rfl) (fun wx hC hD => ?_) ?_
    rotate_left
    · have hSw := Hc10.out wx hC
      go_simp
      all_goals with_reducible rfl
    try simp only [Act.put, List.setIfInBounds_toArray, List.set_cons_zero, List.set_cons_succ]
    refine grow_give 29 _ rfl (by rfl) (by rfl) (fun wx hC hD => ?_) (fun x => ?_)
    · refine give_enter (f := ?_) (args := ?_) ?_ ?_
      rotate_left 2
      · have hSw := Hc10.out wx hC
        go_simp
        all_goals first | with_reducible rfl | (refine ⟨?_, ?_⟩ <;> with_reducible rfl)
      refine (awake_any wx).mono ?_
      rintro e w9 ⟨rfl, hb9⟩
      exact ⟨_, rfl, hb9, hC.trans (hb9.mono hC.size), (), rfl, trivial⟩
    obtain _ := x
    try simp only [Act.put, List.setIfInBounds_toArray, List.set_cons_zero, List.set_cons_succ]
    refine grow_fix 30 ?_ rfl (by rfl) (by rfl) (fun wx hC hD => ?_) ?_
    rotate_left
    · have hSw := Hc10.out wx hC
      go_simp
      all_goals with_reducible rfl
    try simp only [Act.put, List.setIfInBounds_toArray, List.set_cons_zero, List.set_cons_succ]
    refine grow_fix 31 ?_ rfl (by rfl) (by rfl) (fun wx hC hD => ?_) ?_
    rotate_left
    · have hSw := Hc10.out wx hC
      go_simp
      all_goals with_reducible rfl
    try simp only [Act.put, List.setIfInBounds_toArray, List.set_cons_zero, List.set_cons_succ]
    refine grow_nil (fun w10 hC hF => ?_)
    have HF := Lib.hid (HB5.out.trans ((H57.out.trans (hC.mono hs57)).mono hs5))
    clear hF hC
    go_wp2_with fail
    go_ret
    exact ⟨rfl, HF.out⟩
end Go.Proofs.YtioekhiaoajgfaaGreat.Mx
