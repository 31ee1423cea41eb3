/- loggialaw14.MemidxForks: the walk (seat k; printed by gen_mxx.py). -/
import Derived.Test.YtioekhiaoajgfaaGreatMxFkPk
import Derived.Test.YtioekhiaoajgfaaGreatPkMemidxForksRow32
import Derived.Test.YtioekhiaoajgfaaGreatPkMemidxForksRow33
import Derived.Test.YtioekhiaoajgfaaGreatMxOPk
import Derived.Test.YtioekhiaoajgfaaGreatPkMemidxForksRow37
namespace Go.Proofs.YtioekhiaoajgfaaGreat.Mx
open Go.RowKit Go.Maps Go.Proofs.YtioekhiaoajgfaaGreat Go.Proofs.YtioekhiaoajgfaaGreat.Ut Go.Proofs.YtioekhiaoajgfaaGreat.Tk Go.Proofs.YtioekhiaoajgfaaGreat.Qy Go.Proofs.YtioekhiaoajgfaaGreat.Ev Go.Proofs.YtioekhiaoajgfaaGreat.Qp Go.Proofs.YtioekhiaoajgfaaGreat.Mv
set_option linter.unusedVariables false
set_option linter.unusedSimpArgs false
set_option maxRecDepth 40000

theorem PRow.rd {w : World} {n0 : Nat} {v : Value} {l : List Po} (h : PRow w n0 v l) : ∃ A c, v = .slice A l.length c ∧ PostRd w A l.length l := by
  obtain ⟨xs, h1, h2, h3⟩ := h.ex
  obtain ⟨A, c, rfl, _⟩ := own_shape2 h2
  exact ⟨A, c, rfl, PostRd.of h rfl⟩
theorem RIx.docs {w : World} {Rr : Nat → Prop} {B : Nat} {A : Option Addr} {n c : Nat} {ds : List Dc} (h : RIx w Rr B A n c ds) : DocRd w A n ds :=
  DocRd.of h.rd h.lt (fun b hb => hb.elim (h.lt b) (fun q => Nat.lt_of_lt_of_le q h.bw))
theorem terms_nil {w : World} {n0 X M : Nat} {v : Value} {O : Nat → Prop} {ds : List Dc} {sz lo hi : Int} {f : ByteArray → List Po} (h : Idx w n0 X M 0 v noV O ds sz lo hi f) : Calls Tryz.prog 12 #[.pointer (some ⟨X, 0, none⟩)] w fun e w' => (∃ A c, e = .returned (.slice A 0 c)) ∧ Below w.heap.size w w' := by
  refine (termsX_any h (by omega)).mono ?_
  rintro e w' ⟨l, v', hl, _, rfl, ho, hb⟩
  have hn : l = [] := by
    cases l with
    | nil => rfl
    | cons s l =>
      have := (hl s).1 (List.mem_cons_self ..)
      cases this
  subst hn
  obtain ⟨A, c, rfl, _⟩ := own_shape2 ho
  exact ⟨⟨A, c, rfl⟩, hb⟩
theorem BtsAt.grow {w w' : World} {Rr : Nat → Prop} {B n c : Nat} {A : Option Addr} {l : List Bt} (h : BtsAt w Rr B A n c l) (hR : ∀ b, Rr b → b < w.heap.size) (hB : B ≤ w.heap.size) (hb : Below w.heap.size w w') : BtsAt w' (· < w'.heap.size) w'.heap.size A n c l := by
  have h2 := h.keep (w' := w') (fun b o hr => hb.cell (hR b hr)) (fun b o hlt => hb.cell (Nat.lt_of_lt_of_le hlt hB))
  obtain ⟨vss, q1, q2, q3⟩ := h2.ex
  exact ⟨h2.ln, h2.cap, vss, q1, q2.mono (fun b hr => Nat.lt_of_lt_of_le (hR b hr) hb.size), fun i a b => (q3 i a b).more (Nat.le_trans hB hb.size)⟩
set_option maxHeartbeats 3200000 in
theorem forks_walk (A0 : Option Addr) (n c : Nat) (L : List Bt) (sq : Int) (E : Option Addr) (m q : Nat) (evs : List Evn) (s : ByteArray) (w : World) (hB : BtsAt w (· < w.heap.size) w.heap.size A0 n c L) (hn : n ≤ 4398046511104) (hE : EvsAt w w.heap.size E m q evs) (hs : s.size ≤ 140737488351232) :
    Calls Tryz.prog 4 #[.slice A0 n c, .agg #[.int .i64 sq, .slice E m q], .string s] w fun e w' => e = .returned (.bool true) ∧ Below w.heap.size w w' := by
  have hb0 : Below w.heap.size w (w.alloc (.cells #[.int .i64 sq, .slice E m q] 45)) := (Below.refl _ _).alloc (Nat.le_refl _) _
  have hX0 := Blk.new w 45 #[.int .i64 sq, .slice E m q]
  have C0 := Lib.hid (few_any A0 n c L _ (hB.grow (fun b hb => hb) (Nat.le_refl _) hb0) hn)
  have HE := Lib.hid hE
  have HB0 := Lib.hid hb0
  have HX0 := Lib.hid hX0
  clear hB hE hb0 hX0
  go_enter Tryz.func4, Tryz.ntmps4
  go_upto_region 1 with fail
  generalize hw0 : (w.alloc (.cells #[.int .i64 sq, .slice E m q] 45)) = w0 at *
  try rw [hw0]
  clear hw0
  have hs0 := HB0.out.size
  go_wp2_with fail
  refine C0.out.mono ?_
  clear C0
  have SEC : Hid (∀ w1, Below w0.heap.size w0 w1 → w1.cell? ⟨w.heap.size, 0, none⟩ = some (.int .i64 sq) ∧ w1.cell? ⟨w.heap.size, 1, none⟩ = some (.slice E m q) ∧ Below w1.heap.size w1 (w1.alloc (.cells #[.int .i64 sq, .slice E m q] 45)) ∧
      Calls Tryz.prog 5 #[.slice (some ⟨w1.heap.size, 0, none⟩) 1 1] (w1.alloc (.cells #[.int .i64 sq, .slice E m q] 45)) (FewE (w1.alloc (.cells #[.int .i64 sq, .slice E m q] 45)) [(sq, evs)])) := Lib.hid (fun w1 hb1 => by
    have k := HX0.out.below hb1 HX0.out.lt
    have k0 := k.cell 0
    have k1 := k.cell 1
    simp only [List.getElem?_toArray, List.getElem?_cons_zero, List.getElem?_cons_succ] at k0 k1
    have hb2 : Below w1.heap.size w1 (w1.alloc (.cells #[.int .i64 sq, .slice E m q] 45)) := (Below.refl _ _).alloc (Nat.le_refl _) _
    have hw2 : Below w.heap.size w (w1.alloc (.cells #[.int .i64 sq, .slice E m q] 45)) := (HB0.out.trans (hb1.mono hs0)).trans (hb2.mono (HB0.out.trans (hb1.mono hs0)).size)
    refine ⟨k0, k1, hb2, few_any _ 1 1 [(sq, evs)] _ ⟨rfl, Nat.le_refl _, [[.int .i64 sq, .slice E m q]], rfl, reads_s (Rg.new_row (k := 2) w1 45 [.int .i64 sq, .slice E m q] 1 rfl (by omega)), fun i h1 h2 => ?_⟩ (by omega)⟩
    match i, h1, h2 with
    | 0, _, _ => exact ⟨E, m, q, rfl, HE.out.grow hw2⟩
    | i + 1, h1, _ => exact absurd h1 (by simp))
  rintro e w1 (⟨rfl, hb1⟩ | ⟨v1, rfl, hv1, hb1⟩)
  · obtain ⟨k0, k1, hb2, C2⟩ := SEC.out w1 hb1
    have HB2 := Lib.hid (HB0.out.trans ((hb1.trans (hb2.mono hb1.size)).mono hs0))
    have C2 := Lib.hid C2
    clear hb1 hb2
    go_wp2_with fail
    refine C2.out.mono ?_
    clear C2
    rintro e w3 (⟨rfl, hb3⟩ | ⟨v3, rfl, hv3, hb3⟩)
    · have HB3 := Lib.hid (HB2.out.trans (hb3.mono HB2.out.size))
      clear hb3
      go_wp2_with fail
      refine (awake_any w3).mono ?_
      rintro e wf ⟨rfl, hbf⟩
      have HF := Lib.hid (HB3.out.trans (hbf.mono HB3.out.size))
      clear hbf
      go_wp2
      go_ret
      exact ⟨rfl, HF.out⟩
    · have HB3 := Lib.hid (HB2.out.trans (hb3.mono HB2.out.size))
      obtain ⟨A3, c3, rfl, _⟩ := hv3.read
      clear hb3 hv3
      go_wp2_with fail
      refine (awake_any w3).mono ?_
      rintro e wf ⟨rfl, hbf⟩
      have HF := Lib.hid (HB3.out.trans (hbf.mono HB3.out.size))
      clear hbf
      go_wp2
      go_ret
      exact ⟨rfl, HF.out⟩
  · obtain ⟨A1, c1, rfl, hL1⟩ := hv1.read
    obtain ⟨k0, k1, hb2, C2⟩ := SEC.out w1 hb1
    have HB1 := Lib.hid hb1
    have HL1 := Lib.hid hL1
    have hs1 := hb1.size
    have HB2 := Lib.hid (HB0.out.trans ((hb1.trans (hb2.mono hb1.size)).mono hs0))
    have H12 := Lib.hid hb2
    have C2 := Lib.hid C2
    have hm8 : (L.take 8).length ≤ 8 := by rw [List.length_take]; omega
    clear hb1 hb2 hv1 hL1 SEC
    generalize L.take 8 = l at *
    go_wp2_with fail
    refine C2.out.mono ?_
    clear C2
    rintro e w3 (⟨rfl, hb3⟩ | ⟨v3, rfl, hv3, hb3⟩)
    · have HB3 := Lib.hid (HB2.out.trans (hb3.mono HB2.out.size))
      clear hb3
      go_wp2_with fail
      refine (awake_any w3).mono ?_
      rintro e wf ⟨rfl, hbf⟩
      have HF := Lib.hid (HB3.out.trans (hbf.mono HB3.out.size))
      clear hbf
      go_wp2
      go_ret
      exact ⟨rfl, HF.out⟩
    · obtain ⟨A3, c3, rfl, hL3⟩ := hv3.read
      have hln3 : (([(sq, evs)] : List Bt).take 8).length = 1 := rfl
      rw [hln3] at hL3 ⊢
      have HB3 := Lib.hid (HB2.out.trans (hb3.mono HB2.out.size))
      have H13 := Lib.hid (H12.out.trans (hb3.mono H12.out.size))
      have HL3 : Hid (BtsAt w3 (fun b => b < w3.heap.size) w3.heap.size A3 1 c3 [(sq, evs)]) := Lib.hid (by
        have h := hL3.grow (fun b hb => hb.2) (by have := hb3.size; omega) (Below.refl w3.heap.size w3)
        exact h)
      have hFl : BtsAt w3 (· < w3.heap.size) w3.heap.size A1 l.length c1 l := HL1.out.grow (fun b hb => hb.2) hs1 H13.out
      have C4 := Lib.hid (filled_any A1 l.length c1 l w3 hFl (by omega))
      have hx3 := HX0.out.below (HB1.out.trans (H13.out.mono hs1)) HX0.out.lt
      have HX3 := Lib.hid hx3
      clear hb3 hv3 hL3 hFl HL1 hx3 k0 k1 hln3
      go_wp2_with fail
      refine C4.out.mono ?_
      clear C4
      rintro e w4 ⟨n0, X, O, Rr, A2, n2, c2, hn0, rfl, hI, hR, _, hb4⟩
      generalize fillD l = ds at *
      have hb5 : Below w4.heap.size w4 (w4.alloc (.cells #[.slice A2 n2 c2] 30)) := (Below.refl _ _).alloc (Nat.le_refl _) _
      have hr0 := Blk.new w4 30 #[.slice A2 n2 c2]
      have H35 := Lib.hid (hb4.trans (hb5.mono hb4.size))
      have HI5 := Lib.hid (hI.below hb5 (fun b hb => hb) (fun b hb => ⟨(hI.lt b hb).1, Nat.lt_of_lt_of_le (hI.lt b hb).2 hb5.size⟩))
      have HR5 := Lib.hid (hR.below hb5 (fun b hb => hb) (fun b hb => Nat.lt_of_lt_of_le (hR.lt b hb) hb5.size))
      have HR0 := Lib.hid hr0
      have OK := Lib.hid hI.ok
      have hfew := hI.few
      have hn2 : n2 = ds.length := hR.rd.ln.symm
      subst hn2
      clear hI hR hb4 hb5 hr0
      go_wp2_with fail
      generalize hw5 : (w4.alloc (.cells #[.slice A2 ds.length c2] 30)) = w5 at *
      try rw [hw5]
      clear hw5
      have HB5 := Lib.hid (HB3.out.trans (H35.out.mono HB3.out.size))
      have hs35 := H35.out.size
      have hs3 := HB3.out.size
      have hs5 := HB5.out.size
      refine (fork_any HI5.out).mono ?_
      rintro e w6 ⟨Y, rfl, hY6, hb6⟩
      have HY6 := Lib.hid hY6
      have H56 := Lib.hid hb6
      have HL3g : Hid (∀ wx, Below w5.heap.size w5 wx → ∃ b o E' m' q', A3 = some ⟨b, o, none⟩ ∧ b < w3.heap.size ∧ wx.cell? ⟨b, o + 0 * 2, none⟩ = some (.int .i64 sq) ∧ wx.cell? ⟨b, o + 0 * 2 + 1, none⟩ = some (.slice E' m' q') ∧ EvsAt wx wx.heap.size E' m' q' evs) := Lib.hid (fun wx hb => by
        have hb' := H35.out.trans (hb.mono hs35)
        obtain ⟨b, o, E', m', q', e, hlt, c0, c1, hE⟩ := HL3.out.at_ (i := 0) (by simp)
        exact ⟨b, o, E', m', q', e, hlt, (hb'.cell hlt).trans c0, (hb'.cell hlt).trans c1, (hE.keep (fun b o hlt => hb'.cell hlt)).more hb'.size⟩)
      clear hY6 hb6 HL3
      obtain ⟨kb, ko, E', m', q', rfl, hkb, g0, g1, hE6⟩ := HL3g.out w6 H56.out
      simp only [Nat.zero_mul, Nat.add_zero] at g0 g1
      have C6 := Lib.hid (add_walk sq E' m' q' evs w5.heap.size Y _ ds w6 HY6.out H56.out.size hE6)
      clear hE6 HL3g
      go_wp2_with fail
      refine C6.out.mono ?_
      rintro e w7 ⟨rfl, hI7, hc7⟩
      have HI7 := Lib.hid hI7
      have H57 : Hid (Below w5.heap.size w5 w7) := Lib.hid (H56.out.trans (hc7.below H56.out.size (fun b hb => hb.1)))
      have hs7 := H57.out.size
      have Hr0g : Hid (∀ wx, Below w5.heap.size w5 wx → wx.cell? ⟨w4.heap.size, 0, none⟩ = some (.slice A2 ds.length c2)) := Lib.hid (fun wx hb => by
        have k := (HR0.out.below hb HR0.out.lt).cell 0
        simpa using k)
      generalize addD ds sq evs = ds7 at *
      clear hI7 hc7 C6 g0 g1 HY6
      have q0 := Hr0g.out w7 H57.out
      go_upto_region 12 with (fail)
      have hwd : IntKind.i64.wrap ((ds.length : Int) + 1) = (ds.length : Int) + 1 := by rw [IntKind.wrap_i64]; omega
      refine wp_region_noPanic ?_
      refine wp_region_held_drew (S := fun w' => w'.cell? ⟨w4.heap.size, 0, none⟩ = some (.slice A2 ds.length c2)) (by kernel_rfl) (by exact q0) (fun hHeld => ?_)
      refine wpAnyH_takeD (i := 0) 57 (v := ?_) rfl rfl (by kernel_rfl) (by kernel_rfl) (by kernel_rfl) (fun _ _ _ h => h) (by rfl) ?_ hHeld ?_
      rotate_left
      · intro W hSw; (try dsimp only at hSw); go_simp
        all_goals with_reducible rfl
      try simp only [Act.put, List.setIfInBounds_toArray, List.set_cons_zero, List.set_cons_succ]
      refine wpAnyH_takeD (i := 1) 58 (v := ?_) rfl rfl (by kernel_rfl) (by kernel_rfl) (by kernel_rfl) (fun _ _ _ h => h) (by rfl) ?_ hHeld ?_
      rotate_left
      · intro W hSw; (try dsimp only at hSw); go_simp
        all_goals with_reducible rfl
      try simp only [Act.put, List.setIfInBounds_toArray, List.set_cons_zero, List.set_cons_succ]
      refine wpAnyH_takeD (i := 2) 59 (v := ?_) rfl rfl (by kernel_rfl) (by kernel_rfl) (by kernel_rfl) (fun _ _ _ h => h) (by rfl) ?_ hHeld ?_
      rotate_left
      · intro W hSw; (try dsimp only at hSw); go_simp
        all_goals with_reducible rfl
      try simp only [Act.put, List.setIfInBounds_toArray, List.set_cons_zero, List.set_cons_succ]
      refine wpAnyH_takeD (i := 3) 60 (v := ?_) rfl rfl (by kernel_rfl) (by kernel_rfl) (by kernel_rfl) (fun _ _ _ h => h) (by rfl) ?_ hHeld ?_
      rotate_left
      · intro W hSw; (try dsimp only at hSw); go_simp
        all_goals with_reducible rfl
      try simp only [Act.put, List.setIfInBounds_toArray, List.set_cons_zero, List.set_cons_succ]
      refine wpAnyH_takeD (i := 4) 61 (v := ?_) rfl rfl (by kernel_rfl) (by kernel_rfl) (by kernel_rfl) (fun _ _ _ h => h) (by rfl) ?_ hHeld ?_
      rotate_left
      · intro W hSw; (try dsimp only at hSw); go_simp
        all_goals with_reducible rfl
      try simp only [Act.put, List.setIfInBounds_toArray, List.set_cons_zero, List.set_cons_succ]
      refine wpAnyH_ready (rs := [5]) (by kernel_rfl) (by simp) ?_
      refine AllReadyH.cons (o := _) rfl (fun K hK => ?_) AllReadyH.nil
      go_simp
      refine (word_any ⟨#[122, 122]⟩ w7.drew (by decide)).mono ?_
      rintro e w8 ⟨g8, rfl, hf8, hb8⟩
      have hb8' : Below w7.heap.size w7 w8 := (Below.refl _ _).drew.trans hb8
      have H58 := Lib.hid (H57.out.trans (hb8'.mono hs7))
      refine hK.out _ _ ?_ (fun hHeld => ?_)
      · exact Hr0g.out w8 H58.out
      clear hK K
      try simp only [Act.put, List.setIfInBounds_toArray, List.set_cons_zero, List.set_cons_succ]
      have hb9 : Below w8.heap.size w8 (w8.alloc (.cells #[.int .i64 0, .slice (some ⟨g8, 0, none⟩) 1 1] 51)) := (Below.refl _ _).alloc (Nat.le_refl _) _
      have hrow9 := Rg.new_row (k := 2) w8 51 [.int .i64 0, .slice (some ⟨g8, 0, none⟩) 1 1] 1 rfl (by omega)
      have hE9 : EvsAt (w8.alloc (.cells #[.int .i64 0, .slice (some ⟨g8, 0, none⟩) 1 1] 51)) (World.heap (w8.alloc (.cells #[.int .i64 0, .slice (some ⟨g8, 0, none⟩) 1 1] 51))).size (some ⟨w8.heap.size, 0, none⟩) 1 1 [(0, [(exMsg, ⟨#[122, 122]⟩)])] := by
        refine ⟨rfl, by omega, Nat.le_refl _, [[.int .i64 0, .slice (some ⟨g8, 0, none⟩) 1 1]], rfl, hrow9, fun i h1 h2 => ?_⟩
        match i, h1, h2 with
        | 0, _, _ => exact ⟨_, _, _, rfl, hf8.grow hb9⟩
        | i + 1, h1, _ => exact absurd h1 (by simp)
      have hI9 := HI7.out.below (O' := fun b => w5.heap.size ≤ b ∧ b < (World.heap (w8.alloc (.cells #[.int .i64 0, .slice (some ⟨g8, 0, none⟩) 1 1] 51))).size) (hb8'.trans (hb9.mono hb8'.size)) (fun b hb => ⟨(HI7.out.lt b hb).1, Nat.lt_of_lt_of_le (HI7.out.lt b hb).2 (hb8'.trans (hb9.mono hb8'.size)).size⟩) (fun b hb => hb)
      have H59 := Lib.hid (H58.out.trans (hb9.mono H58.out.size))
      have C9 := Lib.hid (add_walk ((ds.length : Int) + 1) (some ⟨w8.heap.size, 0, none⟩) 1 1 [(0, [(exMsg, ⟨#[122, 122]⟩)])] w5.heap.size Y _ ds7 _ hI9 H59.out.size hE9)
      clear hE9 hrow9 hf8 hI9 hb8 hb8' hb9
      refine wpAnyH_ready (rs := [6]) (by kernel_rfl) (by simp) ?_
      refine AllReadyH.cons (o := _) rfl (fun K hK => ?_) AllReadyH.nil
      go_simp
      refine hK.out _ _ ?_ (fun hHeld => ?_)
      · exact Hr0g.out _ H59.out
      clear hK K
      try simp only [Act.put, List.setIfInBounds_toArray, List.set_cons_zero, List.set_cons_succ]
      refine wpAnyH_takeD (i := 7) 64 (v := ?_) rfl rfl (by kernel_rfl) (by kernel_rfl) (by kernel_rfl) (fun _ _ _ h => h) (by rfl) ?_ hHeld ?_
      rotate_left
      · intro W hSw; (try dsimp only at hSw); go_simp
        all_goals with_reducible rfl
      try simp only [Act.put, List.setIfInBounds_toArray, List.set_cons_zero, List.set_cons_succ]
      refine wpAnyH_ready (rs := [8]) (by kernel_rfl) (by simp) ?_
      refine AllReadyH.cons (o := _) rfl (fun K hK => ?_) AllReadyH.nil
      go_simp
      refine C9.out.mono ?_
      rintro e w10 ⟨rfl, hI10, hc10⟩
      have H510 := Lib.hid (H59.out.trans (hc10.below H59.out.size (fun b hb => hb.1)))
      clear hI10 hc10
      refine hK.out _ _ ?_ (fun hHeld => ?_)
      · exact Hr0g.out _ H510.out
      clear hK K
      try simp only [Act.put, List.setIfInBounds_toArray, List.set_cons_zero, List.set_cons_succ]
      refine wpAnyH_done (by kernel_rfl) ?_ _
      refine NoPanic.normal ?_
      clear hHeld C9
      go_upto_region 13 with (fail)
      have HX9 := Lib.hid (HI5.out.ex)
      obtain ⟨M, cn, v, F, hIx, hcn⟩ := HX9.out
      have hpl := postsT_len (ds.map (·.fs)) (cut80 s)
      rw [List.length_map] at hpl
      have hpr := postsR_whole (ds.map (·.fs)) (cut80 s)
      have HPR := Lib.hid hpr
      have h80 := cut80_len s
      have Hshort := Lib.hid (fun wx => short_any s wx hs)
      have HRX : Hid (∀ wx, Below w10.heap.size w10 wx → RIx wx (fun b => b < wx.heap.size) w3.heap.size A2 ds.length c2 ds) := Lib.hid (fun wx hb => HR5.out.below (H510.out.trans (hb.mono H510.out.size)) (fun b hb' => Nat.lt_of_lt_of_le (HR5.out.lt b hb') (H510.out.trans (hb.mono H510.out.size)).size) (fun b hb => hb))
      have HIX : Hid (∀ wx, Below w10.heap.size w10 wx → Idx wx n0 X M cn v F (fun b => n0 ≤ b ∧ b < wx.heap.size) ds (szD ds) (loD ds) (hiD ds) (postsT (ds.map (·.fs)))) := Lib.hid (fun wx hb => hIx.later (H510.out.trans (hb.mono H510.out.size)))
      have Hc13 : Hid (∀ wx, Below w10.heap.size w10 wx → wx.cell? ⟨w4.heap.size, 0, none⟩ = some (.slice A2 ds.length c2)) := Lib.hid (fun wx hb => Hr0g.out wx (H510.out.trans (hb.mono H510.out.size)))
      clear hIx hpr q0
      generalize hP : postsT (ds.map (·.fs)) (cut80 s) = P at *
      have HP := Lib.hid hP
      generalize htt : cut80 s = tt at *
      clear htt hP
      refine wp_region_grow (specOf [(1, ⟨Option Addr × Nat, fun x => .slice x.1 ds.length x.2, fun x wz => DocRd wz x.1 ds.length ds⟩), (4, ⟨Unit, fun _ => .bool true, fun _ _ => True⟩), (9, ⟨Unit, fun _ => .string tt, fun _ _ => True⟩), (10, ⟨Option Addr × Nat, fun x => .slice x.1 P.length x.2, fun x wz => PostRd wz x.1 P.length P⟩), (13, ⟨Unit, fun _ => .string tt, fun _ _ => True⟩), (14, ⟨Option Addr × Nat, fun x => .slice x.1 P.length x.2, fun x wz => PostRd wz x.1 P.length P⟩), (15, ⟨Unit, fun _ => .bool true, fun _ _ => True⟩)]) (fun wx => Below (World.heap w10).size w10 wx) (fun w1 w2 => Below w1.heap.size w1 w2) (by kernel_rfl) (by kernel_rfl) (stab_cons (fun x wa wb hg h => h.grow hg) (stab_cons (fun _ _ _ _ _ => trivial) (stab_cons (fun _ _ _ _ _ => trivial) (stab_cons (fun x wa wb hg h => h.grow hg) (stab_cons (fun _ _ _ _ _ => trivial) (stab_cons (fun x wa wb hg h => h.grow hg) (stab_cons (fun _ _ _ _ _ => trivial) (stab_nil)))))))) (Below.refl _ _).drew ?_
      refine grow_fix 1 ?_ rfl (by rfl) (by rfl) (fun wx hC hD => ?_) ?_
      rotate_left
      · have hSw := Hc13.out wx hC
        go_simp
        all_goals with_reducible rfl
      try simp only [Act.put, List.setIfInBounds_toArray, List.set_cons_zero, List.set_cons_succ]
      refine grow_give 2 _ rfl (by rfl) (by rfl) (fun wx hC hD => ?_) (fun x => ?_)
      · refine give_enter (f := ?_) (args := ?_) ?_ ?_
        rotate_left 2
        · have hSw := Hc13.out wx hC
          go_simp
          all_goals first | with_reducible rfl | (refine ⟨?_, ?_⟩ <;> with_reducible rfl)
        refine (docsX_any (HIX.out wx hC) OK.out hfew).mono ?_
        rintro e w9 ⟨v9, rfl, ho9, hb9⟩
        obtain ⟨A9, c9, rfl, hd9, _, _⟩ := ho9.read
        exact ⟨_, rfl, hb9, hC.trans (hb9.mono hC.size), (A9, c9), rfl, DocRd.of hd9 (fun b hb => hb.2) (fun b hb => hb.2.lt)⟩
      obtain ⟨Aa, ca⟩ := x
      try simp only [Act.put, List.setIfInBounds_toArray, List.set_cons_zero, List.set_cons_succ]
      refine grow_fix 3 ?_ rfl (by rfl) (by rfl) (fun wx hC hD => ?_) ?_
      rotate_left
      · have hSw := Hc13.out wx hC
        go_simp
        all_goals with_reducible rfl
      try simp only [Act.put, List.setIfInBounds_toArray, List.set_cons_zero, List.set_cons_succ]
      refine grow_fix 4 ?_ rfl (by rfl) (by rfl) (fun wx hC hD => ?_) ?_
      rotate_left
      · have hSw := Hc13.out wx hC
        go_simp
        all_goals with_reducible rfl
      try simp only [Act.put, List.setIfInBounds_toArray, List.set_cons_zero, List.set_cons_succ]
      refine grow_give 5 _ rfl (by rfl) (by rfl) (fun wx hC hD => ?_) (fun x => ?_)
      · refine give_enter (f := ?_) (args := ?_) ?_ ?_
        rotate_left 2
        · have hSw := Hc13.out wx hC
          go_simp
          all_goals first | with_reducible rfl | (refine ⟨?_, ?_⟩ <;> with_reducible rfl)
        refine (sameDs_eq Aa A2 ds.length ca c2 ds wx (upd_hit (deps_get hD 1 (by kernel_rfl)) (by decide)) (HRX.out wx hC).docs (by omega)).mono ?_
        rintro e w9 ⟨rfl, hb9⟩
        exact ⟨_, rfl, hb9, hC.trans (hb9.mono hC.size), (), rfl, trivial⟩
      obtain _ := x
      try simp only [Act.put, List.setIfInBounds_toArray, List.set_cons_zero, List.set_cons_succ]
      refine grow_fix 6 ?_ rfl (by rfl) (by rfl) (fun wx hC hD => ?_) ?_
      rotate_left
      · have hSw := Hc13.out wx hC
        go_simp
        all_goals with_reducible rfl
      try simp only [Act.put, List.setIfInBounds_toArray, List.set_cons_zero, List.set_cons_succ]
      refine grow_fix 7 ?_ rfl (by rfl) (by rfl) (fun wx hC hD => ?_) ?_
      rotate_left
      · have hSw := Hc13.out wx hC
        go_simp
        all_goals with_reducible rfl
      try simp only [Act.put, List.setIfInBounds_toArray, List.set_cons_zero, List.set_cons_succ]
      refine grow_fix 8 ?_ rfl (by rfl) (by rfl) (fun wx hC hD => ?_) ?_
      rotate_left
      · have hSw := Hc13.out wx hC
        go_simp
        all_goals with_reducible rfl
      try simp only [Act.put, List.setIfInBounds_toArray, List.set_cons_zero, List.set_cons_succ]
      refine grow_fix 9 ?_ rfl (by rfl) (by rfl) (fun wx hC hD => ?_) ?_
      rotate_left
      · have hSw := Hc13.out wx hC
        go_simp
        all_goals with_reducible rfl
      try simp only [Act.put, List.setIfInBounds_toArray, List.set_cons_zero, List.set_cons_succ]
      refine grow_give 10 _ rfl (by rfl) (by rfl) (fun wx hC hD => ?_) (fun x => ?_)
      · refine give_enter (f := ?_) (args := ?_) ?_ ?_
        rotate_left 2
        · have hSw := Hc13.out wx hC
          go_simp
          all_goals first | with_reducible rfl | (refine ⟨?_, ?_⟩ <;> with_reducible rfl)
        refine (Hshort.out wx).mono ?_
        rintro e w9 ⟨rfl, rfl⟩
        exact ⟨_, rfl, Below.refl _ _, hC, (), rfl, trivial⟩
      obtain _ := x
      try simp only [Act.put, List.setIfInBounds_toArray, List.set_cons_zero, List.set_cons_succ]
      refine grow_give 11 _ rfl (by rfl) (by rfl) (fun wx hC hD => ?_) (fun x => ?_)
      · refine give_enter (f := ?_) (args := ?_) ?_ ?_
        rotate_left 2
        · have hSw := Hc13.out wx hC
          go_simp
          all_goals first | with_reducible rfl | (refine ⟨?_, ?_⟩ <;> with_reducible rfl)
        refine (posts_any tt (by unfold maxLen; omega) (HIX.out wx hC) (by rw [HP.out]; omega)).mono ?_
        rw [HP.out]
        rintro e w9 ⟨v9, rfl, ho9, hb9⟩
        obtain ⟨A9, c9, rfl, hr9⟩ := ho9.rd
        exact ⟨_, rfl, hb9, hC.trans (hb9.mono hC.size), (A9, c9), rfl, hr9⟩
      obtain ⟨Ab, cb⟩ := x
      try simp only [Act.put, List.setIfInBounds_toArray, List.set_cons_zero, List.set_cons_succ]
      refine grow_fix 12 ?_ rfl (by rfl) (by rfl) (fun wx hC hD => ?_) ?_
      rotate_left
      · have hSw := Hc13.out wx hC
        go_simp
        all_goals with_reducible rfl
      try simp only [Act.put, List.setIfInBounds_toArray, List.set_cons_zero, List.set_cons_succ]
      refine grow_fix 13 ?_ rfl (by rfl) (by rfl) (fun wx hC hD => ?_) ?_
      rotate_left
      · have hSw := Hc13.out wx hC
        go_simp
        all_goals with_reducible rfl
      try simp only [Act.put, List.setIfInBounds_toArray, List.set_cons_zero, List.set_cons_succ]
      refine grow_give 14 _ rfl (by rfl) (by rfl) (fun wx hC hD => ?_) (fun x => ?_)
      · refine give_enter (f := ?_) (args := ?_) ?_ ?_
        rotate_left 2
        · have hSw := Hc13.out wx hC
          go_simp
          all_goals first | with_reducible rfl | (refine ⟨?_, ?_⟩ <;> with_reducible rfl)
        refine (Hshort.out wx).mono ?_
        rintro e w9 ⟨rfl, rfl⟩
        exact ⟨_, rfl, Below.refl _ _, hC, (), rfl, trivial⟩
      obtain _ := x
      try simp only [Act.put, List.setIfInBounds_toArray, List.set_cons_zero, List.set_cons_succ]
      refine grow_give 15 _ rfl (by rfl) (by rfl) (fun wx hC hD => ?_) (fun x => ?_)
      · refine give_enter (f := ?_) (args := ?_) ?_ ?_
        rotate_left 2
        · have hSw := Hc13.out wx hC
          go_simp
          all_goals first | with_reducible rfl | (refine ⟨?_, ?_⟩ <;> with_reducible rfl)
        refine (rposts_any A2 ds.length c2 ds _ w3.heap.size tt true wx (HRX.out wx hC) OK.out hfew (by omega)).mono ?_
        rw [HPR.out]
        rintro e w9 ⟨A9, c9, rfl, hr9, hb9⟩
        exact ⟨_, rfl, hb9, hC.trans (hb9.mono hC.size), (A9, c9), rfl, hr9⟩
      obtain ⟨Ac, cc⟩ := x
      try simp only [Act.put, List.setIfInBounds_toArray, List.set_cons_zero, List.set_cons_succ]
      refine grow_give 16 _ rfl (by rfl) (by rfl) (fun wx hC hD => ?_) (fun x => ?_)
      · refine give_enter (f := ?_) (args := ?_) ?_ ?_
        rotate_left 2
        · have hSw := Hc13.out wx hC
          go_simp
          all_goals first | with_reducible rfl | (refine ⟨?_, ?_⟩ <;> with_reducible rfl)
        refine (sameP_eq Ab Ac P.length cb cc P wx (upd_hit (upd_miss (upd_miss (deps_get hD 10 (by kernel_rfl)) (by decide)) (by decide)) (by decide)) (upd_hit (deps_get hD 14 (by kernel_rfl)) (by decide)) (by omega)).mono ?_
        rintro e w9 ⟨rfl, hb9⟩
        exact ⟨_, rfl, hb9, hC.trans (hb9.mono hC.size), (), rfl, trivial⟩
      obtain _ := x
      try simp only [Act.put, List.setIfInBounds_toArray, List.set_cons_zero, List.set_cons_succ]
      refine grow_fix 17 ?_ rfl (by rfl) (by rfl) (fun wx hC hD => ?_) ?_
      rotate_left
      · have hSw := Hc13.out wx hC
        go_simp
        all_goals with_reducible rfl
      try simp only [Act.put, List.setIfInBounds_toArray, List.set_cons_zero, List.set_cons_succ]
      refine grow_fix 18 ?_ rfl (by rfl) (by rfl) (fun wx hC hD => ?_) ?_
      rotate_left
      · have hSw := Hc13.out wx hC
        go_simp
        all_goals with_reducible rfl
      try simp only [Act.put, List.setIfInBounds_toArray, List.set_cons_zero, List.set_cons_succ]
      refine grow_nil (fun w11 hC hF => ?_)
      have H5b := Lib.hid (H510.out.trans (hC.mono H510.out.size))
      clear hF HRX HPR
      have hIb := HIX.out w11 hC
      have CC := Lib.hid (clear_any hIb)
      go_wp2_with fail
      refine CC.out.mono ?_
      rintro e w12 ⟨rfl, hIc, hchc⟩
      have H312 : Below w3.heap.size w3 w12 := (H35.out.trans (H5b.out.mono hs35)).trans (hchc.below (Nat.le_trans hs35 H5b.out.size) (fun b hb => by have := hb.1; omega))
      have HIC := Lib.hid hIc
      have hbz1 : Below w12.heap.size w12 (w12.alloc (.cells #[.int .i64 0, .int .i64 0, .int .i64 0, .slice none 0 0, .map none] 59)) := (Below.refl _ _).alloc (Nat.le_refl _) _
      have hz1 := Blk.new w12 59 #[.int .i64 0, .int .i64 0, .int .i64 0, .slice none 0 0, .map none]
      have H312H := Lib.hid H312
      have H5bs := H5b.out.size
      clear hIc hchc CC hIb H312 hC HIX Hc13
      go_wp2_with fail
      generalize hw13 : w12.alloc (.cells #[.int .i64 0, .int .i64 0, .int .i64 0, .slice none 0 0, .map none] 59) = w13 at *
      try rw [hw13]
      have hsz13 : w13.heap.size = w12.heap.size + 1 := by rw [← hw13]; simp
      have hbz2 : Below w13.heap.size w13 (w13.alloc (.cells #[.pointer none, .pointer (some ⟨w12.heap.size, 0, none⟩)] 27)) := (Below.refl _ _).alloc (Nat.le_refl _) _
      have hz2 := Blk.new w13 27 #[.pointer none, .pointer (some ⟨w12.heap.size, 0, none⟩)]
      have hs13 := hbz1.size
      have H14 : Hid (Below w12.heap.size w12 (w13.alloc (.cells #[.pointer none, .pointer (some ⟨w12.heap.size, 0, none⟩)] 27))) := Lib.hid (hbz1.trans (hbz2.mono hs13))
      have hz1' := hz1.below hbz2 hz1.lt
      rw [hsz13] at hz2
      clear hw13
      generalize hw14 : w13.alloc (.cells #[.pointer none, .pointer (some ⟨w12.heap.size, 0, none⟩)] 27) = w14 at *
      try rw [hw14]
      clear hw14
      have HZ : Hid (∀ wx, Below w14.heap.size w14 wx → ∀ k : Nat, k < 2 → ∃ p, wx.cell? ⟨w12.heap.size + 1, k, none⟩ = some (.pointer p) ∧ NoIx wx p) := Lib.hid (fun wx hb k hk => by
        have c0 := (hz2.below hb hz2.lt).cell k
        rcases Nat.lt_or_ge k 1 with h1 | h1
        · obtain rfl : k = 0 := by omega
          exact ⟨none, c0, .inl rfl⟩
        · obtain rfl : k = 1 := by omega
          exact ⟨some ⟨w12.heap.size, 0, none⟩, c0, .inr ⟨_, rfl, hz1'.below hb hz1'.lt⟩⟩)
      have HBX : Hid (∀ wx, Below w14.heap.size w14 wx → wx.cell? ⟨w.heap.size, 0, none⟩ = some (.int .i64 sq) ∧ wx.cell? ⟨w.heap.size, 1, none⟩ = some (.slice E m q)) := Lib.hid (fun wx hb => by
        have k := HX3.out.below ((H312H.out.trans (H14.out.mono H312H.out.size)).trans (hb.mono (H312H.out.trans (H14.out.mono H312H.out.size)).size)) HX3.out.lt
        have k0 := k.cell 0
        have k1 := k.cell 1
        simp only [List.getElem?_toArray, List.getElem?_cons_zero, List.getElem?_cons_succ] at k0 k1
        exact ⟨k0, k1⟩)
      have HBW : Hid (Below w.heap.size w w14) := Lib.hid (HB3.out.trans ((H312H.out.trans (H14.out.mono H312H.out.size)).mono hs3))
      have hsw14 := HBW.out.size
      clear hbz1 hbz2 hz1 hz2 hz1'
      go_loopw [15] (fun i wr => ∃ k : Nat, k ≤ 2 ∧ i = .int .i64 (k : Nat) ∧ Hid (Below w14.heap.size w14 wr)) (fun i _ => 2 - (intOf i).toNat)
      case atStart => exact ⟨0, Nat.zero_le _, rfl, Lib.hid (Below.refl _ _)⟩
      case round =>
        obtain ⟨k, hk, rfl, hB⟩ := hrel
        by_cases hlt : k < 2
        · have hki : (k : Int) < 2 := by omega
          have hki0 : (0 : Int) ≤ (k : Int) := by omega
          have hz0 : (0 : Int) ≤ 0 := by omega
          obtain ⟨p, g0, hN⟩ := HZ.out wr hB.out k hlt
          have NN : Hid (∀ wx, Below wr.heap.size wr wx → wx.cell? ⟨w12.heap.size + 1, k, none⟩ = some (.pointer p) ∧ NoIx wx p) := Lib.hid (fun wx hb => by
            obtain ⟨p', g', hN'⟩ := HZ.out wx (hB.out.trans (hb.mono hB.out.size)) k hlt
            have hb13 : w12.heap.size + 1 < wr.heap.size := by
              have h1 := World.block_lt_of_cell? wr _ g0
              exact h1
            have e := (hb.cell (p := ⟨w12.heap.size + 1, k, none⟩) hb13).trans g0
            rw [g'] at e
            injection e with e
            injection e with e
            subst e
            exact ⟨g', hN'⟩)
          have HN := Lib.hid hN
          clear hN
          go_wp2_with fail
          refine (times_N HN.out).mono ?_
          rintro e w15 ⟨rfl, hEq⟩
          subst hEq
          go_wp2_with fail
          refine (seqs_N HN.out).mono ?_
          rintro e w15 ⟨rfl, hEq⟩
          subst hEq
          go_wp2_with fail
          refine (doc_N HN.out 0).mono ?_
          rintro e w16 ⟨rfl, hb16⟩
          have hba : Below w16.heap.size w16 (w16.alloc (.cells #[.int .i64 0, .int .i64 0, .slice none 0 0] 66)) := (Below.refl _ _).alloc (Nat.le_refl _) _
          have H17 := Lib.hid (hb16.trans (hba.mono hb16.size))
          clear hb16 hba g0
          go_upto_region 24 with (fail)
          generalize hw17 : (w16.alloc (.cells #[.int .i64 0, .int .i64 0, .slice none 0 0] 66)) = w17 at *
          clear hw17
          obtain ⟨g0, hN⟩ := NN.out w17 H17.out
          obtain ⟨k0, k1⟩ := HBX.out w17 (hB.out.trans (H17.out.mono hB.out.size))
          have HN := Lib.hid hN
          clear hN
          go_wp2_with fail
          refine (clear_N HN.out).mono ?_
          rintro e w15 ⟨rfl, hEq⟩
          subst hEq
          have HC25 : Hid (∀ wx, Below w17.heap.size w17 wx → wx.cell? ⟨w12.heap.size + 1, k, none⟩ = some (.pointer p) ∧ wx.cell? ⟨w.heap.size, 0, none⟩ = some (.int .i64 sq) ∧ wx.cell? ⟨w.heap.size, 1, none⟩ = some (.slice E m q)) := Lib.hid (fun wx hb => by
            have h1 := H17.out.trans (hb.mono H17.out.size)
            exact ⟨(NN.out wx h1).1, HBX.out wx (hB.out.trans (h1.mono hB.out.size))⟩)
          have HN25 : Hid (∀ wx, Below w17.heap.size w17 wx → NoIx wx p) := Lib.hid (fun wx hb => (NN.out wx (H17.out.trans (hb.mono H17.out.size))).2)
          clear g0 k0 k1
          go_upto_region 25 with (fail)
          refine wp_region_grow (specOf [(5, ⟨Unit, fun _ => .int .i64 4, fun _ _ => True⟩), (12, ⟨Unit, fun _ => .int .i64 0, fun _ _ => True⟩), (17, ⟨Unit, fun _ => .int .i64 0, fun _ _ => True⟩), (23, ⟨Unit, fun _ => .slice none 0 0, fun _ _ => True⟩), (30, ⟨Unit, fun _ => .slice none 0 0, fun _ _ => True⟩), (38, ⟨Unit, fun _ => .string tt, fun _ _ => True⟩), (39, ⟨Unit, fun _ => .slice none 0 0, fun _ _ => True⟩), (46, ⟨Unit, fun _ => .slice none 0 0, fun _ _ => True⟩), (67, ⟨Unit, fun _ => .pointer none, fun _ _ => True⟩)]) (fun wx => Below (World.heap w17).size w17 wx) (fun w1 w2 => Below w1.heap.size w1 w2) (by kernel_rfl) (by kernel_rfl) (stab_cons (fun _ _ _ _ _ => trivial) (stab_cons (fun _ _ _ _ _ => trivial) (stab_cons (fun _ _ _ _ _ => trivial) (stab_cons (fun _ _ _ _ _ => trivial) (stab_cons (fun _ _ _ _ _ => trivial) (stab_cons (fun _ _ _ _ _ => trivial) (stab_cons (fun _ _ _ _ _ => trivial) (stab_cons (fun _ _ _ _ _ => trivial) (stab_cons (fun _ _ _ _ _ => trivial) (stab_nil)))))))))) (Below.refl _ _).drew ?_
          refine grow_fix 1 ?_ rfl (by rfl) (by rfl) (fun wx hC hD => ?_) ?_
          rotate_left
          · have hSw := HC25.out wx hC
            go_simp
            all_goals with_reducible rfl
          try simp only [Act.put, List.setIfInBounds_toArray, List.set_cons_zero, List.set_cons_succ]
          refine grow_fix 2 ?_ rfl (by rfl) (by rfl) (fun wx hC hD => ?_) ?_
          rotate_left
          · have hSw := HC25.out wx hC
            go_simp
            all_goals with_reducible rfl
          try simp only [Act.put, List.setIfInBounds_toArray, List.set_cons_zero, List.set_cons_succ]
          refine grow_fix 3 ?_ rfl (by rfl) (by rfl) (fun wx hC hD => ?_) ?_
          rotate_left
          · have hSw := HC25.out wx hC
            go_simp
            all_goals with_reducible rfl
          try simp only [Act.put, List.setIfInBounds_toArray, List.set_cons_zero, List.set_cons_succ]
          refine grow_fix 4 ?_ rfl (by rfl) (by rfl) (fun wx hC hD => ?_) ?_
          rotate_left
          · have hSw := HC25.out wx hC
            go_simp
            all_goals with_reducible rfl
          try simp only [Act.put, List.setIfInBounds_toArray, List.set_cons_zero, List.set_cons_succ]
          refine grow_fix 5 ?_ rfl (by rfl) (by rfl) (fun wx hC hD => ?_) ?_
          rotate_left
          · have hSw := HC25.out wx hC
            go_simp
            all_goals with_reducible rfl
          try simp only [Act.put, List.setIfInBounds_toArray, List.set_cons_zero, List.set_cons_succ]
          refine grow_give 6 _ rfl (by rfl) (by rfl) (fun wx hC hD => ?_) (fun x => ?_)
          · refine give_enter (f := ?_) (args := ?_) ?_ ?_
            rotate_left 2
            · have hSw := HC25.out wx hC
              go_simp
              all_goals first | with_reducible rfl | (refine ⟨?_, ?_⟩ <;> with_reducible rfl)
            refine (add_N (HN25.out wx hC) sq E m q).mono ?_
            rintro e w9 ⟨rfl, hb9⟩
            exact ⟨_, rfl, hb9, hC.trans (hb9.mono hC.size), (), rfl, trivial⟩
          obtain _ := x
          try simp only [Act.put, List.setIfInBounds_toArray, List.set_cons_zero, List.set_cons_succ]
          refine grow_fix 7 ?_ rfl (by rfl) (by rfl) (fun wx hC hD => ?_) ?_
          rotate_left
          · have hSw := HC25.out wx hC
            go_simp
            all_goals with_reducible rfl
          try simp only [Act.put, List.setIfInBounds_toArray, List.set_cons_zero, List.set_cons_succ]
          refine grow_fix 8 ?_ rfl (by rfl) (by rfl) (fun wx hC hD => ?_) ?_
          rotate_left
          · have hSw := HC25.out wx hC
            go_simp
            all_goals with_reducible rfl
          try simp only [Act.put, List.setIfInBounds_toArray, List.set_cons_zero, List.set_cons_succ]
          refine grow_fix 9 ?_ rfl (by rfl) (by rfl) (fun wx hC hD => ?_) ?_
          rotate_left
          · have hSw := HC25.out wx hC
            go_simp
            all_goals with_reducible rfl
          try simp only [Act.put, List.setIfInBounds_toArray, List.set_cons_zero, List.set_cons_succ]
          refine grow_fix 10 ?_ rfl (by rfl) (by rfl) (fun wx hC hD => ?_) ?_
          rotate_left
          · have hSw := HC25.out wx hC
            go_simp
            all_goals with_reducible rfl
          try simp only [Act.put, List.setIfInBounds_toArray, List.set_cons_zero, List.set_cons_succ]
          refine grow_fix 11 ?_ rfl (by rfl) (by rfl) (fun wx hC hD => ?_) ?_
          rotate_left
          · have hSw := HC25.out wx hC
            go_simp
            all_goals with_reducible rfl
          try simp only [Act.put, List.setIfInBounds_toArray, List.set_cons_zero, List.set_cons_succ]
          refine grow_fix 12 ?_ rfl (by rfl) (by rfl) (fun wx hC hD => ?_) ?_
          rotate_left
          · have hSw := HC25.out wx hC
            go_simp
            all_goals with_reducible rfl
          try simp only [Act.put, List.setIfInBounds_toArray, List.set_cons_zero, List.set_cons_succ]
          refine grow_give 13 _ rfl (by rfl) (by rfl) (fun wx hC hD => ?_) (fun x => ?_)
          · refine give_enter (f := ?_) (args := ?_) ?_ ?_
            rotate_left 2
            · have hSw := HC25.out wx hC
              go_simp
              all_goals first | with_reducible rfl | (refine ⟨?_, ?_⟩ <;> with_reducible rfl)
            refine (len_N (HN25.out wx hC)).mono ?_
            rintro e w9 ⟨rfl, hEq⟩
            subst hEq
            exact ⟨_, rfl, Below.refl _ _, hC, (), rfl, trivial⟩
          obtain _ := x
          try simp only [Act.put, List.setIfInBounds_toArray, List.set_cons_zero, List.set_cons_succ]
          refine grow_fix 14 ?_ rfl (by rfl) (by rfl) (fun wx hC hD => ?_) ?_
          rotate_left
          · have hSw := HC25.out wx hC
            go_simp
            all_goals with_reducible rfl
          try simp only [Act.put, List.setIfInBounds_toArray, List.set_cons_zero, List.set_cons_succ]
          refine grow_fix 15 ?_ rfl (by rfl) (by rfl) (fun wx hC hD => ?_) ?_
          rotate_left
          · have hSw := HC25.out wx hC
            go_simp
            all_goals with_reducible rfl
          try simp only [Act.put, List.setIfInBounds_toArray, List.set_cons_zero, List.set_cons_succ]
          refine grow_fix 16 ?_ rfl (by rfl) (by rfl) (fun wx hC hD => ?_) ?_
          rotate_left
          · have hSw := HC25.out wx hC
            go_simp
            all_goals with_reducible rfl
          try simp only [Act.put, List.setIfInBounds_toArray, List.set_cons_zero, List.set_cons_succ]
          refine grow_fix 17 ?_ rfl (by rfl) (by rfl) (fun wx hC hD => ?_) ?_
          rotate_left
          · have hSw := HC25.out wx hC
            go_simp
            all_goals with_reducible rfl
          try simp only [Act.put, List.setIfInBounds_toArray, List.set_cons_zero, List.set_cons_succ]
          refine grow_give 18 _ rfl (by rfl) (by rfl) (fun wx hC hD => ?_) (fun x => ?_)
          · refine give_enter (f := ?_) (args := ?_) ?_ ?_
            rotate_left 2
            · have hSw := HC25.out wx hC
              go_simp
              all_goals first | with_reducible rfl | (refine ⟨?_, ?_⟩ <;> with_reducible rfl)
            refine (size_N (HN25.out wx hC)).mono ?_
            rintro e w9 ⟨rfl, hEq⟩
            subst hEq
            exact ⟨_, rfl, Below.refl _ _, hC, (), rfl, trivial⟩
          obtain _ := x
          try simp only [Act.put, List.setIfInBounds_toArray, List.set_cons_zero, List.set_cons_succ]
          refine grow_fix 19 ?_ rfl (by rfl) (by rfl) (fun wx hC hD => ?_) ?_
          rotate_left
          · have hSw := HC25.out wx hC
            go_simp
            all_goals with_reducible rfl
          try simp only [Act.put, List.setIfInBounds_toArray, List.set_cons_zero, List.set_cons_succ]
          refine grow_fix 20 ?_ rfl (by rfl) (by rfl) (fun wx hC hD => ?_) ?_
          rotate_left
          · have hSw := HC25.out wx hC
            go_simp
            all_goals with_reducible rfl
          try simp only [Act.put, List.setIfInBounds_toArray, List.set_cons_zero, List.set_cons_succ]
          refine grow_fix 21 ?_ rfl (by rfl) (by rfl) (fun wx hC hD => ?_) ?_
          rotate_left
          · have hSw := HC25.out wx hC
            go_simp
            all_goals with_reducible rfl
          try simp only [Act.put, List.setIfInBounds_toArray, List.set_cons_zero, List.set_cons_succ]
          refine grow_fix 22 ?_ rfl (by rfl) (by rfl) (fun wx hC hD => ?_) ?_
          rotate_left
          · have hSw := HC25.out wx hC
            go_simp
            all_goals with_reducible rfl
          try simp only [Act.put, List.setIfInBounds_toArray, List.set_cons_zero, List.set_cons_succ]
          refine grow_fix 23 ?_ rfl (by rfl) (by rfl) (fun wx hC hD => ?_) ?_
          rotate_left
          · have hSw := HC25.out wx hC
            go_simp
            all_goals with_reducible rfl
          try simp only [Act.put, List.setIfInBounds_toArray, List.set_cons_zero, List.set_cons_succ]
          refine grow_give 24 _ rfl (by rfl) (by rfl) (fun wx hC hD => ?_) (fun x => ?_)
          · refine give_enter (f := ?_) (args := ?_) ?_ ?_
            rotate_left 2
            · have hSw := HC25.out wx hC
              go_simp
              all_goals first | with_reducible rfl | (refine ⟨?_, ?_⟩ <;> with_reducible rfl)
            refine (docs_N (HN25.out wx hC)).mono ?_
            rintro e w9 ⟨rfl, hEq⟩
            subst hEq
            exact ⟨_, rfl, Below.refl _ _, hC, (), rfl, trivial⟩
          obtain _ := x
          try simp only [Act.put, List.setIfInBounds_toArray, List.set_cons_zero, List.set_cons_succ]
          refine grow_fix 25 ?_ rfl (by rfl) (by rfl) (fun wx hC hD => ?_) ?_
          rotate_left
          · have hSw := HC25.out wx hC
            go_simp
            all_goals with_reducible rfl
          try simp only [Act.put, List.setIfInBounds_toArray, List.set_cons_zero, List.set_cons_succ]
          refine grow_fix 26 ?_ rfl (by rfl) (by rfl) (fun wx hC hD => ?_) ?_
          rotate_left
          · have hSw := HC25.out wx hC
            go_simp
            all_goals with_reducible rfl
          try simp only [Act.put, List.setIfInBounds_toArray, List.set_cons_zero, List.set_cons_succ]
          refine grow_fix 27 ?_ rfl (by rfl) (by rfl) (fun wx hC hD => ?_) ?_
          rotate_left
          · have hSw := HC25.out wx hC
            go_simp
            all_goals with_reducible rfl
          try simp only [Act.put, List.setIfInBounds_toArray, List.set_cons_zero, List.set_cons_succ]
          refine grow_fix 28 ?_ rfl (by rfl) (by rfl) (fun wx hC hD => ?_) ?_
          rotate_left
          · have hSw := HC25.out wx hC
            go_simp
            all_goals with_reducible rfl
          try simp only [Act.put, List.setIfInBounds_toArray, List.set_cons_zero, List.set_cons_succ]
          refine grow_fix 29 ?_ rfl (by rfl) (by rfl) (fun wx hC hD => ?_) ?_
          rotate_left
          · have hSw := HC25.out wx hC
            go_simp
            all_goals with_reducible rfl
          try simp only [Act.put, List.setIfInBounds_toArray, List.set_cons_zero, List.set_cons_succ]
          refine grow_fix 30 ?_ rfl (by rfl) (by rfl) (fun wx hC hD => ?_) ?_
          rotate_left
          · have hSw := HC25.out wx hC
            go_simp
            all_goals with_reducible rfl
          try simp only [Act.put, List.setIfInBounds_toArray, List.set_cons_zero, List.set_cons_succ]
          refine grow_give 31 _ rfl (by rfl) (by rfl) (fun wx hC hD => ?_) (fun x => ?_)
          · refine give_enter (f := ?_) (args := ?_) ?_ ?_
            rotate_left 2
            · have hSw := HC25.out wx hC
              go_simp
              all_goals first | with_reducible rfl | (refine ⟨?_, ?_⟩ <;> with_reducible rfl)
            refine (terms_N (HN25.out wx hC)).mono ?_
            rintro e w9 ⟨rfl, hEq⟩
            subst hEq
            exact ⟨_, rfl, Below.refl _ _, hC, (), rfl, trivial⟩
          obtain _ := x
          try simp only [Act.put, List.setIfInBounds_toArray, List.set_cons_zero, List.set_cons_succ]
          refine grow_fix 32 ?_ rfl (by rfl) (by rfl) (fun wx hC hD => ?_) ?_
          rotate_left
          · have hSw := HC25.out wx hC
            go_simp
            all_goals with_reducible rfl
          try simp only [Act.put, List.setIfInBounds_toArray, List.set_cons_zero, List.set_cons_succ]
          refine grow_fix 33 ?_ rfl (by rfl) (by rfl) (fun wx hC hD => ?_) ?_
          rotate_left
          · have hSw := HC25.out wx hC
            go_simp
            all_goals with_reducible rfl
          try simp only [Act.put, List.setIfInBounds_toArray, List.set_cons_zero, List.set_cons_succ]
          refine grow_fix 34 ?_ rfl (by rfl) (by rfl) (fun wx hC hD => ?_) ?_
          rotate_left
          · have hSw := HC25.out wx hC
            go_simp
            all_goals with_reducible rfl
          try simp only [Act.put, List.setIfInBounds_toArray, List.set_cons_zero, List.set_cons_succ]
          refine grow_fix 35 ?_ rfl (by rfl) (by rfl) (fun wx hC hD => ?_) ?_
          rotate_left
          · have hSw := HC25.out wx hC
            go_simp
            all_goals with_reducible rfl
          try simp only [Act.put, List.setIfInBounds_toArray, List.set_cons_zero, List.set_cons_succ]
          refine grow_fix 36 ?_ rfl (by rfl) (by rfl) (fun wx hC hD => ?_) ?_
          rotate_left
          · have hSw := HC25.out wx hC
            go_simp
            all_goals with_reducible rfl
          try simp only [Act.put, List.setIfInBounds_toArray, List.set_cons_zero, List.set_cons_succ]
          refine grow_fix 37 ?_ rfl (by rfl) (by rfl) (fun wx hC hD => ?_) ?_
          rotate_left
          · have hSw := HC25.out wx hC
            go_simp
            all_goals with_reducible rfl
          try simp only [Act.put, List.setIfInBounds_toArray, List.set_cons_zero, List.set_cons_succ]
          refine grow_fix 38 ?_ rfl (by rfl) (by rfl) (fun wx hC hD => ?_) ?_
          rotate_left
          · have hSw := HC25.out wx hC
            go_simp
            all_goals with_reducible rfl
          try simp only [Act.put, List.setIfInBounds_toArray, List.set_cons_zero, List.set_cons_succ]
          refine grow_give 39 _ rfl (by rfl) (by rfl) (fun wx hC hD => ?_) (fun x => ?_)
          · refine give_enter (f := ?_) (args := ?_) ?_ ?_
            rotate_left 2
            · have hSw := HC25.out wx hC
              go_simp
              all_goals first | with_reducible rfl | (refine ⟨?_, ?_⟩ <;> with_reducible rfl)
            refine (Hshort.out wx).mono ?_
            rintro e w9 ⟨rfl, hEq⟩
            subst hEq
            exact ⟨_, rfl, Below.refl _ _, hC, (), rfl, trivial⟩
          obtain _ := x
          try simp only [Act.put, List.setIfInBounds_toArray, List.set_cons_zero, List.set_cons_succ]
          refine grow_give 40 _ rfl (by rfl) (by rfl) (fun wx hC hD => ?_) (fun x => ?_)
          · refine give_enter (f := ?_) (args := ?_) ?_ ?_
            rotate_left 2
            · have hSw := HC25.out wx hC
              go_simp
              all_goals first | with_reducible rfl | (refine ⟨?_, ?_⟩ <;> with_reducible rfl)
            refine (posts_N (HN25.out wx hC) tt).mono ?_
            rintro e w9 ⟨rfl, hEq⟩
            subst hEq
            exact ⟨_, rfl, Below.refl _ _, hC, (), rfl, trivial⟩
          obtain _ := x
          try simp only [Act.put, List.setIfInBounds_toArray, List.set_cons_zero, List.set_cons_succ]
          refine grow_fix 41 ?_ rfl (by rfl) (by rfl) (fun wx hC hD => ?_) ?_
          rotate_left
          · have hSw := HC25.out wx hC
            go_simp
            all_goals with_reducible rfl
          try simp only [Act.put, List.setIfInBounds_toArray, List.set_cons_zero, List.set_cons_succ]
          refine grow_fix 42 ?_ rfl (by rfl) (by rfl) (fun wx hC hD => ?_) ?_
          rotate_left
          · have hSw := HC25.out wx hC
            go_simp
            all_goals with_reducible rfl
          try simp only [Act.put, List.setIfInBounds_toArray, List.set_cons_zero, List.set_cons_succ]
          refine grow_fix 43 ?_ rfl (by rfl) (by rfl) (fun wx hC hD => ?_) ?_
          rotate_left
          · have hSw := HC25.out wx hC
            go_simp
            all_goals with_reducible rfl
          try simp only [Act.put, List.setIfInBounds_toArray, List.set_cons_zero, List.set_cons_succ]
          refine grow_fix 44 ?_ rfl (by rfl) (by rfl) (fun wx hC hD => ?_) ?_
          rotate_left
          · have hSw := HC25.out wx hC
            go_simp
            all_goals with_reducible rfl
          try simp only [Act.put, List.setIfInBounds_toArray, List.set_cons_zero, List.set_cons_succ]
          refine grow_fix 45 ?_ rfl (by rfl) (by rfl) (fun wx hC hD => ?_) ?_
          rotate_left
          · have hSw := HC25.out wx hC
            go_simp
            all_goals with_reducible rfl
          try simp only [Act.put, List.setIfInBounds_toArray, List.set_cons_zero, List.set_cons_succ]
          refine grow_fix 46 ?_ rfl (by rfl) (by rfl) (fun wx hC hD => ?_) ?_
          rotate_left
          · have hSw := HC25.out wx hC
            go_simp
            all_goals with_reducible rfl
          try simp only [Act.put, List.setIfInBounds_toArray, List.set_cons_zero, List.set_cons_succ]
          refine grow_give 47 _ rfl (by rfl) (by rfl) (fun wx hC hD => ?_) (fun x => ?_)
          · refine give_enter (f := ?_) (args := ?_) ?_ ?_
            rotate_left 2
            · have hSw := HC25.out wx hC
              go_simp
              all_goals first | with_reducible rfl | (refine ⟨?_, ?_⟩ <;> with_reducible rfl)
            refine (prefix_N (HN25.out wx hC) ⟨#[]⟩).mono ?_
            rintro e w9 ⟨rfl, hb9⟩
            exact ⟨_, rfl, hb9, hC.trans (hb9.mono hC.size), (), rfl, trivial⟩
          obtain _ := x
          try simp only [Act.put, List.setIfInBounds_toArray, List.set_cons_zero, List.set_cons_succ]
          refine grow_fix 48 ?_ rfl (by rfl) (by rfl) (fun wx hC hD => ?_) ?_
          rotate_left
          · have hSw := HC25.out wx hC
            go_simp
            all_goals with_reducible rfl
          try simp only [Act.put, List.setIfInBounds_toArray, List.set_cons_zero, List.set_cons_succ]
          refine grow_fix 49 ?_ rfl (by rfl) (by rfl) (fun wx hC hD => ?_) ?_
          rotate_left
          · have hSw := HC25.out wx hC
            go_simp
            all_goals with_reducible rfl
          try simp only [Act.put, List.setIfInBounds_toArray, List.set_cons_zero, List.set_cons_succ]
          refine grow_fix 50 ?_ rfl (by rfl) (by rfl) (fun wx hC hD => ?_) ?_
          rotate_left
          · have hSw := HC25.out wx hC
            go_simp
            all_goals with_reducible rfl
          try simp only [Act.put, List.setIfInBounds_toArray, List.set_cons_zero, List.set_cons_succ]
          refine grow_fix 51 ?_ rfl (by rfl) (by rfl) (fun wx hC hD => ?_) ?_
          rotate_left
          · have hSw := HC25.out wx hC
            go_simp
            all_goals with_reducible rfl
          try simp only [Act.put, List.setIfInBounds_toArray, List.set_cons_zero, List.set_cons_succ]
          refine grow_fix 52 ?_ rfl (by rfl) (by rfl) (fun wx hC hD => ?_) ?_
          rotate_left
          · have hSw := HC25.out wx hC
            go_simp
            all_goals with_reducible rfl
          try simp only [Act.put, List.setIfInBounds_toArray, List.set_cons_zero, List.set_cons_succ]
          refine grow_fix 53 ?_ rfl (by rfl) (by rfl) (fun wx hC hD => ?_) ?_
          rotate_left
          · have hSw := HC25.out wx hC
            go_simp
            all_goals with_reducible rfl
          try simp only [Act.put, List.setIfInBounds_toArray, List.set_cons_zero, List.set_cons_succ]
          refine grow_fix 54 ?_ rfl (by rfl) (by rfl) (fun wx hC hD => ?_) ?_
          rotate_left
          · have hSw := HC25.out wx hC
            go_simp
            all_goals with_reducible rfl
          try simp only [Act.put, List.setIfInBounds_toArray, List.set_cons_zero, List.set_cons_succ]
          refine grow_fix 55 ?_ rfl (by rfl) (by rfl) (fun wx hC hD => ?_) ?_
          rotate_left
          · have hSw := HC25.out wx hC
            go_simp
            all_goals with_reducible rfl
          try simp only [Act.put, List.setIfInBounds_toArray, List.set_cons_zero, List.set_cons_succ]
          refine grow_fix 56 ?_ rfl (by rfl) (by rfl) (fun wx hC hD => ?_) ?_
          rotate_left
          · have hSw := HC25.out wx hC
            go_simp
            all_goals with_reducible rfl
          try simp only [Act.put, List.setIfInBounds_toArray, List.set_cons_zero, List.set_cons_succ]
          refine grow_fix 57 ?_ rfl (by rfl) (by rfl) (fun wx hC hD => ?_) ?_
          rotate_left
          · have hSw := HC25.out wx hC
            go_simp
            all_goals with_reducible rfl
          try simp only [Act.put, List.setIfInBounds_toArray, List.set_cons_zero, List.set_cons_succ]
          refine grow_fix 58 ?_ rfl (by rfl) (by rfl) (fun wx hC hD => ?_) ?_
          rotate_left
          · have hSw := HC25.out wx hC
            go_simp
            all_goals with_reducible rfl
          try simp only [Act.put, List.setIfInBounds_toArray, List.set_cons_zero, List.set_cons_succ]
          refine grow_fix 59 ?_ rfl (by rfl) (by rfl) (fun wx hC hD => ?_) ?_
          rotate_left
          · have hSw := HC25.out wx hC
            go_simp
            all_goals with_reducible rfl
          try simp only [Act.put, List.setIfInBounds_toArray, List.set_cons_zero, List.set_cons_succ]
          refine grow_fix 60 ?_ rfl (by rfl) (by rfl) (fun wx hC hD => ?_) ?_
          rotate_left
          · have hSw := HC25.out wx hC
            go_simp
            all_goals with_reducible rfl
          try simp only [Act.put, List.setIfInBounds_toArray, List.set_cons_zero, List.set_cons_succ]
          refine grow_fix 61 ?_ rfl (by rfl) (by rfl) (fun wx hC hD => ?_) ?_
          rotate_left
          · have hSw := HC25.out wx hC
            go_simp
            all_goals with_reducible rfl
          try simp only [Act.put, List.setIfInBounds_toArray, List.set_cons_zero, List.set_cons_succ]
          refine grow_fix 62 ?_ rfl (by rfl) (by rfl) (fun wx hC hD => ?_) ?_
          rotate_left
          · have hSw := HC25.out wx hC
            go_simp
            all_goals with_reducible rfl
          try simp only [Act.put, List.setIfInBounds_toArray, List.set_cons_zero, List.set_cons_succ]
          refine grow_fix 63 ?_ rfl (by rfl) (by rfl) (fun wx hC hD => ?_) ?_
          rotate_left
          · have hSw := HC25.out wx hC
            go_simp
            all_goals with_reducible rfl
          try simp only [Act.put, List.setIfInBounds_toArray, List.set_cons_zero, List.set_cons_succ]
          refine grow_fix 64 ?_ rfl (by rfl) (by rfl) (fun wx hC hD => ?_) ?_
          rotate_left
          · have hSw := HC25.out wx hC
            go_simp
            all_goals with_reducible rfl
          try simp only [Act.put, List.setIfInBounds_toArray, List.set_cons_zero, List.set_cons_succ]
          refine grow_fix 65 ?_ rfl (by rfl) (by rfl) (fun wx hC hD => ?_) ?_
          rotate_left
          · have hSw := HC25.out wx hC
            go_simp
            all_goals with_reducible rfl
          try simp only [Act.put, List.setIfInBounds_toArray, List.set_cons_zero, List.set_cons_succ]
          refine grow_fix 66 ?_ rfl (by rfl) (by rfl) (fun wx hC hD => ?_) ?_
          rotate_left
          · have hSw := HC25.out wx hC
            go_simp
            all_goals with_reducible rfl
          try simp only [Act.put, List.setIfInBounds_toArray, List.set_cons_zero, List.set_cons_succ]
          refine grow_fix 67 ?_ rfl (by rfl) (by rfl) (fun wx hC hD => ?_) ?_
          rotate_left
          · have hSw := HC25.out wx hC
            go_simp
            all_goals with_reducible rfl
          try simp only [Act.put, List.setIfInBounds_toArray, List.set_cons_zero, List.set_cons_succ]
          refine grow_give 68 _ rfl (by rfl) (by rfl) (fun wx hC hD => ?_) (fun x => ?_)
          · refine give_enter (f := ?_) (args := ?_) ?_ ?_
            rotate_left 2
            · have hSw := HC25.out wx hC
              go_simp
              all_goals first | with_reducible rfl | (refine ⟨?_, ?_⟩ <;> with_reducible rfl)
            refine (fork_N (HN25.out wx hC)).mono ?_
            rintro e w9 ⟨rfl, hEq⟩
            subst hEq
            exact ⟨_, rfl, Below.refl _ _, hC, (), rfl, trivial⟩
          obtain _ := x
          try simp only [Act.put, List.setIfInBounds_toArray, List.set_cons_zero, List.set_cons_succ]
          refine grow_fix 69 ?_ rfl (by rfl) (by rfl) (fun wx hC hD => ?_) ?_
          rotate_left
          · have hSw := HC25.out wx hC
            go_simp
            all_goals with_reducible rfl
          try simp only [Act.put, List.setIfInBounds_toArray, List.set_cons_zero, List.set_cons_succ]
          refine grow_fix 70 ?_ rfl (by rfl) (by rfl) (fun wx hC hD => ?_) ?_
          rotate_left
          · have hSw := HC25.out wx hC
            go_simp
            all_goals with_reducible rfl
          try simp only [Act.put, List.setIfInBounds_toArray, List.set_cons_zero, List.set_cons_succ]
          refine grow_nil (fun w19 hC hF => ?_)
          have H19 := Lib.hid (H17.out.trans (hC.mono H17.out.size))
          clear hF hC HC25 HN25
          have HBn := Lib.hid (hB.out.trans (H19.out.mono hB.out.size))
          go_wp2_with fail
          go_roundw
          case rel => exact ⟨k + 1, by omega, by go_num, HBn⟩
          case measure => simp [intOf]; omega
        · obtain rfl : k = 2 := by omega
          have HIZ := Lib.hid (HIC.out.later (H14.out.trans (hB.out.mono H14.out.size)))
          have hsr := hB.out.size
          go_wp2_with fail
          refine (len_any HIZ.out).mono ?_
          rintro e w15 ⟨rfl, hEq⟩
          subst hEq
          simp only [List.length_nil]
          go_wp2_with fail
          refine (sizeX_any HIZ.out).mono ?_
          rintro e w15 ⟨rfl, hEq⟩
          subst hEq
          go_wp2_with fail
          refine (terms_nil HIZ.out).mono ?_
          rintro e w20 ⟨⟨At, ct, rfl⟩, hb20⟩
          have HI20 := Lib.hid (HIZ.out.later hb20)
          have H20 := Lib.hid (hB.out.trans (hb20.mono hsr))
          clear hb20
          go_wp2_with fail
          refine (prefix_nil ⟨#[]⟩ (fun wx hb => terms_nil (HI20.out.later hb)) (fun wx hb => (len_any (HI20.out.later hb)))).mono ?_
          rintro e w21 ⟨rfl, hb21⟩
          have H21 := Lib.hid (H20.out.trans (hb21.mono H20.out.size))
          clear hb21
          go_wp2_with fail
          refine (awake_any w21).mono ?_
          rintro e wf ⟨rfl, hbf⟩
          have HF := Lib.hid ((HBW.out.trans (H21.out.mono hsw14)).trans (hbf.mono (Nat.le_trans hsw14 H21.out.size)))
          clear hbf
          go_wp2
          go_ret
          exact ⟨rfl, HF.out⟩
end Go.Proofs.YtioekhiaoajgfaaGreat.Mx
