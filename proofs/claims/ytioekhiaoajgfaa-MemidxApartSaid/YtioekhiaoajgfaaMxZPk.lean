/- loggialaw14.MemidxApart: the walk (seat j; printed by gen_mxz.py). -/
import Derived.Test.YtioekhiaoajgfaaPkMemidxApartRow0
import Derived.Test.YtioekhiaoajgfaaMxFlPk
import Derived.Test.YtioekhiaoajgfaaMxFPk
namespace Go.Proofs.Ytioekhiaoajgfaa.Mx
open Go.RowKit Go.Proofs.Ytioekhiaoajgfaa Go.Proofs.Ytioekhiaoajgfaa.Ut Go.Proofs.Ytioekhiaoajgfaa.Tk Go.Proofs.Ytioekhiaoajgfaa.Qy Go.Proofs.Ytioekhiaoajgfaa.Ev Go.Proofs.Ytioekhiaoajgfaa.Qp Go.Proofs.Ytioekhiaoajgfaa.Mv
set_option linter.unusedVariables false
set_option linter.unusedSimpArgs false
set_option maxRecDepth 40000

theorem fill_small : ∀ (n : Nat) (l : List Bt), l.length = n → Small (fillD l)
  | 0, l, h => by
    obtain rfl := List.length_eq_zero_iff.1 h
    intro d hd
    cases hd
  | n + 1, l, h => by
    obtain ⟨dl, d, rfl⟩ : ∃ dl d, l = dl ++ [d] := by
      rcases List.eq_nil_or_concat l with h0 | ⟨dl, d, h0⟩
      · subst h0; simp at h
      · exact ⟨dl, d, by rw [h0, List.concat_eq_append]⟩
    rw [fillD_snoc]
    exact addD_small (fill_small n dl (by simpa using h))
theorem PRow.rd {w : World} {n0 : Nat} {v : Value} {l : List Po} (h : PRow w n0 v l) : ∃ A c, v = .slice A l.length c ∧ PostRd w A l.length l := by
  obtain ⟨xs, h1, h2, h3⟩ := h.ex
  obtain ⟨A, c, rfl, _⟩ := own_shape2 h2
  exact ⟨A, c, rfl, PostRd.of h rfl⟩
set_option maxHeartbeats 1600000 in
theorem apart_walk (A0 : Option Addr) (n c : Nat) (L : List Bt) (s : ByteArray) (w : World) (hB : BtsAt w (· < w.heap.size) w.heap.size A0 n c L) (hn : n ≤ 4398046511104) (hs : s.size ≤ 140737488351232) :
    Calls Try.prog 3 #[.slice A0 n c, .string s] w fun e w' => e = .returned (.bool true) ∧ Below w.heap.size w w' := by
  have C0 := Lib.hid (few_any A0 n c L w hB hn)
  clear hB
  go_enter Try.func3, Try.ntmps3
  go_wp2_with fail
  refine C0.out.mono ?_
  clear C0
  rintro e w1 (⟨rfl, hb1⟩ | ⟨v1, rfl, hv1, hb1⟩)
  · have HB1 := Lib.hid hb1
    clear hb1
    go_wp2_with fail
    refine (awake_any w1).mono ?_
    rintro e w3 ⟨rfl, hb3⟩
    have HB3 := Lib.hid (HB1.out.trans (hb3.mono HB1.out.size))
    clear hb3
    go_wp2
    go_ret
    exact ⟨rfl, HB3.out⟩
  · obtain ⟨A1, c1, rfl, hL⟩ := hv1.read
    have HB1 := Lib.hid hb1
    have hm8 : (L.take 8).length ≤ 8 := by rw [List.length_take]; omega
    have hs1 := hb1.size
    have hL' : BtsAt w1 (· < w1.heap.size) w1.heap.size A1 (L.take 8).length c1 (L.take 8) := by
      obtain ⟨vss, q1, q2, q3⟩ := hL.ex
      exact ⟨hL.ln, hL.cap, vss, q1, q2.mono (fun b hb => hb.2), fun i a b => (q3 i a b).more hs1⟩
    have C2 := Lib.hid (filled_any A1 (L.take 8).length c1 (L.take 8) w1 hL' (by omega))
    have HSM := Lib.hid (fill_small _ (L.take 8) rfl)
    clear hb1 hL hv1 hL'
    have C1 := Lib.hid (short_any s w1 hs)
    have h80 := cut80_len s
    generalize L.take 8 = l at *
    go_wp2_with fail
    refine C1.out.mono ?_
    rintro e w1' ⟨rfl, rfl⟩
    clear C1
    generalize cut80 s = t at *
    go_wp2_with fail
    refine C2.out.mono ?_
    clear C2
    rintro e w2 ⟨n0, X, O, Rr, A2, n2, c2, hn0, rfl, hI, _, _, hb2⟩
    generalize fillD l = ds at *
    have hfew := hI.few
    have OK := Lib.hid hI.ok
    obtain ⟨M, cn, v, F, hIx, _⟩ := hI.ex
    have hb3 : Below w2.heap.size w2 (w2.alloc (.cells #[.slice A2 n2 c2] 30)) := (Below.refl _ _).alloc (Nat.le_refl _) _
    have HI3 := Lib.hid (hIx.later hb3)
    have HB3 : Hid (Below w.heap.size w (w2.alloc (.cells #[.slice A2 n2 c2] 30))) := Lib.hid (HB1.out.trans ((hb2.trans (hb3.mono hb2.size)).mono hs1))
    have C3 := Lib.hid (docsX_any HI3.out OK.out hfew)
    clear hI hIx hb2 hb3
    go_wp2_with fail
    refine C3.out.mono ?_
    clear C3
    rintro e w4 ⟨v4, rfl, ho4, hb4⟩
    obtain ⟨A4, c4, rfl, hd4, _, _⟩ := ho4.read
    have HB4 := Lib.hid (HB3.out.trans (hb4.mono HB3.out.size))
    have HI4 := Lib.hid (HI3.out.later hb4)
    have hpl := postsT_le (ds.map (·.fs)) t
    rw [List.length_map] at hpl
    have C4 := Lib.hid (posts_any t (by unfold maxLen; omega) HI4.out (by omega))
    have HD4 := Lib.hid hd4
    clear hb4 ho4 hd4 HI3
    go_wp2_with fail
    refine C4.out.mono ?_
    clear C4
    rintro e w5 ⟨v5, rfl, hp5, hb5⟩
    obtain ⟨A5, c5, rfl, hr5⟩ := hp5.rd
    have HR5 := Lib.hid hr5
    have HB5 := Lib.hid (HB4.out.trans (hb5.mono HB4.out.size))
    have HG : Hid (∀ wx, Below w5.heap.size w5 wx → ∀ k (hk : k < ds.length), ∃ b o F fn f, A4 = some ⟨b, o, none⟩ ∧ wx.cell? ⟨b, o + k * 3 + 1, none⟩ = some (.int .i64 ds[k].at_) ∧ wx.cell? ⟨b, o + k * 3 + 2, none⟩ = some (.slice F fn f) ∧ FlAt wx wx.heap.size F fn f ds[k].fs) := Lib.hid (fun wx hb k hk => by
      have hbx := hb5.trans (hb.mono hb5.size)
      obtain ⟨b, o, F, fn, f, e, hR, k0, k1, k2, r, q1, q2, q3, q4⟩ := HD4.out.at_ hk
      have hkk := chkE_ok (OK.out _ (List.getElem_mem hk)).1
      exact ⟨b, o, F, fn, f, e, (hbx.cell hR.2).trans k1, (hbx.cell hR.2).trans k2, ((r.reads (fun b hb => hb.2.lt)).below hbx).more hbx.size, q1, q2, q3, fun g hg => ⟨by have := (hkk.2 g hg).2.1; omega, by have := (hkk.2 g hg).2.2; omega⟩, q4⟩)
    have hPQ : ∀ k (hk : k < ds.length), findP (postsT (ds.map (·.fs)) t) (k : Int) = posOf ds[k].fs t := fun k hk => by
      rw [find_posts t k _ _ rfl, List.getElem?_map, List.getElem?_eq_getElem hk]
      rfl
    have HPQ := Lib.hid hPQ
    clear hb5 hp5 hr5 hPQ HD4 HI4
    generalize postsT (ds.map (·.fs)) t = P at *
    go_wp2_with fail
    go_loopw [10] (fun j wr => ∃ k : Nat, k ≤ ds.length ∧ j = .int .i64 (k : Nat) ∧ Hid (Below w5.heap.size w5 wr)) (fun j _ => ds.length - (intOf j).toNat)
    case atStart => exact ⟨0, Nat.zero_le _, rfl, Lib.hid (Below.refl _ _)⟩
    case round =>
      obtain ⟨k, hk, rfl, HW⟩ := hrel
      by_cases hlt : k < ds.length
      · have hki : (k : Int) < (ds.length : Int) := by omega
        have hki0 : (0 : Int) ≤ (k : Int) := by omega
        go_wp2_with fail
        refine (new_ix wr).mono ?_
        rintro e w6 ⟨Y, rfl, hY, hb6⟩
        have HW6 := Lib.hid (HW.out.trans (hb6.mono HW.out.size))
        obtain ⟨b, o, F, fn, f, rfl, k1, k2, hF⟩ := HG.out w6 HW6.out k hlt
        have hsm := HSM.out _ (List.getElem_mem hlt)
        have hal := add_alone hsm.1 hsm.2
        have HPK := Lib.hid (HPQ.out k hlt)
        have HAL := Lib.hid hal
        clear hsm hal
        generalize ds[k] = d at *
        have hb7 : Below w6.heap.size w6 (w6.alloc (.cells #[.int .i64 d.at_, .slice F fn f] 41)) := (Below.refl _ _).alloc (Nat.le_refl _) _
        have hrow := Rg.new_row (k := 2) w6 41 [.int .i64 d.at_, .slice F fn f] 1 rfl (by omega)
        have hE : EvsAt (w6.alloc (.cells #[.int .i64 d.at_, .slice F fn f] 41)) (World.heap (w6.alloc (.cells #[.int .i64 d.at_, .slice F fn f] 41))).size (some ⟨w6.heap.size, 0, none⟩) 1 1 [(d.at_, d.fs)] := by
          refine ⟨rfl, by omega, Nat.le_refl _, [[.int .i64 d.at_, .slice F fn f]], rfl, hrow, fun i h1 h2 => ?_⟩
          match i, h1, h2 with
          | 0, _, _ => exact ⟨_, _, _, rfl, hF.grow hb7⟩
          | i + 1, h1, _ => exact absurd h1 (by simp)
        have hY7 : IxD (w6.alloc (.cells #[.int .i64 d.at_, .slice F fn f] 41)) wr.heap.size Y (fun b => wr.heap.size ≤ b ∧ b < w6.heap.size) [] := hY.below hb7 (fun b hb => hb) (fun b hb => ⟨hb.1, Nat.lt_of_lt_of_le hb.2 hb7.size⟩)
        have HY7 := Lib.hid hY7
        have hs6 := hb6.size
        have hs7 := hb7.size
        have C7 := Lib.hid (add_walk 1 (some ⟨w6.heap.size, 0, none⟩) 1 1 [(d.at_, d.fs)] wr.heap.size Y _ [] _ HY7.out (by omega) hE)
        have HB7 := Lib.hid hb7
        clear hE hrow hb7 hF hY7 hY hb6
        go_wp2_with fail
        refine C7.out.mono ?_
        rintro e w8 ⟨rfl, hI8, hc8⟩
        rw [HAL.out.1]
        rw [HAL.out.2] at hI8
        have hb8 : Below wr.heap.size (w6.alloc (.cells #[.int .i64 d.at_, .slice F fn f] 41)) w8 := hc8.below (by omega) (fun b hb => hb.1)
        have HW8 := Lib.hid ((HW6.out.trans (HB7.out.mono HW6.out.size)).trans (hb8.mono HW.out.size))
        obtain ⟨M8, cn8, v8, F8, hIx8, _⟩ := hI8.ex
        have ho8 : postsT (([⟨1, d.at_, d.fs⟩] : List Dc).map (·.fs)) t = oneP 0 (posOf d.fs t) := postsT_one d.fs t
        have hlen8 : (oneP 0 (posOf d.fs t)).length ≤ 1 := by cases posOf d.fs t <;> simp [oneP]
        have C8 := Lib.hid (posts_any t (by unfold maxLen; omega) hIx8 (by rw [ho8]; omega))
        rw [ho8] at C8
        clear hI8 hc8 hb8 hIx8 C7 HY7 k1 k2 HAL ho8
        go_wp2_with fail
        refine C8.out.mono ?_
        rintro e w9 ⟨v9, rfl, hp9, hb9⟩
        obtain ⟨A9, c9, rfl, hr9⟩ := hp9.rd
        have HR9 := Lib.hid hr9
        have HW9 := Lib.hid (HW8.out.trans (hb9.mono HW8.out.size))
        have C9 := Lib.hid (find_any A5 P.length c5 P (k : Int) w9 (HR5.out.grow HW9.out) (by have := hpl; omega))
        rw [HPK.out] at C9
        clear hb9 hp9 hr9 C8 HPK
        cases ho : posOf d.fs t with
        | none =>
          simp only [ho, oneP, List.length_nil] at HR9 C9 ⊢
          go_wp2_with fail
          refine C9.out.mono ?_
          rintro e w10 ⟨hb10, rfl⟩
          have HWa := Lib.hid (HW9.out.trans (hb10.mono HW9.out.size))
          clear hb10 C9
          go_wp2_with fail
          go_roundw
          case rel => exact ⟨k + 1, by omega, by go_num, HWa⟩
          case measure => simp [intOf]; omega
        | some q =>
          simp only [ho, oneP, List.length_cons, List.length_nil] at HR9 C9 ⊢
          go_wp2_with fail
          refine C9.out.mono ?_
          rintro e w10 ⟨hb10, Fq, fq, rfl, hq10⟩
          have HWa := Lib.hid (HW9.out.trans (hb10.mono HW9.out.size))
          have hba : Below w10.heap.size w10 (w10.alloc (.cells #[.int .i64 0, .slice Fq q.length fq] 52)) := (Below.refl _ _).alloc (Nat.le_refl _) _
          have hbk := Blk.new w10 52 #[.int .i64 0, .slice Fq q.length fq]
          have hql : q.length ≤ 8796093021952 := by
            obtain ⟨_, _, _, _, _, _, _, _, _, _, h8, h9⟩ := HR9.out.at_ (i := 0) (by simp)
            simp only [List.getElem_cons_zero] at h8
            omega
          have hra : PostRd (w10.alloc (.cells #[.int .i64 0, .slice Fq q.length fq] 52)) (some ⟨w10.heap.size, 0, none⟩) 1 [(0, q)] := by
            refine ⟨rfl, fun {i} h => ?_⟩
            have q0 := hbk.cell 0
            have q1 := hbk.cell 1
            simp only [List.getElem?_toArray, List.getElem?_cons_zero, List.getElem?_cons_succ] at q0 q1
            match i, h with
            | 0, _ => exact ⟨w10.heap.size, 0, Fq, q.length, fq, rfl, hbk.lt, q0, q1, reads_gr hba hq10, rfl, hql⟩
            | i + 1, h => exact absurd h (by simp)
          have Ca := Lib.hid (sameP_eq A9 (some ⟨w10.heap.size, 0, none⟩) 1 c9 1 [(0, q)] _ ((HR9.out.grow hb10).grow hba) hra (by omega))
          have HWb := Lib.hid (HWa.out.trans (hba.mono HWa.out.size))
          clear hb10 C9 hba hbk hra hq10
          go_wp2_with fail
          refine Ca.out.mono ?_
          rintro e w11 ⟨rfl, hb11⟩
          have HWc := Lib.hid (HWb.out.trans (hb11.mono HWb.out.size))
          clear hb11 Ca
          go_wp2_with fail
          go_roundw
          case rel => exact ⟨k + 1, by omega, by go_num, HWc⟩
          case measure => simp [intOf]; omega
      · obtain rfl : k = ds.length := by omega
        go_wp2_with fail
        refine (awake_any wr).mono ?_
        rintro e wf ⟨rfl, hbf⟩
        have HF := Lib.hid ((HB5.out.trans (HW.out.mono HB5.out.size)).trans (hbf.mono (Nat.le_trans HB5.out.size HW.out.size)))
        clear hbf
        go_wp2
        go_ret
        exact ⟨rfl, HF.out⟩
end Go.Proofs.Ytioekhiaoajgfaa.Mx
