/- loggialaw17.QparseBlanks: the walk. -/
import Derived.Test.YtceekocfmbcobaaPkQparseBlanksRow0
namespace Go.Proofs.Ytceekocfmbcobaa.Qp
open Go.RowKit Go.Proofs.Ytceekocfmbcobaa Go.Proofs.Ytceekocfmbcobaa.Ut Go.Proofs.Ytceekocfmbcobaa.Tk Go.Proofs.Ytceekocfmbcobaa.Qy
set_option maxRecDepth 20000
set_option linter.unusedSimpArgs false

set_option maxHeartbeats 6400000 in
theorem blanks_walk (s0 : ByteArray) (A : Option Addr) (n c : Nat) (zs : List Int) (w : World) (hs : s0.size ≤ 140737488351232) (hR : Reads w w.heap.size 1 A n (zs.map (Value.int .u8))) (hwf : ∀ z ∈ zs, (Lit.int .u8 z).wf = true) (hn : n * 1 ≤ 140737488351232) (hzn : zs.length = n) : Calls Try.prog 5 #[.string s0, .slice A n c] w fun e w' => e = .returned (.bool true) ∧ Below w.heap.size w w' := by
  have c0 := lcut17 s0 w hs
  have hz := ct_size 1100 s0
  generalize ct 1100 s0 = s at *
  clear hs
  have HR := Lib.hid hR
  have Hwf := Lib.hid hwf
  clear hR hwf
  cases hpc : pieces s.data.toList with
  | none =>
    have c1 := pieces_any s w (by omega)
    rw [hpc] at c1
    clear hpc
    go_enter Try.func5, Try.ntmps5
    go_wp2_with fail
    refine c0.mono ?_
    rintro e w' ⟨rfl, rfl⟩
    go_wp2_with fail
    refine c1.mono ?_
    rintro e w1 ⟨rfl, hb1⟩
    have c2 := awake17 w1
    have Hb1 := Lib.hid hb1
    clear c0 c1 hb1
    go_wp2_with fail
    refine c2.mono ?_
    rintro e w2 ⟨rfl, hb2⟩
    have Hb2 := Lib.hid (Hb1.out.trans (hb2.mono Hb1.out.size))
    clear hb2 c2
    go_wp2_with fail
    go_ret
    exact ⟨rfl, Hb2.out⟩
  | some L =>
    have hL : L.length ≤ 1100 := by
      have := pieces_many s.data.toList.length s.data.toList L (Nat.le_refl _) hpc
      rw [bsize] at this
      omega
    have hfl : L.flatten.length ≤ 1100 := by
      have := pieces_flat s.data.toList.length s.data.toList L (Nat.le_refl _) hpc
      rw [bsize] at this
      omega
    have hx : ∀ k (h : k < L.length), (str L[k]).size ≤ 1100 := fun k h => by
      rw [str_size]
      have h1 : L[k].length ≤ L.flatten.length := by
        have := flat_take (L.drop k) 1
        rw [List.drop_eq_getElem_cons h, List.take_succ_cons, List.take_zero, List.flatten_cons, List.flatten_nil, List.append_nil] at this
        have h2 : L.flatten = (L.take k).flatten ++ (L[k] :: L.drop (k + 1)).flatten := by
          rw [← List.flatten_append, ← List.drop_eq_getElem_cons h, List.take_append_drop]
        rw [h2, List.length_append]
        omega
      omega
    have hgs : ∀ k, (str (gap (oddAt zs) L k)).size ≤ 3301 := fun k => by
      have := gap_len (oddAt zs) L k
      rw [str_size]; omega
    have c1 := pieces_any s w (by omega)
    rw [hpc] at c1
    have hga := gap_all (oddAt zs) s.data.toList L hpc
    rw [← str_data (gap (oddAt zs) L L.length)] at hga
    have Hga := Lib.hid hga
    have Hpc := Lib.hid hpc
    have Hx := Lib.hid hx
    have Hgs := Lib.hid hgs
    clear hga hpc hx hgs hfl
    go_enter Try.func5, Try.ntmps5
    go_wp2_with fail
    refine c0.mono ?_
    rintro e w' ⟨rfl, rfl⟩
    clear c0
    go_wp2_with fail
    refine c1.mono ?_
    rintro e w1 ⟨v1, rfl, hown1, hb1⟩
    obtain ⟨A1, k1, rfl, hR1⟩ := own_shape hown1
    have Hb1 := Lib.hid hb1
    have HR1 := Lib.hid hR1
    have HR' := Lib.hid (HR.out.below hb1)
    have hz1 := hb1.size
    clear hb1 hR1 hown1 c1 HR
    go_wp2_with fail
    go_loopw [7, 8] (fun a i wr => ∃ k : Nat, k ≤ L.length ∧ i = .int .i64 k ∧ a = .string (str (gap (oddAt zs) L k)) ∧ Below w1.heap.size w1 wr) (fun _ i _ => L.length - (intOf i).toNat)
    case atStart => exact ⟨0, Nat.zero_le _, rfl, rfl, Below.refl _ _⟩
    case round =>
      obtain ⟨k, hk, rfl, rfl, hb⟩ := hrel
      by_cases hlt : k < L.length
      · obtain ⟨b, o, u, rfl, hbb, hu, hc1⟩ := HR1.out.at_ hlt
        rw [sv_get L k hlt] at hu
        injection hu with hu
        subst hu
        have hd1 := (hb.cell (p := ⟨b, o + k, none⟩) hbb).trans hc1
        have hl := Hx.out k hlt
        have hy := Hgs.out k
        have Hb := Lib.hid hb
        by_cases hj : k < zs.length
        · obtain ⟨b2, o2, hl2, rfl, hbb2, hc2⟩ := HR'.out.at_map (k := k) (by omega)
          have hd2 := (hb.cell (p := ⟨b2, o2 + k, none⟩) (Nat.lt_of_lt_of_le hbb2 hz1)).trans hc2
          have hzw := Hwf.out zs[k] (List.getElem_mem _)
          have hzr : 0 ≤ zs[k] ∧ zs[k] < 256 := by
            have : IntKind.u8.min ≤ zs[k] ∧ zs[k] ≤ IntKind.u8.max := by simpa [Lit.wf] using hzw
            have e1 : IntKind.u8.min = 0 := rfl
            have e2 : IntKind.u8.max = 255 := rfl
            omega
          have hos := oddAt_some hj
          by_cases hod : zs[k] % 2 = 1
          · have Hg := Lib.hid (gap_yes (oddAt zs) L k hlt (by rw [hos, hod]; rfl))
            clear hos hzw hc1 hc2 hb
            generalize str L[k] = x at *
            generalize str (gap (oddAt zs) L k) = y at *
            generalize zs[k] = z at *
            go_wp2
            go_roundw
            case rel => exact ⟨k + 1, by omega, by go_num, by rw [← Hg.out], Hb.out⟩
            case measure => simp [intOf]; omega
          · have Hg := Lib.hid (gap_no (oddAt zs) L k hlt (by rw [hos]; simpa using hod))
            clear hos hzw hc1 hc2 hb
            generalize str L[k] = x at *
            generalize str (gap (oddAt zs) L k) = y at *
            generalize zs[k] = z at *
            go_wp2
            go_roundw
            case rel => exact ⟨k + 1, by omega, by go_num, by rw [← Hg.out], Hb.out⟩
            case measure => simp [intOf]; omega
        · have Hg := Lib.hid (gap_no (oddAt zs) L k hlt (oddAt_none hj))
          have hj' : ¬ ((k : Int) < (n : Int)) := by omega
          clear hc1 hb
          generalize str L[k] = x at *
          generalize str (gap (oddAt zs) L k) = y at *
          go_wp2
          go_roundw
          case rel => exact ⟨k + 1, by omega, by go_num, by rw [← Hg.out], Hb.out⟩
          case measure => simp [intOf]; omega
      · obtain rfl : k = L.length := by omega
        have hts := Hgs.out L.length
        generalize str (gap (oddAt zs) L L.length) = t at *
        have c2 := pieces_any t wr (by omega)
        rw [Hga.out] at c2
        have Hb2 := Lib.hid (Hb1.out.trans (hb.mono Hb1.out.size))
        have HR2 := Lib.hid (rgrow HR1.out hb)
        have Hpp := Lib.hid (Hga.out.trans Hpc.out.symm)
        clear hb HR1 Hx Hgs HR' Hga Hpc Hb1
        go_wp2_with fail
        refine c2.mono ?_
        rintro e w2 ⟨v2, rfl, hown2, hb2⟩
        obtain ⟨A2, k2, rfl, hR2⟩ := own_shape hown2
        have Hb3 := Lib.hid (Hb2.out.trans (hb2.mono Hb2.out.size))
        have c3 := sameWords_eq A1 A2 k1 k2 w2.heap.size L w2 (rgrow HR2.out hb2) hR2 (Nat.le_refl _) (by omega)
        clear hown2 hR2 hb2 c2 HR2
        go_wp2_with fail
        refine c3.mono ?_
        rintro e w3 ⟨rfl, hb3⟩
        have Hb4 := Lib.hid (Hb3.out.trans (hb3.mono Hb3.out.size))
        have c4 := parse_any s w3
        clear hb3 c3
        go_wp2_with fail
        refine c4.mono ?_
        rintro e w4 ⟨E, oq, a0, a1, a2, a3, hp, rfl, hF, hb4⟩
        obtain ⟨K, hQW⟩ := prs_w hp
        obtain ⟨A', n', c', C', m', d', e4⟩ := hF.four
        simp only [List.cons.injEq, and_true] at e4
        obtain ⟨rfl, rfl, rfl, rfl⟩ := e4
        have HP := Lib.hid hp
        have HQW := Lib.hid hQW
        have hba := (Below.refl w4.heap.size w4).alloc (Nat.le_refl _) (.cells #[.int .i64 (oq.getD noQ).kind, .string (oq.getD noQ).name, .slice A' n' c', .slice C' m' d'] 29)
        have HF := Lib.hid (hF.grow hba)
        have HB := Lib.hid (Blk.new w4 29 #[.int .i64 (oq.getD noQ).kind, .string (oq.getD noQ).name, .slice A' n' c', .slice C' m' d'])
        have Hb5 := Lib.hid ((Hb4.out.trans (hb4.mono Hb4.out.size)).trans (hba.mono (Nat.le_trans Hb4.out.size hb4.size)))
        have hzz : w4.heap.size < (w4.alloc (.cells #[.int .i64 (oq.getD noQ).kind, .string (oq.getD noQ).name, .slice A' n' c', .slice C' m' d'] 29)).heap.size := by simp
        clear c4 hF hb4 hp hQW hba
        generalize hq0 : oq.getD noQ = q0 at *
        have Hq0 := Lib.hid hq0
        clear hq0
        go_wp2_with fail
        generalize hw5 : w4.alloc (.cells #[.int .i64 q0.kind, .string q0.name, .slice A' n' c', .slice C' m' d'] 29) = w5 at *
        clear hw5
        have c5 := parse_any t w5
        refine c5.mono ?_
        rintro e w6 ⟨E2, oq2, b0, b1, b2, b3, hp2, rfl, hG, hb6⟩
        obtain ⟨A9, n9, c9, C9, m9, d9, e9⟩ := hG.four
        simp only [List.cons.injEq, and_true] at e9
        obtain ⟨rfl, rfl, rfl, rfl⟩ := e9
        have HP2 := Lib.hid hp2
        generalize hq9 : oq2.getD noQ = q9 at *
        have Hq9 := Lib.hid hq9
        clear hq9
        have hba := (Below.refl w6.heap.size w6).alloc (Nat.le_refl _) (.cells #[.int .i64 q9.kind, .string q9.name, .slice A9 n9 c9, .slice C9 m9 d9] 29)
        have HF6 := Lib.hid ((HF.out.grow hb6).grow hba)
        have HG6 := Lib.hid (hG.grow hba)
        have HB6 := Lib.hid ((HB.out.below hb6 hzz).alloc (.cells #[.int .i64 q9.kind, .string q9.name, .slice A9 n9 c9, .slice C9 m9 d9] 29))
        have HC6 := Lib.hid (Blk.new w6 29 #[.int .i64 q9.kind, .string q9.name, .slice A9 n9 c9, .slice C9 m9 d9])
        have Hb6 := Lib.hid ((Hb5.out.trans (hb6.mono Hb5.out.size)).trans (hba.mono (Nat.le_trans Hb5.out.size hb6.size)))
        have hz5 : w5.heap.size ≤ w6.heap.size := hb6.size
        clear c5 hp2 hG hb6 hba HF HB
        go_upto_region 17 with (fail)
        generalize hw7 : w6.alloc (.cells #[.int .i64 q9.kind, .string q9.name, .slice A9 n9 c9, .slice C9 m9 d9] 29) = w7 at *
        clear hw7
        by_cases ht4 : t.size ≤ 1024
        · by_cases hs4 : s.size ≤ 1024
          · have ht4' : ¬ (1024 : Int) < (t.size : Int) := by omega
            have hs4' : ¬ (1024 : Int) < (s.size : Int) := by omega
            obtain ⟨rfl, rfl⟩ := (HP.out.pcs (by rw [bsize]; exact hs4) (by rw [bsize]; exact ht4) Hpp.out).det HP2.out
            obtain rfl : q0 = q9 := Hq0.out.symm.trans Hq9.out
            obtain ⟨x0, x1, x2, x3, _, _, _, _⟩ := HB6.out.four
            obtain ⟨y0, y1, y2, y3, _, _, _, _⟩ := HC6.out.four
            have c8 := same_q HQW.out w7 _ _ _ _ _ _ _ _ (HF6.out.at_ fun b hS => hS.2) (HG6.out.at_ fun b hS => hS.2)
            clear HP HP2 ht4 hs4
            go_wp2_with fail
            refine c8.mono ?_
            rintro e w8 ⟨rfl, hb8⟩
            have Hb8 := Lib.hid (Hb6.out.trans (hb8.mono Hb6.out.size))
            have c9 := awake17 w8
            clear c8 hb8 x0 x1 x2 x3 y0 y1 y2 y3
            go_wp2_with fail
            refine c9.mono ?_
            rintro e w9 ⟨rfl, hb9⟩
            have Hb9 := Lib.hid (Hb8.out.trans (hb9.mono Hb8.out.size))
            clear c9 hb9
            go_wp2_with fail
            go_ret
            exact ⟨rfl, Hb9.out⟩
          · have ht4' : ¬ (1024 : Int) < (t.size : Int) := by omega
            have hs4' : (1024 : Int) < (s.size : Int) := by omega
            clear HP HP2 HQW HF6 HG6 HB6 HC6 ht4 hs4
            have c8 := awake17 w7
            go_wp2_with fail
            refine c8.mono ?_
            rintro e w8 ⟨rfl, hb8⟩
            have Hb8 := Lib.hid (Hb6.out.trans (hb8.mono Hb6.out.size))
            clear c8 hb8
            go_wp2_with fail
            go_ret
            exact ⟨rfl, Hb8.out⟩
        · have ht4' : (1024 : Int) < (t.size : Int) := by omega
          clear HP HP2 HQW HF6 HG6 HB6 HC6 ht4
          have c8 := awake17 w7
          go_wp2_with fail
          refine c8.mono ?_
          rintro e w8 ⟨rfl, hb8⟩
          have Hb8 := Lib.hid (Hb6.out.trans (hb8.mono Hb6.out.size))
          clear c8 hb8
          go_wp2_with fail
          go_ret
          exact ⟨rfl, Hb8.out⟩
end Go.Proofs.Ytceekocfmbcobaa.Qp
