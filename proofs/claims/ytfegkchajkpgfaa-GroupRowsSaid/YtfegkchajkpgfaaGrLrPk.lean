/- loggialaw30.GroupRows: the walk (printed by gen_grlr.py). -/
import Derived.Test.YtfegkchajkpgfaaPkGroupRowsRow37
import Derived.Test.YtfegkchajkpgfaaGrWPk
import Derived.Test.YtfegkchajkpgfaaPkGroupRowsRow16
import Derived.Test.YtfegkchajkpgfaaGrBPk
import Derived.Test.YtfegkchajkpgfaaGrFPk
namespace Go.Proofs.Ytfegkchajkpgfaa.Gr
open Go.RowKit Go.Proofs.Ytfegkchajkpgfaa Go.Proofs.Ytfegkchajkpgfaa.Ut Go.Proofs.Ytfegkchajkpgfaa.Tk Go.Sort Go.Shelf Go.Lib
set_option maxRecDepth 20000
set_option linter.unusedSimpArgs false
set_option linter.unusedVariables false

set_option maxHeartbeats 6400000 in
theorem groupRows_walk (A : Option Addr) (n c : Nat) (l : List Ct) (A' : Option Addr) (n' c' : Nat) (m : List Ct) (most : Int) (w : World) (hR : Reads w w.heap.size 2 A n (ctC l)) (hn : n ≤ 8796093021952) (hs : ∀ x ∈ l, x.1.size ≤ 140737488351232)
    (hR' : Reads w w.heap.size 2 A' n' (ctC m)) (hn' : n' ≤ 8796093021952) (hs' : ∀ x ∈ m, x.1.size ≤ 140737488351232) :
    Calls Try.prog 5 #[.slice A n c, .slice A' n' c', .int .i64 most] w fun e w' => e = .returned (.bool true) ∧ Below w.heap.size w w' := by
  have c1 := short_any A n c l w hR hn hs
  have hsl := shortR_len l
  have hsm := shortR_len m
  have hzl := shortR_sz l
  have hzm := shortR_sz m
  have HR' := Lib.hid hR'
  clear hR hR' hs
  go_enter Try.func5, Try.ntmps5
  go_wp2_with fail
  refine c1.mono ?_
  rintro e w1 ⟨v1, rfl, ho1, hb1⟩
  have c2 := short_any A' n' c' m w1 (rd_grow hb1 HR'.out) hn' hs'
  obtain ⟨P, p, rfl, hP, _, _, hP0, _⟩ := own_shp ho1
  have HP := Lib.hid hP
  have Hb := Lib.hid hb1
  have HP0 := Lib.hid (fun e => (hP0 e).1)
  have Hsl := Lib.hid (fun x hx => Nat.le_trans (hzl x hx) (show 60 ≤ 1048576 by omega))
  have Hsl2 := Lib.hid (fun x hx => Nat.le_trans (hzl x hx) (show 60 ≤ 140737488351232 by omega))
  clear c1 ho1 hb1 hP HR' hs' hP0 hzl hzm
  generalize shortR l = s at *
  generalize shortR m = t at *
  have hs6 : s.length ≤ 1048576 := by omega
  have ht6 : t.length ≤ 1048576 := by omega
  go_wp2_with fail
  refine c2.mono ?_
  rintro e w2 ⟨v2, rfl, ho2, hb2⟩
  obtain ⟨Q, q, rfl, hQ, _, _, _, _⟩ := own_shp ho2
  have HQ := Lib.hid hQ
  have HP2 := Lib.hid (rd_grow hb2 HP.out)
  have Hb2 := Lib.hid (Hb.out.trans (hb2.mono Hb.out.size))
  clear c2 ho2 hb2 hQ Hb HP
  have c3 := of_any P s.length p s w2 (HP2.out) (by omega)
  go_wp2_with fail
  refine c3.mono ?_
  rintro e w3 ⟨v3, rfl, ho3, hb3⟩
  obtain ⟨R1, r1k, rfl, hR1, _, _, hR10, _⟩ := own_shp ho3
  have HR10 := Lib.hid (fun e => (hR10 e).1)
  clear ho3 hR10
  have HP3 := Lib.hid (rd_grow hb3 HP2.out)
  clear HP2
  have HQ3 := Lib.hid (rd_grow hb3 HQ.out)
  clear HQ
  have Hb3 := Lib.hid (Hb2.out.trans (hb3.mono Hb2.out.size))
  clear c3 hb3 Hb2
  have HR13 := Lib.hid hR1
  clear hR1
  have c4 := top_any R1 s.length r1k s most w3 (HR13.out) hs6 Hsl2.out HR10.out
  go_wp2_with fail
  refine c4.mono ?_
  rintro e w4 ⟨X, xk, rfl, hX, hb4⟩
  have HP4 := Lib.hid (rd_grow hb4 HP3.out)
  clear HP3
  have HQ4 := Lib.hid (rd_grow hb4 HQ3.out)
  clear HQ3
  have HR4 := Lib.hid (rd_grow hb4 HR13.out)
  clear HR13
  have Hb4 := Lib.hid (Hb3.out.trans (hb4.mono Hb3.out.size))
  clear c4 hb4 Hb3
  have HX4 := Lib.hid hX
  clear hX HR10
  clear HR4
  have c5 := rtop_any P s.length p s most w4 (HP4.out) hs6 Hsl.out
  go_wp2_with fail
  refine c5.mono ?_
  rintro e w5 ⟨Y, yk, rfl, hY, hb5⟩
  have HP5 := Lib.hid (rd_grow hb5 HP4.out)
  clear HP4
  have HQ5 := Lib.hid (rd_grow hb5 HQ4.out)
  clear HQ4
  have HX5 := Lib.hid (rd_grow hb5 HX4.out)
  clear HX4
  have Hb5 := Lib.hid (Hb4.out.trans (hb5.mono Hb4.out.size))
  clear c5 hb5 Hb4
  have HY5 := Lib.hid hY
  clear hY
  have hG : (topG s most).length ≤ 1048576 := by
    by_cases h : okR s = true ∧ 0 ≤ most
    · rw [topG_yes h, List.length_take, topR_len]; omega
    · rw [topG_no h]; decide
  generalize topG s most = G at *
  generalize errG s most = er at *
  have c6 := of_any P s.length p s w5 (HP5.out) (by omega)
  go_wp2_with fail
  refine c6.mono ?_
  rintro e w6 ⟨v6, rfl, ho6, hb6⟩
  obtain ⟨R2, r2k, rfl, hR2, _, _, hR20, _⟩ := own_shp ho6
  have HR20 := Lib.hid (fun e => (hR20 e).1)
  clear ho6 hR20
  have HP6 := Lib.hid (rd_grow hb6 HP5.out)
  clear HP5
  have HQ6 := Lib.hid (rd_grow hb6 HQ5.out)
  clear HQ5
  have HX6 := Lib.hid (rd_grow hb6 HX5.out)
  clear HX5
  have HY6 := Lib.hid (rd_grow hb6 HY5.out)
  clear HY5
  have Hb6 := Lib.hid (Hb5.out.trans (hb6.mono Hb5.out.size))
  clear c6 hb6 Hb5
  have HR26 := Lib.hid hR2
  clear hR2
  have c7 := check_any R2 s.length r2k s w6 (HR26.out) hs6 Hsl2.out
  go_wp2_with fail
  refine c7.mono ?_
  rintro e w7 ⟨rfl, hb7⟩
  have HP7 := Lib.hid (rd_grow hb7 HP6.out)
  clear HP6
  have HQ7 := Lib.hid (rd_grow hb7 HQ6.out)
  clear HQ6
  have HX7 := Lib.hid (rd_grow hb7 HX6.out)
  clear HX6
  have HY7 := Lib.hid (rd_grow hb7 HY6.out)
  clear HY6
  have HR7 := Lib.hid (rd_grow hb7 HR26.out)
  clear HR26
  have Hb7 := Lib.hid (Hb6.out.trans (hb7.mono Hb6.out.size))
  clear c7 hb7 Hb6
  clear HR20
  clear HR7
  have c8 := rcheck_any P s.length p s w7 (HP7.out) hs6 Hsl.out
  go_wp2_with fail
  refine c8.mono ?_
  rintro e w8 ⟨rfl, hb8⟩
  have HP8 := Lib.hid (rd_grow hb8 HP7.out)
  clear HP7
  have HQ8 := Lib.hid (rd_grow hb8 HQ7.out)
  clear HQ7
  have HX8 := Lib.hid (rd_grow hb8 HX7.out)
  clear HX7
  have HY8 := Lib.hid (rd_grow hb8 HY7.out)
  clear HY7
  have Hb8 := Lib.hid (Hb7.out.trans (hb8.mono Hb7.out.size))
  clear c8 hb8 Hb7
  generalize errR s = es at *
  have c9 := of_any P s.length p s w8 (HP8.out) (by omega)
  go_wp2_with fail
  refine c9.mono ?_
  rintro e w9 ⟨v9, rfl, ho9, hb9⟩
  obtain ⟨R3, r3k, rfl, hR3, _, _, hR30, _⟩ := own_shp ho9
  have HR30 := Lib.hid (fun e => (hR30 e).1)
  clear ho9 hR30
  have HP9 := Lib.hid (rd_grow hb9 HP8.out)
  clear HP8
  have HQ9 := Lib.hid (rd_grow hb9 HQ8.out)
  clear HQ8
  have HX9 := Lib.hid (rd_grow hb9 HX8.out)
  clear HX8
  have HY9 := Lib.hid (rd_grow hb9 HY8.out)
  clear HY8
  have Hb9 := Lib.hid (Hb8.out.trans (hb9.mono Hb8.out.size))
  clear c9 hb9 Hb8
  have HR39 := Lib.hid hR3
  clear hR3
  have c10 := total_any R3 s.length r3k s w9 (HR39.out) (by omega)
  go_wp2_with fail
  refine c10.mono ?_
  rintro e w10 ⟨rfl, hb10⟩
  have HP10 := Lib.hid (rd_grow hb10 HP9.out)
  clear HP9
  have HQ10 := Lib.hid (rd_grow hb10 HQ9.out)
  clear HQ9
  have HX10 := Lib.hid (rd_grow hb10 HX9.out)
  clear HX9
  have HY10 := Lib.hid (rd_grow hb10 HY9.out)
  clear HY9
  have HR10 := Lib.hid (rd_grow hb10 HR39.out)
  clear HR39
  have Hb10 := Lib.hid (Hb9.out.trans (hb10.mono Hb9.out.size))
  clear c10 hb10 Hb9
  clear HR30
  clear HR10
  have c11 := rtotal_any P s.length p s w10 (HP10.out) (by omega)
  go_wp2_with fail
  refine c11.mono ?_
  rintro e w11 ⟨rfl, hb11⟩
  have HP11 := Lib.hid (rd_grow hb11 HP10.out)
  clear HP10
  have HQ11 := Lib.hid (rd_grow hb11 HQ10.out)
  clear HQ10
  have HX11 := Lib.hid (rd_grow hb11 HX10.out)
  clear HX10
  have HY11 := Lib.hid (rd_grow hb11 HY10.out)
  clear HY10
  have Hb11 := Lib.hid (Hb10.out.trans (hb11.mono Hb10.out.size))
  clear c11 hb11 Hb10
  generalize totR s = ts at *
  have c12 := of_any P s.length p s w11 (HP11.out) (by omega)
  go_wp2_with fail
  refine c12.mono ?_
  rintro e w12 ⟨v12, rfl, ho12, hb12⟩
  obtain ⟨R4, r4k, rfl, hR4, _, _, hR40, _⟩ := own_shp ho12
  have HR40 := Lib.hid (fun e => (hR40 e).1)
  clear ho12 hR40
  have HP12 := Lib.hid (rd_grow hb12 HP11.out)
  clear HP11
  have HQ12 := Lib.hid (rd_grow hb12 HQ11.out)
  clear HQ11
  have HX12 := Lib.hid (rd_grow hb12 HX11.out)
  clear HX11
  have HY12 := Lib.hid (rd_grow hb12 HY11.out)
  clear HY11
  have Hb12 := Lib.hid (Hb11.out.trans (hb12.mono Hb11.out.size))
  clear c12 hb12 Hb11
  have HR412 := Lib.hid hR4
  clear hR4
  have c13 := of_any Q t.length q t w12 (HQ12.out) (by omega)
  go_wp2_with fail
  refine c13.mono ?_
  rintro e w13 ⟨v13, rfl, ho13, hb13⟩
  obtain ⟨R5, r5k, rfl, hR5, _, _, hR50, _⟩ := own_shp ho13
  have HR50 := Lib.hid (fun e => (hR50 e).1)
  clear ho13 hR50
  have HP13 := Lib.hid (rd_grow hb13 HP12.out)
  clear HP12
  have HQ13 := Lib.hid (rd_grow hb13 HQ12.out)
  clear HQ12
  have HX13 := Lib.hid (rd_grow hb13 HX12.out)
  clear HX12
  have HY13 := Lib.hid (rd_grow hb13 HY12.out)
  clear HY12
  have HR13 := Lib.hid (rd_grow hb13 HR412.out)
  clear HR412
  have Hb13 := Lib.hid (Hb12.out.trans (hb13.mono Hb12.out.size))
  clear c13 hb13 Hb12
  have HR513 := Lib.hid hR5
  clear hR5
  have c14 := gsame_any R4 R5 r4k r5k _ _ s t w13 (HR13.out) (HR513.out) hs6 ht6
  go_wp2_with fail
  refine c14.mono ?_
  rintro e w14 ⟨rfl, hb14⟩
  have HP14 := Lib.hid (rd_grow hb14 HP13.out)
  clear HP13
  have HQ14 := Lib.hid (rd_grow hb14 HQ13.out)
  clear HQ13
  have HX14 := Lib.hid (rd_grow hb14 HX13.out)
  clear HX13
  have HY14 := Lib.hid (rd_grow hb14 HY13.out)
  clear HY13
  have HR14 := Lib.hid (rd_grow hb14 HR13.out)
  clear HR13
  have HR14 := Lib.hid (rd_grow hb14 HR513.out)
  clear HR513
  have Hb14 := Lib.hid (Hb13.out.trans (hb14.mono Hb13.out.size))
  clear c14 hb14 Hb13
  clear HR40 HR50
  clear HR14
  clear HR14
  have c15 := rsame_any P Q p q _ _ s t w14 (HP14.out) (HQ14.out) hs6 ht6
  go_wp2_with fail
  refine c15.mono ?_
  rintro e w15 ⟨rfl, hb15⟩
  have HP15 := Lib.hid (rd_grow hb15 HP14.out)
  clear HP14
  have HQ15 := Lib.hid (rd_grow hb15 HQ14.out)
  clear HQ14
  have HX15 := Lib.hid (rd_grow hb15 HX14.out)
  clear HX14
  have HY15 := Lib.hid (rd_grow hb15 HY14.out)
  clear HY14
  have Hb15 := Lib.hid (Hb14.out.trans (hb15.mono Hb14.out.size))
  clear c15 hb15 Hb14
  generalize decide (s = t) = sm at *
  have c16 := of_any P s.length p s w15 (HP15.out) (by omega)
  go_wp2_with fail
  refine c16.mono ?_
  rintro e w16 ⟨v16, rfl, ho16, hb16⟩
  obtain ⟨R6, r6k, rfl, hR6, _, _, hR60, _⟩ := own_shp ho16
  have HR60 := Lib.hid (fun e => (hR60 e).1)
  clear ho16 hR60
  have HP16 := Lib.hid (rd_grow hb16 HP15.out)
  clear HP15
  have HQ16 := Lib.hid (rd_grow hb16 HQ15.out)
  clear HQ15
  have HX16 := Lib.hid (rd_grow hb16 HX15.out)
  clear HX15
  have HY16 := Lib.hid (rd_grow hb16 HY15.out)
  clear HY15
  have Hb16 := Lib.hid (Hb15.out.trans (hb16.mono Hb15.out.size))
  clear c16 hb16 Hb15
  have HR616 := Lib.hid hR6
  clear hR6
  have c17 := of_any P s.length p s w16 (HP16.out) (by omega)
  go_wp2_with fail
  refine c17.mono ?_
  rintro e w17 ⟨v17, rfl, ho17, hb17⟩
  obtain ⟨R7, r7k, rfl, hR7, _, _, hR70, _⟩ := own_shp ho17
  have HR70 := Lib.hid (fun e => (hR70 e).1)
  clear ho17 hR70
  have HP17 := Lib.hid (rd_grow hb17 HP16.out)
  clear HP16
  have HQ17 := Lib.hid (rd_grow hb17 HQ16.out)
  clear HQ16
  have HX17 := Lib.hid (rd_grow hb17 HX16.out)
  clear HX16
  have HY17 := Lib.hid (rd_grow hb17 HY16.out)
  clear HY16
  have HR17 := Lib.hid (rd_grow hb17 HR616.out)
  clear HR616
  have Hb17 := Lib.hid (Hb16.out.trans (hb17.mono Hb16.out.size))
  clear c17 hb17 Hb16
  have HR717 := Lib.hid hR7
  clear hR7
  have e7 : decide (s = s) = true := decide_eq_true rfl
  have c18 := gsame_any R6 R7 r6k r7k _ _ s s w17 (HR17.out) (HR717.out) hs6 hs6
  rw [e7] at c18
  clear e7
  go_wp2_with fail
  refine c18.mono ?_
  rintro e w18 ⟨rfl, hb18⟩
  have HP18 := Lib.hid (rd_grow hb18 HP17.out)
  clear HP17
  have HQ18 := Lib.hid (rd_grow hb18 HQ17.out)
  clear HQ17
  have HX18 := Lib.hid (rd_grow hb18 HX17.out)
  clear HX17
  have HY18 := Lib.hid (rd_grow hb18 HY17.out)
  clear HY17
  have HR18 := Lib.hid (rd_grow hb18 HR17.out)
  clear HR17
  have HR18 := Lib.hid (rd_grow hb18 HR717.out)
  clear HR717
  have Hb18 := Lib.hid (Hb17.out.trans (hb18.mono Hb17.out.size))
  clear c18 hb18 Hb17
  clear HR60 HR70
  clear HR18
  clear HR18
  have e8 : decide (G = G) = true := decide_eq_true rfl
  have c19 := lsame_any X Y xk yk _ _ G G w18 (HX18.out) (HY18.out) hG hG
  rw [e8] at c19
  clear e8
  go_wp2_with fail
  refine c19.mono ?_
  rintro e w19 ⟨rfl, hb19⟩
  have HP19 := Lib.hid (rd_grow hb19 HP18.out)
  clear HP18
  have HQ19 := Lib.hid (rd_grow hb19 HQ18.out)
  clear HQ18
  have HX19 := Lib.hid (rd_grow hb19 HX18.out)
  clear HX18
  have HY19 := Lib.hid (rd_grow hb19 HY18.out)
  clear HY18
  have Hb19 := Lib.hid (Hb18.out.trans (hb19.mono Hb18.out.size))
  clear c19 hb19 Hb18
  have c20 := awake_any w19
  go_wp2_with fail
  refine c20.mono ?_
  rintro e w20 ⟨rfl, hb20⟩
  have HP20 := Lib.hid (rd_grow hb20 HP19.out)
  clear HP19
  have HQ20 := Lib.hid (rd_grow hb20 HQ19.out)
  clear HQ19
  have HX20 := Lib.hid (rd_grow hb20 HX19.out)
  clear HX19
  have HY20 := Lib.hid (rd_grow hb20 HY19.out)
  clear HY19
  have Hb20 := Lib.hid (Hb19.out.trans (hb20.mono Hb19.out.size))
  clear c20 hb20 Hb19
  go_wp2
  go_ret
  exact ⟨by first | rfl | simp, Hb20.out⟩
end Go.Proofs.Ytfegkchajkpgfaa.Gr
