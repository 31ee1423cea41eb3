/- TokenAgain: the law's walk. -/
import Derived.Test.YtjfconddkfihcaaTokK
namespace Go.Proofs.Ytjfconddkfihcaa.Tk
open Go.RowKit Go.Proofs.Ytjfconddkfihcaa.Ut
set_option maxRecDepth 20000

theorem isW_words (s : List UInt8) : ∀ x ∈ words s, isW x = true ∧ x.length ≤ 32 := fun x hx => by
  have h := words_word s x hx
  exact ⟨by unfold isW; rw [h.1]; simp, h.2⟩
theorem joined_len : ∀ (ws : List (List UInt8)), (∀ x ∈ ws, x.length ≤ 32) → (joined ws).length ≤ 33 * ws.length
  | [], _ => by simp [joined]
  | x :: ws, h => by
    have ih := joined_len ws (fun y hy => h y (by simp [hy]))
    have hx := h x (by simp)
    rw [joined_cons, List.length_append, List.length_cons, List.length_cons]
    omega
theorem fold_len (s : ByteArray) : (fold s.data.toList).length ≤ 4 * s.size := by
  unfold fold
  have h := encode_len ((ints (runes s.data.toList)).map lower)
  have h2 := runes_len s.data.toList
  rw [bsize] at h2
  simp [ints] at h
  simp [ints]
  omega

set_option maxHeartbeats 1600000 in
theorem tokenAgain_walk (s0 : ByteArray) (w : World) (hs : s0.size ≤ 140737488351232) : Calls Try.prog 10 #[.string s0] w fun e w' => e = .returned (.bool true) ∧ Below w.heap.size w w' := by
  have k1 := lcut_any s0 w hs
  have zs := ct_size 1500 s0
  generalize ct 1500 s0 = s at *
  have c1 := fun wx => tokens_any s wx (by omega)
  have c2 := fun wx => fold_any s wx (by omega)
  have hfl := fold_len s
  have c3 := fun wx => tokens_any (str (fold s.data.toList)) wx (by rw [str_size]; omega)
  rw [str_data, words_fold] at c3
  have hwl := words_le s 1500 zs
  have hx := isW_words s.data.toList
  have hjl := joined_len (words s.data.toList) (fun x hx' => (hx x hx').2)
  have c4 := fun wx => tokens_any (str (joined (words s.data.toList))) wx (by rw [str_size]; omega)
  rw [str_data, words_joined] at c4
  have hxs : ∀ x ∈ words s.data.toList, ∀ wx, Calls Try.prog 46 #[.string (str x)] wx fun e w' => e = .returned (.bool true) ∧ Below wx.heap.size wx w' := fun x hx' wx => by
    have h := isWord_any (str x) wx (by rw [str_size]; have := (hx x hx').2; omega)
    rw [str_data, (hx x hx').1] at h
    exact h
  generalize words s.data.toList = ws at *
  generalize fold s.data.toList = fo at *
  have C1 := Lib.hid c1
  have C2 := Lib.hid c2
  have C3 := Lib.hid c3
  have C4 := Lib.hid c4
  have Hx := Lib.hid hx
  have Hxs := Lib.hid hxs
  clear c1 c2 c3 c4 hx hxs hfl
  go_enter Try.func10, Try.ntmps10
  go_wp2_with fail
  refine k1.mono ?_
  rintro e w' ⟨rfl, rfl⟩
  go_wp2_with fail
  refine (C1.out _).mono ?_
  rintro e w1 ⟨v1, rfl, hown1, hb1⟩
  obtain ⟨A1, d1, rfl, hR1⟩ := own_shape hown1
  have HR := Lib.hid hR1
  have Hb1 := Lib.hid hb1
  clear hown1 hR1 hb1 k1
  go_wp2_with fail
  go_loopw [4, 5] (fun a i wr => ∃ k : Nat, k ≤ ws.length ∧ i = .int .i64 k ∧ a = .string (str (joined (ws.take k))) ∧ Below w1.heap.size w1 wr) (fun _ i _ => ws.length - (intOf i).toNat)
  case atStart => exact ⟨0, Nat.zero_le _, rfl, rfl, Below.refl _ _⟩
  case round =>
    obtain ⟨k, hk, rfl, rfl, hb⟩ := hrel
    by_cases hlt : k < ws.length
    · obtain ⟨b, o, rfl, hbb, hc1, hc2⟩ := toks_at HR.out rfl hlt
      have hd1 := (hb.cell (p := ⟨b, o + k * 2, none⟩) hbb).trans hc1
      have hd2 := (hb.cell (p := ⟨b, o + k * 2 + 1, none⟩) hbb).trans hc2
      have hts : joined (ws.take (k + 1)) = joined (ws.take k) ++ (ws[k] ++ [32]) := by rw [List.take_succ_eq_append_getElem hlt, joined_snoc]
      have hm : ws[k] ∈ ws := List.getElem_mem _
      have cw := Hxs.out ws[k] hm wr
      have hl := (Hx.out ws[k] hm).2
      rw [← str_size] at hl
      have ha1 := str_app ws[k] [32]
      have ha2 := str_app (joined (ws.take k)) (ws[k] ++ [32])
      have hjk := joined_len (ws.take k) (fun x hx' => (Hx.out x (List.mem_of_mem_take hx')).2)
      have htl : (ws.take k).length ≤ ws.length := by rw [List.length_take]; omega
      rw [← hts] at ha2
      rw [← ha1] at ha2
      have hz : (str (joined (ws.take k))).size ≤ 50000 := by rw [str_size]; omega
      have Ha := Lib.hid ha2
      have Hb := Lib.hid hb
      clear hts hm ha1 ha2 hc1 hc2 hjk htl hb
      generalize str ws[k] = x at *
      generalize str (joined (ws.take k)) = y at *
      have hl' : (x.size : Int) ≤ 32 := by omega
      go_wp2_with fail
      refine cw.mono ?_
      rintro e w2 ⟨rfl, hb2⟩
      have hd1' := (hb2.cell (p := ⟨b, o + k * 2, none⟩) (Nat.lt_of_lt_of_le hbb Hb.out.size)).trans hd1
      have Hb2 := Lib.hid (Hb.out.trans (hb2.mono Hb.out.size))
      clear hb2 cw
      go_wp2
      go_roundw
      case rel => exact ⟨k + 1, by omega, by go_num, by rw [← Ha.out]; rfl, Hb2.out⟩
      case measure => simp [intOf]; omega
    · have hall : ws.take k = ws := List.take_of_length_le (by omega)
      rw [hall]
      have Hb := Lib.hid hb
      clear hb hall
      go_wp2_with fail
      refine (C4.out _).mono ?_
      rintro e w2 ⟨v2, rfl, hown2, hb2⟩
      obtain ⟨A2, d2, rfl, hR2⟩ := own_shape hown2
      have Hb2 := Lib.hid (Hb.out.trans (hb2.mono Hb.out.size))
      have c5 := same_eq A2 A1 d2 d1 w2.heap.size ws w2 hR2 ((HR.out.below Hb2.out).more Hb2.out.size) (Nat.le_refl _) (by omega)
      clear hown2 hR2 hb2
      go_wp2_with fail
      refine c5.mono ?_
      rintro e w3 ⟨rfl, hb3⟩
      have Hb3 := Lib.hid (Hb2.out.trans (hb3.mono Hb2.out.size))
      clear hb3 c5
      go_wp2_with fail
      refine (C2.out _).mono ?_
      rintro e w4 ⟨rfl, hb4⟩
      have Hb4 := Lib.hid (Hb3.out.trans (hb4.mono Hb3.out.size))
      clear hb4
      go_wp2_with fail
      refine (C3.out _).mono ?_
      rintro e w5 ⟨v5, rfl, hown5, hb5⟩
      obtain ⟨A5, d5, rfl, hR5⟩ := own_shape hown5
      have Hb5 := Lib.hid (Hb4.out.trans (hb5.mono Hb4.out.size))
      have c6 := same_eq A5 A1 d5 d1 w5.heap.size ws w5 hR5 ((HR.out.below Hb5.out).more Hb5.out.size) (Nat.le_refl _) (by omega)
      clear hown5 hR5 hb5
      go_wp2_with fail
      refine c6.mono ?_
      rintro e w6 ⟨rfl, hb6⟩
      have Hb6 := Lib.hid (Hb1.out.trans ((Hb5.out.trans (hb6.mono Hb5.out.size)).mono Hb1.out.size))
      clear hb6 c6
      go_wp2_with (go_at_call 41; refine (awake_any _).mono ?_; rintro e w7 ⟨rfl, hb7⟩)
      go_ret
      exact ⟨rfl, Hb6.out.trans (hb7.mono Hb6.out.size)⟩
end Go.Proofs.Ytjfconddkfihcaa.Tk
