/- loggialaw07: the page's example; TokenWords: the law's walk. -/
import Derived.Test.YtjfconddkfihcaaPkMatchTellsRow30
namespace Go.Proofs.Ytjfconddkfihcaa.Tk
open Go.RowKit Go.Proofs.Ytjfconddkfihcaa.Ut
set_option maxRecDepth 20000

def exS : ByteArray := ⟨#[65, 98, 45, 99, 32, 49, 50, 195, 159, 33]⟩
def exW : List (List UInt8) := [[97, 98], [99], [49, 50, 195, 159]]
theorem ex_words : words exS.data.toList = exW := by decide +kernel
def exMsg : ByteArray := ⟨#[109, 115, 103]⟩
def exAb : ByteArray := ⟨#[97, 98]⟩
def exT : ByteArray := ⟨#[109, 115, 103, 58, 97, 98]⟩
theorem ex_term : termOk exMsg exAb = true := by decide +kernel
theorem ex_termV : termV exMsg exAb = exT := by rw [← termV_eq]; rfl
theorem ex_split : splitV exT = .tuple #[.string exMsg, .string exAb, .bool true] := by
  have h : splitOk exT.data.toList = true := by decide +kernel
  have hc : colonAt exT.data.toList = 3 := by decide +kernel
  unfold splitV bef beh
  rw [if_pos h, hc]
  rfl
def exN1 : ByteArray := ⟨#[97, 95, 49]⟩
def exN2 : ByteArray := ⟨#[65]⟩
theorem ex_n1 : isN exN1.data.toList = true := by decide +kernel
theorem ex_n2 : isN exN2.data.toList = false := by decide +kernel

set_option maxHeartbeats 800000 in
theorem awake_any (w : World) : Calls Try.prog 41 #[] w fun e w' => e = .returned (.bool true) ∧ Below w.heap.size w w' := by
  have c1 := term_yes exMsg exAb w (by decide) (by decide) ex_term
  rw [ex_termV] at c1
  have c2 := fun wx => split_any exT wx (by decide)
  rw [ex_split] at c2
  have c3 := fun wx => words_any exS wx (by decide)
  rw [ex_words] at c3
  have c4 := fun wx => isName_any exN1 wx (by decide)
  rw [ex_n1] at c4
  have c5 := fun wx => isName_any exN2 wx (by decide)
  rw [ex_n2] at c5
  have C2 := Lib.hid c2
  have C3 := Lib.hid c3
  have C4 := Lib.hid c4
  have C5 := Lib.hid c5
  have q1 : exT.toList = [109, 115, 103, 58, 97, 98] := by rw [tl]; rfl
  have q2 : exMsg.toList = [109, 115, 103] := by rw [tl]; rfl
  have q3 : exAb.toList = [97, 98] := by rw [tl]; rfl
  clear c2 c3 c4 c5
  go_enter Try.func41, Try.ntmps41
  go_wp2_with fail
  refine c1.mono ?_
  rintro e w1 ⟨rfl, hb1⟩
  go_wp2_with fail
  refine (C2.out _).mono ?_
  rintro e w2 ⟨rfl, hb2⟩
  go_wp2_with fail
  refine (C3.out _).mono ?_
  rintro e w3 ⟨v, rfl, hown, hb3⟩
  obtain ⟨A, c, rfl, hR⟩ := own_shape hown
  have Hb := Lib.hid ((hb1.trans (hb2.mono hb1.size)).trans (hb3.mono (Nat.le_trans hb1.size hb2.size)))
  have hR2 : Reads (w3.alloc (.cells #[.string exAb, .string ⟨#[99]⟩, .string ⟨#[49, 50, 195, 159]⟩] 9)) (w3.heap.size + 1) 1 (some ⟨w3.heap.size, 0, none⟩) exW.length (sv exW) := by
    refine ⟨by rw [sv_len]; omega, fun _ => ⟨_, _, rfl, by omega, fun j u hu => ?_⟩⟩
    have hc := (Blk.new w3 9 #[.string exAb, .string ⟨#[99]⟩, .string ⟨#[49, 50, 195, 159]⟩]).cell (0 + j)
    rw [hc, Nat.zero_add]
    match j, hu with
    | 0, hu => exact hu
    | 1, hu => exact hu
    | 2, hu => exact hu
  have c6 := sameWords_eq A (some ⟨w3.heap.size, 0, none⟩) c 3 (w3.heap.size + 1) exW _ ((hR.alloc (Nat.le_refl _) (.cells #[.string exAb, .string ⟨#[99]⟩, .string ⟨#[49, 50, 195, 159]⟩] 9)).more (by omega)) hR2 (by simp) (by decide)
  clear hown hR hR2 hb1 hb2 hb3 c1
  go_wp2_with fail
  refine c6.mono ?_
  rintro e w4 ⟨rfl, hb4⟩
  have Hb4 := Lib.hid hb4
  clear hb4
  go_wp2_with fail
  refine (C4.out _).mono ?_
  rintro e w5 ⟨rfl, hb5⟩
  go_wp2_with fail
  refine (C5.out _).mono ?_
  rintro e w6 ⟨rfl, hb6⟩
  have h4 := (Hb.out.alloc Hb.out.size (.cells #[.string exAb, .string ⟨#[99]⟩, .string ⟨#[49, 50, 195, 159]⟩] 9)).trans (Hb4.out.mono (by have := Hb.out.size; simp; omega))
  have h6 := Lib.hid ((h4.trans (hb5.mono h4.size)).trans (hb6.mono (Nat.le_trans h4.size hb5.size)))
  clear h4 hb5 hb6
  go_wp2
  go_ret
  exact ⟨rfl, h6.out⟩

theorem words_le (s : ByteArray) (n : Nat) (h : s.size ≤ n) : (words s.data.toList).length ≤ n := Nat.le_trans (words_len s) h
set_option maxHeartbeats 800000 in
theorem tokenWords_walk (s : ByteArray) (w : World) (hs : s.size ≤ 140737488351232) : Calls Try.prog 8 #[.string s] w fun e w' => e = .returned (.bool true) ∧ Below w.heap.size w w' := by
  have c0 := lcut_any s w hs
  have hz := ct_size 1500 s
  have c1 := fun wx => tokens_any (ct 1500 s) wx (by omega)
  have c2 := fun wx => tokens_ref (ct 1500 s) wx (by omega)
  have c4 := fun wx => words_any (ct 1500 s) wx (by omega)
  have c5 := fun wx => words_ref (ct 1500 s) wx (by omega)
  have hwl := words_le (ct 1500 s) 1500 hz
  generalize words (ct 1500 s).data.toList = ws at *
  generalize ct 1500 s = x at *
  have C1 := Lib.hid c1
  have C2 := Lib.hid c2
  have C4 := Lib.hid c4
  have C5 := Lib.hid c5
  clear c1 c2 c4 c5
  go_enter Try.func8, Try.ntmps8
  go_wp2_with fail
  refine c0.mono ?_
  rintro e w' ⟨rfl, rfl⟩
  go_wp2_with fail
  refine (C1.out _).mono ?_
  rintro e w1 ⟨v1, rfl, hown1, hb1⟩
  obtain ⟨A1, d1, rfl, hR1⟩ := own_shape hown1
  go_wp2_with fail
  refine (C2.out _).mono ?_
  rintro e w2 ⟨v2, rfl, hown2, hb2⟩
  obtain ⟨A2, d2, rfl, hR2⟩ := own_shape hown2
  have c3 := same_eq A1 A2 d1 d2 w2.heap.size ws w2 ((hR1.below hb2).more hb2.size) hR2 (Nat.le_refl _) (by omega)
  have Hb := Lib.hid (hb1.trans (hb2.mono hb1.size))
  clear hown1 hR1 hown2 hR2 hb1 hb2 c0
  go_wp2_with fail
  refine c3.mono ?_
  rintro e w3 ⟨rfl, hb3⟩
  have Hb3 := Lib.hid (Hb.out.trans (hb3.mono Hb.out.size))
  clear hb3 c3
  go_wp2_with fail
  refine (C4.out _).mono ?_
  rintro e w4 ⟨v4, rfl, hown4, hb4⟩
  obtain ⟨A4, d4, rfl, hR4⟩ := own_shape hown4
  go_wp2_with fail
  refine (C5.out _).mono ?_
  rintro e w5 ⟨v5, rfl, hown5, hb5⟩
  obtain ⟨A5, d5, rfl, hR5⟩ := own_shape hown5
  have c6 := sameWords_eq A4 A5 d4 d5 w5.heap.size ws w5 ((hR4.below hb5).more hb5.size) hR5 (Nat.le_refl _) (by omega)
  have Hb5 := Lib.hid ((Hb3.out.trans (hb4.mono Hb3.out.size)).trans (hb5.mono (Nat.le_trans Hb3.out.size hb4.size)))
  clear hown4 hR4 hown5 hR5 hb4 hb5
  go_wp2_with fail
  refine c6.mono ?_
  rintro e w6 ⟨rfl, hb6⟩
  have Hb6 := Lib.hid (Hb5.out.trans (hb6.mono Hb5.out.size))
  clear hb6 c6
  go_wp2_with (go_at_call 41; refine (awake_any _).mono ?_; rintro e w7 ⟨rfl, hb7⟩)
  go_ret
  exact ⟨rfl, Hb6.out.trans (hb7.mono Hb6.out.size)⟩
end Go.Proofs.Ytjfconddkfihcaa.Tk
