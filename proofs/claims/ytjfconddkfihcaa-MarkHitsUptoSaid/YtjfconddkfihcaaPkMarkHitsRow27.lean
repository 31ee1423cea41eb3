/- loggialaw07: the page's example; TokenWords: the law's walk. -/
import Derived.Deep.DeepCutAuto
import Derived.Deep.RegionHeld3
import Derived.Test.YtjfconddkfihcaaPkMarkHitsRow16
import Derived.Test.YtjfconddkfihcaaPkMarkHitsRow13
import Derived.Test.YtjfconddkfihcaaPkMarkHitsRow26
section
namespace Go.Proofs.Ytjfconddkfihcaa.Tk
open Go.RowKit Go.Proofs.Ytjfconddkfihcaa.Ut
set_option maxRecDepth 20000

def exS : ByteArray := ⟨#[65, 98, 45, 99, 32, 49, 50, 195, 159, 33]⟩
def exW : List (List UInt8) := [[97, 98], [99], [49, 50, 195, 159]]
theorem ex_words : words exS.data.toList = exW := by decide +kernel
def exMsg : ByteArray := ⟨#[109, 115, 103]⟩
def exAb : ByteArray := ⟨#[97, 98]⟩
def exT : ByteArray := ⟨#[109, 115, 103, 58, 97, 98]⟩
theorem ex_term : termOk exMsg exAb = true := by decide +kernel
theorem ex_termV : termV exMsg exAb = exT := by rw [← termV_eq]; rfl
theorem ex_split : splitV exT = .tuple #[.string exMsg, .string exAb, .bool true] := by
  have h : splitOk exT.data.toList = true := by decide +kernel
  have hc : colonAt exT.data.toList = 3 := by decide +kernel
  unfold splitV bef beh
  rw [if_pos h, hc]
  rfl
def exN1 : ByteArray := ⟨#[97, 95, 49]⟩
def exN2 : ByteArray := ⟨#[65]⟩
theorem ex_n1 : isN exN1.data.toList = true := by decide +kernel
theorem ex_n2 : isN exN2.data.toList = false := by decide +kernel

set_option maxHeartbeats 800000 in
theorem awake_any (w : World) : Calls Try.prog 41 #[] w fun e w' => e = .returned (.bool true) ∧ Below w.heap.size w w' := by
  have c1 := term_yes exMsg exAb w (by decide) (by decide) ex_term
  rw [ex_termV] at c1
  have c2 := fun wx => split_any exT wx (by decide)
  rw [ex_split] at c2
  have c3 := fun wx => words_any exS wx (by decide)
  rw [ex_words] at c3
  have c4 := fun wx => isName_any exN1 wx (by decide)
  rw [ex_n1] at c4
  have c5 := fun wx => isName_any exN2 wx (by decide)
  rw [ex_n2] at c5
  have C2 := Lib.hid c2
  have C3 := Lib.hid c3
  have C4 := Lib.hid c4
  have C5 := Lib.hid c5
  have q1 : exT.toList = [109, 115, 103, 58, 97, 98] := by rw [tl]; rfl
  have q2 : exMsg.toList = [109, 115, 103] := by rw [tl]; rfl
  have q3 : exAb.toList = [97, 98] := by rw [tl]; rfl
  clear c2 c3 c4 c5
  go_enter Try.func41, Try.ntmps41
  go_wp2_with fail
  refine c1.mono ?_
  rintro e w1 ⟨rfl, hb1⟩
  go_wp2_with fail
  refine (C2.out _).mono ?_
  rintro e w2 ⟨rfl, hb2⟩
  go_wp2_with fail
  refine (C3.out _).mono ?_
  rintro e w3 ⟨v, rfl, hown, hb3⟩
  obtain ⟨A, c, rfl, hR⟩ := own_shape hown
  have Hb := Lib.hid ((hb1.trans (hb2.mono hb1.size)).trans (hb3.mono (Nat.le_trans hb1.size hb2.size)))
  have hR2 : Reads (w3.alloc (.cells #[.string exAb, .string ⟨#[99]⟩, .string ⟨#[49, 50, 195, 159]⟩] 9)) (w3.heap.size + 1) 1 (some ⟨w3.heap.size, 0, none⟩) exW.length (sv exW) := by
    refine ⟨by rw [sv_len]; omega, fun _ => ⟨_, _, rfl, by omega, fun j u hu => ?_⟩⟩
    have hc := (Blk.new w3 9 #[.string exAb, .string ⟨#[99]⟩, .string ⟨#[49, 50, 195, 159]⟩]).cell (0 + j)
    rw [hc, Nat.zero_add]
    match j, hu with
    | 0, hu => exact hu
    | 1, hu => exact hu
    | 2, hu => exact hu
  have c6 := sameWords_eq A (some ⟨w3.heap.size, 0, none⟩) c 3 (w3.heap.size + 1) exW _ ((hR.alloc (Nat.le_refl _) (.cells #[.string exAb, .string ⟨#[99]⟩, .string ⟨#[49, 50, 195, 159]⟩] 9)).more (by omega)) hR2 (by simp) (by decide)
  clear hown hR hR2 hb1 hb2 hb3 c1
  go_wp2_with fail
  refine c6.mono ?_
  rintro e w4 ⟨rfl, hb4⟩
  have Hb4 := Lib.hid hb4
  clear hb4
  go_wp2_with fail
  refine (C4.out _).mono ?_
  rintro e w5 ⟨rfl, hb5⟩
  go_wp2_with fail
  refine (C5.out _).mono ?_
  rintro e w6 ⟨rfl, hb6⟩
  have h4 := (Hb.out.alloc Hb.out.size (.cells #[.string exAb, .string ⟨#[99]⟩, .string ⟨#[49, 50, 195, 159]⟩] 9)).trans (Hb4.out.mono (by have := Hb.out.size; simp; omega))
  have h6 := Lib.hid ((h4.trans (hb5.mono h4.size)).trans (hb6.mono (Nat.le_trans h4.size hb5.size)))
  clear h4 hb5 hb6
  go_wp2
  go_ret
  exact ⟨rfl, h6.out⟩

theorem words_le (s : ByteArray) (n : Nat) (h : s.size ≤ n) : (words s.data.toList).length ≤ n := Nat.le_trans (words_len s) h
set_option maxHeartbeats 800000 in
theorem tokenWords_walk (s : ByteArray) (w : World) (hs : s.size ≤ 140737488351232) : Calls Try.prog 8 #[.string s] w fun e w' => e = .returned (.bool true) ∧ Below w.heap.size w w' := by
  have c0 := lcut_any s w hs
  have hz := ct_size 1500 s
  have c1 := fun wx => tokens_any (ct 1500 s) wx (by omega)
  have c2 := fun wx => tokens_ref (ct 1500 s) wx (by omega)
  have c4 := fun wx => words_any (ct 1500 s) wx (by omega)
  have c5 := fun wx => words_ref (ct 1500 s) wx (by omega)
  have hwl := words_le (ct 1500 s) 1500 hz
  generalize words (ct 1500 s).data.toList = ws at *
  generalize ct 1500 s = x at *
  have C1 := Lib.hid c1
  have C2 := Lib.hid c2
  have C4 := Lib.hid c4
  have C5 := Lib.hid c5
  clear c1 c2 c4 c5
  go_enter Try.func8, Try.ntmps8
  go_wp2_with fail
  refine c0.mono ?_
  rintro e w' ⟨rfl, rfl⟩
  go_wp2_with fail
  refine (C1.out _).mono ?_
  rintro e w1 ⟨v1, rfl, hown1, hb1⟩
  obtain ⟨A1, d1, rfl, hR1⟩ := own_shape hown1
  go_wp2_with fail
  refine (C2.out _).mono ?_
  rintro e w2 ⟨v2, rfl, hown2, hb2⟩
  obtain ⟨A2, d2, rfl, hR2⟩ := own_shape hown2
  have c3 := same_eq A1 A2 d1 d2 w2.heap.size ws w2 ((hR1.below hb2).more hb2.size) hR2 (Nat.le_refl _) (by omega)
  have Hb := Lib.hid (hb1.trans (hb2.mono hb1.size))
  clear hown1 hR1 hown2 hR2 hb1 hb2 c0
  go_wp2_with fail
  refine c3.mono ?_
  rintro e w3 ⟨rfl, hb3⟩
  have Hb3 := Lib.hid (Hb.out.trans (hb3.mono Hb.out.size))
  clear hb3 c3
  go_wp2_with fail
  refine (C4.out _).mono ?_
  rintro e w4 ⟨v4, rfl, hown4, hb4⟩
  obtain ⟨A4, d4, rfl, hR4⟩ := own_shape hown4
  go_wp2_with fail
  refine (C5.out _).mono ?_
  rintro e w5 ⟨v5, rfl, hown5, hb5⟩
  obtain ⟨A5, d5, rfl, hR5⟩ := own_shape hown5
  have c6 := sameWords_eq A4 A5 d4 d5 w5.heap.size ws w5 ((hR4.below hb5).more hb5.size) hR5 (Nat.le_refl _) (by omega)
  have Hb5 := Lib.hid ((Hb3.out.trans (hb4.mono Hb3.out.size)).trans (hb5.mono (Nat.le_trans Hb3.out.size hb4.size)))
  clear hown4 hR4 hown5 hR5 hb4 hb5
  go_wp2_with fail
  refine c6.mono ?_
  rintro e w6 ⟨rfl, hb6⟩
  have Hb6 := Lib.hid (Hb5.out.trans (hb6.mono Hb5.out.size))
  clear hb6 c6
  go_wp2_with (go_at_call 41; refine (awake_any _).mono ?_; rintro e w7 ⟨rfl, hb7⟩)
  go_ret
  exact ⟨rfl, Hb6.out.trans (hb7.mono Hb6.out.size)⟩
end Go.Proofs.Ytjfconddkfihcaa.Tk
end

section
/- loggiaref07.Split; TokenTerms: the law's walk. -/
namespace Go.Proofs.Ytjfconddkfihcaa.Tk
open Go.RowKit Go.Proofs.Ytjfconddkfihcaa.Ut
set_option maxRecDepth 20000

theorem colon_at (s : ByteArray) (k : Nat) (h : k < s.size) (hk : colonAt s.data.toList = k) : s[k] = 58 := by
  have hl : k < s.data.toList.length := by rw [bsize]; exact h
  have := List.findIdx_getElem (p := (· == 58)) (xs := s.data.toList) (w := by show List.findIdx _ _ < _; unfold colonAt at hk; rw [hk]; exact hl)
  unfold colonAt at hk
  simp only [hk] at this
  have e : s.data.toList[k]'hl = s[k] := rfl
  rw [e] at this
  simpa using this
theorem colon_before (s : ByteArray) (k : Nat) (h : k < s.size) (hk : k < colonAt s.data.toList) : s[k] ≠ 58 := by
  unfold colonAt at hk
  have := List.not_of_lt_findIdx hk
  intro e
  have e2 : s.data.toList[k]'(by rw [bsize]; exact h) = s[k] := rfl
  rw [e2, e] at this
  simp at this

set_option maxHeartbeats 800000 in
theorem split_ref (s : ByteArray) (w : World) (hs : s.size ≤ 1048576) : Calls Try.prog 45 #[.string s] w fun e w' => e = .returned (splitV s) ∧ Below w.heap.size w w' := by
  have G : Hid (splitV s = if splitOk s.data.toList = true then .tuple #[.string (bef s), .string (beh s), .bool true] else .tuple #[.string ByteArray.empty, .string ByteArray.empty, .bool false]) := rfl
  go_enter Try.func45, Try.ntmps45
  go_wp2
  go_loop [5] (fun i => ∃ k : Nat, k ≤ s.size ∧ i = .int .i64 k ∧ k ≤ colonAt s.data.toList) (fun i => s.size - (intOf i).toNat)
  case atStart => exact ⟨0, Nat.zero_le _, rfl, Nat.zero_le _⟩
  case round =>
    obtain ⟨k, hk, rfl, hkc⟩ := hrel
    by_cases hlt : k < s.size
    · by_cases hc : colonAt s.data.toList = k
      · have h58 := colon_at s k hlt hc
        have h58' : (s[k]).toNat = 58 := by rw [h58]; rfl
        have F1 : bef s = s.extract 0 k := by unfold bef; rw [hc]
        have F2 : beh s = s.extract (k + 1) s.size := by unfold beh; rw [hc]
        have F : splitOk s.data.toList = termOk (bef s) (beh s) := by
          unfold splitOk termOk; rw [bef_data, beh_data, decide_eq_true (by rw [bsize, hc]; exact hlt), Bool.true_and]
        have z1 := bef_size s
        have z2 := beh_size s
        have cy := fun wx h => termr_yes (bef s) (beh s) wx (by omega) (by omega) h
        have cn := fun wx h => termr_no (bef s) (beh s) wx (by omega) (by omega) h
        have g := G.out
        rw [F] at g
        rw [F1, F2] at cy cn g
        have CY := Lib.hid cy
        have CN := Lib.hid cn
        have Gx := Lib.hid g
        clear hc h58 hkc z1 z2 cy cn F F1 F2 g
        have h0 : (0 : Int) ≤ (k : Int) := by omega
        have h1 : (k : Int) ≤ (s.size : Int) := by omega
        have h2 : IntKind.i64.wrap ((k : Int) + 1) = (k : Int) + 1 := IntWalk.i64_in _ (by omega)
        have h3 : (0 : Int) ≤ (k : Int) + 1 := by omega
        have h4 : (k : Int) + 1 ≤ (s.size : Int) := by omega
        by_cases ht : termOk (s.extract 0 k) (s.extract (k + 1) s.size) = true
        · have G2 : Hid (splitV s = .tuple #[.string (s.extract 0 k), .string (s.extract (k + 1) s.size), .bool true]) := Lib.hid (by rw [Gx.out, if_pos ht])
          have C := Lib.hid (fun wx => CY.out wx ht)
          clear ht
          go_wp2
          go_region_held3 (fun w' => True) (trivial) (first | (go_at_call 43; (with_reducible refine (C.out _).mono ?_); rintro e w2 ⟨rfl, hb2⟩))
          go_wp2
          go_region
          go_wp2
          go_ret3
          exact ⟨by rw [G2.out]; rfl, ((Below.refl _ _).drew.trans hb2).drew⟩
        · have G2 : Hid (splitV s = .tuple #[.string ByteArray.empty, .string ByteArray.empty, .bool false]) := Lib.hid (by rw [Gx.out, if_neg ht])
          have C := Lib.hid (fun wx => CN.out wx (by simpa using ht))
          clear ht
          go_wp2
          go_region_held3 (fun w' => True) (trivial) (first | (go_at_call 43; (with_reducible refine (C.out _).mono ?_); rintro e w2 ⟨rfl, hb2⟩))
          go_wp2
          go_ret3
          exact ⟨by rw [G2.out]; rfl, (Below.refl _ _).drew.trans hb2⟩
      · have h58 := colon_before s k hlt (by omega)
        have h58' : (((s[k]).toNat : Int) == 58) = false := beq_eq_false_iff_ne.2 (fun e => h58 (UInt8.toNat_inj.1 (by simpa using Int.ofNat.inj e)))
        clear h58
        go_wp2
        go_round
        case rel => exact ⟨k + 1, by omega, by go_num, by omega⟩
        case measure => simp [intOf]; omega
    · have G2 : Hid (splitV s = .tuple #[.string ByteArray.empty, .string ByteArray.empty, .bool false]) := Lib.hid (by
        unfold splitV splitOk; rw [decide_eq_false (by rw [bsize]; omega)]; rfl)
      go_wp2
      go_ret3
      exact ⟨by rw [G2.out]; rfl, Below.refl _ _⟩

theorem ba_ext (a b : ByteArray) (h : a.data.toList = b.data.toList) : a = b := by rw [← of_str a, ← of_str b, h]
theorem termV_data (a b : ByteArray) : (termV a b).data.toList = term a.data.toList b.data.toList := str_data _
theorem termV_size (a b : ByteArray) : (termV a b).size = a.size + 1 + b.size := by
  rw [← bsize, termV_data]; unfold term; rw [List.length_append, List.length_cons, bsize, bsize]; omega
theorem split_termV (a b : ByteArray) (h : termOk a b = true) : splitV (termV a b) = .tuple #[.string a, .string b, .bool true] := by
  unfold termOk at h
  rw [Bool.and_eq_true] at h
  have g := split_term _ _ h.1 h.2
  unfold splitV
  rw [termV_data, if_pos g.1, ba_ext (bef (termV a b)) a (by rw [bef_data, termV_data]; exact g.2.1), ba_ext (beh (termV a b)) b (by rw [beh_data, termV_data]; exact g.2.2)]
theorem split_join (s : ByteArray) (h : splitOk s.data.toList = true) : bef s ++ (⟨#[58]⟩ : ByteArray) ++ beh s = s := by
  have e := termV_eq (bef s) (beh s)
  refine e.trans (ba_ext _ _ ?_)
  rw [termV_data, bef_data, beh_data]
  exact split_back _ h

set_option maxHeartbeats 1600000 in
theorem tokenTerms_walk (a0 b0 s0 : ByteArray) (w : World) (ha : a0.size ≤ 140737488351232) (hb : b0.size ≤ 140737488351232) (hs : s0.size ≤ 140737488351232) :
    Calls Try.prog 9 #[.string a0, .string b0, .string s0] w fun e w' => e = .returned (.bool true) ∧ Below w.heap.size w w' := by
  have k1 := lcut_any a0 w ha
  have k2 := lcut_any b0 w hb
  have k3 := lcut_any s0 w hs
  have za := ct_size 1500 a0
  have zb := ct_size 1500 b0
  have zs := ct_size 1500 s0
  generalize ct 1500 a0 = a at *
  generalize ct 1500 b0 = b at *
  generalize ct 1500 s0 = s at *
  have c3 := fun wx => split_any s wx (by omega)
  have c4 := fun wx => split_ref s wx (by omega)
  have c5 := fun wx => isWord_any b wx (by omega)
  have c6 := fun wx => isWord_ref b wx (by omega)
  have c7 := fun wx => isName_any a wx (by omega)
  have c8 := fun wx => isName_ref a wx (by omega)
  have hj : splitOk s.data.toList = true → bef s ++ (⟨#[58]⟩ : ByteArray) ++ beh s = s := split_join s
  have hsp : splitV s = if splitOk s.data.toList = true then .tuple #[.string (bef s), .string (beh s), .bool true] else .tuple #[.string ByteArray.empty, .string ByteArray.empty, .bool false] := rfl
  have zx : (bef s).size ≤ 1500 := Nat.le_trans (bef_size s) zs
  have zy : (beh s).size ≤ 1500 := Nat.le_trans (beh_size s) zs
  generalize splitOk s.data.toList = so at *
  generalize bef s = x at *
  generalize beh s = y at *
  generalize splitV s = sp at *
  by_cases ht : termOk a b = true
  · have c1 := fun wx => term_yes a b wx (by omega) (by omega) ht
    have c2 := fun wx => termr_yes a b wx (by omega) (by omega) ht
    have c9 := fun wx => split_any (termV a b) wx (by rw [termV_size]; omega)
    rw [split_termV a b ht] at c9
    have C1 := Lib.hid c1
    have C2 := Lib.hid c2
    have C3 := Lib.hid c3
    have C4 := Lib.hid c4
    have C5 := Lib.hid c5
    have C6 := Lib.hid c6
    have C7 := Lib.hid c7
    have C8 := Lib.hid c8
    have C9 := Lib.hid c9
    clear c1 c2 c3 c4 c5 c6 c7 c8 c9 ht
    generalize termV a b = t at *
    generalize isW b.data.toList = p at *
    generalize isN a.data.toList = q at *
    cases so
    · have hsp' : sp = .tuple #[.string ByteArray.empty, .string ByteArray.empty, .bool false] := hsp
      subst hsp'
      clear hsp hj
      go_enter Try.func9, Try.ntmps9
      go_wp2_with fail
      refine (k1).mono ?_
      rintro e w' ⟨rfl, rfl⟩
      go_wp2_with fail
      refine (k2).mono ?_
      rintro e w' ⟨rfl, rfl⟩
      go_wp2_with fail
      refine (k3).mono ?_
      rintro e w' ⟨rfl, rfl⟩
      go_wp2_with fail
      refine (C1.out _).mono ?_
      rintro e v1 ⟨rfl, hb1⟩
      have B1 := Lib.hid hb1
      clear hb1
      go_wp2_with fail
      refine (C2.out _).mono ?_
      rintro e v2 ⟨rfl, hb2⟩
      have B2 := Lib.hid (B1.out.trans (hb2.mono B1.out.size))
      clear hb2
      go_wp2_with fail
      refine (C3.out _).mono ?_
      rintro e v3 ⟨rfl, hb3⟩
      have B3 := Lib.hid (B2.out.trans (hb3.mono B2.out.size))
      clear hb3
      go_wp2_with fail
      refine (C4.out _).mono ?_
      rintro e v4 ⟨rfl, hb4⟩
      have B4 := Lib.hid (B3.out.trans (hb4.mono B3.out.size))
      clear hb4
      go_wp2_with fail
      refine (C5.out _).mono ?_
      rintro e v5 ⟨rfl, hb5⟩
      have B5 := Lib.hid (B4.out.trans (hb5.mono B4.out.size))
      clear hb5
      go_wp2_with fail
      refine (C6.out _).mono ?_
      rintro e v6 ⟨rfl, hb6⟩
      have B6 := Lib.hid (B5.out.trans (hb6.mono B5.out.size))
      clear hb6
      go_wp2_with fail
      refine (C7.out _).mono ?_
      rintro e v7 ⟨rfl, hb7⟩
      have B7 := Lib.hid (B6.out.trans (hb7.mono B6.out.size))
      clear hb7
      go_wp2_with fail
      refine (C8.out _).mono ?_
      rintro e w' ⟨rfl, rfl⟩
      go_wp2_with fail
      refine (C9.out _).mono ?_
      rintro e v8 ⟨rfl, hb8⟩
      have B8 := Lib.hid (B7.out.trans (hb8.mono B7.out.size))
      clear hb8
      go_wp2_with (go_at_call 41; refine (awake_any _).mono ?_; rintro e w9 ⟨rfl, hb9⟩)
      go_ret
      exact ⟨rfl, B8.out.trans (hb9.mono B8.out.size)⟩
    · have hj' := hj rfl
      have hsp' : sp = .tuple #[.string x, .string y, .bool true] := hsp
      subst hsp'
      clear hsp hj
      go_enter Try.func9, Try.ntmps9
      go_wp2_with fail
      refine (k1).mono ?_
      rintro e w' ⟨rfl, rfl⟩
      go_wp2_with fail
      refine (k2).mono ?_
      rintro e w' ⟨rfl, rfl⟩
      go_wp2_with fail
      refine (k3).mono ?_
      rintro e w' ⟨rfl, rfl⟩
      go_wp2_with fail
      refine (C1.out _).mono ?_
      rintro e v1 ⟨rfl, hb1⟩
      have B1 := Lib.hid hb1
      clear hb1
      go_wp2_with fail
      refine (C2.out _).mono ?_
      rintro e v2 ⟨rfl, hb2⟩
      have B2 := Lib.hid (B1.out.trans (hb2.mono B1.out.size))
      clear hb2
      go_wp2_with fail
      refine (C3.out _).mono ?_
      rintro e v3 ⟨rfl, hb3⟩
      have B3 := Lib.hid (B2.out.trans (hb3.mono B2.out.size))
      clear hb3
      go_wp2_with fail
      refine (C4.out _).mono ?_
      rintro e v4 ⟨rfl, hb4⟩
      have B4 := Lib.hid (B3.out.trans (hb4.mono B3.out.size))
      clear hb4
      go_wp2_with fail
      refine (C5.out _).mono ?_
      rintro e v5 ⟨rfl, hb5⟩
      have B5 := Lib.hid (B4.out.trans (hb5.mono B4.out.size))
      clear hb5
      go_wp2_with fail
      refine (C6.out _).mono ?_
      rintro e v6 ⟨rfl, hb6⟩
      have B6 := Lib.hid (B5.out.trans (hb6.mono B5.out.size))
      clear hb6
      go_wp2_with fail
      refine (C7.out _).mono ?_
      rintro e v7 ⟨rfl, hb7⟩
      have B7 := Lib.hid (B6.out.trans (hb7.mono B6.out.size))
      clear hb7
      go_wp2_with fail
      refine (C8.out _).mono ?_
      rintro e w' ⟨rfl, rfl⟩
      go_wp2_with fail
      refine (C9.out _).mono ?_
      rintro e v8 ⟨rfl, hb8⟩
      have B8 := Lib.hid (B7.out.trans (hb8.mono B7.out.size))
      clear hb8
      go_wp2_with (go_at_call 41; refine (awake_any _).mono ?_; rintro e w9 ⟨rfl, hb9⟩)
      go_ret
      exact ⟨rfl, B8.out.trans (hb9.mono B8.out.size)⟩
  · have c1 := fun wx => term_no a b wx (by omega) (by omega) (by simpa using ht)
    have c2 := fun wx => termr_no a b wx (by omega) (by omega) (by simpa using ht)
    have C1 := Lib.hid c1
    have C2 := Lib.hid c2
    have C3 := Lib.hid c3
    have C4 := Lib.hid c4
    have C5 := Lib.hid c5
    have C6 := Lib.hid c6
    have C7 := Lib.hid c7
    have C8 := Lib.hid c8
    clear c1 c2 c3 c4 c5 c6 c7 c8 ht
    generalize isW b.data.toList = p at *
    generalize isN a.data.toList = q at *
    cases so
    · have hsp' : sp = .tuple #[.string ByteArray.empty, .string ByteArray.empty, .bool false] := hsp
      subst hsp'
      clear hsp hj
      go_enter Try.func9, Try.ntmps9
      go_wp2_with fail
      refine (k1).mono ?_
      rintro e w' ⟨rfl, rfl⟩
      go_wp2_with fail
      refine (k2).mono ?_
      rintro e w' ⟨rfl, rfl⟩
      go_wp2_with fail
      refine (k3).mono ?_
      rintro e w' ⟨rfl, rfl⟩
      go_wp2_with fail
      refine (C1.out _).mono ?_
      rintro e v1 ⟨rfl, hb1⟩
      have B1 := Lib.hid hb1
      clear hb1
      go_wp2_with fail
      refine (C2.out _).mono ?_
      rintro e v2 ⟨rfl, hb2⟩
      have B2 := Lib.hid (B1.out.trans (hb2.mono B1.out.size))
      clear hb2
      go_wp2_with fail
      refine (C3.out _).mono ?_
      rintro e v3 ⟨rfl, hb3⟩
      have B3 := Lib.hid (B2.out.trans (hb3.mono B2.out.size))
      clear hb3
      go_wp2_with fail
      refine (C4.out _).mono ?_
      rintro e v4 ⟨rfl, hb4⟩
      have B4 := Lib.hid (B3.out.trans (hb4.mono B3.out.size))
      clear hb4
      go_wp2_with fail
      refine (C5.out _).mono ?_
      rintro e v5 ⟨rfl, hb5⟩
      have B5 := Lib.hid (B4.out.trans (hb5.mono B4.out.size))
      clear hb5
      go_wp2_with fail
      refine (C6.out _).mono ?_
      rintro e v6 ⟨rfl, hb6⟩
      have B6 := Lib.hid (B5.out.trans (hb6.mono B5.out.size))
      clear hb6
      go_wp2_with fail
      refine (C7.out _).mono ?_
      rintro e v7 ⟨rfl, hb7⟩
      have B7 := Lib.hid (B6.out.trans (hb7.mono B6.out.size))
      clear hb7
      go_wp2_with fail
      refine (C8.out _).mono ?_
      rintro e w' ⟨rfl, rfl⟩
      go_wp2_with (go_at_call 41; refine (awake_any _).mono ?_; rintro e w9 ⟨rfl, hb9⟩)
      go_ret
      exact ⟨rfl, B7.out.trans (hb9.mono B7.out.size)⟩
    · have hj' := hj rfl
      have hsp' : sp = .tuple #[.string x, .string y, .bool true] := hsp
      subst hsp'
      clear hsp hj
      go_enter Try.func9, Try.ntmps9
      go_wp2_with fail
      refine (k1).mono ?_
      rintro e w' ⟨rfl, rfl⟩
      go_wp2_with fail
      refine (k2).mono ?_
      rintro e w' ⟨rfl, rfl⟩
      go_wp2_with fail
      refine (k3).mono ?_
      rintro e w' ⟨rfl, rfl⟩
      go_wp2_with fail
      refine (C1.out _).mono ?_
      rintro e v1 ⟨rfl, hb1⟩
      have B1 := Lib.hid hb1
      clear hb1
      go_wp2_with fail
      refine (C2.out _).mono ?_
      rintro e v2 ⟨rfl, hb2⟩
      have B2 := Lib.hid (B1.out.trans (hb2.mono B1.out.size))
      clear hb2
      go_wp2_with fail
      refine (C3.out _).mono ?_
      rintro e v3 ⟨rfl, hb3⟩
      have B3 := Lib.hid (B2.out.trans (hb3.mono B2.out.size))
      clear hb3
      go_wp2_with fail
      refine (C4.out _).mono ?_
      rintro e v4 ⟨rfl, hb4⟩
      have B4 := Lib.hid (B3.out.trans (hb4.mono B3.out.size))
      clear hb4
      go_wp2_with fail
      refine (C5.out _).mono ?_
      rintro e v5 ⟨rfl, hb5⟩
      have B5 := Lib.hid (B4.out.trans (hb5.mono B4.out.size))
      clear hb5
      go_wp2_with fail
      refine (C6.out _).mono ?_
      rintro e v6 ⟨rfl, hb6⟩
      have B6 := Lib.hid (B5.out.trans (hb6.mono B5.out.size))
      clear hb6
      go_wp2_with fail
      refine (C7.out _).mono ?_
      rintro e v7 ⟨rfl, hb7⟩
      have B7 := Lib.hid (B6.out.trans (hb7.mono B6.out.size))
      clear hb7
      go_wp2_with fail
      refine (C8.out _).mono ?_
      rintro e w' ⟨rfl, rfl⟩
      go_wp2_with (go_at_call 41; refine (awake_any _).mono ?_; rintro e w9 ⟨rfl, hb9⟩)
      go_ret
      exact ⟨rfl, B7.out.trans (hb9.mono B7.out.size)⟩
end Go.Proofs.Ytjfconddkfihcaa.Tk
end

section
/- Where a query matches, each term that it needs is there: the plain law. -/
namespace Go.Proofs.Ytjfconddkfihcaa.Qy
open Go.RowKit Go.Proofs.Ytjfconddkfihcaa Go.Proofs.Ytjfconddkfihcaa.Ut Go.Proofs.Ytjfconddkfihcaa.Tk

theorem phr_pos (T : List (List UInt8)) (ws : List ByteArray) : 0 < (phr T ws).length ↔ ws ≠ [] ∧ ∃ i, i < T.length ∧ stands T ws i = true := by
  unfold phr
  by_cases h : ws = []
  · rw [if_pos h]; simp [h]
  · rw [if_neg h]
    unfold phrTo
    rw [List.length_pos_iff_exists_mem]
    simp [List.mem_filter, h]
theorem stands_get (T : List (List UInt8)) (ws : List ByteArray) (i j : Nat) (h : stands T ws i = true) (hj : j < ws.length) : T[i + j]? = some ws[j].data.toList := by
  unfold stands at h
  rw [beq_iff_eq] at h
  have e := congrArg (fun l => l[j]?) h
  simp only [List.getElem?_take, if_pos hj, List.getElem?_drop, List.getElem?_map, List.getElem?_eq_getElem hj, Option.map_some] at e
  exact e
theorem stands_one (T : List (List UInt8)) (b : ByteArray) (i : Nat) (h : T[i]? = some b.data.toList) : stands T [b] i = true := by
  obtain ⟨hi, e⟩ := List.getElem?_eq_some_iff.1 h
  unfold stands
  rw [beq_iff_eq]
  have := standsTo_succ T [b] i 0 (by omega) (by simp)
  rw [standsTo_zero] at this
  simp only [Nat.add_zero, List.getElem_cons_zero, Bool.true_and, e, beq_self_eq_true] at this
  unfold standsTo at this
  rw [beq_iff_eq] at this
  simpa using this
theorem phr_one {T : List (List UInt8)} {ws : List ByteArray} {b : ByteArray} (h : 0 < (phr T ws).length) (hb : b ∈ ws) : 0 < (phr T [b]).length := by
  obtain ⟨_, i, hi, hs⟩ := (phr_pos T ws).1 h
  obtain ⟨j, hj, rfl⟩ := List.getElem_of_mem hb
  have hg := stands_get T ws i j hs hj
  exact (phr_pos T _).2 ⟨by simp, i + j, (List.getElem?_eq_some_iff.1 hg).1, stands_one T _ _ hg⟩
/-- What a term's query matches. -/
theorem leaf_one {k : Int} {nm b : ByteArray} {ws : List ByteArray} {fs : List (ByteArray × ByteArray)} (hk : k = 4 ∨ k = 2) (h : leafB k nm ws fs = true) (hb : b ∈ ws) : leafB 2 nm [b] fs = true := by
  unfold leafB at *
  rw [List.any_eq_true] at *
  obtain ⟨f, hf, h⟩ := h
  rw [Bool.and_eq_true] at h
  refine ⟨f, hf, ?_⟩
  rw [Bool.and_eq_true]
  refine ⟨h.1, ?_⟩
  have hp : 0 < (phr (Tk.words f.2.data.toList) ws).length := by
    have h2 := h.2
    unfold leafT at h2
    rcases hk with rfl | rfl
    · simpa using h2
    · simp at h2; exact h2.2
  have := phr_one hp hb
  unfold leafT
  simp [this]
theorem mem_needsIn : ∀ (l : List Q) acc x, x ∈ needsIn acc l ↔ x ∈ acc ∨ ∃ q ∈ l, x ∈ needs q
  | [], acc, x => by simp [needsIn]
  | q :: l, acc, x => by
    rw [needsIn, mem_needsIn l, mem_addL]
    simp [or_assoc]
/-- **Where a query matches, each term that it needs is there.** -/
theorem needs_hit (fs : List (ByteArray × ByteArray)) : ∀ q, matchB fs q = true → ∀ t ∈ needs q, ∃ a b, termOk a b = true ∧ t = termV a b ∧ matchB fs (.mk 2 a [b] []) = true := by
  refine Q.ind (fun k nm ws l ih hm t ht => ?_)
  rw [matchB_eq] at hm
  rw [needs_eq] at ht
  by_cases h : k = 4 ∨ (k = 2 ∧ ws.length = 1)
  · rw [if_pos h] at ht
    have h1 : k ≠ 1 := by omega
    rw [if_neg h1, if_pos (by omega)] at hm
    rw [mem_addL] at ht
    rcases ht with ht | ht
    · cases ht
    · unfold termsL at ht
      obtain ⟨b, hb, ht⟩ := List.mem_flatMap.1 ht
      unfold termL at ht
      by_cases ho : termOk nm b = true
      · rw [if_pos ho] at ht
        refine ⟨nm, b, ho, by simpa using ht, ?_⟩
        rw [matchB_eq]
        have := leaf_one (by omega) hm hb
        simp [this]
      · rw [if_neg ho] at ht; cases ht
  · rw [if_neg h] at ht
    by_cases h5 : k = 5
    · subst h5
      rw [if_pos rfl, mem_needsIn] at ht
      rcases ht with ht | ⟨q, hq, ht⟩
      · cases ht
      · refine ih q hq ?_ t ht
        simp at hm
        exact hm q hq
    · rw [if_neg h5] at ht; cases ht
/-- A term is short. -/
theorem termV_size (a b : ByteArray) (h : termOk a b = true) : (termV a b).size ≤ 65 ∧ b.size ≤ 32 := by
  unfold termOk at h
  rw [Bool.and_eq_true] at h
  have h1 : a.data.toList.length ≤ 32 := by
    have := h.1
    unfold isN at this
    simp only [Bool.and_eq_true, decide_eq_true_eq] at this
    exact this.1.2
  have h2 : b.data.toList.length ≤ 32 := by
    refine Classical.byContradiction fun hc => ?_
    have := isW_len _ (by omega : 32 < b.data.toList.length)
    rw [h.2] at this
    cases this
  refine ⟨?_, by rw [bsize] at h2; exact h2⟩
  unfold termV
  rw [str_size]
  unfold term
  simp only [List.length_append, List.length_cons]
  omega
end Go.Proofs.Ytjfconddkfihcaa.Qy
end

section
/- loggialaw34.awake: the page's example. -/
namespace Go.Proofs.Ytjfconddkfihcaa.Mk
open Go.RowKit Go.Proofs.Ytjfconddkfihcaa Go.Proofs.Ytjfconddkfihcaa.Ut Go.Proofs.Ytjfconddkfihcaa.Tk Go.Proofs.Ytjfconddkfihcaa.Qy
set_option maxRecDepth 20000
set_option linter.unusedSimpArgs false

def exS : ByteArray := ⟨#[68, 105, 115, 107, 32, 70, 85, 76, 76, 44, 32, 102, 117, 108, 108]⟩
def exM : ByteArray := ⟨#[109, 115, 103]⟩
def exF : ByteArray := ⟨#[102, 117, 108, 108]⟩
def exQ : Q := .mk 2 exM [exF] []
def exL : List (Nat × Nat) := [(5, 9), (11, 15)]
theorem ex_spans : spansQ exQ exM exS = exL := by decide +kernel
theorem ex_ok : okS 0 exS.size exL := by
  unfold exL okS okS okS
  decide
theorem ex_text : str (textN exS.data.toList [91] [93] 0 exL) = ⟨#[68, 105, 115, 107, 32, 91, 70, 85, 76, 76, 93, 44, 32, 91, 102, 117, 108, 108, 93]⟩ := by decide +kernel
theorem span_self (a b : Int) (w : World) : (binOp .eql 45 (.agg #[.int .i64 a, .int .i64 b]) (.agg #[.int .i64 a, .int .i64 b])).run Try.prog w = .ok (.bool true) w := by
  have u3 := Try.underlying3
  have a3 := Try.isAgg3
  have z3 := Try.sizeOf3
  have hS : Try.prog.underlying 45 = some (.struct (Try.prog.fieldsOf 45)) := by kernel_rfl
  have hp : Try.prog.stoodInHeld 45 = false := by kernel_rfl
  rw [run_eql_struct, show (10000 : Nat) = 9999 + 1 from rfl, run_equalIn_agg w 9999 45 _ _ hS hp]
  simp only [Program.fieldsOf, Try.underlying45]
  go_simp
set_option maxHeartbeats 1600000 in
theorem full_any (w : World) : Calls Try.prog 65 #[] w fun e w' => ∃ g, e = .returned (.agg #[.int .i64 2, .string exM, .slice (some ⟨g, 0, none⟩) 1 1, .slice none 0 0]) ∧ w'.cell? ⟨g, 0, none⟩ = some (.string exF) ∧ Below w.heap.size w w' := by
  have hh := (Blk.new w 37 #[.int .i64 2, .string exM, .slice (some ⟨w.heap.size + 1, 0, none⟩) 1 1, .slice none 0 0]).alloc (.cells #[.string exF] 9)
  have hg := (Blk.new (w.alloc (.cells #[.int .i64 2, .string exM, .slice (some ⟨w.heap.size + 1, 0, none⟩) 1 1, .slice none 0 0] 37)) 9 #[.string exF]).cell 0
  rw [World.size_alloc] at hg
  go_enter Try.func65, Try.ntmps65
  go_wp2
  exact bodyPost_ret (results_cell rfl rfl (run_loadVar_row _ w.heap.size 37 37 #[.int .i64 2, .string exM, .slice (some ⟨w.heap.size + 1, 0, none⟩) 1 1, .slice none 0 0] (0, 0) _ hh Try.underlying37 rfl (by kernel_rfl))) rfl ⟨_, rfl, hg, ((Below.refl _ _).alloc (Nat.le_refl _) _).alloc (by simp) _⟩
set_option maxHeartbeats 1600000 in
theorem awake_any (w : World) : Calls Try.prog 20 #[] w fun e w' => e = .returned (.bool true) ∧ Below w.heap.size w w' := by
  have cf := full_any w
  go_enter Try.func20, Try.ntmps20
  go_wp2_with fail
  refine cf.mono ?_
  rintro e w1 ⟨g, rfl, hg, hb1⟩
  have hQ : QAt w1 w1.heap.size exQ [.int .i64 2, .string exM, .slice (some ⟨g, 0, none⟩) 1 1, .slice none 0 0] := .mk [] rfl ⟨rfl, fun _ => ⟨g, 0, rfl, World.block_lt_of_cell? w1 _ hg, fun j u hu => by
    match j with
    | 0 => simp [exQ] at hu; subst hu; exact hg
    | j + 1 => simp at hu⟩⟩ rfl rfl (by simp) Reads.none_ (fun i hi => absurd hi (by simp))
  have c2 := spans_any exQ (by decide) _ _ _ _ exM exS (by decide) w1 hQ
  rw [ex_spans] at c2
  have Hb1 := Lib.hid hb1
  clear cf hb1 hQ hg
  go_wp2_with fail
  refine c2.mono ?_
  rintro e w2 ⟨v, rfl, hown, hb2⟩
  obtain ⟨A, c, rfl, hR⟩ := own_shape hown
  have Hb2 := Lib.hid (Hb1.out.trans (hb2.mono Hb1.out.size))
  have c3 := text_ok exS ⟨#[91]⟩ ⟨#[93]⟩ A c exL ex_ok (by decide) (by decide) w2 hR
  have HR := Lib.hid hR
  clear c2 hown hb2 hR Hb1
  go_wp2_with fail
  refine c3.mono ?_
  rintro e w3 ⟨rfl, hb3⟩
  have Hb3 := Lib.hid (Hb2.out.trans (hb3.mono Hb2.out.size))
  obtain ⟨b, o, rfl, hbb, y0, y1⟩ := spans_at (reads_grow hb3 HR.out) (k := 0) (by decide)
  obtain ⟨b', o', e2, _, y2, y3⟩ := spans_at (reads_grow hb3 HR.out) (k := 1) (by decide)
  injection e2 with e2
  injection e2 with e2 e3
  subst e2 e3
  have y0 : w3.cell? ⟨b, o, none⟩ = some (.int .i64 5) := by simpa [exL] using y0
  have y1 : w3.cell? ⟨b, o + 1, none⟩ = some (.int .i64 9) := by simpa [exL] using y1
  have y2 : w3.cell? ⟨b, o + 2, none⟩ = some (.int .i64 11) := by simpa [exL] using y2
  have y3 : w3.cell? ⟨b, o + 2 + 1, none⟩ = some (.int .i64 15) := by simpa [exL] using y3
  have s1 := span_self 5 9
  have s2 := span_self 11 15
  have ht := ex_text
  clear c3 hb3 HR Hb2
  go_wp2
  go_ret
  exact ⟨rfl, Hb3.out⟩
end Go.Proofs.Ytjfconddkfihcaa.Mk
end
