/- loggiaref07.Split; TokenTerms: the law's walk. -/
import Derived.Deep.DeepCutAuto
import Derived.Deep.RegionHeld3
import Derived.Test.YtjfconddkfihcaaTokKPk
namespace Go.Proofs.Ytjfconddkfihcaa.Tk
open Go.RowKit Go.Proofs.Ytjfconddkfihcaa.Ut
set_option maxRecDepth 20000

theorem colon_at (s : ByteArray) (k : Nat) (h : k < s.size) (hk : colonAt s.data.toList = k) : s[k] = 58 := by
  have hl : k < s.data.toList.length := by rw [bsize]; exact h
  have := List.findIdx_getElem (p := (· == 58)) (xs := s.data.toList) (w := by show List.findIdx _ _ < _; unfold colonAt at hk; rw [hk]; exact hl)
  unfold colonAt at hk
  simp only [hk] at this
  have e : s.data.toList[k]'hl = s[k] := rfl
  rw [e] at this
  simpa using this
theorem colon_before (s : ByteArray) (k : Nat) (h : k < s.size) (hk : k < colonAt s.data.toList) : s[k] ≠ 58 := by
  unfold colonAt at hk
  have := List.not_of_lt_findIdx hk
  intro e
  have e2 : s.data.toList[k]'(by rw [bsize]; exact h) = s[k] := rfl
  rw [e2, e] at this
  simp at this

set_option maxHeartbeats 800000 in
theorem split_ref (s : ByteArray) (w : World) (hs : s.size ≤ 1000000) : Calls Try.prog 45 #[.string s] w fun e w' => e = .returned (splitV s) ∧ Below w.heap.size w w' := by
  have G : Hid (splitV s = if splitOk s.data.toList = true then .tuple #[.string (bef s), .string (beh s), .bool true] else .tuple #[.string ByteArray.empty, .string ByteArray.empty, .bool false]) := rfl
  go_enter Try.func45, Try.ntmps45
  go_wp2
  go_loop [5] (fun i => ∃ k : Nat, k ≤ s.size ∧ i = .int .i64 k ∧ k ≤ colonAt s.data.toList) (fun i => s.size - (intOf i).toNat)
  case atStart => exact ⟨0, Nat.zero_le _, rfl, Nat.zero_le _⟩
  case round =>
    obtain ⟨k, hk, rfl, hkc⟩ := hrel
    by_cases hlt : k < s.size
    · by_cases hc : colonAt s.data.toList = k
      · have h58 := colon_at s k hlt hc
        have h58' : (s[k]).toNat = 58 := by rw [h58]; rfl
        have F1 : bef s = s.extract 0 k := by unfold bef; rw [hc]
        have F2 : beh s = s.extract (k + 1) s.size := by unfold beh; rw [hc]
        have F : splitOk s.data.toList = termOk (bef s) (beh s) := by
          unfold splitOk termOk; rw [bef_data, beh_data, decide_eq_true (by rw [bsize, hc]; exact hlt), Bool.true_and]
        have z1 := bef_size s
        have z2 := beh_size s
        have cy := fun wx h => termr_yes (bef s) (beh s) wx (by omega) (by omega) h
        have cn := fun wx h => termr_no (bef s) (beh s) wx (by omega) (by omega) h
        have g := G.out
        rw [F] at g
        rw [F1, F2] at cy cn g
        have CY := Lib.hid cy
        have CN := Lib.hid cn
        have Gx := Lib.hid g
        clear hc h58 hkc z1 z2 cy cn F F1 F2 g
        have h0 : (0 : Int) ≤ (k : Int) := by omega
        have h1 : (k : Int) ≤ (s.size : Int) := by omega
        have h2 : IntKind.i64.wrap ((k : Int) + 1) = (k : Int) + 1 := IntWalk.i64_in _ (by omega)
        have h3 : (0 : Int) ≤ (k : Int) + 1 := by omega
        have h4 : (k : Int) + 1 ≤ (s.size : Int) := by omega
        by_cases ht : termOk (s.extract 0 k) (s.extract (k + 1) s.size) = true
        · have G2 : Hid (splitV s = .tuple #[.string (s.extract 0 k), .string (s.extract (k + 1) s.size), .bool true]) := Lib.hid (by rw [Gx.out, if_pos ht])
          have C := Lib.hid (fun wx => CY.out wx ht)
          clear ht
          go_wp2
          go_region_held3 (fun w' => True) (trivial) (first | (go_at_call 43; (with_reducible refine (C.out _).mono ?_); rintro e w2 ⟨rfl, hb2⟩))
          go_wp2
          go_region
          go_wp2
          go_ret3
          exact ⟨by rw [G2.out]; rfl, ((Below.refl _ _).drew.trans hb2).drew⟩
        · have G2 : Hid (splitV s = .tuple #[.string ByteArray.empty, .string ByteArray.empty, .bool false]) := Lib.hid (by rw [Gx.out, if_neg ht])
          have C := Lib.hid (fun wx => CN.out wx (by simpa using ht))
          clear ht
          go_wp2
          go_region_held3 (fun w' => True) (trivial) (first | (go_at_call 43; (with_reducible refine (C.out _).mono ?_); rintro e w2 ⟨rfl, hb2⟩))
          go_wp2
          go_ret3
          exact ⟨by rw [G2.out]; rfl, (Below.refl _ _).drew.trans hb2⟩
      · have h58 := colon_before s k hlt (by omega)
        have h58' : (((s[k]).toNat : Int) == 58) = false := beq_eq_false_iff_ne.2 (fun e => h58 (UInt8.toNat_inj.1 (by simpa using Int.ofNat.inj e)))
        clear h58
        go_wp2
        go_round
        case rel => exact ⟨k + 1, by omega, by go_num, by omega⟩
        case measure => simp [intOf]; omega
    · have G2 : Hid (splitV s = .tuple #[.string ByteArray.empty, .string ByteArray.empty, .bool false]) := Lib.hid (by
        unfold splitV splitOk; rw [decide_eq_false (by rw [bsize]; omega)]; rfl)
      go_wp2
      go_ret3
      exact ⟨by rw [G2.out]; rfl, Below.refl _ _⟩

theorem ba_ext (a b : ByteArray) (h : a.data.toList = b.data.toList) : a = b := by rw [← of_str a, ← of_str b, h]
theorem termV_data (a b : ByteArray) : (termV a b).data.toList = term a.data.toList b.data.toList := str_data _
theorem termV_size (a b : ByteArray) : (termV a b).size = a.size + 1 + b.size := by
  rw [← bsize, termV_data]; unfold term; rw [List.length_append, List.length_cons, bsize, bsize]; omega
theorem split_termV (a b : ByteArray) (h : termOk a b = true) : splitV (termV a b) = .tuple #[.string a, .string b, .bool true] := by
  unfold termOk at h
  rw [Bool.and_eq_true] at h
  have g := split_term _ _ h.1 h.2
  unfold splitV
  rw [termV_data, if_pos g.1, ba_ext (bef (termV a b)) a (by rw [bef_data, termV_data]; exact g.2.1), ba_ext (beh (termV a b)) b (by rw [beh_data, termV_data]; exact g.2.2)]
theorem split_join (s : ByteArray) (h : splitOk s.data.toList = true) : bef s ++ (⟨#[58]⟩ : ByteArray) ++ beh s = s := by
  have e := termV_eq (bef s) (beh s)
  refine e.trans (ba_ext _ _ ?_)
  rw [termV_data, bef_data, beh_data]
  exact split_back _ h

set_option maxHeartbeats 1600000 in
theorem tokenTerms_walk (a0 b0 s0 : ByteArray) (w : World) (ha : a0.size ≤ 140737488351232) (hb : b0.size ≤ 140737488351232) (hs : s0.size ≤ 140737488351232) :
    Calls Try.prog 9 #[.string a0, .string b0, .string s0] w fun e w' => e = .returned (.bool true) ∧ Below w.heap.size w w' := by
  have k1 := lcut_any a0 w ha
  have k2 := lcut_any b0 w hb
  have k3 := lcut_any s0 w hs
  have za := ct_size 1500 a0
  have zb := ct_size 1500 b0
  have zs := ct_size 1500 s0
  generalize ct 1500 a0 = a at *
  generalize ct 1500 b0 = b at *
  generalize ct 1500 s0 = s at *
  have c3 := fun wx => split_any s wx (by omega)
  have c4 := fun wx => split_ref s wx (by omega)
  have c5 := fun wx => isWord_any b wx (by omega)
  have c6 := fun wx => isWord_ref b wx (by omega)
  have c7 := fun wx => isName_any a wx (by omega)
  have c8 := fun wx => isName_ref a wx (by omega)
  have hj : splitOk s.data.toList = true → bef s ++ (⟨#[58]⟩ : ByteArray) ++ beh s = s := split_join s
  have hsp : splitV s = if splitOk s.data.toList = true then .tuple #[.string (bef s), .string (beh s), .bool true] else .tuple #[.string ByteArray.empty, .string ByteArray.empty, .bool false] := rfl
  have zx : (bef s).size ≤ 1500 := Nat.le_trans (bef_size s) zs
  have zy : (beh s).size ≤ 1500 := Nat.le_trans (beh_size s) zs
  generalize splitOk s.data.toList = so at *
  generalize bef s = x at *
  generalize beh s = y at *
  generalize splitV s = sp at *
  by_cases ht : termOk a b = true
  · have c1 := fun wx => term_yes a b wx (by omega) (by omega) ht
    have c2 := fun wx => termr_yes a b wx (by omega) (by omega) ht
    have c9 := fun wx => split_any (termV a b) wx (by rw [termV_size]; omega)
    rw [split_termV a b ht] at c9
    have C1 := Lib.hid c1
    have C2 := Lib.hid c2
    have C3 := Lib.hid c3
    have C4 := Lib.hid c4
    have C5 := Lib.hid c5
    have C6 := Lib.hid c6
    have C7 := Lib.hid c7
    have C8 := Lib.hid c8
    have C9 := Lib.hid c9
    clear c1 c2 c3 c4 c5 c6 c7 c8 c9 ht
    generalize termV a b = t at *
    generalize isW b.data.toList = p at *
    generalize isN a.data.toList = q at *
    cases so
    · have hsp' : sp = .tuple #[.string ByteArray.empty, .string ByteArray.empty, .bool false] := hsp
      subst hsp'
      clear hsp hj
      go_enter Try.func9, Try.ntmps9
      go_wp2_with fail
      refine (k1).mono ?_
      rintro e w' ⟨rfl, rfl⟩
      go_wp2_with fail
      refine (k2).mono ?_
      rintro e w' ⟨rfl, rfl⟩
      go_wp2_with fail
      refine (k3).mono ?_
      rintro e w' ⟨rfl, rfl⟩
      go_wp2_with fail
      refine (C1.out _).mono ?_
      rintro e v1 ⟨rfl, hb1⟩
      have B1 := Lib.hid hb1
      clear hb1
      go_wp2_with fail
      refine (C2.out _).mono ?_
      rintro e v2 ⟨rfl, hb2⟩
      have B2 := Lib.hid (B1.out.trans (hb2.mono B1.out.size))
      clear hb2
      go_wp2_with fail
      refine (C3.out _).mono ?_
      rintro e v3 ⟨rfl, hb3⟩
      have B3 := Lib.hid (B2.out.trans (hb3.mono B2.out.size))
      clear hb3
      go_wp2_with fail
      refine (C4.out _).mono ?_
      rintro e v4 ⟨rfl, hb4⟩
      have B4 := Lib.hid (B3.out.trans (hb4.mono B3.out.size))
      clear hb4
      go_wp2_with fail
      refine (C5.out _).mono ?_
      rintro e v5 ⟨rfl, hb5⟩
      have B5 := Lib.hid (B4.out.trans (hb5.mono B4.out.size))
      clear hb5
      go_wp2_with fail
      refine (C6.out _).mono ?_
      rintro e v6 ⟨rfl, hb6⟩
      have B6 := Lib.hid (B5.out.trans (hb6.mono B5.out.size))
      clear hb6
      go_wp2_with fail
      refine (C7.out _).mono ?_
      rintro e v7 ⟨rfl, hb7⟩
      have B7 := Lib.hid (B6.out.trans (hb7.mono B6.out.size))
      clear hb7
      go_wp2_with fail
      refine (C8.out _).mono ?_
      rintro e w' ⟨rfl, rfl⟩
      go_wp2_with fail
      refine (C9.out _).mono ?_
      rintro e v8 ⟨rfl, hb8⟩
      have B8 := Lib.hid (B7.out.trans (hb8.mono B7.out.size))
      clear hb8
      go_wp2_with (go_at_call 41; refine (awake_any _).mono ?_; rintro e w9 ⟨rfl, hb9⟩)
      go_ret
      exact ⟨rfl, B8.out.trans (hb9.mono B8.out.size)⟩
    · have hj' := hj rfl
      have hsp' : sp = .tuple #[.string x, .string y, .bool true] := hsp
      subst hsp'
      clear hsp hj
      go_enter Try.func9, Try.ntmps9
      go_wp2_with fail
      refine (k1).mono ?_
      rintro e w' ⟨rfl, rfl⟩
      go_wp2_with fail
      refine (k2).mono ?_
      rintro e w' ⟨rfl, rfl⟩
      go_wp2_with fail
      refine (k3).mono ?_
      rintro e w' ⟨rfl, rfl⟩
      go_wp2_with fail
      refine (C1.out _).mono ?_
      rintro e v1 ⟨rfl, hb1⟩
      have B1 := Lib.hid hb1
      clear hb1
      go_wp2_with fail
      refine (C2.out _).mono ?_
      rintro e v2 ⟨rfl, hb2⟩
      have B2 := Lib.hid (B1.out.trans (hb2.mono B1.out.size))
      clear hb2
      go_wp2_with fail
      refine (C3.out _).mono ?_
      rintro e v3 ⟨rfl, hb3⟩
      have B3 := Lib.hid (B2.out.trans (hb3.mono B2.out.size))
      clear hb3
      go_wp2_with fail
      refine (C4.out _).mono ?_
      rintro e v4 ⟨rfl, hb4⟩
      have B4 := Lib.hid (B3.out.trans (hb4.mono B3.out.size))
      clear hb4
      go_wp2_with fail
      refine (C5.out _).mono ?_
      rintro e v5 ⟨rfl, hb5⟩
      have B5 := Lib.hid (B4.out.trans (hb5.mono B4.out.size))
      clear hb5
      go_wp2_with fail
      refine (C6.out _).mono ?_
      rintro e v6 ⟨rfl, hb6⟩
      have B6 := Lib.hid (B5.out.trans (hb6.mono B5.out.size))
      clear hb6
      go_wp2_with fail
      refine (C7.out _).mono ?_
      rintro e v7 ⟨rfl, hb7⟩
      have B7 := Lib.hid (B6.out.trans (hb7.mono B6.out.size))
      clear hb7
      go_wp2_with fail
      refine (C8.out _).mono ?_
      rintro e w' ⟨rfl, rfl⟩
      go_wp2_with fail
      refine (C9.out _).mono ?_
      rintro e v8 ⟨rfl, hb8⟩
      have B8 := Lib.hid (B7.out.trans (hb8.mono B7.out.size))
      clear hb8
      go_wp2_with (go_at_call 41; refine (awake_any _).mono ?_; rintro e w9 ⟨rfl, hb9⟩)
      go_ret
      exact ⟨rfl, B8.out.trans (hb9.mono B8.out.size)⟩
  · have c1 := fun wx => term_no a b wx (by omega) (by omega) (by simpa using ht)
    have c2 := fun wx => termr_no a b wx (by omega) (by omega) (by simpa using ht)
    have C1 := Lib.hid c1
    have C2 := Lib.hid c2
    have C3 := Lib.hid c3
    have C4 := Lib.hid c4
    have C5 := Lib.hid c5
    have C6 := Lib.hid c6
    have C7 := Lib.hid c7
    have C8 := Lib.hid c8
    clear c1 c2 c3 c4 c5 c6 c7 c8 ht
    generalize isW b.data.toList = p at *
    generalize isN a.data.toList = q at *
    cases so
    · have hsp' : sp = .tuple #[.string ByteArray.empty, .string ByteArray.empty, .bool false] := hsp
      subst hsp'
      clear hsp hj
      go_enter Try.func9, Try.ntmps9
      go_wp2_with fail
      refine (k1).mono ?_
      rintro e w' ⟨rfl, rfl⟩
      go_wp2_with fail
      refine (k2).mono ?_
      rintro e w' ⟨rfl, rfl⟩
      go_wp2_with fail
      refine (k3).mono ?_
      rintro e w' ⟨rfl, rfl⟩
      go_wp2_with fail
      refine (C1.out _).mono ?_
      rintro e v1 ⟨rfl, hb1⟩
      have B1 := Lib.hid hb1
      clear hb1
      go_wp2_with fail
      refine (C2.out _).mono ?_
      rintro e v2 ⟨rfl, hb2⟩
      have B2 := Lib.hid (B1.out.trans (hb2.mono B1.out.size))
      clear hb2
      go_wp2_with fail
      refine (C3.out _).mono ?_
      rintro e v3 ⟨rfl, hb3⟩
      have B3 := Lib.hid (B2.out.trans (hb3.mono B2.out.size))
      clear hb3
      go_wp2_with fail
      refine (C4.out _).mono ?_
      rintro e v4 ⟨rfl, hb4⟩
      have B4 := Lib.hid (B3.out.trans (hb4.mono B3.out.size))
      clear hb4
      go_wp2_with fail
      refine (C5.out _).mono ?_
      rintro e v5 ⟨rfl, hb5⟩
      have B5 := Lib.hid (B4.out.trans (hb5.mono B4.out.size))
      clear hb5
      go_wp2_with fail
      refine (C6.out _).mono ?_
      rintro e v6 ⟨rfl, hb6⟩
      have B6 := Lib.hid (B5.out.trans (hb6.mono B5.out.size))
      clear hb6
      go_wp2_with fail
      refine (C7.out _).mono ?_
      rintro e v7 ⟨rfl, hb7⟩
      have B7 := Lib.hid (B6.out.trans (hb7.mono B6.out.size))
      clear hb7
      go_wp2_with fail
      refine (C8.out _).mono ?_
      rintro e w' ⟨rfl, rfl⟩
      go_wp2_with (go_at_call 41; refine (awake_any _).mono ?_; rintro e w9 ⟨rfl, hb9⟩)
      go_ret
      exact ⟨rfl, B7.out.trans (hb9.mono B7.out.size)⟩
    · have hj' := hj rfl
      have hsp' : sp = .tuple #[.string x, .string y, .bool true] := hsp
      subst hsp'
      clear hsp hj
      go_enter Try.func9, Try.ntmps9
      go_wp2_with fail
      refine (k1).mono ?_
      rintro e w' ⟨rfl, rfl⟩
      go_wp2_with fail
      refine (k2).mono ?_
      rintro e w' ⟨rfl, rfl⟩
      go_wp2_with fail
      refine (k3).mono ?_
      rintro e w' ⟨rfl, rfl⟩
      go_wp2_with fail
      refine (C1.out _).mono ?_
      rintro e v1 ⟨rfl, hb1⟩
      have B1 := Lib.hid hb1
      clear hb1
      go_wp2_with fail
      refine (C2.out _).mono ?_
      rintro e v2 ⟨rfl, hb2⟩
      have B2 := Lib.hid (B1.out.trans (hb2.mono B1.out.size))
      clear hb2
      go_wp2_with fail
      refine (C3.out _).mono ?_
      rintro e v3 ⟨rfl, hb3⟩
      have B3 := Lib.hid (B2.out.trans (hb3.mono B2.out.size))
      clear hb3
      go_wp2_with fail
      refine (C4.out _).mono ?_
      rintro e v4 ⟨rfl, hb4⟩
      have B4 := Lib.hid (B3.out.trans (hb4.mono B3.out.size))
      clear hb4
      go_wp2_with fail
      refine (C5.out _).mono ?_
      rintro e v5 ⟨rfl, hb5⟩
      have B5 := Lib.hid (B4.out.trans (hb5.mono B4.out.size))
      clear hb5
      go_wp2_with fail
      refine (C6.out _).mono ?_
      rintro e v6 ⟨rfl, hb6⟩
      have B6 := Lib.hid (B5.out.trans (hb6.mono B5.out.size))
      clear hb6
      go_wp2_with fail
      refine (C7.out _).mono ?_
      rintro e v7 ⟨rfl, hb7⟩
      have B7 := Lib.hid (B6.out.trans (hb7.mono B6.out.size))
      clear hb7
      go_wp2_with fail
      refine (C8.out _).mono ?_
      rintro e w' ⟨rfl, rfl⟩
      go_wp2_with (go_at_call 41; refine (awake_any _).mono ?_; rintro e w9 ⟨rfl, hb9⟩)
      go_ret
      exact ⟨rfl, B7.out.trans (hb9.mono B7.out.size)⟩
end Go.Proofs.Ytjfconddkfihcaa.Tk
