/- The walks: a bucket's place (slices.BinarySearchFunc, by a closure). -/
import Derived.Test.YthhklbjhlfejfaaProg
import Derived.Test.YthhklbjhlfejfaaHistP
import Derived.Lib.Hide
import Derived.Outline
namespace Go.Proofs.Ythhklbjhlfejfaa.Hi
open Go.RowKit
set_option maxRecDepth 20000

theorem isNaN_any (n : Int) (w : World) : Calls Try.prog 42 #[.int .i64 n] w fun e w' => e = .returned (.bool false) ∧ w = w' := by
  go_enter Try.func42, Try.ntmps42
  go_wp2
  go_ret
  exact ⟨by simp, rfl⟩
def cmpI (a b : Int) : Int := if a < b then -1 else if b < a then 1 else 0
set_option maxHeartbeats 400000 in
theorem compare_any (a b : Int) (w : World) : Calls Try.prog 39 #[.int .i64 a, .int .i64 b] w fun e w' => e = .returned (.int .i64 (cmpI a b)) ∧ w = w' := by
  have c1 := isNaN_any a w
  have c2 := isNaN_any b w
  go_enter Try.func39, Try.ntmps39
  go_wp2_with fail
  refine c1.mono ?_
  rintro e w' ⟨rfl, rfl⟩
  go_wp2_with fail
  refine c2.mono ?_
  rintro e w' ⟨rfl, rfl⟩
  rcases Int.lt_trichotomy a b with h | h | h
  · have E : Hid (cmpI a b = -1) := Lib.hid (by unfold cmpI; rw [if_pos h])
    go_wp2
    go_ret
    exact ⟨by rw [E.out]; rfl, rfl⟩
  · subst h
    have E : Hid (cmpI a a = 0) := Lib.hid (by unfold cmpI; rw [if_neg (by omega), if_neg (by omega)])
    go_wp2
    go_ret
    exact ⟨by rw [E.out]; rfl, rfl⟩
  · have E : Hid (cmpI a b = 1) := Lib.hid (by unfold cmpI; rw [if_neg (by omega), if_pos h])
    have h' : ¬ a < b := by omega
    go_wp2
    go_ret
    exact ⟨by rw [E.out]; rfl, rfl⟩
theorem k_any (a b : Int) (w : World) : Calls Try.prog 35 #[.agg #[.int .i64 a, .int .i64 b]] w fun e w' => e = .returned (.int .i64 a) ∧ Below w.heap.size w w' := by
  go_enter Try.func35, Try.ntmps35
  go_wp2
  go_ret
  exact ⟨rfl, (Below.refl _ _).alloc (Nat.le_refl _) _⟩
def kF : Value := .func (.func 35) #[] #[]
def cloF (p : Nat) : Value := .func (.func 38) #[] #[.pointer (some ⟨p, 0, none⟩)]
theorem by_any (w : World) : Calls Try.prog 34 #[kF] w fun e w' => e = .returned (cloF w.heap.size) ∧ Below w.heap.size w w' ∧ w'.cell? ⟨w.heap.size, 0, none⟩ = some kF := by
  unfold kF cloF
  have h0 := (Blk.new w 56 #[.func (.func 35) #[] #[]]).cell 0
  go_enter Try.func34, Try.ntmps34
  go_wp2
  go_ret
  exact ⟨rfl, (Below.refl _ _).alloc (Nat.le_refl _) _, h0⟩

set_option maxHeartbeats 400000 in
theorem clo_any (p : Nat) (a b t : Int) (w : World) (hp : w.cell? ⟨p, 0, none⟩ = some kF) : Calls Try.prog 38 #[.agg #[.int .i64 a, .int .i64 b], .int .i64 t, .pointer (some ⟨p, 0, none⟩)] w fun e w' => e = .returned (.int .i64 (cmpI a t)) ∧ Below w.heap.size w w' := by
  have hpl := World.block_lt_of_cell? w _ hp
  unfold kF at hp
  have hne : ¬ p = w.heap.size := by have : p < w.heap.size := hpl; omega
  go_enter Try.func38, Try.ntmps38
  go_wp2_with fail
  refine (k_any a b _).mono ?_
  rintro e w2 ⟨rfl, hb2⟩
  have Hb2 := Lib.hid (((Below.refl _ _).alloc (Nat.le_refl _) _).trans (hb2.mono (by simp)))
  clear hb2
  go_wp2_with fail
  refine (compare_any a t _).mono ?_
  rintro e w' ⟨rfl, rfl⟩
  go_wp2
  go_ret
  exact ⟨rfl, Hb2.out⟩

theorem cmpI_lt {a b : Int} (h : a < b) : cmpI a b = -1 := by unfold cmpI; rw [if_pos h]
theorem cmpI_eq (a : Int) : cmpI a a = 0 := by unfold cmpI; rw [if_neg (by omega), if_neg (by omega)]
theorem cmpI_gt {a b : Int} (h : b < a) : cmpI a b = 1 := by unfold cmpI; rw [if_neg (by omega), if_pos h]

set_option maxHeartbeats 1600000 in
theorem search_any (A : Option Addr) (c B p : Nat) (l : List Bk) (t : Int) (w : World) (hR : Reads w B 2 A l.length (bkC l)) (hB : B ≤ w.heap.size) (hp : w.cell? ⟨p, 0, none⟩ = some kF) (hup : Up l) (hl : l.length ≤ 1000000000) :
    Calls Try.prog 33 #[.slice A l.length c, .int .i64 t, cloF p] w fun e w' => e = .returned (.tuple #[.int .i64 (pos l t : Nat), .bool (found l t)]) ∧ Below w.heap.size w w' := by
  have HR := Lib.hid hR
  have Hup := Lib.hid hup.lt
  have hpl := World.block_lt_of_cell? w _ hp
  unfold cloF
  clear hR hup
  go_enter Try.func33, Try.ntmps33
  go_wp2
  go_loopw [9, 10] (fun i j wr => ∃ a b : Nat, a ≤ b ∧ b ≤ l.length ∧ i = .int .i64 a ∧ j = .int .i64 b ∧ (∀ x (h : x < a), ∃ h : x < l.length, l[x].1 < t) ∧ (∀ h : b < l.length, t ≤ l[b].1) ∧ Below w.heap.size w wr) (fun i j _ => (intOf j).toNat - (intOf i).toNat)
  case atStart => exact ⟨0, l.length, Nat.zero_le _, Nat.le_refl _, rfl, rfl, fun x h => by omega, fun h => by omega, Below.refl _ _⟩
  case round =>
    obtain ⟨a, b, hab, hbl, rfl, rfl, h1, h2, hb⟩ := hrel
    by_cases hlt : a < b
    · have hm : (a + b) / 2 < l.length := by omega
      obtain ⟨bb, o, rfl, hbb, hc1, hc2⟩ := bks_at HR.out rfl hm
      have d1 := (hb.cell (p := ⟨bb, o + (a + b) / 2 * 2, none⟩) (Nat.lt_of_lt_of_le hbb hB)).trans hc1
      have d2 := (hb.cell (p := ⟨bb, o + (a + b) / 2 * 2 + 1, none⟩) (Nat.lt_of_lt_of_le hbb hB)).trans hc2
      have hp' := (hb.cell (p := ⟨p, 0, none⟩) hpl).trans hp
      have cc := clo_any p l[(a + b) / 2].1 l[(a + b) / 2].2 t wr hp'
      have H1 := Lib.hid h1
      have H2 := Lib.hid h2
      have Hb := Lib.hid hb
      clear hc1 hc2 h1 h2 hb
      by_cases hlm : l[(a + b) / 2].1 < t
      · rw [cmpI_lt hlm] at cc
        have H1' : Hid (∀ x (h : x < (a + b) / 2 + 1), ∃ h : x < l.length, l[x].1 < t) := Lib.hid (fun x h => ⟨by omega, by
          by_cases e : x = (a + b) / 2
          · subst e; exact hlm
          · have := Hup.out x ((a + b) / 2) (by omega) hm; omega⟩)
        clear hlm
        generalize l[(a + b) / 2].1 = u at *
        generalize l[(a + b) / 2].2 = v at *
        go_wp2_with fail
        refine cc.mono ?_
        rintro e w2 ⟨rfl, hb2⟩
        have Hb2 := Lib.hid (Hb.out.trans (hb2.mono Hb.out.size))
        clear hb2 cc
        go_wp2
        go_roundw
        case rel => exact ⟨(a + b) / 2 + 1, b, by omega, hbl, by go_num, rfl, H1'.out, H2.out, Hb2.out⟩
        case measure => simp [intOf]; omega
      · have hcm : cmpI l[(a + b) / 2].1 t = 0 ∨ cmpI l[(a + b) / 2].1 t = 1 := by
          rcases Int.lt_trichotomy l[(a + b) / 2].1 t with h | h | h
          · exact absurd h hlm
          · rw [h]; exact .inl (cmpI_eq t)
          · exact .inr (cmpI_gt h)
        have H2' : Hid (∀ h : (a + b) / 2 < l.length, t ≤ l[(a + b) / 2].1) := Lib.hid (fun _ => by omega)
        clear hlm
        generalize cmpI l[(a + b) / 2].1 t = z at *
        generalize l[(a + b) / 2].1 = u at *
        generalize l[(a + b) / 2].2 = v at *
        have hz : ¬ z < 0 := by omega
        clear hcm
        go_wp2_with fail
        refine cc.mono ?_
        rintro e w2 ⟨rfl, hb2⟩
        have Hb2 := Lib.hid (Hb.out.trans (hb2.mono Hb.out.size))
        clear hb2 cc
        go_wp2
        go_roundw
        case rel => exact ⟨a, (a + b) / 2, by omega, by omega, rfl, by go_num, H1.out, H2'.out, Hb2.out⟩
        case measure => simp [intOf]; omega
    · obtain rfl : a = b := by omega
      have hpos : pos l t = a := pos_eq l t a hbl (fun x h => (h1 x h).2) h2
      have F : Hid (found l t = (decide (a < l.length) && decide ((l.getD a (0, 0)).1 = t))) := Lib.hid (by unfold found; rw [hpos])
      have Hpos := Lib.hid hpos
      clear hpos h1
      by_cases hal : a < l.length
      · have h2a := h2 hal
        obtain ⟨bb, o, rfl, hbb, hc1, hc2⟩ := bks_at HR.out rfl hal
        have d1 := (hb.cell (p := ⟨bb, o + a * 2, none⟩) (Nat.lt_of_lt_of_le hbb hB)).trans hc1
        have d2 := (hb.cell (p := ⟨bb, o + a * 2 + 1, none⟩) (Nat.lt_of_lt_of_le hbb hB)).trans hc2
        have hp' := (hb.cell (p := ⟨p, 0, none⟩) hpl).trans hp
        have cc := clo_any p l[a].1 l[a].2 t wr hp'
        have Hb := Lib.hid hb
        have hgd : l.getD a (0, 0) = l[a] := by rw [List.getD_eq_getElem?_getD, List.getElem?_eq_getElem hal]; rfl
        rw [hgd, decide_eq_true hal, Bool.true_and] at F
        clear hc1 hc2 h2 hb hgd
        by_cases he : l[a].1 = t
        · rw [he, cmpI_eq] at cc
          rw [decide_eq_true he] at F
          rw [he] at d1
          clear he h2a
          generalize l[a].2 = v at *
          go_wp2_with fail
          refine cc.mono ?_
          rintro e w2 ⟨rfl, hb2⟩
          have Hb2 := Lib.hid (Hb.out.trans (hb2.mono Hb.out.size))
          clear hb2 cc
          go_wp2
          go_ret2
          exact ⟨by rw [Hpos.out, F.out]; rfl, Hb2.out⟩
        · rw [cmpI_gt (show t < l[a].1 by omega)] at cc
          rw [decide_eq_false he] at F
          clear he h2a
          generalize l[a].2 = v at *
          generalize l[a].1 = u at *
          go_wp2_with fail
          refine cc.mono ?_
          rintro e w2 ⟨rfl, hb2⟩
          have Hb2 := Lib.hid (Hb.out.trans (hb2.mono Hb.out.size))
          clear hb2 cc
          go_wp2
          go_ret2
          exact ⟨by rw [Hpos.out, F.out]; rfl, Hb2.out⟩
      · rw [decide_eq_false hal, Bool.false_and] at F
        have Hb := Lib.hid hb
        clear h2 hb
        go_wp2
        go_ret2
        exact ⟨by rw [Hpos.out, F.out]; rfl, Hb.out⟩
end Go.Proofs.Ythhklbjhlfejfaa.Hi
