/- slices.symMergeCmpFunc at elements of two cells: a run of one element (printed by gen_ssc.py). -/
import Derived.Test.YtioekhiaoajgfaaGreatPkMemidxForksRow15
namespace Go.Proofs.YtioekhiaoajgfaaGreat.Ss
open Go.Shelf Go.RowKit Go.Lib Go.Sort
set_option maxRecDepth 20000
set_option linter.unusedVariables false
set_option linter.unusedSimpArgs false
set_option linter.unusedSectionVars false
variable {α : Type} [Inhabited α] {enc : α → List Value} {cf : α → α → Int} {tag : α → Nat}

/-- What a merge leaves. -/
def MPost (enc : α → List Value) (cf : α → α → Int) (tag : α → Nat) (k : Nat) (w0 : World) (blk off : Nat) (d : Array α) (a b : Nat) (e : Ending) (w' : World) : Prop :=
  e = .returned (.tuple #[]) ∧ ∃ d', SWK enc k w0 blk off d' w' ∧ d'.size = d.size ∧ PermIn a b d d' ∧ Srt cf tag d' a b

set_option maxHeartbeats 2000000 in
set_option maxRecDepth 1000000 in
theorem symL_any (hW : SWO (ltOf cf)) (k : Nat) (hk2 : k = 2) (g : Nat) (cb : Array Value) (blk off cap a m b : Nat) (hm : m = a + 1) (d0 d : Array α) (w0 w : World) (eg : ∀ args w, (callFunc g args).run Tryz.prog w = .ok (.enter g args) w) (hC : CmpLays Tryz.prog g cb enc k cf blk off d0.size w0)
    (R : RowK enc k w0 blk off d0) (hs : d.size = d0.size) (S : SWK enc k w0 blk off d w) (hb : b ≤ d.size) (hab : a + 1 < b) (hsz : d.size < 1099511627776) (hS2 : Srt cf tag d (a + 1) b) (hT : ∀ y, a + 1 ≤ y → y < b → tag d[a]! < tag d[y]!) :
    Calls Tryz.prog 122 #[.slice (some ⟨blk, off, none⟩) d.size cap, .int .i64 a, .int .i64 m, .int .i64 b, .func (.func g) #[] cb] w (MPost enc cf tag k w0 blk off d a b) := by
  have zE : ∀ w, (Go.sizeOf 95).run Tryz.prog w = .ok k w := by rw [hk2]; exact Tryz.sizeOf95
  have mixed : Tryz.prog.follows Departure.mixedOrders = true := by kernel_rfl
  have S0 : Aside (SWK enc k w0 blk off d w) := S
  have HC : Aside _ := hC
  have HS := Lib.hid hs
  have HS2 := Lib.hid hS2
  have HT := Lib.hid hT
  have e1 : (m : Int) - (a : Int) = 1 := by omega
  have e2 : ((m : Int) - (a : Int) = 1) = True := eq_true e1
  have hm1 : a + 1 ≤ m := by omega
  have hm2 : m ≤ a + 1 := by omega
  clear S hk2 hs hC hS2 hT hm
  go_enter Tryz.func122, Tryz.ntmps122
  go_wp2
  go_loopw [10, 11] (fun vi vj wr => ∃ (i j : Nat), m ≤ i ∧ i ≤ j ∧ j ≤ b ∧ vi = .int .i64 (i : Nat) ∧ vj = .int .i64 (j : Nat) ∧ Aside (SWK enc k w0 blk off d wr) ∧ Hid (∀ h, a + 1 ≤ h → h < i → bef cf tag d[h]! d[a]!) ∧ Hid (∀ h, j ≤ h → h < b → bef cf tag d[a]! d[h]!)) (fun vi vj _ => (intOf vj).toNat - (intOf vi).toNat)
  case atStart => exact ⟨m, b, Nat.le_refl _, by omega, Nat.le_refl _, rfl, rfl, S0, Lib.hid (fun h _ _ => by omega), Lib.hid (fun h _ _ => by omega)⟩
  case round =>
    clear S0
    obtain ⟨i, j, hi, hij, hjb, rfl, rfl, S1, H1, H2⟩ := hrel
    by_cases hlt : i < j
    · have hji : (i : Int) < (j : Int) := by omega
      have n1 : (0 : Int) ≤ ((i : Int) + (j : Int)) / 2 := by omega
      have n2 : ((i : Int) + (j : Int)) / 2 < (d.size : Int) := by omega
      have n3 : (((i : Int) + (j : Int)) / 2).toNat = (i + j) / 2 := by omega
      have n4 : (a : Int) < (d.size : Int) := by omega
      have SG : Aside (∀ n os, SWK enc k w0 blk off d (grow (wr.drewN n) os)) := fun n os => S1.out.grown n os
      have l1 := fun n' os' => S1.out.ld R HS.out Tryz.prog ((i + j) / 2) (by omega) n' os'
      have l2 := fun n' os' => S1.out.ld R HS.out Tryz.prog (a) (by omega) n' os'
      have hcg := fun n' os' => S1.out.cmp HC.out HS.out d[(i + j) / 2]! d[a]! n' os'
      have F1 : Hid (cf d[(i + j) / 2]! d[a]! < 0 → ∀ h, a + 1 ≤ h → h < (i + j) / 2 + 1 → bef cf tag d[h]! d[a]!) := Lib.hid (fun hc h p1 p2 => HS2.out.step_l hW (y := (i + j) / 2) p1 (by omega) (by omega) (bef_lt hc))
      have F2 : Hid (¬ cf d[(i + j) / 2]! d[a]! < 0 → ∀ h, (i + j) / 2 ≤ h → h < b → bef cf tag d[a]! d[h]!) := Lib.hid (fun hc h p1 p2 => HS2.out.step_r hW (x := (i + j) / 2) (by omega) p1 p2 (bef_ge (HT.out _ (by omega) (by omega)) hc))
      obtain ⟨xp, hxp⟩ : ∃ x, d[(i + j) / 2]! = x := ⟨_, rfl⟩
      obtain ⟨xq, hxq⟩ : ∃ x, d[a]! = x := ⟨_, rfl⟩
      rw [hxp] at l1
      rw [hxq] at l2
      rw [hxp, hxq] at hcg
      rw [hxp, hxq] at F1 F2
      have HX : Hid (d[(i + j) / 2]! = xp ∧ d[a]! = xq) := Lib.hid ⟨hxp, hxq⟩
      clear hxp hxq
      clear S1
      by_cases hlv : cf xp xq < 0
      · have N1 : Hid (∀ h, a + 1 ≤ h → h < (i + j) / 2 + 1 → bef cf tag d[h]! d[a]!) := Lib.hid (by rw [HX.out.2]; exact F1.out hlv)
        clear F1 F2
        go_wp2_with fail
        go_quiet_grown (first | (go_at_fn g; refine Calls.grown_of (hcg _ _)))
        have S3 : Aside (SWK enc k w0 blk off d (grow (wr.drewN nq) osq)) := SG.out nq osq
        generalize grow (wr.drewN nq) osq = w3 at S3 ⊢
        clear l1 l2 hcg SG
        go_wp2
        go_roundw
        case rel => exact ⟨(i + j) / 2 + 1, j, by omega, by omega, by omega, by go_num, rfl, S3, N1, H2⟩
        case measure => simp [intOf]; omega
      · have N2 : Hid (∀ h, (i + j) / 2 ≤ h → h < b → bef cf tag d[a]! d[h]!) := Lib.hid (by rw [HX.out.2]; exact F2.out hlv)
        clear F1 F2
        go_wp2_with fail
        go_quiet_grown (first | (go_at_fn g; refine Calls.grown_of (hcg _ _)))
        have S3 : Aside (SWK enc k w0 blk off d (grow (wr.drewN nq) osq)) := SG.out nq osq
        generalize grow (wr.drewN nq) osq = w3 at S3 ⊢
        clear l1 l2 hcg SG
        go_wp2
        go_roundw
        case rel => exact ⟨i, (i + j) / 2, by omega, by omega, by omega, rfl, by go_num, S3, H1, N2⟩
        case measure => simp [intOf]; omega
    · obtain rfl : i = j := by omega
      have HF : Hid (∀ d1 : Array α, (∀ x, d1[x]! = shL d a (i - 1) x) → Srt cf tag d1 a b) := Lib.hid (fun d1 hd => shL_srt hW (by omega) hjb HS2.out H1.out H2.out hd)
      clear H1 H2
      go_wp2_with fail
      go_loopw [13] (fun vk wr => ∃ (x : Nat) (dk : Array α), a ≤ x ∧ x + 1 ≤ i ∧ vk = .int .i64 (x : Nat) ∧ Aside (SWK enc k w0 blk off dk wr) ∧ dk.size = d.size ∧ Hid (PermIn a b d dk) ∧ Hid (∀ y, dk[y]! = shL d a x y)) (fun vk _ => i - (intOf vk).toNat)
      case atStart => exact ⟨a, d, Nat.le_refl _, by omega, rfl, S1, rfl, Lib.hid (permIn_refl _ _ _), Lib.hid (fun y => shL_zero d a y)⟩
      case round =>
        clear S1
        obtain ⟨x, dk, hax, hxi, rfl, S1, hds, HP, HX⟩ := hrel
        by_cases hxl : x + 1 < i
        · have hxz : (x : Int) < (i : Int) - 1 := by omega
          have n0 : (0 : Int) ≤ (x : Int) := by omega
          have n1 : (0 : Int) ≤ (x : Int) + 1 := by omega
          have n2 : (x : Int) + 1 < (d.size : Int) := by omega
          have n3 : (x : Int) < (d.size : Int) := by omega
          have n5 : ((x : Int) + 1).toNat = x + 1 := by omega
          have S2 : Aside (SWK enc k w0 blk off (swp dk (x) (x + 1)) ((wr.drew.setCells blk (off + (x) * k) (enc dk[x + 1]!)).setCells blk (off + (x + 1) * k) (enc dk[x]!))) := S1.out.swapped R (x) (x + 1) (by omega) (by omega)
          have l44a := S1.out.ld1 R (hds.trans HS.out) Tryz.prog (x) (by omega)
          have l44b := S1.out.ld1 R (hds.trans HS.out) Tryz.prog (x + 1) (by omega)
          have s44a := S1.out.st1 R (hds.trans HS.out) Tryz.prog (x) (by omega) dk[x + 1]!
          have s44b := S1.out.st2 R (hds.trans HS.out) Tryz.prog (x) (x + 1) (by omega) (by omega) dk[x + 1]! dk[x]!
          have n44a : (enc dk[x]!).length = k := R.hk _
          have n44b : (enc dk[x + 1]!).length = k := R.hk _
          have HP2 : Hid (PermIn a b d (swp dk x (x + 1))) := Lib.hid (permIn_trans _ _ _ _ _ HP.out (swp_permIn dk a b x (x + 1) (by omega) (by omega) (by omega) (by omega) (by omega)))
          have HX2 : Hid (∀ y, (swp dk x (x + 1))[y]! = shL d a (x + 1) y) := Lib.hid (shL_step hax hds (by omega) HX.out)
          generalize enc dk[x]! = cI44 at S2 l44a s44b n44a
          generalize enc dk[x + 1]! = cJ44 at S2 l44b s44a s44b n44b
          clear S1 HP HX
          go_wp2_with fail
          go_big_region_o
          clear l44a l44b s44a s44b
          generalize (wr.drew.setCells blk (off + (x) * k) cJ44).setCells blk (off + (x + 1) * k) cI44 = w2 at S2 ⊢
          go_wp2
          go_roundw
          case rel => exact ⟨x + 1, swp dk x (x + 1), by omega, by omega, by go_num, S2, by rw [size_swp]; exact hds, HP2, HX2⟩
          case measure => simp [intOf]; omega
        · have hxz : ¬ (x : Int) < (i : Int) - 1 := by omega
          have Fin := Lib.hid (HF.out dk (by rw [show i - 1 = x by omega]; exact HX.out))
          go_wp2
          go_end0
          exact ⟨rfl, dk, S1.out, hds, HP.out, Fin.out⟩

set_option maxHeartbeats 2000000 in
set_option maxRecDepth 1000000 in
theorem symR_any (hW : SWO (ltOf cf)) (k : Nat) (hk2 : k = 2) (g : Nat) (cb : Array Value) (blk off cap a m b : Nat) (hm : b = m + 1) (d0 d : Array α) (w0 w : World) (eg : ∀ args w, (callFunc g args).run Tryz.prog w = .ok (.enter g args) w) (hC : CmpLays Tryz.prog g cb enc k cf blk off d0.size w0)
    (R : RowK enc k w0 blk off d0) (hs : d.size = d0.size) (S : SWK enc k w0 blk off d w) (hb : b ≤ d.size) (hab : a + 1 < m) (hsz : d.size < 1099511627776) (hS2 : Srt cf tag d a m) (hT : ∀ y, a ≤ y → y < m → tag d[y]! < tag d[m]!) :
    Calls Tryz.prog 122 #[.slice (some ⟨blk, off, none⟩) d.size cap, .int .i64 a, .int .i64 m, .int .i64 b, .func (.func g) #[] cb] w (MPost enc cf tag k w0 blk off d a b) := by
  have zE : ∀ w, (Go.sizeOf 95).run Tryz.prog w = .ok k w := by rw [hk2]; exact Tryz.sizeOf95
  have mixed : Tryz.prog.follows Departure.mixedOrders = true := by kernel_rfl
  have S0 : Aside (SWK enc k w0 blk off d w) := S
  have HC : Aside _ := hC
  have HS := Lib.hid hs
  have HS2 := Lib.hid hS2
  have HT := Lib.hid hT
  have e1 : ((m : Int) - (a : Int) = 1) = False := eq_false (by omega)
  have e1' : ((m : Int) - (a : Int) == 1) = false := by simp; omega
  have e2 : (b : Int) - (m : Int) = 1 := by omega
  have hm1 : m + 1 ≤ b := by omega
  have hm2 : b ≤ m + 1 := by omega
  clear S hk2 hs hC hS2 hT hm
  go_enter Tryz.func122, Tryz.ntmps122
  go_wp2
  go_loopw [14, 15] (fun vi vj wr => ∃ (i j : Nat), a ≤ i ∧ i ≤ j ∧ j ≤ m ∧ vi = .int .i64 (i : Nat) ∧ vj = .int .i64 (j : Nat) ∧ Aside (SWK enc k w0 blk off d wr) ∧ Hid (∀ h, a ≤ h → h < i → bef cf tag d[h]! d[m]!) ∧ Hid (∀ h, j ≤ h → h < m → bef cf tag d[m]! d[h]!)) (fun vi vj _ => (intOf vj).toNat - (intOf vi).toNat)
  case atStart => exact ⟨a, m, Nat.le_refl _, by omega, Nat.le_refl _, rfl, rfl, S0, Lib.hid (fun h _ _ => by omega), Lib.hid (fun h _ _ => by omega)⟩
  case round =>
    clear S0
    obtain ⟨i, j, hi, hij, hjb, rfl, rfl, S1, H1, H2⟩ := hrel
    by_cases hlt : i < j
    · have hji : (i : Int) < (j : Int) := by omega
      have n1 : (0 : Int) ≤ ((i : Int) + (j : Int)) / 2 := by omega
      have n2 : ((i : Int) + (j : Int)) / 2 < (d.size : Int) := by omega
      have n3 : (((i : Int) + (j : Int)) / 2).toNat = (i + j) / 2 := by omega
      have n4 : (m : Int) < (d.size : Int) := by omega
      have SG : Aside (∀ n os, SWK enc k w0 blk off d (grow (wr.drewN n) os)) := fun n os => S1.out.grown n os
      have l1 := fun n' os' => S1.out.ld R HS.out Tryz.prog (m) (by omega) n' os'
      have l2 := fun n' os' => S1.out.ld R HS.out Tryz.prog ((i + j) / 2) (by omega) n' os'
      have hcg := fun n' os' => S1.out.cmp HC.out HS.out d[m]! d[(i + j) / 2]! n' os'
      have F1 : Hid (cf d[m]! d[(i + j) / 2]! < 0 → ∀ h, (i + j) / 2 ≤ h → h < m → bef cf tag d[m]! d[h]!) := Lib.hid (fun hc h p1 p2 => HS2.out.step_r hW (x := (i + j) / 2) (by omega) p1 p2 (bef_lt hc))
      have F2 : Hid (¬ cf d[m]! d[(i + j) / 2]! < 0 → ∀ h, a ≤ h → h < (i + j) / 2 + 1 → bef cf tag d[h]! d[m]!) := Lib.hid (fun hc h p1 p2 => HS2.out.step_l hW (y := (i + j) / 2) p1 (by omega) (by omega) (bef_ge (HT.out _ (by omega) (by omega)) hc))
      obtain ⟨xp, hxp⟩ : ∃ x, d[m]! = x := ⟨_, rfl⟩
      obtain ⟨xq, hxq⟩ : ∃ x, d[(i + j) / 2]! = x := ⟨_, rfl⟩
      rw [hxp] at l1
      rw [hxq] at l2
      rw [hxp, hxq] at hcg
      rw [hxp, hxq] at F1 F2
      have HX : Hid (d[(i + j) / 2]! = xq ∧ d[m]! = xp) := Lib.hid ⟨hxq, hxp⟩
      clear hxp hxq
      clear S1
      by_cases hlv : cf xp xq < 0
      · have N2 : Hid (∀ h, (i + j) / 2 ≤ h → h < m → bef cf tag d[m]! d[h]!) := Lib.hid (by rw [HX.out.2]; exact F1.out hlv)
        clear F1 F2
        go_wp2_with fail
        go_quiet_grown (first | (go_at_fn g; refine Calls.grown_of (hcg _ _)))
        have S3 : Aside (SWK enc k w0 blk off d (grow (wr.drewN nq) osq)) := SG.out nq osq
        generalize grow (wr.drewN nq) osq = w3 at S3 ⊢
        clear l1 l2 hcg SG
        go_wp2
        go_roundw
        case rel => exact ⟨i, (i + j) / 2, by omega, by omega, by omega, rfl, by go_num, S3, H1, N2⟩
        case measure => simp [intOf]; omega
      · have hdec : decide (cf xp xq < 0) = false := decide_eq_false hlv
        have N1 : Hid (∀ h, a ≤ h → h < (i + j) / 2 + 1 → bef cf tag d[h]! d[m]!) := Lib.hid (by rw [HX.out.2]; exact F2.out hlv)
        clear F1 F2
        go_wp2_with fail
        go_quiet_grown (first | (go_at_fn g; refine Calls.grown_of (hcg _ _)))
        have S3 : Aside (SWK enc k w0 blk off d (grow (wr.drewN nq) osq)) := SG.out nq osq
        generalize grow (wr.drewN nq) osq = w3 at S3 ⊢
        clear l1 l2 hcg SG
        go_wp2
        go_roundw
        case rel => exact ⟨(i + j) / 2 + 1, j, by omega, by omega, by omega, by go_num, rfl, S3, N1, H2⟩
        case measure => simp [intOf]; omega
    · obtain rfl : i = j := by omega
      have HF : Hid (∀ d1 : Array α, (∀ x, d1[x]! = shR d m i x) → Srt cf tag d1 a b) := Lib.hid (fun d1 hd => by rw [show b = m + 1 by omega]; exact shR_srt hW hi hjb HS2.out H1.out H2.out hd)
      clear H1 H2
      go_wp2_with fail
      go_loopw [17] (fun vk wr => ∃ (x : Nat) (dk : Array α), i ≤ x ∧ x ≤ m ∧ vk = .int .i64 (x : Nat) ∧ Aside (SWK enc k w0 blk off dk wr) ∧ dk.size = d.size ∧ Hid (PermIn a b d dk) ∧ Hid (∀ y, dk[y]! = shR d m x y)) (fun vk _ => (intOf vk).toNat)
      case atStart => exact ⟨m, d, hjb, Nat.le_refl _, rfl, S1, rfl, Lib.hid (permIn_refl _ _ _), Lib.hid (fun y => shR_zero d m y)⟩
      case round =>
        clear S1
        obtain ⟨x', dk, hix, hxm, rfl, S1, hds, HP, HX⟩ := hrel
        by_cases hxl : i < x'
        · obtain ⟨x, rfl⟩ : ∃ x, x' = x + 1 := ⟨x' - 1, by omega⟩
          have hxz : (i : Int) < (x : Int) + 1 := by omega
          have n0 : (0 : Int) ≤ (x : Int) := by omega
          have n1 : (0 : Int) ≤ (x : Int) + 1 := by omega
          have n2 : (x : Int) + 1 < (d.size : Int) := by omega
          have n3 : (x : Int) < (d.size : Int) := by omega
          have n5 : ((x : Int) + 1).toNat = x + 1 := by omega
          have S2 : Aside (SWK enc k w0 blk off (swp dk (x + 1) (x)) ((wr.drew.setCells blk (off + (x + 1) * k) (enc dk[x]!)).setCells blk (off + (x) * k) (enc dk[x + 1]!))) := S1.out.swapped R (x + 1) (x) (by omega) (by omega)
          have l44a := S1.out.ld1 R (hds.trans HS.out) Tryz.prog (x + 1) (by omega)
          have l44b := S1.out.ld1 R (hds.trans HS.out) Tryz.prog (x) (by omega)
          have s44a := S1.out.st1 R (hds.trans HS.out) Tryz.prog (x + 1) (by omega) dk[x]!
          have s44b := S1.out.st2 R (hds.trans HS.out) Tryz.prog (x + 1) (x) (by omega) (by omega) dk[x]! dk[x + 1]!
          have n44a : (enc dk[x + 1]!).length = k := R.hk _
          have n44b : (enc dk[x]!).length = k := R.hk _
          have HP2 : Hid (PermIn a b d (swp dk (x + 1) x)) := Lib.hid (permIn_trans _ _ _ _ _ HP.out (swp_permIn dk a b (x + 1) x (by omega) (by omega) (by omega) (by omega) (by omega)))
          have HX2 : Hid (∀ y, (swp dk (x + 1) x)[y]! = shR d m x y) := Lib.hid (shR_step hxm hds (by omega) HX.out)
          generalize enc dk[x + 1]! = cI44 at S2 l44a s44b n44a
          generalize enc dk[x]! = cJ44 at S2 l44b s44a s44b n44b
          clear S1 HP HX
          go_wp2_with fail
          go_big_region_o
          clear l44a l44b s44a s44b
          generalize (wr.drew.setCells blk (off + (x + 1) * k) cJ44).setCells blk (off + (x) * k) cI44 = w2 at S2 ⊢
          go_wp2
          go_roundw
          case rel => exact ⟨x, swp dk (x + 1) x, by omega, by omega, by first | rfl | go_num | (congr 1; omega), S2, by rw [size_swp]; exact hds, HP2, HX2⟩
          case measure => first | (simp [intOf]; done) | (simp [intOf]; omega)
        · have hxz : ¬ (i : Int) < (x' : Int) := by omega
          have Fin := Lib.hid (HF.out dk (by rw [show i = x' by omega]; exact HX.out))
          go_wp2
          go_end0
          exact ⟨rfl, dk, S1.out, hds, HP.out, Fin.out⟩
end Go.Proofs.YtioekhiaoajgfaaGreat.Ss
