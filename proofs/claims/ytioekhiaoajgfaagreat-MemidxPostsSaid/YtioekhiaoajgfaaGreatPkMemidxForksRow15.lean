/- A stable sort: plain. (No program in sight.) -/
import Derived.Test.YtioekhiaoajgfaaGreatProg
import Derived.Shelf.SlSortCmp.KitK
import Derived.Sort.LotA
import Derived.Sort.WalkB2
import Derived.Sort.WalkB12
import Derived.Deep.LoopGhost
import Derived.Lib.Hide
import Derived.Test.YtioekhiaoajgfaaGreatPkMemidxForksRow0
section
namespace Go.Proofs.YtioekhiaoajgfaaGreat.Ss
open Go.Sort
variable {α : Type} [Inhabited α]

/-- Two stretches of n, exchanged. -/
def swpR (d : Array α) (a b n x : Nat) : α := if a ≤ x ∧ x < a + n then d[x + (b - a)]! else if b ≤ x ∧ x < b + n then d[x - (b - a)]! else d[x]!
theorem swpR_zero (d : Array α) (a b x : Nat) : swpR d a b 0 x = d[x]! := by
  unfold swpR
  rw [if_neg (by omega), if_neg (by omega)]
theorem swp_get (d : Array α) (i j x : Nat) (hi : i < d.size) (hj : j < d.size) : (swp d i j)[x]! = if x = j then d[i]! else if x = i then d[j]! else d[x]! := by
  by_cases e1 : x = j
  · subst e1
    rw [if_pos rfl, swp_right d i x hj]
  · rw [if_neg e1]
    by_cases e2 : x = i
    · subst e2
      rw [if_pos rfl, swp_left d x j hi e1]
    · rw [if_neg e2, swp_other d i j x e2 e1]
theorem swpR_step (d dk : Array α) (a b k : Nat) (hab : a + k < b) (hs : dk.size = d.size) (hb : b + k < d.size) (h : ∀ x, dk[x]! = swpR d a b k x) : ∀ x, (swp dk (a + k) (b + k))[x]! = swpR d a b (k + 1) x := by
  intro x
  rw [swp_get dk (a + k) (b + k) x (by omega) (by omega), h, h, h]
  unfold swpR
  by_cases e1 : x = b + k
  · subst e1
    rw [if_pos rfl, if_neg (by omega), if_neg (by omega), if_neg (by omega), if_pos (by omega)]
    congr 1
    omega
  · rw [if_neg e1]
    by_cases e2 : x = a + k
    · subst e2
      rw [if_pos rfl, if_neg (by omega), if_neg (by omega), if_pos (by omega)]
      congr 1
      omega
    · rw [if_neg e2]
      by_cases c1 : a ≤ x ∧ x < a + k
      · rw [if_pos c1, if_pos (by omega)]
      · rw [if_neg c1]
        by_cases c2 : b ≤ x ∧ x < b + k
        · rw [if_pos c2, if_neg (by omega), if_pos (by omega)]
        · rw [if_neg c2, if_neg (by omega), if_neg (by omega)]
/-- Two stretches that lie side by side, changed about. -/
def rotR (d : Array α) (a m b x : Nat) : α := if a ≤ x ∧ x < a + (b - m) then d[x + (m - a)]! else if a + (b - m) ≤ x ∧ x < b then d[x - (b - m)]! else d[x]!
theorem rot_gt (d d' : Array α) (m i j : Nat) (hji : j < i) (him : i ≤ m) (h : ∀ x, d'[x]! = swpR d (m - i) m j x) (x : Nat) : rotR d' (m - (i - j)) m (m + j) x = rotR d (m - i) m (m + j) x := by
  unfold rotR
  simp only [h]
  unfold swpR
  repeat' split
  all_goals first | (exfalso; omega) | rfl | (congr 1; omega)
theorem rot_lt (d d' : Array α) (m i j : Nat) (hij : i < j) (him : i ≤ m) (h : ∀ x, d'[x]! = swpR d (m - i) (m + j - i) i x) (x : Nat) : rotR d' (m - i) m (m + (j - i)) x = rotR d (m - i) m (m + j) x := by
  unfold rotR
  simp only [h]
  unfold swpR
  repeat' split
  all_goals first | (exfalso; omega) | rfl | (congr 1; omega)
theorem rot_eq (d : Array α) (m i : Nat) (him : i ≤ m) (x : Nat) : swpR d (m - i) m i x = rotR d (m - i) m (m + i) x := by
  unfold rotR swpR
  repeat' split
  all_goals first | (exfalso; omega) | rfl | (congr 1; omega)
end Go.Proofs.YtioekhiaoajgfaaGreat.Ss
end

section
/- slices.swapRangeCmpFunc at elements of two cells: the walk. -/
namespace Go.Proofs.YtioekhiaoajgfaaGreat.Ss
open Go.Shelf Go.RowKit Go.Lib Go.Sort
set_option maxRecDepth 20000
set_option linter.unusedVariables false
set_option linter.unusedSimpArgs false
variable {α : Type} [Inhabited α] {enc : α → List Value}

set_option maxHeartbeats 400000 in
theorem swapRange_any (k : Nat) (hk2 : k = 2) (fv : Value) (blk off cap a b n : Nat) (d0 d : Array α) (w0 w : World) (R : RowK enc k w0 blk off d0) (hs : d.size = d0.size) (S : SWK enc k w0 blk off d w) (hab : a + n ≤ b) (hb : b + n ≤ d.size) (hsz : d.size < 1099511627776) :
    Calls Tryz.prog 135 #[.slice (some ⟨blk, off, none⟩) d.size cap, .int .i64 a, .int .i64 b, .int .i64 n, fv] w fun e w' =>
      e = .returned (.tuple #[]) ∧ ∃ d', SWK enc k w0 blk off d' w' ∧ d'.size = d.size ∧ PermIn a (b + n) d d' ∧ ∀ x, d'[x]! = swpR d a b n x := by
  have zE : ∀ w, (Go.sizeOf 95).run Tryz.prog w = .ok k w := by rw [hk2]; exact Tryz.sizeOf95
  have mixed : Tryz.prog.follows Departure.mixedOrders = true := by kernel_rfl
  have S0 : Aside (SWK enc k w0 blk off d w) := S
  clear S hk2
  go_enter Tryz.func135, Tryz.ntmps135
  go_wp2
  go_loopw [10] (fun i wr => ∃ (j : Nat) (dk : Array α), j ≤ n ∧ i = .int .i64 (j : Nat) ∧ Aside (SWK enc k w0 blk off dk wr) ∧ dk.size = d.size ∧ Hid (PermIn a (b + n) d dk) ∧ Hid (∀ x, dk[x]! = swpR d a b j x)) (fun i _ => n - (intOf i).toNat)
  case atStart => exact ⟨0, d, Nat.zero_le _, rfl, S0, rfl, Lib.hid (permIn_refl _ _ _), Lib.hid (fun x => (swpR_zero d a b x).symm)⟩
  case round =>
    clear S0
    obtain ⟨j, dk, hj, rfl, S1, hds, HP, HX⟩ := hrel
    by_cases hlt : j < n
    · have hji : (j : Int) < (n : Int) := by omega
      have S2 : Aside (SWK enc k w0 blk off (swp dk (a + j) (b + j)) ((wr.drew.setCells blk (off + (a + j) * k) (enc dk[b + j]!)).setCells blk (off + (b + j) * k) (enc dk[a + j]!))) := S1.out.swapped R (a + j) (b + j) (by omega) (by omega)
      have l44a := S1.out.ld1 R (by omega) Tryz.prog (a + j) (by omega)
      have l44b := S1.out.ld1 R (by omega) Tryz.prog (b + j) (by omega)
      have s44a := S1.out.st1 R (by omega) Tryz.prog (a + j) (by omega) dk[b + j]!
      have s44b := S1.out.st2 R (by omega) Tryz.prog (a + j) (b + j) (by omega) (by omega) dk[b + j]! dk[a + j]!
      have n44a : (enc dk[a + j]!).length = k := R.hk _
      have n44b : (enc dk[b + j]!).length = k := R.hk _
      have HP2 : Hid (PermIn a (b + n) d (swp dk (a + j) (b + j))) := Lib.hid (permIn_trans _ _ _ _ _ HP.out (swp_permIn dk a (b + n) (a + j) (b + j) (by omega) (by omega) (by omega) (by omega) (by omega)))
      have HX2 := Lib.hid (swpR_step d dk a b j (by omega) hds (by omega) HX.out)
      generalize enc dk[a + j]! = cI44 at S2 l44a s44b n44a
      generalize enc dk[b + j]! = cJ44 at S2 l44b s44a s44b n44b
      have ea44 : (((a : Int) + (j : Int))).toNat = a + j := by omega
      have ra44 : IntKind.i64.wrap ((a : Int) + (j : Int)) = (a : Int) + (j : Int) := by rw [IntKind.wrap_i64]; omega
      have rb44 : IntKind.i64.wrap ((b : Int) + (j : Int)) = (b : Int) + (j : Int) := by rw [IntKind.wrap_i64]; omega
      have pa44 : (0 : Int) ≤ (a : Int) + (j : Int) := by omega
      have pb44 : (0 : Int) ≤ (b : Int) + (j : Int) := by omega
      have ba44 : (a : Int) + (j : Int) < (d.size : Int) := by omega
      have bb44 : (b : Int) + (j : Int) < (d.size : Int) := by omega
      have eb44 : (((b : Int) + (j : Int))).toNat = b + j := by omega
      clear S1 HP HX
      go_wp2_with fail
      go_big_region_o
      clear l44a l44b s44a s44b
      generalize (wr.drew.setCells blk (off + (a + j) * k) cJ44).setCells blk (off + (b + j) * k) cI44 = w2 at S2 ⊢
      go_wp2
      go_roundw
      case rel => exact ⟨j + 1, swp dk (a + j) (b + j), by omega, by go_num, S2, by rw [size_swp]; exact hds, HP2, HX2⟩
      case measure => simp [intOf]; omega
    · obtain rfl : j = n := by omega
      go_wp2
      go_end0
      exact ⟨rfl, dk, S1.out, hds, HP.out, HX.out⟩
end Go.Proofs.YtioekhiaoajgfaaGreat.Ss
end

section
/- slices.rotateCmpFunc at elements of two cells: the walk. -/
namespace Go.Proofs.YtioekhiaoajgfaaGreat.Ss
open Go.Shelf Go.RowKit Go.Lib Go.Sort
set_option maxRecDepth 20000
set_option linter.unusedVariables false
set_option linter.unusedSimpArgs false
variable {α : Type} [Inhabited α] {enc : α → List Value}

set_option maxHeartbeats 400000 in
theorem rotate_any (k : Nat) (hk2 : k = 2) (fv : Value) (blk off cap a m b : Nat) (d0 d : Array α) (w0 w : World) (R : RowK enc k w0 blk off d0) (hs : d.size = d0.size) (S : SWK enc k w0 blk off d w) (ham : a < m) (hmb : m < b) (hb : b ≤ d.size) (hsz : d.size < 1099511627776) :
    Calls Tryz.prog 132 #[.slice (some ⟨blk, off, none⟩) d.size cap, .int .i64 a, .int .i64 m, .int .i64 b, fv] w fun e w' =>
      e = .returned (.tuple #[]) ∧ ∃ d', SWK enc k w0 blk off d' w' ∧ d'.size = d.size ∧ PermIn a b d d' ∧ ∀ x, d'[x]! = rotR d a m b x := by
  have S0 : Aside (SWK enc k w0 blk off d w) := S
  have HK := Lib.hid hk2
  have HS := Lib.hid hs
  clear S hk2 hs
  go_enter Tryz.func132, Tryz.ntmps132
  go_wp2
  go_loopw [10, 11] (fun v10 v11 wr => ∃ (i j : Nat) (dk : Array α), 0 < i ∧ 0 < j ∧ a + i ≤ m ∧ m + j ≤ b ∧ v10 = .int .i64 (i : Nat) ∧ v11 = .int .i64 (j : Nat) ∧ Aside (SWK enc k w0 blk off dk wr) ∧ dk.size = d.size ∧ Hid (PermIn a b d dk) ∧ Hid (∀ x, rotR dk (m - i) m (m + j) x = rotR d a m b x)) (fun v10 v11 _ => (intOf v10).toNat + (intOf v11).toNat)
  case atStart => exact ⟨m - a, b - m, d, by omega, by omega, by omega, by omega, by go_num, by go_num, S0, rfl, Lib.hid (permIn_refl _ _ _), Lib.hid (fun x => by rw [show m - (m - a) = a by omega, show m + (b - m) = b by omega])⟩
  case round =>
    clear S0
    obtain ⟨i, j, dk, hi0, hj0, him, hjb, rfl, rfl, S1, hds, HP, HX⟩ := hrel
    by_cases hij : i = j
    · subst hij
      have hnn : ¬ ((i : Int) ≠ (i : Int)) := by omega
      have e1 : IntKind.i64.wrap ((m : Int) - (i : Int)) = ((m - i : Nat) : Int) := by rw [IntKind.wrap_i64]; omega
      have e2 : (m : Int) - (i : Int) = ((m - i : Nat) : Int) := by omega
      have c1 := swapRange_any k HK.out fv blk off cap (m - i) m i d0 dk w0 wr R (hds.trans HS.out) S1.out (by omega) (by omega) (by omega)
      rw [hds] at c1
      have C1 := Lib.hid c1
      clear c1 S1
      go_wp2_with fail
      try rw [e2]
      refine C1.out.mono ?_
      rintro e w2 ⟨rfl, d', S2, h1, h2, h3⟩
      have Fin : Hid (SWK enc k w0 blk off d' w2 ∧ d'.size = d.size ∧ PermIn a b d d' ∧ ∀ x, d'[x]! = rotR d a m b x) := Lib.hid ⟨S2, by omega, permIn_trans _ _ _ _ _ HP.out (permIn_mono _ _ _ _ _ _ (by omega) (by omega) (by omega) h2), fun x => by rw [h3, rot_eq _ _ _ (by omega), HX.out]⟩
      clear C1 S2 h1 h2 h3 HP HX
      go_wp2
      go_end0
      exact ⟨rfl, d', Fin.out⟩
    · have hnn : (i : Int) ≠ (j : Int) := by omega
      by_cases hgt : j < i
      · have hgi : (j : Int) < (i : Int) := by omega
        have e2 : (m : Int) - (i : Int) = ((m - i : Nat) : Int) := by omega
        have c1 := swapRange_any k HK.out fv blk off cap (m - i) m j d0 dk w0 wr R (hds.trans HS.out) S1.out (by omega) (by omega) (by omega)
        rw [hds] at c1
        have C1 := Lib.hid c1
        clear c1 S1
        go_wp2_with fail
        try rw [e2]
        refine C1.out.mono ?_
        rintro e w2 ⟨rfl, d', S2, h1, h2, h3⟩
        have S3 : Aside (SWK enc k w0 blk off d' w2) := S2
        have P3 : Hid (PermIn a b d d') := Lib.hid (permIn_trans _ _ _ _ _ HP.out (permIn_mono _ _ _ _ _ _ (by omega) (by omega) (by omega) h2))
        have X3 : Hid (∀ x, rotR d' (m - (i - j)) m (m + j) x = rotR d a m b x) := Lib.hid (fun x => by rw [rot_gt dk d' m i j hgt (by omega) h3, HX.out])
        clear C1 S2 h2 h3 HP HX
        go_wp2
        go_roundw
        case rel => exact ⟨i - j, j, d', by omega, by omega, by omega, by omega, by go_num, by go_num, S3, by omega, P3, X3⟩
        case measure => simp [intOf]; omega
      · have hgi : ¬ (j : Int) < (i : Int) := by omega
        have e2 : (m : Int) - (i : Int) = ((m - i : Nat) : Int) := by omega
        have e3 : (m : Int) + (j : Int) - (i : Int) = ((m + j - i : Nat) : Int) := by omega
        have c1 := swapRange_any k HK.out fv blk off cap (m - i) (m + j - i) i d0 dk w0 wr R (hds.trans HS.out) S1.out (by omega) (by omega) (by omega)
        rw [hds] at c1
        have C1 := Lib.hid c1
        clear c1 S1
        go_wp2_with fail
        try rw [e2]
        try rw [e3]
        refine C1.out.mono ?_
        rintro e w2 ⟨rfl, d', S2, h1, h2, h3⟩
        have S3 : Aside (SWK enc k w0 blk off d' w2) := S2
        have P3 : Hid (PermIn a b d d') := Lib.hid (permIn_trans _ _ _ _ _ HP.out (permIn_mono _ _ _ _ _ _ (by omega) (by omega) (by omega) h2))
        have X3 : Hid (∀ x, rotR d' (m - i) m (m + (j - i)) x = rotR d a m b x) := Lib.hid (fun x => by rw [rot_lt dk d' m i j (by omega) (by omega) h3, HX.out])
        clear C1 S2 h2 h3 HP HX
        go_wp2
        go_roundw
        case rel => exact ⟨i, j - i, d', by omega, by omega, by omega, by omega, by go_num, by go_num, S3, by omega, P3, X3⟩
        case measure => simp [intOf]; omega
end Go.Proofs.YtioekhiaoajgfaaGreat.Ss
end

section
/- A stable sort: what a merge needs. (No program in sight.) -/
namespace Go.Proofs.YtioekhiaoajgfaaGreat.Ss
open Go.Sort Go.Proofs
set_option linter.unusedVariables false
set_option linter.unusedSectionVars false
variable {α : Type} [Inhabited α] (cf : α → α → Int) (tag : α → Nat)

/-- Ahead: less, or not more and of a smaller tag. -/
def bef (x y : α) : Prop := cf x y < 0 ∨ (¬ cf y x < 0 ∧ tag x < tag y)
variable {cf tag}
theorem lt_false {x y : α} : ltOf cf x y = false ↔ ¬ cf x y < 0 := by
  unfold ltOf
  exact decide_eq_false_iff_not
theorem lt_true {x y : α} : ltOf cf x y = true ↔ cf x y < 0 := by
  unfold ltOf
  exact decide_eq_true_iff
theorem bef_trans (hW : SWO (ltOf cf)) {x y z : α} (h1 : bef cf tag x y) (h2 : bef cf tag y z) : bef cf tag x z := by
  rcases h1 with h1 | ⟨h1, t1⟩
  · rcases h2 with h2 | ⟨h2, t2⟩
    · exact .inl (lt_true.1 (hW.trans _ _ _ (lt_true.2 h1) (lt_true.2 h2)))
    · refine .inl (Classical.byContradiction fun h => ?_)
      exact lt_false.1 (hW.ntrans x z y (lt_false.2 h) (lt_false.2 h2)) h1
  · rcases h2 with h2 | ⟨h2, t2⟩
    · refine .inl (Classical.byContradiction fun h => ?_)
      exact lt_false.1 (hW.ntrans y x z (lt_false.2 h1) (lt_false.2 h)) h2
    · exact .inr ⟨lt_false.1 (hW.ntrans z y x (lt_false.2 h2) (lt_false.2 h1)), by omega⟩
theorem bef_lt {x y : α} (h : cf x y < 0) : bef cf tag x y := .inl h
theorem bef_ge {x y : α} (ht : tag y < tag x) (h : ¬ cf x y < 0) : bef cf tag y x := .inr ⟨h, ht⟩
variable (cf tag)
def Srt (d : Array α) (a b : Nat) : Prop := ∀ x y, a ≤ x → x < y → y < b → bef cf tag d[x]! d[y]!
def Tg (d : Array α) (a m b : Nat) : Prop := ∀ x y, a ≤ x → x < m → m ≤ y → y < b → tag d[x]! < tag d[y]!
variable {cf tag}
/-- At or ahead, then ahead. -/
theorem Srt.step_l (hW : SWO (ltOf cf)) {d : Array α} {a b x y : Nat} {z : α} (h : Srt cf tag d a b) (ha : a ≤ x) (hxy : x ≤ y) (hb : y < b) (hz : bef cf tag d[y]! z) : bef cf tag d[x]! z := by
  rcases Nat.lt_or_ge x y with hlt | hge
  · exact bef_trans hW (h x y ha hlt hb) hz
  · obtain rfl : x = y := by omega
    exact hz
theorem Srt.step_r (hW : SWO (ltOf cf)) {d : Array α} {a b x y : Nat} {z : α} (h : Srt cf tag d a b) (ha : a ≤ x) (hxy : x ≤ y) (hb : y < b) (hz : bef cf tag z d[x]!) : bef cf tag z d[y]! := by
  rcases Nat.lt_or_ge x y with hlt | hge
  · exact bef_trans hW hz (h x y ha hlt hb)
  · obtain rfl : x = y := by omega
    exact hz
theorem Srt.sub {d : Array α} {a b a' b' : Nat} (h : Srt cf tag d a b) (ha : a ≤ a') (hb : b' ≤ b) : Srt cf tag d a' b' := fun x y h1 h2 h3 => h x y (by omega) h2 (by omega)
theorem Srt.one (d : Array α) {a b : Nat} (h : b ≤ a + 1) : Srt cf tag d a b := fun x y h1 h2 h3 => by omega
/-- Two sorted parts, the first ahead of the second. -/
theorem Srt.join {d : Array α} {a m b : Nat} (h1 : Srt cf tag d a m) (h2 : Srt cf tag d m b) (h3 : ∀ x y, a ≤ x → x < m → m ≤ y → y < b → bef cf tag d[x]! d[y]!) : Srt cf tag d a b := fun x y hx hxy hy => by
  by_cases c1 : y < m
  · exact h1 x y hx hxy c1
  · by_cases c2 : x < m
    · exact h3 x y hx c2 (by omega) hy
    · exact h2 x y (by omega) hxy hy
theorem rot_id (d : Array α) (s m e : Nat) (h : s = m ∨ e = m) (hs : s ≤ m) (he : m ≤ e) (x : Nat) : d[x]! = rotR d s m e x := by
  unfold rotR
  rcases h with rfl | rfl
  · repeat' split
    all_goals first | (exfalso; omega) | rfl | (congr 1; omega)
  · repeat' split
    all_goals first | (exfalso; omega) | rfl | (congr 1; omega)
/-- What stands behind the rotation in the middle of a merge. -/
theorem sym_split (hW : SWO (ltOf cf)) {d d1 : Array α} {a m b mid s e : Nat} (h1 : a ≤ s) (h2 : s ≤ m) (h3 : m ≤ e) (h4 : e ≤ b) (h5 : s ≤ mid) (h6 : mid ≤ e) (h7 : mid + m = s + e) (S1 : Srt cf tag d a m) (S2 : Srt cf tag d m b) (T : Tg tag d a m b)
    (hA : s = a ∨ e = b ∨ bef cf tag d[s - 1]! d[e]!) (hB : s = m ∨ e = m ∨ bef cf tag d[e - 1]! d[s]!) (hd : ∀ x, d1[x]! = rotR d s m e x) :
    (Srt cf tag d1 a s ∧ Srt cf tag d1 s mid ∧ Tg tag d1 a s mid) ∧ (Srt cf tag d1 mid e ∧ Srt cf tag d1 e b ∧ Tg tag d1 mid e b) ∧ (∀ x y, a ≤ x → x < mid → mid ≤ y → y < b → bef cf tag d1[x]! d1[y]!) := by
  have g1 : ∀ x, x < s → d1[x]! = d[x]! := fun x hx => by rw [hd]; unfold rotR; rw [if_neg (by omega), if_neg (by omega)]
  have g2 : ∀ x, s ≤ x → x < mid → d1[x]! = d[x + (m - s)]! := fun x hx hy => by rw [hd]; unfold rotR; rw [if_pos (by omega)]
  have g3 : ∀ x, mid ≤ x → x < e → d1[x]! = d[x - (e - m)]! := fun x hx hy => by rw [hd]; unfold rotR; rw [if_neg (by omega), if_pos (by omega)]
  have g4 : ∀ x, e ≤ x → d1[x]! = d[x]! := fun x hx => by rw [hd]; unfold rotR; rw [if_neg (by omega), if_neg (by omega)]
  refine ⟨⟨fun x y p1 p2 p3 => ?_, fun x y p1 p2 p3 => ?_, fun x y p1 p2 p3 p4 => ?_⟩, ⟨fun x y p1 p2 p3 => ?_, fun x y p1 p2 p3 => ?_, fun x y p1 p2 p3 p4 => ?_⟩, fun x y p1 p2 p3 p4 => ?_⟩
  · rw [g1 x (by omega), g1 y (by omega)]; exact S1 x y p1 p2 (by omega)
  · rw [g2 x (by omega) (by omega), g2 y (by omega) (by omega)]; exact S2 _ _ (by omega) (by omega) (by omega)
  · rw [g1 x (by omega), g2 y (by omega) (by omega)]; exact T _ _ (by omega) (by omega) (by omega) (by omega)
  · rw [g3 x (by omega) (by omega), g3 y (by omega) (by omega)]; exact S1 _ _ (by omega) (by omega) (by omega)
  · rw [g4 x (by omega), g4 y (by omega)]; exact S2 _ _ (by omega) (by omega) (by omega)
  · rw [g3 x (by omega) (by omega), g4 y (by omega)]; exact T _ _ (by omega) (by omega) (by omega) (by omega)
  · by_cases c1 : x < s
    · rw [g1 x c1]
      by_cases c2 : y < e
      · rw [g3 y p3 c2]; exact S1 _ _ (by omega) (by omega) (by omega)
      · rw [g4 y (by omega)]
        rcases hA with hA | hA | hA
        · omega
        · omega
        · exact S1.step_l hW (y := s - 1) p1 (by omega) (by omega) (S2.step_r hW (x := e) (by omega) (by omega) p4 hA)
    · rw [g2 x (by omega) p2]
      by_cases c2 : y < e
      · rw [g3 y p3 c2]
        rcases hB with hB | hB | hB
        · omega
        · omega
        · exact S2.step_l hW (y := e - 1) (by omega) (by omega) (by omega) (S1.step_r hW (x := s) (by omega) (by omega) (by omega) hB)
      · rw [g4 y (by omega)]; exact S2 _ _ (by omega) (by omega) (by omega)
/-- One element, moved up through those that are ahead of it. -/
def shL (d : Array α) (a k x : Nat) : α := if a ≤ x ∧ x < k then d[x + 1]! else if x = k then d[a]! else d[x]!
theorem shL_zero (d : Array α) (a x : Nat) : d[x]! = shL d a a x := by
  unfold shL
  repeat' split
  all_goals first | (exfalso; omega) | rfl | (congr 1)
theorem shL_step {d dk : Array α} {a k : Nat} (hak : a ≤ k) (hs : dk.size = d.size) (hk : k + 1 < d.size) (h : ∀ x, dk[x]! = shL d a k x) (x : Nat) : (swp dk k (k + 1))[x]! = shL d a (k + 1) x := by
  rw [swp_get dk k (k + 1) x (by omega) (by omega)]
  simp only [h]
  unfold shL
  repeat' split
  all_goals first | (exfalso; omega) | rfl | (congr 1; omega)
theorem shL_srt (hW : SWO (ltOf cf)) {d d1 : Array α} {a i b : Nat} (hai : a < i) (hib : i ≤ b) (S : Srt cf tag d (a + 1) b) (h1 : ∀ h, a + 1 ≤ h → h < i → bef cf tag d[h]! d[a]!) (h2 : ∀ h, i ≤ h → h < b → bef cf tag d[a]! d[h]!) (hd : ∀ x, d1[x]! = shL d a (i - 1) x) : Srt cf tag d1 a b := fun x y p1 p2 p3 => by
  have g1 : ∀ x, a ≤ x → x < i - 1 → d1[x]! = d[x + 1]! := fun x hx hy => by rw [hd]; unfold shL; rw [if_pos (by omega)]
  have g2 : d1[i - 1]! = d[a]! := by rw [hd]; unfold shL; rw [if_neg (by omega), if_pos rfl]
  have g3 : ∀ x, i ≤ x → d1[x]! = d[x]! := fun x hx => by rw [hd]; unfold shL; rw [if_neg (by omega), if_neg (by omega)]
  by_cases c1 : x < i - 1
  · rw [g1 x p1 c1]
    by_cases c2 : y < i - 1
    · rw [g1 y (by omega) c2]; exact S _ _ (by omega) (by omega) (by omega)
    · by_cases c3 : y = i - 1
      · rw [c3, g2]; exact h1 _ (by omega) (by omega)
      · rw [g3 y (by omega)]; exact S _ _ (by omega) (by omega) (by omega)
  · by_cases c4 : x = i - 1
    · rw [c4, g2, g3 y (by omega)]; exact h2 _ (by omega) (by omega)
    · rw [g3 x (by omega), g3 y (by omega)]; exact S _ _ (by omega) (by omega) (by omega)
/-- One element, moved down through those that it is ahead of. -/
def shR (d : Array α) (m k x : Nat) : α := if k < x ∧ x ≤ m then d[x - 1]! else if x = k then d[m]! else d[x]!
theorem shR_zero (d : Array α) (m x : Nat) : d[x]! = shR d m m x := by
  unfold shR
  repeat' split
  all_goals first | (exfalso; omega) | rfl | (congr 1)
theorem shR_step {d dk : Array α} {m k : Nat} (hkm : k + 1 ≤ m) (hs : dk.size = d.size) (hm : m < d.size) (h : ∀ x, dk[x]! = shR d m (k + 1) x) (x : Nat) : (swp dk (k + 1) k)[x]! = shR d m k x := by
  rw [swp_get dk (k + 1) k x (by omega) (by omega)]
  simp only [h]
  unfold shR
  repeat' split
  all_goals first | (exfalso; omega) | rfl | (congr 1; omega)
theorem shR_srt (hW : SWO (ltOf cf)) {d d1 : Array α} {a i m : Nat} (hai : a ≤ i) (him : i ≤ m) (S : Srt cf tag d a m) (h1 : ∀ h, a ≤ h → h < i → bef cf tag d[h]! d[m]!) (h2 : ∀ h, i ≤ h → h < m → bef cf tag d[m]! d[h]!) (hd : ∀ x, d1[x]! = shR d m i x) : Srt cf tag d1 a (m + 1) := fun x y p1 p2 p3 => by
  have g1 : ∀ x, i < x → x ≤ m → d1[x]! = d[x - 1]! := fun x hx hy => by rw [hd]; unfold shR; rw [if_pos (by omega)]
  have g2 : d1[i]! = d[m]! := by rw [hd]; unfold shR; rw [if_neg (by omega), if_pos rfl]
  have g3 : ∀ x, x < i → d1[x]! = d[x]! := fun x hx => by rw [hd]; unfold shR; rw [if_neg (by omega), if_neg (by omega)]
  by_cases c1 : x < i
  · rw [g3 x c1]
    by_cases c2 : y < i
    · rw [g3 y c2]; exact S _ _ (by omega) (by omega) (by omega)
    · by_cases c3 : y = i
      · rw [c3, g2]; exact h1 _ (by omega) (by omega)
      · rw [g1 y (by omega) (by omega)]; exact S _ _ (by omega) (by omega) (by omega)
  · by_cases c4 : x = i
    · rw [c4, g2, g1 y (by omega) (by omega)]; exact h2 _ (by omega) (by omega)
    · rw [g1 x (by omega) (by omega), g1 y (by omega) (by omega)]; exact S _ _ (by omega) (by omega) (by omega)
/-- Behind both halves. -/
theorem sym_done {d1 d2 d3 : Array α} {a mid b : Nat} (ham : a ≤ mid) (hmb : mid ≤ b) (hb : b ≤ d1.size) (h : ∀ x y, a ≤ x → x < mid → mid ≤ y → y < b → bef cf tag d1[x]! d1[y]!) (P2 : PermIn a mid d1 d2) (S2 : Srt cf tag d2 a mid) (P3 : PermIn mid b d2 d3) (S3 : Srt cf tag d3 mid b) : Srt cf tag d3 a b := by
  have q2 : ∀ x, x < a ∨ mid ≤ x → d2[x]! = d1[x]! := P2.2.1
  have q3 : ∀ x, x < mid ∨ b ≤ x → d3[x]! = d2[x]! := P3.2.1
  have e2 : ∀ x, a ≤ x → x < mid → ∀ y, mid ≤ y → y < b → bef cf tag d2[x]! d2[y]! := fun x hx hxm y hy hyb => by
    rw [q2 y (.inr hy)]
    exact permIn_all d1 d2 a mid (fun z => bef cf tag z d1[y]!) (by omega) P2 (fun i hi hi2 => h i y hi hi2 hy hyb) x hx hxm
  refine Srt.join (m := mid) (fun x y p1 p2 p3 => ?_) S3 (fun x y p1 p2 p3 p4 => ?_)
  · rw [q3 x (.inl (by omega)), q3 y (.inl p3)]; exact S2 x y p1 p2 p3
  · rw [q3 x (.inl p2)]
    exact permIn_all d2 d3 mid b (fun z => bef cf tag d2[x]! z) (by rw [P2.1]; exact hb) P3 (fun i hi hi2 => e2 x p1 p2 i hi hi2) y p3 p4
theorem Tg.sub {d : Array α} {a m b a' b' : Nat} (h : Tg tag d a m b) (ha : a ≤ a') (hb : b' ≤ b) : Tg tag d a' m b' := fun x y h1 h2 h3 h4 => h x y (by omega) h2 h3 (by omega)
/-- The search in the middle of a merge: to the left. -/
theorem sym_lo (hW : SWO (ltOf cf)) {d : Array α} {a m b p c : Nat} (S1 : Srt cf tag d a m) (S2 : Srt cf tag d m b) (T : Tg tag d a m b) (hc : c < m) (hq : m ≤ p - c) (hac : a ≤ c) (h : ¬ cf d[p - c]! d[c]! < 0) (x : Nat) (hx : a ≤ x) (hxc : x ≤ c) (hpb : p - x < b) : bef cf tag d[x]! d[p - x]! :=
  S1.step_l hW (y := c) hx hxc hc (S2.step_r hW (x := p - c) hq (by omega) hpb (bef_ge (T c (p - c) hac hc hq (by omega)) h))
theorem sym_hi (hW : SWO (ltOf cf)) {d : Array α} {a m b p c : Nat} (S1 : Srt cf tag d a m) (S2 : Srt cf tag d m b) (hac : a ≤ c) (hqb : p - c < b) (h : cf d[p - c]! d[c]! < 0) (x : Nat) (hx : c ≤ x) (hxm : x < m) (hpx : m ≤ p - x) : bef cf tag d[p - x]! d[x]! :=
  S2.step_l hW (y := p - c) hpx (by omega) hqb (S1.step_r hW (x := c) hac hx hxm (bef_lt h))
theorem Srt.keep {d d' : Array α} {a b : Nat} (h : Srt cf tag d a b) (hk : ∀ x, a ≤ x → x < b → d'[x]! = d[x]!) : Srt cf tag d' a b := fun x y p1 p2 p3 => by
  rw [hk x p1 (by omega), hk y (by omega) p3]
  exact h x y p1 p2 p3
theorem Tg.keep {d d' : Array α} {a m b : Nat} (h : Tg tag d a m b) (hk : ∀ x, a ≤ x → x < b → d'[x]! = d[x]!) : Tg tag d' a m b := fun x y p1 p2 p3 p4 => by
  rw [hk x p1 (by omega), hk y (by omega) p4]
  exact h x y p1 p2 p3 p4
end Go.Proofs.YtioekhiaoajgfaaGreat.Ss
end
