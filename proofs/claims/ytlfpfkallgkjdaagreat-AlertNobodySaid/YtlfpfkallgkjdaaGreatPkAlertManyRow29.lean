/- A stable sort: what a merge needs. (No program in sight.) -/
import Derived.Test.YtlfpfkallgkjdaaGreatPkAlertManyRow28
section
namespace Go.Proofs.YtlfpfkallgkjdaaGreat.Ss
open Go.Sort Go.Proofs
set_option linter.unusedVariables false
set_option linter.unusedSectionVars false
variable {α : Type} [Inhabited α] (cf : α → α → Int) (tag : α → Nat)

/-- Ahead: less, or not more and of a smaller tag. -/
def bef (x y : α) : Prop := cf x y < 0 ∨ (¬ cf y x < 0 ∧ tag x < tag y)
variable {cf tag}
theorem lt_false {x y : α} : ltOf cf x y = false ↔ ¬ cf x y < 0 := by
  unfold ltOf
  exact decide_eq_false_iff_not
theorem lt_true {x y : α} : ltOf cf x y = true ↔ cf x y < 0 := by
  unfold ltOf
  exact decide_eq_true_iff
theorem bef_trans (hW : SWO (ltOf cf)) {x y z : α} (h1 : bef cf tag x y) (h2 : bef cf tag y z) : bef cf tag x z := by
  rcases h1 with h1 | ⟨h1, t1⟩
  · rcases h2 with h2 | ⟨h2, t2⟩
    · exact .inl (lt_true.1 (hW.trans _ _ _ (lt_true.2 h1) (lt_true.2 h2)))
    · refine .inl (Classical.byContradiction fun h => ?_)
      exact lt_false.1 (hW.ntrans x z y (lt_false.2 h) (lt_false.2 h2)) h1
  · rcases h2 with h2 | ⟨h2, t2⟩
    · refine .inl (Classical.byContradiction fun h => ?_)
      exact lt_false.1 (hW.ntrans y x z (lt_false.2 h1) (lt_false.2 h)) h2
    · exact .inr ⟨lt_false.1 (hW.ntrans z y x (lt_false.2 h2) (lt_false.2 h1)), by omega⟩
theorem bef_lt {x y : α} (h : cf x y < 0) : bef cf tag x y := .inl h
theorem bef_ge {x y : α} (ht : tag y < tag x) (h : ¬ cf x y < 0) : bef cf tag y x := .inr ⟨h, ht⟩
variable (cf tag)
def Srt (d : Array α) (a b : Nat) : Prop := ∀ x y, a ≤ x → x < y → y < b → bef cf tag d[x]! d[y]!
def Tg (d : Array α) (a m b : Nat) : Prop := ∀ x y, a ≤ x → x < m → m ≤ y → y < b → tag d[x]! < tag d[y]!
variable {cf tag}
/-- At or ahead, then ahead. -/
theorem Srt.step_l (hW : SWO (ltOf cf)) {d : Array α} {a b x y : Nat} {z : α} (h : Srt cf tag d a b) (ha : a ≤ x) (hxy : x ≤ y) (hb : y < b) (hz : bef cf tag d[y]! z) : bef cf tag d[x]! z := by
  rcases Nat.lt_or_ge x y with hlt | hge
  · exact bef_trans hW (h x y ha hlt hb) hz
  · obtain rfl : x = y := by omega
    exact hz
theorem Srt.step_r (hW : SWO (ltOf cf)) {d : Array α} {a b x y : Nat} {z : α} (h : Srt cf tag d a b) (ha : a ≤ x) (hxy : x ≤ y) (hb : y < b) (hz : bef cf tag z d[x]!) : bef cf tag z d[y]! := by
  rcases Nat.lt_or_ge x y with hlt | hge
  · exact bef_trans hW hz (h x y ha hlt hb)
  · obtain rfl : x = y := by omega
    exact hz
theorem Srt.sub {d : Array α} {a b a' b' : Nat} (h : Srt cf tag d a b) (ha : a ≤ a') (hb : b' ≤ b) : Srt cf tag d a' b' := fun x y h1 h2 h3 => h x y (by omega) h2 (by omega)
theorem Srt.one (d : Array α) {a b : Nat} (h : b ≤ a + 1) : Srt cf tag d a b := fun x y h1 h2 h3 => by omega
/-- Two sorted parts, the first ahead of the second. -/
theorem Srt.join {d : Array α} {a m b : Nat} (h1 : Srt cf tag d a m) (h2 : Srt cf tag d m b) (h3 : ∀ x y, a ≤ x → x < m → m ≤ y → y < b → bef cf tag d[x]! d[y]!) : Srt cf tag d a b := fun x y hx hxy hy => by
  by_cases c1 : y < m
  · exact h1 x y hx hxy c1
  · by_cases c2 : x < m
    · exact h3 x y hx c2 (by omega) hy
    · exact h2 x y (by omega) hxy hy
theorem rot_id (d : Array α) (s m e : Nat) (h : s = m ∨ e = m) (hs : s ≤ m) (he : m ≤ e) (x : Nat) : d[x]! = rotR d s m e x := by
  unfold rotR
  rcases h with rfl | rfl
  · repeat' split
    all_goals first | (exfalso; omega) | rfl | (congr 1; omega)
  · repeat' split
    all_goals first | (exfalso; omega) | rfl | (congr 1; omega)
/-- What stands behind the rotation in the middle of a merge. -/
theorem sym_split (hW : SWO (ltOf cf)) {d d1 : Array α} {a m b mid s e : Nat} (h1 : a ≤ s) (h2 : s ≤ m) (h3 : m ≤ e) (h4 : e ≤ b) (h5 : s ≤ mid) (h6 : mid ≤ e) (h7 : mid + m = s + e) (S1 : Srt cf tag d a m) (S2 : Srt cf tag d m b) (T : Tg tag d a m b)
    (hA : s = a ∨ e = b ∨ bef cf tag d[s - 1]! d[e]!) (hB : s = m ∨ e = m ∨ bef cf tag d[e - 1]! d[s]!) (hd : ∀ x, d1[x]! = rotR d s m e x) :
    (Srt cf tag d1 a s ∧ Srt cf tag d1 s mid ∧ Tg tag d1 a s mid) ∧ (Srt cf tag d1 mid e ∧ Srt cf tag d1 e b ∧ Tg tag d1 mid e b) ∧ (∀ x y, a ≤ x → x < mid → mid ≤ y → y < b → bef cf tag d1[x]! d1[y]!) := by
  have g1 : ∀ x, x < s → d1[x]! = d[x]! := fun x hx => by rw [hd]; unfold rotR; rw [if_neg (by omega), if_neg (by omega)]
  have g2 : ∀ x, s ≤ x → x < mid → d1[x]! = d[x + (m - s)]! := fun x hx hy => by rw [hd]; unfold rotR; rw [if_pos (by omega)]
  have g3 : ∀ x, mid ≤ x → x < e → d1[x]! = d[x - (e - m)]! := fun x hx hy => by rw [hd]; unfold rotR; rw [if_neg (by omega), if_pos (by omega)]
  have g4 : ∀ x, e ≤ x → d1[x]! = d[x]! := fun x hx => by rw [hd]; unfold rotR; rw [if_neg (by omega), if_neg (by omega)]
  refine ⟨⟨fun x y p1 p2 p3 => ?_, fun x y p1 p2 p3 => ?_, fun x y p1 p2 p3 p4 => ?_⟩, ⟨fun x y p1 p2 p3 => ?_, fun x y p1 p2 p3 => ?_, fun x y p1 p2 p3 p4 => ?_⟩, fun x y p1 p2 p3 p4 => ?_⟩
  · rw [g1 x (by omega), g1 y (by omega)]; exact S1 x y p1 p2 (by omega)
  · rw [g2 x (by omega) (by omega), g2 y (by omega) (by omega)]; exact S2 _ _ (by omega) (by omega) (by omega)
  · rw [g1 x (by omega), g2 y (by omega) (by omega)]; exact T _ _ (by omega) (by omega) (by omega) (by omega)
  · rw [g3 x (by omega) (by omega), g3 y (by omega) (by omega)]; exact S1 _ _ (by omega) (by omega) (by omega)
  · rw [g4 x (by omega), g4 y (by omega)]; exact S2 _ _ (by omega) (by omega) (by omega)
  · rw [g3 x (by omega) (by omega), g4 y (by omega)]; exact T _ _ (by omega) (by omega) (by omega) (by omega)
  · by_cases c1 : x < s
    · rw [g1 x c1]
      by_cases c2 : y < e
      · rw [g3 y p3 c2]; exact S1 _ _ (by omega) (by omega) (by omega)
      · rw [g4 y (by omega)]
        rcases hA with hA | hA | hA
        · omega
        · omega
        · exact S1.step_l hW (y := s - 1) p1 (by omega) (by omega) (S2.step_r hW (x := e) (by omega) (by omega) p4 hA)
    · rw [g2 x (by omega) p2]
      by_cases c2 : y < e
      · rw [g3 y p3 c2]
        rcases hB with hB | hB | hB
        · omega
        · omega
        · exact S2.step_l hW (y := e - 1) (by omega) (by omega) (by omega) (S1.step_r hW (x := s) (by omega) (by omega) (by omega) hB)
      · rw [g4 y (by omega)]; exact S2 _ _ (by omega) (by omega) (by omega)
/-- One element, moved up through those that are ahead of it. -/
def shL (d : Array α) (a k x : Nat) : α := if a ≤ x ∧ x < k then d[x + 1]! else if x = k then d[a]! else d[x]!
theorem shL_zero (d : Array α) (a x : Nat) : d[x]! = shL d a a x := by
  unfold shL
  repeat' split
  all_goals first | (exfalso; omega) | rfl | (congr 1)
theorem shL_step {d dk : Array α} {a k : Nat} (hak : a ≤ k) (hs : dk.size = d.size) (hk : k + 1 < d.size) (h : ∀ x, dk[x]! = shL d a k x) (x : Nat) : (swp dk k (k + 1))[x]! = shL d a (k + 1) x := by
  rw [swp_get dk k (k + 1) x (by omega) (by omega)]
  simp only [h]
  unfold shL
  repeat' split
  all_goals first | (exfalso; omega) | rfl | (congr 1; omega)
theorem shL_srt (hW : SWO (ltOf cf)) {d d1 : Array α} {a i b : Nat} (hai : a < i) (hib : i ≤ b) (S : Srt cf tag d (a + 1) b) (h1 : ∀ h, a + 1 ≤ h → h < i → bef cf tag d[h]! d[a]!) (h2 : ∀ h, i ≤ h → h < b → bef cf tag d[a]! d[h]!) (hd : ∀ x, d1[x]! = shL d a (i - 1) x) : Srt cf tag d1 a b := fun x y p1 p2 p3 => by
  have g1 : ∀ x, a ≤ x → x < i - 1 → d1[x]! = d[x + 1]! := fun x hx hy => by rw [hd]; unfold shL; rw [if_pos (by omega)]
  have g2 : d1[i - 1]! = d[a]! := by rw [hd]; unfold shL; rw [if_neg (by omega), if_pos rfl]
  have g3 : ∀ x, i ≤ x → d1[x]! = d[x]! := fun x hx => by rw [hd]; unfold shL; rw [if_neg (by omega), if_neg (by omega)]
  by_cases c1 : x < i - 1
  · rw [g1 x p1 c1]
    by_cases c2 : y < i - 1
    · rw [g1 y (by omega) c2]; exact S _ _ (by omega) (by omega) (by omega)
    · by_cases c3 : y = i - 1
      · rw [c3, g2]; exact h1 _ (by omega) (by omega)
      · rw [g3 y (by omega)]; exact S _ _ (by omega) (by omega) (by omega)
  · by_cases c4 : x = i - 1
    · rw [c4, g2, g3 y (by omega)]; exact h2 _ (by omega) (by omega)
    · rw [g3 x (by omega), g3 y (by omega)]; exact S _ _ (by omega) (by omega) (by omega)
/-- One element, moved down through those that it is ahead of. -/
def shR (d : Array α) (m k x : Nat) : α := if k < x ∧ x ≤ m then d[x - 1]! else if x = k then d[m]! else d[x]!
theorem shR_zero (d : Array α) (m x : Nat) : d[x]! = shR d m m x := by
  unfold shR
  repeat' split
  all_goals first | (exfalso; omega) | rfl | (congr 1)
theorem shR_step {d dk : Array α} {m k : Nat} (hkm : k + 1 ≤ m) (hs : dk.size = d.size) (hm : m < d.size) (h : ∀ x, dk[x]! = shR d m (k + 1) x) (x : Nat) : (swp dk (k + 1) k)[x]! = shR d m k x := by
  rw [swp_get dk (k + 1) k x (by omega) (by omega)]
  simp only [h]
  unfold shR
  repeat' split
  all_goals first | (exfalso; omega) | rfl | (congr 1; omega)
theorem shR_srt (hW : SWO (ltOf cf)) {d d1 : Array α} {a i m : Nat} (hai : a ≤ i) (him : i ≤ m) (S : Srt cf tag d a m) (h1 : ∀ h, a ≤ h → h < i → bef cf tag d[h]! d[m]!) (h2 : ∀ h, i ≤ h → h < m → bef cf tag d[m]! d[h]!) (hd : ∀ x, d1[x]! = shR d m i x) : Srt cf tag d1 a (m + 1) := fun x y p1 p2 p3 => by
  have g1 : ∀ x, i < x → x ≤ m → d1[x]! = d[x - 1]! := fun x hx hy => by rw [hd]; unfold shR; rw [if_pos (by omega)]
  have g2 : d1[i]! = d[m]! := by rw [hd]; unfold shR; rw [if_neg (by omega), if_pos rfl]
  have g3 : ∀ x, x < i → d1[x]! = d[x]! := fun x hx => by rw [hd]; unfold shR; rw [if_neg (by omega), if_neg (by omega)]
  by_cases c1 : x < i
  · rw [g3 x c1]
    by_cases c2 : y < i
    · rw [g3 y c2]; exact S _ _ (by omega) (by omega) (by omega)
    · by_cases c3 : y = i
      · rw [c3, g2]; exact h1 _ (by omega) (by omega)
      · rw [g1 y (by omega) (by omega)]; exact S _ _ (by omega) (by omega) (by omega)
  · by_cases c4 : x = i
    · rw [c4, g2, g1 y (by omega) (by omega)]; exact h2 _ (by omega) (by omega)
    · rw [g1 x (by omega) (by omega), g1 y (by omega) (by omega)]; exact S _ _ (by omega) (by omega) (by omega)
/-- Behind both halves. -/
theorem sym_done {d1 d2 d3 : Array α} {a mid b : Nat} (ham : a ≤ mid) (hmb : mid ≤ b) (hb : b ≤ d1.size) (h : ∀ x y, a ≤ x → x < mid → mid ≤ y → y < b → bef cf tag d1[x]! d1[y]!) (P2 : PermIn a mid d1 d2) (S2 : Srt cf tag d2 a mid) (P3 : PermIn mid b d2 d3) (S3 : Srt cf tag d3 mid b) : Srt cf tag d3 a b := by
  have q2 : ∀ x, x < a ∨ mid ≤ x → d2[x]! = d1[x]! := P2.2.1
  have q3 : ∀ x, x < mid ∨ b ≤ x → d3[x]! = d2[x]! := P3.2.1
  have e2 : ∀ x, a ≤ x → x < mid → ∀ y, mid ≤ y → y < b → bef cf tag d2[x]! d2[y]! := fun x hx hxm y hy hyb => by
    rw [q2 y (.inr hy)]
    exact permIn_all d1 d2 a mid (fun z => bef cf tag z d1[y]!) (by omega) P2 (fun i hi hi2 => h i y hi hi2 hy hyb) x hx hxm
  refine Srt.join (m := mid) (fun x y p1 p2 p3 => ?_) S3 (fun x y p1 p2 p3 p4 => ?_)
  · rw [q3 x (.inl (by omega)), q3 y (.inl p3)]; exact S2 x y p1 p2 p3
  · rw [q3 x (.inl p2)]
    exact permIn_all d2 d3 mid b (fun z => bef cf tag d2[x]! z) (by rw [P2.1]; exact hb) P3 (fun i hi hi2 => e2 x p1 p2 i hi hi2) y p3 p4
theorem Tg.sub {d : Array α} {a m b a' b' : Nat} (h : Tg tag d a m b) (ha : a ≤ a') (hb : b' ≤ b) : Tg tag d a' m b' := fun x y h1 h2 h3 h4 => h x y (by omega) h2 h3 (by omega)
/-- The search in the middle of a merge: to the left. -/
theorem sym_lo (hW : SWO (ltOf cf)) {d : Array α} {a m b p c : Nat} (S1 : Srt cf tag d a m) (S2 : Srt cf tag d m b) (T : Tg tag d a m b) (hc : c < m) (hq : m ≤ p - c) (hac : a ≤ c) (h : ¬ cf d[p - c]! d[c]! < 0) (x : Nat) (hx : a ≤ x) (hxc : x ≤ c) (hpb : p - x < b) : bef cf tag d[x]! d[p - x]! :=
  S1.step_l hW (y := c) hx hxc hc (S2.step_r hW (x := p - c) hq (by omega) hpb (bef_ge (T c (p - c) hac hc hq (by omega)) h))
theorem sym_hi (hW : SWO (ltOf cf)) {d : Array α} {a m b p c : Nat} (S1 : Srt cf tag d a m) (S2 : Srt cf tag d m b) (hac : a ≤ c) (hqb : p - c < b) (h : cf d[p - c]! d[c]! < 0) (x : Nat) (hx : c ≤ x) (hxm : x < m) (hpx : m ≤ p - x) : bef cf tag d[p - x]! d[x]! :=
  S2.step_l hW (y := p - c) hpx (by omega) hqb (S1.step_r hW (x := c) hac hx hxm (bef_lt h))
theorem Srt.keep {d d' : Array α} {a b : Nat} (h : Srt cf tag d a b) (hk : ∀ x, a ≤ x → x < b → d'[x]! = d[x]!) : Srt cf tag d' a b := fun x y p1 p2 p3 => by
  rw [hk x p1 (by omega), hk y (by omega) p3]
  exact h x y p1 p2 p3
theorem Tg.keep {d d' : Array α} {a m b : Nat} (h : Tg tag d a m b) (hk : ∀ x, a ≤ x → x < b → d'[x]! = d[x]!) : Tg tag d' a m b := fun x y p1 p2 p3 p4 => by
  rw [hk x p1 (by omega), hk y (by omega) p4]
  exact h x y p1 p2 p3 p4
end Go.Proofs.YtlfpfkallgkjdaaGreat.Ss
end

section
/- slices.symMergeCmpFunc at elements of two cells: a run of one element (printed by gen_ssc.py). -/
namespace Go.Proofs.YtlfpfkallgkjdaaGreat.Ss
open Go.Shelf Go.RowKit Go.Lib Go.Sort
set_option maxRecDepth 20000
set_option linter.unusedVariables false
set_option linter.unusedSimpArgs false
set_option linter.unusedSectionVars false
variable {α : Type} [Inhabited α] {enc : α → List Value} {cf : α → α → Int} {tag : α → Nat}

/-- What a merge leaves. -/
def MPost (enc : α → List Value) (cf : α → α → Int) (tag : α → Nat) (k : Nat) (w0 : World) (blk off : Nat) (d : Array α) (a b : Nat) (e : Ending) (w' : World) : Prop :=
  e = .returned (.tuple #[]) ∧ ∃ d', SWK enc k w0 blk off d' w' ∧ d'.size = d.size ∧ PermIn a b d d' ∧ Srt cf tag d' a b

set_option maxHeartbeats 2000000 in
set_option maxRecDepth 1000000 in
theorem symL_any (hW : SWO (ltOf cf)) (k : Nat) (hk2 : k = 2) (g : Nat) (cb : Array Value) (blk off cap a m b : Nat) (hm : m = a + 1) (d0 d : Array α) (w0 w : World) (eg : ∀ args w, (callFunc g args).run Tryz.prog w = .ok (.enter g args) w) (hC : CmpLays Tryz.prog g cb enc k cf blk off d0.size w0)
    (R : RowK enc k w0 blk off d0) (hs : d.size = d0.size) (S : SWK enc k w0 blk off d w) (hb : b ≤ d.size) (hab : a + 1 < b) (hsz : d.size < 1099511627776) (hS2 : Srt cf tag d (a + 1) b) (hT : ∀ y, a + 1 ≤ y → y < b → tag d[a]! < tag d[y]!) :
    Calls Tryz.prog 151 #[.slice (some ⟨blk, off, none⟩) d.size cap, .int .i64 a, .int .i64 m, .int .i64 b, .func (.func g) #[] cb] w (MPost enc cf tag k w0 blk off d a b) := by
  have zE : ∀ w, (Go.sizeOf 105).run Tryz.prog w = .ok k w := by rw [hk2]; exact Tryz.sizeOf105
  have mixed : Tryz.prog.follows Departure.mixedOrders = true := by kernel_rfl
  have S0 : Aside (SWK enc k w0 blk off d w) := S
  have HC : Aside _ := hC
  have HS := Lib.hid hs
  have HS2 := Lib.hid hS2
  have HT := Lib.hid hT
  have e1 : (m : Int) - (a : Int) = 1 := by omega
  have e2 : ((m : Int) - (a : Int) = 1) = True := eq_true e1
  have hm1 : a + 1 ≤ m := by omega
  have hm2 : m ≤ a + 1 := by omega
  clear S hk2 hs hC hS2 hT hm
  go_enter Tryz.func151, Tryz.ntmps151
  go_wp2
  go_loopw [10, 11] (fun vi vj wr => ∃ (i j : Nat), m ≤ i ∧ i ≤ j ∧ j ≤ b ∧ vi = .int .i64 (i : Nat) ∧ vj = .int .i64 (j : Nat) ∧ Aside (SWK enc k w0 blk off d wr) ∧ Hid (∀ h, a + 1 ≤ h → h < i → bef cf tag d[h]! d[a]!) ∧ Hid (∀ h, j ≤ h → h < b → bef cf tag d[a]! d[h]!)) (fun vi vj _ => (intOf vj).toNat - (intOf vi).toNat)
  case atStart => exact ⟨m, b, Nat.le_refl _, by omega, Nat.le_refl _, rfl, rfl, S0, Lib.hid (fun h _ _ => by omega), Lib.hid (fun h _ _ => by omega)⟩
  case round =>
    clear S0
    obtain ⟨i, j, hi, hij, hjb, rfl, rfl, S1, H1, H2⟩ := hrel
    by_cases hlt : i < j
    · have hji : (i : Int) < (j : Int) := by omega
      have n1 : (0 : Int) ≤ ((i : Int) + (j : Int)) / 2 := by omega
      have n2 : ((i : Int) + (j : Int)) / 2 < (d.size : Int) := by omega
      have n3 : (((i : Int) + (j : Int)) / 2).toNat = (i + j) / 2 := by omega
      have n4 : (a : Int) < (d.size : Int) := by omega
      have SG : Aside (∀ n os, SWK enc k w0 blk off d (grow (wr.drewN n) os)) := fun n os => S1.out.grown n os
      have l1 := fun n' os' => S1.out.ld R HS.out Tryz.prog ((i + j) / 2) (by omega) n' os'
      have l2 := fun n' os' => S1.out.ld R HS.out Tryz.prog (a) (by omega) n' os'
      have hcg := fun n' os' => S1.out.cmp HC.out HS.out d[(i + j) / 2]! d[a]! n' os'
      have F1 : Hid (cf d[(i + j) / 2]! d[a]! < 0 → ∀ h, a + 1 ≤ h → h < (i + j) / 2 + 1 → bef cf tag d[h]! d[a]!) := Lib.hid (fun hc h p1 p2 => HS2.out.step_l hW (y := (i + j) / 2) p1 (by omega) (by omega) (bef_lt hc))
      have F2 : Hid (¬ cf d[(i + j) / 2]! d[a]! < 0 → ∀ h, (i + j) / 2 ≤ h → h < b → bef cf tag d[a]! d[h]!) := Lib.hid (fun hc h p1 p2 => HS2.out.step_r hW (x := (i + j) / 2) (by omega) p1 p2 (bef_ge (HT.out _ (by omega) (by omega)) hc))
      obtain ⟨xp, hxp⟩ : ∃ x, d[(i + j) / 2]! = x := ⟨_, rfl⟩
      obtain ⟨xq, hxq⟩ : ∃ x, d[a]! = x := ⟨_, rfl⟩
      rw [hxp] at l1
      rw [hxq] at l2
      rw [hxp, hxq] at hcg
      rw [hxp, hxq] at F1 F2
      have HX : Hid (d[(i + j) / 2]! = xp ∧ d[a]! = xq) := Lib.hid ⟨hxp, hxq⟩
      clear hxp hxq
      clear S1
      by_cases hlv : cf xp xq < 0
      · have N1 : Hid (∀ h, a + 1 ≤ h → h < (i + j) / 2 + 1 → bef cf tag d[h]! d[a]!) := Lib.hid (by rw [HX.out.2]; exact F1.out hlv)
        clear F1 F2
        go_wp2_with fail
        go_quiet_grown (first | (go_at_fn g; refine Calls.grown_of (hcg _ _)))
        have S3 : Aside (SWK enc k w0 blk off d (grow (wr.drewN nq) osq)) := SG.out nq osq
        generalize grow (wr.drewN nq) osq = w3 at S3 ⊢
        clear l1 l2 hcg SG
        go_wp2
        go_roundw
        case rel => exact ⟨(i + j) / 2 + 1, j, by omega, by omega, by omega, by go_num, rfl, S3, N1, H2⟩
        case measure => simp [intOf]; omega
      · have N2 : Hid (∀ h, (i + j) / 2 ≤ h → h < b → bef cf tag d[a]! d[h]!) := Lib.hid (by rw [HX.out.2]; exact F2.out hlv)
        clear F1 F2
        go_wp2_with fail
        go_quiet_grown (first | (go_at_fn g; refine Calls.grown_of (hcg _ _)))
        have S3 : Aside (SWK enc k w0 blk off d (grow (wr.drewN nq) osq)) := SG.out nq osq
        generalize grow (wr.drewN nq) osq = w3 at S3 ⊢
        clear l1 l2 hcg SG
        go_wp2
        go_roundw
        case rel => exact ⟨i, (i + j) / 2, by omega, by omega, by omega, rfl, by go_num, S3, H1, N2⟩
        case measure => simp [intOf]; omega
    · obtain rfl : i = j := by omega
      have HF : Hid (∀ d1 : Array α, (∀ x, d1[x]! = shL d a (i - 1) x) → Srt cf tag d1 a b) := Lib.hid (fun d1 hd => shL_srt hW (by omega) hjb HS2.out H1.out H2.out hd)
      clear H1 H2
      go_wp2_with fail
      go_loopw [13] (fun vk wr => ∃ (x : Nat) (dk : Array α), a ≤ x ∧ x + 1 ≤ i ∧ vk = .int .i64 (x : Nat) ∧ Aside (SWK enc k w0 blk off dk wr) ∧ dk.size = d.size ∧ Hid (PermIn a b d dk) ∧ Hid (∀ y, dk[y]! = shL d a x y)) (fun vk _ => i - (intOf vk).toNat)
      case atStart => exact ⟨a, d, Nat.le_refl _, by omega, rfl, S1, rfl, Lib.hid (permIn_refl _ _ _), Lib.hid (fun y => shL_zero d a y)⟩
      case round =>
        clear S1
        obtain ⟨x, dk, hax, hxi, rfl, S1, hds, HP, HX⟩ := hrel
        by_cases hxl : x + 1 < i
        · have hxz : (x : Int) < (i : Int) - 1 := by omega
          have n0 : (0 : Int) ≤ (x : Int) := by omega
          have n1 : (0 : Int) ≤ (x : Int) + 1 := by omega
          have n2 : (x : Int) + 1 < (d.size : Int) := by omega
          have n3 : (x : Int) < (d.size : Int) := by omega
          have n5 : ((x : Int) + 1).toNat = x + 1 := by omega
          have S2 : Aside (SWK enc k w0 blk off (swp dk (x) (x + 1)) ((wr.drew.setCells blk (off + (x) * k) (enc dk[x + 1]!)).setCells blk (off + (x + 1) * k) (enc dk[x]!))) := S1.out.swapped R (x) (x + 1) (by omega) (by omega)
          have l44a := S1.out.ld1 R (hds.trans HS.out) Tryz.prog (x) (by omega)
          have l44b := S1.out.ld1 R (hds.trans HS.out) Tryz.prog (x + 1) (by omega)
          have s44a := S1.out.st1 R (hds.trans HS.out) Tryz.prog (x) (by omega) dk[x + 1]!
          have s44b := S1.out.st2 R (hds.trans HS.out) Tryz.prog (x) (x + 1) (by omega) (by omega) dk[x + 1]! dk[x]!
          have n44a : (enc dk[x]!).length = k := R.hk _
          have n44b : (enc dk[x + 1]!).length = k := R.hk _
          have HP2 : Hid (PermIn a b d (swp dk x (x + 1))) := Lib.hid (permIn_trans _ _ _ _ _ HP.out (swp_permIn dk a b x (x + 1) (by omega) (by omega) (by omega) (by omega) (by omega)))
          have HX2 : Hid (∀ y, (swp dk x (x + 1))[y]! = shL d a (x + 1) y) := Lib.hid (shL_step hax hds (by omega) HX.out)
          generalize enc dk[x]! = cI44 at S2 l44a s44b n44a
          generalize enc dk[x + 1]! = cJ44 at S2 l44b s44a s44b n44b
          clear S1 HP HX
          go_wp2_with fail
          go_big_region_o
          clear l44a l44b s44a s44b
          generalize (wr.drew.setCells blk (off + (x) * k) cJ44).setCells blk (off + (x + 1) * k) cI44 = w2 at S2 ⊢
          go_wp2
          go_roundw
          case rel => exact ⟨x + 1, swp dk x (x + 1), by omega, by omega, by go_num, S2, by rw [size_swp]; exact hds, HP2, HX2⟩
          case measure => simp [intOf]; omega
        · have hxz : ¬ (x : Int) < (i : Int) - 1 := by omega
          have Fin := Lib.hid (HF.out dk (by rw [show i - 1 = x by omega]; exact HX.out))
          go_wp2
          go_end0
          exact ⟨rfl, dk, S1.out, hds, HP.out, Fin.out⟩

set_option maxHeartbeats 2000000 in
set_option maxRecDepth 1000000 in
theorem symR_any (hW : SWO (ltOf cf)) (k : Nat) (hk2 : k = 2) (g : Nat) (cb : Array Value) (blk off cap a m b : Nat) (hm : b = m + 1) (d0 d : Array α) (w0 w : World) (eg : ∀ args w, (callFunc g args).run Tryz.prog w = .ok (.enter g args) w) (hC : CmpLays Tryz.prog g cb enc k cf blk off d0.size w0)
    (R : RowK enc k w0 blk off d0) (hs : d.size = d0.size) (S : SWK enc k w0 blk off d w) (hb : b ≤ d.size) (hab : a + 1 < m) (hsz : d.size < 1099511627776) (hS2 : Srt cf tag d a m) (hT : ∀ y, a ≤ y → y < m → tag d[y]! < tag d[m]!) :
    Calls Tryz.prog 151 #[.slice (some ⟨blk, off, none⟩) d.size cap, .int .i64 a, .int .i64 m, .int .i64 b, .func (.func g) #[] cb] w (MPost enc cf tag k w0 blk off d a b) := by
  have zE : ∀ w, (Go.sizeOf 105).run Tryz.prog w = .ok k w := by rw [hk2]; exact Tryz.sizeOf105
  have mixed : Tryz.prog.follows Departure.mixedOrders = true := by kernel_rfl
  have S0 : Aside (SWK enc k w0 blk off d w) := S
  have HC : Aside _ := hC
  have HS := Lib.hid hs
  have HS2 := Lib.hid hS2
  have HT := Lib.hid hT
  have e1 : ((m : Int) - (a : Int) = 1) = False := eq_false (by omega)
  have e1' : ((m : Int) - (a : Int) == 1) = false := by simp; omega
  have e2 : (b : Int) - (m : Int) = 1 := by omega
  have hm1 : m + 1 ≤ b := by omega
  have hm2 : b ≤ m + 1 := by omega
  clear S hk2 hs hC hS2 hT hm
  go_enter Tryz.func151, Tryz.ntmps151
  go_wp2
  go_loopw [14, 15] (fun vi vj wr => ∃ (i j : Nat), a ≤ i ∧ i ≤ j ∧ j ≤ m ∧ vi = .int .i64 (i : Nat) ∧ vj = .int .i64 (j : Nat) ∧ Aside (SWK enc k w0 blk off d wr) ∧ Hid (∀ h, a ≤ h → h < i → bef cf tag d[h]! d[m]!) ∧ Hid (∀ h, j ≤ h → h < m → bef cf tag d[m]! d[h]!)) (fun vi vj _ => (intOf vj).toNat - (intOf vi).toNat)
  case atStart => exact ⟨a, m, Nat.le_refl _, by omega, Nat.le_refl _, rfl, rfl, S0, Lib.hid (fun h _ _ => by omega), Lib.hid (fun h _ _ => by omega)⟩
  case round =>
    clear S0
    obtain ⟨i, j, hi, hij, hjb, rfl, rfl, S1, H1, H2⟩ := hrel
    by_cases hlt : i < j
    · have hji : (i : Int) < (j : Int) := by omega
      have n1 : (0 : Int) ≤ ((i : Int) + (j : Int)) / 2 := by omega
      have n2 : ((i : Int) + (j : Int)) / 2 < (d.size : Int) := by omega
      have n3 : (((i : Int) + (j : Int)) / 2).toNat = (i + j) / 2 := by omega
      have n4 : (m : Int) < (d.size : Int) := by omega
      have SG : Aside (∀ n os, SWK enc k w0 blk off d (grow (wr.drewN n) os)) := fun n os => S1.out.grown n os
      have l1 := fun n' os' => S1.out.ld R HS.out Tryz.prog (m) (by omega) n' os'
      have l2 := fun n' os' => S1.out.ld R HS.out Tryz.prog ((i + j) / 2) (by omega) n' os'
      have hcg := fun n' os' => S1.out.cmp HC.out HS.out d[m]! d[(i + j) / 2]! n' os'
      have F1 : Hid (cf d[m]! d[(i + j) / 2]! < 0 → ∀ h, (i + j) / 2 ≤ h → h < m → bef cf tag d[m]! d[h]!) := Lib.hid (fun hc h p1 p2 => HS2.out.step_r hW (x := (i + j) / 2) (by omega) p1 p2 (bef_lt hc))
      have F2 : Hid (¬ cf d[m]! d[(i + j) / 2]! < 0 → ∀ h, a ≤ h → h < (i + j) / 2 + 1 → bef cf tag d[h]! d[m]!) := Lib.hid (fun hc h p1 p2 => HS2.out.step_l hW (y := (i + j) / 2) p1 (by omega) (by omega) (bef_ge (HT.out _ (by omega) (by omega)) hc))
      obtain ⟨xp, hxp⟩ : ∃ x, d[m]! = x := ⟨_, rfl⟩
      obtain ⟨xq, hxq⟩ : ∃ x, d[(i + j) / 2]! = x := ⟨_, rfl⟩
      rw [hxp] at l1
      rw [hxq] at l2
      rw [hxp, hxq] at hcg
      rw [hxp, hxq] at F1 F2
      have HX : Hid (d[(i + j) / 2]! = xq ∧ d[m]! = xp) := Lib.hid ⟨hxq, hxp⟩
      clear hxp hxq
      clear S1
      by_cases hlv : cf xp xq < 0
      · have N2 : Hid (∀ h, (i + j) / 2 ≤ h → h < m → bef cf tag d[m]! d[h]!) := Lib.hid (by rw [HX.out.2]; exact F1.out hlv)
        clear F1 F2
        go_wp2_with fail
        go_quiet_grown (first | (go_at_fn g; refine Calls.grown_of (hcg _ _)))
        have S3 : Aside (SWK enc k w0 blk off d (grow (wr.drewN nq) osq)) := SG.out nq osq
        generalize grow (wr.drewN nq) osq = w3 at S3 ⊢
        clear l1 l2 hcg SG
        go_wp2
        go_roundw
        case rel => exact ⟨i, (i + j) / 2, by omega, by omega, by omega, rfl, by go_num, S3, H1, N2⟩
        case measure => simp [intOf]; omega
      · have hdec : decide (cf xp xq < 0) = false := decide_eq_false hlv
        have N1 : Hid (∀ h, a ≤ h → h < (i + j) / 2 + 1 → bef cf tag d[h]! d[m]!) := Lib.hid (by rw [HX.out.2]; exact F2.out hlv)
        clear F1 F2
        go_wp2_with fail
        go_quiet_grown (first | (go_at_fn g; refine Calls.grown_of (hcg _ _)))
        have S3 : Aside (SWK enc k w0 blk off d (grow (wr.drewN nq) osq)) := SG.out nq osq
        generalize grow (wr.drewN nq) osq = w3 at S3 ⊢
        clear l1 l2 hcg SG
        go_wp2
        go_roundw
        case rel => exact ⟨(i + j) / 2 + 1, j, by omega, by omega, by omega, by go_num, rfl, S3, N1, H2⟩
        case measure => simp [intOf]; omega
    · obtain rfl : i = j := by omega
      have HF : Hid (∀ d1 : Array α, (∀ x, d1[x]! = shR d m i x) → Srt cf tag d1 a b) := Lib.hid (fun d1 hd => by rw [show b = m + 1 by omega]; exact shR_srt hW hi hjb HS2.out H1.out H2.out hd)
      clear H1 H2
      go_wp2_with fail
      go_loopw [17] (fun vk wr => ∃ (x : Nat) (dk : Array α), i ≤ x ∧ x ≤ m ∧ vk = .int .i64 (x : Nat) ∧ Aside (SWK enc k w0 blk off dk wr) ∧ dk.size = d.size ∧ Hid (PermIn a b d dk) ∧ Hid (∀ y, dk[y]! = shR d m x y)) (fun vk _ => (intOf vk).toNat)
      case atStart => exact ⟨m, d, hjb, Nat.le_refl _, rfl, S1, rfl, Lib.hid (permIn_refl _ _ _), Lib.hid (fun y => shR_zero d m y)⟩
      case round =>
        clear S1
        obtain ⟨x', dk, hix, hxm, rfl, S1, hds, HP, HX⟩ := hrel
        by_cases hxl : i < x'
        · obtain ⟨x, rfl⟩ : ∃ x, x' = x + 1 := ⟨x' - 1, by omega⟩
          have hxz : (i : Int) < (x : Int) + 1 := by omega
          have n0 : (0 : Int) ≤ (x : Int) := by omega
          have n1 : (0 : Int) ≤ (x : Int) + 1 := by omega
          have n2 : (x : Int) + 1 < (d.size : Int) := by omega
          have n3 : (x : Int) < (d.size : Int) := by omega
          have n5 : ((x : Int) + 1).toNat = x + 1 := by omega
          have S2 : Aside (SWK enc k w0 blk off (swp dk (x + 1) (x)) ((wr.drew.setCells blk (off + (x + 1) * k) (enc dk[x]!)).setCells blk (off + (x) * k) (enc dk[x + 1]!))) := S1.out.swapped R (x + 1) (x) (by omega) (by omega)
          have l44a := S1.out.ld1 R (hds.trans HS.out) Tryz.prog (x + 1) (by omega)
          have l44b := S1.out.ld1 R (hds.trans HS.out) Tryz.prog (x) (by omega)
          have s44a := S1.out.st1 R (hds.trans HS.out) Tryz.prog (x + 1) (by omega) dk[x]!
          have s44b := S1.out.st2 R (hds.trans HS.out) Tryz.prog (x + 1) (x) (by omega) (by omega) dk[x]! dk[x + 1]!
          have n44a : (enc dk[x + 1]!).length = k := R.hk _
          have n44b : (enc dk[x]!).length = k := R.hk _
          have HP2 : Hid (PermIn a b d (swp dk (x + 1) x)) := Lib.hid (permIn_trans _ _ _ _ _ HP.out (swp_permIn dk a b (x + 1) x (by omega) (by omega) (by omega) (by omega) (by omega)))
          have HX2 : Hid (∀ y, (swp dk (x + 1) x)[y]! = shR d m x y) := Lib.hid (shR_step hxm hds (by omega) HX.out)
          generalize enc dk[x + 1]! = cI44 at S2 l44a s44b n44a
          generalize enc dk[x]! = cJ44 at S2 l44b s44a s44b n44b
          clear S1 HP HX
          go_wp2_with fail
          go_big_region_o
          clear l44a l44b s44a s44b
          generalize (wr.drew.setCells blk (off + (x + 1) * k) cJ44).setCells blk (off + (x) * k) cI44 = w2 at S2 ⊢
          go_wp2
          go_roundw
          case rel => exact ⟨x, swp dk (x + 1) x, by omega, by omega, by first | rfl | go_num | (congr 1; omega), S2, by rw [size_swp]; exact hds, HP2, HX2⟩
          case measure => first | (simp [intOf]; done) | (simp [intOf]; omega)
        · have hxz : ¬ (i : Int) < (x' : Int) := by omega
          have Fin := Lib.hid (HF.out dk (by rw [show i = x' by omega]; exact HX.out))
          go_wp2
          go_end0
          exact ⟨rfl, dk, S1.out, hds, HP.out, Fin.out⟩
end Go.Proofs.YtlfpfkallgkjdaaGreat.Ss
end
