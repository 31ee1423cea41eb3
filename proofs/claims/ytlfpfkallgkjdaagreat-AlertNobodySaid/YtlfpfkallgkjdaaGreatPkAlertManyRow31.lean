/- A stable sort: blocks, sorted and merged. (No program in sight.) -/
import Derived.Test.YtlfpfkallgkjdaaGreatPkAlertManyRow29
import Derived.Test.YtlfpfkallgkjdaaGreatSsDPk
section
namespace Go.Proofs.YtlfpfkallgkjdaaGreat.Ss
open Go.Sort Go.Proofs
set_option linter.unusedVariables false
set_option linter.unusedSectionVars false
variable {α : Type} [Inhabited α] {cf : α → α → Int} {tag : α → Nat}

/-- What stands at a multiple of B, or behind it, is of a greater tag than what stands ahead of it. -/
def Tgb (tag : α → Nat) (d : Array α) (B n : Nat) : Prop := ∀ c x y, x < c * B → c * B ≤ y → y < n → tag d[x]! < tag d[y]!
/-- Blocks of B, each sorted. -/
def Sb (cf : α → α → Int) (tag : α → Nat) (d : Array α) (B n : Nat) : Prop := ∀ c, Srt cf tag d (c * B) (min ((c + 1) * B) n)

theorem Tgb.perm {d d' : Array α} {B n a b : Nat} (hT : Tgb tag d B n) (hb : b ≤ d.size) (hin : ∀ c, c * B ≤ a ∨ b ≤ c * B) (P : PermIn a b d d') (hbn : b ≤ n) : Tgb tag d' B n := by
  intro c x y hx hy hn
  have hc := hin c
  have hT := hT c
  generalize c * B = q at *
  have h1 : ∀ x0, x0 < q → tag d[x0]! < tag d'[y]! := fun x0 hx0 => by
    by_cases hyi : a ≤ y ∧ y < b
    · exact permIn_all d d' a b (fun z => tag d[x0]! < tag z) hb P (fun i hi hi2 => hT x0 i hx0 (by omega) (by omega)) y hyi.1 hyi.2
    · rw [P.2.1 y (by omega)]; exact hT x0 y hx0 hy hn
  by_cases hxi : a ≤ x ∧ x < b
  · exact permIn_all d d' a b (fun z => tag z < tag d'[y]!) hb P (fun i hi hi2 => h1 i (by omega)) x hxi.1 hxi.2
  · rw [P.2.1 x (by omega)]; exact h1 x hx
theorem Tgb.twice {d : Array α} {B n : Nat} (h : Tgb tag d B n) : Tgb tag d (2 * B) n := fun c x y hx hy hn => by
  have e : c * (2 * B) = (c * 2) * B := (Nat.mul_assoc c 2 B).symm
  rw [e] at hx hy
  exact h (c * 2) x y hx hy hn
/-- What a round of blocks knows. -/
structure Ph (cf : α → α → Int) (tag : α → Nat) (d0 dB dk : Array α) (B n c : Nat) : Prop where
  hs : dk.size = d0.size
  hBs : dB.size = d0.size
  hn : n ≤ d0.size
  P : PermIn 0 n d0 dk
  T : Tgb tag dk (2 * B) n
  S : ∀ c' < c, Srt cf tag dk (c' * (2 * B)) ((c' + 1) * (2 * B))
  K : ∀ x, c * (2 * B) ≤ x → dk[x]! = dB[x]!
  TB : Tgb tag dB B n
  SB : Sb cf tag dB B n
theorem Ph.start {d0 dB : Array α} {B n : Nat} (hBs : dB.size = d0.size) (hn : n ≤ d0.size) (P : PermIn 0 n d0 dB) (T : Tgb tag dB B n) (S : Sb cf tag dB B n) : Ph cf tag d0 dB dB B n 0 :=
  ⟨hBs, hBs, hn, P, T.twice, fun c' h => by omega, fun _ _ => rfl, T, S⟩
theorem blk_a (c B : Nat) : (c * 2) * B = c * (2 * B) := Nat.mul_assoc c 2 B
theorem blk_m (c B : Nat) : (c * 2 + 1) * B = c * (2 * B) + B := by rw [Nat.add_mul, Nat.mul_assoc, Nat.one_mul]
theorem blk_b (c B : Nat) : (c + 1) * (2 * B) = c * (2 * B) + 2 * B := by rw [Nat.add_mul, Nat.one_mul]
/-- What the merge of the next pair of blocks wants. -/
theorem Ph.wants {d0 dB dk : Array α} {B n c a b : Nat} (h : Ph cf tag d0 dB dk B n c) (ha : a = c * (2 * B)) (hb : b = min (a + 2 * B) n) (hm : a + B < n) : Srt cf tag dk a (a + B) ∧ Srt cf tag dk (a + B) b ∧ Tg tag dk a (a + B) b := by
  have s1 := h.SB (c * 2)
  have s2 := h.SB (c * 2 + 1)
  have t1 := h.TB (c * 2 + 1)
  have e3 : (c * 2 + 1 + 1) * B = c * (2 * B) + 2 * B := by rw [Nat.add_mul, blk_m]; omega
  rw [blk_m, blk_a, ← ha] at s1
  rw [e3, blk_m, ← ha] at s2
  rw [blk_m, ← ha] at t1
  have K := h.K
  rw [← ha] at K
  have hb1 : b ≤ n := by omega
  refine ⟨(s1.sub (Nat.le_refl _) (by omega)).keep (fun x h1 h2 => K x h1), (s2.sub (Nat.le_refl _) (by omega)).keep (fun x h1 h2 => K x (by omega)), fun x y h1 h2 h3 h4 => ?_⟩
  rw [K x h1, K y (by omega)]
  exact t1 x y h2 h3 (by omega)
/-- Behind a merge of a whole pair. -/
theorem Ph.next {d0 dB dk d' : Array α} {B n c a : Nat} (h : Ph cf tag d0 dB dk B n c) (ha : a = c * (2 * B)) (hb : a + 2 * B ≤ n) (P : PermIn a (a + 2 * B) dk d') (S : Srt cf tag d' a (a + 2 * B)) : Ph cf tag d0 dB d' B n (c + 1) := by
  have hs := h.hs
  have hn := h.hn
  refine ⟨P.1.trans hs, h.hBs, hn, permIn_trans _ _ _ _ _ h.P (permIn_mono _ _ _ _ _ _ (by omega) (by omega) (by omega) P), h.T.perm (by omega) (fun c' => ?_) P (by omega), fun c' hc' => ?_, fun x hx => ?_, h.TB, h.SB⟩
  · rcases Nat.lt_or_ge c c' with g | g
    · refine .inr ?_
      have := Nat.mul_le_mul_right (2 * B) (show c + 1 ≤ c' from g)
      rw [blk_b, ← ha] at this
      exact this
    · exact .inl (by rw [ha]; exact Nat.mul_le_mul_right _ g)
  · rcases Nat.lt_or_ge c' c with g | g
    · have e := Nat.mul_le_mul_right (2 * B) (show c' + 1 ≤ c from g)
      rw [← ha] at e
      exact (h.S c' g).keep (fun x h1 h2 => P.2.1 x (.inl (by omega)))
    · obtain rfl : c' = c := by omega
      rw [blk_b, ← ha]; exact S
  · rw [blk_b, ← ha] at hx
    rw [P.2.1 x (.inr hx)]
    exact h.K x (by rw [← ha]; omega)
/-- Behind the last pair, which is not whole. -/
theorem Ph.last {d0 dB dk d' : Array α} {B n c a : Nat} (h : Ph cf tag d0 dB dk B n c) (ha : a = c * (2 * B)) (hb : n < a + 2 * B) (hm : a + B < n) (P : PermIn a n dk d') (S : Srt cf tag d' a n) : d'.size = d0.size ∧ PermIn 0 n d0 d' ∧ Tgb tag d' (2 * B) n ∧ Sb cf tag d' (2 * B) n := by
  have hs := h.hs
  have hn := h.hn
  refine ⟨P.1.trans hs, permIn_trans _ _ _ _ _ h.P (permIn_mono _ _ _ _ _ _ (by omega) (by omega) (by omega) P), h.T.perm (by omega) (fun c' => ?_) P (by omega), fun c' => ?_⟩
  · rcases Nat.lt_or_ge c c' with g | g
    · refine .inr ?_
      have := Nat.mul_le_mul_right (2 * B) (show c + 1 ≤ c' from g)
      rw [blk_b, ← ha] at this
      omega
    · exact .inl (by rw [ha]; exact Nat.mul_le_mul_right _ g)
  · rcases Nat.lt_trichotomy c' c with g | g | g
    · have e := Nat.mul_le_mul_right (2 * B) (show c' + 1 ≤ c from g)
      rw [← ha] at e
      exact ((h.S c' g).keep (fun x h1 h2 => P.2.1 x (.inl (by omega)))).sub (Nat.le_refl _) (by omega)
    · subst g
      rw [blk_b, ← ha]
      exact S.sub (Nat.le_refl _) (by omega)
    · have := Nat.mul_le_mul_right (2 * B) (show c + 1 ≤ c' from g)
      rw [blk_b, ← ha] at this
      exact Srt.one _ (by omega)
/-- Where nothing is left to be merged. -/
theorem Ph.done {d0 dB dk : Array α} {B n c a : Nat} (h : Ph cf tag d0 dB dk B n c) (ha : a = c * (2 * B)) (hm : n ≤ a + B) : dk.size = d0.size ∧ PermIn 0 n d0 dk ∧ Tgb tag dk (2 * B) n ∧ Sb cf tag dk (2 * B) n := by
  refine ⟨h.hs, h.P, h.T, fun c' => ?_⟩
  rcases Nat.lt_trichotomy c' c with g | g | g
  · exact (h.S c' g).sub (Nat.le_refl _) (by omega)
  · subst g
    have s1 := h.SB (c' * 2)
    rw [blk_m, blk_a, ← ha] at s1
    rw [blk_b, ← ha]
    have K := h.K
    rw [← ha] at K
    exact (s1.sub (Nat.le_refl _) (by omega)).keep (fun x h1 h2 => K x h1)
  · have := Nat.mul_le_mul_right (2 * B) (show c + 1 ≤ c' from g)
    rw [blk_b, ← ha] at this
    exact Srt.one _ (by omega)
/-- The whole row is one block. -/
theorem Sb.whole {d : Array α} {B n : Nat} (h : Sb cf tag d B n) (hB : n ≤ B) : Srt cf tag d 0 n := by
  have := h 0
  rw [Nat.zero_mul, Nat.zero_add, Nat.one_mul] at this
  exact this.sub (Nat.le_refl _) (by omega)

/-- What the insertions have done up to a. -/
structure Pi (cf : α → α → Int) (tag : α → Nat) (d0 dk : Array α) (B n c : Nat) : Prop where
  hs : dk.size = d0.size
  hn : n ≤ d0.size
  P : PermIn 0 n d0 dk
  T : Tgb tag dk B n
  S : ∀ c' < c, Srt cf tag dk (c' * B) ((c' + 1) * B)
  K : ∀ x, c * B ≤ x → dk[x]! = d0[x]!
  O : ∀ x y, x < y → y < n → tag d0[x]! < tag d0[y]!
theorem Pi.start {d0 : Array α} {B n : Nat} (hn : n ≤ d0.size) (O : ∀ x y, x < y → y < n → tag d0[x]! < tag d0[y]!) : Pi cf tag d0 d0 B n 0 :=
  ⟨rfl, hn, permIn_refl _ _ _, fun c x y hx hy hn => O x y (by omega) hn, fun c' h => by omega, fun _ _ => rfl, O⟩
theorem Pi.next {d0 dk d' : Array α} {B n c a : Nat} (h : Pi cf tag d0 dk B n c) (ha : a = c * B) (hb : a + B ≤ n) (P : PermIn a (a + B) dk d') (S : Srt cf tag d' a (a + B)) : Pi cf tag d0 d' B n (c + 1) := by
  have hs := h.hs
  have hn := h.hn
  have e1 : (c + 1) * B = a + B := by rw [Nat.add_mul, Nat.one_mul, ha]
  refine ⟨P.1.trans hs, hn, permIn_trans _ _ _ _ _ h.P (permIn_mono _ _ _ _ _ _ (by omega) (by omega) (by omega) P), h.T.perm (by omega) (fun c' => ?_) P (by omega), fun c' hc' => ?_, fun x hx => ?_, h.O⟩
  · rcases Nat.lt_or_ge c c' with g | g
    · refine .inr ?_
      have := Nat.mul_le_mul_right B (show c + 1 ≤ c' from g)
      rw [e1] at this
      exact this
    · exact .inl (by rw [ha]; exact Nat.mul_le_mul_right _ g)
  · rcases Nat.lt_or_ge c' c with g | g
    · have e := Nat.mul_le_mul_right B (show c' + 1 ≤ c from g)
      rw [← ha] at e
      exact (h.S c' g).keep (fun x h1 h2 => P.2.1 x (.inl (by omega)))
    · obtain rfl : c' = c := by omega
      rw [e1, ← ha]; exact S
  · rw [e1] at hx
    rw [P.2.1 x (.inr hx)]
    exact h.K x (by rw [← ha]; omega)
theorem Pi.last {d0 dk d' : Array α} {B n c a : Nat} (h : Pi cf tag d0 dk B n c) (ha : a = c * B) (hb : n < a + B) (han : a ≤ n) (P : PermIn a n dk d') (S : Srt cf tag d' a n) : d'.size = d0.size ∧ PermIn 0 n d0 d' ∧ Tgb tag d' B n ∧ Sb cf tag d' B n := by
  have hs := h.hs
  have hn := h.hn
  have e1 : (c + 1) * B = a + B := by rw [Nat.add_mul, Nat.one_mul, ha]
  refine ⟨P.1.trans hs, permIn_trans _ _ _ _ _ h.P (permIn_mono _ _ _ _ _ _ (by omega) (by omega) (by omega) P), h.T.perm (by omega) (fun c' => ?_) P (by omega), fun c' => ?_⟩
  · rcases Nat.lt_or_ge c c' with g | g
    · refine .inr ?_
      have := Nat.mul_le_mul_right B (show c + 1 ≤ c' from g)
      rw [e1] at this
      omega
    · exact .inl (by rw [ha]; exact Nat.mul_le_mul_right _ g)
  · rcases Nat.lt_trichotomy c' c with g | g | g
    · have e := Nat.mul_le_mul_right B (show c' + 1 ≤ c from g)
      rw [← ha] at e
      exact ((h.S c' g).keep (fun x h1 h2 => P.2.1 x (.inl (by omega)))).sub (Nat.le_refl _) (by omega)
    · subst g
      rw [e1, ← ha]
      exact S.sub (Nat.le_refl _) (by omega)
    · have := Nat.mul_le_mul_right B (show c + 1 ≤ c' from g)
      rw [e1] at this
      exact Srt.one _ (by omega)
/-- The tags of what is to be inserted next. -/
theorem Pi.tags {d0 dk : Array α} {B n c a : Nat} (h : Pi cf tag d0 dk B n c) (ha : a = c * B) {x y : Nat} (hx : a ≤ x) (hxy : x < y) (hy : y < n) : tag dk[x]! < tag dk[y]! := by
  have K := h.K
  rw [← ha] at K
  rw [K x hx, K y (by omega)]
  exact h.O x y hxy hy

/-- What stands ahead of i is of what stood there, where from i on nothing has changed. -/
theorem permIn_upto {d d' : Array α} {a b i : Nat} (P : PermIn a b d d') (hai : a ≤ i) (K : ∀ x, i ≤ x → d'[x]! = d[x]!) (hib : i ≤ b) (hb : b ≤ d.size) : PermIn a i d d' := by
  refine ⟨P.1, fun x hx => ?_, ?_⟩
  · rcases hx with hx | hx
    · exact P.2.1 x (.inl hx)
    · exact K x hx
  · have hs := P.1
    have e : ∀ (c : Array α), b ≤ c.size → (c.extract a b).toList = (c.extract a i).toList ++ (c.extract i b).toList := fun c hc => by
      rw [← Array.toList_append, Array.extract_append_extract]
      congr 2 <;> omega
    have h2 : (d'.extract i b).toList = (d.extract i b).toList := by
      refine List.ext_getElem (by simp [hs]) (fun x h1 h3 => ?_)
      have hx : i + x < d.size := by simp at h3; omega
      have := K (i + x) (by omega)
      rw [getElem!_pos d' (i + x) (by omega), getElem!_pos d (i + x) hx] at this
      simpa using this
    have P2 := P.2.2
    rw [e d' (by omega), e d hb, h2] at P2
    exact (List.perm_append_right_iff _).1 P2

/-- One insertion more. -/
theorem ins_srt (hW : SWO (ltOf cf)) {di dj : Array α} {a i j : Nat} (haj : a ≤ j) (hji : j ≤ i) (S : Srt cf tag di a i) (hT : ∀ h, a ≤ h → h < i → tag di[h]! < tag di[i]!) (hX : ∀ x, dj[x]! = shR di i j x) (hG : ∀ h, j ≤ h → h < i → bef cf tag di[i]! di[h]!) (hstop : j ≤ a ∨ ¬ cf di[i]! di[j - 1]! < 0) : Srt cf tag dj a (i + 1) := by
  refine shR_srt hW haj hji S (fun h h1 h2 => ?_) hG hX
  rcases hstop with g | g
  · omega
  · exact S.step_l hW (y := j - 1) h1 (by omega) (by omega) (bef_ge (hT (j - 1) (by omega) (by omega)) g)
end Go.Proofs.YtlfpfkallgkjdaaGreat.Ss
end

section
/- slices.insertionSortCmpFunc at elements of two cells, stable: the walk. -/
namespace Go.Proofs.YtlfpfkallgkjdaaGreat.Ss
open Go.Shelf Go.RowKit Go.Lib Go.Sort
set_option maxRecDepth 20000
set_option linter.unusedVariables false
set_option linter.unusedSimpArgs false
set_option linter.unusedSectionVars false
variable {α : Type} [Inhabited α] {enc : α → List Value} {cf : α → α → Int} {tag : α → Nat}

set_option maxHeartbeats 4000000 in
set_option maxRecDepth 1000000 in
theorem insertion_any (hW : SWO (ltOf cf)) (k : Nat) (hk2 : k = 2) (g : Nat) (cb : Array Value) (blk off cap a b : Nat) (d0 d : Array α) (w0 w : World) (eg : ∀ args w, (callFunc g args).run Tryz.prog w = .ok (.enter g args) w) (hC : CmpLays Tryz.prog g cb enc k cf blk off d0.size w0)
    (R : RowK enc k w0 blk off d0) (hs : d.size = d0.size) (S : SWK enc k w0 blk off d w) (hab : a ≤ b) (hb : b ≤ d.size) (hsz : d.size < 1099511627776) (hT : ∀ x y, a ≤ x → x < y → y < b → tag d[x]! < tag d[y]!) :
    Calls Tryz.prog 150 #[.slice (some ⟨blk, off, none⟩) d.size cap, .int .i64 a, .int .i64 b, .func (.func g) #[] cb] w (MPost enc cf tag k w0 blk off d a b) := by
  have zE : ∀ w, (Go.sizeOf 105).run Tryz.prog w = .ok k w := by rw [hk2]; exact Tryz.sizeOf105
  have mixed : Tryz.prog.follows Departure.mixedOrders = true := by kernel_rfl
  have S0 : Aside (SWK enc k w0 blk off d w) := S
  have HC : Aside _ := hC
  have HS := Lib.hid hs
  have HT := Lib.hid hT
  clear S hk2 hs hC hT
  go_enter Tryz.func150, Tryz.ntmps150
  go_wp2
  go_loopw [8] (fun vi wr => ∃ (i : Nat) (dk : Array α), a < i ∧ (i ≤ b ∨ i ≤ a + 1) ∧ vi = .int .i64 (i : Nat) ∧ Aside (SWK enc k w0 blk off dk wr) ∧ dk.size = d.size ∧ Hid (PermIn a b d dk) ∧ Hid (Srt cf tag dk a i) ∧ Hid (∀ x, i ≤ x → dk[x]! = d[x]!)) (fun vi _ => b - (intOf vi).toNat)
  case atStart => exact ⟨a + 1, d, by omega, by omega, by go_num, S0, rfl, Lib.hid (permIn_refl _ _ _), Lib.hid (Srt.one _ (Nat.le_refl _)), Lib.hid (fun _ _ => rfl)⟩
  case round =>
    clear S0
    obtain ⟨i, dk, hai, hib, rfl, S1, hds, HP, HZ, HX⟩ := hrel
    by_cases hlt : i < b
    · have hltz : (i : Int) < (b : Int) := by omega
      have TK : Hid (∀ h, a ≤ h → h < i → tag dk[h]! < tag dk[i]!) := Lib.hid (fun h h1 h2 => by
        have e := HX.out i (Nat.le_refl _)
        rw [e]
        exact permIn_all d dk a i (fun z => tag z < tag d[i]!) (by omega) (permIn_upto HP.out (by omega) HX.out (by omega) hb) (fun x p1 p2 => HT.out x i p1 p2 hlt) h h1 h2)
      go_wp2
      go_loopw [9] (fun vj wr => ∃ (j : Nat) (dj : Array α), a ≤ j ∧ j ≤ i ∧ vj = .int .i64 (j : Nat) ∧ Aside (SWK enc k w0 blk off dj wr) ∧ dj.size = d.size ∧ Hid (PermIn a b d dj) ∧ Hid (∀ x, dj[x]! = shR dk i j x) ∧ Hid (∀ h, j ≤ h → h < i → bef cf tag dk[i]! dk[h]!)) (fun vj _ => (intOf vj).toNat)
      case atStart => exact ⟨i, dk, by omega, Nat.le_refl _, rfl, S1, hds, HP, Lib.hid (fun x => shR_zero dk i x), Lib.hid (fun h _ _ => by omega)⟩
      case round =>
        clear S1
        obtain ⟨j, dj, haj, hji, rfl, S1, hdj, HPj, HXj, HG⟩ := hrel
        have OUT : Hid ((j ≤ a ∨ ¬ cf dk[i]! dk[j - 1]! < 0) → Srt cf tag dj a (i + 1) ∧ ∀ x, i + 1 ≤ x → dj[x]! = d[x]!) := Lib.hid (fun hst => ⟨ins_srt hW haj hji HZ.out TK.out HXj.out HG.out hst, fun x hx => by
          rw [HXj.out]
          unfold shR
          rw [if_neg (by omega), if_neg (by omega)]
          exact HX.out x (by omega)⟩)
        by_cases hja : a < j
        · obtain ⟨jp, rfl⟩ : ∃ jp, j = jp + 1 := ⟨j - 1, by omega⟩
          have hjaz : (a : Int) < (jp : Int) + 1 := by omega
          have hwp : IntKind.i64.wrap (jp : Int) = (jp : Int) := by rw [IntKind.wrap_i64]; omega
          have n0 : (0 : Int) ≤ (jp : Int) := by omega
          have n1 : (0 : Int) ≤ (jp : Int) + 1 := by omega
          have n2 : (jp : Int) + 1 < (d.size : Int) := by omega
          have n3 : (jp : Int) < (d.size : Int) := by omega
          have n5 : ((jp : Int) + 1).toNat = jp + 1 := by omega
          have ej : dj[jp + 1]! = dk[i]! := by
            rw [HXj.out]; unfold shR; rw [if_neg (by omega), if_pos rfl]
          have ep : dj[jp]! = dk[jp]! := by
            rw [HXj.out]; unfold shR; rw [if_neg (by omega), if_neg (by omega)]
          have SG : Aside (∀ n os, SWK enc k w0 blk off dj (grow (wr.drewN n) os)) := fun n os => S1.out.grown n os
          have l1 := fun n' os' => S1.out.ld R (hdj.trans HS.out) Tryz.prog (jp + 1) (by omega) n' os'
          have l2 := fun n' os' => S1.out.ld R (hdj.trans HS.out) Tryz.prog (jp) (by omega) n' os'
          have hcg := fun n' os' => S1.out.cmp HC.out (hdj.trans HS.out) dj[jp + 1]! dj[jp]! n' os'
          rw [ej] at l1
          rw [ep] at l2
          rw [ej, ep] at hcg
          have E := Lib.hid (And.intro ej ep)
          clear ej ep
          have OUT2 : Hid (¬ cf dk[i]! dk[jp]! < 0 → Srt cf tag dj a (i + 1) ∧ ∀ x, i + 1 ≤ x → dj[x]! = d[x]!) := Lib.hid (fun h => OUT.out (.inr (by simpa using h)))
          have IN2 : Hid (cf dk[i]! dk[jp]! < 0 → ∀ h, jp ≤ h → h < i → bef cf tag dk[i]! dk[h]!) := Lib.hid (fun hc h p1 p2 => by
            by_cases e : h = jp
            · rw [e]; exact bef_lt hc
            · exact HG.out h (by omega) p2)
          obtain ⟨xp, hxp⟩ : ∃ x, dk[i]! = x := ⟨_, rfl⟩
          obtain ⟨xq, hxq⟩ : ∃ x, dk[jp]! = x := ⟨_, rfl⟩
          rw [hxp] at l1
          rw [hxq] at l2
          rw [hxp, hxq] at hcg
          have HXX : Hid (dk[i]! = xp ∧ dk[jp]! = xq) := Lib.hid ⟨hxp, hxq⟩
          clear hxp hxq OUT HG S1
          by_cases hlv : cf xp xq < 0
          · have G2 : Hid (∀ h, jp ≤ h → h < i → bef cf tag dk[i]! dk[h]!) := Lib.hid (IN2.out (by rw [HXX.out.1, HXX.out.2]; exact hlv))
            clear OUT2 IN2
            go_wp2_with fail
            go_quiet_grown (first | (go_at_fn g; refine Calls.grown_of (hcg _ _)))
            have S3 : Aside (SWK enc k w0 blk off dj (grow (wr.drewN nq) osq)) := SG.out nq osq
            generalize grow (wr.drewN nq) osq = w3 at S3 ⊢
            clear l1 l2 hcg SG
            have S2 : Aside (SWK enc k w0 blk off (swp dj (jp + 1) (jp)) ((w3.drew.setCells blk (off + (jp + 1) * k) (enc dj[jp]!)).setCells blk (off + (jp) * k) (enc dj[jp + 1]!))) := S3.out.swapped R (jp + 1) (jp) (by omega) (by omega)
            have l44a := S3.out.ld1 R (hdj.trans HS.out) Tryz.prog (jp + 1) (by omega)
            have l44b := S3.out.ld1 R (hdj.trans HS.out) Tryz.prog (jp) (by omega)
            have s44a := S3.out.st1 R (hdj.trans HS.out) Tryz.prog (jp + 1) (by omega) dj[jp]!
            have s44b := S3.out.st2 R (hdj.trans HS.out) Tryz.prog (jp + 1) (jp) (by omega) (by omega) dj[jp]! dj[jp + 1]!
            have n44a : (enc dj[jp + 1]!).length = k := R.hk _
            have n44b : (enc dj[jp]!).length = k := R.hk _
            have HP2 : Hid (PermIn a b d (swp dj (jp + 1) jp)) := Lib.hid (permIn_trans _ _ _ _ _ HPj.out (swp_permIn dj a b (jp + 1) jp (by omega) (by omega) (by omega) (by omega) (by omega)))
            have HX2 : Hid (∀ y, (swp dj (jp + 1) jp)[y]! = shR dk i jp y) := Lib.hid (shR_step hji (by omega) (by omega) HXj.out)
            generalize enc dj[jp + 1]! = cI44 at S2 l44a s44b n44a
            generalize enc dj[jp]! = cJ44 at S2 l44b s44a s44b n44b
            clear S3 HPj HXj
            go_wp2_with fail
            go_big_region_o
            clear l44a l44b s44a s44b
            generalize (w3.drew.setCells blk (off + (jp + 1) * k) cJ44).setCells blk (off + (jp) * k) cI44 = w2 at S2 ⊢
            go_wp2
            go_roundw
            case rel => exact ⟨jp, swp dj (jp + 1) jp, by omega, by omega, by first | rfl | go_num | (congr 1; omega), S2, by rw [size_swp]; exact hdj, HP2, HX2, G2⟩
            case measure => first | (simp [intOf]; done) | (simp [intOf]; omega)
          · have hdec : decide (cf xp xq < 0) = false := decide_eq_false hlv
            have O2 := Lib.hid (OUT2.out (by rw [HXX.out.1, HXX.out.2]; exact hlv))
            clear OUT2 IN2
            go_wp2_with fail
            go_quiet_grown (first | (go_at_fn g; refine Calls.grown_of (hcg _ _)))
            have S3 : Aside (SWK enc k w0 blk off dj (grow (wr.drewN nq) osq)) := SG.out nq osq
            generalize grow (wr.drewN nq) osq = w3 at S3 ⊢
            clear l1 l2 hcg SG
            go_wp2
            go_roundw
            case rel => exact ⟨i + 1, dj, by omega, by omega, by go_num, S3, hdj, HPj, Lib.hid O2.out.1, Lib.hid O2.out.2⟩
            case measure => simp [intOf]; omega
        · have hjaz : decide ((j : Int) > (a : Int)) = false := decide_eq_false (by omega)
          have hjaz' : ¬ (a : Int) < (j : Int) := by omega
          have O2 := Lib.hid (OUT.out (.inl (by omega)))
          have SD : Aside (SWK enc k w0 blk off dj wr.drew) := by
            have := S1.out.grown 1 #[]
            rwa [grow_empty] at this
          clear OUT S1
          go_wp2_with fail
          go_big_region_o
          generalize wr.drew = w3 at SD ⊢
          go_wp2
          go_roundw
          case rel => exact ⟨i + 1, dj, by omega, by omega, by go_num, SD, hdj, HPj, Lib.hid O2.out.1, Lib.hid O2.out.2⟩
          case measure => simp [intOf]; omega
    · have hltz : ¬ (i : Int) < (b : Int) := by omega
      have Fin := Lib.hid (HZ.out.sub (Nat.le_refl _) (show b ≤ i by omega))
      go_wp2
      go_end0
      exact ⟨rfl, dk, S1.out, hds, HP.out, Fin.out⟩
end Go.Proofs.YtlfpfkallgkjdaaGreat.Ss
end

section
/- slices.SortStableFunc at elements of two cells: the walk. -/
namespace Go.Proofs.YtlfpfkallgkjdaaGreat.Ss
open Go.Shelf Go.RowKit Go.Lib Go.Sort
set_option maxRecDepth 20000
set_option linter.unusedVariables false
set_option linter.unusedSimpArgs false
set_option linter.unusedSectionVars false
variable {α : Type} [Inhabited α] {enc : α → List Value} {cf : α → α → Int} {tag : α → Nat}

set_option maxHeartbeats 4000000 in
set_option maxRecDepth 1000000 in
theorem stable_any (hW : SWO (ltOf cf)) (k : Nat) (hk2 : k = 2) (g : Nat) (cb : Array Value) (blk off cap : Nat) (d : Array α) (w0 w : World) (eg : ∀ args w, (callFunc g args).run Tryz.prog w = .ok (.enter g args) w) (hC : CmpLays Tryz.prog g cb enc k cf blk off d.size w0)
    (R : RowK enc k w0 blk off d) (S : SWK enc k w0 blk off d w) (hsz : d.size < 1099511627776) (hT : ∀ x y, x < y → y < d.size → tag d[x]! < tag d[y]!) :
    Calls Tryz.prog 111 #[.slice (some ⟨blk, off, none⟩) d.size cap, .int .i64 d.size, .func (.func g) #[] cb] w (MPost enc cf tag k w0 blk off d 0 d.size) := by
  have S0 : Aside (SWK enc k w0 blk off d w) := S
  have HC : Aside _ := hC
  have HK := Lib.hid hk2
  have HPI : Hid (Pi cf tag d d 20 d.size 0) := Lib.hid (Pi.start (Nat.le_refl _) hT)
  obtain ⟨n, hn⟩ : ∃ n, d.size = n := ⟨_, rfl⟩
  have N1 : n ≤ d.size := by omega
  have N2 : d.size ≤ n := by omega
  have HN := Lib.hid hn
  rw [hn]
  rw [hn] at HPI
  have ins := fun (a b : Nat) (dk : Array α) (w : World) (hs : dk.size = d.size) (S : SWK enc k w0 blk off dk w) (hab : a ≤ b) (hb : b ≤ dk.size) (hT : ∀ x y, a ≤ x → x < y → y < b → tag dk[x]! < tag dk[y]!) => insertion_any hW k hk2 g cb blk off cap a b d dk w0 w eg hC R hs S hab hb (by omega) hT
  have sym := fun (a m b : Nat) (dk : Array α) (w : World) (h1 : a < m) (h2 : m < b) (I : MIn enc cf tag k w0 blk off d dk a m b w) => sym_any hW k hk2 g cb blk off cap d w0 eg hC R hsz (b - a) a m b dk w (Nat.le_refl _) h1 h2 I
  have INS := Lib.hid ins
  have SYM := Lib.hid sym
  clear S hk2 hC hT ins sym hn
  go_enter Tryz.func111, Tryz.ntmps111
  go_wp2
  go_loopw [7, 8] (fun v7 v8 wr => ∃ (c a b : Nat) (dk : Array α), a ≤ n ∧ b ≤ a + 20 ∧ a + 20 ≤ b ∧ v7 = .int .i64 (a : Nat) ∧ v8 = .int .i64 (b : Nat) ∧ Hid (a = c * 20) ∧ Aside (SWK enc k w0 blk off dk wr) ∧ Hid (Pi cf tag d dk 20 n c)) (fun _ v8 _ => n + 20 - (intOf v8).toNat)
  case atStart => exact ⟨0, 0, 20, d, by omega, by omega, by omega, rfl, rfl, Lib.hid (by omega), S0, HPI⟩
  case round =>
    clear S0 HPI
    obtain ⟨c, a, b, dk, ha, hb1, hb2, rfl, rfl, HA, S1, HP⟩ := hrel
    have hdk : Hid (dk.size = d.size) := Lib.hid HP.out.hs
    by_cases hlt : b ≤ n
    · have c1 := INS.out a b dk wr hdk.out S1.out (by omega) (by have := hdk.out; omega) (fun x y h1 h2 h3 => HP.out.tags HA.out h1 h2 (by omega))
      rw [hdk.out, HN.out] at c1
      have C1 := Lib.hid c1
      clear c1 S1
      go_wp2_with fail
      refine C1.out.mono ?_
      rintro ev w2 ⟨rfl, d', S2, h1, h2, h3⟩
      have S3 : Aside (SWK enc k w0 blk off d' w2) := S2
      have P3 : Hid (Pi cf tag d d' 20 n (c + 1)) := Lib.hid (by
        obtain rfl : b = a + 20 := by omega
        exact HP.out.next HA.out hlt h2 h3)
      clear C1 S2 h1 h2 h3 HP hdk
      go_wp2
      go_roundw
      case rel => exact ⟨c + 1, b, b + 20, d', by omega, by omega, by omega, rfl, by go_num, Lib.hid (by have := HA.out; omega), S3, P3⟩
      case measure => simp [intOf]; omega
    · have hbn : ¬ (b : Int) ≤ (n : Int) := by omega
      have c1 := INS.out a n dk wr hdk.out S1.out (by omega) (by have := hdk.out; omega) (fun x y h1 h2 h3 => HP.out.tags HA.out h1 h2 (by omega))
      rw [hdk.out, HN.out] at c1
      have C1 := Lib.hid c1
      clear c1 S1
      go_wp2_with fail
      refine C1.out.mono ?_
      rintro ev w2 ⟨rfl, d', S2, h1, h2, h3⟩
      have S3 : Aside (SWK enc k w0 blk off d' w2) := S2
      have P3 : Hid (d'.size = d.size ∧ PermIn 0 n d d' ∧ Tgb tag d' 20 n ∧ Sb cf tag d' 20 n) := Lib.hid (HP.out.last HA.out (by omega) ha h2 h3)
      clear C1 S2 h1 h2 h3 HP hdk HA
      go_wp2
      go_loopw [6] (fun v6 wr => ∃ (B : Nat) (dB : Array α), 0 < B ∧ B ≤ 2 * n + 20 ∧ v6 = .int .i64 (B : Nat) ∧ Aside (SWK enc k w0 blk off dB wr) ∧ Hid (dB.size = d.size ∧ PermIn 0 n d dB ∧ Tgb tag dB B n ∧ Sb cf tag dB B n)) (fun v6 _ => n - (intOf v6).toNat)
      case atStart => exact ⟨20, d', by omega, by omega, rfl, S3, P3⟩
      case round =>
        clear S3 P3
        obtain ⟨B, dB, hB0, hB, rfl, S1, HB⟩ := hrel
        by_cases hBn : B < n
        · have HP0 : Hid (Ph cf tag d dB dB B n 0) := Lib.hid (Ph.start HB.out.1 (by omega) HB.out.2.1 HB.out.2.2.1 HB.out.2.2.2)
          clear HB
          go_wp2
          go_loopw [7, 8] (fun v7 v8 wr => ∃ (c a b : Nat) (dk : Array α), a ≤ n ∧ b ≤ a + 2 * B ∧ a + 2 * B ≤ b ∧ v7 = .int .i64 (a : Nat) ∧ v8 = .int .i64 (b : Nat) ∧ Hid (a = c * (2 * B)) ∧ Aside (SWK enc k w0 blk off dk wr) ∧ Hid (Ph cf tag d dB dk B n c)) (fun _ v8 _ => n + 2 * B - (intOf v8).toNat)
          case atStart => exact ⟨0, 0, 2 * B, dB, by omega, by omega, by omega, rfl, by go_num, Lib.hid (by omega), S1, HP0⟩
          case round =>
            clear S1 HP0
            obtain ⟨c, a, b, dk, ha, hb1, hb2, rfl, rfl, HA, S1, HP⟩ := hrel
            have hdk : Hid (dk.size = d.size) := Lib.hid HP.out.hs
            obtain ⟨m, hm⟩ : ∃ m, m = a + B := ⟨_, rfl⟩
            have m1 : m ≤ a + B := by omega
            have m2 : a + B ≤ m := by omega
            have hmz : (a : Int) + (B : Int) = (m : Int) := by omega
            by_cases hlt : b ≤ n
            · have W := HP.out.wants (a := a) (b := b) HA.out (by omega) (by omega)
              rw [← hm] at W
              have c1 := SYM.out a m b dk wr (by omega) (by omega) ⟨hdk.out, S1.out, by have := hdk.out; omega, W.1, W.2.1, W.2.2⟩
              rw [hdk.out, HN.out] at c1
              have C1 := Lib.hid c1
              clear c1 S1 W
              have HM := Lib.hid hm
              clear hm
              go_wp2_with fail
              refine C1.out.mono ?_
              rintro ev w2 ⟨rfl, d', S2, h1, h2, h3⟩
              have S3 : Aside (SWK enc k w0 blk off d' w2) := S2
              have P3 : Hid (Ph cf tag d dB d' B n (c + 1)) := Lib.hid (by
                obtain rfl : b = a + 2 * B := by omega
                exact HP.out.next HA.out hlt h2 h3)
              clear C1 S2 h1 h2 h3 HP hdk hmz
              go_wp2
              go_roundw
              case rel => exact ⟨c + 1, b, b + 2 * B, d', by omega, by omega, by omega, rfl, by go_num, Lib.hid (by rw [blk_b, ← HA.out]; omega), S3, P3⟩
              case measure => simp [intOf]; omega
            · have hbn : ¬ (b : Int) ≤ (n : Int) := by omega
              by_cases hmn : m < n
              · have W := HP.out.wants (a := a) (b := n) HA.out (by omega) (by omega)
                rw [← hm] at W
                have c1 := SYM.out a m n dk wr (by omega) (by omega) ⟨hdk.out, S1.out, by have := hdk.out; omega, W.1, W.2.1, W.2.2⟩
                rw [hdk.out, HN.out] at c1
                have C1 := Lib.hid c1
                clear c1 S1 W
                have HM := Lib.hid hm
                clear hm
                go_wp2_with fail
                refine C1.out.mono ?_
                rintro ev w2 ⟨rfl, d', S2, h1, h2, h3⟩
                have S3 : Aside (SWK enc k w0 blk off d' w2) := S2
                have P3 : Hid (d'.size = d.size ∧ PermIn 0 n d d' ∧ Tgb tag d' (2 * B) n ∧ Sb cf tag d' (2 * B) n) := Lib.hid (HP.out.last HA.out (by omega) (by omega) h2 h3)
                clear C1 S2 h1 h2 h3 HP hdk hmz
                go_wp2
                go_roundw
                case rel => exact ⟨2 * B, d', by omega, by omega, by go_num, S3, P3⟩
                case measure => simp [intOf]; omega
              · have hmn' : ¬ (m : Int) < (n : Int) := by omega
                have P3 : Hid (dk.size = d.size ∧ PermIn 0 n d dk ∧ Tgb tag dk (2 * B) n ∧ Sb cf tag dk (2 * B) n) := Lib.hid (HP.out.done HA.out (by omega))
                have HM := Lib.hid hm
                clear HP hdk hm
                go_wp2
                go_roundw
                case rel => exact ⟨2 * B, dk, by omega, by omega, by go_num, S1, P3⟩
                case measure => simp [intOf]; omega
        · have hBn' : ¬ (B : Int) < (n : Int) := by omega
          have Fin : Hid (dB.size = d.size ∧ PermIn 0 n d dB ∧ Srt cf tag dB 0 n) := Lib.hid ⟨HB.out.1, HB.out.2.1, HB.out.2.2.2.whole (by omega)⟩
          clear HB
          go_wp2
          go_end0
          exact ⟨rfl, dB, S1.out, Fin.out⟩

set_option maxHeartbeats 4000000 in
set_option maxRecDepth 1000000 in
theorem sortStable_any (hW : SWO (ltOf cf)) (k : Nat) (hk2 : k = 2) (g : Nat) (cb : Array Value) (blk off cap : Nat) (d : Array α) (w : World) (eg : ∀ args w, (callFunc g args).run Tryz.prog w = .ok (.enter g args) w) (hC : CmpLays Tryz.prog g cb enc k cf blk off d.size w)
    (R : RowK enc k w blk off d) (S : SWK enc k w blk off d w) (hsz : d.size < 1099511627776) (hT : ∀ x y, x < y → y < d.size → tag d[x]! < tag d[y]!) :
    Calls Tryz.prog 74 #[.slice (some ⟨blk, off, none⟩) d.size cap, .func (.func g) #[] cb] w (MPost enc cf tag k w blk off d 0 d.size) := by
  have C := Lib.hid (stable_any hW k hk2 g cb blk off cap d w w eg hC R S hsz hT)
  clear hW hk2 hC S hT R eg
  go_enter Tryz.func74, Tryz.ntmps74
  go_wp2_with fail
  refine C.out.mono ?_
  rintro ev w2 ⟨rfl, H⟩
  have F := Lib.hid H
  clear H C
  go_wp2
  go_end0
  exact ⟨rfl, F.out⟩
end Go.Proofs.YtlfpfkallgkjdaaGreat.Ss
end
