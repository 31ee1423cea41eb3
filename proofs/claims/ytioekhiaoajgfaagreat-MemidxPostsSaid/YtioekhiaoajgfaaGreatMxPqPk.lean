/- Places of terms that begin somehow: plain (seat k). (No program in sight.) -/
import Derived.Test.YtioekhiaoajgfaaGreatMxPpPk
namespace Go.Proofs.YtioekhiaoajgfaaGreat.Mx
open Go.RowKit Go.Sort Go.Proofs Go.Proofs.YtioekhiaoajgfaaGreat Go.Proofs.YtioekhiaoajgfaaGreat.Ut Go.Proofs.YtioekhiaoajgfaaGreat.Tk Go.Proofs.YtioekhiaoajgfaaGreat.Qy Go.Proofs.YtioekhiaoajgfaaGreat.Ev
set_option linter.unusedVariables false
set_option linter.unusedSimpArgs false

abbrev UpN (l : List Nat) : Prop := l.Pairwise (· < ·)
theorem mrgN_up : ∀ (n : Nat) (a b : List Nat), a.length + b.length = n → UpN a → UpN b → (∀ x ∈ a, x ∉ b) → UpN (mrgN a b) ∧ ∀ x, x ∈ mrgN a b ↔ x ∈ a ∨ x ∈ b
  | n, [], b, _, _, hb, _ => by rw [nil_mrgN]; exact ⟨hb, fun x => by simp⟩
  | n, x :: a, [], _, ha, _, _ => by rw [mrgN_nil]; exact ⟨ha, fun x => by simp⟩
  | 0, x :: a, y :: b, h, _, _, _ => by simp at h
  | n + 1, x :: a, y :: b, h, ha, hb, hd => by
    obtain ⟨a1, a2⟩ := List.pairwise_cons.1 ha
    obtain ⟨b1, b2⟩ := List.pairwise_cons.1 hb
    unfold mrgN
    by_cases c : x < y
    · rw [if_pos c]
      obtain ⟨i1, i2⟩ := mrgN_up n a (y :: b) (by simp at h ⊢; omega) a2 hb (fun z hz => hd z (List.mem_cons_of_mem _ hz))
      refine ⟨List.pairwise_cons.2 ⟨fun z hz => ?_, i1⟩, fun z => ?_⟩
      · rcases (i2 z).1 hz with hz | hz
        · exact a1 z hz
        · rcases List.mem_cons.1 hz with rfl | hz
          · exact c
          · exact Nat.lt_trans c (b1 z hz)
      · rw [List.mem_cons, i2, List.mem_cons (b := x)]
        constructor
        · rintro (h | h | h)
          · exact .inl (.inl h)
          · exact .inl (.inr h)
          · exact .inr h
        · rintro ((h | h) | h)
          · exact .inl h
          · exact .inr (.inl h)
          · exact .inr (.inr h)
    · rw [if_neg c]
      have hne : x ≠ y := fun e => hd x (List.mem_cons_self ..) (by rw [e]; exact List.mem_cons_self ..)
      obtain ⟨i1, i2⟩ := mrgN_up n (x :: a) b (by simp at h ⊢; omega) ha b2 (fun z hz hzb => hd z hz (List.mem_cons_of_mem _ hzb))
      refine ⟨List.pairwise_cons.2 ⟨fun z hz => ?_, i1⟩, fun z => ?_⟩
      · rcases (i2 z).1 hz with hz | hz
        · rcases List.mem_cons.1 hz with rfl | hz
          · omega
          · have := a1 z hz; omega
        · exact b1 z hz
      · rw [List.mem_cons, i2, List.mem_cons (b := y)]
        constructor
        · rintro (h | h | h)
          · exact .inr (.inl h)
          · exact .inl h
          · exact .inr (.inr h)
        · rintro (h | h | h)
          · exact .inr (.inl h)
          · exact .inl h
          · exact .inr (.inr h)
theorem raw_strict (fs : List Fl) : (raw fs).Pairwise (fun x y => x.2 < y.2) := (raw_up fs 0).1
theorem raw_inj {fs : List Fl} {x y : T1} (hx : x ∈ raw fs) (hy : y ∈ raw fs) (h : x.2 = y.2) : x = y := by
  have hs := raw_strict fs
  obtain ⟨i, hi, rfl⟩ := List.mem_iff_getElem.1 hx
  obtain ⟨j, hj, rfl⟩ := List.mem_iff_getElem.1 hy
  rcases Nat.lt_trichotomy i j with h1 | h1 | h1
  · have := List.pairwise_iff_getElem.1 hs i j hi hj h1; omega
  · subst h1; rfl
  · have := List.pairwise_iff_getElem.1 hs j i hj hi h1; omega
theorem filt_up (fs : List Fl) (p : T1 → Bool) : UpN (((raw fs).filter p).map (·.2)) := List.pairwise_map.2 ((raw_strict fs).filter _)
theorem term_pos {fs : List Fl} {t : Tm} (h : t ∈ addAll (raw fs)) (x : Nat) : x ∈ t.2 ↔ (t.1, x) ∈ raw fs := by
  have hm := ((isTm_all (raw fs)).mem t).1 h
  rw [hm.2, List.mem_map]
  constructor
  · rintro ⟨y, hy, rfl⟩
    obtain ⟨h1, h2⟩ := List.mem_filter.1 hy
    have := of_decide_eq_true h2
    rw [← this]
    exact h1
  · intro h1
    exact ⟨(t.1, x), List.mem_filter.2 ⟨h1, decide_eq_true rfl⟩, rfl⟩
theorem term_up {fs : List Fl} {t : Tm} (h : t ∈ addAll (raw fs)) : UpN t.2 := by
  have hm := ((isTm_all (raw fs)).mem t).1 h
  rw [hm.2]
  exact filt_up fs _
theorem term_of {fs : List Fl} {y : T1} (h : y ∈ raw fs) : ∃ t ∈ addAll (raw fs), t.1 = y.1 := by
  refine ⟨(y.1, ((raw fs).filter (fun z => decide (z.1 = y.1))).map (·.2)), ((isTm_all (raw fs)).mem _).2 ⟨?_, rfl⟩, rfl⟩
  intro e
  have := List.map_eq_nil_iff.1 e
  have hy : y ∈ (raw fs).filter (fun z => decide (z.1 = y.1)) := List.mem_filter.2 ⟨h, decide_eq_true rfl⟩
  rw [this] at hy
  cases hy
theorem ofT_up (fs : List Fl) (s : ByteArray) (whole : Bool) : ∀ (n : Nat) (T : List Tm), T.length = n → (∀ t ∈ T, t ∈ addAll (raw fs)) → T.Pairwise (fun x y => x.1 ≠ y.1) → UpN (ofT s whole T) ∧ ∀ x, x ∈ ofT s whole T ↔ ∃ t ∈ T, selT s whole t.1 = true ∧ x ∈ t.2
  | 0, T, h, _, _ => by
    obtain rfl := List.length_eq_zero_iff.1 h
    exact ⟨List.Pairwise.nil, fun x => by simp [ofT]⟩
  | n + 1, T, h, hT, hp => by
    obtain ⟨dl, d, rfl⟩ : ∃ dl d, T = dl ++ [d] := by
      rcases List.eq_nil_or_concat T with h0 | ⟨dl, d, h0⟩
      · subst h0; simp at h
      · exact ⟨dl, d, by rw [h0, List.concat_eq_append]⟩
    obtain ⟨p1, p2, p3⟩ := List.pairwise_append.1 hp
    obtain ⟨i1, i2⟩ := ofT_up fs s whole n dl (by simpa using h) (fun t ht => hT t (List.mem_append_left _ ht)) p1
    have hd := hT d (by simp)
    rw [ofT_snoc]
    cases hs : selT s whole d.1 with
    | false =>
      rw [if_neg (by simp)]
      refine ⟨i1, fun x => ?_⟩
      rw [i2]
      constructor
      · rintro ⟨t, ht, h⟩; exact ⟨t, List.mem_append_left _ ht, h⟩
      · rintro ⟨t, ht, h1, h2⟩
        rcases List.mem_append.1 ht with ht | ht
        · exact ⟨t, ht, h1, h2⟩
        · rw [List.mem_singleton] at ht; subst ht; rw [hs] at h1; cases h1
    | true =>
      rw [if_pos rfl]
      obtain ⟨m1, m2⟩ := mrgN_up _ (ofT s whole dl) d.2 rfl i1 (term_up hd) (fun x hx hxd => by
        obtain ⟨t, ht, _, hxt⟩ := (i2 x).1 hx
        have h1 := (term_pos (hT t (List.mem_append_left _ ht)) x).1 hxt
        have h2 := (term_pos hd x).1 hxd
        have := raw_inj h1 h2 rfl
        injection this with e _
        exact p3 t ht d (by simp) e)
      refine ⟨m1, fun x => ?_⟩
      rw [m2, i2]
      constructor
      · rintro (⟨t, ht, h⟩ | h)
        · exact ⟨t, List.mem_append_left _ ht, h⟩
        · exact ⟨d, by simp, hs, h⟩
      · rintro ⟨t, ht, h1, h2⟩
        rcases List.mem_append.1 ht with ht | ht
        · exact .inl ⟨t, ht, h1, h2⟩
        · rw [List.mem_singleton] at ht; subst ht; exact .inr h2
theorem ofE_up (s : ByteArray) (whole : Bool) (fs : List Fl) : UpN (ofE s whole fs) ∧ ∀ x, x ∈ ofE s whole fs ↔ ∃ t ∈ addAll (raw fs), selT s whole t.1 = true ∧ x ∈ t.2 :=
  ofT_up fs s whole _ (addAll (raw fs)) rfl (fun _ h => h) (terms_ne fs)
/-- What the index' Prefix puts together at a doc. -/
def catP (b : ByteArray) (fs : List Fl) (TT : List ByteArray) : List Nat := TT.flatMap (fun s => if begB s b then (posOf fs s).getD [] else [])
theorem catP_snoc (b : ByteArray) (fs : List Fl) (TT : List ByteArray) (s : ByteArray) : catP b fs (TT ++ [s]) = catP b fs TT ++ (if begB s b then (posOf fs s).getD [] else []) := by
  simp [catP, List.flatMap_append]
theorem posOf_mem {fs : List Fl} {s : ByteArray} {x : Nat} : x ∈ (posOf fs s).getD [] ↔ (s, x) ∈ raw fs := by
  cases h : posOf fs s with
  | none =>
    simp only [Option.getD_none, List.not_mem_nil, false_iff]
    intro hm
    obtain ⟨t, ht, e⟩ := term_of hm
    have := (posOf_some fs s).2 ⟨t, ht, e⟩
    rw [h] at this
    cases this
  | some q =>
    simp only [Option.getD_some]
    unfold posOf at h
    obtain ⟨t, ht, rfl⟩ := Option.map_eq_some_iff.1 h
    have h2 := List.find?_some ht
    have h3 := of_decide_eq_true h2
    have h4 := term_pos (List.mem_of_find?_eq_some ht) x
    rw [h4, h3]
theorem posOf_nd (fs : List Fl) (s : ByteArray) : ((posOf fs s).getD []).Nodup := by
  cases h : posOf fs s with
  | none => exact List.nodup_nil
  | some q =>
    unfold posOf at h
    obtain ⟨t, ht, rfl⟩ := Option.map_eq_some_iff.1 h
    exact (term_up (List.mem_of_find?_eq_some ht)).imp (fun h => Nat.ne_of_lt h)
theorem catP_mem (b : ByteArray) (fs : List Fl) (TT : List ByteArray) (x : Nat) : x ∈ catP b fs TT ↔ ∃ s ∈ TT, begB s b = true ∧ (s, x) ∈ raw fs := by
  unfold catP
  rw [List.mem_flatMap]
  constructor
  · rintro ⟨s, hs, hx⟩
    cases hb : begB s b with
    | false => rw [hb] at hx; cases hx
    | true => rw [hb] at hx; exact ⟨s, hs, hb, posOf_mem.1 hx⟩
  · rintro ⟨s, hs, hb, hx⟩
    exact ⟨s, hs, by rw [hb]; exact posOf_mem.2 hx⟩
theorem catP_nd (b : ByteArray) (fs : List Fl) : ∀ (TT : List ByteArray), TT.Nodup → (catP b fs TT).Nodup
  | [], _ => List.nodup_nil
  | s :: TT, h => by
    obtain ⟨h1, h2⟩ := List.nodup_cons.1 h
    have e : catP b fs (s :: TT) = (if begB s b then (posOf fs s).getD [] else []) ++ catP b fs TT := by simp [catP]
    rw [e, List.nodup_append]
    refine ⟨?_, catP_nd b fs TT h2, fun x hx y hy exy => ?_⟩
    · split
      · exact posOf_nd fs s
      · exact List.nodup_nil
    · subst exy
      obtain ⟨t, ht, _, hm⟩ := (catP_mem b fs TT x).1 hy
      split at hx
      · have := raw_inj (posOf_mem.1 hx) hm rfl
        injection this with e _
        exact h1 (e ▸ ht)
      · cases hx
/-- Sorted, it is what the document tells. -/
theorem sort_cat {b : ByteArray} {fs : List Fl} {TT : List ByteArray} (hn : TT.Nodup) (hc : ∀ y ∈ raw fs, y.1 ∈ TT) : (((catP b fs TT).map (fun n => ((n : Nat) : Int))).mergeSort fun x y => decide (x ≤ y)) = (ofE b false fs).map (fun n => ((n : Nat) : Int)) := by
  obtain ⟨u1, u2⟩ := ofE_up b false fs
  have hp := List.mergeSort_perm ((catP b fs TT).map (fun n => ((n : Nat) : Int))) (fun x y => decide (x ≤ y))
  refine mem_one (r := fun x y : Int => x < y) (fun x => by omega) (fun x y z h1 h2 => by omega) (fun x => ?_) ?_ ?_
  · rw [hp.mem_iff, List.mem_map, List.mem_map]
    have key : ∀ n, n ∈ catP b fs TT ↔ n ∈ ofE b false fs := fun n => by
      rw [catP_mem, u2]
      constructor
      · rintro ⟨s, hs, hb, hm⟩
        obtain ⟨t, ht, e⟩ := term_of hm
        exact ⟨t, ht, by rw [e]; exact hb, (term_pos ht n).2 (by rw [e]; exact hm)⟩
      · rintro ⟨t, ht, hs, hx⟩
        have hm := (term_pos ht n).1 hx
        exact ⟨t.1, hc _ hm, hs, hm⟩
    constructor
    · rintro ⟨y, hy, e⟩; exact ⟨y, (key y).1 hy, e⟩
    · rintro ⟨y, hy, e⟩; exact ⟨y, (key y).2 hy, e⟩
  · have hs : (((catP b fs TT).map (fun n => ((n : Nat) : Int))).mergeSort fun x y => decide (x ≤ y)).Pairwise (fun x y => decide (x ≤ y) = true) :=
      List.pairwise_mergeSort (le := fun x y => decide (x ≤ y)) (fun a b c h1 h2 => by simp only [decide_eq_true_eq] at *; omega) (fun a b => by simp only [Bool.or_eq_true, decide_eq_true_eq]; omega) _
    have hnd : (((catP b fs TT).map (fun n => ((n : Nat) : Int))).mergeSort fun x y => decide (x ≤ y)).Nodup := by
      rw [hp.nodup_iff]
      exact List.pairwise_map.2 ((catP_nd b fs TT hn).imp (fun {x y} hne e => hne (by omega)))
    refine (hs.and hnd).imp (fun {x y} hxy => ?_)
    obtain ⟨h1, h2⟩ := hxy
    simp only [decide_eq_true_eq] at h1
    omega
  · exact List.pairwise_map.2 (u1.imp (fun {x y} h => by omega))
theorem catP_empty {b : ByteArray} {fs : List Fl} {TT : List ByteArray} (hc : ∀ y ∈ raw fs, y.1 ∈ TT) : catP b fs TT = [] ↔ ofE b false fs = [] := by
  have u2 := (ofE_up b false fs).2
  constructor
  · intro h
    refine List.eq_nil_iff_forall_not_mem.2 (fun n hn => ?_)
    obtain ⟨t, ht, hs, hx⟩ := (u2 n).1 hn
    have hm := (term_pos ht n).1 hx
    have : n ∈ catP b fs TT := (catP_mem b fs TT n).2 ⟨t.1, hc _ hm, hs, hm⟩
    rw [h] at this
    cases this
  · intro h
    refine List.eq_nil_iff_forall_not_mem.2 (fun n hn => ?_)
    obtain ⟨s, hs, hb, hm⟩ := (catP_mem b fs TT n).1 hn
    obtain ⟨t, ht, e⟩ := term_of hm
    have : n ∈ ofE b false fs := (u2 n).2 ⟨t, ht, by rw [e]; exact hb, (term_pos ht n).2 (by rw [e]; exact hm)⟩
    rw [h] at this
    cases this
/-- Where places lie. -/
theorem raw_bd : ∀ (fs : List Fl) (b : Nat), (∀ f ∈ fs, f.2.size ≤ 4096) → ∀ x ∈ (basedL b fs).flatMap rawO, x.2 < b + fs.length * 4160
  | [], b, _, x, hx => (nomatch hx)
  | f :: fs, b, h, x, hx => by
    simp only [basedL, List.flatMap_cons] at hx
    have hw := words_len f.2
    have h1 := h f (List.mem_cons_self ..)
    rw [List.length_cons, Nat.add_mul, Nat.one_mul]
    rcases List.mem_append.1 hx with hx | hx
    · have := ((rawO_up (b, f)).2 x hx).2
      simp only at this
      omega
    · have := raw_bd fs _ (fun g hg => h g (List.mem_cons_of_mem _ hg)) x hx
      omega
theorem ofE_bd {fs : List Fl} (h : chkE fs = 0) (s : ByteArray) (whole : Bool) : ∀ x ∈ ofE s whole fs, x ≤ 1048575 := fun x hx => by
  obtain ⟨t, ht, _, hm⟩ := ((ofE_up s whole fs).2 x).1 hx
  have h1 := (term_pos ht x).1 hm
  have hk := chkE_ok h
  have h2 := raw_bd fs 0 (fun f hf => (hk.2 f hf).2.2) _ h1
  have h3 : fs.length * 4160 ≤ 16 * 4160 := Nat.mul_le_mul_right _ hk.1
  simp only at h2
  omega
end Go.Proofs.YtioekhiaoajgfaaGreat.Mx
