/- Plain: a row is known by how many it has in each bucket; parts merged are as all at once. -/
import Derived.Test.YthhklbjhlfejfaaHistBc
namespace Go.Proofs.Ythhklbjhlfejfaa.Hi
open Go.RowKit
/-- How many a row has in a bucket. -/
def cnt (l : List Bk) (k : Int) : Int := (l.map fun b => if b.1 = k then b.2 else 0).sum
/-- How many a row has. -/
def tot (l : List Bk) : Int := (l.map Prod.snd).sum
theorem cnt_app (a b : List Bk) (k : Int) : cnt (a ++ b) k = cnt a k + cnt b k := by simp [cnt, List.sum_append]
theorem tot_app (a b : List Bk) : tot (a ++ b) = tot a + tot b := by simp [tot, List.sum_append]
theorem cnt_cons (x : Bk) (b : List Bk) (k : Int) : cnt (x :: b) k = (if x.1 = k then x.2 else 0) + cnt b k := by simp [cnt]
theorem tot_cons (x : Bk) (b : List Bk) : tot (x :: b) = x.2 + tot b := by simp [tot]
theorem tot_nonneg {l : List Bk} (h : ∀ b ∈ l, 1 ≤ b.2) : 0 ≤ tot l := by
  induction l with
  | nil => simp [tot]
  | cons x l ih =>
    rw [tot_cons]
    have := h x (by simp)
    have := ih fun b hb => h b (by simp [hb])
    omega
theorem tot_ge {l : List Bk} (h : ∀ b ∈ l, 1 ≤ b.2) : ∀ b ∈ l, b.2 ≤ tot l := by
  induction l with
  | nil => intro b hb; cases hb
  | cons x l ih =>
    intro b hb
    rw [tot_cons]
    have h1 := h x (by simp)
    have h2 := tot_nonneg fun b hb => h b (List.mem_cons_of_mem x hb)
    rcases List.mem_cons.1 hb with rfl | hb
    · omega
    · have := ih (fun b hb => h b (List.mem_cons_of_mem x hb)) b hb
      omega
theorem at_split (l : List Bk) (p : Nat) (h : p < l.length) : l = l.take p ++ l[p] :: l.drop (p + 1) := by rw [List.getElem_cons_drop, List.take_append_drop]
/-- What a put does to the numbers, and that it is well where there are few. -/
theorem putF_few {l : List Bk} (hF : Fine l) (k n : Int) (hs : tot l + n ≤ mostN) :
    (putF l k n).2 = true ∧ (∀ j, cnt (putF l k n).1 j = cnt l j + (if k = j then n else 0)) ∧ tot (putF l k n).1 = tot l + n := by
  have h0 := tot_nonneg hF.one
  unfold putF
  split
  · rename_i hf
    obtain ⟨hlt, hk⟩ := hf
    have hgd : l.getD (pos l k) (0, 0) = l[pos l k] := by rw [List.getD_eq_getElem?_getD, List.getElem?_eq_getElem hlt]; rfl
    rw [hgd] at hk ⊢
    have hy := tot_ge hF.one _ (List.getElem_mem hlt)
    rw [if_neg (by omega)]
    have hsp := at_split l (pos l k) hlt
    have hset : l.set (pos l k) (k, l[pos l k].2 + n) = l.take (pos l k) ++ (k, l[pos l k].2 + n) :: l.drop (pos l k + 1) := by rw [List.set_eq_take_append_cons_drop, if_pos hlt]
    refine ⟨rfl, fun j => ?_, ?_⟩
    · have e : cnt l j = cnt (l.take (pos l k)) j + ((if l[pos l k].1 = j then l[pos l k].2 else 0) + cnt (l.drop (pos l k + 1)) j) := by
        rw [← cnt_cons, ← cnt_app, ← hsp]
      show cnt (l.set _ _) j = _
      rw [hset, cnt_app, cnt_cons, e, hk]
      show _ + ((if k = j then _ else 0) + _) = _
      split <;> omega
    · have e : tot l = tot (l.take (pos l k)) + (l[pos l k].2 + tot (l.drop (pos l k + 1))) := by
        rw [← tot_cons, ← tot_app, ← hsp]
      show tot (l.set _ _) = _
      rw [hset, tot_app, tot_cons, e]
      show _ + (l[pos l k].2 + n + _) = _
      omega
  · have hsp : l = l.take (pos l k) ++ l.drop (pos l k) := (List.take_append_drop _ _).symm
    refine ⟨decide_eq_true (by omega), fun j => ?_, ?_⟩
    · have e : cnt l j = cnt (l.take (pos l k)) j + cnt (l.drop (pos l k)) j := by rw [← cnt_app, ← hsp]
      show cnt (_ ++ _ :: _) j = _
      rw [cnt_app, cnt_cons, e]
      show _ + ((if k = j then n else 0) + _) = _
      omega
    · have e : tot l = tot (l.take (pos l k)) + tot (l.drop (pos l k)) := by rw [← tot_app, ← hsp]
      show tot (_ ++ _ :: _) = _
      rw [tot_app, tot_cons, e]
      show _ + (n + _) = _
      omega
theorem cnt_above {l : List Bk} {k : Int} (h : ∀ b ∈ l, k < b.1) : cnt l k = 0 := by
  induction l with
  | nil => rfl
  | cons x l ih =>
    rw [cnt_cons, ih fun b hb => h b (by simp [hb])]
    have := h x (by simp)
    rw [if_neg (by omega)]
    rfl
theorem cnt_pos {l : List Bk} {k : Int} (h1 : ∀ b ∈ l, 1 ≤ b.2) (h : cnt l k ≠ 0) : ∃ b ∈ l, b.1 = k := by
  induction l with
  | nil => exact absurd rfl h
  | cons x l ih =>
    by_cases e : x.1 = k
    · exact ⟨x, by simp, e⟩
    · rw [cnt_cons, if_neg e, Int.zero_add] at h
      obtain ⟨b, hb, he⟩ := ih (fun b hb => h1 b (by simp [hb])) h
      exact ⟨b, by simp [hb], he⟩
theorem row_ext : ∀ {l m : List Bk}, l.Pairwise (fun a b => a.1 < b.1) → m.Pairwise (fun a b => a.1 < b.1) → (∀ b ∈ l, 1 ≤ b.2) → (∀ b ∈ m, 1 ≤ b.2) → (∀ k, cnt l k = cnt m k) → l = m
  | [], [], _, _, _, _, _ => rfl
  | [], c :: m, _, pm, _, hm, h => by
    rw [List.pairwise_cons] at pm
    have := h c.1
    rw [cnt_cons, if_pos rfl, cnt_above pm.1] at this
    have h1 := hm c (by simp)
    simp [cnt] at this
    omega
  | b :: l, [], pl, _, hl, _, h => by
    rw [List.pairwise_cons] at pl
    have := h b.1
    rw [cnt_cons, if_pos rfl, cnt_above pl.1] at this
    have h1 := hl b (by simp)
    simp [cnt] at this
    omega
  | b :: l, c :: m, pl, pm, hl, hm, h => by
    have pl' := List.pairwise_cons.1 pl
    have pm' := List.pairwise_cons.1 pm
    have hb1 := hl b (by simp)
    have hc1 := hm c (by simp)
    have eb : cnt (b :: l) b.1 = b.2 := by rw [cnt_cons, if_pos rfl, cnt_above pl'.1]; omega
    have ec : cnt (c :: m) c.1 = c.2 := by rw [cnt_cons, if_pos rfl, cnt_above pm'.1]; omega
    have k1 : c.1 ≤ b.1 := by
      obtain ⟨x, hx, e⟩ := cnt_pos hm (k := b.1) (by rw [← h, eb]; omega)
      rcases List.mem_cons.1 hx with rfl | hx
      · omega
      · have := pm'.1 x hx; omega
    have k2 : b.1 ≤ c.1 := by
      obtain ⟨x, hx, e⟩ := cnt_pos hl (k := c.1) (by rw [h, ec]; omega)
      rcases List.mem_cons.1 hx with rfl | hx
      · omega
      · have := pl'.1 x hx; omega
    have e1 : b.1 = c.1 := by omega
    have e2 : b.2 = c.2 := by rw [← eb, ← ec, ← e1, h]
    have e : b = c := Prod.ext e1 e2
    subst e
    have : l = m := row_ext pl'.2 pm'.2 (fun x hx => hl x (by simp [hx])) (fun x hx => hm x (by simp [hx])) (fun k => by
      have := h k
      rw [cnt_cons, cnt_cons] at this
      omega)
    rw [this]
theorem fine_ext {l m : List Bk} (hl : Fine l) (hm : Fine m) (h : ∀ k, cnt l k = cnt m k) : l = m := row_ext ((up_iff l).1 hl.up) ((up_iff m).1 hm.up) hl.one hm.one h
theorem putsF_few : ∀ (bs l : List Bk), Fine l → (∀ b ∈ bs, 1 ≤ b.2) → tot l + tot bs ≤ mostN → ∃ m, putsF l bs = some m ∧ Fine m ∧ (∀ k, cnt m k = cnt l k + cnt bs k) ∧ tot m = tot l + tot bs
  | [], l, hl, _, _ => ⟨l, rfl, hl, fun k => by simp [cnt], by simp [tot]⟩
  | b :: bs, l, hl, hb, hs => by
    rw [tot_cons] at hs
    have hb1 := hb b (by simp)
    have hbn := tot_nonneg fun x hx => hb x (List.mem_cons_of_mem b hx)
    obtain ⟨h1, h2, h3⟩ := putF_few hl b.1 b.2 (by omega)
    obtain ⟨m, e, hm, hc, ht⟩ := putsF_few bs _ (putF_fine hl b.1 b.2 hb1) (fun x hx => hb x (List.mem_cons_of_mem b hx)) (by rw [h3]; omega)
    refine ⟨m, ?_, hm, fun k => ?_, ?_⟩
    · show (if (putF l b.1 b.2).2 = true then _ else none) = _
      rw [if_pos h1]
      exact e
    · rw [hc, h2, cnt_cons]; omega
    · rw [ht, h3, tot_cons]; omega
theorem ofF_cnt (d : Int) (ts : List Int) : ∀ k, k ≤ ts.length → k ≤ 1000 → tot (ofF d (ts.take k)) = k ∧ ∀ j, cnt (ofF d (ts.take k)) j = ((ts.take k).map fun t => if t / d = j then (1 : Int) else 0).sum
  | 0, _, _ => ⟨rfl, fun _ => rfl⟩
  | k + 1, h, hk => by
    obtain ⟨ih1, ih2⟩ := ofF_cnt d ts k (by omega) (by omega)
    have hg := (ofF_good d ts k (by omega)).1
    obtain ⟨_, h2, h3⟩ := putF_few hg (ts[k] / d) 1 (by rw [ih1]; unfold mostN; omega)
    rw [ofF_take d ts k h]
    refine ⟨by rw [h3, ih1]; omega, fun j => ?_⟩
    rw [h2, ih2, List.take_succ_eq_append_getElem h, List.map_append, List.sum_append]
    simp
/-- Parts, merged. -/
theorem parts_merge (d : Int) (a b : List Int) (ha : a.length ≤ 60) (hb : b.length ≤ 60) : putsF [] (ofF d a ++ ofF d b) = some (ofF d (a ++ b)) ∧ tot (ofF d (a ++ b)) = a.length + b.length := by
  have ga := ofF_good d a a.length (Nat.le_refl _)
  have gb := ofF_good d b b.length (Nat.le_refl _)
  have gab := ofF_good d (a ++ b) (a ++ b).length (Nat.le_refl _)
  have ca := ofF_cnt d a a.length (Nat.le_refl _) (by omega)
  have cb := ofF_cnt d b b.length (Nat.le_refl _) (by omega)
  have cab := ofF_cnt d (a ++ b) (a ++ b).length (Nat.le_refl _) (by rw [List.length_append]; omega)
  rw [List.take_length] at ga gb gab ca cb cab
  obtain ⟨m, e, hm, hc, _⟩ := putsF_few (ofF d a ++ ofF d b) [] Fine.nil (fun x hx => by
    rcases List.mem_append.1 hx with h | h
    · exact ga.1.one x h
    · exact gb.1.one x h) (by rw [tot_app, ca.1, cb.1]; show (0 : Int) + _ ≤ _; unfold mostN; omega)
  have : m = ofF d (a ++ b) := fine_ext hm gab.1 fun k => by
    rw [hc, cnt_app, ca.2, cb.2, cab.2, List.map_append, List.sum_append]
    show (0 : Int) + _ = _
    omega
  rw [e, this]
  refine ⟨rfl, ?_⟩
  rw [cab.1, List.length_append]
  omega
/-- The sum that wraps, where there are few. -/
theorem totF_few {l : List Bk} (h1 : ∀ b ∈ l, 1 ≤ b.2) (h : tot l ≤ 1000000) : totF l = tot l := by
  have gen : ∀ (l : List Bk) (a : Int), (∀ b ∈ l, 1 ≤ b.2) → 0 ≤ a → a + tot l ≤ 1000000 → l.foldl (fun a b => wrap64 (a + b.2)) a = a + tot l := by
    intro l
    induction l with
    | nil => intro a _ _ _; simp [tot]
    | cons x l ih =>
      intro a h1 h0 hs
      have hx := h1 x (by simp)
      have hn := tot_nonneg fun b hb => h1 b (List.mem_cons_of_mem x hb)
      rw [tot_cons] at hs ⊢
      show l.foldl _ (wrap64 (a + x.2)) = _
      rw [IntWalk.wrap64_in _ (by omega), ih _ (fun b hb => h1 b (List.mem_cons_of_mem x hb)) (by omega) (by omega)]
      omega
  have := gen l 0 h1 (by omega) (by omega)
  rw [Int.zero_add] at this
  exact this
end Go.Proofs.Ythhklbjhlfejfaa.Hi
