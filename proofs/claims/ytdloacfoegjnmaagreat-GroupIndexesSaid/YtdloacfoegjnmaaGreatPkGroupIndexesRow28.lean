/- The most frequent ones: plain. No program in sight. -/
import Derived.Sort.Grow
import Derived.Test.YtdloacfoegjnmaaGreatGrEPk
import Derived.Test.YtdloacfoegjnmaaGreatShelfPk
section
namespace Go.Proofs.YtdloacfoegjnmaaGreat.Gr
open Go.RowKit Go.Proofs.YtdloacfoegjnmaaGreat Go.Proofs.YtdloacfoegjnmaaGreat.Ut Go.Proofs.YtdloacfoegjnmaaGreat.Tk
set_option linter.unusedVariables false
set_option linter.unusedSimpArgs false

/-- Where one of n more stands among those that stand by falling numbers: sought from behind. -/
def posT (l : List Ct) (n : Int) : Nat → Nat
  | 0 => 0
  | k + 1 => if (l[k]?).any (fun x => decide (x.2 < n)) = true then posT l n k else k + 1
def insT (out : List Ct) (c : Ct) : List Ct := out.take (posT out c.2 out.length) ++ [c] ++ out.drop (posT out c.2 out.length)
def topR (l : List Ct) : List Ct := l.foldl insT []
theorem topR_snoc (l : List Ct) (k : Nat) (h : k < l.length) : topR (l.take (k + 1)) = insT (topR (l.take k)) l[k] := by
  unfold topR
  rw [List.take_succ_eq_append_getElem h, List.foldl_append]
  rfl
theorem posT_le (l : List Ct) (n : Int) : ∀ k, posT l n k ≤ k
  | 0 => Nat.le_refl _
  | k + 1 => by
    rw [posT]
    split
    · exact Nat.le_succ_of_le (posT_le l n k)
    · exact Nat.le_refl _
theorem insT_len (out : List Ct) (c : Ct) : (insT out c).length = out.length + 1 := by
  unfold insT
  have := posT_le out c.2 out.length
  simp only [List.length_append, List.length_take, List.length_drop, List.length_singleton]
  omega
theorem topR_len (l : List Ct) : (topR l).length = l.length := by
  have go : ∀ (l : List Ct) (a : List Ct), (l.foldl insT a).length = a.length + l.length := by
    intro l
    induction l with
    | nil => intro a; rfl
    | cons c l ih => intro a; rw [List.foldl_cons, ih, insT_len, List.length_cons]; omega
  have := go l []
  simpa [topR] using this
theorem insT_perm (out : List Ct) (c : Ct) : (insT out c).Perm (out ++ [c]) := by
  unfold insT
  generalize posT out c.2 out.length = k
  have h1 : (out.take k ++ [c] ++ out.drop k).Perm (out.take k ++ (out.drop k ++ [c])) := by
    rw [List.append_assoc]
    exact List.Perm.append_left _ List.perm_append_comm
  rw [← List.append_assoc, List.take_append_drop] at h1
  exact h1
theorem foldl_perm : ∀ (l a : List Ct), (l.foldl insT a).Perm (a ++ l)
  | [], a => by simp
  | c :: l, a => by
    rw [List.foldl_cons]
    have h := (foldl_perm l (insT a c)).trans ((insT_perm a c).append_right l)
    rwa [List.append_assoc] at h
theorem topR_perm (l : List Ct) : (topR l).Perm l := by
  have := foldl_perm l []
  simpa [topR] using this

/-- More of it first; of as many, by rising words. -/
def ltT (x y : Ct) : Prop := y.2 < x.2 ∨ (x.2 = y.2 ∧ ltS x.1 y.1 = true)
theorem ltS_trans {a b c : ByteArray} (h1 : ltS a b = true) (h2 : ltS b c = true) : ltS a c = true := bl_trans _ _ _ h1 h2
theorem ltS_irrefl (a : ByteArray) : ltS a a = false := bl_irrefl _
theorem ltT_trans {x y z : Ct} (h1 : ltT x y) (h2 : ltT y z) : ltT x z := by
  unfold ltT at *
  rcases h1 with h1 | ⟨e1, h1⟩
  · rcases h2 with h2 | ⟨e2, h2⟩
    · left; omega
    · left; omega
  · rcases h2 with h2 | ⟨e2, h2⟩
    · left; omega
    · right; exact ⟨by omega, ltS_trans h1 h2⟩
theorem ltT_irrefl (x : Ct) : ¬ ltT x x := by
  unfold ltT
  rintro (h | ⟨_, h⟩)
  · omega
  · rw [ltS_irrefl] at h; cases h
/-- Behind the place all are fewer; ahead of it, where the row falls, none. -/
theorem posT_behind (l : List Ct) (n : Int) : ∀ k, k ≤ l.length → ∀ j (_hj : j < k) (h : j < l.length), posT l n k ≤ j → l[j].2 < n
  | 0, _, j, hj, _, _ => absurd hj (by omega)
  | k + 1, hk, j, hj, h, hp => by
    rw [posT] at hp
    have hkl : k < l.length := by omega
    rw [List.getElem?_eq_getElem hkl, Option.any_some] at hp
    split at hp
    · rename_i hd
      have hd : l[k].2 < n := of_decide_eq_true hd
      by_cases e : j = k
      · subst e; exact hd
      · exact posT_behind l n k (by omega) j (by omega) h hp
    · omega
theorem posT_ahead (l : List Ct) (n : Int) : ∀ k, k ≤ l.length → 0 < posT l n k → ∃ h : posT l n k - 1 < l.length, n ≤ (l[posT l n k - 1]'h).2
  | 0, _, h => absurd h (by simp [posT])
  | k + 1, hk, hp => by
    have hkl : k < l.length := by omega
    have e : posT l n (k + 1) = if decide (l[k].2 < n) = true then posT l n k else k + 1 := by rw [posT, List.getElem?_eq_getElem hkl, Option.any_some]
    by_cases hd : l[k].2 < n
    · rw [if_pos (decide_eq_true hd)] at e
      rw [e] at hp
      obtain ⟨h1, h2⟩ := posT_ahead l n k (by omega) hp
      simp only [e]
      exact ⟨h1, h2⟩
    · rw [if_neg (by rw [decide_eq_false hd]; decide)] at e
      simp only [e]
      exact ⟨by omega, by simpa using hd⟩
theorem insT_sorted {out : List Ct} {c : Ct} (hs : out.Pairwise ltT) (hw : ∀ x ∈ out, ltS x.1 c.1 = true) : (insT out c).Pairwise ltT := by
  unfold insT
  have hb := posT_behind out c.2 out.length (Nat.le_refl _)
  have ha := posT_ahead out c.2 out.length (Nat.le_refl _)
  have hle := posT_le out c.2 out.length
  generalize posT out c.2 out.length = p at *
  have hfirst : ∀ x ∈ out.take p, ltT x c := fun x hx => by
    obtain ⟨i, hi, rfl⟩ := List.getElem_of_mem hx
    rw [List.length_take] at hi
    rw [List.getElem_take]
    have hil : i < out.length := by omega
    obtain ⟨h1, h2⟩ := ha (by omega)
    have hge : c.2 ≤ out[i].2 := by
      by_cases e : i = p - 1
      · subst e; exact h2
      · have := List.pairwise_iff_getElem.1 hs i (p - 1) hil h1 (by omega)
        unfold ltT at this
        rcases this with h | ⟨h, _⟩ <;> omega
    unfold ltT
    by_cases e : c.2 < out[i].2
    · exact .inl e
    · exact .inr ⟨by omega, hw _ (List.getElem_mem hil)⟩
  have hlast : ∀ x ∈ out.drop p, ltT c x := fun x hx => by
    obtain ⟨i, hi, rfl⟩ := List.getElem_of_mem hx
    rw [List.length_drop] at hi
    rw [List.getElem_drop]
    exact .inl (hb (p + i) (by omega) (by omega) (by omega))
  have htd : (out.take p ++ out.drop p).Pairwise ltT := by rw [List.take_append_drop]; exact hs
  obtain ⟨q1, q2, q3⟩ := List.pairwise_append.1 htd
  rw [List.append_assoc]
  refine List.pairwise_append.2 ⟨q1, List.pairwise_append.2 ⟨List.pairwise_singleton _ _, q2, fun x hx y hy => ?_⟩, fun x hx y hy => ?_⟩
  · rw [List.mem_singleton] at hx; rw [hx]; exact hlast y hy
  · rcases List.mem_append.1 hy with hy | hy
    · rw [List.mem_singleton] at hy; rw [hy]; exact hfirst x hx
    · exact q3 x hx y hy
theorem foldl_sorted : ∀ (l a : List Ct), a.Pairwise ltT → l.Pairwise (fun x y => ltS x.1 y.1 = true) → (∀ x ∈ a, ∀ y ∈ l, ltS x.1 y.1 = true) → (l.foldl insT a).Pairwise ltT
  | [], a, h, _, _ => h
  | c :: l, a, h, hl, hx => by
    rw [List.foldl_cons]
    obtain ⟨h1, h2⟩ := List.pairwise_cons.1 hl
    refine foldl_sorted l _ (insT_sorted h (fun x hm => hx x hm c (List.mem_cons_self ..))) h2 (fun x hm y hy => ?_)
    rcases List.mem_append.1 ((insT_perm a c).mem_iff.1 hm) with hm | hm
    · exact hx x hm y (List.mem_cons_of_mem _ hy)
    · rw [List.mem_singleton] at hm; rw [hm]; exact h1 y hy
theorem topR_sorted {l : List Ct} (h : l.Pairwise (fun x y => ltS x.1 y.1 = true)) : (topR l).Pairwise ltT := foldl_sorted l [] List.Pairwise.nil h (fun x hx => by cases hx)
/-- Of what stands in a strict order there is one row alone. -/
theorem sorted_one {r : Ct → Ct → Prop} (hi : ∀ x, ¬ r x x) (ht : ∀ x y z, r x y → r y z → r x z) : ∀ {l m : List Ct}, l.Perm m → l.Pairwise r → m.Pairwise r → l = m
  | [], m, hp, _, _ => hp.nil_eq
  | x :: l, [], hp, _, _ => by have := hp.length_eq; simp at this
  | x :: l, y :: m, hp, hl, hm => by
    obtain ⟨a1, a2⟩ := List.pairwise_cons.1 hl
    obtain ⟨b1, b2⟩ := List.pairwise_cons.1 hm
    have e : x = y := by
      rcases List.mem_cons.1 (hp.mem_iff.1 (List.mem_cons_self ..)) with e | h1
      · exact e
      · rcases List.mem_cons.1 (hp.mem_iff.2 (List.mem_cons_self ..)) with e | h2
        · exact e.symm
        · exact absurd (ht _ _ _ (a1 y h2) (b1 x h1)) (hi x)
    subst e
    rw [sorted_one hi ht hp.cons_inv a2 b2]
/-- What may be stands by rising words. -/
theorem okR_rising {l : List Ct} (h : okR l = true) : l.Pairwise (fun x y => ltS x.1 y.1 = true) := by
  have hk : ∀ k (hk : k < l.length), 0 < k → ltS (l[k - 1]'(by omega)).1 l[k].1 = true := fun k hk h0 => by
    unfold okR at h
    have := List.all_eq_true.1 h k (List.mem_range.2 hk)
    rw [okK_eq hk, decide_eq_false (show ¬ k = 0 by omega)] at this
    simp only [Bool.and_eq_true, Bool.false_or] at this
    exact this.2
  rw [List.pairwise_iff_getElem]
  intro i j hi hj hij
  induction j with
  | zero => omega
  | succ j ih =>
    have hs := hk (j + 1) hj (by omega)
    simp only [Nat.add_sub_cancel] at hs
    by_cases e : i = j
    · subst e; exact hs
    · exact ltS_trans (ih (by omega) (by omega)) hs
/-- The most frequent ones are the one row that stands so. -/
theorem topR_one {l m : List Ct} (h : okR l = true) (hp : m.Perm l) (hs : m.Pairwise ltT) : m = topR l :=
  sorted_one ltT_irrefl (fun _ _ _ => ltT_trans) (hp.trans (topR_perm l).symm) hs (topR_sorted (okR_rising h))
end Go.Proofs.YtdloacfoegjnmaaGreat.Gr
end

section
/- The closures that the order is told by; cmp.Compare, cmp.Or: the walks, the world told to the block. -/
namespace Go.Proofs.YtdloacfoegjnmaaGreat.Gr
open Go.RowKit Go.Proofs.YtdloacfoegjnmaaGreat Go.Proofs.YtdloacfoegjnmaaGreat.Ut Go.Proofs.YtdloacfoegjnmaaGreat.Tk Go.Sort
set_option maxRecDepth 20000
set_option linter.unusedSimpArgs false
set_option linter.unusedVariables false

/-- Draws, and blocks behind: nothing else. -/
def Grw (w w' : World) : Prop := ∃ q os, w' = grow (w.drewN q) os
theorem Grw.refl (w : World) : Grw w w := ⟨0, #[], by rw [grow_empty]; rfl⟩
theorem Grw.trans {a b c : World} (h1 : Grw a b) (h2 : Grw b c) : Grw a c := by
  obtain ⟨q, os, rfl⟩ := h1
  obtain ⟨q', os', rfl⟩ := h2
  refine ⟨q + q', os ++ os', ?_⟩
  rw [show ((grow (a.drewN q) os).drewN q') = grow ((a.drewN q).drewN q') os from rfl, grow_grow, World.drewN_drewN]
theorem Grw.alloc {a b : World} (h : Grw a b) (o : Obj) : Grw a (b.alloc o) := h.trans ⟨0, #[o], by rw [alloc_eq_grow]; rfl⟩
theorem Grw.drew {a b : World} (h : Grw a b) : Grw a b.drew := h.trans ⟨1, #[], by rw [grow_empty]; rfl⟩

def cOr (a b : Int) : Int := if a = 0 then b else a
def cStr (a b : ByteArray) : Int := if ltS a b then -1 else if ltS b a then 1 else 0

set_option maxHeartbeats 400000 in
theorem topN_any (s : ByteArray) (n : Int) (w : World) : Calls Tryz.prog 39 #[.agg #[.string s, .int .i64 n]] w fun e w' => e = .returned (.int .i64 (wrap64 (-n))) ∧ Grw w w' := by
  go_enter Tryz.func39, Tryz.ntmps39
  go_wp2
  go_ret
  exact ⟨rfl, (Grw.refl w).alloc _⟩
theorem topW_any (s : ByteArray) (n : Int) (w : World) : Calls Tryz.prog 40 #[.agg #[.string s, .int .i64 n]] w fun e w' => e = .returned (.string s) ∧ Grw w w' := by
  go_enter Tryz.func40, Tryz.ntmps40
  go_wp2
  go_ret
  exact ⟨rfl, (Grw.refl w).alloc _⟩
theorem rowW_any (s : ByteArray) (n : Int) (w : World) : Calls Tryz.prog 57 #[.agg #[.string s, .int .i64 n]] w fun e w' => e = .returned (.string s) ∧ Grw w w' := by
  go_enter Tryz.func57, Tryz.ntmps57
  go_wp2
  go_ret
  exact ⟨rfl, (Grw.refl w).alloc _⟩
theorem rowN_any (s : ByteArray) (n : Int) (w : World) : Calls Tryz.prog 58 #[.agg #[.string s, .int .i64 n]] w fun e w' => e = .returned (.int .i64 n) ∧ Grw w w' := by
  go_enter Tryz.func58, Tryz.ntmps58
  go_wp2
  go_ret
  exact ⟨rfl, (Grw.refl w).alloc _⟩
theorem compareI_any (x y : Int) (w : World) : Calls Tryz.prog 66 #[.int .i64 x, .int .i64 y] w fun e w' => e = .returned (.int .i64 (Lib.compareInt x y)) ∧ w' = w := Tryz.cmp_Compare_int x y w
theorem nanS_any (s : ByteArray) (w : World) : Calls Tryz.prog 82 #[.string s] w fun e w' => e = .returned (.bool false) ∧ Grw w w' := by
  have hl : (s.toList == s.toList) = true := by simp
  go_enter Tryz.func82, Tryz.ntmps82
  go_wp2
  all_goals
    go_ret
    exact ⟨by first | rfl | simp, by first | exact Grw.refl w | exact (Grw.refl w).drew⟩
set_option maxHeartbeats 800000 in
theorem compareS_any (a b : ByteArray) (w : World) : Calls Tryz.prog 67 #[.string a, .string b] w fun e w' => e = .returned (.int .i64 (cStr a b)) ∧ Grw w w' := by
  have c1 := fun wx => nanS_any a wx
  have c2 := fun wx => nanS_any b wx
  have h1 : Op.bytesLess a.toList b.toList = ltS a b := rfl
  have h2 : Op.bytesLess b.toList a.toList = ltS b a := rfl
  have Fin : Hid (cStr a b = if ltS a b then -1 else if ltS b a then 1 else 0) := rfl
  have C2 := Lib.hid c2
  have hl := list_beq a b
  have htot : ltS a b = false → ¬ a = b → ltS b a = true := fun h1 h2 => by
    rcases bl_total a.toList b.toList with h | h | h
    · have h : ltS a b = true := h
      rw [h1] at h; cases h
    · rw [tl, tl] at h
      exact absurd (show a = b by rw [← of_str a, ← of_str b, h]) h2
    · exact h
  have hself : a = b → ltS b a = false := fun e => by subst e; exact ltS_irrefl a
  generalize cStr a b = r at *
  have go : ∀ (t u v : Bool), ltS a b = t → ltS b a = u → decide (a = b) = v → Calls Tryz.prog 67 #[.string a, .string b] w fun e w' => e = .returned (.int .i64 r) ∧ Grw w w' := by
    intro t u v ht hu hv
    rw [ht] at h1
    rw [hu] at h2
    rw [hv] at hl
    have Fin2 : Hid (r = if t then -1 else if u then 1 else 0) := Lib.hid (by rw [Fin.out, ht, hu])
    have Hrel : Hid (t = false → v = false → u = true) := Lib.hid (fun e1 e2 => by rw [← hu]; exact htot (by rw [ht, e1]) (of_decide_eq_false (by rw [hv, e2])))
    have Hrel2 : Hid (v = true → u = false) := Lib.hid (fun e2 => by rw [← hu]; exact hself (of_decide_eq_true (by rw [hv, e2])))
    clear ht hu hv htot hself Fin
    go_enter Tryz.func67, Tryz.ntmps67
    go_wp2_with fail
    refine (c1 _).mono ?_
    rintro e w2 ⟨rfl, hb2⟩
    have Hb2 := Lib.hid hb2
    clear hb2 c1 c2
    go_wp2_with fail
    refine (C2.out _).mono ?_
    rintro e w3 ⟨rfl, hb3⟩
    have Hb3 := Lib.hid (Hb2.out.trans hb3)
    clear hb3 C2 Hb2
    cases t with
    | true =>
      go_wp2
      go_ret
      exact ⟨by rw [Fin2.out]; rfl, Hb3.out⟩
    | false =>
      cases v with
      | true =>
        have hu2 := Hrel2.out rfl
        subst hu2
        go_wp2
        go_ret
        exact ⟨by rw [Fin2.out]; rfl, Hb3.out⟩
      | false =>
        have hu2 := Hrel.out rfl rfl
        subst hu2
        go_wp2
        go_ret
        exact ⟨by rw [Fin2.out]; rfl, Hb3.out⟩
  exact go _ _ _ rfl rfl rfl
set_option maxHeartbeats 800000 in
theorem or_any (A : Option Addr) (c : Nat) (a b : Int) (w : World) (hR : Reads w w.heap.size 1 A 2 [.int .i64 a, .int .i64 b]) :
    Calls Tryz.prog 65 #[.slice A 2 c] w fun e w' => e = .returned (.int .i64 (cOr a b)) ∧ Grw w w' := by
  obtain ⟨bb, o, rfl, hbb, hc⟩ := hR.2 (by decide)
  have h0 := hc 0 _ rfl
  have h1 := hc 1 _ rfl
  simp at h0 h1
  have Fin : Hid (cOr a b = if a = 0 then b else a) := rfl
  clear hR hc
  generalize cOr a b = r at *
  go_enter Tryz.func65, Tryz.ntmps65
  go_wp2_with fail
  go_loopw [8] (fun i wr => ∃ k : Nat, k ≤ 2 ∧ i = .int .i64 (k : Nat) ∧ wr = w ∧ Hid (1 ≤ k → a = 0) ∧ Hid (2 ≤ k → b = 0)) (fun i _ => 2 - (intOf i).toNat)
  case atStart => exact ⟨0, by omega, rfl, rfl, Lib.hid (fun h => absurd h (by omega)), Lib.hid (fun h => absurd h (by omega))⟩
  case round =>
    obtain ⟨k, hk, rfl, rfl, ha, hb⟩ := hrel
    have hk3 : k = 0 ∨ k = 1 ∨ k = 2 := by omega
    rcases hk3 with rfl | rfl | rfl
    · by_cases e : a = 0
      · have He := Lib.hid e
        subst e
        clear ha hb
        go_wp2
        go_roundw
        case rel => exact ⟨1, by omega, by go_num, by trivial, Lib.hid (fun _ => by trivial), Lib.hid (fun h => absurd h (by omega))⟩
        case measure => simp [intOf]
      · have e' : (a != 0) = true := by simpa using e
        have Fin2 : Hid (r = a) := Lib.hid (by rw [Fin.out, if_neg e])
        clear ha hb Fin e
        go_wp2
        go_ret
        exact ⟨by rw [Fin2.out]; rfl, Grw.refl _⟩
    · have ha0 := ha.out (by omega)
      by_cases e : b = 0
      · subst e
        have Ha0 := Lib.hid ha0
        clear ha hb ha0
        go_wp2
        go_roundw
        case rel => exact ⟨2, by omega, by go_num, by trivial, Lib.hid (fun _ => Ha0.out), Lib.hid (fun _ => by trivial)⟩
        case measure => simp [intOf]
      · have e' : (b != 0) = true := by simpa using e
        have Fin2 : Hid (r = b) := Lib.hid (by rw [Fin.out, if_pos ha0])
        clear ha hb Fin e ha0
        go_wp2
        go_ret
        exact ⟨by rw [Fin2.out]; rfl, Grw.refl _⟩
    · have Fin2 : Hid (r = 0) := Lib.hid (by rw [Fin.out, if_pos (ha.out (by omega)), hb.out (by omega)])
      clear ha hb Fin
      go_wp2
      go_ret
      exact ⟨by rw [Fin2.out]; rfl, Grw.refl _⟩
end Go.Proofs.YtdloacfoegjnmaaGreat.Gr
end

section
/- group.ordered's closures: the walks (printed by gen_grh.py). -/
namespace Go.Proofs.YtdloacfoegjnmaaGreat.Gr
open Go.RowKit Go.Proofs.YtdloacfoegjnmaaGreat Go.Proofs.YtdloacfoegjnmaaGreat.Ut Go.Proofs.YtdloacfoegjnmaaGreat.Tk Go.Sort
set_option maxRecDepth 20000
set_option linter.unusedSimpArgs false
set_option linter.unusedVariables false

theorem Grw.size {W w : World} (h : Grw W w) : W.heap.size ≤ w.heap.size := by obtain ⟨q, os, rfl⟩ := h; simp [grow]
theorem Grw.heap {W w : World} (h : Grw W w) {b : Nat} (hb : b < W.heap.size) : w.heap[b]? = W.heap[b]? := by
  obtain ⟨q, os, rfl⟩ := h
  show (W.heap ++ os)[b]? = W.heap[b]?
  rw [Array.getElem?_append_left hb]
theorem Grw.cell {W w : World} (h : Grw W w) {p : Addr} (hb : p.block < W.heap.size) : w.cell? p = W.cell? p := by
  unfold World.cell?
  rw [h.heap hb]
theorem Grw.blk {W w : World} (h : Grw W w) {g : Nat} {t : TypeId} {cs : Array Value} (hB : Blk W g t cs) : Blk w g t cs := by
  have := h.heap hB.lt
  unfold Blk at *
  rw [this]; exact hB
theorem calls_grw {P : Program} {W w : World} {f : FuncId} {args : Array Value} {c : Value} (hC : Grw W w) (h : Calls P f args w fun e w' => e = .returned c ∧ Grw w w') :
    Calls P f args w fun e w' => ∃ v, e = .returned v ∧ Grw w w' ∧ Grw W w' ∧ ∃ x : Unit, v = (fun _ => c) x ∧ True :=
  h.mono fun e w' h => ⟨c, h.1, h.2, hC.trans h.2, (), rfl, trivial⟩


set_option maxHeartbeats 6400000 in
theorem ordT_any (s t : ByteArray) (n m : Int) (b1 b2 : Nat) (w : World) (h1 : w.cell? ⟨b1, 0, none⟩ = some (.func (.func 39) #[] #[])) (h2 : w.cell? ⟨b2, 0, none⟩ = some (.func (.func 40) #[] #[])) :
    Calls Tryz.prog 64 #[.agg #[.string s, .int .i64 n], .agg #[.string t, .int .i64 m], .pointer (some ⟨b1, 0, none⟩), .pointer (some ⟨b2, 0, none⟩)] w fun e w' => e = .returned (.int .i64 (cOr (Lib.compareInt (wrap64 (-n)) (wrap64 (-m))) (cStr s t))) ∧ Grw w w' := by
  have hl1 := World.block_lt_of_cell? w _ h1
  have hl2 := World.block_lt_of_cell? w _ h2
  have hg : Grw w ((w.alloc (.cells #[.string s, .int .i64 n] 62)).alloc (.cells #[.string t, .int .i64 m] 62)) := ((Grw.refl w).alloc _).alloc _
  have hB1 := (Blk.new w 62 #[.string s, .int .i64 n]).alloc (.cells #[.string t, .int .i64 m] 62)
  have hB2 := Blk.new (w.alloc (.cells #[.string s, .int .i64 n] 62)) 62 #[.string t, .int .i64 m]
  have z1 : (w.alloc (.cells #[.string s, .int .i64 n] 62)).heap.size = w.heap.size + 1 := by simp
  rw [z1] at hB2
  have hcells : ∀ wx, Grw ((w.alloc (.cells #[.string s, .int .i64 n] 62)).alloc (.cells #[.string t, .int .i64 m] 62)) wx → wx.cell? ⟨b1, 0, none⟩ = some (.func (.func 39) #[] #[]) ∧ wx.cell? ⟨b2, 0, none⟩ = some (.func (.func 40) #[] #[]) ∧
      wx.cell? ⟨w.heap.size, 0, none⟩ = some (.string s) ∧ wx.cell? ⟨w.heap.size, 1, none⟩ = some (.int .i64 n) ∧ wx.cell? ⟨w.heap.size + 1, 0, none⟩ = some (.string t) ∧ wx.cell? ⟨w.heap.size + 1, 1, none⟩ = some (.int .i64 m) := fun wx hC =>
    ⟨((hg.trans hC).cell (p := ⟨b1, 0, none⟩) hl1).trans h1, ((hg.trans hC).cell (p := ⟨b2, 0, none⟩) hl2).trans h2, (hC.blk hB1).cell 0, (hC.blk hB1).cell 1, (hC.blk hB2).cell 0, (hC.blk hB2).cell 1⟩
  have Hcells := Lib.hid hcells
  have Hg := Lib.hid hg
  clear h1 h2 hl1 hl2 hg hB1 hB2 z1 hcells
  go_enter Tryz.func64, Tryz.ntmps64
  go_upto_region 1 with (fail)
  generalize hw2 : ((w.alloc (.cells #[.string s, .int .i64 n] 62)).alloc (.cells #[.string t, .int .i64 m] 62)) = w2 at *
  clear hw2
  refine wp_region_grow (specOf [(2, ⟨Unit, fun _ => (.int .i64 (wrap64 (-n))), fun _ _ => True⟩), (5, ⟨Unit, fun _ => (.int .i64 (wrap64 (-m))), fun _ _ => True⟩), (6, ⟨Unit, fun _ => (.int .i64 (Lib.compareInt (wrap64 (-n)) (wrap64 (-m)))), fun _ _ => True⟩), (9, ⟨Unit, fun _ => (.string s), fun _ _ => True⟩), (12, ⟨Unit, fun _ => (.string t), fun _ _ => True⟩), (13, ⟨Unit, fun _ => (.int .i64 (cStr s t)), fun _ _ => True⟩), (14, ⟨Nat, fun x => .slice (some ⟨x, 0, none⟩) 2 2, fun g wx => Blk wx g 3 #[.int .i64 (Lib.compareInt (wrap64 (-n)) (wrap64 (-m))), .int .i64 (cStr s t)]⟩), (15, ⟨Unit, fun _ => (.int .i64 (cOr (Lib.compareInt (wrap64 (-n)) (wrap64 (-m))) (cStr s t))), fun _ _ => True⟩)]) (fun wx => Grw w2 wx) Grw (by kernel_rfl) (by kernel_rfl) (stab_cons (fun _ _ _ _ h => h) (stab_cons (fun _ _ _ _ h => h) (stab_cons (fun _ _ _ _ h => h) (stab_cons (fun _ _ _ _ h => h) (stab_cons (fun _ _ _ _ h => h) (stab_cons (fun _ _ _ _ h => h) (stab_cons (fun x w1 w2 hg h => hg.blk h) (stab_cons (fun _ _ _ _ h => h) (stab_nil))))))))) (Grw.refl _).drew ?_
  refine grow_fix 1 ?_ rfl (by rfl) (by rfl) (fun wx hC hD => ?_) ?_
  rotate_left
  · have hSw := Hcells.out wx hC
    go_simp
    all_goals with_reducible rfl
  try simp only [Act.put, List.setIfInBounds_toArray, List.set_cons_zero, List.set_cons_succ]
  refine grow_fix 2 ?_ rfl (by rfl) (by rfl) (fun wx hC hD => ?_) ?_
  rotate_left
  · have hSw := Hcells.out wx hC
    go_simp
    all_goals with_reducible rfl
  try simp only [Act.put, List.setIfInBounds_toArray, List.set_cons_zero, List.set_cons_succ]
  refine grow_give 3 _ rfl (by rfl) (by rfl) (fun wx hC hD => ?_) (fun x => ?_)
  · refine give_enter (f := ?_) (args := ?_) ?_ ?_
    rotate_left 2
    · have hSw := Hcells.out wx hC
      go_simp
      all_goals first | with_reducible rfl | (refine ⟨?_, ?_⟩ <;> with_reducible rfl)
    exact calls_grw hC (topN_any _ _ wx)
  obtain ⟨⟩ := x
  try simp only [Act.put, List.setIfInBounds_toArray, List.set_cons_zero, List.set_cons_succ]
  refine grow_fix 4 ?_ rfl (by rfl) (by rfl) (fun wx hC hD => ?_) ?_
  rotate_left
  · have hSw := Hcells.out wx hC
    go_simp
    all_goals with_reducible rfl
  try simp only [Act.put, List.setIfInBounds_toArray, List.set_cons_zero, List.set_cons_succ]
  refine grow_fix 5 ?_ rfl (by rfl) (by rfl) (fun wx hC hD => ?_) ?_
  rotate_left
  · have hSw := Hcells.out wx hC
    go_simp
    all_goals with_reducible rfl
  try simp only [Act.put, List.setIfInBounds_toArray, List.set_cons_zero, List.set_cons_succ]
  refine grow_give 6 _ rfl (by rfl) (by rfl) (fun wx hC hD => ?_) (fun x => ?_)
  · refine give_enter (f := ?_) (args := ?_) ?_ ?_
    rotate_left 2
    · have hSw := Hcells.out wx hC
      go_simp
      all_goals first | with_reducible rfl | (refine ⟨?_, ?_⟩ <;> with_reducible rfl)
    exact calls_grw hC (topN_any _ _ wx)
  obtain ⟨⟩ := x
  try simp only [Act.put, List.setIfInBounds_toArray, List.set_cons_zero, List.set_cons_succ]
  refine grow_give 7 _ rfl (by rfl) (by rfl) (fun wx hC hD => ?_) (fun x => ?_)
  · refine give_enter (f := ?_) (args := ?_) ?_ ?_
    rotate_left 2
    · have hSw := Hcells.out wx hC
      go_simp
      all_goals first | with_reducible rfl | (refine ⟨?_, ?_⟩ <;> with_reducible rfl)
    exact calls_grw hC ((compareI_any _ _ wx).mono (fun e w' h => ⟨h.1, h.2 ▸ Grw.refl _⟩))
  obtain ⟨⟩ := x
  try simp only [Act.put, List.setIfInBounds_toArray, List.set_cons_zero, List.set_cons_succ]
  refine grow_fix 8 ?_ rfl (by rfl) (by rfl) (fun wx hC hD => ?_) ?_
  rotate_left
  · have hSw := Hcells.out wx hC
    go_simp
    all_goals with_reducible rfl
  try simp only [Act.put, List.setIfInBounds_toArray, List.set_cons_zero, List.set_cons_succ]
  refine grow_fix 9 ?_ rfl (by rfl) (by rfl) (fun wx hC hD => ?_) ?_
  rotate_left
  · have hSw := Hcells.out wx hC
    go_simp
    all_goals with_reducible rfl
  try simp only [Act.put, List.setIfInBounds_toArray, List.set_cons_zero, List.set_cons_succ]
  refine grow_give 10 _ rfl (by rfl) (by rfl) (fun wx hC hD => ?_) (fun x => ?_)
  · refine give_enter (f := ?_) (args := ?_) ?_ ?_
    rotate_left 2
    · have hSw := Hcells.out wx hC
      go_simp
      all_goals first | with_reducible rfl | (refine ⟨?_, ?_⟩ <;> with_reducible rfl)
    exact calls_grw hC (topW_any _ _ wx)
  obtain ⟨⟩ := x
  try simp only [Act.put, List.setIfInBounds_toArray, List.set_cons_zero, List.set_cons_succ]
  refine grow_fix 11 ?_ rfl (by rfl) (by rfl) (fun wx hC hD => ?_) ?_
  rotate_left
  · have hSw := Hcells.out wx hC
    go_simp
    all_goals with_reducible rfl
  try simp only [Act.put, List.setIfInBounds_toArray, List.set_cons_zero, List.set_cons_succ]
  refine grow_fix 12 ?_ rfl (by rfl) (by rfl) (fun wx hC hD => ?_) ?_
  rotate_left
  · have hSw := Hcells.out wx hC
    go_simp
    all_goals with_reducible rfl
  try simp only [Act.put, List.setIfInBounds_toArray, List.set_cons_zero, List.set_cons_succ]
  refine grow_give 13 _ rfl (by rfl) (by rfl) (fun wx hC hD => ?_) (fun x => ?_)
  · refine give_enter (f := ?_) (args := ?_) ?_ ?_
    rotate_left 2
    · have hSw := Hcells.out wx hC
      go_simp
      all_goals first | with_reducible rfl | (refine ⟨?_, ?_⟩ <;> with_reducible rfl)
    exact calls_grw hC (topW_any _ _ wx)
  obtain ⟨⟩ := x
  try simp only [Act.put, List.setIfInBounds_toArray, List.set_cons_zero, List.set_cons_succ]
  refine grow_give 14 _ rfl (by rfl) (by rfl) (fun wx hC hD => ?_) (fun x => ?_)
  · refine give_enter (f := ?_) (args := ?_) ?_ ?_
    rotate_left 2
    · have hSw := Hcells.out wx hC
      go_simp
      all_goals first | with_reducible rfl | (refine ⟨?_, ?_⟩ <;> with_reducible rfl)
    exact calls_grw hC (compareS_any _ _ wx)
  obtain ⟨⟩ := x
  try simp only [Act.put, List.setIfInBounds_toArray, List.set_cons_zero, List.set_cons_succ]
  refine grow_give 15 _ rfl (by rfl) (by rfl) (fun wx hC hD => ?_) (fun x => ?_)
  · refine give_value (u := ?_) (w' := ?_) ?_ ?_ ?_
    rotate_left 2
    · have hSw := Hcells.out wx hC
      go_simp
      all_goals first | with_reducible rfl | (refine ⟨?_, ?_⟩ <;> with_reducible rfl)
    · exact (Grw.refl _).alloc _
    · exact ⟨hC.alloc _, wx.heap.size, rfl, Blk.new _ _ _⟩
  rename Nat => x9
  try simp only [Act.put, List.setIfInBounds_toArray, List.set_cons_zero, List.set_cons_succ]
  refine grow_give 16 _ rfl (by rfl) (by rfl) (fun wx hC hD => ?_) (fun x => ?_)
  · refine give_enter (f := ?_) (args := ?_) ?_ ?_
    rotate_left 2
    · have hSw := Hcells.out wx hC
      go_simp
      all_goals first | with_reducible rfl | (refine ⟨?_, ?_⟩ <;> with_reducible rfl)
    have hbk := upd_hit (deps_get hD 14 (by kernel_rfl)) (by decide)
    exact calls_grw hC (or_any _ _ _ _ wx ⟨by simp, fun _ => ⟨_, _, rfl, hbk.lt, fun j u hj => by rw [Nat.zero_add, hbk.cell j]; simpa using hj⟩⟩)
  obtain ⟨⟩ := x
  try simp only [Act.put, List.setIfInBounds_toArray, List.set_cons_zero, List.set_cons_succ]
  refine grow_fix 17 ?_ rfl (by rfl) (by rfl) (fun wx hC hD => ?_) ?_
  rotate_left
  · have hSw := Hcells.out wx hC
    go_simp
    all_goals with_reducible rfl
  try simp only [Act.put, List.setIfInBounds_toArray, List.set_cons_zero, List.set_cons_succ]
  refine grow_nil (fun w9 hC hF => ?_)
  have hgf := Hg.out.trans hC
  clear hF hC
  go_wp2
  go_ret
  exact ⟨rfl, hgf⟩


set_option maxHeartbeats 6400000 in
theorem ordR_any (s t : ByteArray) (n m : Int) (b1 b2 : Nat) (w : World) (h1 : w.cell? ⟨b1, 0, none⟩ = some (.func (.func 57) #[] #[])) (h2 : w.cell? ⟨b2, 0, none⟩ = some (.func (.func 58) #[] #[])) :
    Calls Tryz.prog 78 #[.agg #[.string s, .int .i64 n], .agg #[.string t, .int .i64 m], .pointer (some ⟨b1, 0, none⟩), .pointer (some ⟨b2, 0, none⟩)] w fun e w' => e = .returned (.int .i64 (cOr (cStr s t) (Lib.compareInt n m))) ∧ Grw w w' := by
  have hl1 := World.block_lt_of_cell? w _ h1
  have hl2 := World.block_lt_of_cell? w _ h2
  have hg : Grw w ((w.alloc (.cells #[.string s, .int .i64 n] 62)).alloc (.cells #[.string t, .int .i64 m] 62)) := ((Grw.refl w).alloc _).alloc _
  have hB1 := (Blk.new w 62 #[.string s, .int .i64 n]).alloc (.cells #[.string t, .int .i64 m] 62)
  have hB2 := Blk.new (w.alloc (.cells #[.string s, .int .i64 n] 62)) 62 #[.string t, .int .i64 m]
  have z1 : (w.alloc (.cells #[.string s, .int .i64 n] 62)).heap.size = w.heap.size + 1 := by simp
  rw [z1] at hB2
  have hcells : ∀ wx, Grw ((w.alloc (.cells #[.string s, .int .i64 n] 62)).alloc (.cells #[.string t, .int .i64 m] 62)) wx → wx.cell? ⟨b1, 0, none⟩ = some (.func (.func 57) #[] #[]) ∧ wx.cell? ⟨b2, 0, none⟩ = some (.func (.func 58) #[] #[]) ∧
      wx.cell? ⟨w.heap.size, 0, none⟩ = some (.string s) ∧ wx.cell? ⟨w.heap.size, 1, none⟩ = some (.int .i64 n) ∧ wx.cell? ⟨w.heap.size + 1, 0, none⟩ = some (.string t) ∧ wx.cell? ⟨w.heap.size + 1, 1, none⟩ = some (.int .i64 m) := fun wx hC =>
    ⟨((hg.trans hC).cell (p := ⟨b1, 0, none⟩) hl1).trans h1, ((hg.trans hC).cell (p := ⟨b2, 0, none⟩) hl2).trans h2, (hC.blk hB1).cell 0, (hC.blk hB1).cell 1, (hC.blk hB2).cell 0, (hC.blk hB2).cell 1⟩
  have Hcells := Lib.hid hcells
  have Hg := Lib.hid hg
  clear h1 h2 hl1 hl2 hg hB1 hB2 z1 hcells
  go_enter Tryz.func78, Tryz.ntmps78
  go_upto_region 1 with (fail)
  generalize hw2 : ((w.alloc (.cells #[.string s, .int .i64 n] 62)).alloc (.cells #[.string t, .int .i64 m] 62)) = w2 at *
  clear hw2
  refine wp_region_grow (specOf [(2, ⟨Unit, fun _ => (.string s), fun _ _ => True⟩), (5, ⟨Unit, fun _ => (.string t), fun _ _ => True⟩), (6, ⟨Unit, fun _ => (.int .i64 (cStr s t)), fun _ _ => True⟩), (9, ⟨Unit, fun _ => (.int .i64 n), fun _ _ => True⟩), (12, ⟨Unit, fun _ => (.int .i64 m), fun _ _ => True⟩), (13, ⟨Unit, fun _ => (.int .i64 (Lib.compareInt n m)), fun _ _ => True⟩), (14, ⟨Nat, fun x => .slice (some ⟨x, 0, none⟩) 2 2, fun g wx => Blk wx g 3 #[.int .i64 (cStr s t), .int .i64 (Lib.compareInt n m)]⟩), (15, ⟨Unit, fun _ => (.int .i64 (cOr (cStr s t) (Lib.compareInt n m))), fun _ _ => True⟩)]) (fun wx => Grw w2 wx) Grw (by kernel_rfl) (by kernel_rfl) (stab_cons (fun _ _ _ _ h => h) (stab_cons (fun _ _ _ _ h => h) (stab_cons (fun _ _ _ _ h => h) (stab_cons (fun _ _ _ _ h => h) (stab_cons (fun _ _ _ _ h => h) (stab_cons (fun _ _ _ _ h => h) (stab_cons (fun x w1 w2 hg h => hg.blk h) (stab_cons (fun _ _ _ _ h => h) (stab_nil))))))))) (Grw.refl _).drew ?_
  refine grow_fix 1 ?_ rfl (by rfl) (by rfl) (fun wx hC hD => ?_) ?_
  rotate_left
  · have hSw := Hcells.out wx hC
    go_simp
    all_goals with_reducible rfl
  try simp only [Act.put, List.setIfInBounds_toArray, List.set_cons_zero, List.set_cons_succ]
  refine grow_fix 2 ?_ rfl (by rfl) (by rfl) (fun wx hC hD => ?_) ?_
  rotate_left
  · have hSw := Hcells.out wx hC
    go_simp
    all_goals with_reducible rfl
  try simp only [Act.put, List.setIfInBounds_toArray, List.set_cons_zero, List.set_cons_succ]
  refine grow_give 3 _ rfl (by rfl) (by rfl) (fun wx hC hD => ?_) (fun x => ?_)
  · refine give_enter (f := ?_) (args := ?_) ?_ ?_
    rotate_left 2
    · have hSw := Hcells.out wx hC
      go_simp
      all_goals first | with_reducible rfl | (refine ⟨?_, ?_⟩ <;> with_reducible rfl)
    exact calls_grw hC (rowW_any _ _ wx)
  obtain ⟨⟩ := x
  try simp only [Act.put, List.setIfInBounds_toArray, List.set_cons_zero, List.set_cons_succ]
  refine grow_fix 4 ?_ rfl (by rfl) (by rfl) (fun wx hC hD => ?_) ?_
  rotate_left
  · have hSw := Hcells.out wx hC
    go_simp
    all_goals with_reducible rfl
  try simp only [Act.put, List.setIfInBounds_toArray, List.set_cons_zero, List.set_cons_succ]
  refine grow_fix 5 ?_ rfl (by rfl) (by rfl) (fun wx hC hD => ?_) ?_
  rotate_left
  · have hSw := Hcells.out wx hC
    go_simp
    all_goals with_reducible rfl
  try simp only [Act.put, List.setIfInBounds_toArray, List.set_cons_zero, List.set_cons_succ]
  refine grow_give 6 _ rfl (by rfl) (by rfl) (fun wx hC hD => ?_) (fun x => ?_)
  · refine give_enter (f := ?_) (args := ?_) ?_ ?_
    rotate_left 2
    · have hSw := Hcells.out wx hC
      go_simp
      all_goals first | with_reducible rfl | (refine ⟨?_, ?_⟩ <;> with_reducible rfl)
    exact calls_grw hC (rowW_any _ _ wx)
  obtain ⟨⟩ := x
  try simp only [Act.put, List.setIfInBounds_toArray, List.set_cons_zero, List.set_cons_succ]
  refine grow_give 7 _ rfl (by rfl) (by rfl) (fun wx hC hD => ?_) (fun x => ?_)
  · refine give_enter (f := ?_) (args := ?_) ?_ ?_
    rotate_left 2
    · have hSw := Hcells.out wx hC
      go_simp
      all_goals first | with_reducible rfl | (refine ⟨?_, ?_⟩ <;> with_reducible rfl)
    exact calls_grw hC (compareS_any _ _ wx)
  obtain ⟨⟩ := x
  try simp only [Act.put, List.setIfInBounds_toArray, List.set_cons_zero, List.set_cons_succ]
  refine grow_fix 8 ?_ rfl (by rfl) (by rfl) (fun wx hC hD => ?_) ?_
  rotate_left
  · have hSw := Hcells.out wx hC
    go_simp
    all_goals with_reducible rfl
  try simp only [Act.put, List.setIfInBounds_toArray, List.set_cons_zero, List.set_cons_succ]
  refine grow_fix 9 ?_ rfl (by rfl) (by rfl) (fun wx hC hD => ?_) ?_
  rotate_left
  · have hSw := Hcells.out wx hC
    go_simp
    all_goals with_reducible rfl
  try simp only [Act.put, List.setIfInBounds_toArray, List.set_cons_zero, List.set_cons_succ]
  refine grow_give 10 _ rfl (by rfl) (by rfl) (fun wx hC hD => ?_) (fun x => ?_)
  · refine give_enter (f := ?_) (args := ?_) ?_ ?_
    rotate_left 2
    · have hSw := Hcells.out wx hC
      go_simp
      all_goals first | with_reducible rfl | (refine ⟨?_, ?_⟩ <;> with_reducible rfl)
    exact calls_grw hC (rowN_any _ _ wx)
  obtain ⟨⟩ := x
  try simp only [Act.put, List.setIfInBounds_toArray, List.set_cons_zero, List.set_cons_succ]
  refine grow_fix 11 ?_ rfl (by rfl) (by rfl) (fun wx hC hD => ?_) ?_
  rotate_left
  · have hSw := Hcells.out wx hC
    go_simp
    all_goals with_reducible rfl
  try simp only [Act.put, List.setIfInBounds_toArray, List.set_cons_zero, List.set_cons_succ]
  refine grow_fix 12 ?_ rfl (by rfl) (by rfl) (fun wx hC hD => ?_) ?_
  rotate_left
  · have hSw := Hcells.out wx hC
    go_simp
    all_goals with_reducible rfl
  try simp only [Act.put, List.setIfInBounds_toArray, List.set_cons_zero, List.set_cons_succ]
  refine grow_give 13 _ rfl (by rfl) (by rfl) (fun wx hC hD => ?_) (fun x => ?_)
  · refine give_enter (f := ?_) (args := ?_) ?_ ?_
    rotate_left 2
    · have hSw := Hcells.out wx hC
      go_simp
      all_goals first | with_reducible rfl | (refine ⟨?_, ?_⟩ <;> with_reducible rfl)
    exact calls_grw hC (rowN_any _ _ wx)
  obtain ⟨⟩ := x
  try simp only [Act.put, List.setIfInBounds_toArray, List.set_cons_zero, List.set_cons_succ]
  refine grow_give 14 _ rfl (by rfl) (by rfl) (fun wx hC hD => ?_) (fun x => ?_)
  · refine give_enter (f := ?_) (args := ?_) ?_ ?_
    rotate_left 2
    · have hSw := Hcells.out wx hC
      go_simp
      all_goals first | with_reducible rfl | (refine ⟨?_, ?_⟩ <;> with_reducible rfl)
    exact calls_grw hC ((compareI_any _ _ wx).mono (fun e w' h => ⟨h.1, h.2 ▸ Grw.refl _⟩))
  obtain ⟨⟩ := x
  try simp only [Act.put, List.setIfInBounds_toArray, List.set_cons_zero, List.set_cons_succ]
  refine grow_give 15 _ rfl (by rfl) (by rfl) (fun wx hC hD => ?_) (fun x => ?_)
  · refine give_value (u := ?_) (w' := ?_) ?_ ?_ ?_
    rotate_left 2
    · have hSw := Hcells.out wx hC
      go_simp
      all_goals first | with_reducible rfl | (refine ⟨?_, ?_⟩ <;> with_reducible rfl)
    · exact (Grw.refl _).alloc _
    · exact ⟨hC.alloc _, wx.heap.size, rfl, Blk.new _ _ _⟩
  rename Nat => x9
  try simp only [Act.put, List.setIfInBounds_toArray, List.set_cons_zero, List.set_cons_succ]
  refine grow_give 16 _ rfl (by rfl) (by rfl) (fun wx hC hD => ?_) (fun x => ?_)
  · refine give_enter (f := ?_) (args := ?_) ?_ ?_
    rotate_left 2
    · have hSw := Hcells.out wx hC
      go_simp
      all_goals first | with_reducible rfl | (refine ⟨?_, ?_⟩ <;> with_reducible rfl)
    have hbk := upd_hit (deps_get hD 14 (by kernel_rfl)) (by decide)
    exact calls_grw hC (or_any _ _ _ _ wx ⟨by simp, fun _ => ⟨_, _, rfl, hbk.lt, fun j u hj => by rw [Nat.zero_add, hbk.cell j]; simpa using hj⟩⟩)
  obtain ⟨⟩ := x
  try simp only [Act.put, List.setIfInBounds_toArray, List.set_cons_zero, List.set_cons_succ]
  refine grow_fix 17 ?_ rfl (by rfl) (by rfl) (fun wx hC hD => ?_) ?_
  rotate_left
  · have hSw := Hcells.out wx hC
    go_simp
    all_goals with_reducible rfl
  try simp only [Act.put, List.setIfInBounds_toArray, List.set_cons_zero, List.set_cons_succ]
  refine grow_nil (fun w9 hC hF => ?_)
  have hgf := Hg.out.trans hC
  clear hF hC
  go_wp2
  go_ret
  exact ⟨rfl, hgf⟩

end Go.Proofs.YtdloacfoegjnmaaGreat.Gr
end
