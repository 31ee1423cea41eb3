/- slices.Grow of nil, slices.Concat of rows of counts. -/
import Derived.Lib.AppendZerosOnto
import Derived.Test.YtjeahdnbpiahaaaGreatGrWaPk
import Derived.Test.YtjeahdnbpiahaaaGreatPkGroupCountsRow31
import Derived.Test.YtjeahdnbpiahaaaGreatPkGroupCountsRow8
section
namespace Go.Proofs.YtjeahdnbpiahaaaGreat.Gr
open Go.RowKit Go.Proofs.YtjeahdnbpiahaaaGreat Go.Proofs.YtjeahdnbpiahaaaGreat.Ut Go.Proofs.YtjeahdnbpiahaaaGreat.Tk Go.Sort Go.Shelf Go.Lib
set_option maxRecDepth 20000
set_option linter.unusedSimpArgs false
set_option linter.unusedVariables false
/-- A row as it lies in a row of rows. -/
structure Rw where
  A : Option Addr
  c : Nat
  l : List Ct
def Rw.val (r : Rw) : Value := .slice r.A r.l.length r.c
/-- Rows in memory, below a block. -/
structure RowsIn (w : World) (B : Nat) (A : Option Addr) (rs : List Rw) : Prop where
  rd : Reads w B 1 A rs.length (rs.map Rw.val)
  row : ∀ r ∈ rs, Reads w B 2 r.A r.l.length (ctC r.l) ∧ r.l.length ≤ r.c ∧ (r.A = none → r.c = 0)
theorem RowsIn.below {w w' : World} {B : Nat} {A : Option Addr} {rs : List Rw} (h : RowsIn w B A rs) (hb : Below B w w') : RowsIn w' B A rs :=
  ⟨h.rd.below hb, fun r hr => ⟨(h.row r hr).1.below hb, (h.row r hr).2⟩⟩
theorem RowsIn.more {w : World} {B B' : Nat} {A : Option Addr} {rs : List Rw} (h : RowsIn w B A rs) (hb : B ≤ B') : RowsIn w B' A rs :=
  ⟨h.rd.more hb, fun r hr => ⟨(h.row r hr).1.more hb, (h.row r hr).2⟩⟩
theorem RowsIn.grow {w w' : World} {A : Option Addr} {rs : List Rw} (h : RowsIn w w.heap.size A rs) (hb : Below w.heap.size w w') : RowsIn w' w'.heap.size A rs := (h.below hb).more hb.size
def lensF (rs : List Rw) : Nat := (rs.map fun r => r.l.length).sum
def flatF (rs : List Rw) : List Ct := rs.flatMap Rw.l
theorem flatF_len (rs : List Rw) : (flatF rs).length = lensF rs := by
  unfold flatF lensF
  rw [List.length_flatMap]
theorem flatF_take (rs : List Rw) (k : Nat) (h : k < rs.length) : flatF (rs.take (k + 1)) = flatF (rs.take k) ++ rs[k].l := by
  unfold flatF
  rw [List.take_succ_eq_append_getElem h, List.flatMap_append, List.flatMap_singleton]
theorem lensF_take (rs : List Rw) (k : Nat) (h : k < rs.length) : lensF (rs.take (k + 1)) = lensF (rs.take k) + rs[k].l.length := by
  rw [← flatF_len, ← flatF_len, flatF_take rs k h, List.length_append]
theorem lensF_le (rs : List Rw) (k : Nat) : lensF (rs.take k) ≤ lensF rs := by
  have h : lensF (rs.take k ++ rs.drop k) = lensF (rs.take k) + lensF (rs.drop k) := by
    unfold lensF
    rw [List.map_append, List.sum_append]
  rw [List.take_append_drop] at h
  omega
theorem rows_at {w : World} {B : Nat} {A : Option Addr} {rs : List Rw} (h : Reads w B 1 A rs.length (rs.map Rw.val)) {k : Nat} (hk : k < rs.length) : ∃ b o, A = some ⟨b, o, none⟩ ∧ b < B ∧ w.cell? ⟨b, o + k, none⟩ = some (.slice rs[k].A rs[k].l.length rs[k].c) := by
  obtain ⟨b, o, _, e, hb, hc⟩ := h.at_map hk
  exact ⟨b, o, e, hb, hc⟩

end Go.Proofs.YtjeahdnbpiahaaaGreat.Gr
end

section
/- Rows as one: plain. -/
namespace Go.Proofs.YtjeahdnbpiahaaaGreat.Gr
open Go.RowKit Go.Proofs.YtjeahdnbpiahaaaGreat Go.Proofs.YtjeahdnbpiahaaaGreat.Ut Go.Proofs.YtjeahdnbpiahaaaGreat.Tk
set_option linter.unusedSimpArgs false
set_option linter.unusedVariables false

/-- What Merge answers. -/
def outM (rs : List Rw) : List Ct × Int := if rs.all (fun r => okR r.l) = true then (match mrgR (flatF rs) [] with | none => ([], 5) | some m => (m, 0)) else ([], 1)
theorem outM_bad {rs : List Rw} {k : Nat} (hk : k < rs.length) (h : okR rs[k].l = false) : outM rs = ([], 1) := by
  unfold outM
  rw [if_neg]
  intro hall
  have := List.all_eq_true.1 hall _ (List.getElem_mem hk)
  rw [h] at this
  cases this
theorem outM_none {rs : List Rw} (h : ∀ k (hk : k < rs.length), okR rs[k].l = true) (hm : mrgR (flatF rs) [] = none) : outM rs = ([], 5) := by
  unfold outM
  rw [if_pos (List.all_eq_true.2 (fun r hr => by obtain ⟨k, hk, rfl⟩ := List.getElem_of_mem hr; exact h k hk)), hm]
theorem outM_some {rs : List Rw} {m : List Ct} (h : ∀ k (hk : k < rs.length), okR rs[k].l = true) (hm : mrgR (flatF rs) [] = some m) : outM rs = (m, 0) := by
  unfold outM
  rw [if_pos (List.all_eq_true.2 (fun r hr => by obtain ⟨k, hk, rfl⟩ := List.getElem_of_mem hr; exact h k hk)), hm]
theorem mrgR_app : ∀ (a b l : List Ct), mrgR (a ++ b) l = (mrgR a l).bind (mrgR b)
  | [], b, l => rfl
  | c :: a, b, l => by
    show (if (withR l c.1 c.2).2 = true then mrgR (a ++ b) (withR l c.1 c.2).1 else none) = (if (withR l c.1 c.2).2 = true then mrgR a (withR l c.1 c.2).1 else none).bind (mrgR b)
    split
    · exact mrgR_app a b _
    · rfl
theorem mrgT_app : ∀ (a b : List Ct) (f : Tb), mrgT (a ++ b) f = (mrgT a f).bind (mrgT b)
  | [], b, f => rfl
  | c :: a, b, f => by
    show (if tooT f c.1 c.2 = true then none else mrgT (a ++ b) (addT f c.1 c.2)) = (if tooT f c.1 c.2 = true then none else mrgT a (addT f c.1 c.2)).bind (mrgT b)
    split
    · rfl
    · exact mrgT_app a b _
theorem mrgR_go {pre bs l : List Ct} (k : Nat) (h : k < bs.length) (h1 : mrgR (pre ++ bs.take k) [] = some l) (h2 : (withR l bs[k].1 bs[k].2).2 = true) : mrgR (pre ++ bs.take (k + 1)) [] = some (withR l bs[k].1 bs[k].2).1 := by
  rw [List.take_succ_eq_append_getElem h, ← List.append_assoc, mrgR_app, h1]
  show (if (withR l bs[k].1 bs[k].2).2 = true then some (withR l bs[k].1 bs[k].2).1 else none) = _
  rw [if_pos h2]
theorem mrgR_no {pre bs l : List Ct} (cs : List Ct) (k : Nat) (h : k < bs.length) (h1 : mrgR (pre ++ bs.take k) [] = some l) (h2 : (withR l bs[k].1 bs[k].2).2 = false) : mrgR (pre ++ bs ++ cs) [] = none := by
  have e : bs = bs.take k ++ bs[k] :: bs.drop (k + 1) := by rw [List.getElem_cons_drop, List.take_append_drop]
  have e2 : pre ++ bs = (pre ++ bs.take k) ++ bs[k] :: bs.drop (k + 1) := by rw [List.append_assoc, ← e]
  rw [e2, List.append_assoc, mrgR_app, h1]
  show (if (withR l bs[k].1 bs[k].2).2 = true then _ else none) = _
  rw [if_neg (by rw [h2]; simp)]
theorem mrgT_go {bs : List Ct} {f : Tb} (k : Nat) (h : k < bs.length) (h1 : mrgT (bs.take k) noT = some f) (h2 : tooT f bs[k].1 bs[k].2 = false) : mrgT (bs.take (k + 1)) noT = some (addT f bs[k].1 bs[k].2) := by
  rw [List.take_succ_eq_append_getElem h, mrgT_app, h1]
  show (if tooT f bs[k].1 bs[k].2 = true then none else some (addT f bs[k].1 bs[k].2)) = _
  rw [if_neg (by rw [h2]; simp)]
theorem mrgT_no {bs : List Ct} {f : Tb} (k : Nat) (h : k < bs.length) (h1 : mrgT (bs.take k) noT = some f) (h2 : tooT f bs[k].1 bs[k].2 = true) : mrgT bs noT = none := by
  have e : bs = bs.take k ++ bs[k] :: bs.drop (k + 1) := by rw [List.getElem_cons_drop, List.take_append_drop]
  rw [e, mrgT_app, h1]
  show (if tooT f bs[k].1 bs[k].2 = true then none else _) = _
  rw [if_pos h2]
theorem flatF_split (rs : List Rw) (i : Nat) (h : i < rs.length) : flatF rs = flatF (rs.take i) ++ rs[i].l ++ flatF (rs.drop (i + 1)) := by
  rw [← flatF_take rs i h]
  unfold flatF
  rw [← List.flatMap_append, List.take_append_drop]
/-- A table whose numbers may be. -/
def TabOk (f : Tb) : Prop := ∀ s n, f s = some n → 1 ≤ n ∧ n ≤ 1099511627776
theorem TabOk.none : TabOk noT := fun s n h => (nomatch h)
theorem tooT_iff {f : Tb} {s : ByteArray} {n : Int} (hn : n ≤ 1099511627776) : tooT f s n = decide (1099511627776 - n < (f s).getD 0) := by
  unfold tooT
  cases f s with
  | none => exact (decide_eq_false (by show ¬ (1099511627776 - n < 0); omega)).symm
  | some m => rfl
theorem TabOk.get {f : Tb} (h : TabOk f) (s : ByteArray) : 0 ≤ (f s).getD 0 ∧ (f s).getD 0 ≤ 1099511627776 := by
  cases e : f s with
  | none => exact ⟨by decide, by decide⟩
  | some m => have := h s m e; exact ⟨by show 0 ≤ m; omega, by show m ≤ _; omega⟩
theorem TabOk.add {f : Tb} (h : TabOk f) {s : ByteArray} {n : Int} (hn : 1 ≤ n ∧ n ≤ 1099511627776) (ht : tooT f s n = false) : TabOk (addT f s n) := by
  intro t m hm
  unfold addT putT at hm
  by_cases e : t = s
  · subst e
    rw [if_pos rfl] at hm
    injection hm with hm
    rw [tooT_iff hn.2, decide_eq_false_iff_not] at ht
    have := h.get t
    omega
  · rw [if_neg e] at hm
    exact h t m hm
theorem okR_w {l : List Ct} (h : okR l = true) : ∀ x ∈ l, x.1.size ≤ 32 := by
  intro x hx
  obtain ⟨k, hk, rfl⟩ := List.getElem_of_mem hx
  unfold okR at h
  have := List.all_eq_true.1 h k (List.mem_range.2 hk)
  rw [okK_eq hk] at this
  simp only [Bool.and_eq_true, decide_eq_true_eq] at this
  have hw := this.1.1.1
  by_cases hs : l[k].1.size ≤ 32
  · exact hs
  · have := isW_len l[k].1.data.toList (by rw [bsize]; omega)
    rw [this] at hw
    cases hw
/-- Every count of rows that may be. -/
theorem flat_ok {rs : List Rw} (h : ∀ k (hk : k < rs.length), okR rs[k].l = true) : ∀ x ∈ flatF rs, (1 ≤ x.2 ∧ x.2 ≤ 1099511627776) ∧ x.1.size ≤ 32 := by
  intro x hx
  obtain ⟨r, hr, hxr⟩ := List.mem_flatMap.1 hx
  obtain ⟨k, hk, rfl⟩ := List.getElem_of_mem hr
  exact ⟨okR_few (h k hk) x hxr, okR_w (h k hk) x hxr⟩
theorem tail_len (l : List Ct) (s : ByteArray) : (lead l s).length + (tail' l s).length = l.length := by
  have := congrArg List.length (lead_tail l s)
  rwa [List.length_append] at this
theorem withR_len (l : List Ct) (s : ByteArray) (n : Int) : (withR l s n).1.length ≤ l.length + 1 := by
  have ht := tail_len l s
  unfold withR
  split
  · rename_i h
    rw [h] at ht
    simp at ht ⊢
    omega
  · rename_i x b h
    rw [h] at ht
    split
    · split
      · simp
      · simp at ht ⊢; omega
    · simp at ht ⊢; omega
def SmallC (l : List Ct) : Prop := ∀ y ∈ l, y.1.size ≤ 140737488351232 ∧ 0 ≤ y.2
theorem withR_small {l : List Ct} {s : ByteArray} {n : Int} (h : SmallC l) (hs : s.size ≤ 140737488351232) (hn : 0 ≤ n) : SmallC (withR l s n).1 := by
  have hl := lead_tail l s
  have h1 : ∀ y ∈ lead l s, y.1.size ≤ 140737488351232 ∧ 0 ≤ y.2 := fun y hy => h y (by rw [← hl]; exact List.mem_append_left _ hy)
  have h2 : ∀ y ∈ tail' l s, y.1.size ≤ 140737488351232 ∧ 0 ≤ y.2 := fun y hy => h y (by rw [← hl]; exact List.mem_append_right _ hy)
  unfold withR SmallC
  split
  · intro y hy
    rcases List.mem_append.1 hy with hy | hy
    · exact h1 y hy
    · rw [List.mem_singleton] at hy; subst hy; exact ⟨hs, hn⟩
  · rename_i x b hb
    rw [hb] at h2
    split
    · split
      · intro y hy; cases hy
      · intro y hy
        rcases List.mem_append.1 hy with hy | hy
        · rcases List.mem_append.1 hy with hy | hy
          · exact h1 y hy
          · rw [List.mem_singleton] at hy; subst hy
            have := (h2 x (List.mem_cons_self ..)).2
            exact ⟨hs, by show 0 ≤ x.2 + n; omega⟩
        · exact h2 y (List.mem_cons_of_mem _ hy)
    · intro y hy
      rcases List.mem_append.1 hy with hy | hy
      · rcases List.mem_append.1 hy with hy | hy
        · exact h1 y hy
        · rw [List.mem_singleton] at hy; subst hy; exact ⟨hs, hn⟩
      · exact h2 y hy
/-- What the program makes of the tables is what the document makes of the rows. -/
theorem outM_tab {rs : List Rw} {f : Tb} {l : List Ct} (h : ∀ k (hk : k < rs.length), okR rs[k].l = true) (hf : mrgT (flatF rs) noT = some f) (hl : IsTab f l) : outM rs = (l, 0) := by
  obtain ⟨m, h1, h2⟩ := (mrg_one (flatF rs) noT [] IsTab.none).2 f hf
  rw [outM_some h h1, h2.one hl]
theorem outM_tabN {rs : List Rw} (h : ∀ k (hk : k < rs.length), okR rs[k].l = true) (hf : mrgT (flatF rs) noT = none) : outM rs = ([], 5) :=
  outM_none h ((mrg_one (flatF rs) noT [] IsTab.none).1 hf)
end Go.Proofs.YtjeahdnbpiahaaaGreat.Gr
end

section
/- Parts of docs, counted and merged: plain. -/
namespace Go.Proofs.YtjeahdnbpiahaaaGreat.Gr
open Go.RowKit Go.Proofs.YtjeahdnbpiahaaaGreat Go.Proofs.YtjeahdnbpiahaaaGreat.Ut Go.Proofs.YtjeahdnbpiahaaaGreat.Tk Go.Proofs.YtjeahdnbpiahaaaGreat.Qy
set_option linter.unusedSimpArgs false
set_option linter.unusedVariables false

theorem w_isW (s : List UInt8) : ∀ x ∈ words s, isW x = true := fun x hx => by
  unfold isW
  rw [(words_word s x hx).1]
  simp
def sumC : List Ct → ByteArray → Int
  | [], _ => 0
  | c :: cs, s => (if c.1 = s then c.2 else 0) + sumC cs s
theorem sumC_app : ∀ (a b : List Ct) (s : ByteArray), sumC (a ++ b) s = sumC a s + sumC b s
  | [], b, s => by simp [sumC]
  | c :: a, b, s => by
    show _ + sumC (a ++ b) s = _ + sumC a s + sumC b s
    rw [sumC_app a b s]
    omega
theorem sumC_pos : ∀ (cs : List Ct) (s : ByteArray), (∀ c ∈ cs, 1 ≤ c.2) → 0 ≤ sumC cs s
  | [], s, _ => Int.le_refl _
  | c :: cs, s, h => by
    have h1 := sumC_pos cs s (fun x hx => h x (List.mem_cons_of_mem _ hx))
    have h2 := h c (List.mem_cons_self ..)
    show 0 ≤ (if c.1 = s then c.2 else 0) + sumC cs s
    split <;> omega
theorem addT_get (f : Tb) (s t : ByteArray) (n : Int) : ((addT f s n) t).getD 0 = (f t).getD 0 + (if s = t then n else 0) := by
  unfold addT putT
  by_cases e : t = s
  · subst e
    rw [if_pos rfl, if_pos rfl]
    rfl
  · rw [if_neg e, if_neg (fun h => e h.symm)]
    omega
theorem mrgT_sum : ∀ (cs : List Ct) (f : Tb), TabOk f → (∀ c ∈ cs, 1 ≤ c.2 ∧ c.2 ≤ 1099511627776) → (∀ s, (f s).getD 0 + sumC cs s ≤ 1099511627776) → ∃ g, mrgT cs f = some g ∧ TabOk g ∧ ∀ s, (g s).getD 0 = (f s).getD 0 + sumC cs s
  | [], f, hf, _, _ => ⟨f, rfl, hf, fun s => by show _ = _ + (0 : Int); omega⟩
  | c :: cs, f, hf, hc, hs => by
    have h1 := hc c (List.mem_cons_self ..)
    have hp := sumC_pos cs c.1 (fun x hx => (hc x (List.mem_cons_of_mem _ hx)).1)
    have hb := hs c.1
    have e : sumC (c :: cs) c.1 = c.2 + sumC cs c.1 := by
      show (if c.1 = c.1 then c.2 else 0) + _ = _
      rw [if_pos rfl]
    rw [e] at hb
    have ht : tooT f c.1 c.2 = false := by
      rw [tooT_iff h1.2]
      exact decide_eq_false (by omega)
    obtain ⟨g, g1, g2, g3⟩ := mrgT_sum cs (addT f c.1 c.2) (hf.add h1 ht) (fun x hx => hc x (List.mem_cons_of_mem _ hx)) (fun s => by
      have := hs s
      rw [addT_get]
      have e : sumC (c :: cs) s = (if c.1 = s then c.2 else 0) + sumC cs s := rfl
      rw [e] at this
      omega)
    refine ⟨g, ?_, g2, fun s => ?_⟩
    · show (if tooT f c.1 c.2 = true then none else mrgT cs (addT f c.1 c.2)) = _
      rw [ht, if_neg (by decide)]
      exact g1
    · rw [g3, addT_get]
      show _ = _ + ((if c.1 = s then c.2 else 0) + sumC cs s)
      omega
theorem sumC_none : ∀ (cs : List Ct) (s : ByteArray), (∀ c ∈ cs, c.1 ≠ s) → sumC cs s = 0
  | [], s, _ => rfl
  | c :: cs, s, h => by
    show (if c.1 = s then c.2 else 0) + sumC cs s = 0
    rw [if_neg (h c (List.mem_cons_self ..)), sumC_none cs s (fun x hx => h x (List.mem_cons_of_mem _ hx))]
    omega
theorem sumC_mem : ∀ (cs : List Ct) (x : Ct), cs.Pairwise (fun x y => x.1 ≠ y.1) → x ∈ cs → sumC cs x.1 = x.2
  | [], x, _, h => (nomatch h)
  | c :: cs, x, hp, h => by
    obtain ⟨h1, h2⟩ := List.pairwise_cons.1 hp
    show (if c.1 = x.1 then c.2 else 0) + sumC cs x.1 = x.2
    rcases List.mem_cons.1 h with rfl | h
    · rw [if_pos rfl, sumC_none cs x.1 (fun y hy e => h1 y hy e.symm)]
      omega
    · rw [if_neg (h1 x h), sumC_mem cs x h2 h]
      omega
theorem tab_ne {f : Tb} {l : List Ct} (h : IsTab f l) : l.Pairwise (fun x y => x.1 ≠ y.1) := h.1.imp (fun {x y} hxy e => by rw [e, ltS_irrefl] at hxy; cases hxy)
theorem sumC_tab {f : Tb} {l : List Ct} (h : IsTab f l) (s : ByteArray) : sumC l s = (f s).getD 0 := by
  cases e : f s with
  | none =>
    exact sumC_none l s (fun c hc ec => by
      have := (h.2 c).1 hc
      rw [ec, e] at this
      cases this)
  | some n =>
    have := sumC_mem l (s, n) (tab_ne h) ((h.2 (s, n)).2 e)
    exact this
theorem tab_eq {f g : Tb} (hf : TabOk f) (hg : TabOk g) (h : ∀ s, (f s).getD 0 = (g s).getD 0) : f = g := by
  funext s
  have hs := h s
  cases e : f s with
  | none =>
    cases e2 : g s with
    | none => rfl
    | some n =>
      rw [e, e2] at hs
      have := hg s n e2
      have hs : (0 : Int) = n := hs
      omega
  | some m =>
    cases e2 : g s with
    | none =>
      rw [e, e2] at hs
      have := hf s m e
      have hs : m = (0 : Int) := hs
      omega
    | some n =>
      rw [e, e2] at hs
      have hs : m = n := hs
      rw [hs]
theorem tabOf_ok {g : ByteArray → Nat} (h : ∀ s, g s ≤ 1099511627776) : TabOk (tabOf g) := by
  intro s n hn
  unfold tabOf at hn
  split at hn
  · cases hn
  · injection hn with hn
    have := h s
    omega
theorem inL_mem {l : List ByteArray} {s : ByteArray} (h : inL l s = true) : s ∈ l := by
  unfold inL at h
  obtain ⟨x, hx, e⟩ := List.any_eq_true.1 h
  rw [← of_decide_eq_true e]
  exact hx
theorem wds_isW (name : ByteArray) (fs : List (ByteArray × ByteArray)) : ∀ s ∈ wdsF name fs, isW s.data.toList = true := by
  intro s hs
  unfold wdsF at hs
  obtain ⟨f, _, hf⟩ := List.mem_flatMap.1 hs
  split at hf
  · obtain ⟨w, hw, rfl⟩ := List.mem_map.1 hf
    rw [str_data]
    exact w_isW _ w hw
  · cases hf
theorem cnt_isW {name : ByteArray} {ds : List Dc} {s : ByteArray} (h : cntN name ds s ≠ 0) : isW s.data.toList = true := by
  have : 0 < ds.countP fun d => inL (wdsF name d.fs) s := Nat.pos_of_ne_zero h
  obtain ⟨d, _, hd⟩ := List.countP_pos_iff.1 this
  exact wds_isW name d.fs s (inL_mem hd)
theorem row_ok {name : ByteArray} {ds : List Dc} {l : List Ct} (h : IsTab (tabOf (cntN name ds)) l) (hl : ds.length ≤ 1099511627776) : okR l = true := by
  refine okR_yes (fun k hk => ?_)
  rw [okK_eq hk]
  have hm := (h.2 l[k]).1 (List.getElem_mem hk)
  have hb := tabOf_ok (fun s => Nat.le_trans (cntN_le name ds s) hl) _ _ hm
  have hne : cntN name ds l[k].1 ≠ 0 := fun e => by
    unfold tabOf at hm
    rw [if_pos e] at hm
    cases hm
  rw [cnt_isW hne, decide_eq_true hb.1, decide_eq_true hb.2]
  by_cases hk0 : k = 0
  · rw [decide_eq_true hk0]; rfl
  · rw [decide_eq_false hk0]
    have := List.pairwise_iff_getElem.1 h.1 (k - 1) k (by omega) hk (by omega)
    rw [this]
    rfl
theorem cntN_app (name : ByteArray) (a b : List Dc) (s : ByteArray) : cntN name (a ++ b) s = cntN name a s + cntN name b s := by
  unfold cntN
  rw [List.countP_append]
/-- Parts, merged, are the whole. -/
theorem parts_law {name : ByteArray} {ds : List Dc} {k : Nat} {a b c : List Ct} {P Q : Option Addr} {p q : Nat} (hl : ds.length ≤ 1099511627776) (ha : IsTab (tabOf (cntN name (ds.take k))) a) (hb : IsTab (tabOf (cntN name (ds.drop k))) b) (hc : IsTab (tabOf (cntN name ds)) c) :
    outM [⟨P, p, a⟩, ⟨Q, q, b⟩] = (c, 0) := by
  have la : (ds.take k).length ≤ 1099511627776 := by rw [List.length_take]; omega
  have lb : (ds.drop k).length ≤ 1099511627776 := by rw [List.length_drop]; omega
  have oa := row_ok ha la
  have ob := row_ok hb lb
  have hok : ∀ j (hj : j < [(⟨P, p, a⟩ : Rw), ⟨Q, q, b⟩].length), okR ([(⟨P, p, a⟩ : Rw), ⟨Q, q, b⟩][j]).l = true := fun j hj => by
    have : j = 0 ∨ j = 1 := by simp at hj; omega
    rcases this with rfl | rfl
    · exact oa
    · exact ob
  have hfl : flatF [⟨P, p, a⟩, ⟨Q, q, b⟩] = a ++ b := by simp [flatF]
  have hsum : ∀ s, sumC (a ++ b) s = (cntN name ds s : Int) := fun s => by
    rw [sumC_app, sumC_tab ha, sumC_tab hb, tabOf_get, tabOf_get]
    have := cntN_app name (ds.take k) (ds.drop k) s
    rw [List.take_append_drop] at this
    omega
  obtain ⟨g, g1, g2, g3⟩ := mrgT_sum (a ++ b) noT TabOk.none (fun x hx => by
    rcases List.mem_append.1 hx with hx | hx
    · exact okR_few oa x hx
    · exact okR_few ob x hx) (fun s => by
    rw [hsum]
    have := cntN_le name ds s
    show (0 : Int) + _ ≤ _
    omega)
  have hg : g = tabOf (cntN name ds) := tab_eq g2 (tabOf_ok (fun s => Nat.le_trans (cntN_le name ds s) hl)) (fun s => by
    rw [g3, hsum, tabOf_get]
    show (0 : Int) + _ = _
    omega)
  refine outM_tab hok (f := g) ?_ (by rw [hg]; exact hc)
  rw [hfl]
  exact g1
theorem few_of : ∀ (l m : List ByteArray), l.Pairwise (fun x y => x ≠ y) → (∀ x ∈ l, x ∈ m) → l.length ≤ m.length
  | [], m, _, _ => Nat.zero_le _
  | x :: l, m, hp, hs => by
    obtain ⟨h1, h2⟩ := List.pairwise_cons.1 hp
    have ih := few_of l (m.filter fun y => !decide (y = x)) h2 (fun y hy => by
      rw [List.mem_filter]
      exact ⟨hs y (List.mem_cons_of_mem _ hy), by have e : ¬ y = x := fun e => h1 y hy e.symm; simp [e]⟩)
    have hlt : (m.filter fun y => !decide (y = x)).length < m.length := by
      rw [List.length_filter_lt_length_iff_exists]
      exact ⟨x, hs x (List.mem_cons_self ..), by simp⟩
    rw [List.length_cons]
    omega
theorem totW_flat (name : ByteArray) (ds : List Dc) : (ds.flatMap fun d => wdsF name d.fs).length = totW name ds := by
  unfold totW
  rw [List.length_flatMap]
theorem tab_len {name : ByteArray} {ds : List Dc} {l : List Ct} (h : IsTab (tabOf (cntN name ds)) l) : l.length ≤ totW name ds := by
  have h1 := few_of (l.map Prod.fst) (ds.flatMap fun d => wdsF name d.fs) (List.pairwise_map.2 (tab_ne h)) (fun s hs => by
    obtain ⟨x, hx, rfl⟩ := List.mem_map.1 hs
    have hm := (h.2 x).1 hx
    have hne : cntN name ds x.1 ≠ 0 := fun e => by
      unfold tabOf at hm
      rw [if_pos e] at hm
      cases hm
    obtain ⟨d, hd, hin⟩ := List.countP_pos_iff.1 (Nat.pos_of_ne_zero hne)
    exact List.mem_flatMap.2 ⟨d, hd, inL_mem hin⟩)
  rw [List.length_map, totW_flat] at h1
  exact h1
theorem totW_app (name : ByteArray) (a b : List Dc) : totW name (a ++ b) = totW name a + totW name b := by
  unfold totW
  rw [List.map_append, List.sum_append]
end Go.Proofs.YtjeahdnbpiahaaaGreat.Gr
end

section
/- The document's Of: plain. -/
namespace Go.Proofs.YtjeahdnbpiahaaaGreat.Gr
open Go.RowKit Go.Proofs.YtjeahdnbpiahaaaGreat Go.Proofs.YtjeahdnbpiahaaaGreat.Ut Go.Proofs.YtjeahdnbpiahaaaGreat.Tk Go.Proofs.YtjeahdnbpiahaaaGreat.Qy
set_option linter.unusedSimpArgs false
set_option linter.unusedVariables false

def addW (out : List ByteArray) (w : ByteArray) : List ByteArray := if inL out w = true then out else out ++ [w]
/-- A field's words, each once. -/
def wdsU (name : ByteArray) (fs : List (ByteArray × ByteArray)) : List ByteArray := (wdsF name fs).foldl addW []
theorem inL_app (a b : List ByteArray) (s : ByteArray) : inL (a ++ b) s = (inL a s || inL b s) := by
  unfold inL
  rw [List.any_append]
theorem inL_one (w s : ByteArray) : inL [w] s = decide (w = s) := by simp [inL]
theorem addW_in (out : List ByteArray) (w s : ByteArray) : inL (addW out w) s = (inL out s || decide (w = s)) := by
  unfold addW
  split
  · rename_i h
    by_cases e : w = s
    · subst e
      rw [h]
      rfl
    · rw [decide_eq_false e, Bool.or_false]
  · rw [inL_app, inL_one]
theorem foldl_in : ∀ (l out : List ByteArray) (s : ByteArray), inL (l.foldl addW out) s = (inL out s || inL l s)
  | [], out, s => by simp [inL]
  | w :: l, out, s => by
    rw [List.foldl_cons, foldl_in l, addW_in]
    show _ = (inL out s || (decide (w = s) || inL l s))
    rw [Bool.or_assoc]
theorem addW_ne {out : List ByteArray} {w : ByteArray} (h : out.Pairwise (fun x y => x ≠ y)) : (addW out w).Pairwise (fun x y => x ≠ y) := by
  unfold addW
  split
  · exact h
  · rename_i hn
    refine List.pairwise_append.2 ⟨h, List.pairwise_singleton _ _, fun x hx y hy e => ?_⟩
    rw [List.mem_singleton] at hy
    subst hy
    subst e
    exact hn (List.any_eq_true.2 ⟨x, hx, decide_eq_true rfl⟩)
theorem foldl_ne : ∀ (l out : List ByteArray), out.Pairwise (fun x y => x ≠ y) → (l.foldl addW out).Pairwise (fun x y => x ≠ y)
  | [], out, h => h
  | w :: l, out, h => foldl_ne l _ (addW_ne h)
theorem addW_len (out : List ByteArray) (w : ByteArray) : (addW out w).length ≤ out.length + 1 := by
  unfold addW
  split
  · omega
  · rw [List.length_append, List.length_singleton]; omega
theorem foldl_len : ∀ (l out : List ByteArray), (l.foldl addW out).length ≤ out.length + l.length
  | [], out => Nat.le_refl _
  | w :: l, out => by
    have h1 := foldl_len l (addW out w)
    have h2 := addW_len out w
    rw [List.foldl_cons, List.length_cons]
    omega
theorem foldl_all (p : ByteArray → Prop) : ∀ (l out : List ByteArray), (∀ x ∈ out, p x) → (∀ x ∈ l, p x) → ∀ x ∈ l.foldl addW out, p x
  | [], out, h, _ => h
  | w :: l, out, h, hl => by
    refine foldl_all p l (addW out w) (fun x hx => ?_) (fun x hx => hl x (List.mem_cons_of_mem _ hx))
    unfold addW at hx
    split at hx
    · exact h x hx
    · rcases List.mem_append.1 hx with hx | hx
      · exact h x hx
      · rw [List.mem_singleton] at hx
        subst hx
        exact hl x (List.mem_cons_self ..)
theorem wdsU_in (name : ByteArray) (fs : List (ByteArray × ByteArray)) (s : ByteArray) : inL (wdsU name fs) s = inL (wdsF name fs) s := by
  unfold wdsU
  rw [foldl_in]
  rfl
theorem wdsU_ne (name : ByteArray) (fs : List (ByteArray × ByteArray)) : (wdsU name fs).Pairwise (fun x y => x ≠ y) := foldl_ne _ [] List.Pairwise.nil
theorem wdsU_len (name : ByteArray) (fs : List (ByteArray × ByteArray)) : (wdsU name fs).length ≤ (wdsF name fs).length := by
  have := foldl_len (wdsF name fs) []
  rw [List.length_nil, Nat.zero_add] at this
  exact this
theorem wdsF_w (name : ByteArray) (fs : List (ByteArray × ByteArray)) : ∀ s ∈ wdsF name fs, s.size ≤ 32 := by
  intro s hs
  unfold wdsF at hs
  obtain ⟨f, _, hf⟩ := List.mem_flatMap.1 hs
  split at hf
  · obtain ⟨w, hw, rfl⟩ := List.mem_map.1 hf
    rw [str_size]
    exact (words_word _ w hw).2
  · cases hf
theorem wdsU_w (name : ByteArray) (fs : List (ByteArray × ByteArray)) : ∀ s ∈ wdsU name fs, s.size ≤ 32 := foldl_all _ _ _ (fun x hx => (nomatch hx)) (wdsF_w name fs)
theorem count_one : ∀ {us : List ByteArray}, us.Pairwise (fun x y => x ≠ y) → ∀ s, us.countP (fun x => decide (x = s)) = if inL us s then 1 else 0
  | [], _, s => rfl
  | x :: us, h, s => by
    obtain ⟨h1, h2⟩ := List.pairwise_cons.1 h
    have ih := count_one h2 s
    have e : inL (x :: us) s = (decide (x = s) || inL us s) := rfl
    rw [List.countP_cons, ih, e]
    by_cases e : x = s
    · have hno : inL us s = false := by
        unfold inL
        rw [List.any_eq_false]
        intro y hy ey
        exact h1 y hy (e.trans (of_decide_eq_true ey).symm)
      rw [hno, decide_eq_true e]
      rfl
    · rw [decide_eq_false e, Bool.false_or]
      rfl
/-- The table, some words of the next doc in it. -/
def gAt (name : ByteArray) (ds : List Dc) (us : List ByteArray) (k : Nat) : ByteArray → Nat := fun s => cntN name ds s + (us.take k).countP (fun x => decide (x = s))
theorem gAt_zero (name : ByteArray) (ds : List Dc) (us : List ByteArray) : tabOf (gAt name ds us 0) = tabOf (cntN name ds) := tabOf_congr (fun s => by simp [gAt])
theorem gAt_all (name : ByteArray) (ds : List Dc) (i : Nat) (h : i < ds.length) : tabOf (gAt name (ds.take i) (wdsU name ds[i].fs) (wdsU name ds[i].fs).length) = tabOf (cntN name (ds.take (i + 1))) := tabOf_congr (fun s => by
  unfold gAt
  rw [List.take_length, count_one (wdsU_ne name ds[i].fs), wdsU_in, cntN_snoc name ds i h])
theorem gAt_le (name : ByteArray) (ds : List Dc) (us : List ByteArray) (k : Nat) (s : ByteArray) : gAt name ds us k s ≤ ds.length + us.length := by
  have h1 := cntN_le name ds s
  have h2 : (us.take k).countP (fun x => decide (x = s)) ≤ (us.take k).length := List.countP_le_length
  rw [List.length_take] at h2
  unfold gAt
  omega
/-- One word more. -/
theorem with_one {g : ByteArray → Nat} {l : List Ct} (h : IsTab (tabOf g) l) (w : ByteArray) (hg : g w ≤ 1099511627775) : (withR l w 1).2 = true ∧ IsTab (tabOf (fun t => g t + if t = w then 1 else 0)) (withR l w 1).1 := by
  have ht : tooT (tabOf g) w 1 = false := by
    rw [tooT_iff (by omega), tabOf_get]
    exact decide_eq_false (by omega)
  obtain ⟨h1, h2⟩ := (with_tab h w 1).2 ht
  refine ⟨h1, ?_⟩
  have e : addT (tabOf g) w 1 = tabOf (fun t => g t + if t = w then 1 else 0) := by
    unfold addT
    rw [tabOf_get, tabOf_put]
  rw [← e]
  exact h2
theorem gAt_snoc (name : ByteArray) (ds : List Dc) (us : List ByteArray) (k : Nat) (h : k < us.length) : tabOf (fun t => gAt name ds us k t + if t = us[k] then 1 else 0) = tabOf (gAt name ds us (k + 1)) := tabOf_congr (fun s => by
  unfold gAt
  rw [List.take_succ_eq_append_getElem h, List.countP_append]
  by_cases e : s = us[k]
  · subst e
    simp [Nat.add_assoc]
  · have e2 : ¬ us[k] = s := fun h => e h.symm
    simp [e, e2])
end Go.Proofs.YtjeahdnbpiahaaaGreat.Gr
end
