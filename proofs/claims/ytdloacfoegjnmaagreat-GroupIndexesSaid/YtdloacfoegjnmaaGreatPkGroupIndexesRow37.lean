/- SLICED by slice.py -/
import Derived.Lib.AppendZerosOnto
import Derived.Deep.RegionHeld3
import Derived.BigRegion
import Derived.Sort.OwnSorted
import Derived.Maps.RangeWalk
import Derived.Test.YtdloacfoegjnmaaGreatGrWaPk
import Derived.Test.YtdloacfoegjnmaaGreatPkGroupIndexesRow30
import Derived.Test.YtdloacfoegjnmaaGreatPkGroupIndexesRow22
import Derived.Test.YtdloacfoegjnmaaGreatPkGroupIndexesRow32
import Derived.Test.YtdloacfoegjnmaaGreatShelfPk
import Derived.Test.YtdloacfoegjnmaaGreatPkGroupIndexesRow24
section
/- slices.Grow of nil, slices.Concat of rows of counts. -/
namespace Go.Proofs.YtdloacfoegjnmaaGreat.Gr
open Go.RowKit Go.Proofs.YtdloacfoegjnmaaGreat Go.Proofs.YtdloacfoegjnmaaGreat.Ut Go.Proofs.YtdloacfoegjnmaaGreat.Tk Go.Sort Go.Shelf Go.Lib
set_option maxRecDepth 20000
set_option linter.unusedSimpArgs false
set_option linter.unusedVariables false
/-- A row as it lies in a row of rows. -/
structure Rw where
  A : Option Addr
  c : Nat
  l : List Ct
def Rw.val (r : Rw) : Value := .slice r.A r.l.length r.c
/-- Rows in memory, below a block. -/
structure RowsIn (w : World) (B : Nat) (A : Option Addr) (rs : List Rw) : Prop where
  rd : Reads w B 1 A rs.length (rs.map Rw.val)
  row : ∀ r ∈ rs, Reads w B 2 r.A r.l.length (ctC r.l) ∧ r.l.length ≤ r.c ∧ (r.A = none → r.c = 0)
theorem RowsIn.below {w w' : World} {B : Nat} {A : Option Addr} {rs : List Rw} (h : RowsIn w B A rs) (hb : Below B w w') : RowsIn w' B A rs :=
  ⟨h.rd.below hb, fun r hr => ⟨(h.row r hr).1.below hb, (h.row r hr).2⟩⟩
theorem RowsIn.more {w : World} {B B' : Nat} {A : Option Addr} {rs : List Rw} (h : RowsIn w B A rs) (hb : B ≤ B') : RowsIn w B' A rs :=
  ⟨h.rd.more hb, fun r hr => ⟨(h.row r hr).1.more hb, (h.row r hr).2⟩⟩
theorem RowsIn.grow {w w' : World} {A : Option Addr} {rs : List Rw} (h : RowsIn w w.heap.size A rs) (hb : Below w.heap.size w w') : RowsIn w' w'.heap.size A rs := (h.below hb).more hb.size
def lensF (rs : List Rw) : Nat := (rs.map fun r => r.l.length).sum
def flatF (rs : List Rw) : List Ct := rs.flatMap Rw.l
theorem flatF_len (rs : List Rw) : (flatF rs).length = lensF rs := by
  unfold flatF lensF
  rw [List.length_flatMap]
theorem flatF_take (rs : List Rw) (k : Nat) (h : k < rs.length) : flatF (rs.take (k + 1)) = flatF (rs.take k) ++ rs[k].l := by
  unfold flatF
  rw [List.take_succ_eq_append_getElem h, List.flatMap_append, List.flatMap_singleton]
theorem lensF_take (rs : List Rw) (k : Nat) (h : k < rs.length) : lensF (rs.take (k + 1)) = lensF (rs.take k) + rs[k].l.length := by
  rw [← flatF_len, ← flatF_len, flatF_take rs k h, List.length_append]
theorem lensF_le (rs : List Rw) (k : Nat) : lensF (rs.take k) ≤ lensF rs := by
  have h : lensF (rs.take k ++ rs.drop k) = lensF (rs.take k) + lensF (rs.drop k) := by
    unfold lensF
    rw [List.map_append, List.sum_append]
  rw [List.take_append_drop] at h
  omega
theorem rows_at {w : World} {B : Nat} {A : Option Addr} {rs : List Rw} (h : Reads w B 1 A rs.length (rs.map Rw.val)) {k : Nat} (hk : k < rs.length) : ∃ b o, A = some ⟨b, o, none⟩ ∧ b < B ∧ w.cell? ⟨b, o + k, none⟩ = some (.slice rs[k].A rs[k].l.length rs[k].c) := by
  obtain ⟨b, o, _, e, hb, hc⟩ := h.at_map hk
  exact ⟨b, o, e, hb, hc⟩

end Go.Proofs.YtdloacfoegjnmaaGreat.Gr
end

section
/- Rows as one: plain. -/
namespace Go.Proofs.YtdloacfoegjnmaaGreat.Gr
open Go.RowKit Go.Proofs.YtdloacfoegjnmaaGreat Go.Proofs.YtdloacfoegjnmaaGreat.Ut Go.Proofs.YtdloacfoegjnmaaGreat.Tk
set_option linter.unusedSimpArgs false
set_option linter.unusedVariables false

/-- What Merge answers. -/
def outM (rs : List Rw) : List Ct × Int := if rs.all (fun r => okR r.l) = true then (match mrgR (flatF rs) [] with | none => ([], 5) | some m => (m, 0)) else ([], 1)
theorem outM_bad {rs : List Rw} {k : Nat} (hk : k < rs.length) (h : okR rs[k].l = false) : outM rs = ([], 1) := by
  unfold outM
  rw [if_neg]
  intro hall
  have := List.all_eq_true.1 hall _ (List.getElem_mem hk)
  rw [h] at this
  cases this
theorem outM_none {rs : List Rw} (h : ∀ k (hk : k < rs.length), okR rs[k].l = true) (hm : mrgR (flatF rs) [] = none) : outM rs = ([], 5) := by
  unfold outM
  rw [if_pos (List.all_eq_true.2 (fun r hr => by obtain ⟨k, hk, rfl⟩ := List.getElem_of_mem hr; exact h k hk)), hm]
theorem outM_some {rs : List Rw} {m : List Ct} (h : ∀ k (hk : k < rs.length), okR rs[k].l = true) (hm : mrgR (flatF rs) [] = some m) : outM rs = (m, 0) := by
  unfold outM
  rw [if_pos (List.all_eq_true.2 (fun r hr => by obtain ⟨k, hk, rfl⟩ := List.getElem_of_mem hr; exact h k hk)), hm]
theorem mrgR_app : ∀ (a b l : List Ct), mrgR (a ++ b) l = (mrgR a l).bind (mrgR b)
  | [], b, l => rfl
  | c :: a, b, l => by
    show (if (withR l c.1 c.2).2 = true then mrgR (a ++ b) (withR l c.1 c.2).1 else none) = (if (withR l c.1 c.2).2 = true then mrgR a (withR l c.1 c.2).1 else none).bind (mrgR b)
    split
    · exact mrgR_app a b _
    · rfl
theorem mrgT_app : ∀ (a b : List Ct) (f : Tb), mrgT (a ++ b) f = (mrgT a f).bind (mrgT b)
  | [], b, f => rfl
  | c :: a, b, f => by
    show (if tooT f c.1 c.2 = true then none else mrgT (a ++ b) (addT f c.1 c.2)) = (if tooT f c.1 c.2 = true then none else mrgT a (addT f c.1 c.2)).bind (mrgT b)
    split
    · rfl
    · exact mrgT_app a b _
theorem mrgR_go {pre bs l : List Ct} (k : Nat) (h : k < bs.length) (h1 : mrgR (pre ++ bs.take k) [] = some l) (h2 : (withR l bs[k].1 bs[k].2).2 = true) : mrgR (pre ++ bs.take (k + 1)) [] = some (withR l bs[k].1 bs[k].2).1 := by
  rw [List.take_succ_eq_append_getElem h, ← List.append_assoc, mrgR_app, h1]
  show (if (withR l bs[k].1 bs[k].2).2 = true then some (withR l bs[k].1 bs[k].2).1 else none) = _
  rw [if_pos h2]
theorem mrgR_no {pre bs l : List Ct} (cs : List Ct) (k : Nat) (h : k < bs.length) (h1 : mrgR (pre ++ bs.take k) [] = some l) (h2 : (withR l bs[k].1 bs[k].2).2 = false) : mrgR (pre ++ bs ++ cs) [] = none := by
  have e : bs = bs.take k ++ bs[k] :: bs.drop (k + 1) := by rw [List.getElem_cons_drop, List.take_append_drop]
  have e2 : pre ++ bs = (pre ++ bs.take k) ++ bs[k] :: bs.drop (k + 1) := by rw [List.append_assoc, ← e]
  rw [e2, List.append_assoc, mrgR_app, h1]
  show (if (withR l bs[k].1 bs[k].2).2 = true then _ else none) = _
  rw [if_neg (by rw [h2]; simp)]
theorem mrgT_go {bs : List Ct} {f : Tb} (k : Nat) (h : k < bs.length) (h1 : mrgT (bs.take k) noT = some f) (h2 : tooT f bs[k].1 bs[k].2 = false) : mrgT (bs.take (k + 1)) noT = some (addT f bs[k].1 bs[k].2) := by
  rw [List.take_succ_eq_append_getElem h, mrgT_app, h1]
  show (if tooT f bs[k].1 bs[k].2 = true then none else some (addT f bs[k].1 bs[k].2)) = _
  rw [if_neg (by rw [h2]; simp)]
theorem mrgT_no {bs : List Ct} {f : Tb} (k : Nat) (h : k < bs.length) (h1 : mrgT (bs.take k) noT = some f) (h2 : tooT f bs[k].1 bs[k].2 = true) : mrgT bs noT = none := by
  have e : bs = bs.take k ++ bs[k] :: bs.drop (k + 1) := by rw [List.getElem_cons_drop, List.take_append_drop]
  rw [e, mrgT_app, h1]
  show (if tooT f bs[k].1 bs[k].2 = true then none else _) = _
  rw [if_pos h2]
theorem flatF_split (rs : List Rw) (i : Nat) (h : i < rs.length) : flatF rs = flatF (rs.take i) ++ rs[i].l ++ flatF (rs.drop (i + 1)) := by
  rw [← flatF_take rs i h]
  unfold flatF
  rw [← List.flatMap_append, List.take_append_drop]
/-- A table whose numbers may be. -/
def TabOk (f : Tb) : Prop := ∀ s n, f s = some n → 1 ≤ n ∧ n ≤ 1099511627776
theorem TabOk.none : TabOk noT := fun s n h => (nomatch h)
theorem tooT_iff {f : Tb} {s : ByteArray} {n : Int} (hn : n ≤ 1099511627776) : tooT f s n = decide (1099511627776 - n < (f s).getD 0) := by
  unfold tooT
  cases f s with
  | none => exact (decide_eq_false (by show ¬ (1099511627776 - n < 0); omega)).symm
  | some m => rfl
theorem TabOk.get {f : Tb} (h : TabOk f) (s : ByteArray) : 0 ≤ (f s).getD 0 ∧ (f s).getD 0 ≤ 1099511627776 := by
  cases e : f s with
  | none => exact ⟨by decide, by decide⟩
  | some m => have := h s m e; exact ⟨by show 0 ≤ m; omega, by show m ≤ _; omega⟩
theorem TabOk.add {f : Tb} (h : TabOk f) {s : ByteArray} {n : Int} (hn : 1 ≤ n ∧ n ≤ 1099511627776) (ht : tooT f s n = false) : TabOk (addT f s n) := by
  intro t m hm
  unfold addT putT at hm
  by_cases e : t = s
  · subst e
    rw [if_pos rfl] at hm
    injection hm with hm
    rw [tooT_iff hn.2, decide_eq_false_iff_not] at ht
    have := h.get t
    omega
  · rw [if_neg e] at hm
    exact h t m hm
theorem okR_w {l : List Ct} (h : okR l = true) : ∀ x ∈ l, x.1.size ≤ 32 := by
  intro x hx
  obtain ⟨k, hk, rfl⟩ := List.getElem_of_mem hx
  unfold okR at h
  have := List.all_eq_true.1 h k (List.mem_range.2 hk)
  rw [okK_eq hk] at this
  simp only [Bool.and_eq_true, decide_eq_true_eq] at this
  have hw := this.1.1.1
  by_cases hs : l[k].1.size ≤ 32
  · exact hs
  · have := isW_len l[k].1.data.toList (by rw [bsize]; omega)
    rw [this] at hw
    cases hw
/-- Every count of rows that may be. -/
theorem flat_ok {rs : List Rw} (h : ∀ k (hk : k < rs.length), okR rs[k].l = true) : ∀ x ∈ flatF rs, (1 ≤ x.2 ∧ x.2 ≤ 1099511627776) ∧ x.1.size ≤ 32 := by
  intro x hx
  obtain ⟨r, hr, hxr⟩ := List.mem_flatMap.1 hx
  obtain ⟨k, hk, rfl⟩ := List.getElem_of_mem hr
  exact ⟨okR_few (h k hk) x hxr, okR_w (h k hk) x hxr⟩
theorem tail_len (l : List Ct) (s : ByteArray) : (lead l s).length + (tail' l s).length = l.length := by
  have := congrArg List.length (lead_tail l s)
  rwa [List.length_append] at this
theorem withR_len (l : List Ct) (s : ByteArray) (n : Int) : (withR l s n).1.length ≤ l.length + 1 := by
  have ht := tail_len l s
  unfold withR
  split
  · rename_i h
    rw [h] at ht
    simp at ht ⊢
    omega
  · rename_i x b h
    rw [h] at ht
    split
    · split
      · simp
      · simp at ht ⊢; omega
    · simp at ht ⊢; omega
def SmallC (l : List Ct) : Prop := ∀ y ∈ l, y.1.size ≤ 140737488351232 ∧ 0 ≤ y.2
theorem withR_small {l : List Ct} {s : ByteArray} {n : Int} (h : SmallC l) (hs : s.size ≤ 140737488351232) (hn : 0 ≤ n) : SmallC (withR l s n).1 := by
  have hl := lead_tail l s
  have h1 : ∀ y ∈ lead l s, y.1.size ≤ 140737488351232 ∧ 0 ≤ y.2 := fun y hy => h y (by rw [← hl]; exact List.mem_append_left _ hy)
  have h2 : ∀ y ∈ tail' l s, y.1.size ≤ 140737488351232 ∧ 0 ≤ y.2 := fun y hy => h y (by rw [← hl]; exact List.mem_append_right _ hy)
  unfold withR SmallC
  split
  · intro y hy
    rcases List.mem_append.1 hy with hy | hy
    · exact h1 y hy
    · rw [List.mem_singleton] at hy; subst hy; exact ⟨hs, hn⟩
  · rename_i x b hb
    rw [hb] at h2
    split
    · split
      · intro y hy; cases hy
      · intro y hy
        rcases List.mem_append.1 hy with hy | hy
        · rcases List.mem_append.1 hy with hy | hy
          · exact h1 y hy
          · rw [List.mem_singleton] at hy; subst hy
            have := (h2 x (List.mem_cons_self ..)).2
            exact ⟨hs, by show 0 ≤ x.2 + n; omega⟩
        · exact h2 y (List.mem_cons_of_mem _ hy)
    · intro y hy
      rcases List.mem_append.1 hy with hy | hy
      · rcases List.mem_append.1 hy with hy | hy
        · exact h1 y hy
        · rw [List.mem_singleton] at hy; subst hy; exact ⟨hs, hn⟩
      · exact h2 y hy
/-- What the program makes of the tables is what the document makes of the rows. -/
theorem outM_tab {rs : List Rw} {f : Tb} {l : List Ct} (h : ∀ k (hk : k < rs.length), okR rs[k].l = true) (hf : mrgT (flatF rs) noT = some f) (hl : IsTab f l) : outM rs = (l, 0) := by
  obtain ⟨m, h1, h2⟩ := (mrg_one (flatF rs) noT [] IsTab.none).2 f hf
  rw [outM_some h h1, h2.one hl]
theorem outM_tabN {rs : List Rw} (h : ∀ k (hk : k < rs.length), okR rs[k].l = true) (hf : mrgT (flatF rs) noT = none) : outM rs = ([], 5) :=
  outM_none h ((mrg_one (flatF rs) noT [] IsTab.none).1 hf)
end Go.Proofs.YtdloacfoegjnmaaGreat.Gr
end

section
/- SLICED by slice.py -/
/- loggiaref30.Merge: the walk. -/
namespace Go.Proofs.YtdloacfoegjnmaaGreat.Gr
open Go.RowKit Go.Proofs.YtdloacfoegjnmaaGreat Go.Proofs.YtdloacfoegjnmaaGreat.Ut Go.Proofs.YtdloacfoegjnmaaGreat.Tk Go.Sort Go.Shelf Go.Lib
set_option maxRecDepth 20000
set_option linter.unusedSimpArgs false
set_option linter.unusedVariables false

/-- A row in memory, nil or not. -/
def SlC (w : World) (v : Value) (m : List Ct) : Prop := ∃ A c, v = .slice A m.length c ∧ Reads w w.heap.size 2 A m.length (ctC m) ∧ m.length ≤ c ∧ (A = none → c = 0)
theorem SlC.grow {w w' : World} {v : Value} {m : List Ct} (h : SlC w v m) (hb : Below w.heap.size w w') : SlC w' v m := by
  obtain ⟨A, c, e, h1, h2⟩ := h
  exact ⟨A, c, e, rd_grow hb h1, h2⟩
theorem SlC.nil (w : World) : SlC w (.slice none 0 0) [] := ⟨none, 0, rfl, ⟨rfl, fun h => absurd h (by decide)⟩, Nat.le_refl _, fun _ => rfl⟩
theorem SlC.of_own {w : World} {B : Nat} {ty : TypeId} {v : Value} {m : List Ct} (h : w.ownsRow B ty 2 v m.length (ctC m)) : SlC w v m := by
  obtain ⟨A, c, e, h1, h2, _, h3, _⟩ := own_shp h
  exact ⟨A, c, e, h1, h2, fun e => (h3 e).1⟩

end Go.Proofs.YtdloacfoegjnmaaGreat.Gr
end

section
/- The index in a later world. (No walk.) -/
namespace Go.Proofs.YtdloacfoegjnmaaGreat.Mx
open Go.RowKit Go.Proofs.YtdloacfoegjnmaaGreat Go.Proofs.YtdloacfoegjnmaaGreat.Ut Go.Proofs.YtdloacfoegjnmaaGreat.Tk Go.Proofs.YtdloacfoegjnmaaGreat.Qy Go.Proofs.YtdloacfoegjnmaaGreat.Ev Go.Proofs.YtdloacfoegjnmaaGreat.Qp Go.Proofs.YtdloacfoegjnmaaGreat.Mv
set_option linter.unusedVariables false
theorem Idx.later {w w' : World} {n0 X M cn : Nat} {v : Value} {F : ByteArray → Option Value} {O : Nat → Prop} {ds : List Dc} {sz lo hi : Int} {f : ByteArray → List Po} (h : Idx w n0 X M cn v F O ds sz lo hi f) (hb : Below w.heap.size w w') : Idx w' n0 X M cn v F (fun b => n0 ≤ b ∧ b < w'.heap.size) ds sz lo hi f :=
  h.below hb (fun b hO => ⟨(h.lt b hO).1, Nat.lt_of_lt_of_le (h.lt b hO).2 hb.size⟩) (fun b hb => hb)
end Go.Proofs.YtdloacfoegjnmaaGreat.Mx
end

section
/- (*memidx.Index).Terms: the walk (seat k). -/
namespace Go.Proofs.YtdloacfoegjnmaaGreat.Mx
open Go.RowKit Go.Maps Go.Sort Go.Proofs.YtdloacfoegjnmaaGreat Go.Proofs.YtdloacfoegjnmaaGreat.Ut Go.Proofs.YtdloacfoegjnmaaGreat.Tk Go.Proofs.YtdloacfoegjnmaaGreat.Qy Go.Proofs.YtdloacfoegjnmaaGreat.Ev Go.Proofs.YtdloacfoegjnmaaGreat.Qp Go.Proofs.YtdloacfoegjnmaaGreat.Mv
set_option linter.unusedVariables false
set_option linter.unusedSimpArgs false
set_option maxRecDepth 20000

theorem insNil (w : World) : Calls Tryz.prog 93 #[.slice none 0 0, .int .i64 0, .int .i64 0] w fun e w' => e = .returned (.tuple #[]) ∧ w' = w := by
  go_enter Tryz.func93, Tryz.ntmps93
  go_wp2_with fail
  go_loopw [6] (fun i wr => i = .int .i64 1 ∧ wr = w) (fun _ _ => 0)
  case atStart => exact ⟨rfl, rfl⟩
  case round =>
    obtain ⟨rfl, rfl⟩ := hrel
    go_wp2
    go_end0
    exact ⟨rfl, rfl⟩
theorem pdqNil (lim : Int) (w : World) : Calls Tryz.prog 75 #[.slice none 0 0, .int .i64 0, .int .i64 0, .int .i64 lim] w fun e w' => e = .returned (.tuple #[]) ∧ w' = w := by
  have ci := insNil
  go_enter Tryz.func75, Tryz.ntmps75
  go_wp2_with fail
  go_loopw [1, 2, 3] (fun a b m wr => a = .int .i64 0 ∧ b = .int .i64 0 ∧ wr = w) (fun _ _ _ _ => 0)
  case atStart => exact ⟨rfl, rfl, rfl⟩
  case round =>
    obtain ⟨rfl, rfl, rfl⟩ := hrel
    go_wp2_with fail
    refine (ci _).mono ?_
    rintro e w2 ⟨rfl, rfl⟩
    go_wp2
    refine bodyPost_ret (results_none rfl _ _ _) rfl ?_
    exact ⟨rfl, rfl⟩
theorem sortNil (w : World) : Calls Tryz.prog 52 #[.slice none 0 0] w fun e w' => e = .returned (.tuple #[]) ∧ w' = w := by
  have cp := pdqNil
  have cl := fun wx => Tryz.bits_Len 0 wx (by omega) (by omega)
  go_enter Tryz.func52, Tryz.ntmps52
  go_wp2_with fail
  refine (cl _).mono ?_
  rintro e w2 ⟨rfl, rfl⟩
  go_wp2_with fail
  refine (cp _ _).mono ?_
  rintro e w2 ⟨rfl, rfl⟩
  go_wp2
  go_end0
  exact ⟨rfl, rfl⟩
theorem keyS_inv {key : Value} {kl : Lit} (h : keyOf Tryz.prog 9 key = some kl) : ∃ s : ByteArray, key = .string s ∧ kl = litS.lit s ∧ s.size ≤ maxLen := by
  have hk := Tryz.underlying9
  cases key <;> simp [keyOf, hk, mapKey] at h
  exact ⟨_, rfl, h.2.symm, h.1⟩
/-- The way through a map: what has come, what is still to come. -/
structure Way (D : DataW Value) (F : ByteArray → Option Value) (left : Lit → Bool) (l : List ByteArray) : Prop where
  got : ∀ s ∈ l, (F s).isSome = true ∧ left (litS.lit s) = false
  rest : ∀ s, (F s).isSome = true → left (litS.lit s) = true ∨ s ∈ l
  nd : l.Nodup
  ofD : ∀ kl, left kl = true → Maps.has D kl = true
theorem Way.start {D : DataW Value} {F : ByteArray → Option Value} (h : TabV litS D F) : Way D F (Maps.has D) [] :=
  ⟨fun x hx => (nomatch hx), fun s e => .inl (by rw [h.has, e]), List.nodup_nil, fun _ h => h⟩
theorem Way.step {D : DataW Value} {F : ByteArray → Option Value} {left : Lit → Bool} {l : List ByteArray} (h : Way D F left l) (hD : TabV litS D F) {s : ByteArray} (hl : left (litS.lit s) = true) :
    (F s).isSome = true ∧ s ∉ l ∧ Way D F (fun z => left z && !z.sameKey (litS.lit s)) (l ++ [s]) := by
  have hs : (F s).isSome = true := by
    have h1 := hD.has s
    rw [h.ofD _ hl] at h1
    exact h1.symm
  have hn : s ∉ l := fun hm => by
    have := (h.got s hm).2
    rw [hl] at this
    cases this
  refine ⟨hs, hn, fun x hx => ?_, fun t ht => ?_, ?_, fun kl hk => h.ofD kl (by rw [Bool.and_eq_true] at hk; exact hk.1)⟩
  · rcases List.mem_append.1 hx with hx | hx
    · exact ⟨(h.got x hx).1, by rw [(h.got x hx).2]; rfl⟩
    · rw [List.mem_singleton] at hx
      subst hx
      exact ⟨hs, by rw [same_dec litS]; simp⟩
  · rcases h.rest t ht with h1 | h1
    · by_cases e : t = s
      · exact .inr (by rw [e]; simp)
      · left
        rw [h1, same_dec litS, decide_eq_false e]
        rfl
    · exact .inr (List.mem_append_left _ h1)
  · rw [List.nodup_append]
    exact ⟨h.nd, by simp, fun a ha b hb e => by rw [List.mem_singleton] at hb; rw [e, hb] at ha; exact hn ha⟩
theorem Way.fin {D : DataW Value} {F : ByteArray → Option Value} {left : Lit → Bool} {l : List ByteArray} (h : Way D F left l) (h0 : ∀ kl, left kl = false) : ∀ s, s ∈ l ↔ (F s).isSome = true := fun s =>
  ⟨fun hs => (h.got s hs).1, fun hs => by
    rcases h.rest s hs with h1 | h1
    · rw [h0] at h1; cases h1
    · exact h1⟩
theorem strI : (Tryz.prog.info? 9).map (fun i => (i.zero, i.size, i.bytes)) = some (some (.string ByteArray.empty), 1, 16) := by kernel_rfl
def bts (l : List ByteArray) : List (List UInt8) := l.map (·.data.toList)
/-- What Terms hands back. -/
def TermsP (w : World) (F : ByteArray → Option Value) (e : Ending) (w' : World) : Prop :=
  ∃ (l : List ByteArray) (v : Value), (∀ s, s ∈ l ↔ (F s).isSome = true) ∧ l.Nodup ∧ e = .returned v ∧ w'.ownsRow w.heap.size 9 1 v l.length (((bts l).mergeSort fun x y => decide (x ≤ y)).map encStr) ∧ Below w.heap.size w w'
set_option maxHeartbeats 1600000 in
theorem termsX_any {w : World} {n0 X M cn : Nat} {v : Value} {F : ByteArray → Option Value} {O : Nat → Prop} {ds : List Dc} {sz lo hi : Int} {f : ByteArray → List Po} (h : Idx w n0 X M cn v F O ds sz lo hi f) (hcn : cn ≤ 4294967296) :
    Calls Tryz.prog 27 #[.pointer (some ⟨X, 0, none⟩)] w (TermsP w F) := by
  obtain ⟨i0, hi0, hz0, hz1, hz2⟩ := info_parts strI
  obtain ⟨D, hown, hT⟩ := h.mp.ex
  have c1 := Lib.hid (none_no h)
  have k4 := h.blk.cell 4
  simp only [List.getElem?_toArray, List.getElem?_cons_zero, List.getElem?_cons_succ] at k4
  have hbl := hown.lt
  have hszD := hown.size_le
  have HT := Lib.hid hT
  clear h hT
  go_enter Tryz.func27, Tryz.ntmps27
  go_wp2_with fail
  refine c1.out.mono ?_
  rintro e w' ⟨rfl, rfl⟩
  clear c1
  go_wp2_with (first
    | (at_range; refine wpList_range_own _ rfl _ 46 rfl 9 71 lawS Tryz.underlying46 rawR M cn D rfl hown ?_; intro w0 hrg0 hg0 hs0)
    | go_in)
  go_frame
  have Hb0 := Lib.hid ((Below.refl w.heap.size w).grown hg0 (Nat.le_refl _) (fun j hj => by cases hj))
  clear hg0 hown k4
  go_loopw [3] (fun v wr => ∃ (left : Lit → Bool) (cnt : Nat) (l : List ByteArray), wr.ranges Tryz.prog 9 rawR M w.heap.size cn D left cnt ∧ l.length + cnt ≤ cn ∧ Hid (Way D F left l) ∧ Hid (wr.ownsRow (w.heap.size + 1) 9 1 v l.length ((bts l).map encStr)) ∧ Hid (Below w.heap.size w wr) ∧ w.heap.size < wr.heap.size)
    (fun _ wr => wr.rangeLeft M w.heap.size)
  case atStart => exact ⟨_, _, [], hrg0, by simpa using hszD, Lib.hid (Way.start HT.out), Lib.hid (World.ownsRow_nil _ _ _ _), Hb0, by omega⟩
  case round =>
    obtain ⟨left, cnt, l, hrg, hcs, hW, hO, hB, hzr⟩ := hrel
    go_wp2_with (first
      | (at_next; refine wpList_next_ranges _ rfl _ rfl 9 lawS rawR Value.string (fun v : Value => v) (fun key kl hkey => by obtain ⟨x, rfl, _⟩ := keyS_inv hkey; exact ⟨x, rfl⟩) (fun v y hv => ⟨v, rfl⟩) M w.heap.size _ _ _ _ rfl hrg ?_ ?_)
      | go_in)
    · intro hc0 hl0
      have hfin := Lib.hid (hW.out.fin hl0)
      have HND := Lib.hid hW.out.nd
      clear hrg hl0 hW
      rcases hO.out.2 with ⟨hnil, h0⟩ | ⟨g, cap, cur, hv, hbase, hb, h1, h2, h3, h4⟩
      · have hl : l = [] := List.length_eq_zero_iff.1 h0
        subst hnil hl
        have HOf : Hid (wr.ownsRow w.heap.size 9 1 (.slice none 0 0) ([] : List ByteArray).length (((bts []).mergeSort fun x y => decide (x ≤ y)).map encStr)) := Lib.hid (by
          have e1 : ((bts []).mergeSort fun x y => decide (x ≤ y)) = [] := by simp [bts]
          rw [e1]
          exact World.ownsRow_nil _ _ _ _)
        clear h0 hO
        go_wp2_with fail
        refine (sortNil _).mono ?_
        rintro e w2 ⟨rfl, rfl⟩
        go_wp2
        go_ret
        exact ⟨[], _, hfin.out, HND.out, rfl, HOf.out, hB.out⟩
      · subst hv
        have hbl2 : (bts l).length = l.length := by simp [bts]
        have hgl : g < wr.heap.size := (Array.getElem?_eq_some_iff.1 hb).1
        have hH : Holds encStr wr g 0 (bts l).toArray := holds_of_block hb (by rw [hbl2]; simpa using h4)
        have CS := Tryz.slices_Sort_string g 0 cap (bts l) wr hH hgl (by rw [hbl2]; omega)
        rw [hbl2] at CS
        have CSH := Lib.hid CS
        have HS : Hid (∀ n os, (grow (putRow encStr (Sort.ahead wr n) g 0 ((bts l).mergeSort fun x y => decide (x ≤ y)).toArray) os).ownsRow w.heap.size 9 1 (.slice (some ⟨g, 0, none⟩) l.length cap) l.length (((bts l).mergeSort fun x y => decide (x ≤ y)).map encStr)) := Lib.hid (fun n os => by
          have h := ownsRow_sorted (w := wr) (base := w.heap.size) (g := g) (cap := cap) (n := n) (e := 9) (os := os) (cur := cur) (ss := bts l) (ts := (bts l).mergeSort fun x y => decide (x ≤ y)) (by simp) (by omega) hb (by rw [hbl2]; exact h1) h2 h3
          rw [hbl2] at h
          exact h)
        have HG : Hid (∀ n os, Below w.heap.size w (grow (putRow encStr (Sort.ahead wr n) g 0 ((bts l).mergeSort fun x y => decide (x ≤ y)).toArray) os)) := Lib.hid (fun n os => hB.out.grown (grownBy_sorted _) hB.out.size (fun j hj => by injection hj with hj; omega))
        clear CS hH hbl2 hO h4 hb h3 hbase h1 h2
        go_wp2_with fail
        refine CSH.out.mono ?_
        rintro e w2 ⟨rfl, n, os, rfl⟩
        have HS2 := Lib.hid (HS.out n os)
        have HG2 := Lib.hid (HG.out n os)
        clear HS HG CSH
        generalize grow (putRow encStr (Sort.ahead wr n) g 0 ((bts l).mergeSort fun x y => decide (x ≤ y)).toArray) os = w2 at *
        go_wp2
        go_ret
        exact ⟨l, _, hfin.out, HND.out, rfl, HS2.out, HG2.out⟩
    · intro x c klx ya yb w3 cnt1 hkey hlx hv hat hrg1 hlt1 hg1 hs1 hen
      obtain ⟨x', ex, rfl, hxs⟩ := keyS_inv hkey
      injection ex with ex
      subst ex
      obtain ⟨_, _, hW1⟩ := hW.out.step HT.out hlx
      have hO1 := hO.out.kept hg1 (by cases hv' : Value.ownBlock _ with | none => exact .inl rfl | some g => exact .inr (fun e => by injection e with e; have := (hO.out.lt g hv').1; omega))
      have hB1 := hB.out.grown hg1 hB.out.size (fun j hj => by injection hj with hj; omega)
      have HW1 := Lib.hid hW1
      have HO1 := Lib.hid hO1
      have HB1 := Lib.hid hB1
      have hb3 := hB1.size
      have hzw : w.heap.size < w3.heap.size := by omega
      have hex : encStr x.data.toList = .string x := rfl
      clear hW hW1 hO hO1 hB hB1 hg1 hat hkey hv hlx hs1
      go_wp2_with (first
        | (at_builtin; refine wpList_append_own _ rfl _ _ 78 rfl (w.heap.size + 1) 9 i0 _ 1 16 Tryz.underlying78 hi0 hz0 hz1 hz2 rfl (by decide) _ l.length ((bts l).map encStr) rfl (HO1.out.alloc _) ⟨w3.heap.size, 0, none⟩ 1 1 [.string x] rfl rfl (World.news_of_block (cs := #[.string x]) (t := 9) (fr := (0, 0)) (heap_alloc_new w3 _)) (by simp [Value.oneCell']) ?c1 ?c2 ?c3 ?_)
        | go_in)
      case c1 => unfold maxLen; omega
      case c2 => omega
      intro v4 w4 ho4 hg4 _
      have hne : ∀ k : Nat, k ≤ w.heap.size → some k ≠ Value.ownBlock _ := fun k hk e => by have := (HO1.out.lt k e.symm).1; omega
      have hrg4 := (hrg1.kept (World.grownBy_alloc _ _ none) (by simp) (by simp)).kept hg4 (hne M (by omega)) (hne w.heap.size (Nat.le_refl _))
      have hb4 := (HB1.out.alloc HB1.out.size _).grown hg4 (by rw [World.size_alloc]; omega) (fun j hj => by have := (HO1.out.lt j hj).1; omega)
      have hz5 := hg4.size
      rw [World.size_alloc] at hz5
      have hm4 := hrg4.left_eq
      have hm0 := hrg.left_eq
      have Ho4 : Hid (w4.ownsRow (w.heap.size + 1) 9 1 v4 (l ++ [x]).length ((bts (l ++ [x])).map encStr)) := Lib.hid (by
        have e1 : (bts (l ++ [x])).map encStr = (bts l).map encStr ++ [.string x] := by simp [bts, hex]
        rw [e1, List.length_append]
        exact ho4)
      have Hrg4 := Lib.hid hrg4
      have Hb4 := Lib.hid hb4
      clear ho4 hg4 hrg4 hb4 hne hrg1 hen
      go_wp2
      go_roundw
      case rel => exact ⟨_, cnt1, l ++ [x], Hrg4.out, by rw [List.length_append, List.length_singleton]; omega, HW1, Ho4, Hb4, by omega⟩
      case measure => rw [hm4, hm0]; exact hlt1
end Go.Proofs.YtdloacfoegjnmaaGreat.Mx
end

section
/- SLICED by slice.py -/
/- An index that nobody made, nil or zero: the walks (seat k; printed by gen_mxno.py). -/
namespace Go.Proofs.YtdloacfoegjnmaaGreat.Mx
open Go.RowKit Go.Proofs.YtdloacfoegjnmaaGreat Go.Proofs.YtdloacfoegjnmaaGreat.Ut Go.Proofs.YtdloacfoegjnmaaGreat.Tk Go.Proofs.YtdloacfoegjnmaaGreat.Qy Go.Proofs.YtdloacfoegjnmaaGreat.Ev Go.Proofs.YtdloacfoegjnmaaGreat.Qp Go.Proofs.YtdloacfoegjnmaaGreat.Mv
set_option linter.unusedVariables false
set_option linter.unusedSimpArgs false
set_option maxRecDepth 20000

/-- Nil, or of zeros. -/
def NoIx (w : World) (p : Option Addr) : Prop := p = none ∨ ∃ X, p = some ⟨X, 0, none⟩ ∧ Blk w X 48 #[.int .i64 0, .int .i64 0, .int .i64 0, .slice none 0 0, .map none]
theorem NoIx.below {w w' : World} {p : Option Addr} (h : NoIx w p) (hb : Below w.heap.size w w') : NoIx w' p := by
  rcases h with h | ⟨X, e, hk⟩
  · exact .inl h
  · exact .inr ⟨X, e, hk.below hb hk.lt⟩
theorem none_N {w : World} {p : Option Addr} (h : NoIx w p) : Calls Tryz.prog 18 #[.pointer p] w fun e w' => e = .returned (.bool true) ∧ w = w' := by
  rcases h with rfl | ⟨X, rfl, hk⟩
  · exact none_nil w
  · have c4 := hk.cell 4
    simp only [List.getElem?_toArray, List.getElem?_cons_zero, List.getElem?_cons_succ] at c4
    exact none_zero X w c4
theorem terms_N {w : World} {p : Option Addr} (h : NoIx w p) : Calls Tryz.prog 27 #[.pointer p] w fun e w' => e = .returned (.slice none 0 0) ∧ w = w' := by
  have c1 := Lib.hid (none_N h)
  clear h
  go_enter Tryz.func27, Tryz.ntmps27
  go_wp2_with fail
  refine c1.out.mono ?_
  rintro e w' ⟨rfl, rfl⟩
  go_wp2
  go_ret
  exact ⟨rfl, rfl⟩
theorem posts_N {w : World} {p : Option Addr} (h : NoIx w p) (s : ByteArray) : Calls Tryz.prog 29 #[.pointer p, .string s] w fun e w' => e = .returned (.slice none 0 0) ∧ w = w' := by
  have c1 := Lib.hid (none_N h)
  clear h
  go_enter Tryz.func29, Tryz.ntmps29
  go_wp2_with fail
  refine c1.out.mono ?_
  rintro e w' ⟨rfl, rfl⟩
  go_wp2
  go_ret
  exact ⟨rfl, rfl⟩
theorem doc_N {w : World} {p : Option Addr} (h : NoIx w p) (i : Int) : Calls Tryz.prog 25 #[.pointer p, .int .i64 i] w fun e w' => e = .returned (.tuple #[.agg #[.int .i64 0, .int .i64 0, .slice none 0 0], .int .i64 4]) ∧ Below w.heap.size w w' := by
  have hB1 : Below w.heap.size w (w.alloc (.cells #[.int .i64 0, .int .i64 0, .slice none 0 0] 57)) := (Below.refl _ _).alloc (Nat.le_refl _) _
  have hR := Blk.new w 57 #[.int .i64 0, .int .i64 0, .slice none 0 0]
  have c1 := Lib.hid (none_N (h.below hB1))
  have HB1 := Lib.hid hB1
  have HR := Lib.hid hR
  have r0 := hR.cell 0
  have r1 := hR.cell 1
  have r2 := hR.cell 2
  have r0f := hR.frozen 0
  have r1f := hR.frozen 1
  have r2f := hR.frozen 2
  simp only [List.getElem?_toArray, List.getElem?_cons_zero, List.getElem?_cons_succ] at r0 r1 r2
  clear h hB1 hR
  go_enter Tryz.func25, Tryz.ntmps25
  go_wp2_with fail
  refine c1.out.mono ?_
  rintro e w' ⟨rfl, rfl⟩
  go_wp2_with fail
  refine bodyPost_ret (results_ct rfl rfl (run_loadVar_row _ w.heap.size 57 57 #[.int .i64 0, .int .i64 0, .slice none 0 0] (0, 0) _ HR.out Tryz.underlying57 rfl (by kernel_rfl))) rfl ?_
  exact ⟨rfl, HB1.out⟩
theorem add_N {w : World} {p : Option Addr} (h : NoIx w p) (sq : Int) (E : Option Addr) (m q : Nat) : Calls Tryz.prog 7 #[.pointer p, .agg #[.int .i64 sq, .slice E m q]] w fun e w' => e = .returned (.int .i64 4) ∧ Below w.heap.size w w' := by
  have hB1 : Below w.heap.size w (w.alloc (.cells #[.int .i64 sq, .slice E m q] 35)) := (Below.refl _ _).alloc (Nat.le_refl _) _
  have c1 := Lib.hid (none_N (h.below hB1))
  have HB1 := Lib.hid hB1
  clear h hB1
  go_enter Tryz.func7, Tryz.ntmps7
  go_wp2_with fail
  refine c1.out.mono ?_
  rintro e w' ⟨rfl, rfl⟩
  go_wp2
  go_ret
  exact ⟨rfl, HB1.out⟩
end Go.Proofs.YtdloacfoegjnmaaGreat.Mx
end
