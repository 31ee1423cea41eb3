/- slices.Grow of nil, slices.Concat of rows of counts. -/
import Derived.Lib.AppendZerosOnto
import Derived.Test.YtfegkchajkpgfaaGrWaPk
section
namespace Go.Proofs.Ytfegkchajkpgfaa.Gr
open Go.RowKit Go.Proofs.Ytfegkchajkpgfaa Go.Proofs.Ytfegkchajkpgfaa.Ut Go.Proofs.Ytfegkchajkpgfaa.Tk Go.Sort Go.Shelf Go.Lib
set_option maxRecDepth 20000
set_option linter.unusedSimpArgs false
set_option linter.unusedVariables false
/-- A row as it lies in a row of rows. -/
structure Rw where
  A : Option Addr
  c : Nat
  l : List Ct
def Rw.val (r : Rw) : Value := .slice r.A r.l.length r.c
/-- Rows in memory, below a block. -/
structure RowsIn (w : World) (B : Nat) (A : Option Addr) (rs : List Rw) : Prop where
  rd : Reads w B 1 A rs.length (rs.map Rw.val)
  row : ∀ r ∈ rs, Reads w B 2 r.A r.l.length (ctC r.l) ∧ r.l.length ≤ r.c ∧ (r.A = none → r.c = 0)
theorem RowsIn.below {w w' : World} {B : Nat} {A : Option Addr} {rs : List Rw} (h : RowsIn w B A rs) (hb : Below B w w') : RowsIn w' B A rs :=
  ⟨h.rd.below hb, fun r hr => ⟨(h.row r hr).1.below hb, (h.row r hr).2⟩⟩
theorem RowsIn.more {w : World} {B B' : Nat} {A : Option Addr} {rs : List Rw} (h : RowsIn w B A rs) (hb : B ≤ B') : RowsIn w B' A rs :=
  ⟨h.rd.more hb, fun r hr => ⟨(h.row r hr).1.more hb, (h.row r hr).2⟩⟩
theorem RowsIn.grow {w w' : World} {A : Option Addr} {rs : List Rw} (h : RowsIn w w.heap.size A rs) (hb : Below w.heap.size w w') : RowsIn w' w'.heap.size A rs := (h.below hb).more hb.size
def lensF (rs : List Rw) : Nat := (rs.map fun r => r.l.length).sum
def flatF (rs : List Rw) : List Ct := rs.flatMap Rw.l
theorem flatF_len (rs : List Rw) : (flatF rs).length = lensF rs := by
  unfold flatF lensF
  rw [List.length_flatMap]
theorem flatF_take (rs : List Rw) (k : Nat) (h : k < rs.length) : flatF (rs.take (k + 1)) = flatF (rs.take k) ++ rs[k].l := by
  unfold flatF
  rw [List.take_succ_eq_append_getElem h, List.flatMap_append, List.flatMap_singleton]
theorem lensF_take (rs : List Rw) (k : Nat) (h : k < rs.length) : lensF (rs.take (k + 1)) = lensF (rs.take k) + rs[k].l.length := by
  rw [← flatF_len, ← flatF_len, flatF_take rs k h, List.length_append]
theorem lensF_le (rs : List Rw) (k : Nat) : lensF (rs.take k) ≤ lensF rs := by
  have h : lensF (rs.take k ++ rs.drop k) = lensF (rs.take k) + lensF (rs.drop k) := by
    unfold lensF
    rw [List.map_append, List.sum_append]
  rw [List.take_append_drop] at h
  omega
theorem rows_at {w : World} {B : Nat} {A : Option Addr} {rs : List Rw} (h : Reads w B 1 A rs.length (rs.map Rw.val)) {k : Nat} (hk : k < rs.length) : ∃ b o, A = some ⟨b, o, none⟩ ∧ b < B ∧ w.cell? ⟨b, o + k, none⟩ = some (.slice rs[k].A rs[k].l.length rs[k].c) := by
  obtain ⟨b, o, _, e, hb, hc⟩ := h.at_map hk
  exact ⟨b, o, e, hb, hc⟩

set_option maxHeartbeats 1600000 in
theorem grow_any (n : Nat) (w : World) (hn : n ≤ 2097152) : Calls Try.prog 97 #[.slice none 0 0, .int .i64 (n : Int)] w fun e w' => ∃ v, e = .returned v ∧ CRow 81 w.heap.size w w' v [] := by
  obtain ⟨inf, hi0, hz0, hzs, hzb⟩ := info_parts gcount_info
  rcases Nat.eq_zero_or_pos n with rfl | h0
  · go_enter Try.func97, Try.ntmps97
    go_wp2
    go_ret
    exact ⟨.slice none 0 0, rfl, CRow.start _ (Below.refl _ _)⟩
  · obtain ⟨G, hG⟩ : ∃ G, G = grownCap w n 0 81 := ⟨_, rfl⟩
    have hGn : n ≤ G := by rw [hG]; exact grownCap_ge w _ _ _
    have hG63 : G ≤ maxLen := by rw [hG]; exact grownCap_le_maxLen w _ _ _ (by unfold maxLen; omega)
    obtain ⟨ZZ, hZZ⟩ : ∃ ZZ, ZZ = Builtin.zeroCells (Value.agg #[.string ByteArray.empty, .int .i64 0]).cells n ++ Builtin.zeroCells (Value.agg #[.string ByteArray.empty, .int .i64 0]).cells (G - n) := ⟨_, rfl⟩
    have hZl : ZZ.size = G * 2 := by
      rw [hZZ]
      simp [Builtin.zeroCells, Value.cells]
      omega
    have hrz : ∀ ty, (Builtin.append_ #[61, 3] ty #[.slice none 0 0, .int .i64 (n : Int)]).run Try.prog w = .ok (.slice (some ⟨w.heap.size, 0, none⟩) n G) (w.drew.alloc (.cells ZZ 81)) := fun ty => by
      have h := Lib.run_append_grow_zeros w 61 3 ty 81 inf _ .i64 .i64 Try.underlying61 Try.underlying3 hi0 hz0 none 0 0 [] (run_firstCells_none w.drew _ 0 0 0) n h0 (by omega) (by omega) (by omega) (by rw [hzb]; omega) (by rw [hzb]; exact growslice_fits (by omega) (by omega))
      rw [Nat.zero_add, ← hG] at h
      rw [h, hZZ]
      simp
    have F : Hid (CRow 81 w.heap.size w (w.drew.alloc (.cells ZZ 81)) (.slice (some ⟨w.heap.size, 0, none⟩) 0 G) []) := Lib.hid ⟨⟨rfl, .inr ⟨w.heap.size, G, ZZ, rfl, Nat.le_refl _, heap_alloc_new w.drew _, Nat.zero_le _, hG63, hZl, by simp [ctC]⟩⟩, (Below.refl w.heap.size w).drew.alloc (Nat.le_refl _) _⟩
    clear hZZ hG hZl
    go_enter Try.func97, Try.ntmps97
    go_wp2_with (at_builtin; refine Lib.wpList_append_run _ rfl _ _ _ _ rfl _ _ rfl rfl _ _ (hrz _) ?_)
    go_ret
    exact ⟨_, rfl, F.out⟩
set_option maxHeartbeats 6400000 in
theorem concat_any (A : Option Addr) (c : Nat) (rs : List Rw) (w : World) (h : RowsIn w w.heap.size A rs) (hl : rs.length ≤ 100) (htot : lensF rs ≤ 2097152) :
    Calls Try.prog 73 #[.slice A rs.length c] w fun e w' => ∃ v, e = .returned v ∧ CRow 81 w.heap.size w w' v (flatF rs) := by
  obtain ⟨i0, hi0, hz0, hz1, hz2⟩ := info_parts gcount_info
  have HR := Lib.hid h.rd
  have HI := Lib.hid h.row
  have Hle := Lib.hid (lensF_le rs)
  have c1 := grow_any (lensF rs) w htot
  clear h
  go_enter Try.func73, Try.ntmps73
  go_wp2
  go_loopw [3, 11] (fun v i wr => ∃ k : Nat, k ≤ rs.length ∧ i = .int .i64 k ∧ v = .int .i64 (lensF (rs.take k) : Nat) ∧ wr = w) (fun _ i _ => rs.length - (intOf i).toNat)
  case atStart => exact ⟨0, Nat.zero_le _, rfl, rfl, rfl⟩
  case round =>
    obtain ⟨k, hk, rfl, rfl, rfl⟩ := hrel
    by_cases hlt : k < rs.length
    · obtain ⟨bb, o, rfl, hbb, d1⟩ := rows_at HR.out hlt
      have T := Lib.hid (lensF_take rs k hlt)
      have hb1 := Hle.out (k + 1)
      rw [T.out] at hb1
      generalize rs[k] = r at *
      obtain ⟨ra, rc, rl⟩ := r
      simp only at d1 T hb1
      generalize lensF (rs.take k) = t at *
      generalize rl.length = m at *
      have hw : IntKind.i64.wrap ((t : Int) + (m : Int)) = ((t + m : Nat) : Int) := by rw [IntWalk.i64_in _ (by omega)]; omega
      have hnn : ¬ ((t : Int) + (m : Int)) < 0 := by omega
      go_wp2
      go_roundw
      case rel => exact ⟨k + 1, by omega, by go_num, by rw [T.out, Int.natCast_add], trivial⟩
      case measure => simp [intOf]; omega
    · have hall : rs.take k = rs := List.take_of_length_le (by omega)
      rw [hall]
      obtain ⟨wo, rfl⟩ : ∃ wo : World, wo = wr := ⟨_, rfl⟩
      go_wp2_with fail
      refine c1.mono ?_
      rintro e w1 ⟨v1, rfl, hv1⟩
      have HV1 := Lib.hid hv1
      clear hv1 c1 hall hlt hk
      go_wp2
      go_loopw [6, 27] (fun v i wx => ∃ j : Nat, j ≤ rs.length ∧ i = .int .i64 j ∧ Hid (CRow 81 wo.heap.size wo wx v (flatF (rs.take j)))) (fun _ i _ => rs.length - (intOf i).toNat)
      case atStart => exact ⟨0, Nat.zero_le _, rfl, HV1⟩
      case round =>
        obtain ⟨j, hj, rfl, HV⟩ := hrel
        by_cases hjl : j < rs.length
        · obtain ⟨bb, o, rfl, hbb, d1⟩ := rows_at HR.out hjl
          have d2 := (HV.out.bel.cell (p := ⟨bb, o + j, none⟩) hbb).trans d1
          have T := Lib.hid (flatF_take rs j hjl)
          have hb1 := Hle.out (j + 1)
          rw [← flatF_len, T.out, List.length_append] at hb1
          obtain ⟨hin, hb2, hb3⟩ := HI.out _ (List.getElem_mem hjl)
          have HIN := Lib.hid ((hin.below HV.out.bel).more HV.out.bel.size)
          have hsz := HV.out.bel.size
          clear hin d1
          generalize rs[j] = r at *
          obtain ⟨ra, rc, rl⟩ := r
          simp only at d2 T hb2 HIN hb1 hb3
          have Hb3 := Lib.hid hb3
          generalize flatF (rs.take j) = fl at *
          clear hb3
          go_wp2_with (at_builtin; (refine wpList_append_cts rfl _ _ 61 rfl 81 i0 Try.underlying61 hi0 hz0 hz1 hz2 wo.heap.size _ fl rl rfl HV.out.own _ _ _ rfl HIN.out Hb3.out ?b1 hsz ?_))
          case b1 => omega
          intro v3 w3 ho3 hg3
          have R3 : Hid (CRow 81 wo.heap.size wo w3 v3 (fl ++ rl)) := Lib.hid (HV.out.app hsz rfl ho3 hg3)
          clear ho3 hg3
          go_wp2
          go_roundw
          case rel => exact ⟨j + 1, by omega, by go_num, Lib.hid (by rw [T.out]; exact R3.out)⟩
          case measure => simp [intOf]; omega
        · have hall : rs.take j = rs := List.take_of_length_le (by omega)
          rw [hall] at HV
          go_wp2
          go_ret
          exact ⟨_, rfl, HV.out⟩
end Go.Proofs.Ytfegkchajkpgfaa.Gr
end

section
/- Rows as one: plain. -/
namespace Go.Proofs.Ytfegkchajkpgfaa.Gr
open Go.RowKit Go.Proofs.Ytfegkchajkpgfaa Go.Proofs.Ytfegkchajkpgfaa.Ut Go.Proofs.Ytfegkchajkpgfaa.Tk
set_option linter.unusedSimpArgs false
set_option linter.unusedVariables false

/-- What Merge answers. -/
def outM (rs : List Rw) : List Ct × Int := if rs.all (fun r => okR r.l) = true then (match mrgR (flatF rs) [] with | none => ([], 5) | some m => (m, 0)) else ([], 1)
theorem outM_bad {rs : List Rw} {k : Nat} (hk : k < rs.length) (h : okR rs[k].l = false) : outM rs = ([], 1) := by
  unfold outM
  rw [if_neg]
  intro hall
  have := List.all_eq_true.1 hall _ (List.getElem_mem hk)
  rw [h] at this
  cases this
theorem outM_none {rs : List Rw} (h : ∀ k (hk : k < rs.length), okR rs[k].l = true) (hm : mrgR (flatF rs) [] = none) : outM rs = ([], 5) := by
  unfold outM
  rw [if_pos (List.all_eq_true.2 (fun r hr => by obtain ⟨k, hk, rfl⟩ := List.getElem_of_mem hr; exact h k hk)), hm]
theorem outM_some {rs : List Rw} {m : List Ct} (h : ∀ k (hk : k < rs.length), okR rs[k].l = true) (hm : mrgR (flatF rs) [] = some m) : outM rs = (m, 0) := by
  unfold outM
  rw [if_pos (List.all_eq_true.2 (fun r hr => by obtain ⟨k, hk, rfl⟩ := List.getElem_of_mem hr; exact h k hk)), hm]
theorem mrgR_app : ∀ (a b l : List Ct), mrgR (a ++ b) l = (mrgR a l).bind (mrgR b)
  | [], b, l => rfl
  | c :: a, b, l => by
    show (if (withR l c.1 c.2).2 = true then mrgR (a ++ b) (withR l c.1 c.2).1 else none) = (if (withR l c.1 c.2).2 = true then mrgR a (withR l c.1 c.2).1 else none).bind (mrgR b)
    split
    · exact mrgR_app a b _
    · rfl
theorem mrgT_app : ∀ (a b : List Ct) (f : Tb), mrgT (a ++ b) f = (mrgT a f).bind (mrgT b)
  | [], b, f => rfl
  | c :: a, b, f => by
    show (if tooT f c.1 c.2 = true then none else mrgT (a ++ b) (addT f c.1 c.2)) = (if tooT f c.1 c.2 = true then none else mrgT a (addT f c.1 c.2)).bind (mrgT b)
    split
    · rfl
    · exact mrgT_app a b _
theorem mrgR_go {pre bs l : List Ct} (k : Nat) (h : k < bs.length) (h1 : mrgR (pre ++ bs.take k) [] = some l) (h2 : (withR l bs[k].1 bs[k].2).2 = true) : mrgR (pre ++ bs.take (k + 1)) [] = some (withR l bs[k].1 bs[k].2).1 := by
  rw [List.take_succ_eq_append_getElem h, ← List.append_assoc, mrgR_app, h1]
  show (if (withR l bs[k].1 bs[k].2).2 = true then some (withR l bs[k].1 bs[k].2).1 else none) = _
  rw [if_pos h2]
theorem mrgR_no {pre bs l : List Ct} (cs : List Ct) (k : Nat) (h : k < bs.length) (h1 : mrgR (pre ++ bs.take k) [] = some l) (h2 : (withR l bs[k].1 bs[k].2).2 = false) : mrgR (pre ++ bs ++ cs) [] = none := by
  have e : bs = bs.take k ++ bs[k] :: bs.drop (k + 1) := by rw [List.getElem_cons_drop, List.take_append_drop]
  have e2 : pre ++ bs = (pre ++ bs.take k) ++ bs[k] :: bs.drop (k + 1) := by rw [List.append_assoc, ← e]
  rw [e2, List.append_assoc, mrgR_app, h1]
  show (if (withR l bs[k].1 bs[k].2).2 = true then _ else none) = _
  rw [if_neg (by rw [h2]; simp)]
theorem mrgT_go {bs : List Ct} {f : Tb} (k : Nat) (h : k < bs.length) (h1 : mrgT (bs.take k) noT = some f) (h2 : tooT f bs[k].1 bs[k].2 = false) : mrgT (bs.take (k + 1)) noT = some (addT f bs[k].1 bs[k].2) := by
  rw [List.take_succ_eq_append_getElem h, mrgT_app, h1]
  show (if tooT f bs[k].1 bs[k].2 = true then none else some (addT f bs[k].1 bs[k].2)) = _
  rw [if_neg (by rw [h2]; simp)]
theorem mrgT_no {bs : List Ct} {f : Tb} (k : Nat) (h : k < bs.length) (h1 : mrgT (bs.take k) noT = some f) (h2 : tooT f bs[k].1 bs[k].2 = true) : mrgT bs noT = none := by
  have e : bs = bs.take k ++ bs[k] :: bs.drop (k + 1) := by rw [List.getElem_cons_drop, List.take_append_drop]
  rw [e, mrgT_app, h1]
  show (if tooT f bs[k].1 bs[k].2 = true then none else _) = _
  rw [if_pos h2]
theorem flatF_split (rs : List Rw) (i : Nat) (h : i < rs.length) : flatF rs = flatF (rs.take i) ++ rs[i].l ++ flatF (rs.drop (i + 1)) := by
  rw [← flatF_take rs i h]
  unfold flatF
  rw [← List.flatMap_append, List.take_append_drop]
/-- A table whose numbers may be. -/
def TabOk (f : Tb) : Prop := ∀ s n, f s = some n → 1 ≤ n ∧ n ≤ 1099511627776
theorem TabOk.none : TabOk noT := fun s n h => (nomatch h)
theorem tooT_iff {f : Tb} {s : ByteArray} {n : Int} (hn : n ≤ 1099511627776) : tooT f s n = decide (1099511627776 - n < (f s).getD 0) := by
  unfold tooT
  cases f s with
  | none => exact (decide_eq_false (by show ¬ (1099511627776 - n < 0); omega)).symm
  | some m => rfl
theorem TabOk.get {f : Tb} (h : TabOk f) (s : ByteArray) : 0 ≤ (f s).getD 0 ∧ (f s).getD 0 ≤ 1099511627776 := by
  cases e : f s with
  | none => exact ⟨by decide, by decide⟩
  | some m => have := h s m e; exact ⟨by show 0 ≤ m; omega, by show m ≤ _; omega⟩
theorem TabOk.add {f : Tb} (h : TabOk f) {s : ByteArray} {n : Int} (hn : 1 ≤ n ∧ n ≤ 1099511627776) (ht : tooT f s n = false) : TabOk (addT f s n) := by
  intro t m hm
  unfold addT putT at hm
  by_cases e : t = s
  · subst e
    rw [if_pos rfl] at hm
    injection hm with hm
    rw [tooT_iff hn.2, decide_eq_false_iff_not] at ht
    have := h.get t
    omega
  · rw [if_neg e] at hm
    exact h t m hm
theorem okR_w {l : List Ct} (h : okR l = true) : ∀ x ∈ l, x.1.size ≤ 32 := by
  intro x hx
  obtain ⟨k, hk, rfl⟩ := List.getElem_of_mem hx
  unfold okR at h
  have := List.all_eq_true.1 h k (List.mem_range.2 hk)
  rw [okK_eq hk] at this
  simp only [Bool.and_eq_true, decide_eq_true_eq] at this
  have hw := this.1.1.1
  by_cases hs : l[k].1.size ≤ 32
  · exact hs
  · have := isW_len l[k].1.data.toList (by rw [bsize]; omega)
    rw [this] at hw
    cases hw
/-- Every count of rows that may be. -/
theorem flat_ok {rs : List Rw} (h : ∀ k (hk : k < rs.length), okR rs[k].l = true) : ∀ x ∈ flatF rs, (1 ≤ x.2 ∧ x.2 ≤ 1099511627776) ∧ x.1.size ≤ 32 := by
  intro x hx
  obtain ⟨r, hr, hxr⟩ := List.mem_flatMap.1 hx
  obtain ⟨k, hk, rfl⟩ := List.getElem_of_mem hr
  exact ⟨okR_few (h k hk) x hxr, okR_w (h k hk) x hxr⟩
theorem tail_len (l : List Ct) (s : ByteArray) : (lead l s).length + (tail' l s).length = l.length := by
  have := congrArg List.length (lead_tail l s)
  rwa [List.length_append] at this
theorem withR_len (l : List Ct) (s : ByteArray) (n : Int) : (withR l s n).1.length ≤ l.length + 1 := by
  have ht := tail_len l s
  unfold withR
  split
  · rename_i h
    rw [h] at ht
    simp at ht ⊢
    omega
  · rename_i x b h
    rw [h] at ht
    split
    · split
      · simp
      · simp at ht ⊢; omega
    · simp at ht ⊢; omega
def SmallC (l : List Ct) : Prop := ∀ y ∈ l, y.1.size ≤ 140737488351232 ∧ 0 ≤ y.2
theorem withR_small {l : List Ct} {s : ByteArray} {n : Int} (h : SmallC l) (hs : s.size ≤ 140737488351232) (hn : 0 ≤ n) : SmallC (withR l s n).1 := by
  have hl := lead_tail l s
  have h1 : ∀ y ∈ lead l s, y.1.size ≤ 140737488351232 ∧ 0 ≤ y.2 := fun y hy => h y (by rw [← hl]; exact List.mem_append_left _ hy)
  have h2 : ∀ y ∈ tail' l s, y.1.size ≤ 140737488351232 ∧ 0 ≤ y.2 := fun y hy => h y (by rw [← hl]; exact List.mem_append_right _ hy)
  unfold withR SmallC
  split
  · intro y hy
    rcases List.mem_append.1 hy with hy | hy
    · exact h1 y hy
    · rw [List.mem_singleton] at hy; subst hy; exact ⟨hs, hn⟩
  · rename_i x b hb
    rw [hb] at h2
    split
    · split
      · intro y hy; cases hy
      · intro y hy
        rcases List.mem_append.1 hy with hy | hy
        · rcases List.mem_append.1 hy with hy | hy
          · exact h1 y hy
          · rw [List.mem_singleton] at hy; subst hy
            have := (h2 x (List.mem_cons_self ..)).2
            exact ⟨hs, by show 0 ≤ x.2 + n; omega⟩
        · exact h2 y (List.mem_cons_of_mem _ hy)
    · intro y hy
      rcases List.mem_append.1 hy with hy | hy
      · rcases List.mem_append.1 hy with hy | hy
        · exact h1 y hy
        · rw [List.mem_singleton] at hy; subst hy; exact ⟨hs, hn⟩
      · exact h2 y hy
/-- What the program makes of the tables is what the document makes of the rows. -/
theorem outM_tab {rs : List Rw} {f : Tb} {l : List Ct} (h : ∀ k (hk : k < rs.length), okR rs[k].l = true) (hf : mrgT (flatF rs) noT = some f) (hl : IsTab f l) : outM rs = (l, 0) := by
  obtain ⟨m, h1, h2⟩ := (mrg_one (flatF rs) noT [] IsTab.none).2 f hf
  rw [outM_some h h1, h2.one hl]
theorem outM_tabN {rs : List Rw} (h : ∀ k (hk : k < rs.length), okR rs[k].l = true) (hf : mrgT (flatF rs) noT = none) : outM rs = ([], 5) :=
  outM_none h ((mrg_one (flatF rs) noT [] IsTab.none).1 hf)
end Go.Proofs.Ytfegkchajkpgfaa.Gr
end
