/- The reference's With, the row in memory. Printed by genwith.py. -/
import Derived.Test.YthhklbjhlfejfaaHistU
namespace Go.Proofs.Ythhklbjhlfejfaa.Hi
open Go.RowKit
set_option maxRecDepth 20000
theorem pos_pair (k x : Int) : bkC [(k, x)] = [Value.int .i64 k, Value.int .i64 x] := rfl
theorem news_one {w : World} (k x : Int) : ∀ j u, (bkC [(k, x)])[j]? = some u → (w.alloc (.cells #[.int .i64 k, .int .i64 x] 48)).cell? ((⟨w.heap.size, 0, none⟩ : Addr).add j) = some u := fun j u hj => by
  rw [add_lit, Nat.zero_add, (Blk.new w 48 #[.int .i64 k, .int .i64 x]).cell j]
  rw [pos_pair] at hj
  simpa using hj
def WithPost (w : World) (l : List Bk) (k n : Int) (e : Ending) (w' : World) : Prop :=
  ∃ v', e = .returned (.tuple #[v', .bool (putF l k n).2]) ∧ Row w.heap.size w w' v' (putF l k n).1

set_option maxHeartbeats 3200000 in
theorem with_big (b o c : Nat) (l : List Bk) (k n : Int) (w : World) (hR : Reads w w.heap.size 2 (some ⟨b, o, none⟩) l.length (bkC l)) (hc : l.length ≤ c) (hl : l.length ≤ 1000000) (hn : 1 ≤ n) (hn2 : n ≤ 9223372036854775807) (h1 : ∀ b ∈ l, 1 ≤ b.2) (hlt0 : pos l k < l.length) (hk : (l[pos l k]'hlt0).1 = k) (hbig : mostN < n ∨ mostN - n < (l[pos l k]'hlt0).2) :
    Calls Try.prog 29 #[.slice (some ⟨b, o, none⟩) l.length c, .int .i64 k, .int .i64 n] w (WithPost w l k n) := by
  obtain ⟨inf, hi0, hz0, hz1, hz2⟩ := info_parts bk_info
  have HR := Lib.hid hR
  have R0 := Lib.hid (Row.empty w)
  have Hlo := Lib.hid (fun i (h : i < pos l k) => pos_lt l k i h)
  have hp := pos_le l k
  have L1 : Hid ((bkC (l.take (pos l k))).length = pos l k * 2) := Lib.hid (by rw [bkC_len, List.length_take]; omega)
  have L1' : Hid ((l.take (pos l k)).length = pos l k) := Lib.hid (by rw [List.length_take]; omega)
  have hgd : l.getD (pos l k) (0, 0) = l[pos l k] := by rw [List.getD_eq_getElem?_getD, List.getElem?_eq_getElem hlt0]; rfl
  have F : Hid (putF l k n = ([], false)) := Lib.hid (by unfold putF; rw [if_pos ⟨hlt0, by rw [hgd]; exact hk⟩, hgd, if_pos hbig])
  obtain ⟨bb, oo, e', hbb, d1, d2⟩ := bks_at hR rfl hlt0
  cases e'
  rw [hk] at d1
  have hone := h1 _ (List.getElem_mem hlt0)
  have hw : IntKind.i64.wrap (1099511627776 - n) = 1099511627776 - n := IntWalk.i64_in _ (by omega)
  unfold mostN at hbig
  clear hR
  unfold WithPost
  clear hgd hk h1
  generalize l[pos l k].2 = y at *
  generalize pos l k = p at *
  go_enter Try.func29, Try.ntmps29
  go_wp2
  go_loopw [8] (fun i wr => ∃ j : Nat, j ≤ p ∧ i = .int .i64 j ∧ wr = w) (fun i _ => l.length - (intOf i).toNat)
  case atStart => exact ⟨0, Nat.zero_le _, rfl, rfl⟩
  case round =>
    obtain ⟨j, hj, rfl, rfl⟩ := hrel
    by_cases hlt : j < p
    · obtain ⟨hjl, hjk⟩ := Hlo.out j hlt
      obtain ⟨bb, oo, e', hbb, d1, d2⟩ := bks_at HR.out rfl hjl
      cases e'
      clear d2
      generalize l[j].1 = x at *
      go_wp2
      go_roundw
      case rel => exact ⟨j + 1, by omega, by go_num, trivial⟩
      case measure => simp [intOf]; omega
    · obtain rfl : j = p := by omega
      go_wp2_with (at_builtin; refine wpList_append_own _ rfl _ _ 29 rfl wr.heap.size 48 inf _ 2 16 Try.underlying29 hi0 hz0 hz1 hz2 rfl (by decide) (.slice (some ⟨wr.heap.size, 0, none⟩) 0 0) 0 (bkC []) rfl R0.out.own ⟨b, o, none⟩ j c (bkC (l.take j)) rfl L1.out ?a1 (bkC_one _) ?a3 ?a4 ?a5 ?_)
      case a1 =>
        intro i u hu
        rw [add_lit, World.cell?_alloc_lt]
        · rw [bkC_take, List.getElem?_take] at hu
          split at hu
          · exact (reads_cell HR.out i u hu).2
          · cases hu
        · rw [bkC_take, List.getElem?_take] at hu
          split at hu
          · exact (reads_cell HR.out i u hu).1
          · cases hu
      case a3 => unfold maxLen; omega
      case a4 => omega
      case a5 => first | omega | (rw [World.size_alloc]; omega)
      intro v1 w1 ho1 hg1 _
      have R1 : Hid (Row wr.heap.size wr w1 v1 (l.take j)) := Lib.hid (R0.out.app (by rw [World.size_alloc]; omega) L1'.out (by rw [List.length_nil, Nat.zero_add]; exact ho1) hg1)
      have hs1 := R1.out.bel.size
      clear ho1 hg1
      have d1' := (R1.out.bel.cell (p := ⟨b, o + j * 2, none⟩) hbb).trans d1
      have d2' := (R1.out.bel.cell (p := ⟨b, o + j * 2 + 1, none⟩) hbb).trans d2
      go_wp2
      all_goals go_ret2
      all_goals exact ⟨.slice none 0 0, by rw [F.out]; rfl, by rw [F.out]; exact Row.start _ _ _ R1.out.bel⟩

set_option maxHeartbeats 3200000 in
theorem with_fnd (b o c : Nat) (l : List Bk) (k n : Int) (w : World) (hR : Reads w w.heap.size 2 (some ⟨b, o, none⟩) l.length (bkC l)) (hc : l.length ≤ c) (hl : l.length ≤ 1000000) (hn : 1 ≤ n) (hn2 : n ≤ 9223372036854775807) (h1 : ∀ b ∈ l, 1 ≤ b.2) (hlt0 : pos l k < l.length) (hk : (l[pos l k]'hlt0).1 = k) (hbig : ¬ (mostN < n ∨ mostN - n < (l[pos l k]'hlt0).2)) (hcc : ¬ c = pos l k + 1) :
    Calls Try.prog 29 #[.slice (some ⟨b, o, none⟩) l.length c, .int .i64 k, .int .i64 n] w (WithPost w l k n) := by
  obtain ⟨inf, hi0, hz0, hz1, hz2⟩ := info_parts bk_info
  have HR := Lib.hid hR
  have R0 := Lib.hid (Row.empty w)
  have Hlo := Lib.hid (fun i (h : i < pos l k) => pos_lt l k i h)
  have hp := pos_le l k
  have L1 : Hid ((bkC (l.take (pos l k))).length = pos l k * 2) := Lib.hid (by rw [bkC_len, List.length_take]; omega)
  have L1' : Hid ((l.take (pos l k)).length = pos l k) := Lib.hid (by rw [List.length_take]; omega)
  have hgd : l.getD (pos l k) (0, 0) = l[pos l k] := by rw [List.getD_eq_getElem?_getD, List.getElem?_eq_getElem hlt0]; rfl
  have F : Hid (putF l k n = (l.set (pos l k) (k, l[pos l k].2 + n), true)) := Lib.hid (by unfold putF; rw [if_pos ⟨hlt0, by rw [hgd]; exact hk⟩, hgd, if_neg hbig])
  have FE : Hid (l.take (pos l k) ++ [(k, l[pos l k].2 + n)] ++ l.drop (pos l k + 1) = l.set (pos l k) (k, l[pos l k].2 + n)) := Lib.hid (by rw [List.set_eq_take_append_cons_drop, if_pos hlt0, List.append_assoc]; rfl)
  have L3 : Hid ((bkC (l.drop (pos l k + 1))).length = (l.length - (pos l k + 1)) * 2) := Lib.hid (by rw [bkC_len, List.length_drop])
  have L3' : Hid ((l.drop (pos l k + 1)).length = l.length - (pos l k + 1)) := Lib.hid (by rw [List.length_drop])
  obtain ⟨bb, oo, e', hbb, d1, d2⟩ := bks_at hR rfl hlt0
  cases e'
  rw [hk] at d1
  have hone := h1 _ (List.getElem_mem hlt0)
  have hw : IntKind.i64.wrap (1099511627776 - n) = 1099511627776 - n := IntWalk.i64_in _ (by unfold mostN at hbig; omega)
  have hw2 : IntKind.i64.wrap (l[pos l k].2 + n) = l[pos l k].2 + n := IntWalk.i64_in _ (by unfold mostN at hbig; omega)
  have hb1 : ¬ 1099511627776 < n := by unfold mostN at hbig; omega
  have hb2 : ¬ 1099511627776 - n < l[pos l k].2 := by unfold mostN at hbig; omega
  clear hR
  unfold WithPost
  clear hgd hk h1 hbig
  generalize l[pos l k].2 = y at *
  generalize pos l k = p at *
  go_enter Try.func29, Try.ntmps29
  go_wp2
  go_loopw [8] (fun i wr => ∃ j : Nat, j ≤ p ∧ i = .int .i64 j ∧ wr = w) (fun i _ => l.length - (intOf i).toNat)
  case atStart => exact ⟨0, Nat.zero_le _, rfl, rfl⟩
  case round =>
    obtain ⟨j, hj, rfl, rfl⟩ := hrel
    by_cases hlt : j < p
    · obtain ⟨hjl, hjk⟩ := Hlo.out j hlt
      obtain ⟨bb, oo, e', hbb, d1, d2⟩ := bks_at HR.out rfl hjl
      cases e'
      clear d2
      generalize l[j].1 = x at *
      go_wp2
      go_roundw
      case rel => exact ⟨j + 1, by omega, by go_num, trivial⟩
      case measure => simp [intOf]; omega
    · obtain rfl : j = p := by omega
      go_wp2_with (at_builtin; refine wpList_append_own _ rfl _ _ 29 rfl wr.heap.size 48 inf _ 2 16 Try.underlying29 hi0 hz0 hz1 hz2 rfl (by decide) (.slice (some ⟨wr.heap.size, 0, none⟩) 0 0) 0 (bkC []) rfl R0.out.own ⟨b, o, none⟩ j c (bkC (l.take j)) rfl L1.out ?a1 (bkC_one _) ?a3 ?a4 ?a5 ?_)
      case a1 =>
        intro i u hu
        rw [add_lit, World.cell?_alloc_lt]
        · rw [bkC_take, List.getElem?_take] at hu
          split at hu
          · exact (reads_cell HR.out i u hu).2
          · cases hu
        · rw [bkC_take, List.getElem?_take] at hu
          split at hu
          · exact (reads_cell HR.out i u hu).1
          · cases hu
      case a3 => unfold maxLen; omega
      case a4 => omega
      case a5 => first | omega | (rw [World.size_alloc]; omega)
      intro v1 w1 ho1 hg1 _
      have R1 : Hid (Row wr.heap.size wr w1 v1 (l.take j)) := Lib.hid (R0.out.app (by rw [World.size_alloc]; omega) L1'.out (by rw [List.length_nil, Nat.zero_add]; exact ho1) hg1)
      have hs1 := R1.out.bel.size
      clear ho1 hg1
      have d1' := (R1.out.bel.cell (p := ⟨b, o + j * 2, none⟩) hbb).trans d1
      have d2' := (R1.out.bel.cell (p := ⟨b, o + j * 2 + 1, none⟩) hbb).trans d2
      have hjn : j + 1 ≤ l.length := by omega
      have hw3 : IntKind.i64.wrap ((j : Int) + 1) = (j : Int) + 1 := IntWalk.i64_in _ (by omega)
      have htn : ((j : Int) + 1).toNat = j + 1 := by omega
      have hb3 : (0 : Int) ≤ (j : Int) + 1 := by omega
      have hb4 : (j : Int) + 1 ≤ (l.length : Int) := by omega
      have hl1 : (l.take j).length ≤ 1000000 := by rw [List.length_take]; omega
      go_wp2_with (at_builtin; refine wpList_append_own _ rfl _ _ 29 rfl wr.heap.size 48 inf _ 2 16 Try.underlying29 hi0 hz0 hz1 hz2 rfl (by decide) v1 (l.take j).length (bkC (l.take j)) rfl (R1.out.more hs1 _).own ⟨w1.heap.size, 0, none⟩ 1 1 (bkC [(k, y + n)]) rfl rfl (news_one k (y + n)) (bkC_one _) ?a3 ?a4 ?a5 ?_)
      case a3 => unfold maxLen; omega
      case a4 => omega
      case a5 => first | omega | (rw [World.size_alloc]; omega)
      intro v2 w2 ho2 hg2 _
      have R2 : Hid (Row wr.heap.size wr w2 v2 (l.take j ++ [(k, y + n)])) := Lib.hid ((R1.out.more hs1 _).app (by first | omega | (rw [World.size_alloc]; omega)) rfl (by rw [L1'.out]; exact ho2) hg2)
      have hs2 := R2.out.bel.size
      clear ho2 hg2
      have hl2 : (l.take j ++ [(k, y + n)]).length ≤ 1000001 := by rw [List.length_append]; simp only [List.length_cons, List.length_nil]; omega
      go_wp2_with (at_builtin; refine wpList_append_own _ rfl _ _ 29 rfl wr.heap.size 48 inf _ 2 16 Try.underlying29 hi0 hz0 hz1 hz2 rfl (by decide) v2 (l.take j ++ [(k, y + n)]).length (bkC (l.take j ++ [(k, y + n)])) rfl R2.out.own ⟨b, o + (j + 1) * 2, none⟩ (l.length - (j + 1)) (c - (j + 1)) (bkC (l.drop (j + 1))) rfl L3.out ?a1 (bkC_one _) ?a3 ?a4 hs2 ?_)
      case a1 =>
        intro i u hu
        rw [add_lit]
        rw [bkC_drop, List.getElem?_drop] at hu
        obtain ⟨h1, h2⟩ := reads_cell HR.out _ u hu
        rw [Nat.add_assoc o]
        exact (R2.out.bel.cell (p := ⟨b, _, none⟩) h1).trans h2
      case a3 => unfold maxLen; omega
      case a4 => omega
      intro v3 w3 ho3 hg3 _
      have R3 := Lib.hid (R2.out.app hs2 L3'.out (by
        have e : (l.take j ++ [(k, y + n)]).length = j + 1 := by rw [List.length_append, L1'.out]; rfl
        rw [e]
        first
          | exact ho3
          | (have e2 : j + 1 + (l.length - (j + 1)) = l.length := by omega
             rw [e2]
             exact ho3)) hg3)
      clear ho3 hg3
      go_wp2
      go_ret2
      exact ⟨v3, by rw [F.out]; rfl, by rw [F.out]; exact FE.out ▸ R3.out⟩

set_option maxHeartbeats 3200000 in
theorem with_fnd0 (b o c : Nat) (l : List Bk) (k n : Int) (w : World) (hR : Reads w w.heap.size 2 (some ⟨b, o, none⟩) l.length (bkC l)) (hc : l.length ≤ c) (hl : l.length ≤ 1000000) (hn : 1 ≤ n) (hn2 : n ≤ 9223372036854775807) (h1 : ∀ b ∈ l, 1 ≤ b.2) (hlt0 : pos l k < l.length) (hk : (l[pos l k]'hlt0).1 = k) (hbig : ¬ (mostN < n ∨ mostN - n < (l[pos l k]'hlt0).2)) (hcc : c = pos l k + 1) :
    Calls Try.prog 29 #[.slice (some ⟨b, o, none⟩) l.length c, .int .i64 k, .int .i64 n] w (WithPost w l k n) := by
  obtain ⟨inf, hi0, hz0, hz1, hz2⟩ := info_parts bk_info
  have HR := Lib.hid hR
  have R0 := Lib.hid (Row.empty w)
  have Hlo := Lib.hid (fun i (h : i < pos l k) => pos_lt l k i h)
  have hp := pos_le l k
  have L1 : Hid ((bkC (l.take (pos l k))).length = pos l k * 2) := Lib.hid (by rw [bkC_len, List.length_take]; omega)
  have L1' : Hid ((l.take (pos l k)).length = pos l k) := Lib.hid (by rw [List.length_take]; omega)
  have hgd : l.getD (pos l k) (0, 0) = l[pos l k] := by rw [List.getD_eq_getElem?_getD, List.getElem?_eq_getElem hlt0]; rfl
  have F : Hid (putF l k n = (l.set (pos l k) (k, l[pos l k].2 + n), true)) := Lib.hid (by unfold putF; rw [if_pos ⟨hlt0, by rw [hgd]; exact hk⟩, hgd, if_neg hbig])
  have FE : Hid (l.take (pos l k) ++ [(k, l[pos l k].2 + n)] ++ l.drop (pos l k + 1) = l.set (pos l k) (k, l[pos l k].2 + n)) := Lib.hid (by rw [List.set_eq_take_append_cons_drop, if_pos hlt0, List.append_assoc]; rfl)
  have L3 : Hid ((bkC (l.drop (pos l k + 1))).length = (l.length - (pos l k + 1)) * 2) := Lib.hid (by rw [bkC_len, List.length_drop])
  have L3' : Hid ((l.drop (pos l k + 1)).length = l.length - (pos l k + 1)) := Lib.hid (by rw [List.length_drop])
  obtain ⟨bb, oo, e', hbb, d1, d2⟩ := bks_at hR rfl hlt0
  cases e'
  rw [hk] at d1
  have hone := h1 _ (List.getElem_mem hlt0)
  have hw : IntKind.i64.wrap (1099511627776 - n) = 1099511627776 - n := IntWalk.i64_in _ (by unfold mostN at hbig; omega)
  have hw2 : IntKind.i64.wrap (l[pos l k].2 + n) = l[pos l k].2 + n := IntWalk.i64_in _ (by unfold mostN at hbig; omega)
  have hb1 : ¬ 1099511627776 < n := by unfold mostN at hbig; omega
  have hb2 : ¬ 1099511627776 - n < l[pos l k].2 := by unfold mostN at hbig; omega
  clear hR
  unfold WithPost
  clear hgd hk h1 hbig
  generalize l[pos l k].2 = y at *
  generalize pos l k = p at *
  subst hcc
  go_enter Try.func29, Try.ntmps29
  go_wp2
  go_loopw [8] (fun i wr => ∃ j : Nat, j ≤ p ∧ i = .int .i64 j ∧ wr = w) (fun i _ => l.length - (intOf i).toNat)
  case atStart => exact ⟨0, Nat.zero_le _, rfl, rfl⟩
  case round =>
    obtain ⟨j, hj, rfl, rfl⟩ := hrel
    by_cases hlt : j < p
    · obtain ⟨hjl, hjk⟩ := Hlo.out j hlt
      obtain ⟨bb, oo, e', hbb, d1, d2⟩ := bks_at HR.out rfl hjl
      cases e'
      clear d2
      generalize l[j].1 = x at *
      go_wp2
      go_roundw
      case rel => exact ⟨j + 1, by omega, by go_num, trivial⟩
      case measure => simp [intOf]; omega
    · obtain rfl : j = p := by omega
      go_wp2_with (at_builtin; refine wpList_append_own _ rfl _ _ 29 rfl wr.heap.size 48 inf _ 2 16 Try.underlying29 hi0 hz0 hz1 hz2 rfl (by decide) (.slice (some ⟨wr.heap.size, 0, none⟩) 0 0) 0 (bkC []) rfl R0.out.own ⟨b, o, none⟩ j (j + 1) (bkC (l.take j)) rfl L1.out ?a1 (bkC_one _) ?a3 ?a4 ?a5 ?_)
      case a1 =>
        intro i u hu
        rw [add_lit, World.cell?_alloc_lt]
        · rw [bkC_take, List.getElem?_take] at hu
          split at hu
          · exact (reads_cell HR.out i u hu).2
          · cases hu
        · rw [bkC_take, List.getElem?_take] at hu
          split at hu
          · exact (reads_cell HR.out i u hu).1
          · cases hu
      case a3 => unfold maxLen; omega
      case a4 => omega
      case a5 => first | omega | (rw [World.size_alloc]; omega)
      intro v1 w1 ho1 hg1 _
      have R1 : Hid (Row wr.heap.size wr w1 v1 (l.take j)) := Lib.hid (R0.out.app (by rw [World.size_alloc]; omega) L1'.out (by rw [List.length_nil, Nat.zero_add]; exact ho1) hg1)
      have hs1 := R1.out.bel.size
      clear ho1 hg1
      have d1' := (R1.out.bel.cell (p := ⟨b, o + j * 2, none⟩) hbb).trans d1
      have d2' := (R1.out.bel.cell (p := ⟨b, o + j * 2 + 1, none⟩) hbb).trans d2
      have hjn : j + 1 ≤ l.length := by omega
      have hw3 : IntKind.i64.wrap ((j : Int) + 1) = (j : Int) + 1 := IntWalk.i64_in _ (by omega)
      have htn : ((j : Int) + 1).toNat = j + 1 := by omega
      have hb3 : (0 : Int) ≤ (j : Int) + 1 := by omega
      have hb4 : (j : Int) + 1 ≤ (l.length : Int) := by omega
      have hl1 : (l.take j).length ≤ 1000000 := by rw [List.length_take]; omega
      go_wp2_with (at_builtin; refine wpList_append_own _ rfl _ _ 29 rfl wr.heap.size 48 inf _ 2 16 Try.underlying29 hi0 hz0 hz1 hz2 rfl (by decide) v1 (l.take j).length (bkC (l.take j)) rfl (R1.out.more hs1 _).own ⟨w1.heap.size, 0, none⟩ 1 1 (bkC [(k, y + n)]) rfl rfl (news_one k (y + n)) (bkC_one _) ?a3 ?a4 ?a5 ?_)
      case a3 => unfold maxLen; omega
      case a4 => omega
      case a5 => first | omega | (rw [World.size_alloc]; omega)
      intro v2 w2 ho2 hg2 _
      have R2 : Hid (Row wr.heap.size wr w2 v2 (l.take j ++ [(k, y + n)])) := Lib.hid ((R1.out.more hs1 _).app (by first | omega | (rw [World.size_alloc]; omega)) rfl (by rw [L1'.out]; exact ho2) hg2)
      have hs2 := R2.out.bel.size
      clear ho2 hg2
      have hl2 : (l.take j ++ [(k, y + n)]).length ≤ 1000001 := by rw [List.length_append]; simp only [List.length_cons, List.length_nil]; omega
      have hd0 : l.drop (j + 1) = [] := List.drop_eq_nil_of_le (by omega)
      go_wp2_with (at_builtin; refine wpList_append_own _ rfl _ _ 29 rfl wr.heap.size 48 inf _ 2 16 Try.underlying29 hi0 hz0 hz1 hz2 rfl (by decide) v2 (l.take j ++ [(k, y + n)]).length (bkC (l.take j ++ [(k, y + n)])) rfl R2.out.own ⟨b, o, none⟩ 0 0 (bkC []) rfl rfl ?a1 (bkC_one _) ?a3 ?a4 hs2 ?_)
      case a1 =>
        intro i u hu
        cases hu
      case a3 => unfold maxLen; omega
      case a4 => omega
      intro v3 w3 ho3 hg3 _
      have R3 : Hid (Row wr.heap.size wr w3 v3 (l.take j ++ [(k, y + n)] ++ l.drop (j + 1))) := Lib.hid (by
        rw [hd0]
        exact R2.out.app hs2 rfl (by
          have e : (l.take j ++ [(k, y + n)]).length = j + 1 := by rw [List.length_append, L1'.out]; rfl
          rw [e]
          exact ho3) hg3)
      clear ho3 hg3 hd0
      go_wp2
      go_ret2
      exact ⟨v3, by rw [F.out]; rfl, by rw [F.out]; exact FE.out ▸ R3.out⟩

set_option maxHeartbeats 3200000 in
theorem with_mid (b o c : Nat) (l : List Bk) (k n : Int) (w : World) (hR : Reads w w.heap.size 2 (some ⟨b, o, none⟩) l.length (bkC l)) (hc : l.length ≤ c) (hl : l.length ≤ 1000000) (hlt0 : pos l k < l.length) (hk : k < (l[pos l k]'hlt0).1) :
    Calls Try.prog 29 #[.slice (some ⟨b, o, none⟩) l.length c, .int .i64 k, .int .i64 n] w (WithPost w l k n) := by
  obtain ⟨inf, hi0, hz0, hz1, hz2⟩ := info_parts bk_info
  have HR := Lib.hid hR
  have R0 := Lib.hid (Row.empty w)
  have Hlo := Lib.hid (fun i (h : i < pos l k) => pos_lt l k i h)
  have hp := pos_le l k
  have L1 : Hid ((bkC (l.take (pos l k))).length = pos l k * 2) := Lib.hid (by rw [bkC_len, List.length_take]; omega)
  have L1' : Hid ((l.take (pos l k)).length = pos l k) := Lib.hid (by rw [List.length_take]; omega)
  have hgd : l.getD (pos l k) (0, 0) = l[pos l k] := by rw [List.getD_eq_getElem?_getD, List.getElem?_eq_getElem hlt0]; rfl
  have hff : ¬ (pos l k < l.length ∧ (l.getD (pos l k) (0, 0)).1 = k) := fun h => by rw [hgd] at h; omega
  obtain ⟨bb, oo, e', hbb, d1, d2⟩ := bks_at hR rfl hlt0
  cases e'
  clear hgd d2
  have hcc : ¬ c = pos l k := by omega
  have F : Hid (putF l k n = (l.take (pos l k) ++ (k, n) :: l.drop (pos l k), decide (n ≤ mostN))) := Lib.hid (by unfold putF; rw [if_neg hff])
  have FE : Hid (l.take (pos l k) ++ [(k, n)] ++ l.drop (pos l k) = l.take (pos l k) ++ (k, n) :: l.drop (pos l k)) := Lib.hid (by rw [List.append_assoc]; rfl)
  have L3 : Hid ((bkC (l.drop (pos l k))).length = (l.length - pos l k) * 2) := Lib.hid (by rw [bkC_len, List.length_drop])
  have L3' : Hid ((l.drop (pos l k)).length = l.length - pos l k) := Lib.hid (by rw [List.length_drop])
  clear hR
  unfold WithPost
  clear hff
  generalize l[pos l k].1 = z at *
  generalize pos l k = p at *
  go_enter Try.func29, Try.ntmps29
  go_wp2
  go_loopw [8] (fun i wr => ∃ j : Nat, j ≤ p ∧ i = .int .i64 j ∧ wr = w) (fun i _ => l.length - (intOf i).toNat)
  case atStart => exact ⟨0, Nat.zero_le _, rfl, rfl⟩
  case round =>
    obtain ⟨j, hj, rfl, rfl⟩ := hrel
    by_cases hlt : j < p
    · obtain ⟨hjl, hjk⟩ := Hlo.out j hlt
      obtain ⟨bb, oo, e', hbb, d1, d2⟩ := bks_at HR.out rfl hjl
      cases e'
      clear d2
      generalize l[j].1 = x at *
      go_wp2
      go_roundw
      case rel => exact ⟨j + 1, by omega, by go_num, trivial⟩
      case measure => simp [intOf]; omega
    · obtain rfl : j = p := by omega
      go_wp2_with (at_builtin; refine wpList_append_own _ rfl _ _ 29 rfl wr.heap.size 48 inf _ 2 16 Try.underlying29 hi0 hz0 hz1 hz2 rfl (by decide) (.slice (some ⟨wr.heap.size, 0, none⟩) 0 0) 0 (bkC []) rfl R0.out.own ⟨b, o, none⟩ j c (bkC (l.take j)) rfl L1.out ?a1 (bkC_one _) ?a3 ?a4 ?a5 ?_)
      case a1 =>
        intro i u hu
        rw [add_lit, World.cell?_alloc_lt]
        · rw [bkC_take, List.getElem?_take] at hu
          split at hu
          · exact (reads_cell HR.out i u hu).2
          · cases hu
        · rw [bkC_take, List.getElem?_take] at hu
          split at hu
          · exact (reads_cell HR.out i u hu).1
          · cases hu
      case a3 => unfold maxLen; omega
      case a4 => omega
      case a5 => first | omega | (rw [World.size_alloc]; omega)
      intro v1 w1 ho1 hg1 _
      have R1 : Hid (Row wr.heap.size wr w1 v1 (l.take j)) := Lib.hid (R0.out.app (by rw [World.size_alloc]; omega) L1'.out (by rw [List.length_nil, Nat.zero_add]; exact ho1) hg1)
      have hs1 := R1.out.bel.size
      clear ho1 hg1
      have d1' := (R1.out.bel.cell (p := ⟨b, o + j * 2, none⟩) hbb).trans d1
      have hne : ¬ z = k := by omega
      have hnl : ¬ z < k := by omega
      have hl1 : (l.take j).length ≤ 1000000 := by rw [List.length_take]; omega
      go_wp2_with (at_builtin; refine wpList_append_own _ rfl _ _ 29 rfl wr.heap.size 48 inf _ 2 16 Try.underlying29 hi0 hz0 hz1 hz2 rfl (by decide) v1 (l.take j).length (bkC (l.take j)) rfl (R1.out.more hs1 _).own ⟨w1.heap.size, 0, none⟩ 1 1 (bkC [(k, n)]) rfl rfl (news_one k (n)) (bkC_one _) ?a3 ?a4 ?a5 ?_)
      case a3 => unfold maxLen; omega
      case a4 => omega
      case a5 => first | omega | (rw [World.size_alloc]; omega)
      intro v2 w2 ho2 hg2 _
      have R2 : Hid (Row wr.heap.size wr w2 v2 (l.take j ++ [(k, n)])) := Lib.hid ((R1.out.more hs1 _).app (by first | omega | (rw [World.size_alloc]; omega)) rfl (by rw [L1'.out]; exact ho2) hg2)
      have hs2 := R2.out.bel.size
      clear ho2 hg2
      have hl2 : (l.take j ++ [(k, n)]).length ≤ 1000001 := by rw [List.length_append]; simp only [List.length_cons, List.length_nil]; omega
      go_wp2_with (at_builtin; refine wpList_append_own _ rfl _ _ 29 rfl wr.heap.size 48 inf _ 2 16 Try.underlying29 hi0 hz0 hz1 hz2 rfl (by decide) v2 (l.take j ++ [(k, n)]).length (bkC (l.take j ++ [(k, n)])) rfl R2.out.own ⟨b, o + j * 2, none⟩ (l.length - j) (c - j) (bkC (l.drop j)) rfl L3.out ?a1 (bkC_one _) ?a3 ?a4 hs2 ?_)
      case a1 =>
        intro i u hu
        rw [add_lit]
        rw [bkC_drop, List.getElem?_drop] at hu
        obtain ⟨h1, h2⟩ := reads_cell HR.out _ u hu
        rw [Nat.add_assoc o]
        exact (R2.out.bel.cell (p := ⟨b, _, none⟩) h1).trans h2
      case a3 => unfold maxLen; omega
      case a4 => omega
      intro v3 w3 ho3 hg3 _
      have R3 := Lib.hid (R2.out.app hs2 L3'.out (by
        have e : (l.take j ++ [(k, n)]).length = j + 1 := by rw [List.length_append, L1'.out]; rfl
        rw [e]
        first
          | exact ho3
          | (have e2 : j + 1 + (l.length - j) = l.length := by omega
             rw [e2]
             exact ho3)) hg3)
      clear ho3 hg3
      go_wp2
      go_ret2
      exact ⟨v3, by rw [F.out]; rfl, by rw [F.out]; exact FE.out ▸ R3.out⟩

set_option maxHeartbeats 3200000 in
theorem with_end (b o c : Nat) (l : List Bk) (k n : Int) (w : World) (hR : Reads w w.heap.size 2 (some ⟨b, o, none⟩) l.length (bkC l)) (hc : l.length ≤ c) (hl : l.length ≤ 1000000) (hlt0 : ¬ pos l k < l.length) (hcc : ¬ c = pos l k) :
    Calls Try.prog 29 #[.slice (some ⟨b, o, none⟩) l.length c, .int .i64 k, .int .i64 n] w (WithPost w l k n) := by
  obtain ⟨inf, hi0, hz0, hz1, hz2⟩ := info_parts bk_info
  have HR := Lib.hid hR
  have R0 := Lib.hid (Row.empty w)
  have Hlo := Lib.hid (fun i (h : i < pos l k) => pos_lt l k i h)
  have hp := pos_le l k
  have L1 : Hid ((bkC (l.take (pos l k))).length = pos l k * 2) := Lib.hid (by rw [bkC_len, List.length_take]; omega)
  have L1' : Hid ((l.take (pos l k)).length = pos l k) := Lib.hid (by rw [List.length_take]; omega)
  have hff : ¬ (pos l k < l.length ∧ (l.getD (pos l k) (0, 0)).1 = k) := fun h => by omega
  have F : Hid (putF l k n = (l.take (pos l k) ++ (k, n) :: l.drop (pos l k), decide (n ≤ mostN))) := Lib.hid (by unfold putF; rw [if_neg hff])
  have FE : Hid (l.take (pos l k) ++ [(k, n)] ++ l.drop (pos l k) = l.take (pos l k) ++ (k, n) :: l.drop (pos l k)) := Lib.hid (by rw [List.append_assoc]; rfl)
  have L3 : Hid ((bkC (l.drop (pos l k))).length = (l.length - pos l k) * 2) := Lib.hid (by rw [bkC_len, List.length_drop])
  have L3' : Hid ((l.drop (pos l k)).length = l.length - pos l k) := Lib.hid (by rw [List.length_drop])
  clear hR
  unfold WithPost
  clear hff
  generalize pos l k = p at *
  go_enter Try.func29, Try.ntmps29
  go_wp2
  go_loopw [8] (fun i wr => ∃ j : Nat, j ≤ p ∧ i = .int .i64 j ∧ wr = w) (fun i _ => l.length - (intOf i).toNat)
  case atStart => exact ⟨0, Nat.zero_le _, rfl, rfl⟩
  case round =>
    obtain ⟨j, hj, rfl, rfl⟩ := hrel
    by_cases hlt : j < p
    · obtain ⟨hjl, hjk⟩ := Hlo.out j hlt
      obtain ⟨bb, oo, e', hbb, d1, d2⟩ := bks_at HR.out rfl hjl
      cases e'
      clear d2
      generalize l[j].1 = x at *
      go_wp2
      go_roundw
      case rel => exact ⟨j + 1, by omega, by go_num, trivial⟩
      case measure => simp [intOf]; omega
    · obtain rfl : j = p := by omega
      go_wp2_with (at_builtin; refine wpList_append_own _ rfl _ _ 29 rfl wr.heap.size 48 inf _ 2 16 Try.underlying29 hi0 hz0 hz1 hz2 rfl (by decide) (.slice (some ⟨wr.heap.size, 0, none⟩) 0 0) 0 (bkC []) rfl R0.out.own ⟨b, o, none⟩ j c (bkC (l.take j)) rfl L1.out ?a1 (bkC_one _) ?a3 ?a4 ?a5 ?_)
      case a1 =>
        intro i u hu
        rw [add_lit, World.cell?_alloc_lt]
        · rw [bkC_take, List.getElem?_take] at hu
          split at hu
          · exact (reads_cell HR.out i u hu).2
          · cases hu
        · rw [bkC_take, List.getElem?_take] at hu
          split at hu
          · exact (reads_cell HR.out i u hu).1
          · cases hu
      case a3 => unfold maxLen; omega
      case a4 => omega
      case a5 => first | omega | (rw [World.size_alloc]; omega)
      intro v1 w1 ho1 hg1 _
      have R1 : Hid (Row wr.heap.size wr w1 v1 (l.take j)) := Lib.hid (R0.out.app (by rw [World.size_alloc]; omega) L1'.out (by rw [List.length_nil, Nat.zero_add]; exact ho1) hg1)
      have hs1 := R1.out.bel.size
      clear ho1 hg1
      have hl1 : (l.take j).length ≤ 1000000 := by rw [List.length_take]; omega
      go_wp2_with (at_builtin; refine wpList_append_own _ rfl _ _ 29 rfl wr.heap.size 48 inf _ 2 16 Try.underlying29 hi0 hz0 hz1 hz2 rfl (by decide) v1 (l.take j).length (bkC (l.take j)) rfl (R1.out.more hs1 _).own ⟨w1.heap.size, 0, none⟩ 1 1 (bkC [(k, n)]) rfl rfl (news_one k (n)) (bkC_one _) ?a3 ?a4 ?a5 ?_)
      case a3 => unfold maxLen; omega
      case a4 => omega
      case a5 => first | omega | (rw [World.size_alloc]; omega)
      intro v2 w2 ho2 hg2 _
      have R2 : Hid (Row wr.heap.size wr w2 v2 (l.take j ++ [(k, n)])) := Lib.hid ((R1.out.more hs1 _).app (by first | omega | (rw [World.size_alloc]; omega)) rfl (by rw [L1'.out]; exact ho2) hg2)
      have hs2 := R2.out.bel.size
      clear ho2 hg2
      have hl2 : (l.take j ++ [(k, n)]).length ≤ 1000001 := by rw [List.length_append]; simp only [List.length_cons, List.length_nil]; omega
      go_wp2_with (at_builtin; refine wpList_append_own _ rfl _ _ 29 rfl wr.heap.size 48 inf _ 2 16 Try.underlying29 hi0 hz0 hz1 hz2 rfl (by decide) v2 (l.take j ++ [(k, n)]).length (bkC (l.take j ++ [(k, n)])) rfl R2.out.own ⟨b, o + j * 2, none⟩ (l.length - j) (c - j) (bkC (l.drop j)) rfl L3.out ?a1 (bkC_one _) ?a3 ?a4 hs2 ?_)
      case a1 =>
        intro i u hu
        rw [add_lit]
        rw [bkC_drop, List.getElem?_drop] at hu
        obtain ⟨h1, h2⟩ := reads_cell HR.out _ u hu
        rw [Nat.add_assoc o]
        exact (R2.out.bel.cell (p := ⟨b, _, none⟩) h1).trans h2
      case a3 => unfold maxLen; omega
      case a4 => omega
      intro v3 w3 ho3 hg3 _
      have R3 := Lib.hid (R2.out.app hs2 L3'.out (by
        have e : (l.take j ++ [(k, n)]).length = j + 1 := by rw [List.length_append, L1'.out]; rfl
        rw [e]
        first
          | exact ho3
          | (have e2 : j + 1 + (l.length - j) = l.length := by omega
             rw [e2]
             exact ho3)) hg3)
      clear ho3 hg3
      go_wp2
      go_ret2
      exact ⟨v3, by rw [F.out]; rfl, by rw [F.out]; exact FE.out ▸ R3.out⟩

set_option maxHeartbeats 3200000 in
theorem with_end0 (b o c : Nat) (l : List Bk) (k n : Int) (w : World) (hR : Reads w w.heap.size 2 (some ⟨b, o, none⟩) l.length (bkC l)) (hc : l.length ≤ c) (hl : l.length ≤ 1000000) (hlt0 : ¬ pos l k < l.length) (hcc : c = pos l k) :
    Calls Try.prog 29 #[.slice (some ⟨b, o, none⟩) l.length c, .int .i64 k, .int .i64 n] w (WithPost w l k n) := by
  obtain ⟨inf, hi0, hz0, hz1, hz2⟩ := info_parts bk_info
  have HR := Lib.hid hR
  have R0 := Lib.hid (Row.empty w)
  have Hlo := Lib.hid (fun i (h : i < pos l k) => pos_lt l k i h)
  have hp := pos_le l k
  have L1 : Hid ((bkC (l.take (pos l k))).length = pos l k * 2) := Lib.hid (by rw [bkC_len, List.length_take]; omega)
  have L1' : Hid ((l.take (pos l k)).length = pos l k) := Lib.hid (by rw [List.length_take]; omega)
  have hff : ¬ (pos l k < l.length ∧ (l.getD (pos l k) (0, 0)).1 = k) := fun h => by omega
  have F : Hid (putF l k n = (l.take (pos l k) ++ (k, n) :: l.drop (pos l k), decide (n ≤ mostN))) := Lib.hid (by unfold putF; rw [if_neg hff])
  have FE : Hid (l.take (pos l k) ++ [(k, n)] ++ l.drop (pos l k) = l.take (pos l k) ++ (k, n) :: l.drop (pos l k)) := Lib.hid (by rw [List.append_assoc]; rfl)
  have L3 : Hid ((bkC (l.drop (pos l k))).length = (l.length - pos l k) * 2) := Lib.hid (by rw [bkC_len, List.length_drop])
  have L3' : Hid ((l.drop (pos l k)).length = l.length - pos l k) := Lib.hid (by rw [List.length_drop])
  clear hR
  unfold WithPost
  clear hff
  generalize pos l k = p at *
  have hcc := hcc.symm
  subst hcc
  go_enter Try.func29, Try.ntmps29
  go_wp2
  go_loopw [8] (fun i wr => ∃ j : Nat, j ≤ p ∧ i = .int .i64 j ∧ wr = w) (fun i _ => l.length - (intOf i).toNat)
  case atStart => exact ⟨0, Nat.zero_le _, rfl, rfl⟩
  case round =>
    obtain ⟨j, hj, rfl, rfl⟩ := hrel
    by_cases hlt : j < p
    · obtain ⟨hjl, hjk⟩ := Hlo.out j hlt
      obtain ⟨bb, oo, e', hbb, d1, d2⟩ := bks_at HR.out rfl hjl
      cases e'
      clear d2
      generalize l[j].1 = x at *
      go_wp2
      go_roundw
      case rel => exact ⟨j + 1, by omega, by go_num, trivial⟩
      case measure => simp [intOf]; omega
    · obtain rfl : j = p := by omega
      go_wp2_with (at_builtin; refine wpList_append_own _ rfl _ _ 29 rfl wr.heap.size 48 inf _ 2 16 Try.underlying29 hi0 hz0 hz1 hz2 rfl (by decide) (.slice (some ⟨wr.heap.size, 0, none⟩) 0 0) 0 (bkC []) rfl R0.out.own ⟨b, o, none⟩ j j (bkC (l.take j)) rfl L1.out ?a1 (bkC_one _) ?a3 ?a4 ?a5 ?_)
      case a1 =>
        intro i u hu
        rw [add_lit, World.cell?_alloc_lt]
        · rw [bkC_take, List.getElem?_take] at hu
          split at hu
          · exact (reads_cell HR.out i u hu).2
          · cases hu
        · rw [bkC_take, List.getElem?_take] at hu
          split at hu
          · exact (reads_cell HR.out i u hu).1
          · cases hu
      case a3 => unfold maxLen; omega
      case a4 => omega
      case a5 => first | omega | (rw [World.size_alloc]; omega)
      intro v1 w1 ho1 hg1 _
      have R1 : Hid (Row wr.heap.size wr w1 v1 (l.take j)) := Lib.hid (R0.out.app (by rw [World.size_alloc]; omega) L1'.out (by rw [List.length_nil, Nat.zero_add]; exact ho1) hg1)
      have hs1 := R1.out.bel.size
      clear ho1 hg1
      have hl1 : (l.take j).length ≤ 1000000 := by rw [List.length_take]; omega
      go_wp2_with (at_builtin; refine wpList_append_own _ rfl _ _ 29 rfl wr.heap.size 48 inf _ 2 16 Try.underlying29 hi0 hz0 hz1 hz2 rfl (by decide) v1 (l.take j).length (bkC (l.take j)) rfl (R1.out.more hs1 _).own ⟨w1.heap.size, 0, none⟩ 1 1 (bkC [(k, n)]) rfl rfl (news_one k (n)) (bkC_one _) ?a3 ?a4 ?a5 ?_)
      case a3 => unfold maxLen; omega
      case a4 => omega
      case a5 => first | omega | (rw [World.size_alloc]; omega)
      intro v2 w2 ho2 hg2 _
      have R2 : Hid (Row wr.heap.size wr w2 v2 (l.take j ++ [(k, n)])) := Lib.hid ((R1.out.more hs1 _).app (by first | omega | (rw [World.size_alloc]; omega)) rfl (by rw [L1'.out]; exact ho2) hg2)
      have hs2 := R2.out.bel.size
      clear ho2 hg2
      have hl2 : (l.take j ++ [(k, n)]).length ≤ 1000001 := by rw [List.length_append]; simp only [List.length_cons, List.length_nil]; omega
      have hd0 : l.drop j = [] := List.drop_eq_nil_of_le (by omega)
      go_wp2_with (at_builtin; refine wpList_append_own _ rfl _ _ 29 rfl wr.heap.size 48 inf _ 2 16 Try.underlying29 hi0 hz0 hz1 hz2 rfl (by decide) v2 (l.take j ++ [(k, n)]).length (bkC (l.take j ++ [(k, n)])) rfl R2.out.own ⟨b, o, none⟩ 0 0 (bkC []) rfl rfl ?a1 (bkC_one _) ?a3 ?a4 hs2 ?_)
      case a1 =>
        intro i u hu
        cases hu
      case a3 => unfold maxLen; omega
      case a4 => omega
      intro v3 w3 ho3 hg3 _
      have R3 : Hid (Row wr.heap.size wr w3 v3 (l.take j ++ [(k, n)] ++ l.drop j)) := Lib.hid (by
        rw [hd0]
        exact R2.out.app hs2 rfl (by
          have e : (l.take j ++ [(k, n)]).length = j + 1 := by rw [List.length_append, L1'.out]; rfl
          rw [e]
          exact ho3) hg3)
      clear ho3 hg3 hd0
      go_wp2
      go_ret2
      exact ⟨v3, by rw [F.out]; rfl, by rw [F.out]; exact FE.out ▸ R3.out⟩

end Go.Proofs.Ythhklbjhlfejfaa.Hi
