/- loggiaref30.less: the walk; how bytes stand in order: plain. -/
import Derived.Test.YtjeahdnbpiahaaaGreatPkGroupCountsRow20
import Derived.Test.YtjeahdnbpiahaaaGreatPkGroupCountsRow11
import Derived.Test.YtjeahdnbpiahaaaGreatPkGroupCountsRow8
section
namespace Go.Proofs.YtjeahdnbpiahaaaGreat.Gr
open Go.RowKit Go.Proofs.YtjeahdnbpiahaaaGreat Go.Proofs.YtjeahdnbpiahaaaGreat.Ut Go.Proofs.YtjeahdnbpiahaaaGreat.Tk
set_option maxRecDepth 20000
set_option linter.unusedSimpArgs false
set_option linter.unusedVariables false

theorem bl_irrefl : ∀ x : List UInt8, Op.bytesLess x x = false
  | [] => by simp [Op.bytesLess]
  | a :: x => by simp [Op.bytesLess, bl_irrefl x]
theorem bl_trans : ∀ x y z : List UInt8, Op.bytesLess x y = true → Op.bytesLess y z = true → Op.bytesLess x z = true
  | [], [], _, h, _ => by simp [Op.bytesLess] at h
  | [], b :: y, [], _, h => by simp [Op.bytesLess] at h
  | [], b :: y, c :: z, _, _ => by simp [Op.bytesLess]
  | a :: x, [], _, h, _ => by simp [Op.bytesLess] at h
  | a :: x, b :: y, [], _, h => by simp [Op.bytesLess] at h
  | a :: x, b :: y, c :: z, h1, h2 => by
    simp only [Op.bytesLess, Bool.or_eq_true, Bool.and_eq_true, decide_eq_true_eq, beq_iff_eq] at h1 h2 ⊢
    rcases h1 with h1 | ⟨rfl, h1⟩
    · rcases h2 with h2 | ⟨rfl, h2⟩
      · exact .inl (UInt8.lt_trans h1 h2)
      · exact .inl h1
    · rcases h2 with h2 | ⟨rfl, h2⟩
      · exact .inl h2
      · exact .inr ⟨rfl, bl_trans x y z h1 h2⟩
theorem bl_total : ∀ x y : List UInt8, Op.bytesLess x y = true ∨ x = y ∨ Op.bytesLess y x = true
  | [], [] => .inr (.inl rfl)
  | [], b :: y => .inl (by simp [Op.bytesLess])
  | a :: x, [] => .inr (.inr (by simp [Op.bytesLess]))
  | a :: x, b :: y => by
    simp only [Op.bytesLess, Bool.or_eq_true, Bool.and_eq_true, decide_eq_true_eq, beq_iff_eq, List.cons.injEq]
    rcases UInt8.lt_or_lt_of_ne (a := a) (b := b) |> fun f => Classical.em (a = b) |>.elim (fun e => Or.inr e) (fun e => Or.inl (f e)) with h | rfl
    · rcases h with h | h
      · exact .inl (.inl h)
      · exact .inr (.inr (.inl h))
    · rcases bl_total x y with h | rfl | h
      · exact .inl (.inr ⟨rfl, h⟩)
      · exact .inr (.inl ⟨rfl, rfl⟩)
      · exact .inr (.inr (.inr ⟨rfl, h⟩))
theorem bl_cons (x y : UInt8) (a b : List UInt8) (h : x ≠ y) : Op.bytesLess (x :: a) (y :: b) = decide (x.toNat < y.toNat) := by
  have h2 : (x == y) = false := by simpa using h
  simp only [Op.bytesLess, h2, Bool.false_and, Bool.or_false]
  rfl
theorem bl_same (x : UInt8) (a b : List UInt8) : Op.bytesLess (x :: a) (x :: b) = Op.bytesLess a b := by
  simp [Op.bytesLess]

set_option maxHeartbeats 1600000 in
theorem less_any (a b : ByteArray) (w : World) (ha : a.size ≤ 140737488351232) (hb6 : b.size ≤ 140737488351232) :
    Calls Tryz.prog 40 #[.string a, .string b] w fun e w' => e = .returned (.bool (ltS a b)) ∧ Below w.heap.size w w' := by
  have hst : Hid (ltS a b = Op.bytesLess (a.data.toList.drop 0) (b.data.toList.drop 0)) := Lib.hid (by unfold ltS; rw [tl, tl, List.drop_zero, List.drop_zero])
  generalize ltS a b = r at *
  go_enter Tryz.func40, Tryz.ntmps40
  go_wp2_with fail
  go_loopw [5] (fun i wr => ∃ k : Nat, k ≤ a.size ∧ k ≤ b.size ∧ i = .int .i64 (k : Nat) ∧ Hid (r = Op.bytesLess (a.data.toList.drop k) (b.data.toList.drop k)) ∧ Below w.heap.size w wr) (fun i _ => a.size - (intOf i).toNat)
  case atStart => exact ⟨0, Nat.zero_le _, Nat.zero_le _, rfl, hst, Below.refl _ _⟩
  case round =>
    obtain ⟨k, hka, hkb, rfl, hS, hb⟩ := hrel
    have Hb := Lib.hid hb
    clear hb hst
    by_cases hlt : k < a.size ∧ k < b.size
    · obtain ⟨h1, h2⟩ := hlt
      have hk0 : (0 : Int) ≤ (k : Int) := by omega
      have hk1 : (k : Int) < (a.size : Int) := by omega
      have hk2 : (k : Int) < (b.size : Int) := by omega
      have da : a.data.toList.drop k = a[k] :: a.data.toList.drop (k + 1) := List.drop_eq_getElem_cons (by rw [bsize]; exact h1)
      have db : b.data.toList.drop k = b[k] :: b.data.toList.drop (k + 1) := List.drop_eq_getElem_cons (by rw [bsize]; exact h2)
      have hS2 := hS.out
      rw [da, db] at hS2
      have hx := (a[k]).toNat_lt
      have hy := (b[k]).toNat_lt
      by_cases e : a[k] = b[k]
      · have hS3 : Hid (r = Op.bytesLess (a.data.toList.drop (k + 1)) (b.data.toList.drop (k + 1))) := Lib.hid (by rw [hS2, e, bl_same])
        have hne : (((a[k]).toNat : Int) != ((b[k]).toNat : Int)) = false := by rw [e]; simp
        clear hS hS2 da db
        go_wp2
        go_region
        go_wp2
        go_roundw
        case rel => exact ⟨k + 1, by omega, by omega, by go_num, hS3, Hb.out.drew⟩
        case measure => simp [intOf]; omega
      · have hS3 : Hid (r = decide ((a[k]).toNat < (b[k]).toNat)) := Lib.hid (by rw [hS2, bl_cons _ _ _ _ e])
        have hne : (((a[k]).toNat : Int) != ((b[k]).toNat : Int)) = true := by
          rw [bne_iff_ne]
          intro h
          exact e (UInt8.toNat_inj.1 (by omega))
        clear hS hS2 da db e
        go_wp2
        go_region
        go_wp2
        go_region
        go_wp2
        go_ret
        exact ⟨by rw [hS3.out]; simp, Hb.out.drew.drew⟩
    · have hS3 : Hid (r = decide (a.size < b.size)) := Lib.hid (by
        rw [hS.out]
        by_cases h1 : k < a.size
        · have e : k = b.size := by omega
          have eb : b.data.toList.drop k = [] := List.drop_eq_nil_of_le (by rw [bsize]; omega)
          rw [eb, List.drop_eq_getElem_cons (by rw [bsize]; exact h1), decide_eq_false (by omega)]
          simp [Op.bytesLess]
        · have ea : a.data.toList.drop k = [] := List.drop_eq_nil_of_le (by rw [bsize]; omega)
          rw [ea]
          by_cases h2 : k < b.size
          · rw [List.drop_eq_getElem_cons (by rw [bsize]; exact h2), decide_eq_true (by omega)]
            simp [Op.bytesLess]
          · have eb : b.data.toList.drop k = [] := List.drop_eq_nil_of_le (by rw [bsize]; omega)
            rw [eb, decide_eq_false (by omega)]
            simp [Op.bytesLess])
      clear hS
      by_cases h1 : k < a.size
      · have hk1 : (k : Int) < (a.size : Int) := by omega
        have hk2 : (b.size : Int) ≤ (k : Int) := by omega
        go_wp2
        go_ret
        exact ⟨by rw [hS3.out]; simp, Hb.out⟩
      · have hk1 : (a.size : Int) ≤ (k : Int) := by omega
        go_wp2
        go_ret
        exact ⟨by rw [hS3.out]; simp, Hb.out⟩
end Go.Proofs.YtjeahdnbpiahaaaGreat.Gr
end

section
/- (This seat has neither token.Term nor token.Split.) -/
end

section
/- The reference's runes: more, row, Decode, by the same plain words. -/
namespace Go.Proofs.YtjeahdnbpiahaaaGreat.Ut
open Go.RowKit
set_option maxRecDepth 20000

theorem more_no (s : ByteArray) (p n : Nat) (w : World) (h : s.size ≤ p) : Calls Tryz.prog 118 #[.string s, .int .i64 (p : Int), .int .i64 (n : Int)] w fun e w' => e = .returned (.tuple #[.int .i64 0, .bool false]) ∧ w = w' := by
  have h1 : (s.size : Int) ≤ (p : Int) := by omega
  go_enter Tryz.func118, Tryz.ntmps118
  go_wp2
  go_ret2
  exact ⟨rfl, rfl⟩
theorem more_not (s : ByteArray) (p n m : Nat) (w : World) (h : p < s.size) (hm : (s[p]).toNat = m) (hc : ¬ m / 64 = 2) (h256 : m < 256) : Calls Tryz.prog 118 #[.string s, .int .i64 (p : Int), .int .i64 (n : Int)] w fun e w' => e = .returned (.tuple #[.int .i64 0, .bool false]) ∧ w = w' := by
  have h1 : ¬ (s.size : Int) ≤ (p : Int) := by omega
  have h2 : ¬ ((m : Int) / 64 = 2) := by omega
  go_enter Tryz.func118, Tryz.ntmps118
  go_wp2
  go_ret2
  exact ⟨rfl, rfl⟩
theorem more_yes (s : ByteArray) (p n m : Nat) (w : World) (h : p < s.size) (hm : (s[p]).toNat = m) (hc : m / 64 = 2) (h256 : m < 256) (hn : n < 1000000000) : Calls Tryz.prog 118 #[.string s, .int .i64 (p : Int), .int .i64 (n : Int)] w fun e w' => e = .returned (.tuple #[.int .i64 ((n * 64 + m % 64 : Nat) : Int), .bool true]) ∧ w = w' := by
  have h1 : ¬ (s.size : Int) ≤ (p : Int) := by omega
  have h2 : ((m : Int) / 64 = 2) := by omega
  go_enter Tryz.func118, Tryz.ntmps118
  go_wp2
  go_ret2
  exact ⟨by go_num, rfl⟩
theorem lo1 (r : Int) (h : (65 ≤ r ∧ r ≤ 90) ∨ (192 ≤ r ∧ r ≤ 222 ∧ r ≠ 215) ∨ (913 ≤ r ∧ r ≤ 939 ∧ r ≠ 930) ∨ (1040 ≤ r ∧ r ≤ 1071)) : r + 32 = lower r := by unfold lower; rw [if_pos h]
theorem lo2 (r : Int) (h : 1024 ≤ r ∧ r ≤ 1039) : r + 80 = lower r := by unfold lower; rw [if_neg (by omega), if_pos h]
theorem lo3 (r : Int) (h : ¬ ((65 ≤ r ∧ r ≤ 90) ∨ (192 ≤ r ∧ r ≤ 222 ∧ r ≠ 215) ∨ (913 ≤ r ∧ r ≤ 939 ∧ r ≠ 930) ∨ (1040 ≤ r ∧ r ≤ 1071))) (h2 : ¬ (1024 ≤ r ∧ r ≤ 1039)) : r = lower r := by unfold lower; rw [if_neg h, if_neg h2]

set_option maxHeartbeats 1600000 in
theorem lower_ref (r : Int) (w : World) : Calls Tryz.prog 99 #[.int .i64 r] w fun e w' => e = .returned (.int .i64 (lower r)) ∧ w = w' := by
  go_enter Tryz.func99, Tryz.ntmps99
  go_wp2
  all_goals
    go_ret
    refine ⟨congrArg (fun x => Ending.returned (Value.int .i64 x)) ?_, rfl⟩
    try simp only [bne_iff_ne, ne_eq, bne_eq_false_iff_eq] at *
    first | exact lo1 r (by omega) | exact lo2 r (by omega) | exact lo3 r (by omega) (by omega)

/-- What 'row' tells of the bytes behind a first one. -/
def rowOk (t : List UInt8) (k : Nat) : Bool := decide (k - 1 ≤ t.length) && (t.take (k - 1)).all cont
def rowOf (m : Nat) (t : List UInt8) (k : Nat) : Nat := if rowOk t k then acc m (t.take (k - 1)) else 0

theorem more_any (s : ByteArray) (p n : Nat) (w : World) (hn : n < 1000000000) : Calls Tryz.prog 118 #[.string s, .int .i64 (p : Int), .int .i64 (n : Int)] w fun e w' => w = w' ∧
    ((∃ h : p < s.size, cont s[p] = true ∧ e = .returned (.tuple #[.int .i64 ((n * 64 + (s[p]).toNat % 64 : Nat) : Int), .bool true])) ∨ (¬ (∃ h : p < s.size, cont s[p] = true) ∧ e = .returned (.tuple #[.int .i64 0, .bool false]))) := by
  by_cases h : p < s.size
  · have h256 := (s[p]).toNat_lt
    by_cases hc : (s[p]).toNat / 64 = 2
    · refine (more_yes s p n _ w h rfl hc h256 hn).mono ?_
      rintro e w' ⟨rfl, rfl⟩
      exact ⟨rfl, Or.inl ⟨h, by simp [cont, hc], rfl⟩⟩
    · refine (more_not s p n _ w h rfl hc h256).mono ?_
      rintro e w' ⟨rfl, rfl⟩
      exact ⟨rfl, Or.inr ⟨fun ⟨h', h2⟩ => hc (by simpa [cont] using h2), rfl⟩⟩
  · refine (more_no s p n w (by omega)).mono ?_
    rintro e w' ⟨rfl, rfl⟩
    exact ⟨rfl, Or.inr ⟨fun ⟨h', _⟩ => h h', rfl⟩⟩

theorem take_at (s : ByteArray) (k j : Nat) (hj : 1 ≤ j) (h : k + j < s.size) : (s.data.toList.drop (k + 1)).take j = (s.data.toList.drop (k + 1)).take (j - 1) ++ [s[k + j]] := by
  obtain ⟨i, rfl⟩ : ∃ i, j = i + 1 := ⟨j - 1, by omega⟩
  have hl : i < (s.data.toList.drop (k + 1)).length := by rw [List.length_drop, bsize]; omega
  rw [List.take_succ_eq_append_getElem hl, Nat.add_sub_cancel]
  congr 2
  rw [List.getElem_drop, Array.getElem_toList]
  have : k + 1 + i = k + (i + 1) := by omega
  simp only [this]
  rfl
theorem row_more (s : ByteArray) (k j m : Nat) (hj : 1 ≤ j) (h : k + j < s.size) (hc : cont s[k + j] = true) (hok : rowOk (s.data.toList.drop (k + 1)) j = true) :
    rowOk (s.data.toList.drop (k + 1)) (j + 1) = true ∧ acc m ((s.data.toList.drop (k + 1)).take j) = acc m ((s.data.toList.drop (k + 1)).take (j - 1)) * 64 + (s[k + j]).toNat % 64 := by
  have ht := take_at s k j hj h
  refine ⟨?_, by rw [ht, acc_snoc]⟩
  simp only [rowOk, Bool.and_eq_true, decide_eq_true_eq, Nat.add_sub_cancel] at hok ⊢
  refine ⟨by rw [List.length_drop, bsize]; omega, ?_⟩
  rw [ht, List.all_append, hok.2]
  simp [hc]
theorem row_stop (s : ByteArray) (k j z : Nat) (hj : 1 ≤ j) (hz : j < z) (hno : ¬ ∃ h : k + j < s.size, cont s[k + j] = true) : rowOk (s.data.toList.drop (k + 1)) z = false := by
  cases hr : rowOk (s.data.toList.drop (k + 1)) z with
  | false => rfl
  | true =>
    exfalso
    simp only [rowOk, Bool.and_eq_true, decide_eq_true_eq] at hr
    have hl := hr.1
    rw [List.length_drop, bsize] at hl
    have h : k + j < s.size := by omega
    refine hno ⟨h, List.all_eq_true.1 hr.2 _ ?_⟩
    have ht := take_at s k j hj h
    have : s[k + j] ∈ (s.data.toList.drop (k + 1)).take j := by rw [ht]; simp
    exact (List.take_subset_take_left _ (by omega)) this

set_option maxHeartbeats 1600000 in
theorem row_any (s : ByteArray) (k m z : Nat) (w : World) (hk : k < s.size) (hs : s.size ≤ 140737488351232) (hm : m < 32) (hz : 1 ≤ z) (hz4 : z ≤ 4) : Calls Tryz.prog 113 #[.string s, .int .i64 (k : Int), .int .i64 (m : Int), .int .i64 (z : Int)] w fun e w' => e = .returned (.tuple #[.int .i64 (rowOf m (s.data.toList.drop (k + 1)) z : Nat), .bool (rowOk (s.data.toList.drop (k + 1)) z)]) ∧ w = w' := by
  have r0 : rowOk (s.data.toList.drop (k + 1)) 1 = true := by simp [rowOk]
  have R0 := Lib.hid r0
  have hyes := fun (j : Nat) (hj : 1 ≤ j) (h : k + j < s.size) (hc : cont s[k + j] = true) (hok : rowOk (s.data.toList.drop (k + 1)) j = true) => row_more s k j m hj h hc hok
  have hno := fun (j : Nat) (hj : 1 ≤ j) (hz : j < z) (h : ¬ ∃ h : k + j < s.size, cont s[k + j] = true) => row_stop s k j z hj hz h
  have hlt := fun (j : Nat) (hj : j ≤ 4) => acc_lt m ((s.data.toList.drop (k + 1)).take (j - 1)) hm (by rw [List.length_take]; omega)
  have hof : rowOf m (s.data.toList.drop (k + 1)) z = if rowOk (s.data.toList.drop (k + 1)) z then acc m ((s.data.toList.drop (k + 1)).take (z - 1)) else 0 := rfl
  have Hof := Lib.hid hof
  have Hyes := Lib.hid hyes
  have Hno := Lib.hid hno
  have Hlt := Lib.hid hlt
  clear r0 hyes hno hlt hof
  go_enter Tryz.func113, Tryz.ntmps113
  go_wp2
  go_loopw [2, 10] (fun n i wr => ∃ j : Nat, 1 ≤ j ∧ j ≤ z ∧ i = .int .i64 j ∧ n = .int .i64 (acc m ((s.data.toList.drop (k + 1)).take (j - 1)) : Nat) ∧ Hid (rowOk (s.data.toList.drop (k + 1)) j = true) ∧ wr = w)
    (fun _ i _ => z - (intOf i).toNat)
  case atStart => exact ⟨1, by omega, by omega, rfl, rfl, R0, rfl⟩
  case round =>
    obtain ⟨j, hj1, hjz, rfl, rfl, Hok, rfl⟩ := hrel
    by_cases hjl : j < z
    · have hal := Hlt.out j (by omega)
      have c := more_any s (k + j) (acc m ((s.data.toList.drop (k + 1)).take (j - 1))) wr (by omega)
      have Hst := Lib.hid (Hno.out j hj1 hjl)
      have Hgo := Lib.hid (fun h hc => (Hyes.out j hj1 h hc Hok.out))
      generalize acc m ((s.data.toList.drop (k + 1)).take (j - 1)) = a at *
      go_wp2_with fail
      refine c.mono ?_
      rintro e w' ⟨rfl, h⟩
      rcases h with ⟨h, hc, rfl⟩ | ⟨h, rfl⟩
      · have Hg := Lib.hid (Hgo.out h hc)
        clear hc Hgo Hst
        go_wp2
        go_roundw
        case rel => exact ⟨j + 1, by omega, by omega, by go_num, by rw [Nat.add_sub_cancel, Hg.out.2]; go_num, Lib.hid Hg.out.1, trivial⟩
        case measure => simp [intOf]; omega
      · have Hg := Lib.hid (Hst.out h)
        clear h Hgo Hst
        go_wp2
        go_ret2
        exact ⟨by rw [Hof.out, Hg.out]; rfl, rfl⟩
    · obtain rfl : j = z := by omega
      generalize hac : acc m ((s.data.toList.drop (k + 1)).take (j - 1)) = a at *
      have Hac := Lib.hid hac
      clear hac
      go_wp2
      go_ret2
      exact ⟨by rw [Hof.out, Hok.out, if_pos rfl]; rfl, rfl⟩
theorem fits_row (m : Nat) (t : List UInt8) (k lo hi : Nat) : fits m t k lo hi = (rowOk t k && (decide (lo ≤ rowOf m t k) && (decide (rowOf m t k ≤ hi) && !(decide (55296 ≤ rowOf m t k) && decide (rowOf m t k ≤ 57343))))) := by
  unfold fits rowOf
  cases h : rowOk t k with
  | true =>
    rw [if_pos rfl]
    unfold rowOk at h
    rw [Bool.and_eq_true] at h
    rw [h.1, h.2, Bool.true_and]
  | false =>
    rw [Bool.false_and]
    unfold rowOk at h
    rw [← Bool.and_assoc, h, Bool.false_and]
theorem form_row (m : Nat) (t : List UInt8) (k lo hi a : Nat) (ok : Bool) (ha : rowOf m t k = a) (ho : rowOk t k = ok) :
    (ok = true → lo ≤ a → a ≤ hi → ¬ (55296 ≤ a ∧ a ≤ 57343) → form m t k lo hi = (a, k)) ∧ ((ok = false ∨ a < lo ∨ hi < a ∨ (55296 ≤ a ∧ a ≤ 57343)) → form m t k lo hi = (65533, 1)) := by
  have hf := fits_row m t k lo hi
  rw [ha, ho] at hf
  refine ⟨fun h1 h2 h3 h4 => ?_, fun h => ?_⟩
  · have hff : fits m t k lo hi = true := by
      rw [hf]; simp only [Bool.and_eq_true, decide_eq_true_eq, Bool.not_eq_true', Bool.and_eq_false_iff, decide_eq_false_iff_not]
      exact ⟨h1, h2, h3, by omega⟩
    unfold form
    rw [if_pos hff]
    have : rowOf m t k = acc m (t.take (k - 1)) := by unfold rowOf; rw [if_pos (by rw [ho]; exact h1)]
    rw [← ha, this]
  · have hff : fits m t k lo hi = false := by
      cases hx : fits m t k lo hi with
      | false => rfl
      | true =>
        exfalso
        rw [hf] at hx
        simp only [Bool.and_eq_true, decide_eq_true_eq, Bool.not_eq_true', Bool.and_eq_false_iff, decide_eq_false_iff_not] at hx
        obtain ⟨x1, x2, x3, x4⟩ := hx
        rcases h with h | h | h | h
        · rw [h] at x1; cases x1
        · omega
        · omega
        · omega
    unfold form
    rw [if_neg (by rw [hff]; decide)]
theorem row_lt (m M : Nat) (t : List UInt8) (k : Nat) (hm : m < M) (hM : M ≤ 32) (hk : 1 ≤ k) (hk4 : k ≤ 4) : rowOf m t k < M * 64 ^ (k - 1) := by
  unfold rowOf
  split
  · have hl : (t.take (k - 1)).length ≤ k - 1 := by rw [List.length_take]; omega
    have hp : 0 < 64 ^ (k - 1) := Nat.pow_pos (by decide)
    have key : ∀ l : List UInt8, l.length ≤ k - 1 → acc m l < M * 64 ^ (k - 1) := by
      intro l hl
      have h2 : k - 1 = 0 ∨ k - 1 = 1 ∨ k - 1 = 2 ∨ k - 1 = 3 := by omega
      match l, hl with
      | [], _ => simp only [acc, List.foldl_nil]; rcases h2 with h | h | h | h <;> rw [h] <;> omega
      | [a], hl => simp only [acc, List.foldl_cons, List.foldl_nil]; simp only [List.length_cons, List.length_nil] at hl; rcases h2 with h | h | h | h <;> rw [h] at hl ⊢ <;> omega
      | [a, b], hl => simp only [acc, List.foldl_cons, List.foldl_nil]; simp only [List.length_cons, List.length_nil] at hl; rcases h2 with h | h | h | h <;> rw [h] at hl ⊢ <;> omega
      | [a, b, c], hl => simp only [acc, List.foldl_cons, List.foldl_nil]; simp only [List.length_cons, List.length_nil] at hl; rcases h2 with h | h | h | h <;> rw [h] at hl ⊢ <;> omega
      | a :: b :: c :: d :: l, hl => simp only [List.length_cons] at hl; omega
    exact key _ hl
  · exact Nat.mul_pos (by omega) (Nat.pow_pos (by decide))
end Go.Proofs.YtjeahdnbpiahaaaGreat.Ut
end
