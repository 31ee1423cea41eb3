/- SLICED by slice.py -/
import Derived.Test.YtdloacfoegjnmaaGreatPkGroupIndexesRow7
import Derived.Test.YtdloacfoegjnmaaGreatPkGroupIndexesRow4
section
/- token.Term, Split; strings.Cut at a colon: the walks. -/
namespace Go.Proofs.YtdloacfoegjnmaaGreat.Tk
open Go.RowKit Go.Proofs.YtdloacfoegjnmaaGreat.Ut
set_option maxRecDepth 20000

theorem colon_index (s : ByteArray) : Lib.indexByte s.data.toList 58 = if colonAt s.data.toList < s.size then ((colonAt s.data.toList : Nat) : Int) else -1 := by
  rw [← bsize]
  unfold colonAt
  generalize s.data.toList = l
  induction l with
  | nil => rfl
  | cons x l ih =>
    rw [Lib.indexByte, List.findIdx_cons]
    by_cases hx : (x == 58) = true
    · rw [hx]; simp
    · have hx' : (x == 58) = false := by simpa using hx
      rw [hx', ih]
      simp only [Bool.false_eq_true, if_false, cond_false, List.length_cons]
      generalize l.findIdx (fun x => x == 58) = n
      by_cases h : n < l.length
      · have h' : n + 1 < l.length + 1 := by omega
        rw [if_pos h, if_pos h', if_neg (by simp)]
        simp
      · have h' : ¬ n + 1 < l.length + 1 := by omega
        rw [if_neg h, if_neg h']
        simp

def colonS : ByteArray := ⟨#[58]⟩
theorem index_colon (s : ByteArray) (w : World) : Calls Tryz.prog 104 #[.string s, .string colonS] w fun e w' => e = .returned (.int .i64 (if colonAt s.data.toList < s.size then ((colonAt s.data.toList : Nat) : Int) else -1)) ∧ w = w' :=
  (Tryz.stringslite_Index_one s 58 w).mono fun _ _ ⟨he, hw⟩ => ⟨by rw [he, colon_index], hw.symm⟩
/-- Before the first colon; behind it. -/
def bef (s : ByteArray) : ByteArray := s.extract 0 (colonAt s.data.toList)
def beh (s : ByteArray) : ByteArray := s.extract (colonAt s.data.toList + 1) s.size
theorem bef_data (s : ByteArray) : (bef s).data.toList = s.data.toList.take (colonAt s.data.toList) := by unfold bef; rw [Lib.extract_data]; simp
theorem beh_data (s : ByteArray) : (beh s).data.toList = s.data.toList.drop (colonAt s.data.toList + 1) := by
  unfold beh; rw [Lib.extract_data, List.take_of_length_le (by rw [List.length_drop, bsize]; omega)]
theorem bef_size (s : ByteArray) : (bef s).size ≤ s.size := by unfold bef; rw [ByteArray.size_extract]; omega
theorem beh_size (s : ByteArray) : (beh s).size ≤ s.size := by unfold beh; rw [ByteArray.size_extract]; omega

set_option maxHeartbeats 400000 in
theorem lcut_yes (s : ByteArray) (w : World) (hs : s.size ≤ 1048576) (h : colonAt s.data.toList < s.size) : Calls Tryz.prog 77 #[.string s, .string colonS] w fun e w' => e = .returned (.tuple #[.string (bef s), .string (beh s), .bool true]) ∧ Below w.heap.size w w' := by
  have c := index_colon s w
  rw [if_pos h] at c
  have F1 : Hid (bef s = s.extract 0 (colonAt s.data.toList)) := rfl
  have F2 : Hid (beh s = s.extract (colonAt s.data.toList + 1) s.size) := rfl
  have hcs : colonS.size = 1 := rfl
  generalize colonAt s.data.toList = k at *
  generalize bef s = x at *
  generalize beh s = y at *
  have h0 : (0 : Int) ≤ (k : Int) := by omega
  have h1 : (k : Int) ≤ (s.size : Int) := by omega
  have h2 : IntKind.i64.wrap ((k : Int) + 1) = (k : Int) + 1 := IntWalk.i64_in _ (by omega)
  have h3 : (0 : Int) ≤ (k : Int) + 1 := by omega
  have h4 : (k : Int) + 1 ≤ (s.size : Int) := by omega
  go_enter Tryz.func77, Tryz.ntmps77
  go_wp2_with (go_at_call 104; refine c.mono ?_; rintro e w' ⟨rfl, rfl⟩)
  go_region
  go_wp2
  go_ret3
  rw [F1.out, F2.out]
  exact ⟨rfl, (Below.refl _ _).drew⟩
theorem lcut_no (s : ByteArray) (w : World) (h : ¬ colonAt s.data.toList < s.size) : Calls Tryz.prog 77 #[.string s, .string colonS] w fun e w' => e = .returned (.tuple #[.string s, .string ByteArray.empty, .bool false]) ∧ Below w.heap.size w w' := by
  have c := index_colon s w
  rw [if_neg h] at c
  clear h
  go_enter Tryz.func77, Tryz.ntmps77
  go_wp2_with (go_at_call 104; refine c.mono ?_; rintro e w' ⟨rfl, rfl⟩)
  go_ret3
  exact ⟨rfl, Below.refl _ _⟩
theorem cut_yes (s : ByteArray) (w : World) (hs : s.size ≤ 1048576) (h : colonAt s.data.toList < s.size) : Calls Tryz.prog 53 #[.string s, .string colonS] w fun e w' => e = .returned (.tuple #[.string (bef s), .string (beh s), .bool true]) ∧ Below w.heap.size w w' := by
  have c := lcut_yes s w hs h
  go_enter Tryz.func53, Tryz.ntmps53
  go_wp2_with (go_at_call 77; refine c.mono ?_; rintro e w2 ⟨rfl, hb2⟩)
  go_ret3
  exact ⟨rfl, hb2⟩
theorem cut_no (s : ByteArray) (w : World) (h : ¬ colonAt s.data.toList < s.size) : Calls Tryz.prog 53 #[.string s, .string colonS] w fun e w' => e = .returned (.tuple #[.string s, .string ByteArray.empty, .bool false]) ∧ Below w.heap.size w w' := by
  have c := lcut_no s w h
  go_enter Tryz.func53, Tryz.ntmps53
  go_wp2_with (go_at_call 77; refine c.mono ?_; rintro e w2 ⟨rfl, hb2⟩)
  go_ret3
  exact ⟨rfl, hb2⟩

/-- A term of two texts, or none. -/
def termV (a b : ByteArray) : ByteArray := str (term a.data.toList b.data.toList)
def termOk (a b : ByteArray) : Bool := isN a.data.toList && isW b.data.toList
theorem termV_eq (a b : ByteArray) : a ++ colonS ++ b = termV a b := by
  have h : ∀ x y : ByteArray, (x ++ y).data.toList = x.data.toList ++ y.data.toList := fun x y => by simp
  rw [← of_str (a ++ colonS ++ b)]
  unfold termV term
  rw [h, h]
  simp [colonS]
/-- What Split hands back. -/
def splitV (s : ByteArray) : Value := if splitOk s.data.toList = true then .tuple #[.string (bef s), .string (beh s), .bool true] else .tuple #[.string ByteArray.empty, .string ByteArray.empty, .bool false]
set_option maxHeartbeats 800000 in
theorem split_any (s : ByteArray) (w : World) (hs : s.size ≤ 1048576) : Calls Tryz.prog 28 #[.string s] w fun e w' => e = .returned (splitV s) ∧ Below w.heap.size w w' := by
  by_cases h : colonAt s.data.toList < s.size
  · have c0 := cut_yes s w hs h
    have c1 := fun wx => isName_any (bef s) wx (by have := bef_size s; omega)
    have c2 := fun wx => isWord_any (beh s) wx (by have := beh_size s; omega)
    have F : Hid (splitOk s.data.toList = (isN (bef s).data.toList && isW (beh s).data.toList)) := Lib.hid (by
      unfold splitOk; rw [bef_data, beh_data, decide_eq_true (by rw [bsize]; exact h), Bool.true_and])
    have G : Hid (splitV s = if splitOk s.data.toList = true then .tuple #[.string (bef s), .string (beh s), .bool true] else .tuple #[.string ByteArray.empty, .string ByteArray.empty, .bool false]) := rfl
    generalize splitV s = sp at *
    generalize bef s = x at *
    generalize beh s = y at *
    by_cases hn : isN x.data.toList = true
    · rw [hn] at c1 F
      by_cases hw : isW y.data.toList = true
      · rw [hw] at c2 F
        have G2 : Hid (sp = .tuple #[.string x, .string y, .bool true]) := Lib.hid (by rw [G.out, F.out]; rfl)
        have C1 := Lib.hid c1
        have C2 := Lib.hid c2
        clear hn hw c1 c2 h
        go_enter Tryz.func28, Tryz.ntmps28
        go_wp2_with (first | (go_at_call 53; refine c0.mono ?_; rintro e w1 ⟨rfl, hb1⟩) | (go_at_call 26; refine (C1.out _).mono ?_; rintro e w2 ⟨rfl, hb2⟩) | (go_at_call 54; refine (C2.out _).mono ?_; rintro e w3 ⟨rfl, hb3⟩))
        go_ret3
        exact ⟨by rw [G2.out]; rfl, (hb1.trans (hb2.mono hb1.size)).trans (hb3.mono (Nat.le_trans hb1.size hb2.size))⟩
      · have hw' : isW y.data.toList = false := by simpa using hw
        rw [hw'] at c2 F
        have G2 : Hid (sp = .tuple #[.string ByteArray.empty, .string ByteArray.empty, .bool false]) := Lib.hid (by rw [G.out, F.out]; rfl)
        have C1 := Lib.hid c1
        have C2 := Lib.hid c2
        clear hn hw hw' c1 c2 h
        go_enter Tryz.func28, Tryz.ntmps28
        go_wp2_with (first | (go_at_call 53; refine c0.mono ?_; rintro e w1 ⟨rfl, hb1⟩) | (go_at_call 26; refine (C1.out _).mono ?_; rintro e w2 ⟨rfl, hb2⟩) | (go_at_call 54; refine (C2.out _).mono ?_; rintro e w3 ⟨rfl, hb3⟩))
        go_ret3
        exact ⟨by rw [G2.out]; rfl, (hb1.trans (hb2.mono hb1.size)).trans (hb3.mono (Nat.le_trans hb1.size hb2.size))⟩
    · have hn' : isN x.data.toList = false := by simpa using hn
      rw [hn'] at c1 F
      have G2 : Hid (sp = .tuple #[.string ByteArray.empty, .string ByteArray.empty, .bool false]) := Lib.hid (by rw [G.out, F.out]; rfl)
      have C1 := Lib.hid c1
      clear hn hn' c1 c2 h
      go_enter Tryz.func28, Tryz.ntmps28
      go_wp2_with (first | (go_at_call 53; refine c0.mono ?_; rintro e w1 ⟨rfl, hb1⟩) | (go_at_call 26; refine (C1.out _).mono ?_; rintro e w2 ⟨rfl, hb2⟩))
      go_ret3
      exact ⟨by rw [G2.out]; rfl, hb1.trans (hb2.mono hb1.size)⟩
  · have c0 := cut_no s w h
    have G2 : Hid (splitV s = .tuple #[.string ByteArray.empty, .string ByteArray.empty, .bool false]) := Lib.hid (by
      unfold splitV splitOk; rw [decide_eq_false (by rw [bsize]; exact h)]; rfl)
    clear h
    generalize splitV s = sp at *
    go_enter Tryz.func28, Tryz.ntmps28
    go_wp2_with (go_at_call 53; refine c0.mono ?_; rintro e w1 ⟨rfl, hb1⟩)
    go_ret3
    exact ⟨by rw [G2.out]; rfl, hb1⟩
end Go.Proofs.YtdloacfoegjnmaaGreat.Tk
end

section
/- The reference's runes: more, row, Decode, by the same plain words. -/
namespace Go.Proofs.YtdloacfoegjnmaaGreat.Ut
open Go.RowKit
set_option maxRecDepth 20000

theorem more_no (s : ByteArray) (p n : Nat) (w : World) (h : s.size ≤ p) : Calls Tryz.prog 144 #[.string s, .int .i64 (p : Int), .int .i64 (n : Int)] w fun e w' => e = .returned (.tuple #[.int .i64 0, .bool false]) ∧ w = w' := by
  have h1 : (s.size : Int) ≤ (p : Int) := by omega
  go_enter Tryz.func144, Tryz.ntmps144
  go_wp2
  go_ret2
  exact ⟨rfl, rfl⟩
theorem more_not (s : ByteArray) (p n m : Nat) (w : World) (h : p < s.size) (hm : (s[p]).toNat = m) (hc : ¬ m / 64 = 2) (h256 : m < 256) : Calls Tryz.prog 144 #[.string s, .int .i64 (p : Int), .int .i64 (n : Int)] w fun e w' => e = .returned (.tuple #[.int .i64 0, .bool false]) ∧ w = w' := by
  have h1 : ¬ (s.size : Int) ≤ (p : Int) := by omega
  have h2 : ¬ ((m : Int) / 64 = 2) := by omega
  go_enter Tryz.func144, Tryz.ntmps144
  go_wp2
  go_ret2
  exact ⟨rfl, rfl⟩
theorem more_yes (s : ByteArray) (p n m : Nat) (w : World) (h : p < s.size) (hm : (s[p]).toNat = m) (hc : m / 64 = 2) (h256 : m < 256) (hn : n < 1000000000) : Calls Tryz.prog 144 #[.string s, .int .i64 (p : Int), .int .i64 (n : Int)] w fun e w' => e = .returned (.tuple #[.int .i64 ((n * 64 + m % 64 : Nat) : Int), .bool true]) ∧ w = w' := by
  have h1 : ¬ (s.size : Int) ≤ (p : Int) := by omega
  have h2 : ((m : Int) / 64 = 2) := by omega
  go_enter Tryz.func144, Tryz.ntmps144
  go_wp2
  go_ret2
  exact ⟨by go_num, rfl⟩
theorem lo1 (r : Int) (h : (65 ≤ r ∧ r ≤ 90) ∨ (192 ≤ r ∧ r ≤ 222 ∧ r ≠ 215) ∨ (913 ≤ r ∧ r ≤ 939 ∧ r ≠ 930) ∨ (1040 ≤ r ∧ r ≤ 1071)) : r + 32 = lower r := by unfold lower; rw [if_pos h]
theorem lo2 (r : Int) (h : 1024 ≤ r ∧ r ≤ 1039) : r + 80 = lower r := by unfold lower; rw [if_neg (by omega), if_pos h]
theorem lo3 (r : Int) (h : ¬ ((65 ≤ r ∧ r ≤ 90) ∨ (192 ≤ r ∧ r ≤ 222 ∧ r ≠ 215) ∨ (913 ≤ r ∧ r ≤ 939 ∧ r ≠ 930) ∨ (1040 ≤ r ∧ r ≤ 1071))) (h2 : ¬ (1024 ≤ r ∧ r ≤ 1039)) : r = lower r := by unfold lower; rw [if_neg h, if_neg h2]

set_option maxHeartbeats 1600000 in
theorem lower_ref (r : Int) (w : World) : Calls Tryz.prog 132 #[.int .i64 r] w fun e w' => e = .returned (.int .i64 (lower r)) ∧ w = w' := by
  go_enter Tryz.func132, Tryz.ntmps132
  go_wp2
  all_goals
    go_ret
    refine ⟨congrArg (fun x => Ending.returned (Value.int .i64 x)) ?_, rfl⟩
    try simp only [bne_iff_ne, ne_eq, bne_eq_false_iff_eq] at *
    first | exact lo1 r (by omega) | exact lo2 r (by omega) | exact lo3 r (by omega) (by omega)

/-- What 'row' tells of the bytes behind a first one. -/
def rowOk (t : List UInt8) (k : Nat) : Bool := decide (k - 1 ≤ t.length) && (t.take (k - 1)).all cont
def rowOf (m : Nat) (t : List UInt8) (k : Nat) : Nat := if rowOk t k then acc m (t.take (k - 1)) else 0

theorem more_any (s : ByteArray) (p n : Nat) (w : World) (hn : n < 1000000000) : Calls Tryz.prog 144 #[.string s, .int .i64 (p : Int), .int .i64 (n : Int)] w fun e w' => w = w' ∧
    ((∃ h : p < s.size, cont s[p] = true ∧ e = .returned (.tuple #[.int .i64 ((n * 64 + (s[p]).toNat % 64 : Nat) : Int), .bool true])) ∨ (¬ (∃ h : p < s.size, cont s[p] = true) ∧ e = .returned (.tuple #[.int .i64 0, .bool false]))) := by
  by_cases h : p < s.size
  · have h256 := (s[p]).toNat_lt
    by_cases hc : (s[p]).toNat / 64 = 2
    · refine (more_yes s p n _ w h rfl hc h256 hn).mono ?_
      rintro e w' ⟨rfl, rfl⟩
      exact ⟨rfl, Or.inl ⟨h, by simp [cont, hc], rfl⟩⟩
    · refine (more_not s p n _ w h rfl hc h256).mono ?_
      rintro e w' ⟨rfl, rfl⟩
      exact ⟨rfl, Or.inr ⟨fun ⟨h', h2⟩ => hc (by simpa [cont] using h2), rfl⟩⟩
  · refine (more_no s p n w (by omega)).mono ?_
    rintro e w' ⟨rfl, rfl⟩
    exact ⟨rfl, Or.inr ⟨fun ⟨h', _⟩ => h h', rfl⟩⟩

theorem take_at (s : ByteArray) (k j : Nat) (hj : 1 ≤ j) (h : k + j < s.size) : (s.data.toList.drop (k + 1)).take j = (s.data.toList.drop (k + 1)).take (j - 1) ++ [s[k + j]] := by
  obtain ⟨i, rfl⟩ : ∃ i, j = i + 1 := ⟨j - 1, by omega⟩
  have hl : i < (s.data.toList.drop (k + 1)).length := by rw [List.length_drop, bsize]; omega
  rw [List.take_succ_eq_append_getElem hl, Nat.add_sub_cancel]
  congr 2
  rw [List.getElem_drop, Array.getElem_toList]
  have : k + 1 + i = k + (i + 1) := by omega
  simp only [this]
  rfl
theorem row_more (s : ByteArray) (k j m : Nat) (hj : 1 ≤ j) (h : k + j < s.size) (hc : cont s[k + j] = true) (hok : rowOk (s.data.toList.drop (k + 1)) j = true) :
    rowOk (s.data.toList.drop (k + 1)) (j + 1) = true ∧ acc m ((s.data.toList.drop (k + 1)).take j) = acc m ((s.data.toList.drop (k + 1)).take (j - 1)) * 64 + (s[k + j]).toNat % 64 := by
  have ht := take_at s k j hj h
  refine ⟨?_, by rw [ht, acc_snoc]⟩
  simp only [rowOk, Bool.and_eq_true, decide_eq_true_eq, Nat.add_sub_cancel] at hok ⊢
  refine ⟨by rw [List.length_drop, bsize]; omega, ?_⟩
  rw [ht, List.all_append, hok.2]
  simp [hc]
theorem row_stop (s : ByteArray) (k j z : Nat) (hj : 1 ≤ j) (hz : j < z) (hno : ¬ ∃ h : k + j < s.size, cont s[k + j] = true) : rowOk (s.data.toList.drop (k + 1)) z = false := by
  cases hr : rowOk (s.data.toList.drop (k + 1)) z with
  | false => rfl
  | true =>
    exfalso
    simp only [rowOk, Bool.and_eq_true, decide_eq_true_eq] at hr
    have hl := hr.1
    rw [List.length_drop, bsize] at hl
    have h : k + j < s.size := by omega
    refine hno ⟨h, List.all_eq_true.1 hr.2 _ ?_⟩
    have ht := take_at s k j hj h
    have : s[k + j] ∈ (s.data.toList.drop (k + 1)).take j := by rw [ht]; simp
    exact (List.take_subset_take_left _ (by omega)) this

set_option maxHeartbeats 1600000 in
theorem row_any (s : ByteArray) (k m z : Nat) (w : World) (hk : k < s.size) (hs : s.size ≤ 140737488351232) (hm : m < 32) (hz : 1 ≤ z) (hz4 : z ≤ 4) : Calls Tryz.prog 141 #[.string s, .int .i64 (k : Int), .int .i64 (m : Int), .int .i64 (z : Int)] w fun e w' => e = .returned (.tuple #[.int .i64 (rowOf m (s.data.toList.drop (k + 1)) z : Nat), .bool (rowOk (s.data.toList.drop (k + 1)) z)]) ∧ w = w' := by
  have r0 : rowOk (s.data.toList.drop (k + 1)) 1 = true := by simp [rowOk]
  have R0 := Lib.hid r0
  have hyes := fun (j : Nat) (hj : 1 ≤ j) (h : k + j < s.size) (hc : cont s[k + j] = true) (hok : rowOk (s.data.toList.drop (k + 1)) j = true) => row_more s k j m hj h hc hok
  have hno := fun (j : Nat) (hj : 1 ≤ j) (hz : j < z) (h : ¬ ∃ h : k + j < s.size, cont s[k + j] = true) => row_stop s k j z hj hz h
  have hlt := fun (j : Nat) (hj : j ≤ 4) => acc_lt m ((s.data.toList.drop (k + 1)).take (j - 1)) hm (by rw [List.length_take]; omega)
  have hof : rowOf m (s.data.toList.drop (k + 1)) z = if rowOk (s.data.toList.drop (k + 1)) z then acc m ((s.data.toList.drop (k + 1)).take (z - 1)) else 0 := rfl
  have Hof := Lib.hid hof
  have Hyes := Lib.hid hyes
  have Hno := Lib.hid hno
  have Hlt := Lib.hid hlt
  clear r0 hyes hno hlt hof
  go_enter Tryz.func141, Tryz.ntmps141
  go_wp2
  go_loopw [2, 10] (fun n i wr => ∃ j : Nat, 1 ≤ j ∧ j ≤ z ∧ i = .int .i64 j ∧ n = .int .i64 (acc m ((s.data.toList.drop (k + 1)).take (j - 1)) : Nat) ∧ Hid (rowOk (s.data.toList.drop (k + 1)) j = true) ∧ wr = w)
    (fun _ i _ => z - (intOf i).toNat)
  case atStart => exact ⟨1, by omega, by omega, rfl, rfl, R0, rfl⟩
  case round =>
    obtain ⟨j, hj1, hjz, rfl, rfl, Hok, rfl⟩ := hrel
    by_cases hjl : j < z
    · have hal := Hlt.out j (by omega)
      have c := more_any s (k + j) (acc m ((s.data.toList.drop (k + 1)).take (j - 1))) wr (by omega)
      have Hst := Lib.hid (Hno.out j hj1 hjl)
      have Hgo := Lib.hid (fun h hc => (Hyes.out j hj1 h hc Hok.out))
      generalize acc m ((s.data.toList.drop (k + 1)).take (j - 1)) = a at *
      go_wp2_with fail
      refine c.mono ?_
      rintro e w' ⟨rfl, h⟩
      rcases h with ⟨h, hc, rfl⟩ | ⟨h, rfl⟩
      · have Hg := Lib.hid (Hgo.out h hc)
        clear hc Hgo Hst
        go_wp2
        go_roundw
        case rel => exact ⟨j + 1, by omega, by omega, by go_num, by rw [Nat.add_sub_cancel, Hg.out.2]; go_num, Lib.hid Hg.out.1, trivial⟩
        case measure => simp [intOf]; omega
      · have Hg := Lib.hid (Hst.out h)
        clear h Hgo Hst
        go_wp2
        go_ret2
        exact ⟨by rw [Hof.out, Hg.out]; rfl, rfl⟩
    · obtain rfl : j = z := by omega
      generalize hac : acc m ((s.data.toList.drop (k + 1)).take (j - 1)) = a at *
      have Hac := Lib.hid hac
      clear hac
      go_wp2
      go_ret2
      exact ⟨by rw [Hof.out, Hok.out, if_pos rfl]; rfl, rfl⟩
theorem fits_row (m : Nat) (t : List UInt8) (k lo hi : Nat) : fits m t k lo hi = (rowOk t k && (decide (lo ≤ rowOf m t k) && (decide (rowOf m t k ≤ hi) && !(decide (55296 ≤ rowOf m t k) && decide (rowOf m t k ≤ 57343))))) := by
  unfold fits rowOf
  cases h : rowOk t k with
  | true =>
    rw [if_pos rfl]
    unfold rowOk at h
    rw [Bool.and_eq_true] at h
    rw [h.1, h.2, Bool.true_and]
  | false =>
    rw [Bool.false_and]
    unfold rowOk at h
    rw [← Bool.and_assoc, h, Bool.false_and]
theorem form_row (m : Nat) (t : List UInt8) (k lo hi a : Nat) (ok : Bool) (ha : rowOf m t k = a) (ho : rowOk t k = ok) :
    (ok = true → lo ≤ a → a ≤ hi → ¬ (55296 ≤ a ∧ a ≤ 57343) → form m t k lo hi = (a, k)) ∧ ((ok = false ∨ a < lo ∨ hi < a ∨ (55296 ≤ a ∧ a ≤ 57343)) → form m t k lo hi = (65533, 1)) := by
  have hf := fits_row m t k lo hi
  rw [ha, ho] at hf
  refine ⟨fun h1 h2 h3 h4 => ?_, fun h => ?_⟩
  · have hff : fits m t k lo hi = true := by
      rw [hf]; simp only [Bool.and_eq_true, decide_eq_true_eq, Bool.not_eq_true', Bool.and_eq_false_iff, decide_eq_false_iff_not]
      exact ⟨h1, h2, h3, by omega⟩
    unfold form
    rw [if_pos hff]
    have : rowOf m t k = acc m (t.take (k - 1)) := by unfold rowOf; rw [if_pos (by rw [ho]; exact h1)]
    rw [← ha, this]
  · have hff : fits m t k lo hi = false := by
      cases hx : fits m t k lo hi with
      | false => rfl
      | true =>
        exfalso
        rw [hf] at hx
        simp only [Bool.and_eq_true, decide_eq_true_eq, Bool.not_eq_true', Bool.and_eq_false_iff, decide_eq_false_iff_not] at hx
        obtain ⟨x1, x2, x3, x4⟩ := hx
        rcases h with h | h | h | h
        · rw [h] at x1; cases x1
        · omega
        · omega
        · omega
    unfold form
    rw [if_neg (by rw [hff]; decide)]
theorem row_lt (m M : Nat) (t : List UInt8) (k : Nat) (hm : m < M) (hM : M ≤ 32) (hk : 1 ≤ k) (hk4 : k ≤ 4) : rowOf m t k < M * 64 ^ (k - 1) := by
  unfold rowOf
  split
  · have hl : (t.take (k - 1)).length ≤ k - 1 := by rw [List.length_take]; omega
    have hp : 0 < 64 ^ (k - 1) := Nat.pow_pos (by decide)
    have key : ∀ l : List UInt8, l.length ≤ k - 1 → acc m l < M * 64 ^ (k - 1) := by
      intro l hl
      have h2 : k - 1 = 0 ∨ k - 1 = 1 ∨ k - 1 = 2 ∨ k - 1 = 3 := by omega
      match l, hl with
      | [], _ => simp only [acc, List.foldl_nil]; rcases h2 with h | h | h | h <;> rw [h] <;> omega
      | [a], hl => simp only [acc, List.foldl_cons, List.foldl_nil]; simp only [List.length_cons, List.length_nil] at hl; rcases h2 with h | h | h | h <;> rw [h] at hl ⊢ <;> omega
      | [a, b], hl => simp only [acc, List.foldl_cons, List.foldl_nil]; simp only [List.length_cons, List.length_nil] at hl; rcases h2 with h | h | h | h <;> rw [h] at hl ⊢ <;> omega
      | [a, b, c], hl => simp only [acc, List.foldl_cons, List.foldl_nil]; simp only [List.length_cons, List.length_nil] at hl; rcases h2 with h | h | h | h <;> rw [h] at hl ⊢ <;> omega
      | a :: b :: c :: d :: l, hl => simp only [List.length_cons] at hl; omega
    exact key _ hl
  · exact Nat.mul_pos (by omega) (Nat.pow_pos (by decide))
end Go.Proofs.YtdloacfoegjnmaaGreat.Ut
end
