/- qparse: ends, quoted, piece: the walks. -/
import Derived.Test.YtceekocfmbcobaaQpPPk
import Derived.Test.YtceekocfmbcobaaPkQparseReadsRow14
namespace Go.Proofs.Ytceekocfmbcobaa.Qp
open Go.RowKit Go.Proofs.Ytceekocfmbcobaa Go.Proofs.Ytceekocfmbcobaa.Ut Go.Proofs.Ytceekocfmbcobaa.Tk Go.Proofs.Ytceekocfmbcobaa.Qy
set_option maxRecDepth 20000
set_option linter.unusedSimpArgs false

theorem indexB (l : List UInt8) (c : UInt8) : (0 ≤ Lib.indexByte l c) ↔ c ∈ l := by
  rw [index_c]
  unfold atC
  by_cases h : c ∈ l
  · have : l.findIdx (· == c) < l.length := List.findIdx_lt_length.2 ⟨c, h, by simp⟩
    rw [if_pos this]
    simp [h]
  · have : ¬ l.findIdx (· == c) < l.length := fun e => by
      obtain ⟨x, hx, he⟩ := List.findIdx_lt_length.1 e
      rw [beq_iff_eq.1 he] at hx
      exact h hx
    rw [if_neg this]
    simp [h]
theorem ret_int {k : IntKind} {a b : Int} (h : b = a) : Ending.returned (.int k a) = .returned (.int k b) := by rw [h]
def endsS : ByteArray := ⟨#[32, 9, 40, 41, 34]⟩
theorem ends_ix (c : UInt8) : decide (0 ≤ Lib.indexByte endsS.data.toList c) = ends c := by
  rw [Bool.eq_iff_iff, decide_eq_true_iff, indexB]
  unfold ends endsS
  simp [or_assoc]
theorem ends_any (c : UInt8) (w : World) : Calls Try.prog 50 #[.int .u8 (c.toNat : Int)] w fun e w' => e = .returned (.bool (ends c)) ∧ w = w' := by
  have c0 := (Try.strings_IndexByte endsS (c.toNat : Int) w)
  have e0 : (c.toNat : Int).toNat.toUInt8 = c := by simp
  rw [e0] at c0
  have hx := ends_ix c
  generalize Lib.indexByte endsS.data.toList c = r at *
  rw [← hx]
  clear hx e0
  go_enter Try.func50, Try.ntmps50
  go_wp2_with (go_at_call 60; refine c0.mono ?_; rintro e w' ⟨rfl, rfl⟩)
  go_ret
  exact ⟨rfl, rfl⟩

/-- The text behind its first byte. -/
def tailS (s : ByteArray) : ByteArray := s.extract 1 s.size
theorem tailS_data (s : ByteArray) : (tailS s).data.toList = s.data.toList.tail := by
  unfold tailS; rw [Lib.extract_data, List.take_of_length_le (by rw [List.length_drop, bsize]; omega), List.drop_one]
set_option maxHeartbeats 400000 in
theorem quoted_any (s : ByteArray) (w : World) (h1 : 1 ≤ s.size) (hs : s.size ≤ 1048576) : Calls Try.prog 49 #[.string s] w fun e w' => e = .returned (.int .i64 (quotedN s.data.toList : Nat)) ∧ w = w' := by
  have c0 := (Try.strings_IndexByte (tailS s) 34 w)
  have e0 : (34 : Int).toNat.toUInt8 = 34 := by decide
  rw [e0, tailS_data, index_c] at c0
  have F1 : Hid (tailS s = s.extract 1 s.size) := rfl
  have hq : Hid (quotedN s.data.toList = if atC 34 s.data.toList.tail < s.data.toList.tail.length then atC 34 s.data.toList.tail + 2 else 0) := rfl
  have hl : s.data.toList.tail.length ≤ 1048576 := by rw [List.length_tail, bsize]; omega
  generalize atC 34 s.data.toList.tail = k at *
  generalize s.data.toList.tail.length = n at *
  by_cases hk : k < n
  · rw [if_pos hk] at c0
    have F2 : Hid (quotedN s.data.toList = k + 2) := Lib.hid (by rw [hq.out, if_pos hk])
    rw [F2.out]
    have hk2 : (k : Int) ≤ 1048576 := by omega
    clear hq hk
    go_enter Try.func49, Try.ntmps49
    go_wp2_with (go_at_call 60; (try rw [← F1.out]); refine c0.mono ?_; rintro e w' ⟨rfl, rfl⟩)
    go_ret
    exact ⟨by go_num, rfl⟩
  · rw [if_neg hk] at c0
    have F2 : Hid (quotedN s.data.toList = 0) := Lib.hid (by rw [hq.out, if_neg hk])
    rw [F2.out]
    clear hq hk
    go_enter Try.func49, Try.ntmps49
    go_wp2_with (go_at_call 60; (try rw [← F1.out]); refine c0.mono ?_; rintro e w' ⟨rfl, rfl⟩)
    go_ret
    exact ⟨rfl, rfl⟩

/-- The text behind its first n bytes; its first n bytes. -/
def dropS (n : Nat) (s : ByteArray) : ByteArray := s.extract n s.size
theorem dropS_data (n : Nat) (s : ByteArray) : (dropS n s).data.toList = s.data.toList.drop n := by
  unfold dropS; rw [Lib.extract_data, List.take_of_length_le (by rw [List.length_drop, bsize]; omega)]
theorem dropS_size (n : Nat) (s : ByteArray) : (dropS n s).size = s.size - n := by unfold dropS; rw [ByteArray.size_extract]; omega
theorem quoted_drop (s : ByteArray) (k : Nat) (w : World) (h1 : k < s.size) (hs : s.size ≤ 1048576) : Calls Try.prog 49 #[.string (s.extract k s.size)] w fun e w' => e = .returned (.int .i64 (quotedN (s.data.toList.drop k) : Nat)) ∧ w = w' := by
  have := quoted_any (dropS k s) w (by rw [dropS_size]; omega) (by rw [dropS_size]; omega)
  rw [dropS_data] at this
  exact this
theorem get_of (s : ByteArray) (k : Nat) (h : k < s.size) : s.data.toList[k]? = some s[k] := by
  rw [List.getElem?_eq_getElem (by rw [bsize]; exact h)]; rfl
theorem u8_eq (c d : UInt8) : ((c.toNat : Int) == (d.toNat : Int)) = (c == d) := by
  rw [Bool.eq_iff_iff, beq_iff_eq, beq_iff_eq]
  constructor
  · intro h
    exact UInt8.toNat_inj.1 (by omega)
  · rintro rfl; rfl
set_option maxHeartbeats 1600000 in
theorem piece_any (s : ByteArray) (w : World) (h1 : 0 < s.size) (hs : s.size ≤ 1048576) : Calls Try.prog 30 #[.string s] w fun e w' => e = .returned (.int .i64 (pieceN s.data.toList : Nat)) ∧ w = w' := by
  have hh : s.data.toList.head? = some s[0] := by rw [← get_of s 0 h1]; cases s.data.toList <;> rfl
  have u0 := u8_eq s[0] 40
  have u1 := u8_eq s[0] 41
  have u2 := u8_eq s[0] 34
  simp only [show (UInt8.toNat 40 : Int) = 40 from rfl, show (UInt8.toNat 41 : Int) = 41 from rfl, show (UInt8.toNat 34 : Int) = 34 from rfl] at u0 u1 u2
  by_cases e0 : s[0] = 40
  · have e1 : pieceN s.data.toList = 1 := by unfold pieceN; rw [hh, if_pos (.inl (by rw [e0]))]
    have t0 : ((s[0].toNat : Int) == 40) = true := by rw [u0]; exact beq_iff_eq.2 e0
    rw [e1]
    clear e1 hh u0 u1 u2 e0
    go_enter Try.func30, Try.ntmps30
    go_wp2
    go_ret
    exact ⟨rfl, rfl⟩
  have t0 : ((s[0].toNat : Int) == 40) = false := by rw [u0]; exact beq_eq_false_iff_ne.2 e0
  by_cases e1 : s[0] = 41
  · have e2 : pieceN s.data.toList = 1 := by unfold pieceN; rw [hh, if_pos (.inr (by rw [e1]))]
    have t1 : ((s[0].toNat : Int) == 41) = true := by rw [u1]; exact beq_iff_eq.2 e1
    rw [e2]
    clear e2 hh u0 u1 u2 e0 e1
    go_enter Try.func30, Try.ntmps30
    go_wp2
    go_ret
    exact ⟨rfl, rfl⟩
  have t1 : ((s[0].toNat : Int) == 41) = false := by rw [u1]; exact beq_eq_false_iff_ne.2 e1
  have hno : ¬ (s.data.toList.head? = some 40 ∨ s.data.toList.head? = some 41) := by rw [hh]; simp [e0, e1]
  by_cases e2 : s[0] = 34
  · have e3 : pieceN s.data.toList = quotedN s.data.toList := by unfold pieceN; rw [if_neg hno, hh, e2, if_pos rfl]
    have t2 : ((s[0].toNat : Int) == 34) = true := by rw [u2]; exact beq_iff_eq.2 e2
    have c0 := quoted_any s w (by omega) hs
    rw [e3]
    clear e3 hno hh u0 u1 u2 e0 e1 e2
    generalize quotedN s.data.toList = r at *
    go_enter Try.func30, Try.ntmps30
    go_wp2_with (go_at_call 49; refine c0.mono ?_; rintro e w' ⟨rfl, rfl⟩)
    go_ret
    exact ⟨rfl, rfl⟩
  have t2 : ((s[0].toNat : Int) == 34) = false := by rw [u2]; exact beq_eq_false_iff_ne.2 e2
  have e3 : pieceN s.data.toList = if s.data.toList[endAt s.data.toList]? = some 34 ∧ s.data.toList[endAt s.data.toList - 1]? = some 58 then (if quotedN (s.data.toList.drop (endAt s.data.toList)) = 0 then 0 else endAt s.data.toList + quotedN (s.data.toList.drop (endAt s.data.toList))) else endAt s.data.toList := by
    unfold pieceN; rw [if_neg hno, hh, if_neg (by simpa using e2)]
  have E3 := Lib.hid e3
  have E2 := Lib.hid e2
  have Hend := Lib.hid (findIdx_of ends s.data.toList)
  clear e3 hno hh u0 u1 u2 e0 e1 e2
  go_enter Try.func30, Try.ntmps30
  go_wp2_with fail
  go_loopw [3] (fun i wr => ∃ k : Nat, k ≤ s.size ∧ i = .int .i64 k ∧ w = wr ∧ Hid (∀ x ∈ s.data.toList.take k, ends x = false)) (fun i _ => s.size - (intOf i).toNat)
  case atStart => exact ⟨0, Nat.zero_le _, rfl, rfl, Lib.hid (fun x hx => by simp at hx)⟩
  case round =>
    obtain ⟨k, hk, rfl, rfl, hal⟩ := hrel
    -- behind the loop: what stands at k
    have hk0 : (0 : Int) ≤ (k : Int) := by omega
    by_cases hlt : k < s.size
    · have hts := take_snoc s k hlt
      by_cases he : ends s[k] = true
      · have Hk : Hid (endAt s.data.toList = k) := Lib.hid (Hend.out k hal.out (by rw [bsize]; omega) (fun _ => he))
        have u3 := u8_eq s[k] 34
        rw [show (UInt8.toNat 34 : Int) = 34 from rfl] at u3
        by_cases q : s[k] = 34
        · have t3 : ((s[k].toNat : Int) == 34) = true := by rw [u3]; exact beq_iff_eq.2 q
          obtain ⟨j, rfl⟩ : ∃ j, k = j + 1 := by
            match k with
            | 0 => exact absurd q E2.out
            | j + 1 => exact ⟨j, rfl⟩
          have hj : j < s.size := by omega
          have u4 := u8_eq s[j] 58
          rw [show (UInt8.toNat 58 : Int) = 58 from rfl] at u4
          have g1 := get_of s (j + 1) hlt
          have g2 := get_of s j hj
          have c2 := quoted_drop s (j + 1) w hlt hs
          have hj0 : (0 : Int) ≤ (j : Int) := by omega
          have e8 : ((j + 1 : Nat) : Int) = (j : Int) + 1 := by omega
          by_cases q2 : s[j] = 58
          · have t4 : ((s[j].toNat : Int) == 58) = true := by rw [u4]; exact beq_iff_eq.2 q2
            have E4 : Hid (pieceN s.data.toList = if quotedN (s.data.toList.drop (j + 1)) = 0 then 0 else j + 1 + quotedN (s.data.toList.drop (j + 1))) := Lib.hid (by
              rw [E3.out, Hk.out, Nat.add_sub_cancel, g1, g2, q, q2, if_pos ⟨rfl, rfl⟩])
            have hq := quotedN_le (s.data.toList.drop (j + 1))
            rw [List.length_drop, bsize] at hq
            clear u3 u4 g1 g2 q q2 hts hal Hk E3 Hend
            generalize quotedN (s.data.toList.drop (j + 1)) = r at *
            by_cases hr : r = 0
            · subst hr
              have E5 : Hid (pieceN s.data.toList = 0) := Lib.hid (by rw [E4.out]; rfl)
              clear E4 hq
              go_wp2_with (first | (go_at_call 50; refine (ends_any s[j + 1] _).mono ?_; rintro e w' ⟨rfl, rfl⟩) | (go_at_call 49; refine c2.mono ?_; rintro e w' ⟨rfl, rfl⟩))
              go_ret
              exact ⟨ret_int (by rw [E5.out]; first | rfl | omega), rfl⟩
            · have E5 : Hid (pieceN s.data.toList = j + 1 + r) := Lib.hid (by rw [E4.out, if_neg hr])
              have hr' : ((r : Int) == 0) = false := by rw [beq_eq_false_iff_ne]; omega
              clear E4 hr
              go_wp2_with (first | (go_at_call 50; refine (ends_any s[j + 1] _).mono ?_; rintro e w' ⟨rfl, rfl⟩) | (go_at_call 49; refine c2.mono ?_; rintro e w' ⟨rfl, rfl⟩))
              go_ret
              exact ⟨ret_int (by rw [E5.out]; first | rfl | omega), rfl⟩
          · have t4 : ((s[j].toNat : Int) == 58) = false := by rw [u4]; exact beq_eq_false_iff_ne.2 q2
            have E5 : Hid (pieceN s.data.toList = j + 1) := Lib.hid (by
              rw [E3.out, Hk.out, Nat.add_sub_cancel, g1, g2, if_neg (by simp [q2])])
            clear u3 u4 g1 g2 q q2 hts hal Hk E3 Hend c2
            go_wp2_with (go_at_call 50; refine (ends_any s[j + 1] _).mono ?_; rintro e w' ⟨rfl, rfl⟩)
            go_ret
            exact ⟨ret_int (by rw [E5.out]; omega), rfl⟩
        · have t3 : ((s[k].toNat : Int) == 34) = false := by rw [u3]; exact beq_eq_false_iff_ne.2 q
          have g1 := get_of s k hlt
          have E5 : Hid (pieceN s.data.toList = k) := Lib.hid (by
            rw [E3.out, Hk.out, g1, if_neg (by simp [q])])
          clear u3 g1 q hts hal Hk E3 Hend
          go_wp2_with (go_at_call 50; refine (ends_any s[k] _).mono ?_; rintro e w' ⟨rfl, rfl⟩)
          go_ret
          exact ⟨ret_int (by rw [E5.out]), rfl⟩
      · have he' : ends s[k] = false := by simpa using he
        have Hnx : Hid (∀ x ∈ s.data.toList.take (k + 1), ends x = false) := Lib.hid (fun x hx => by
          rw [hts, List.mem_append] at hx
          rcases hx with hx | hx
          · exact hal.out x hx
          · rw [List.mem_singleton] at hx; rw [hx]; exact he')
        clear hts hal he E3 Hend
        go_wp2_with (go_at_call 50; refine (ends_any s[k] _).mono ?_; rintro e w' ⟨rfl, rfl⟩)
        go_roundw
        case rel => exact ⟨k + 1, by omega, by go_num, by first | rfl | trivial, Hnx⟩
        case measure => simp [intOf]; omega
    · obtain rfl : k = s.size := by omega
      have hn : s.data.toList[s.size]? = none := List.getElem?_eq_none (by rw [bsize]; omega)
      have Hk : Hid (endAt s.data.toList = s.size) := Lib.hid (Hend.out s.size hal.out (by rw [bsize]; omega) (fun h => absurd h (by rw [bsize]; omega)))
      have E5 : Hid (pieceN s.data.toList = s.size) := Lib.hid (by
        rw [E3.out, Hk.out, hn, if_neg (by simp)])
      clear hal hn Hk E3 Hend
      go_wp2
      go_ret
      exact ⟨ret_int (by rw [E5.out]), rfl⟩
end Go.Proofs.Ytceekocfmbcobaa.Qp
