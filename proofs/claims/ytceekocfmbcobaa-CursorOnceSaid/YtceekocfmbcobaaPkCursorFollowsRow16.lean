/- qparse: ends, quoted, piece: the walks. -/
import Derived.BigQuiet
import Derived.Maps.AppendAt
import Derived.Laws.AppendOwn
import Derived.Below
import Derived.Lib.Hide
import Derived.Test.YtceekocfmbcobaaQpPPk
import Derived.Test.YtceekocfmbcobaaPkCursorFollowsRow10
import Derived.Test.YtceekocfmbcobaaPkCursorFollowsRow0
section
namespace Go.Proofs.Ytceekocfmbcobaa.Qp
open Go.RowKit Go.Proofs.Ytceekocfmbcobaa Go.Proofs.Ytceekocfmbcobaa.Ut Go.Proofs.Ytceekocfmbcobaa.Tk Go.Proofs.Ytceekocfmbcobaa.Qy
set_option maxRecDepth 20000
set_option linter.unusedSimpArgs false

theorem indexB (l : List UInt8) (c : UInt8) : (0 ≤ Lib.indexByte l c) ↔ c ∈ l := by
  rw [index_c]
  unfold atC
  by_cases h : c ∈ l
  · have : l.findIdx (· == c) < l.length := List.findIdx_lt_length.2 ⟨c, h, by simp⟩
    rw [if_pos this]
    simp [h]
  · have : ¬ l.findIdx (· == c) < l.length := fun e => by
      obtain ⟨x, hx, he⟩ := List.findIdx_lt_length.1 e
      rw [beq_iff_eq.1 he] at hx
      exact h hx
    rw [if_neg this]
    simp [h]
theorem ret_int {k : IntKind} {a b : Int} (h : b = a) : Ending.returned (.int k a) = .returned (.int k b) := by rw [h]
def endsS : ByteArray := ⟨#[32, 9, 40, 41, 34]⟩
theorem ends_ix (c : UInt8) : decide (0 ≤ Lib.indexByte endsS.data.toList c) = ends c := by
  rw [Bool.eq_iff_iff, decide_eq_true_iff, indexB]
  unfold ends endsS
  simp [or_assoc]
theorem ends_any (c : UInt8) (w : World) : Calls Try.prog 50 #[.int .u8 (c.toNat : Int)] w fun e w' => e = .returned (.bool (ends c)) ∧ w = w' := by
  have c0 := (Try.strings_IndexByte endsS (c.toNat : Int) w)
  have e0 : (c.toNat : Int).toNat.toUInt8 = c := by simp
  rw [e0] at c0
  have hx := ends_ix c
  generalize Lib.indexByte endsS.data.toList c = r at *
  rw [← hx]
  clear hx e0
  go_enter Try.func50, Try.ntmps50
  go_wp2_with (go_at_call 60; refine c0.mono ?_; rintro e w' ⟨rfl, rfl⟩)
  go_ret
  exact ⟨rfl, rfl⟩

/-- The text behind its first byte. -/
def tailS (s : ByteArray) : ByteArray := s.extract 1 s.size
theorem tailS_data (s : ByteArray) : (tailS s).data.toList = s.data.toList.tail := by
  unfold tailS; rw [Lib.extract_data, List.take_of_length_le (by rw [List.length_drop, bsize]; omega), List.drop_one]
set_option maxHeartbeats 400000 in
theorem quoted_any (s : ByteArray) (w : World) (h1 : 1 ≤ s.size) (hs : s.size ≤ 1048576) : Calls Try.prog 49 #[.string s] w fun e w' => e = .returned (.int .i64 (quotedN s.data.toList : Nat)) ∧ w = w' := by
  have c0 := (Try.strings_IndexByte (tailS s) 34 w)
  have e0 : (34 : Int).toNat.toUInt8 = 34 := by decide
  rw [e0, tailS_data, index_c] at c0
  have F1 : Hid (tailS s = s.extract 1 s.size) := rfl
  have hq : Hid (quotedN s.data.toList = if atC 34 s.data.toList.tail < s.data.toList.tail.length then atC 34 s.data.toList.tail + 2 else 0) := rfl
  have hl : s.data.toList.tail.length ≤ 1048576 := by rw [List.length_tail, bsize]; omega
  generalize atC 34 s.data.toList.tail = k at *
  generalize s.data.toList.tail.length = n at *
  by_cases hk : k < n
  · rw [if_pos hk] at c0
    have F2 : Hid (quotedN s.data.toList = k + 2) := Lib.hid (by rw [hq.out, if_pos hk])
    rw [F2.out]
    have hk2 : (k : Int) ≤ 1048576 := by omega
    clear hq hk
    go_enter Try.func49, Try.ntmps49
    go_wp2_with (go_at_call 60; (try rw [← F1.out]); refine c0.mono ?_; rintro e w' ⟨rfl, rfl⟩)
    go_ret
    exact ⟨by go_num, rfl⟩
  · rw [if_neg hk] at c0
    have F2 : Hid (quotedN s.data.toList = 0) := Lib.hid (by rw [hq.out, if_neg hk])
    rw [F2.out]
    clear hq hk
    go_enter Try.func49, Try.ntmps49
    go_wp2_with (go_at_call 60; (try rw [← F1.out]); refine c0.mono ?_; rintro e w' ⟨rfl, rfl⟩)
    go_ret
    exact ⟨rfl, rfl⟩

/-- The text behind its first n bytes; its first n bytes. -/
def dropS (n : Nat) (s : ByteArray) : ByteArray := s.extract n s.size
theorem dropS_data (n : Nat) (s : ByteArray) : (dropS n s).data.toList = s.data.toList.drop n := by
  unfold dropS; rw [Lib.extract_data, List.take_of_length_le (by rw [List.length_drop, bsize]; omega)]
theorem dropS_size (n : Nat) (s : ByteArray) : (dropS n s).size = s.size - n := by unfold dropS; rw [ByteArray.size_extract]; omega
theorem quoted_drop (s : ByteArray) (k : Nat) (w : World) (h1 : k < s.size) (hs : s.size ≤ 1048576) : Calls Try.prog 49 #[.string (s.extract k s.size)] w fun e w' => e = .returned (.int .i64 (quotedN (s.data.toList.drop k) : Nat)) ∧ w = w' := by
  have := quoted_any (dropS k s) w (by rw [dropS_size]; omega) (by rw [dropS_size]; omega)
  rw [dropS_data] at this
  exact this
theorem get_of (s : ByteArray) (k : Nat) (h : k < s.size) : s.data.toList[k]? = some s[k] := by
  rw [List.getElem?_eq_getElem (by rw [bsize]; exact h)]; rfl
theorem u8_eq (c d : UInt8) : ((c.toNat : Int) == (d.toNat : Int)) = (c == d) := by
  rw [Bool.eq_iff_iff, beq_iff_eq, beq_iff_eq]
  constructor
  · intro h
    exact UInt8.toNat_inj.1 (by omega)
  · rintro rfl; rfl
set_option maxHeartbeats 1600000 in
theorem piece_any (s : ByteArray) (w : World) (h1 : 0 < s.size) (hs : s.size ≤ 1048576) : Calls Try.prog 30 #[.string s] w fun e w' => e = .returned (.int .i64 (pieceN s.data.toList : Nat)) ∧ w = w' := by
  have hh : s.data.toList.head? = some s[0] := by rw [← get_of s 0 h1]; cases s.data.toList <;> rfl
  have u0 := u8_eq s[0] 40
  have u1 := u8_eq s[0] 41
  have u2 := u8_eq s[0] 34
  simp only [show (UInt8.toNat 40 : Int) = 40 from rfl, show (UInt8.toNat 41 : Int) = 41 from rfl, show (UInt8.toNat 34 : Int) = 34 from rfl] at u0 u1 u2
  by_cases e0 : s[0] = 40
  · have e1 : pieceN s.data.toList = 1 := by unfold pieceN; rw [hh, if_pos (.inl (by rw [e0]))]
    have t0 : ((s[0].toNat : Int) == 40) = true := by rw [u0]; exact beq_iff_eq.2 e0
    rw [e1]
    clear e1 hh u0 u1 u2 e0
    go_enter Try.func30, Try.ntmps30
    go_wp2
    go_ret
    exact ⟨rfl, rfl⟩
  have t0 : ((s[0].toNat : Int) == 40) = false := by rw [u0]; exact beq_eq_false_iff_ne.2 e0
  by_cases e1 : s[0] = 41
  · have e2 : pieceN s.data.toList = 1 := by unfold pieceN; rw [hh, if_pos (.inr (by rw [e1]))]
    have t1 : ((s[0].toNat : Int) == 41) = true := by rw [u1]; exact beq_iff_eq.2 e1
    rw [e2]
    clear e2 hh u0 u1 u2 e0 e1
    go_enter Try.func30, Try.ntmps30
    go_wp2
    go_ret
    exact ⟨rfl, rfl⟩
  have t1 : ((s[0].toNat : Int) == 41) = false := by rw [u1]; exact beq_eq_false_iff_ne.2 e1
  have hno : ¬ (s.data.toList.head? = some 40 ∨ s.data.toList.head? = some 41) := by rw [hh]; simp [e0, e1]
  by_cases e2 : s[0] = 34
  · have e3 : pieceN s.data.toList = quotedN s.data.toList := by unfold pieceN; rw [if_neg hno, hh, e2, if_pos rfl]
    have t2 : ((s[0].toNat : Int) == 34) = true := by rw [u2]; exact beq_iff_eq.2 e2
    have c0 := quoted_any s w (by omega) hs
    rw [e3]
    clear e3 hno hh u0 u1 u2 e0 e1 e2
    generalize quotedN s.data.toList = r at *
    go_enter Try.func30, Try.ntmps30
    go_wp2_with (go_at_call 49; refine c0.mono ?_; rintro e w' ⟨rfl, rfl⟩)
    go_ret
    exact ⟨rfl, rfl⟩
  have t2 : ((s[0].toNat : Int) == 34) = false := by rw [u2]; exact beq_eq_false_iff_ne.2 e2
  have e3 : pieceN s.data.toList = if s.data.toList[endAt s.data.toList]? = some 34 ∧ s.data.toList[endAt s.data.toList - 1]? = some 58 then (if quotedN (s.data.toList.drop (endAt s.data.toList)) = 0 then 0 else endAt s.data.toList + quotedN (s.data.toList.drop (endAt s.data.toList))) else endAt s.data.toList := by
    unfold pieceN; rw [if_neg hno, hh, if_neg (by simpa using e2)]
  have E3 := Lib.hid e3
  have E2 := Lib.hid e2
  have Hend := Lib.hid (findIdx_of ends s.data.toList)
  clear e3 hno hh u0 u1 u2 e0 e1 e2
  go_enter Try.func30, Try.ntmps30
  go_wp2_with fail
  go_loopw [3] (fun i wr => ∃ k : Nat, k ≤ s.size ∧ i = .int .i64 k ∧ w = wr ∧ Hid (∀ x ∈ s.data.toList.take k, ends x = false)) (fun i _ => s.size - (intOf i).toNat)
  case atStart => exact ⟨0, Nat.zero_le _, rfl, rfl, Lib.hid (fun x hx => by simp at hx)⟩
  case round =>
    obtain ⟨k, hk, rfl, rfl, hal⟩ := hrel
    -- behind the loop: what stands at k
    have hk0 : (0 : Int) ≤ (k : Int) := by omega
    by_cases hlt : k < s.size
    · have hts := take_snoc s k hlt
      by_cases he : ends s[k] = true
      · have Hk : Hid (endAt s.data.toList = k) := Lib.hid (Hend.out k hal.out (by rw [bsize]; omega) (fun _ => he))
        have u3 := u8_eq s[k] 34
        rw [show (UInt8.toNat 34 : Int) = 34 from rfl] at u3
        by_cases q : s[k] = 34
        · have t3 : ((s[k].toNat : Int) == 34) = true := by rw [u3]; exact beq_iff_eq.2 q
          obtain ⟨j, rfl⟩ : ∃ j, k = j + 1 := by
            match k with
            | 0 => exact absurd q E2.out
            | j + 1 => exact ⟨j, rfl⟩
          have hj : j < s.size := by omega
          have u4 := u8_eq s[j] 58
          rw [show (UInt8.toNat 58 : Int) = 58 from rfl] at u4
          have g1 := get_of s (j + 1) hlt
          have g2 := get_of s j hj
          have c2 := quoted_drop s (j + 1) w hlt hs
          have hj0 : (0 : Int) ≤ (j : Int) := by omega
          have e8 : ((j + 1 : Nat) : Int) = (j : Int) + 1 := by omega
          by_cases q2 : s[j] = 58
          · have t4 : ((s[j].toNat : Int) == 58) = true := by rw [u4]; exact beq_iff_eq.2 q2
            have E4 : Hid (pieceN s.data.toList = if quotedN (s.data.toList.drop (j + 1)) = 0 then 0 else j + 1 + quotedN (s.data.toList.drop (j + 1))) := Lib.hid (by
              rw [E3.out, Hk.out, Nat.add_sub_cancel, g1, g2, q, q2, if_pos ⟨rfl, rfl⟩])
            have hq := quotedN_le (s.data.toList.drop (j + 1))
            rw [List.length_drop, bsize] at hq
            clear u3 u4 g1 g2 q q2 hts hal Hk E3 Hend
            generalize quotedN (s.data.toList.drop (j + 1)) = r at *
            by_cases hr : r = 0
            · subst hr
              have E5 : Hid (pieceN s.data.toList = 0) := Lib.hid (by rw [E4.out]; rfl)
              clear E4 hq
              go_wp2_with (first | (go_at_call 50; refine (ends_any s[j + 1] _).mono ?_; rintro e w' ⟨rfl, rfl⟩) | (go_at_call 49; refine c2.mono ?_; rintro e w' ⟨rfl, rfl⟩))
              go_ret
              exact ⟨ret_int (by rw [E5.out]; first | rfl | omega), rfl⟩
            · have E5 : Hid (pieceN s.data.toList = j + 1 + r) := Lib.hid (by rw [E4.out, if_neg hr])
              have hr' : ((r : Int) == 0) = false := by rw [beq_eq_false_iff_ne]; omega
              clear E4 hr
              go_wp2_with (first | (go_at_call 50; refine (ends_any s[j + 1] _).mono ?_; rintro e w' ⟨rfl, rfl⟩) | (go_at_call 49; refine c2.mono ?_; rintro e w' ⟨rfl, rfl⟩))
              go_ret
              exact ⟨ret_int (by rw [E5.out]; first | rfl | omega), rfl⟩
          · have t4 : ((s[j].toNat : Int) == 58) = false := by rw [u4]; exact beq_eq_false_iff_ne.2 q2
            have E5 : Hid (pieceN s.data.toList = j + 1) := Lib.hid (by
              rw [E3.out, Hk.out, Nat.add_sub_cancel, g1, g2, if_neg (by simp [q2])])
            clear u3 u4 g1 g2 q q2 hts hal Hk E3 Hend c2
            go_wp2_with (go_at_call 50; refine (ends_any s[j + 1] _).mono ?_; rintro e w' ⟨rfl, rfl⟩)
            go_ret
            exact ⟨ret_int (by rw [E5.out]; omega), rfl⟩
        · have t3 : ((s[k].toNat : Int) == 34) = false := by rw [u3]; exact beq_eq_false_iff_ne.2 q
          have g1 := get_of s k hlt
          have E5 : Hid (pieceN s.data.toList = k) := Lib.hid (by
            rw [E3.out, Hk.out, g1, if_neg (by simp [q])])
          clear u3 g1 q hts hal Hk E3 Hend
          go_wp2_with (go_at_call 50; refine (ends_any s[k] _).mono ?_; rintro e w' ⟨rfl, rfl⟩)
          go_ret
          exact ⟨ret_int (by rw [E5.out]), rfl⟩
      · have he' : ends s[k] = false := by simpa using he
        have Hnx : Hid (∀ x ∈ s.data.toList.take (k + 1), ends x = false) := Lib.hid (fun x hx => by
          rw [hts, List.mem_append] at hx
          rcases hx with hx | hx
          · exact hal.out x hx
          · rw [List.mem_singleton] at hx; rw [hx]; exact he')
        clear hts hal he E3 Hend
        go_wp2_with (go_at_call 50; refine (ends_any s[k] _).mono ?_; rintro e w' ⟨rfl, rfl⟩)
        go_roundw
        case rel => exact ⟨k + 1, by omega, by go_num, by first | rfl | trivial, Hnx⟩
        case measure => simp [intOf]; omega
    · obtain rfl : k = s.size := by omega
      have hn : s.data.toList[s.size]? = none := List.getElem?_eq_none (by rw [bsize]; omega)
      have Hk : Hid (endAt s.data.toList = s.size) := Lib.hid (Hend.out s.size hal.out (by rw [bsize]; omega) (fun h => absurd h (by rw [bsize]; omega)))
      have E5 : Hid (pieceN s.data.toList = s.size) := Lib.hid (by
        rw [E3.out, Hk.out, hn, if_neg (by simp)])
      clear hal hn Hk E3 Hend
      go_wp2
      go_ret
      exact ⟨ret_int (by rw [E5.out]), rfl⟩
end Go.Proofs.Ytceekocfmbcobaa.Qp
end

section
/- qparse.Pieces: the walk. -/
namespace Go.Proofs.Ytceekocfmbcobaa.Qp
open Go.RowKit Go.Proofs.Ytceekocfmbcobaa Go.Proofs.Ytceekocfmbcobaa.Ut Go.Proofs.Ytceekocfmbcobaa.Tk Go.Proofs.Ytceekocfmbcobaa.Qy
set_option maxRecDepth 20000
set_option linter.unusedSimpArgs false

/-- A text's pieces, in a row of the call's own; or none. -/
def PcsPost (w : World) (o : Option (List P)) (e : Ending) (w' : World) : Prop :=
  match o with
  | some l => ∃ v, e = .returned (.tuple #[v, .bool true]) ∧ w'.ownsRow w.heap.size 9 1 v l.length (sv l) ∧ Below w.heap.size w w'
  | none => e = .returned (.tuple #[.slice none 0 0, .bool false]) ∧ Below w.heap.size w w'
def szOf : Value → Nat | .string x => x.size | _ => 0
theorem szOf_str (x : ByteArray) : szOf (.string x) = x.size := rfl
theorem dl_nil (s : ByteArray) (h : s.size = 0) : s.data.toList = [] := List.length_eq_zero_iff.1 (by rw [bsize]; exact h)
theorem dl_cons (s : ByteArray) (h : 0 < s.size) : s.data.toList = s[0] :: s.data.toList.drop 1 := by
  have e : s[0] = s.data.toList[0]'(by rw [bsize]; exact h) := rfl
  rw [e]
  exact (List.drop_eq_getElem_cons (i := 0) (by rw [bsize]; exact h))
set_option maxHeartbeats 1600000 in
theorem pieces_any (s : ByteArray) (w : World) (hs : s.size ≤ 1048576) : Calls Try.prog 12 #[.string s] w (PcsPost w (pieces s.data.toList)) := by
  obtain ⟨i0, hi0, hz0, hz1, hz2⟩ := info_parts str_info
  have Hs := Lib.hid hs
  clear hs
  go_enter Try.func12, Try.ntmps12
  go_wp2_with fail
  go_loopw [0, 4] (fun x v wr => ∃ (r : ByteArray) (acc : List P), x = .string r ∧ r.size ≤ s.size ∧ Hid (pieces s.data.toList = (pieces r.data.toList).map (acc ++ ·)) ∧ acc.length + r.size ≤ 1048576 ∧ Strs w wr v acc) (fun x _ _ => szOf x)
  case atStart => exact ⟨s, [], rfl, Nat.le_refl _, Lib.hid (by simp), by simpa using Hs.out, ⟨World.ownsRow_nil _ _ _ _, Below.refl _ _⟩⟩
  case round =>
    obtain ⟨r0, acc, rfl, hr0, hpc, hac, hT⟩ := hrel
    have HT := Lib.hid hT
    clear hT
    have Ro := Lib.hid (Nat.le_refl r0.size)
    go_wp2_with fail
    go_loopw [0] (fun x wi => ∃ r : ByteArray, x = .string r ∧ r.size ≤ r0.size ∧ Hid (pieces r.data.toList = pieces r0.data.toList) ∧ wr = wi) (fun x _ => szOf x)
    case atStart => exact ⟨r0, rfl, Nat.le_refl _, Lib.hid rfl, rfl⟩
    case round =>
      obtain ⟨r, rfl, hr, hpr, rfl⟩ := hrel
      have Hpc : Hid (pieces s.data.toList = (pieces r.data.toList).map (acc ++ ·)) := Lib.hid (by rw [hpr.out]; exact hpc.out)
      by_cases h0 : r.size = 0
      · have hd := dl_nil r h0
        have hd2 : r.toList = [] := by rw [tl]; exact hd
        have Fin : Hid (pieces s.data.toList = some acc) := Lib.hid (by rw [Hpc.out, hd, pieces_nil]; simp)
        clear hd h0
        go_wp2_with fail
        go_ret2
        exact (by rw [Fin.out]; exact ⟨_, rfl, HT.out.own, HT.out.bel⟩)
      · have h1 : 0 < r.size := by omega
        have hd := dl_cons r h1
        have he1 : r.toList.isEmpty = false := by rw [tl, hd]; rfl
        have u0 := u8_eq r[0] 32
        have u1 := u8_eq r[0] 9
        simp only [show (UInt8.toNat 32 : Int) = 32 from rfl, show (UInt8.toNat 9 : Int) = 9 from rfl] at u0 u1
        have hdp := dropS_data 1 r
        have hds := dropS_size 1 r
        have hb0 : blank r[0] = (r[0] == 32 || r[0] == 9) := rfl
        by_cases hb : blank r[0] = true
        · have Hn : Hid (pieces (dropS 1 r).data.toList = pieces r0.data.toList) := Lib.hid (by rw [hdp, ← hpr.out, hd, pieces_blank _ _ hb]; rfl)
          have hb2 : ((r[0].toNat : Int) == 32) = true ∨ (((r[0].toNat : Int) == 32) = false ∧ ((r[0].toNat : Int) == 9) = true) := by
            rw [u0, u1]
            rw [hb0] at hb
            cases h9 : r[0] == 32 with
            | true => exact .inl rfl
            | false => rw [h9] at hb; exact .inr ⟨rfl, by simpa using hb⟩
          have hdS : Hid (dropS 1 r = r.extract 1 r.size) := rfl
          have hsz : Hid ((r.extract 1 r.size).size = r.size - 1) := Lib.hid (by rw [← hdS.out]; exact hds)
          clear hd u0 u1 hdp hds hb0 hb h0 Hpc hpr
          rcases hb2 with t0 | ⟨t0, t1⟩
          all_goals
            go_wp2_with fail
            go_roundw
            case rel => exact ⟨dropS 1 r, rfl, by rw [hdS.out, hsz.out]; omega, Hn, by first | rfl | trivial⟩
            case measure => simp [szOf]; omega
        · have hb' : blank r[0] = false := by simpa using hb
          have t0 : ((r[0].toNat : Int) == 32) = false := by
            rw [u0]; rw [hb0] at hb'; simp only [Bool.or_eq_false_iff] at hb'; exact hb'.1
          have t1 : ((r[0].toNat : Int) == 9) = false := by
            rw [u1]; rw [hb0] at hb'; simp only [Bool.or_eq_false_iff] at hb'; exact hb'.2
          have c0 := piece_any r wr h1 (by have := Hs.out; omega)
          have hle := pieceN_le r.data.toList
          rw [bsize] at hle
          have hpn : Hid (pieces r.data.toList = if pieceN r.data.toList = 0 then none else (pieces (r.data.toList.drop (pieceN r.data.toList))).map (fun l => r.data.toList.take (pieceN r.data.toList) :: l)) := Lib.hid (by
            have := pieces_cons r[0] (r.data.toList.drop 1) hb'
            rw [← hd] at this
            exact this)
          clear hd u0 u1 hdp hds hb0 hb hb' hpr
          generalize pieceN r.data.toList = n at *
          have hn0 : (0 : Int) ≤ (n : Int) := by omega
          have hn1 : (n : Int) ≤ (r.size : Int) := by omega
          by_cases hn : n = 0
          · have Fin : Hid (pieces s.data.toList = none) := Lib.hid (by rw [Hpc.out, hpn.out, if_pos hn]; rfl)
            subst hn
            clear hpn Hpc
            go_wp2_with (go_at_call 30; refine c0.mono ?_; rintro e w' ⟨rfl, rfl⟩)
            go_ret2
            exact (by rw [Fin.out]; exact ⟨rfl, HT.out.bel⟩)
          · have hn' : ((n : Int) == 0) = false := by rw [beq_eq_false_iff_ne]; omega
            have Hx : Hid (r.extract 0 n = str (r.data.toList.take n)) := Lib.hid (by
              rw [← of_str (r.extract 0 n), Lib.extract_data]; simp)
            have Hn : Hid (pieces s.data.toList = (pieces (dropS n r).data.toList).map ((acc ++ [r.data.toList.take n]) ++ ·)) := Lib.hid (by
              rw [Hpc.out, hpn.out, if_neg hn, dropS_data, Option.map_map]
              congr 1
              funext l
              simp)
            have hdS : Hid (dropS n r = r.extract n r.size) := rfl
            have hds := dropS_size n r
            have Hsz : Hid ((r.extract n r.size).size = r.size - n) := Lib.hid (by rw [← hdS.out]; exact hds)
            have hown := HT.out.own
            have hbs := HT.out.bel.size
            have hnpos : 0 < n := by omega
            clear hpn Hpc hn hds h0
            generalize r.data.toList.take n = x at *
            go_wp2_with (first
              | (go_at_call 30; refine c0.mono ?_; rintro e w' ⟨rfl, rfl⟩)
              | (at_builtin; refine wpList_append_own _ rfl _ _ 23 rfl w.heap.size 9 i0 _ 1 16 Try.underlying23 hi0 hz0 hz1 hz2 rfl (by decide) _ _ _ rfl (hown.alloc _) ⟨wr.heap.size, 0, none⟩ 1 1 [.string (r.extract 0 n)] rfl rfl ?d1 ?d2 ?d3 ?d4 ?d5 ?_))
            case d1 => exact World.news_of_block (cs := #[.string (r.extract 0 n)]) (t := 9) (fr := (0, 0)) (heap_alloc_new wr _)
            case d2 => intro u hu; simp at hu; subst hu; rfl
            case d3 => unfold maxLen; omega
            case d4 => omega
            case d5 => simp; omega
            intro v' w5 hown5 hg5 _
            rw [Hx.out] at hown5
            have HT5 := Lib.hid ((HT.out.below ((Below.refl _ _).alloc (Nat.le_refl _) _)).put hown5 hg5)
            clear hown5 hg5 hown
            go_wp2_with fail
            go_roundw
            case rel => exact ⟨dropS n r, acc ++ [x], rfl, by rw [hdS.out, Hsz.out]; omega, Hn, by rw [hdS.out, Hsz.out, List.length_append, List.length_singleton]; omega, HT5.out⟩
            case measure => simp [szOf, Hsz.out]; omega
end Go.Proofs.Ytceekocfmbcobaa.Qp
end

section
/- Rows and queries whose blocks are of some kind; queries of the call's own. No program. -/
namespace Go.Proofs.Ytceekocfmbcobaa.Qp
open Go.RowKit Go.Proofs.Ytceekocfmbcobaa Go.Proofs.Ytceekocfmbcobaa.Qy

/-- A slice value that reads as a list; its block is one of S. -/
def ReadsS (w : World) (S : Nat → Prop) (size : Nat) (A : Option Addr) (n : Nat) (xs : List Value) : Prop :=
  xs.length = n * size ∧ (0 < n → ∃ b o, A = some ⟨b, o, none⟩ ∧ S b ∧ ∀ j u, xs[j]? = some u → w.cell? ⟨b, o + j, none⟩ = some u)
section
variable {w w' : World} {S S' : Nat → Prop} {size n : Nat} {A : Option Addr} {xs : List Value}
theorem ReadsS.keep (h : ReadsS w S size A n xs) (hk : ∀ b o, S b → w'.cell? ⟨b, o, none⟩ = w.cell? ⟨b, o, none⟩) : ReadsS w' S size A n xs :=
  ⟨h.1, fun hn => by
    obtain ⟨b, o, e, hb, hc⟩ := h.2 hn
    exact ⟨b, o, e, hb, fun j u hu => (hk b _ hb).trans (hc j u hu)⟩⟩
theorem ReadsS.mono (h : ReadsS w S size A n xs) (hS : ∀ b, S b → S' b) : ReadsS w S' size A n xs :=
  ⟨h.1, fun hn => by
    obtain ⟨b, o, e, hb, hc⟩ := h.2 hn
    exact ⟨b, o, e, hS b hb, hc⟩⟩
theorem ReadsS.reads {B : Nat} (h : ReadsS w S size A n xs) (hS : ∀ b, S b → b < B) : Reads w B size A n xs :=
  ⟨h.1, fun hn => by
    obtain ⟨b, o, e, hb, hc⟩ := h.2 hn
    exact ⟨b, o, e, hS b hb, hc⟩⟩
theorem ReadsS.none_ : ReadsS w S size A 0 [] := ⟨by simp, fun h => absurd h (by omega)⟩
theorem ReadsS.of_own {base : Nat} {e : TypeId} {c : Nat} (h : w.ownsRow base e size (.slice A n c) n xs) : ReadsS w (fun b => base ≤ b ∧ b < w.heap.size ∧ (Value.slice A n c).ownBlock = some b) size A n xs := by
  refine ⟨h.1, fun hn => ?_⟩
  have hlt := h.lt
  rcases h.2 with ⟨hv, h0⟩ | ⟨g, cap, cur, hv, _, hg, _⟩
  · omega
  · have hA : A = some ⟨g, 0, none⟩ := by injection hv
    subst hA
    refine ⟨_, _, rfl, ⟨(hlt g rfl).1, (hlt g rfl).2, rfl⟩, fun j u hu => ?_⟩
    have := h.cells (g := g) rfl j u hu
    have hadd : (⟨g, 0, none⟩ : Addr).add j = ⟨g, j, none⟩ := by unfold Addr.add; split <;> simp_all
    rw [hadd] at this
    rw [Nat.zero_add]; exact this
end
/-- A query's four cells, and what lies behind them, in blocks of S. -/
inductive QF (w : World) (S : Nat → Prop) : Q → List Value → Prop
  | mk {k : Int} {nm : ByteArray} {ws : List ByteArray} {l : List Q} {A C : Option Addr} {n c m d : Nat} (vss : List (List Value)) (hn : ws.length = n) (hw : ReadsS w S 1 A n (ws.map Value.string)) (hm : l.length = m) (hv : vss.length = m)
      (h4 : ∀ v ∈ vss, v.length = 4) (hl : ReadsS w S 4 C m vss.flatten) (kids : ∀ i (h : i < l.length) (h' : i < vss.length), QF w S l[i] vss[i]) : QF w S (.mk k nm ws l) [.int .i64 k, .string nm, .slice A n c, .slice C m d]
section
variable {w w' : World} {S S' : Nat → Prop} {q : Q} {vs : List Value}
theorem QF.keep (hk : ∀ b o, S b → w'.cell? ⟨b, o, none⟩ = w.cell? ⟨b, o, none⟩) (h : QF w S q vs) : QF w' S q vs := by
  induction h with
  | mk vss hn hw hm hv h4 hl _ ih => exact .mk vss hn (hw.keep hk) hm hv h4 (hl.keep hk) ih
theorem QF.mono (h : QF w S q vs) (hS : ∀ b, S b → S' b) : QF w S' q vs := by
  induction h with
  | mk vss hn hw hm hv h4 hl _ ih => exact .mk vss hn (hw.mono hS) hm hv h4 (hl.mono hS) ih
theorem QF.at_ {B : Nat} (h : QF w S q vs) (hS : ∀ b, S b → b < B) : QAt w B q vs := by
  induction h with
  | mk vss hn hw hm hv h4 hl _ ih => exact .mk vss hn (hw.reads hS) hm hv h4 (hl.reads hS) ih
theorem QF.len (h : QF w S q vs) : vs.length = 4 := by cases h; rfl
/-- Its four cells. -/
theorem QF.four (h : QF w S q vs) : ∃ A n c C m d, vs = [.int .i64 q.kind, .string q.name, .slice A n c, .slice C m d] := by
  cases h with
  | @mk _ _ _ _ A C n c m d vss hn hw hm hv h4 hl kids => exact ⟨A, n, c, C, m, d, rfl⟩
end
/-- Blocks that are new since base, and none of the row's own. -/
def Kin (base : Nat) (w : World) (v : Value) (b : Nat) : Prop := base ≤ b ∧ b < w.heap.size ∧ v.ownBlock ≠ some b
/-- Queries of the call's own. -/
structure Qs (base : Nat) (w : World) (v : Value) (l : List Q) (vss : List (List Value)) : Prop where
  lv : vss.length = l.length
  own : w.ownsRow base 29 4 v l.length vss.flatten
  kid : ∀ i (h : i < l.length) (h' : i < vss.length), QF w (Kin base w v) l[i] vss[i]
theorem Qs.start (base : Nat) (w : World) : Qs base w (.slice none 0 0) [] [] := ⟨rfl, World.ownsRow_nil _ _ _ _, fun i h => absurd h (by simp)⟩
theorem Qs.four {base : Nat} {w : World} {v : Value} {l : List Q} {vss : List (List Value)} (h : Qs base w v l vss) : ∀ u ∈ vss, u.length = 4 := fun u hu => by
  obtain ⟨j, hj, rfl⟩ := List.mem_iff_getElem.1 hu
  exact (h.kid j (by rw [← h.lv]; exact hj) hj).len
/-- Of the own row, and below base, nothing else is written. -/
theorem Qs.grown {base : Nat} {w w' : World} {v : Value} {l : List Q} {vss : List (List Value)} {row : Option Nat} (h : Qs base w v l vss) (hg : w.grownBy w' row) (hr : ∀ b, row = some b → b < base) : Qs base w' v l vss := by
  refine ⟨h.lv, h.own.kept hg ?_, fun i a b => ?_⟩
  · cases hv : v.ownBlock with
    | none => exact .inl rfl
    | some k =>
      refine .inr (fun e => ?_)
      have := (h.own.lt k hv).1
      have := hr k e.symm
      omega
  · refine ((h.kid i a b).keep fun g o hS => ?_).mono fun g hS => ⟨hS.1, Nat.lt_of_lt_of_le hS.2.1 hg.size, hS.2.2⟩
    refine World.cell?_of_block (hg.block g hS.2.1 (fun e => ?_))
    have := hr g e.symm
    have := hS.1
    omega
theorem Qs.put {base : Nat} {w w' : World} {v v' : Value} {l : List Q} {q : Q} {vss : List (List Value)} {u : List Value} (h : Qs base w v l vss) (hq : QF w (Kin base w v) q u)
    (hp : w'.ownsRow base 29 4 v' (l.length + 1) (vss.flatten ++ u)) (hg : w.grownBy w' v.ownBlock) (hv : v'.ownBlock = v.ownBlock ∨ v'.ownBlock = some w.heap.size) : Qs base w' v' (l ++ [q]) (vss ++ [u]) := by
  have keep : ∀ (q : Q) (u : List Value), QF w (Kin base w v) q u → QF w' (Kin base w' v') q u := fun q u hq => by
    refine (hq.keep fun g o hS => ?_).mono fun g hS => ⟨hS.1, Nat.lt_of_lt_of_le hS.2.1 hg.size, fun e => ?_⟩
    · exact World.cell?_of_block (hg.block g hS.2.1 (fun e => hS.2.2 e.symm))
    · rcases hv with hv | hv
      · exact hS.2.2 (hv.symm.trans e)
      · have h1 : some w.heap.size = some g := hv.symm.trans e
        injection h1 with h1
        have := hS.2.1
        omega
  refine ⟨by simp [h.lv], ?_, fun i a b => ?_⟩
  · rw [List.flatten_append, List.length_append]
    simpa using hp
  · by_cases hi : i < l.length
    · rw [List.getElem_append_left hi, List.getElem_append_left (by rw [h.lv]; exact hi)]
      exact keep _ _ (h.kid i hi (by rw [h.lv]; exact hi))
    · have hi' : i = l.length := by simp at a; omega
      subst hi'
      rw [List.getElem_append_right (by omega), List.getElem_append_right (by rw [h.lv]; omega)]
      simp only [Nat.sub_self, h.lv, List.getElem_cons_zero]
      exact keep _ _ hq
/-- A row of the call's own, as a query's parts. -/
theorem Qs.query {base : Nat} {w : World} {v : Value} {l : List Q} {vss : List (List Value)} (h : Qs base w v l vss) (k : Int) : ∃ C d, v = .slice C l.length d ∧
    QF w (fun b => base ≤ b ∧ b < w.heap.size) (.mk k ByteArray.empty [] l) [.int .i64 k, .string ByteArray.empty, .slice none 0 0, .slice C l.length d] := by
  obtain ⟨C, d, rfl, _⟩ := own_shape h.own
  exact ⟨C, d, rfl, .mk vss rfl (by simpa using ReadsS.none_) rfl h.lv h.four ((ReadsS.of_own h.own).mono fun b hb => ⟨hb.1, hb.2.1⟩) fun i a b => (h.kid i a b).mono fun g hS => ⟨hS.1, hS.2.1⟩⟩
/-- The first of a row of the call's own, as a query. -/
theorem Qs.first {base : Nat} {w : World} {v : Value} {q : Q} {vss : List (List Value)} (h : Qs base w v [q] vss) : ∃ b d A n c C m d', v = .slice (some ⟨b, 0, none⟩) 1 d ∧ b < w.heap.size ∧ base ≤ b ∧
    w.cell? ⟨b, 0, none⟩ = some (.int .i64 q.kind) ∧ w.cell? ⟨b, 1, none⟩ = some (.string q.name) ∧ w.cell? ⟨b, 2, none⟩ = some (.slice A n c) ∧ w.cell? ⟨b, 3, none⟩ = some (.slice C m d') ∧
    QF w (fun b => base ≤ b ∧ b < w.heap.size) q [.int .i64 q.kind, .string q.name, .slice A n c, .slice C m d'] := by
  obtain ⟨A0, d, rfl, _⟩ := own_shape h.own
  have hlv := h.lv
  obtain ⟨u, rfl⟩ : ∃ u, vss = [u] := List.length_eq_one_iff.1 hlv
  have hq := (h.kid 0 (by simp) (by simp)).mono (S' := fun b => base ≤ b ∧ b < w.heap.size) fun g hS => ⟨hS.1, hS.2.1⟩
  simp only [List.getElem_cons_zero] at hq
  obtain ⟨A, n, c, C, m, d', rfl⟩ := hq.four
  have hS := ReadsS.of_own h.own
  obtain ⟨b, o, e, hb, hc⟩ := hS.2 (by simp)
  have ho : o = 0 := by
    rcases h.own.2 with ⟨hv, h0⟩ | ⟨g, cap, cur, hv, _⟩
    · simp at h0
    · injection hv with hv
      rw [e] at hv
      injection hv with hv
      injection hv
  subst ho
  subst e
  have c0 := hc 0 (.int .i64 q.kind) rfl
  have c1 := hc 1 (.string q.name) rfl
  have c2 := hc 2 (.slice A n c) rfl
  have c3 := hc 3 (.slice C m d') rfl
  exact ⟨b, d, A, n, c, C, m, d', rfl, hb.2.1, hb.1, c0, c1, c2, c3, hq⟩

/-- Frames, one behind the other: of the blocks that were there, one alone is written. -/
theorem grownBy_trans {w w1 w2 : World} {row : Option Nat} (h : w.grownBy w1 row) (k : w1.grownBy w2 row) : w.grownBy w2 row :=
  ⟨k.os.trans h.os, k.tape.trans h.tape, k.output.trans h.output, Nat.le_trans h.size k.size, fun i hi hr => (k.block i (Nat.lt_of_lt_of_le hi h.size) hr).trans (h.block i hi hr)⟩
theorem grownBy_new {w w1 w2 : World} {row row2 : Option Nat} (h : w.grownBy w1 row) (k : w1.grownBy w2 row2) (hn : ∀ b, row2 = some b → w.heap.size ≤ b) : w.grownBy w2 row :=
  ⟨k.os.trans h.os, k.tape.trans h.tape, k.output.trans h.output, Nat.le_trans h.size k.size, fun i hi hr => (k.block i (Nat.lt_of_lt_of_le hi h.size) (fun e => by have := hn i e.symm; omega)).trans (h.block i hi hr)⟩
theorem grownBy_refl (w : World) (row : Option Nat) : w.grownBy w row := ⟨rfl, rfl, rfl, Nat.le_refl _, fun _ _ _ => rfl⟩
theorem grownBy_below {w w1 w2 : World} {row : Option Nat} (h : w.grownBy w1 row) (k : Below w1.heap.size w1 w2) : w.grownBy w2 row := grownBy_trans h (grow_of_below k row)
theorem grownBy_set (w : World) (g : Nat) (i : Nat) (u : Value) : w.grownBy (w.setCell ⟨g, i, none⟩ u) (some g) :=
  ⟨rfl, rfl, rfl, by simp [World.setCell], fun k _ hk => Below.heap_setCell _ _ _ _ (fun e => hk (by rw [e]))⟩
/-- What is written is new: nothing that was there has turned. -/
theorem below_of_grown {w w1 w2 : World} {g : Nat} (h : Below w.heap.size w w1) (k : w1.grownBy w2 (some g)) (hg : w.heap.size ≤ g) : Below w.heap.size w w2 :=
  h.grown k h.size (fun b e => by injection e with e; omega)
end Go.Proofs.Ytceekocfmbcobaa.Qp
end
