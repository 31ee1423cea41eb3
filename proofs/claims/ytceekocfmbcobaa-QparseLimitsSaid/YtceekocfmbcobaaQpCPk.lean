/- loggiaref17: quoted, plain: the walks. -/
import Derived.Test.YtceekocfmbcobaaPkQparseReadsRow16
namespace Go.Proofs.Ytceekocfmbcobaa.Qp
open Go.RowKit Go.Proofs.Ytceekocfmbcobaa Go.Proofs.Ytceekocfmbcobaa.Ut Go.Proofs.Ytceekocfmbcobaa.Tk Go.Proofs.Ytceekocfmbcobaa.Qy
set_option maxRecDepth 20000
set_option linter.unusedSimpArgs false

/-- What is read behind a quote at a place. -/
def qtV (a : Nat) (n : Nat) : Value := if n = 0 then .tuple #[.int .i64 0, .bool false] else .tuple #[.int .i64 ((a + n : Nat) : Int), .bool true]
theorem qtV_no (a : Nat) : qtV a 0 = .tuple #[.int .i64 0, .bool false] := rfl
theorem qtV_yes (a n : Nat) (h : n ≠ 0) : qtV a n = .tuple #[.int .i64 ((a + n : Nat) : Int), .bool true] := if_neg h
theorem tup_int {k : IntKind} {a b : Int} {c : Bool} (h : a = b) : Ending.returned (.tuple #[.int k a, .bool c]) = .returned (.tuple #[.int k b, .bool c]) := by rw [h]
theorem quotedN_drop (l : P) (a : Nat) : quotedN (l.drop a) = if atC 34 (l.drop (a + 1)) < (l.drop (a + 1)).length then atC 34 (l.drop (a + 1)) + 2 else 0 := by
  unfold quotedN
  rw [List.tail_drop]; rfl
set_option maxHeartbeats 800000 in
theorem quoted_ref (s : ByteArray) (a : Nat) (w : World) (ha : a < s.size) (hs : s.size ≤ 1048576) : Calls Try.prog 31 #[.string s, .int .i64 (a : Int)] w fun e w' => e = .returned (qtV a (quotedN (s.data.toList.drop a))) ∧ w = w' := by
  have hq : Hid (quotedN (s.data.toList.drop a) = if atC 34 (s.data.toList.drop (a + 1)) < (s.data.toList.drop (a + 1)).length then atC 34 (s.data.toList.drop (a + 1)) + 2 else 0) := Lib.hid (quotedN_drop _ _)
  have hl : Hid ((s.data.toList.drop (a + 1)).length = s.size - (a + 1)) := Lib.hid (by rw [List.length_drop, bsize])
  have Hend := Lib.hid (findIdx_of (· == 34) (s.data.toList.drop (a + 1)))
  have ha0 : (0 : Int) ≤ (a : Int) := by omega
  go_enter Try.func31, Try.ntmps31
  go_wp2_with fail
  go_loopw [6] (fun i wr => ∃ j : Nat, a + 1 + j ≤ s.size ∧ i = .int .i64 ((a + 1 + j : Nat) : Int) ∧ w = wr ∧ Hid (∀ x ∈ (s.data.toList.drop (a + 1)).take j, (x == 34) = false)) (fun i _ => s.size - (intOf i).toNat)
  case atStart => exact ⟨0, by omega, by go_num, rfl, Lib.hid (fun x hx => by simp at hx)⟩
  case round =>
    obtain ⟨j, hj, rfl, rfl, hal⟩ := hrel
    have g0 : (0 : Int) ≤ ((a + 1 + j : Nat) : Int) := by omega
    by_cases hlt : a + 1 + j < s.size
    · have hg : (s.data.toList.drop (a + 1))[j]? = some s[a + 1 + j] := by rw [List.getElem?_drop]; exact get_of s _ hlt
      have u0 := u8_eq s[a + 1 + j] 34
      rw [show (UInt8.toNat 34 : Int) = 34 from rfl] at u0
      have hjl : j < (s.data.toList.drop (a + 1)).length := by rw [hl.out]; omega
      have hge : (s.data.toList.drop (a + 1))[j] = s[a + 1 + j] := by
        have := List.getElem?_eq_getElem hjl
        rw [hg] at this
        injection this with this
        exact this.symm
      by_cases q : s[a + 1 + j] = 34
      · have t0 : ((s[a + 1 + j].toNat : Int) == 34) = true := by rw [u0]; exact beq_iff_eq.2 q
        have Fin : Hid (quotedN (s.data.toList.drop a) = j + 2) := Lib.hid (by
          have e : atC 34 (s.data.toList.drop (a + 1)) = j := Hend.out j hal.out (by omega) (fun h => by rw [hge, q]; rfl)
          rw [hq.out, e, if_pos hjl])
        clear hg u0 hjl hge q hal Hend hq hl
        go_wp2_with fail
        go_ret2
        exact ⟨by rw [Fin.out, qtV_yes _ _ (by omega)]; exact tup_int (by omega), rfl⟩
      · have t0 : ((s[a + 1 + j].toNat : Int) == 34) = false := by rw [u0]; exact beq_eq_false_iff_ne.2 q
        have Hnx : Hid (∀ x ∈ (s.data.toList.drop (a + 1)).take (j + 1), (x == 34) = false) := Lib.hid (fun x hx => by
          rw [List.take_succ_eq_append_getElem hjl, List.mem_append] at hx
          rcases hx with hx | hx
          · exact hal.out x hx
          · rw [List.mem_singleton] at hx; rw [hx, hge]; exact beq_eq_false_iff_ne.2 q)
        clear hg u0 hjl hge q hal Hend hq hl
        go_wp2_with fail
        go_roundw
        case rel => exact ⟨j + 1, by omega, by go_num, by first | rfl | trivial, Hnx⟩
        case measure => simp [intOf]; omega
    · have Fin : Hid (quotedN (s.data.toList.drop a) = 0) := Lib.hid (by
        have e : atC 34 (s.data.toList.drop (a + 1)) = j := Hend.out j hal.out (by rw [hl.out]; omega) (fun h => absurd h (by rw [hl.out]; omega))
        rw [hq.out, e, if_neg (by rw [hl.out]; omega)])
      clear hal Hend hq hl
      go_wp2_with fail
      go_ret2
      exact ⟨by rw [Fin.out, qtV_no]; rfl, rfl⟩
theorem plain_ref (c : UInt8) (w : World) : Calls Try.prog 32 #[.int .u8 (c.toNat : Int)] w fun e w' => e = .returned (.bool (!ends c)) ∧ w = w' := by
  have u0 := u8_eq c 32
  have u1 := u8_eq c 9
  have u2 := u8_eq c 40
  have u3 := u8_eq c 41
  have u4 := u8_eq c 34
  simp only [show (UInt8.toNat 34 : Int) = 34 from rfl, show (UInt8.toNat 41 : Int) = 41 from rfl, show (UInt8.toNat 40 : Int) = 40 from rfl, show (UInt8.toNat 32 : Int) = 32 from rfl, show (UInt8.toNat 9 : Int) = 9 from rfl] at u0 u1 u2 u3 u4
  have he : ends c = (((c.toNat : Int) == 32) || ((c.toNat : Int) == 9) || ((c.toNat : Int) == 40) || ((c.toNat : Int) == 41) || ((c.toNat : Int) == 34)) := by
    rw [u0, u1, u2, u3, u4]; rfl
  rw [he]
  clear u0 u1 u2 u3 u4 he
  generalize (c.toNat : Int) = z
  by_cases h0 : z = 32
  · subst h0
    go_enter Try.func32, Try.ntmps32
    go_wp2
    go_ret
    exact ⟨rfl, rfl⟩
  by_cases h1 : z = 9
  · subst h1
    go_enter Try.func32, Try.ntmps32
    go_wp2
    go_ret
    exact ⟨rfl, rfl⟩
  by_cases h2 : z = 40
  · subst h2
    go_enter Try.func32, Try.ntmps32
    go_wp2
    go_ret
    exact ⟨rfl, rfl⟩
  by_cases h3 : z = 41
  · subst h3
    go_enter Try.func32, Try.ntmps32
    go_wp2
    go_ret
    exact ⟨rfl, rfl⟩
  by_cases h4 : z = 34
  · subst h4
    go_enter Try.func32, Try.ntmps32
    go_wp2
    go_ret
    exact ⟨rfl, rfl⟩
  have t0 : (z != 32) = true := by simpa using h0
  have t1 : (z != 9) = true := by simpa using h1
  have t2 : (z != 40) = true := by simpa using h2
  have t3 : (z != 41) = true := by simpa using h3
  have t4 : (z != 34) = true := by simpa using h4
  go_enter Try.func32, Try.ntmps32
  go_wp2
  go_ret
  exact ⟨by simp [h0, h1, h2, h3, h4], rfl⟩
end Go.Proofs.Ytceekocfmbcobaa.Qp
