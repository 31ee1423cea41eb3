/- loggialaw17.QparseLimits: the walk (printed by gen_qpl.py). -/
import Derived.Test.YtceekocfmbcobaaPkQparseLimitsRow0
import Derived.Test.YtceekocfmbcobaaQpZPk
section
namespace Go.Proofs.Ytceekocfmbcobaa.Qp
open Go.RowKit Go.Proofs.Ytceekocfmbcobaa Go.Proofs.Ytceekocfmbcobaa.Ut Go.Proofs.Ytceekocfmbcobaa.Tk Go.Proofs.Ytceekocfmbcobaa.Qy
set_option maxRecDepth 20000
set_option linter.unusedSimpArgs false
set_option linter.unusedVariables false

theorem nots_str (k : Nat) : str (nots k) ++ ⟨#[78, 79, 84, 32]⟩ = str (nots (k + 1)) := by
  have e1 : (⟨#[78, 79, 84, 32]⟩ : ByteArray) = str [78, 79, 84, 32] := rfl
  rw [e1, str_app, nots_snoc]
theorem nots_end (k : Nat) : (str (nots k) ++ ⟨#[97]⟩).data.toList = nots k ++ [97] := by
  have e1 : (⟨#[97]⟩ : ByteArray) = str [97] := rfl
  rw [e1, str_app, str_data]
theorem ors_str (k : Nat) : str (97 :: ors k) ++ ⟨#[32, 79, 82, 32, 98]⟩ = str (97 :: ors (k + 1)) := by
  have e1 : (⟨#[32, 79, 82, 32, 98]⟩ : ByteArray) = str [32, 79, 82, 32, 98] := rfl
  rw [e1, str_app, ors_snoc]; rfl
theorem u8q_info : (Try.prog.info? 5).map (fun i => (i.zero, i.size, i.bytes)) = some (some (.int .u8 0), 1, 1) := by kernel_rfl
/-- The row that is being filled. -/
def am (n k : Nat) : Array Value := (List.replicate k (Value.int .u8 97) ++ List.replicate (n - k) (Value.int .u8 0)).toArray
theorem am_zero (n : Nat) : madeCells (Value.int .u8 0).cells n = am n 0 := by
  apply Array.ext
  · simp [size_madeCells, am, Value.cells]
  · intro i h1 h2
    simp [madeCells, am, Value.cells, Nat.mod_one]
theorem am_at (n k : Nat) (h : k < n) : (am n k)[k]? = some (.int .u8 0) := by
  unfold am
  rw [List.getElem?_toArray, List.getElem?_append_right (by rw [List.length_replicate]; exact Nat.le_refl _), List.length_replicate, Nat.sub_self, List.getElem?_replicate, if_pos (by omega)]
theorem am_set (n k : Nat) (h : k < n) : (am n k).setIfInBounds k (.int .u8 97) = am n (k + 1) := by
  unfold am
  obtain ⟨d, rfl⟩ : ∃ d, n = k + 1 + d := ⟨n - (k + 1), by omega⟩
  have e1 : k + 1 + d - k = d + 1 := by omega
  have e2 : k + 1 + d - (k + 1) = d := by omega
  rw [e1, e2, List.setIfInBounds_toArray, List.set_append_right _ _ (by rw [List.length_replicate]; exact Nat.le_refl _), List.length_replicate, Nat.sub_self, List.replicate_succ (n := d), List.set_cons_zero, List.replicate_succ' (n := k), List.append_assoc]
  rfl
theorem am_all (n j : Nat) (h : j < n) : (am n n)[j]? = some (.int .u8 97) := by
  unfold am
  rw [Nat.sub_self, List.replicate_zero, List.append_nil, List.getElem?_toArray, List.getElem?_replicate, if_pos h]
theorem am_run (n : Nat) (hn : n ≤ 131072) (w : World) : (Instr.makeSlice 41 (.int .i64 (n : Int)) (.int .i64 (n : Int))).run Try.prog w =
    .ok (.slice (some ⟨w.heap.size, 0, none⟩) n n) (w.alloc (.cells (am n 0) 5)) := by
  obtain ⟨i0, hi, hz0, hz1, hz2⟩ := info_parts u8q_info
  have h := run_make (P := Try.prog) w 41 5 i0 _ Try.underlying41 hi hz0 .i64 .i64 n n (by omega) (by omega) (by rw [hz2]; omega) (by omega)
  rw [h, hz1]
  simp [am_zero]
set_option maxHeartbeats 12800000 in
theorem limits_walk (n m : Nat) (w : World) (hn : n < 256) (hm : m < 256) : Calls Try.prog 6 #[.int .u8 (n : Int), .int .u8 (m : Int)] w fun e w' => e = .returned (.bool true) ∧ Below w.heap.size w w' := by
  have Hb := Lib.hid (Below.refl w.heap.size w)
  have hk : n % 40 < 40 := Nat.mod_lt _ (by decide)
  have hj : m % 50 < 50 := Nat.mod_lt _ (by decide)
  obtain ⟨E1, o1, hp1, hc1⟩ := deep_prs (n % 40) hk
  obtain ⟨E2, o2, hp2, hc2⟩ := many_prs (m % 50) hj
  obtain ⟨E3, o3, hp3, hc3⟩ := long_prs (m % 3) (Nat.mod_lt _ (by decide))
  have HP1 := Lib.hid hp1
  have HP2 := Lib.hid hp2
  have HP3 := Lib.hid hp3
  have HC1 := Lib.hid hc1
  have HC2 := Lib.hid hc2
  have HC3 := Lib.hid hc3
  clear hp1 hp2 hp3 hc1 hc2 hc3
  go_enter Try.func6, Try.ntmps6
  go_wp2_with fail
  go_loopw [6, 7] (fun a i wr => ∃ k : Nat, k ≤ n % 40 ∧ i = .int .i64 k ∧ a = .string (str (nots k)) ∧ wr = w) (fun _ i _ => n % 40 - (intOf i).toNat)
  case atStart => exact ⟨0, Nat.zero_le _, rfl, rfl, rfl⟩
  case round =>
    obtain ⟨k, hk2, rfl, rfl, hww⟩ := hrel
    replace hww := hww.symm
    subst hww
    have hz : (str (nots k)).size ≤ 200 := by rw [str_size, nots_len]; omega
    by_cases hlt : k < n % 40
    · have Hs := Lib.hid (nots_str k)
      generalize str (nots k) = y at *
      go_wp2
      go_roundw
      case rel => exact ⟨k + 1, by omega, by go_num, by rw [← Hs.out], by first | trivial | rfl⟩
      case measure => simp [intOf]; omega
    · obtain rfl : k = n % 40 := by omega
      have cp : Calls Try.prog 14 #[.string (str (nots (n % 40)) ++ ⟨#[97]⟩)] w (ParPost w (nots (n % 40) ++ [97])) := by
        have h := parse_any (str (nots (n % 40)) ++ ⟨#[97]⟩) w
        have e : (str (nots (n % 40)) ++ ⟨#[97]⟩).data.toList = nots (n % 40) ++ [97] := nots_end _
        rw [e] at h
        exact h
      go_wp2_with fail
      refine cp.mono ?_
      rintro e w1 ⟨E, oo, p0, p1, p2, p3, hp, rfl, hF, hb⟩
      clear cp
      obtain ⟨hEE, hoo⟩ := hp.det HP1.out
      replace hEE := hEE.symm
      replace hoo := hoo.symm
      subst hEE hoo
      obtain ⟨A1, n1, k1, C1, m1, d1, e4⟩ := hF.four
      simp only [List.cons.injEq, and_true] at e4
      obtain ⟨rfl, rfl, rfl, rfl⟩ := e4
      generalize hq : o1.getD noQ = q1 at *
      have Hq1 := Lib.hid hq
      clear hq
      have hba := (Below.refl w1.heap.size w1).alloc (Nat.le_refl _) (.cells #[.int .i64 (q1).kind, .string (q1).name, .slice A1 n1 k1, .slice C1 m1 d1] 29)
      have HF1 := Lib.hid (hF.grow hba)
      have HB1 := Lib.hid (Blk.new w1 29 #[.int .i64 (q1).kind, .string (q1).name, .slice A1 n1 k1, .slice C1 m1 d1])
      have hz1 : w1.heap.size < (w1.alloc (.cells #[.int .i64 (q1).kind, .string (q1).name, .slice A1 n1 k1, .slice C1 m1 d1] 29)).heap.size := by simp
      replace Hb := Lib.hid ((Hb.out.trans (hb.mono Hb.out.size)).trans (hba.mono (Nat.le_trans Hb.out.size hb.size)))
      clear hp hF hb hba
      go_wp2_with fail
      generalize hw : w1.alloc (.cells #[.int .i64 (q1).kind, .string (q1).name, .slice A1 n1 k1, .slice C1 m1 d1] 29) = w2 at *
      clear hw
      clear hz hlt hk2
      go_loopw [10, 12] (fun a i wx => ∃ k : Nat, k ≤ m % 50 ∧ i = .int .i64 k ∧ a = .string (str (97 :: ors k)) ∧ wx = w2) (fun _ i _ => m % 50 - (intOf i).toNat)
      case atStart => exact ⟨0, Nat.zero_le _, rfl, rfl, rfl⟩
      case round =>
        obtain ⟨k, hk2, rfl, rfl, hww⟩ := hrel
        replace hww := hww.symm
        subst hww
        have hz : (str (97 :: ors k)).size ≤ 300 := by rw [str_size, List.length_cons, ors_len]; omega
        by_cases hlt : k < m % 50
        · have Hs := Lib.hid (ors_str k)
          generalize str (97 :: ors k) = y at *
          go_wp2
          go_roundw
          case rel => exact ⟨k + 1, by omega, by go_num, by rw [← Hs.out], by first | trivial | rfl⟩
          case measure => simp [intOf]; omega
        · obtain rfl : k = m % 50 := by omega
          have cp : Calls Try.prog 14 #[.string (str (97 :: ors (m % 50)))] w2 (ParPost w2 (97 :: ors (m % 50))) := by
            have h := parse_any (str (97 :: ors (m % 50))) w2
            have e : (str (97 :: ors (m % 50))).data.toList = 97 :: ors (m % 50) := str_data _
            rw [e] at h
            exact h
          go_wp2_with fail
          refine cp.mono ?_
          rintro e w3 ⟨E, oo, p0, p1, p2, p3, hp, rfl, hF, hb⟩
          clear cp
          obtain ⟨hEE, hoo⟩ := hp.det HP2.out
          replace hEE := hEE.symm
          replace hoo := hoo.symm
          subst hEE hoo
          obtain ⟨A2, n2, k2, C2, m2, d2, e4⟩ := hF.four
          simp only [List.cons.injEq, and_true] at e4
          obtain ⟨rfl, rfl, rfl, rfl⟩ := e4
          generalize hq : o2.getD noQ = q2 at *
          have Hq2 := Lib.hid hq
          clear hq
          have hba := (Below.refl w3.heap.size w3).alloc (Nat.le_refl _) (.cells #[.int .i64 (q2).kind, .string (q2).name, .slice A2 n2 k2, .slice C2 m2 d2] 29)
          have HF2 := Lib.hid (hF.grow hba)
          have HB2 := Lib.hid (Blk.new w3 29 #[.int .i64 (q2).kind, .string (q2).name, .slice A2 n2 k2, .slice C2 m2 d2])
          have hz2 : w3.heap.size < (w3.alloc (.cells #[.int .i64 (q2).kind, .string (q2).name, .slice A2 n2 k2, .slice C2 m2 d2] 29)).heap.size := by simp
          replace Hb := Lib.hid ((Hb.out.trans (hb.mono Hb.out.size)).trans (hba.mono (Nat.le_trans Hb.out.size hb.size)))
          clear hp hF hb hba
          go_upto_region 15 with (fail)
          generalize hw : w3.alloc (.cells #[.int .i64 (q2).kind, .string (q2).name, .slice A2 n2 k2, .slice C2 m2 d2] 29) = w4 at *
          clear hw
          clear hz hlt hk2 HF1 HB1 HF2 HB2 hz1 hz2 HP1 HP2 Hq1 Hq2
          have hmk : ∀ wz : World, (Instr.makeSlice 41 (.int .i64 (1024 + (m : Int) % 3)) (.int .i64 (1024 + (m : Int) % 3))).run Try.prog wz = .ok (.slice (some ⟨wz.heap.size, 0, none⟩) ((1024 + m % 3 : Nat)) ((1024 + m % 3 : Nat))) (wz.alloc (.cells (am (1024 + m % 3) 0) 5)) := fun wz => by
            have e : (1024 + (m : Int) % 3) = ((1024 + m % 3 : Nat) : Int) := by omega
            rw [e]; exact am_run _ (by omega) wz
          have hN : 1024 + m % 3 ≤ 1026 := by omega
          generalize hNN : 1024 + m % 3 = N at *
          go_wp2_with fail
          go_loopw [16] (fun i wx => ∃ k : Nat, k ≤ N ∧ i = .int .i64 k ∧ Blk wx w4.heap.size 5 (am N k) ∧ Below w.heap.size w wx) (fun i _ => N - (intOf i).toNat)
          case atStart => exact ⟨0, Nat.zero_le _, rfl, Blk.new _ _ _, Hb.out.alloc Hb.out.size _⟩
          case round =>
            obtain ⟨k, hk2, rfl, hB, hb⟩ := hrel
            have HB := Lib.hid hB
            have Hc := Lib.hid hb
            by_cases hlt : k < N
            · have hc := (hB.cell k).trans (am_at N k hlt)
              have hf := hB.frozen k
              have Hs := Lib.hid (am_set N k hlt)
              have hle := Hb.out.size
              clear hB hb
              go_wp2
              go_roundw
              case rel => exact ⟨k + 1, by omega, by go_num, by rw [← Hs.out]; exact HB.out.set_ k _, Hc.out.setCell (p := ⟨w4.heap.size, k, none⟩) hle _⟩
              case measure => simp [intOf]; omega
            · obtain rfl : k = N := by omega
              have hcv : (convert 41 9 (.slice (some ⟨w4.heap.size, 0, none⟩) k k)).run Try.prog wr = .ok (.string (str (aN k))) wr := by
                have h := run_convert_bytes_back wr 41 9 5 ⟨w4.heap.size, 0, none⟩ k (aN k) Try.underlying41 Try.underlying5 Try.underlying9 fun j hj => by
                  have hj2 : j < k := by simpa [aN] using hj
                  have e : (⟨w4.heap.size, 0, none⟩ : Addr).add j = ⟨w4.heap.size, j, none⟩ := by unfold Addr.add; split <;> simp_all
                  rw [e, hB.cell, am_all k j hj2]; simp [aN]
                have e2 : (aN k).length = k := by simp [aN]
                rw [e2] at h
                exact h
              have hkz : (str (aN k)).size ≤ 1026 := by rw [str_size, aN, List.length_replicate]; exact hN
              replace Hb := Hc
              clear hB hb hmk HB Hc hk2 hlt
              have cp : Calls Try.prog 14 #[.string (str (aN k))] wr (ParPost wr (aN k)) := by
                have h := parse_any (str (aN k)) wr
                have e : (str (aN k)).data.toList = aN k := str_data _
                rw [e] at h
                exact h
              go_wp2_with fail
              refine cp.mono ?_
              rintro e w5 ⟨E, oo, p0, p1, p2, p3, hp, rfl, hF, hb⟩
              clear cp
              obtain ⟨hEE, hoo⟩ := hp.det HP3.out
              replace hEE := hEE.symm
              replace hoo := hoo.symm
              subst hEE hoo
              obtain ⟨A3, n3, k3, C3, m3, d3, e4⟩ := hF.four
              simp only [List.cons.injEq, and_true] at e4
              obtain ⟨rfl, rfl, rfl, rfl⟩ := e4
              generalize hq : o3.getD noQ = q3 at *
              have Hq3 := Lib.hid hq
              clear hq
              have hba := (Below.refl w5.heap.size w5).alloc (Nat.le_refl _) (.cells #[.int .i64 (q3).kind, .string (q3).name, .slice A3 n3 k3, .slice C3 m3 d3] 29)
              have HF3 := Lib.hid (hF.grow hba)
              have HB3 := Lib.hid (Blk.new w5 29 #[.int .i64 (q3).kind, .string (q3).name, .slice A3 n3 k3, .slice C3 m3 d3])
              have hz3 : w5.heap.size < (w5.alloc (.cells #[.int .i64 (q3).kind, .string (q3).name, .slice A3 n3 k3, .slice C3 m3 d3] 29)).heap.size := by simp
              replace Hb := Lib.hid ((Hb.out.trans (hb.mono Hb.out.size)).trans (hba.mono (Nat.le_trans Hb.out.size hb.size)))
              clear hp hF hb hba
              go_upto_region 21 with (fail)
              generalize hw : w5.alloc (.cells #[.int .i64 (q3).kind, .string (q3).name, .slice A3 n3 k3, .slice C3 m3 d3] 29) = w6 at *
              clear hw
              rcases HC3.out with ⟨rfl, rfl, c3⟩ | ⟨rfl, rfl, c3⟩
              · have hq3 : lq = q3 := Hq3.out
                subst hq3
                obtain ⟨WA, mm, wc, CA, nn, c2, e, hI⟩ := (HF3.out.at_ fun b hS => hS.2).is
                simp only [List.cons.injEq, and_true] at e
                obtain ⟨he0, he1, he2, he3⟩ := e
                injection he2 with f1 f2 f3
                subst f1 f2 f3
                have hn1 : n3 = 1 := hI.wn.symm
                subst hn1
                obtain ⟨b0, o0, u0, rfl, hb0, hu0, hc0⟩ := Reads.at_ hI.wds (k := 0) (by decide)
                have hu1 : u0 = .string (str (aN 32)) := by simpa [lq, eq_comm] using hu0
                subst hu1
                rw [Nat.add_zero] at hc0
                have hs32 : (str (aN 32)).size = 32 := by rw [str_size]; decide
                obtain ⟨x0, x1, x2, x3, _, _, _, _⟩ := HB3.out.four
                have i3 : ¬ (1024 : Int) < (k : Int) := by omega
                clear hu0 hI he0 he1 he3 HF3 HB3 HP3 HC3 Hq3 hcv
                generalize str (aN 32) = t32 at *
                rcases HC1.out with ⟨rfl, d1⟩ | ⟨rfl, d1⟩ <;> rcases HC2.out with ⟨rfl, d2⟩ | ⟨rfl, d2⟩
                all_goals
                  first | have i1 : (n : Int) % 40 < 16 := by omega | have i1 : ¬ (n : Int) % 40 < 16 := by omega
                  first | have i2 : (m : Int) % 50 < 32 := by omega | have i2 : ¬ (m : Int) % 50 < 32 := by omega
                  clear HC1 HC2 hNN
                  have ca := awake17 w6
                  go_wp2_with fail
                  refine ca.mono ?_
                  rintro e wa ⟨rfl, ha⟩
                  have Ha := Lib.hid (Hb.out.trans (ha.mono Hb.out.size))
                  clear ca ha
                  go_wp2_with fail
                  go_ret
                  exact ⟨rfl, Ha.out⟩
              · have i3 : (1024 : Int) < (k : Int) := by omega
                clear HF3 HB3 HP3 HC3 Hq3 hcv
                rcases HC1.out with ⟨rfl, d1⟩ | ⟨rfl, d1⟩ <;> rcases HC2.out with ⟨rfl, d2⟩ | ⟨rfl, d2⟩
                all_goals
                  first | have i1 : (n : Int) % 40 < 16 := by omega | have i1 : ¬ (n : Int) % 40 < 16 := by omega
                  first | have i2 : (m : Int) % 50 < 32 := by omega | have i2 : ¬ (m : Int) % 50 < 32 := by omega
                  clear HC1 HC2 hNN
                  have ca := awake17 w6
                  go_wp2_with fail
                  refine ca.mono ?_
                  rintro e wa ⟨rfl, ha⟩
                  have Ha := Lib.hid (Hb.out.trans (ha.mono Hb.out.size))
                  clear ca ha
                  go_wp2_with fail
                  go_ret
                  exact ⟨rfl, Ha.out⟩
end Go.Proofs.Ytceekocfmbcobaa.Qp
end

section
/- loggialaw17.QparseLimits: the walk, at any two bytes. -/
namespace Go.Proofs.Ytceekocfmbcobaa.Qp
open Go.RowKit Go.Proofs.Ytceekocfmbcobaa Go.Proofs.Ytceekocfmbcobaa.Ut Go.Proofs.Ytceekocfmbcobaa.Tk Go.Proofs.Ytceekocfmbcobaa.Qy
theorem u8_nat {z : Int} (h : (Lit.int .u8 z).wf = true) : ∃ n : Nat, n < 256 ∧ z = (n : Int) := by
  have : IntKind.u8.min ≤ z ∧ z ≤ IntKind.u8.max := by simpa [Lit.wf] using h
  have e1 : IntKind.u8.min = 0 := rfl
  have e2 : IntKind.u8.max = 255 := rfl
  exact ⟨z.toNat, by omega, by omega⟩
theorem limits_any (a b : Int) (w : World) (ha : (Lit.int .u8 a).wf = true) (hb : (Lit.int .u8 b).wf = true) : Calls Try.prog 6 #[.int .u8 a, .int .u8 b] w fun e w' => e = .returned (.bool true) ∧ Below w.heap.size w w' := by
  obtain ⟨n, hn, rfl⟩ := u8_nat ha
  obtain ⟨m, hm, rfl⟩ := u8_nat hb
  exact limits_walk n m w hn hm
end Go.Proofs.Ytceekocfmbcobaa.Qp
end
