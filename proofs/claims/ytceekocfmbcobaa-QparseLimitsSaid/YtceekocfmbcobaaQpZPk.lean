/- loggialaw17.QparseBinds: the walk (printed by gen_qpz.py). -/
import Derived.Test.YtceekocfmbcobaaQpZaPk
namespace Go.Proofs.Ytceekocfmbcobaa.Qp
open Go.RowKit Go.Proofs.Ytceekocfmbcobaa Go.Proofs.Ytceekocfmbcobaa.Ut Go.Proofs.Ytceekocfmbcobaa.Tk Go.Proofs.Ytceekocfmbcobaa.Qy
set_option maxRecDepth 20000
set_option linter.unusedSimpArgs false
set_option linter.unusedVariables false

theorem prs_wd {s : P} {E : Int} {o : Option Q} (h : PrsR s E o) : ∃ K, K ≤ 16777216 ∧ QW K (o.getD noQ) := by
  have hno : ∃ K, K ≤ 16777216 ∧ QW K noQ := ⟨0 + 1, by decide, .mk (by simp) (by simp) (by simp)⟩
  cases h with
  | @ok l q h hp hr hm hd =>
    have h1 := pieces_pc s.length s l (Nat.le_refl _) hp
    have h2 := pieces_many s.length s l (Nat.le_refl _) hp
    exact or_wide hr (fun x hx => by have := (h1 x hx).2; omega) (by omega)
  | long _ => exact hno
  | noPieces _ _ => exact hno
  | bad _ _ _ => exact hno
  | left _ _ _ _ => exact hno
  | many _ _ _ _ => exact hno
  | deep _ _ _ _ _ => exact hno
/-- A query of one part. -/
theorem one_at {w : World} {g : Nat} (k : Int) {x : Q} {x0 x1 x2 x3 : Value} (hx : QAt w w.heap.size x [x0, x1, x2, x3]) (h : Blk w g 29 #[x0, x1, x2, x3]) :
    QAt w w.heap.size (.mk k ByteArray.empty [] [x]) [.int .i64 k, .string ⟨#[]⟩, .slice none 0 0, .slice (some ⟨g, 0, none⟩) 1 1] := by
  refine QAt.mk (nm := ⟨#[]⟩) [[x0, x1, x2, x3]] rfl (by simpa using Reads.none_) rfl rfl (by simp) ⟨rfl, fun _ => ⟨g, 0, rfl, h.lt, fun j u hu => ?_⟩⟩ (fun i hi hi' => ?_)
  · rw [Nat.zero_add, h.cell]
    simpa using hu
  · match i, hi, hi' with
    | 0, _, _ => exact hx
    | i + 1, hi, _ => exact absurd hi (by simp)
def tx1 (a b c : ByteArray) : ByteArray := ⟨#[40]⟩ ++ a ++ ⟨#[41, 32, 79, 82, 32, 40]⟩ ++ b ++ ⟨#[41, 32, 65, 78, 68, 32, 40]⟩ ++ c ++ ⟨#[41]⟩
def tx2 (a b : ByteArray) : ByteArray := ⟨#[78, 79, 84, 32, 40]⟩ ++ a ++ ⟨#[41, 32, 40]⟩ ++ b ++ ⟨#[41]⟩
def tx3 (a : ByteArray) : ByteArray := ⟨#[40, 40]⟩ ++ a ++ ⟨#[41, 41]⟩
theorem tx1_data (a b c : ByteArray) : (tx1 a b c).data.toList = 40 :: (a.data.toList ++ 41 :: 32 :: 79 :: 82 :: 32 :: 40 :: (b.data.toList ++ 41 :: 32 :: 65 :: 78 :: 68 :: 32 :: 40 :: (c.data.toList ++ 41 :: []))) := by simp [tx1]
theorem tx2_data (a b : ByteArray) : (tx2 a b).data.toList = 78 :: 79 :: 84 :: 32 :: 40 :: (a.data.toList ++ 41 :: 32 :: 40 :: (b.data.toList ++ 41 :: [])) := by simp [tx2]
theorem tx3_data (a : ByteArray) : (tx3 a).data.toList = 40 :: 40 :: (a.data.toList ++ 41 :: 41 :: []) := by simp [tx3]

set_option maxHeartbeats 12800000 in
theorem binds_walk (a b c : ByteArray) (w : World) (ha : a.size ≤ 140737488351232) (hb0 : b.size ≤ 140737488351232) (hc0 : c.size ≤ 140737488351232) : Calls Try.prog 4 #[.string a, .string b, .string c] w fun e w' => e = .returned (.bool true) ∧ Below w.heap.size w w' := by
  have Hb := Lib.hid (Below.refl w.heap.size w)
  by_cases h1 : ¬ a.size ≤ 100
  · have h1' : (100 : Int) < (a.size : Int) := by omega
    go_enter Try.func4, Try.ntmps4
    have ca := awake17 w
    go_wp2_with fail
    refine ca.mono ?_
    rintro e wa ⟨rfl, ha⟩
    have Ha := Lib.hid (Hb.out.trans (ha.mono Hb.out.size))
    clear ca ha
    go_wp2_with fail
    go_ret
    exact ⟨rfl, Ha.out⟩
  by_cases h2 : ¬ b.size ≤ 100
  · have h1' : ¬ (100 : Int) < (a.size : Int) := by omega
    have h2' : (100 : Int) < (b.size : Int) := by omega
    go_enter Try.func4, Try.ntmps4
    have ca := awake17 w
    go_wp2_with fail
    refine ca.mono ?_
    rintro e wa ⟨rfl, ha⟩
    have Ha := Lib.hid (Hb.out.trans (ha.mono Hb.out.size))
    clear ca ha
    go_wp2_with fail
    go_ret
    exact ⟨rfl, Ha.out⟩
  by_cases h3 : ¬ c.size ≤ 100
  · have h1' : ¬ (100 : Int) < (a.size : Int) := by omega
    have h2' : ¬ (100 : Int) < (b.size : Int) := by omega
    have h3' : (100 : Int) < (c.size : Int) := by omega
    go_enter Try.func4, Try.ntmps4
    have ca := awake17 w
    go_wp2_with fail
    refine ca.mono ?_
    rintro e wa ⟨rfl, ha⟩
    have Ha := Lib.hid (Hb.out.trans (ha.mono Hb.out.size))
    clear ca ha
    go_wp2_with fail
    go_ret
    exact ⟨rfl, Ha.out⟩
  have h1' : ¬ (100 : Int) < (a.size : Int) := by omega
  have h2' : ¬ (100 : Int) < (b.size : Int) := by omega
  have h3' : ¬ (100 : Int) < (c.size : Int) := by omega
  go_enter Try.func4, Try.ntmps4
  have cp := parse_any a w
  go_wp2_with fail
  refine cp.mono ?_
  rintro e w1 ⟨E1, o1, p0, p1, p2, p3, hp, rfl, hF, hb⟩
  clear cp
  obtain ⟨A1, n1, k1, C1, m1, d1, e4⟩ := hF.four
  simp only [List.cons.injEq, and_true] at e4
  obtain ⟨rfl, rfl, rfl, rfl⟩ := e4
  obtain ⟨K1, hK1, hQW⟩ := prs_wd hp
  generalize hq : o1.getD noQ = q1 at *
  have Hq1 := Lib.hid hq
  have HP1 := Lib.hid hp
  have HQW1 := Lib.hid hQW
  clear hq
  have hba := (Below.refl w1.heap.size w1).alloc (Nat.le_refl _) (.cells #[.int .i64 (q1).kind, .string (q1).name, .slice A1 n1 k1, .slice C1 m1 d1] 29)
  have HF1 := Lib.hid (hF.grow hba)
  have HB1 := Lib.hid (Blk.new w1 29 #[.int .i64 (q1).kind, .string (q1).name, .slice A1 n1 k1, .slice C1 m1 d1])
  have hz1 : w1.heap.size < (w1.alloc (.cells #[.int .i64 (q1).kind, .string (q1).name, .slice A1 n1 k1, .slice C1 m1 d1] 29)).heap.size := by simp
  have hzz : w.heap.size < (w1.alloc (.cells #[.int .i64 (q1).kind, .string (q1).name, .slice A1 n1 k1, .slice C1 m1 d1] 29)).heap.size := by have := hb.size; simp; omega
  replace Hb := Lib.hid ((Hb.out.trans (hb.mono Hb.out.size)).trans (hba.mono (Nat.le_trans Hb.out.size hb.size)))
  clear hp hF hb hba hQW hzz
  go_wp2_with fail
  generalize hw : w1.alloc (.cells #[.int .i64 (q1).kind, .string (q1).name, .slice A1 n1 k1, .slice C1 m1 d1] 29) = w2 at *
  clear hw
  have cp := parse_any b w2
  refine cp.mono ?_
  rintro e w3 ⟨E2, o2, p0, p1, p2, p3, hp, rfl, hF, hb⟩
  clear cp
  obtain ⟨A2, n2, k2, C2, m2, d2, e4⟩ := hF.four
  simp only [List.cons.injEq, and_true] at e4
  obtain ⟨rfl, rfl, rfl, rfl⟩ := e4
  obtain ⟨K2, hK2, hQW⟩ := prs_wd hp
  generalize hq : o2.getD noQ = q2 at *
  have Hq2 := Lib.hid hq
  have HP2 := Lib.hid hp
  have HQW2 := Lib.hid hQW
  clear hq
  have hba := (Below.refl w3.heap.size w3).alloc (Nat.le_refl _) (.cells #[.int .i64 (q2).kind, .string (q2).name, .slice A2 n2 k2, .slice C2 m2 d2] 29)
  have HF2 := Lib.hid (hF.grow hba)
  have HB2 := Lib.hid (Blk.new w3 29 #[.int .i64 (q2).kind, .string (q2).name, .slice A2 n2 k2, .slice C2 m2 d2])
  have hz2 : w3.heap.size < (w3.alloc (.cells #[.int .i64 (q2).kind, .string (q2).name, .slice A2 n2 k2, .slice C2 m2 d2] 29)).heap.size := by simp
  have hzz : w2.heap.size < (w3.alloc (.cells #[.int .i64 (q2).kind, .string (q2).name, .slice A2 n2 k2, .slice C2 m2 d2] 29)).heap.size := by have := hb.size; simp; omega
  replace Hb := Lib.hid ((Hb.out.trans (hb.mono Hb.out.size)).trans (hba.mono (Nat.le_trans Hb.out.size hb.size)))
  replace HF1 := Lib.hid ((HF1.out.grow hb).grow hba)
  replace HB1 := Lib.hid ((HB1.out.below hb hz1).alloc (.cells #[.int .i64 (q2).kind, .string (q2).name, .slice A2 n2 k2, .slice C2 m2 d2] 29))
  replace hz1 := Nat.lt_trans hz1 hzz
  clear hp hF hb hba hQW hzz
  go_wp2_with fail
  generalize hw : w3.alloc (.cells #[.int .i64 (q2).kind, .string (q2).name, .slice A2 n2 k2, .slice C2 m2 d2] 29) = w4 at *
  clear hw
  have cp := parse_any c w4
  refine cp.mono ?_
  rintro e w5 ⟨E3, o3, p0, p1, p2, p3, hp, rfl, hF, hb⟩
  clear cp
  obtain ⟨A3, n3, k3, C3, m3, d3, e4⟩ := hF.four
  simp only [List.cons.injEq, and_true] at e4
  obtain ⟨rfl, rfl, rfl, rfl⟩ := e4
  obtain ⟨K3, hK3, hQW⟩ := prs_wd hp
  generalize hq : o3.getD noQ = q3 at *
  have Hq3 := Lib.hid hq
  have HP3 := Lib.hid hp
  have HQW3 := Lib.hid hQW
  clear hq
  have hba := (Below.refl w5.heap.size w5).alloc (Nat.le_refl _) (.cells #[.int .i64 (q3).kind, .string (q3).name, .slice A3 n3 k3, .slice C3 m3 d3] 29)
  have HF3 := Lib.hid (hF.grow hba)
  have HB3 := Lib.hid (Blk.new w5 29 #[.int .i64 (q3).kind, .string (q3).name, .slice A3 n3 k3, .slice C3 m3 d3])
  have hz3 : w5.heap.size < (w5.alloc (.cells #[.int .i64 (q3).kind, .string (q3).name, .slice A3 n3 k3, .slice C3 m3 d3] 29)).heap.size := by simp
  have hzz : w4.heap.size < (w5.alloc (.cells #[.int .i64 (q3).kind, .string (q3).name, .slice A3 n3 k3, .slice C3 m3 d3] 29)).heap.size := by have := hb.size; simp; omega
  replace Hb := Lib.hid ((Hb.out.trans (hb.mono Hb.out.size)).trans (hba.mono (Nat.le_trans Hb.out.size hb.size)))
  replace HF1 := Lib.hid ((HF1.out.grow hb).grow hba)
  replace HB1 := Lib.hid ((HB1.out.below hb hz1).alloc (.cells #[.int .i64 (q3).kind, .string (q3).name, .slice A3 n3 k3, .slice C3 m3 d3] 29))
  replace hz1 := Nat.lt_trans hz1 hzz
  replace HF2 := Lib.hid ((HF2.out.grow hb).grow hba)
  replace HB2 := Lib.hid ((HB2.out.below hb hz2).alloc (.cells #[.int .i64 (q3).kind, .string (q3).name, .slice A3 n3 k3, .slice C3 m3 d3] 29))
  replace hz2 := Nat.lt_trans hz2 hzz
  clear hp hF hb hba hQW hzz
  go_upto_region 6 with (fail)
  generalize hw : w5.alloc (.cells #[.int .i64 (q3).kind, .string (q3).name, .slice A3 n3 k3, .slice C3 m3 d3] 29) = w6 at *
  clear hw
  clear h1' h2' h3'
  by_cases hE1 : E1 ≠ 0
  · skip
    have ca := awake17 w6
    go_wp2_with fail
    refine ca.mono ?_
    rintro e wa ⟨rfl, ha⟩
    have Ha := Lib.hid (Hb.out.trans (ha.mono Hb.out.size))
    clear ca ha
    go_wp2_with fail
    go_ret
    exact ⟨rfl, Ha.out⟩
  have hE1 : E1 = 0 := by simpa using hE1
  subst hE1
  by_cases hE2 : E2 ≠ 0
  · skip
    have ca := awake17 w6
    go_wp2_with fail
    refine ca.mono ?_
    rintro e wa ⟨rfl, ha⟩
    have Ha := Lib.hid (Hb.out.trans (ha.mono Hb.out.size))
    clear ca ha
    go_wp2_with fail
    go_ret
    exact ⟨rfl, Ha.out⟩
  have hE2 : E2 = 0 := by simpa using hE2
  subst hE2
  by_cases hE3 : E3 ≠ 0
  · skip
    have ca := awake17 w6
    go_wp2_with fail
    refine ca.mono ?_
    rintro e wa ⟨rfl, ha⟩
    have Ha := Lib.hid (Hb.out.trans (ha.mono Hb.out.size))
    clear ca ha
    go_wp2_with fail
    go_ret
    exact ⟨rfl, Ha.out⟩
  have hE3 : E3 = 0 := by simpa using hE3
  subst hE3
  obtain ⟨x0, x1, x2, x3, _, _, _, _⟩ := HB1.out.four
  have cd := depth_ref HQW1.out hK1 w6 _ _ _ _ (HF1.out.at_ fun b hS => hS.2)
  go_wp2_with fail
  refine cd.mono ?_
  rintro e v1 ⟨rfl, hd⟩
  clear cd x0 x1 x2 x3
  have hzz : w6.heap.size ≤ v1.heap.size := hd.size
  replace Hb := Lib.hid (Hb.out.trans (hd.mono Hb.out.size))
  replace HF1 := Lib.hid (HF1.out.grow hd)
  replace HB1 := Lib.hid (HB1.out.below hd hz1)
  replace hz1 := Nat.lt_of_lt_of_le hz1 hzz
  replace HF2 := Lib.hid (HF2.out.grow hd)
  replace HB2 := Lib.hid (HB2.out.below hd hz2)
  replace hz2 := Nat.lt_of_lt_of_le hz2 hzz
  replace HF3 := Lib.hid (HF3.out.grow hd)
  replace HB3 := Lib.hid (HB3.out.below hd hz3)
  replace hz3 := Nat.lt_of_lt_of_le hz3 hzz
  clear hd hzz
  by_cases hD1 : (12 : Int) < (depthN q1 : Int)
  · skip
    have ca := awake17 v1
    go_wp2_with fail
    refine ca.mono ?_
    rintro e wa ⟨rfl, ha⟩
    have Ha := Lib.hid (Hb.out.trans (ha.mono Hb.out.size))
    clear ca ha
    go_wp2_with fail
    go_ret
    exact ⟨rfl, Ha.out⟩
  obtain ⟨x0, x1, x2, x3, _, _, _, _⟩ := HB2.out.four
  have cd := depth_ref HQW2.out hK2 v1 _ _ _ _ (HF2.out.at_ fun b hS => hS.2)
  go_wp2_with fail
  refine cd.mono ?_
  rintro e v2 ⟨rfl, hd⟩
  clear cd x0 x1 x2 x3
  have hzz : v1.heap.size ≤ v2.heap.size := hd.size
  replace Hb := Lib.hid (Hb.out.trans (hd.mono Hb.out.size))
  replace HF1 := Lib.hid (HF1.out.grow hd)
  replace HB1 := Lib.hid (HB1.out.below hd hz1)
  replace hz1 := Nat.lt_of_lt_of_le hz1 hzz
  replace HF2 := Lib.hid (HF2.out.grow hd)
  replace HB2 := Lib.hid (HB2.out.below hd hz2)
  replace hz2 := Nat.lt_of_lt_of_le hz2 hzz
  replace HF3 := Lib.hid (HF3.out.grow hd)
  replace HB3 := Lib.hid (HB3.out.below hd hz3)
  replace hz3 := Nat.lt_of_lt_of_le hz3 hzz
  clear hd hzz
  by_cases hD2 : (12 : Int) < (depthN q2 : Int)
  · skip
    have ca := awake17 v2
    go_wp2_with fail
    refine ca.mono ?_
    rintro e wa ⟨rfl, ha⟩
    have Ha := Lib.hid (Hb.out.trans (ha.mono Hb.out.size))
    clear ca ha
    go_wp2_with fail
    go_ret
    exact ⟨rfl, Ha.out⟩
  obtain ⟨x0, x1, x2, x3, _, _, _, _⟩ := HB3.out.four
  have cd := depth_ref HQW3.out hK3 v2 _ _ _ _ (HF3.out.at_ fun b hS => hS.2)
  go_wp2_with fail
  refine cd.mono ?_
  rintro e v3 ⟨rfl, hd⟩
  clear cd x0 x1 x2 x3
  have hzz : v2.heap.size ≤ v3.heap.size := hd.size
  replace Hb := Lib.hid (Hb.out.trans (hd.mono Hb.out.size))
  replace HF1 := Lib.hid (HF1.out.grow hd)
  replace HB1 := Lib.hid (HB1.out.below hd hz1)
  replace hz1 := Nat.lt_of_lt_of_le hz1 hzz
  replace HF2 := Lib.hid (HF2.out.grow hd)
  replace HB2 := Lib.hid (HB2.out.below hd hz2)
  replace hz2 := Nat.lt_of_lt_of_le hz2 hzz
  replace HF3 := Lib.hid (HF3.out.grow hd)
  replace HB3 := Lib.hid (HB3.out.below hd hz3)
  replace hz3 := Nat.lt_of_lt_of_le hz3 hzz
  clear hd hzz
  by_cases hD3 : (12 : Int) < (depthN q3 : Int)
  · skip
    have ca := awake17 v3
    go_wp2_with fail
    refine ca.mono ?_
    rintro e wa ⟨rfl, ha⟩
    have Ha := Lib.hid (Hb.out.trans (ha.mono Hb.out.size))
    clear ca ha
    go_wp2_with fail
    go_ret
    exact ⟨rfl, Ha.out⟩
  obtain ⟨l1, r1, rfl, hk1⟩ := HP1.out.okp (by rw [Hq1.out]; omega)
  obtain ⟨l2, r2, rfl, hk2⟩ := HP2.out.okp (by rw [Hq2.out]; omega)
  obtain ⟨l3, r3, rfl, hk3⟩ := HP3.out.okp (by rw [Hq3.out]; omega)
  obtain rfl : r1 = q1 := Hq1.out
  obtain rfl : r2 = q2 := Hq2.out
  obtain rfl : r3 = q3 := Hq3.out
  replace h1 : a.size ≤ 100 := by omega
  replace h2 : b.size ≤ 100 := by omega
  replace h3 : c.size ≤ 100 := by omega
  obtain ⟨Q1, hQ1, ht1⟩ : ∃ Q1, Q1 = orQ r1 r2 r3 ∧ PrsR (tx1 a b c).data.toList 0 (some Q1) := ⟨_, rfl, by rw [tx1_data]; exact binds1 hk1 hk2 hk3 (by rw [bsize]; omega) (by rw [bsize]; omega) (by rw [bsize]; omega)⟩
  obtain ⟨Q2, hQ2, ht2⟩ : ∃ Q2, Q2 = nandQ r1 r2 ∧ PrsR (tx2 a b).data.toList 0 (some Q2) := ⟨_, rfl, by rw [tx2_data]; exact binds2 hk1 hk2 (by rw [bsize]; omega) (by rw [bsize]; omega)⟩
  have ht3 : PrsR (tx3 a).data.toList 0 (some r1) := by rw [tx3_data]; exact binds3 hk1 (by rw [bsize]; omega)
  have HQ1 := Lib.hid hQ1
  have HQ2 := Lib.hid hQ2
  have HT1 := Lib.hid ht1
  have HT2 := Lib.hid ht2
  have HT3 := Lib.hid ht3
  clear hQ1 hQ2 ht1 ht2 ht3 hk1 hk2 hk3 HP1 HP2 HP3 Hq1 Hq2 Hq3 ha hb0 hc0
  have cp : Calls Try.prog 14 #[.string (⟨#[40]⟩ ++ a ++ ⟨#[41, 32, 79, 82, 32, 40]⟩ ++ b ++ ⟨#[41, 32, 65, 78, 68, 32, 40]⟩ ++ c ++ ⟨#[41]⟩)] v3 (ParPost v3 (tx1 a b c).data.toList) := parse_any _ v3
  go_wp2_with fail
  refine cp.mono ?_
  rintro e v4 ⟨E4, o4, p0, p1, p2, p3, hp, rfl, hF, hb⟩
  clear cp
  obtain ⟨rfl, rfl⟩ := hp.det HT1.out
  replace hF : QF v4 (fun b => v3.heap.size ≤ b ∧ b < v4.heap.size) Q1 [p0, p1, p2, p3] := hF
  obtain ⟨A4, n4, k4, C4, m4, d4, e4⟩ := hF.four
  simp only [List.cons.injEq, and_true] at e4
  obtain ⟨rfl, rfl, rfl, rfl⟩ := e4
  obtain ⟨K4, _, hQW⟩ := prs_wd hp
  have HQW4 : Hid (QW K4 Q1) := Lib.hid hQW
  have hba := (Below.refl v4.heap.size v4).alloc (Nat.le_refl _) (.cells #[.int .i64 (Q1).kind, .string (Q1).name, .slice A4 n4 k4, .slice C4 m4 d4] 29)
  have HF4 := Lib.hid (hF.grow hba)
  have HB4 := Lib.hid (Blk.new v4 29 #[.int .i64 (Q1).kind, .string (Q1).name, .slice A4 n4 k4, .slice C4 m4 d4])
  have hz4 : v4.heap.size < (v4.alloc (.cells #[.int .i64 (Q1).kind, .string (Q1).name, .slice A4 n4 k4, .slice C4 m4 d4] 29)).heap.size := by simp
  have hzz : v3.heap.size < (v4.alloc (.cells #[.int .i64 (Q1).kind, .string (Q1).name, .slice A4 n4 k4, .slice C4 m4 d4] 29)).heap.size := by have := hb.size; simp; omega
  replace Hb := Lib.hid ((Hb.out.trans (hb.mono Hb.out.size)).trans (hba.mono (Nat.le_trans Hb.out.size hb.size)))
  replace HF1 := Lib.hid ((HF1.out.grow hb).grow hba)
  replace HB1 := Lib.hid ((HB1.out.below hb hz1).alloc (.cells #[.int .i64 (Q1).kind, .string (Q1).name, .slice A4 n4 k4, .slice C4 m4 d4] 29))
  replace hz1 := Nat.lt_trans hz1 hzz
  replace HF2 := Lib.hid ((HF2.out.grow hb).grow hba)
  replace HB2 := Lib.hid ((HB2.out.below hb hz2).alloc (.cells #[.int .i64 (Q1).kind, .string (Q1).name, .slice A4 n4 k4, .slice C4 m4 d4] 29))
  replace hz2 := Nat.lt_trans hz2 hzz
  replace HF3 := Lib.hid ((HF3.out.grow hb).grow hba)
  replace HB3 := Lib.hid ((HB3.out.below hb hz3).alloc (.cells #[.int .i64 (Q1).kind, .string (Q1).name, .slice A4 n4 k4, .slice C4 m4 d4] 29))
  replace hz3 := Nat.lt_trans hz3 hzz
  clear hp hF hb hba hQW hzz
  go_wp2_with fail
  generalize hw : v4.alloc (.cells #[.int .i64 (Q1).kind, .string (Q1).name, .slice A4 n4 k4, .slice C4 m4 d4] 29) = v5 at *
  clear hw
  have cp : Calls Try.prog 14 #[.string (⟨#[78, 79, 84, 32, 40]⟩ ++ a ++ ⟨#[41, 32, 40]⟩ ++ b ++ ⟨#[41]⟩)] v5 (ParPost v5 (tx2 a b).data.toList) := parse_any _ v5
  refine cp.mono ?_
  rintro e v6 ⟨E5, o5, p0, p1, p2, p3, hp, rfl, hF, hb⟩
  clear cp
  obtain ⟨rfl, rfl⟩ := hp.det HT2.out
  replace hF : QF v6 (fun b => v5.heap.size ≤ b ∧ b < v6.heap.size) Q2 [p0, p1, p2, p3] := hF
  obtain ⟨A5, n5, k5, C5, m5, d5, e4⟩ := hF.four
  simp only [List.cons.injEq, and_true] at e4
  obtain ⟨rfl, rfl, rfl, rfl⟩ := e4
  obtain ⟨K5, _, hQW⟩ := prs_wd hp
  have HQW5 : Hid (QW K5 Q2) := Lib.hid hQW
  have hba := (Below.refl v6.heap.size v6).alloc (Nat.le_refl _) (.cells #[.int .i64 (Q2).kind, .string (Q2).name, .slice A5 n5 k5, .slice C5 m5 d5] 29)
  have HF5 := Lib.hid (hF.grow hba)
  have HB5 := Lib.hid (Blk.new v6 29 #[.int .i64 (Q2).kind, .string (Q2).name, .slice A5 n5 k5, .slice C5 m5 d5])
  have hz5 : v6.heap.size < (v6.alloc (.cells #[.int .i64 (Q2).kind, .string (Q2).name, .slice A5 n5 k5, .slice C5 m5 d5] 29)).heap.size := by simp
  have hzz : v5.heap.size < (v6.alloc (.cells #[.int .i64 (Q2).kind, .string (Q2).name, .slice A5 n5 k5, .slice C5 m5 d5] 29)).heap.size := by have := hb.size; simp; omega
  replace Hb := Lib.hid ((Hb.out.trans (hb.mono Hb.out.size)).trans (hba.mono (Nat.le_trans Hb.out.size hb.size)))
  replace HF1 := Lib.hid ((HF1.out.grow hb).grow hba)
  replace HB1 := Lib.hid ((HB1.out.below hb hz1).alloc (.cells #[.int .i64 (Q2).kind, .string (Q2).name, .slice A5 n5 k5, .slice C5 m5 d5] 29))
  replace hz1 := Nat.lt_trans hz1 hzz
  replace HF2 := Lib.hid ((HF2.out.grow hb).grow hba)
  replace HB2 := Lib.hid ((HB2.out.below hb hz2).alloc (.cells #[.int .i64 (Q2).kind, .string (Q2).name, .slice A5 n5 k5, .slice C5 m5 d5] 29))
  replace hz2 := Nat.lt_trans hz2 hzz
  replace HF3 := Lib.hid ((HF3.out.grow hb).grow hba)
  replace HB3 := Lib.hid ((HB3.out.below hb hz3).alloc (.cells #[.int .i64 (Q2).kind, .string (Q2).name, .slice A5 n5 k5, .slice C5 m5 d5] 29))
  replace hz3 := Nat.lt_trans hz3 hzz
  replace HF4 := Lib.hid ((HF4.out.grow hb).grow hba)
  replace HB4 := Lib.hid ((HB4.out.below hb hz4).alloc (.cells #[.int .i64 (Q2).kind, .string (Q2).name, .slice A5 n5 k5, .slice C5 m5 d5] 29))
  replace hz4 := Nat.lt_trans hz4 hzz
  clear hp hF hb hba hQW hzz
  go_wp2_with fail
  generalize hw : v6.alloc (.cells #[.int .i64 (Q2).kind, .string (Q2).name, .slice A5 n5 k5, .slice C5 m5 d5] 29) = v7 at *
  clear hw
  have cp : Calls Try.prog 14 #[.string (⟨#[40, 40]⟩ ++ a ++ ⟨#[41, 41]⟩)] v7 (ParPost v7 (tx3 a).data.toList) := parse_any _ v7
  refine cp.mono ?_
  rintro e v8 ⟨E6, o6, p0, p1, p2, p3, hp, rfl, hF, hb⟩
  clear cp
  obtain ⟨rfl, rfl⟩ := hp.det HT3.out
  replace hF : QF v8 (fun b => v7.heap.size ≤ b ∧ b < v8.heap.size) r1 [p0, p1, p2, p3] := hF
  obtain ⟨A6, n6, k6, C6, m6, d6, e4⟩ := hF.four
  simp only [List.cons.injEq, and_true] at e4
  obtain ⟨rfl, rfl, rfl, rfl⟩ := e4
  obtain ⟨K6, _, hQW⟩ := prs_wd hp
  have HQW6 : Hid (QW K6 r1) := Lib.hid hQW
  have hba := (Below.refl v8.heap.size v8).alloc (Nat.le_refl _) (.cells #[.int .i64 (r1).kind, .string (r1).name, .slice A6 n6 k6, .slice C6 m6 d6] 29)
  have HF6 := Lib.hid (hF.grow hba)
  have HB6 := Lib.hid (Blk.new v8 29 #[.int .i64 (r1).kind, .string (r1).name, .slice A6 n6 k6, .slice C6 m6 d6])
  have hz6 : v8.heap.size < (v8.alloc (.cells #[.int .i64 (r1).kind, .string (r1).name, .slice A6 n6 k6, .slice C6 m6 d6] 29)).heap.size := by simp
  have hzz : v7.heap.size < (v8.alloc (.cells #[.int .i64 (r1).kind, .string (r1).name, .slice A6 n6 k6, .slice C6 m6 d6] 29)).heap.size := by have := hb.size; simp; omega
  replace Hb := Lib.hid ((Hb.out.trans (hb.mono Hb.out.size)).trans (hba.mono (Nat.le_trans Hb.out.size hb.size)))
  replace HF1 := Lib.hid ((HF1.out.grow hb).grow hba)
  replace HB1 := Lib.hid ((HB1.out.below hb hz1).alloc (.cells #[.int .i64 (r1).kind, .string (r1).name, .slice A6 n6 k6, .slice C6 m6 d6] 29))
  replace hz1 := Nat.lt_trans hz1 hzz
  replace HF2 := Lib.hid ((HF2.out.grow hb).grow hba)
  replace HB2 := Lib.hid ((HB2.out.below hb hz2).alloc (.cells #[.int .i64 (r1).kind, .string (r1).name, .slice A6 n6 k6, .slice C6 m6 d6] 29))
  replace hz2 := Nat.lt_trans hz2 hzz
  replace HF3 := Lib.hid ((HF3.out.grow hb).grow hba)
  replace HB3 := Lib.hid ((HB3.out.below hb hz3).alloc (.cells #[.int .i64 (r1).kind, .string (r1).name, .slice A6 n6 k6, .slice C6 m6 d6] 29))
  replace hz3 := Nat.lt_trans hz3 hzz
  replace HF4 := Lib.hid ((HF4.out.grow hb).grow hba)
  replace HB4 := Lib.hid ((HB4.out.below hb hz4).alloc (.cells #[.int .i64 (r1).kind, .string (r1).name, .slice A6 n6 k6, .slice C6 m6 d6] 29))
  replace hz4 := Nat.lt_trans hz4 hzz
  replace HF5 := Lib.hid ((HF5.out.grow hb).grow hba)
  replace HB5 := Lib.hid ((HB5.out.below hb hz5).alloc (.cells #[.int .i64 (r1).kind, .string (r1).name, .slice A6 n6 k6, .slice C6 m6 d6] 29))
  replace hz5 := Nat.lt_trans hz5 hzz
  clear hp hF hb hba hQW hzz
  go_upto_region 11 with (fail)
  generalize hw : v8.alloc (.cells #[.int .i64 (r1).kind, .string (r1).name, .slice A6 n6 k6, .slice C6 m6 d6] 29) = v9 at *
  clear hw
  obtain ⟨x0, x1, x2, x3, _, _, _, _⟩ := HB1.out.four
  obtain ⟨y0, y1, y2, y3, _, _, _, _⟩ := HB2.out.four
  obtain ⟨z0, z1, z2, z3, _, _, _, _⟩ := HB3.out.four
  clear h1 h2 h3
  go_upto_region 12 with (fail)
  clear x0 x1 x2 x3 y0 y1 y2 y3 z0 z1 z2 z3
  have hbx : Below v9.heap.size v9 (((v9.alloc (.cells #[.int .i64 (r2).kind, .string (r2).name, .slice A2 n2 k2, .slice C2 m2 d2, .int .i64 (r3).kind, .string (r3).name, .slice A3 n3 k3, .slice C3 m3 d3] 29)).alloc (.cells #[.int .i64 (r1).kind, .string (r1).name, .slice A1 n1 k1, .slice C1 m1 d1, .int .i64 5, .string ⟨#[]⟩, .slice none 0 0, .slice (some ⟨v9.heap.size, 0, none⟩) 2 2] 29)).alloc (.cells #[.int .i64 6, .string ⟨#[]⟩, .slice none 0 0, .slice (some ⟨v9.heap.size + 1, 0, none⟩) 2 2] 29)) := (((Below.refl _ _).alloc (Nat.le_refl _) (.cells #[.int .i64 (r2).kind, .string (r2).name, .slice A2 n2 k2, .slice C2 m2 d2, .int .i64 (r3).kind, .string (r3).name, .slice A3 n3 k3, .slice C3 m3 d3] 29)).alloc (by simp) (.cells #[.int .i64 (r1).kind, .string (r1).name, .slice A1 n1 k1, .slice C1 m1 d1, .int .i64 5, .string ⟨#[]⟩, .slice none 0 0, .slice (some ⟨v9.heap.size, 0, none⟩) 2 2] 29)).alloc (by simp; omega) (.cells #[.int .i64 6, .string ⟨#[]⟩, .slice none 0 0, .slice (some ⟨v9.heap.size + 1, 0, none⟩) 2 2] 29)
  have g1 := ((Blk.new v9 29 #[.int .i64 (r2).kind, .string (r2).name, .slice A2 n2 k2, .slice C2 m2 d2, .int .i64 (r3).kind, .string (r3).name, .slice A3 n3 k3, .slice C3 m3 d3]).alloc (.cells #[.int .i64 (r1).kind, .string (r1).name, .slice A1 n1 k1, .slice C1 m1 d1, .int .i64 5, .string ⟨#[]⟩, .slice none 0 0, .slice (some ⟨v9.heap.size, 0, none⟩) 2 2] 29)).alloc (.cells #[.int .i64 6, .string ⟨#[]⟩, .slice none 0 0, .slice (some ⟨v9.heap.size + 1, 0, none⟩) 2 2] 29)
  have g2 := (Blk.new (v9.alloc (.cells #[.int .i64 (r2).kind, .string (r2).name, .slice A2 n2 k2, .slice C2 m2 d2, .int .i64 (r3).kind, .string (r3).name, .slice A3 n3 k3, .slice C3 m3 d3] 29)) 29 #[.int .i64 (r1).kind, .string (r1).name, .slice A1 n1 k1, .slice C1 m1 d1, .int .i64 5, .string ⟨#[]⟩, .slice none 0 0, .slice (some ⟨v9.heap.size, 0, none⟩) 2 2]).alloc (.cells #[.int .i64 6, .string ⟨#[]⟩, .slice none 0 0, .slice (some ⟨v9.heap.size + 1, 0, none⟩) 2 2] 29)
  have g3 := Blk.new ((v9.alloc (.cells #[.int .i64 (r2).kind, .string (r2).name, .slice A2 n2 k2, .slice C2 m2 d2, .int .i64 (r3).kind, .string (r3).name, .slice A3 n3 k3, .slice C3 m3 d3] 29)).alloc (.cells #[.int .i64 (r1).kind, .string (r1).name, .slice A1 n1 k1, .slice C1 m1 d1, .int .i64 5, .string ⟨#[]⟩, .slice none 0 0, .slice (some ⟨v9.heap.size, 0, none⟩) 2 2] 29)) 29 #[.int .i64 6, .string ⟨#[]⟩, .slice none 0 0, .slice (some ⟨v9.heap.size + 1, 0, none⟩) 2 2]
  have e1 : (v9.alloc (.cells #[.int .i64 (r2).kind, .string (r2).name, .slice A2 n2 k2, .slice C2 m2 d2, .int .i64 (r3).kind, .string (r3).name, .slice A3 n3 k3, .slice C3 m3 d3] 29)).heap.size = v9.heap.size + 1 := World.size_alloc _ _
  have e2 : ((v9.alloc (.cells #[.int .i64 (r2).kind, .string (r2).name, .slice A2 n2 k2, .slice C2 m2 d2, .int .i64 (r3).kind, .string (r3).name, .slice A3 n3 k3, .slice C3 m3 d3] 29)).alloc (.cells #[.int .i64 (r1).kind, .string (r1).name, .slice A1 n1 k1, .slice C1 m1 d1, .int .i64 5, .string ⟨#[]⟩, .slice none 0 0, .slice (some ⟨v9.heap.size, 0, none⟩) 2 2] 29)).heap.size = v9.heap.size + 1 + 1 := by rw [World.size_alloc, World.size_alloc]
  rw [e1] at g2
  rw [e2] at g3
  have ss : v9.heap.size + 1 + 1 < (((v9.alloc (.cells #[.int .i64 (r2).kind, .string (r2).name, .slice A2 n2 k2, .slice C2 m2 d2, .int .i64 (r3).kind, .string (r3).name, .slice A3 n3 k3, .slice C3 m3 d3] 29)).alloc (.cells #[.int .i64 (r1).kind, .string (r1).name, .slice A1 n1 k1, .slice C1 m1 d1, .int .i64 5, .string ⟨#[]⟩, .slice none 0 0, .slice (some ⟨v9.heap.size, 0, none⟩) 2 2] 29)).alloc (.cells #[.int .i64 6, .string ⟨#[]⟩, .slice none 0 0, .slice (some ⟨v9.heap.size + 1, 0, none⟩) 2 2] 29)).heap.size := by simp
  clear e1 e2
  generalize hw : (((v9.alloc (.cells #[.int .i64 (r2).kind, .string (r2).name, .slice A2 n2 k2, .slice C2 m2 d2, .int .i64 (r3).kind, .string (r3).name, .slice A3 n3 k3, .slice C3 m3 d3] 29)).alloc (.cells #[.int .i64 (r1).kind, .string (r1).name, .slice A1 n1 k1, .slice C1 m1 d1, .int .i64 5, .string ⟨#[]⟩, .slice none 0 0, .slice (some ⟨v9.heap.size, 0, none⟩) 2 2] 29)).alloc (.cells #[.int .i64 6, .string ⟨#[]⟩, .slice none 0 0, .slice (some ⟨v9.heap.size + 1, 0, none⟩) 2 2] 29)) = u1 at *
  clear hw
  have HS1' := Lib.hid g1
  have HS2' := Lib.hid g2
  have HS3' := Lib.hid g3
  clear g1 g2 g3
  have hzz : v9.heap.size ≤ u1.heap.size := hbx.size
  replace Hb := Lib.hid (Hb.out.trans (hbx.mono Hb.out.size))
  replace HF1 := Lib.hid (HF1.out.grow hbx)
  replace HB1 := Lib.hid (HB1.out.below hbx hz1)
  replace hz1 := Nat.lt_of_lt_of_le hz1 hzz
  replace HF2 := Lib.hid (HF2.out.grow hbx)
  replace HB2 := Lib.hid (HB2.out.below hbx hz2)
  replace hz2 := Nat.lt_of_lt_of_le hz2 hzz
  replace HF3 := Lib.hid (HF3.out.grow hbx)
  replace HB3 := Lib.hid (HB3.out.below hbx hz3)
  replace hz3 := Nat.lt_of_lt_of_le hz3 hzz
  replace HF4 := Lib.hid (HF4.out.grow hbx)
  replace HB4 := Lib.hid (HB4.out.below hbx hz4)
  replace hz4 := Nat.lt_of_lt_of_le hz4 hzz
  replace HF5 := Lib.hid (HF5.out.grow hbx)
  replace HB5 := Lib.hid (HB5.out.below hbx hz5)
  replace hz5 := Nat.lt_of_lt_of_le hz5 hzz
  replace HF6 := Lib.hid (HF6.out.grow hbx)
  replace HB6 := Lib.hid (HB6.out.below hbx hz6)
  replace hz6 := Nat.lt_of_lt_of_le hz6 hzz
  clear hbx hzz
  have HS1 := HS1'
  clear HS1'
  have hs1 : v9.heap.size < u1.heap.size := by omega
  have HS2 := HS2'
  clear HS2'
  have hs2 : v9.heap.size + 1 < u1.heap.size := by omega
  have HS3 := HS3'
  clear HS3'
  have hs3 : v9.heap.size + 1 + 1 < u1.heap.size := by omega
  clear ss
  obtain ⟨x0, x1, x2, x3, _, _, _, _⟩ := HB1.out.four
  obtain ⟨y0, y1, y2, y3, _, _, _, _⟩ := HB2.out.four
  go_upto_region 13 with (fail)
  clear x0 x1 x2 x3 y0 y1 y2 y3
  have hbx : Below u1.heap.size u1 (((u1.alloc (.cells #[.int .i64 (r1).kind, .string (r1).name, .slice A1 n1 k1, .slice C1 m1 d1] 29)).alloc (.cells #[.int .i64 7, .string ⟨#[]⟩, .slice none 0 0, .slice (some ⟨u1.heap.size, 0, none⟩) 1 1, .int .i64 (r2).kind, .string (r2).name, .slice A2 n2 k2, .slice C2 m2 d2] 29)).alloc (.cells #[.int .i64 5, .string ⟨#[]⟩, .slice none 0 0, .slice (some ⟨u1.heap.size + 1, 0, none⟩) 2 2] 29)) := (((Below.refl _ _).alloc (Nat.le_refl _) (.cells #[.int .i64 (r1).kind, .string (r1).name, .slice A1 n1 k1, .slice C1 m1 d1] 29)).alloc (by simp) (.cells #[.int .i64 7, .string ⟨#[]⟩, .slice none 0 0, .slice (some ⟨u1.heap.size, 0, none⟩) 1 1, .int .i64 (r2).kind, .string (r2).name, .slice A2 n2 k2, .slice C2 m2 d2] 29)).alloc (by simp; omega) (.cells #[.int .i64 5, .string ⟨#[]⟩, .slice none 0 0, .slice (some ⟨u1.heap.size + 1, 0, none⟩) 2 2] 29)
  have g1 := ((Blk.new u1 29 #[.int .i64 (r1).kind, .string (r1).name, .slice A1 n1 k1, .slice C1 m1 d1]).alloc (.cells #[.int .i64 7, .string ⟨#[]⟩, .slice none 0 0, .slice (some ⟨u1.heap.size, 0, none⟩) 1 1, .int .i64 (r2).kind, .string (r2).name, .slice A2 n2 k2, .slice C2 m2 d2] 29)).alloc (.cells #[.int .i64 5, .string ⟨#[]⟩, .slice none 0 0, .slice (some ⟨u1.heap.size + 1, 0, none⟩) 2 2] 29)
  have g2 := (Blk.new (u1.alloc (.cells #[.int .i64 (r1).kind, .string (r1).name, .slice A1 n1 k1, .slice C1 m1 d1] 29)) 29 #[.int .i64 7, .string ⟨#[]⟩, .slice none 0 0, .slice (some ⟨u1.heap.size, 0, none⟩) 1 1, .int .i64 (r2).kind, .string (r2).name, .slice A2 n2 k2, .slice C2 m2 d2]).alloc (.cells #[.int .i64 5, .string ⟨#[]⟩, .slice none 0 0, .slice (some ⟨u1.heap.size + 1, 0, none⟩) 2 2] 29)
  have g3 := Blk.new ((u1.alloc (.cells #[.int .i64 (r1).kind, .string (r1).name, .slice A1 n1 k1, .slice C1 m1 d1] 29)).alloc (.cells #[.int .i64 7, .string ⟨#[]⟩, .slice none 0 0, .slice (some ⟨u1.heap.size, 0, none⟩) 1 1, .int .i64 (r2).kind, .string (r2).name, .slice A2 n2 k2, .slice C2 m2 d2] 29)) 29 #[.int .i64 5, .string ⟨#[]⟩, .slice none 0 0, .slice (some ⟨u1.heap.size + 1, 0, none⟩) 2 2]
  have e1 : (u1.alloc (.cells #[.int .i64 (r1).kind, .string (r1).name, .slice A1 n1 k1, .slice C1 m1 d1] 29)).heap.size = u1.heap.size + 1 := World.size_alloc _ _
  have e2 : ((u1.alloc (.cells #[.int .i64 (r1).kind, .string (r1).name, .slice A1 n1 k1, .slice C1 m1 d1] 29)).alloc (.cells #[.int .i64 7, .string ⟨#[]⟩, .slice none 0 0, .slice (some ⟨u1.heap.size, 0, none⟩) 1 1, .int .i64 (r2).kind, .string (r2).name, .slice A2 n2 k2, .slice C2 m2 d2] 29)).heap.size = u1.heap.size + 1 + 1 := by rw [World.size_alloc, World.size_alloc]
  rw [e1] at g2
  rw [e2] at g3
  have ss : u1.heap.size + 1 + 1 < (((u1.alloc (.cells #[.int .i64 (r1).kind, .string (r1).name, .slice A1 n1 k1, .slice C1 m1 d1] 29)).alloc (.cells #[.int .i64 7, .string ⟨#[]⟩, .slice none 0 0, .slice (some ⟨u1.heap.size, 0, none⟩) 1 1, .int .i64 (r2).kind, .string (r2).name, .slice A2 n2 k2, .slice C2 m2 d2] 29)).alloc (.cells #[.int .i64 5, .string ⟨#[]⟩, .slice none 0 0, .slice (some ⟨u1.heap.size + 1, 0, none⟩) 2 2] 29)).heap.size := by simp
  clear e1 e2
  generalize hw : (((u1.alloc (.cells #[.int .i64 (r1).kind, .string (r1).name, .slice A1 n1 k1, .slice C1 m1 d1] 29)).alloc (.cells #[.int .i64 7, .string ⟨#[]⟩, .slice none 0 0, .slice (some ⟨u1.heap.size, 0, none⟩) 1 1, .int .i64 (r2).kind, .string (r2).name, .slice A2 n2 k2, .slice C2 m2 d2] 29)).alloc (.cells #[.int .i64 5, .string ⟨#[]⟩, .slice none 0 0, .slice (some ⟨u1.heap.size + 1, 0, none⟩) 2 2] 29)) = u2 at *
  clear hw
  have HS4' := Lib.hid g1
  have HS5' := Lib.hid g2
  have HS6' := Lib.hid g3
  clear g1 g2 g3
  have hzz : u1.heap.size ≤ u2.heap.size := hbx.size
  replace Hb := Lib.hid (Hb.out.trans (hbx.mono Hb.out.size))
  replace HF1 := Lib.hid (HF1.out.grow hbx)
  replace HB1 := Lib.hid (HB1.out.below hbx hz1)
  replace hz1 := Nat.lt_of_lt_of_le hz1 hzz
  replace HF2 := Lib.hid (HF2.out.grow hbx)
  replace HB2 := Lib.hid (HB2.out.below hbx hz2)
  replace hz2 := Nat.lt_of_lt_of_le hz2 hzz
  replace HF3 := Lib.hid (HF3.out.grow hbx)
  replace HB3 := Lib.hid (HB3.out.below hbx hz3)
  replace hz3 := Nat.lt_of_lt_of_le hz3 hzz
  replace HF4 := Lib.hid (HF4.out.grow hbx)
  replace HB4 := Lib.hid (HB4.out.below hbx hz4)
  replace hz4 := Nat.lt_of_lt_of_le hz4 hzz
  replace HF5 := Lib.hid (HF5.out.grow hbx)
  replace HB5 := Lib.hid (HB5.out.below hbx hz5)
  replace hz5 := Nat.lt_of_lt_of_le hz5 hzz
  replace HF6 := Lib.hid (HF6.out.grow hbx)
  replace HB6 := Lib.hid (HB6.out.below hbx hz6)
  replace hz6 := Nat.lt_of_lt_of_le hz6 hzz
  replace HS1 := Lib.hid (HS1.out.below hbx hs1)
  replace hs1 := Nat.lt_of_lt_of_le hs1 hzz
  replace HS2 := Lib.hid (HS2.out.below hbx hs2)
  replace hs2 := Nat.lt_of_lt_of_le hs2 hzz
  replace HS3 := Lib.hid (HS3.out.below hbx hs3)
  replace hs3 := Nat.lt_of_lt_of_le hs3 hzz
  clear hbx hzz
  have HS4 := HS4'
  clear HS4'
  have hs4 : u1.heap.size < u2.heap.size := by omega
  have HS5 := HS5'
  clear HS5'
  have hs5 : u1.heap.size + 1 < u2.heap.size := by omega
  have HS6 := HS6'
  clear HS6'
  have hs6 : u1.heap.size + 1 + 1 < u2.heap.size := by omega
  clear ss
  obtain ⟨x0, x1, x2, x3, _, _, _, _⟩ := HB4.out.four
  obtain ⟨y0, y1, y2, y3, _, _, _, _⟩ := HS3.out.four
  have cs := same_q HQW4.out u2 _ _ _ _ _ _ _ _ (HF4.out.at_ fun b hS => hS.2) (show QAt u2 u2.heap.size Q1 [.int .i64 6, .string ⟨#[]⟩, .slice none 0 0, .slice (some ⟨v9.heap.size + 1, 0, none⟩) 2 2] by rw [HQ1.out]; exact two_at 6 (HF1.out.at_ fun b hS => hS.2) (two_at 5 (HF2.out.at_ fun b hS => hS.2) (HF3.out.at_ fun b hS => hS.2) HS1.out) HS2.out)
  go_wp2_with fail
  refine cs.mono ?_
  rintro e u3 ⟨rfl, hd⟩
  clear cs x0 x1 x2 x3 y0 y1 y2 y3
  have hzz : u2.heap.size ≤ u3.heap.size := hd.size
  replace Hb := Lib.hid (Hb.out.trans (hd.mono Hb.out.size))
  replace HF1 := Lib.hid (HF1.out.grow hd)
  replace HB1 := Lib.hid (HB1.out.below hd hz1)
  replace hz1 := Nat.lt_of_lt_of_le hz1 hzz
  replace HF2 := Lib.hid (HF2.out.grow hd)
  replace HB2 := Lib.hid (HB2.out.below hd hz2)
  replace hz2 := Nat.lt_of_lt_of_le hz2 hzz
  replace HF3 := Lib.hid (HF3.out.grow hd)
  replace HB3 := Lib.hid (HB3.out.below hd hz3)
  replace hz3 := Nat.lt_of_lt_of_le hz3 hzz
  replace HF4 := Lib.hid (HF4.out.grow hd)
  replace HB4 := Lib.hid (HB4.out.below hd hz4)
  replace hz4 := Nat.lt_of_lt_of_le hz4 hzz
  replace HF5 := Lib.hid (HF5.out.grow hd)
  replace HB5 := Lib.hid (HB5.out.below hd hz5)
  replace hz5 := Nat.lt_of_lt_of_le hz5 hzz
  replace HF6 := Lib.hid (HF6.out.grow hd)
  replace HB6 := Lib.hid (HB6.out.below hd hz6)
  replace hz6 := Nat.lt_of_lt_of_le hz6 hzz
  replace HS1 := Lib.hid (HS1.out.below hd hs1)
  replace hs1 := Nat.lt_of_lt_of_le hs1 hzz
  replace HS2 := Lib.hid (HS2.out.below hd hs2)
  replace hs2 := Nat.lt_of_lt_of_le hs2 hzz
  replace HS3 := Lib.hid (HS3.out.below hd hs3)
  replace hs3 := Nat.lt_of_lt_of_le hs3 hzz
  replace HS4 := Lib.hid (HS4.out.below hd hs4)
  replace hs4 := Nat.lt_of_lt_of_le hs4 hzz
  replace HS5 := Lib.hid (HS5.out.below hd hs5)
  replace hs5 := Nat.lt_of_lt_of_le hs5 hzz
  replace HS6 := Lib.hid (HS6.out.below hd hs6)
  replace hs6 := Nat.lt_of_lt_of_le hs6 hzz
  clear hd hzz
  obtain ⟨x0, x1, x2, x3, _, _, _, _⟩ := HB5.out.four
  obtain ⟨y0, y1, y2, y3, _, _, _, _⟩ := HS6.out.four
  have cs := same_q HQW5.out u3 _ _ _ _ _ _ _ _ (HF5.out.at_ fun b hS => hS.2) (show QAt u3 u3.heap.size Q2 [.int .i64 5, .string ⟨#[]⟩, .slice none 0 0, .slice (some ⟨u1.heap.size + 1, 0, none⟩) 2 2] by rw [HQ2.out]; exact two_at 5 (one_at 7 (HF1.out.at_ fun b hS => hS.2) HS4.out) (HF2.out.at_ fun b hS => hS.2) HS5.out)
  go_wp2_with fail
  refine cs.mono ?_
  rintro e u4 ⟨rfl, hd⟩
  clear cs x0 x1 x2 x3 y0 y1 y2 y3
  have hzz : u3.heap.size ≤ u4.heap.size := hd.size
  replace Hb := Lib.hid (Hb.out.trans (hd.mono Hb.out.size))
  replace HF1 := Lib.hid (HF1.out.grow hd)
  replace HB1 := Lib.hid (HB1.out.below hd hz1)
  replace hz1 := Nat.lt_of_lt_of_le hz1 hzz
  replace HF2 := Lib.hid (HF2.out.grow hd)
  replace HB2 := Lib.hid (HB2.out.below hd hz2)
  replace hz2 := Nat.lt_of_lt_of_le hz2 hzz
  replace HF3 := Lib.hid (HF3.out.grow hd)
  replace HB3 := Lib.hid (HB3.out.below hd hz3)
  replace hz3 := Nat.lt_of_lt_of_le hz3 hzz
  replace HF4 := Lib.hid (HF4.out.grow hd)
  replace HB4 := Lib.hid (HB4.out.below hd hz4)
  replace hz4 := Nat.lt_of_lt_of_le hz4 hzz
  replace HF5 := Lib.hid (HF5.out.grow hd)
  replace HB5 := Lib.hid (HB5.out.below hd hz5)
  replace hz5 := Nat.lt_of_lt_of_le hz5 hzz
  replace HF6 := Lib.hid (HF6.out.grow hd)
  replace HB6 := Lib.hid (HB6.out.below hd hz6)
  replace hz6 := Nat.lt_of_lt_of_le hz6 hzz
  replace HS1 := Lib.hid (HS1.out.below hd hs1)
  replace hs1 := Nat.lt_of_lt_of_le hs1 hzz
  replace HS2 := Lib.hid (HS2.out.below hd hs2)
  replace hs2 := Nat.lt_of_lt_of_le hs2 hzz
  replace HS3 := Lib.hid (HS3.out.below hd hs3)
  replace hs3 := Nat.lt_of_lt_of_le hs3 hzz
  replace HS4 := Lib.hid (HS4.out.below hd hs4)
  replace hs4 := Nat.lt_of_lt_of_le hs4 hzz
  replace HS5 := Lib.hid (HS5.out.below hd hs5)
  replace hs5 := Nat.lt_of_lt_of_le hs5 hzz
  replace HS6 := Lib.hid (HS6.out.below hd hs6)
  replace hs6 := Nat.lt_of_lt_of_le hs6 hzz
  clear hd hzz
  obtain ⟨x0, x1, x2, x3, _, _, _, _⟩ := HB6.out.four
  obtain ⟨y0, y1, y2, y3, _, _, _, _⟩ := HB1.out.four
  have cs := same_q HQW6.out u4 _ _ _ _ _ _ _ _ (HF6.out.at_ fun b hS => hS.2) ((HF1.out.at_ fun b hS => hS.2))
  go_wp2_with fail
  refine cs.mono ?_
  rintro e u5 ⟨rfl, hd⟩
  clear cs x0 x1 x2 x3 y0 y1 y2 y3
  have hzz : u4.heap.size ≤ u5.heap.size := hd.size
  replace Hb := Lib.hid (Hb.out.trans (hd.mono Hb.out.size))
  replace HF1 := Lib.hid (HF1.out.grow hd)
  replace HB1 := Lib.hid (HB1.out.below hd hz1)
  replace hz1 := Nat.lt_of_lt_of_le hz1 hzz
  replace HF2 := Lib.hid (HF2.out.grow hd)
  replace HB2 := Lib.hid (HB2.out.below hd hz2)
  replace hz2 := Nat.lt_of_lt_of_le hz2 hzz
  replace HF3 := Lib.hid (HF3.out.grow hd)
  replace HB3 := Lib.hid (HB3.out.below hd hz3)
  replace hz3 := Nat.lt_of_lt_of_le hz3 hzz
  replace HF4 := Lib.hid (HF4.out.grow hd)
  replace HB4 := Lib.hid (HB4.out.below hd hz4)
  replace hz4 := Nat.lt_of_lt_of_le hz4 hzz
  replace HF5 := Lib.hid (HF5.out.grow hd)
  replace HB5 := Lib.hid (HB5.out.below hd hz5)
  replace hz5 := Nat.lt_of_lt_of_le hz5 hzz
  replace HF6 := Lib.hid (HF6.out.grow hd)
  replace HB6 := Lib.hid (HB6.out.below hd hz6)
  replace hz6 := Nat.lt_of_lt_of_le hz6 hzz
  replace HS1 := Lib.hid (HS1.out.below hd hs1)
  replace hs1 := Nat.lt_of_lt_of_le hs1 hzz
  replace HS2 := Lib.hid (HS2.out.below hd hs2)
  replace hs2 := Nat.lt_of_lt_of_le hs2 hzz
  replace HS3 := Lib.hid (HS3.out.below hd hs3)
  replace hs3 := Nat.lt_of_lt_of_le hs3 hzz
  replace HS4 := Lib.hid (HS4.out.below hd hs4)
  replace hs4 := Nat.lt_of_lt_of_le hs4 hzz
  replace HS5 := Lib.hid (HS5.out.below hd hs5)
  replace hs5 := Nat.lt_of_lt_of_le hs5 hzz
  replace HS6 := Lib.hid (HS6.out.below hd hs6)
  replace hs6 := Nat.lt_of_lt_of_le hs6 hzz
  clear hd hzz
  have ca := awake17 u5
  go_wp2_with fail
  refine ca.mono ?_
  rintro e wa ⟨rfl, ha⟩
  have Ha := Lib.hid (Hb.out.trans (ha.mono Hb.out.size))
  clear ca ha
  go_wp2_with fail
  go_ret
  exact ⟨rfl, Ha.out⟩
end Go.Proofs.Ytceekocfmbcobaa.Qp
