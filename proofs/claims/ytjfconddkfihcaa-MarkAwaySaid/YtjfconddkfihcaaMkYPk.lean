/- MarkAway: the law's walk (printed by gen_mky.py). -/
import Derived.Test.YtjfconddkfihcaaMkXPk
namespace Go.Proofs.Ytjfconddkfihcaa.Mk
open Go.RowKit Go.Proofs.Ytjfconddkfihcaa Go.Proofs.Ytjfconddkfihcaa.Ut Go.Proofs.Ytjfconddkfihcaa.Tk Go.Proofs.Ytjfconddkfihcaa.Qy
set_option maxRecDepth 20000
set_option linter.unusedSimpArgs false

theorem mid_at {T a b : List UInt8} {P : Nat} (h : T.drop P = a ++ b) : (T.take (P + a.length)).drop P = a ∧ T.drop (P + a.length) = b := by
  constructor
  · rw [List.drop_take, Nat.add_sub_cancel_left, h, List.take_left]
  · rw [← List.drop_drop, h, List.drop_left]
theorem ext_of (t : ByteArray) (i j : Nat) (x : List UInt8) (h : (t.data.toList.take j).drop i = x) : t.extract i j = str x := by
  rw [← of_str (t.extract i j), extract_list, h]
theorem away_step (s b e t : ByteArray) (at_ x1 x2 km : Nat) (r : List (Nat × Nat)) (h1 : at_ ≤ x1) (h2 : x1 < x2) (h3 : x2 ≤ s.size)
    (hD : t.data.toList.drop (at_ + km) = textN s.data.toList b.data.toList e.data.toList at_ ((x1, x2) :: r)) (hP : at_ + km ≤ t.size) :
    t.extract (at_ + km) (x1 + km) = s.extract at_ x1 ∧ t.extract (x1 + km) (x1 + km + b.size) = b ∧ t.extract (x1 + km + b.size) (x1 + km + b.size + (x2 - x1)) = s.extract x1 x2 ∧
    t.extract (x1 + km + b.size + (x2 - x1)) (x1 + km + b.size + (x2 - x1) + e.size) = e ∧ t.data.toList.drop (x2 + (km + (b.size + e.size))) = textN s.data.toList b.data.toList e.data.toList x2 r ∧ x2 + (km + (b.size + e.size)) ≤ t.size := by
  simp only [textN, List.append_assoc] at hD
  have l1 : ((s.data.toList.take x1).drop at_).length = x1 - at_ := by rw [List.length_drop, List.length_take, bsize]; omega
  have l2 : ((s.data.toList.take x2).drop x1).length = x2 - x1 := by rw [List.length_drop, List.length_take, bsize]; omega
  have lb : b.data.toList.length = b.size := bsize b
  have le : e.data.toList.length = e.size := bsize e
  obtain ⟨a1, d1⟩ := mid_at hD
  rw [l1] at a1 d1
  have e1 : at_ + km + (x1 - at_) = x1 + km := by omega
  rw [e1] at a1 d1
  obtain ⟨a2, d2⟩ := mid_at d1
  rw [lb] at a2 d2
  obtain ⟨a3, d3⟩ := mid_at d2
  rw [l2] at a3 d3
  obtain ⟨a4, d4⟩ := mid_at d3
  rw [le] at a4 d4
  have hlen := congrArg List.length hD
  rw [List.length_drop, bsize] at hlen
  simp only [List.length_append] at hlen
  rw [l1, l2, lb, le] at hlen
  have e2 : x1 + km + b.size + (x2 - x1) + e.size = x2 + (km + (b.size + e.size)) := by omega
  refine ⟨?_, ?_, ?_, ?_, ?_, by omega⟩
  · rw [ext_of t _ _ _ a1, ← extract_list, of_str]
  · rw [ext_of t _ _ _ a2, of_str]
  · rw [ext_of t _ _ _ a3, ← extract_list, of_str]
  · rw [ext_of t _ _ _ a4, of_str]
  · rw [← e2]; exact d4
theorem back_step (s : ByteArray) (at_ x1 x2 : Nat) (h1 : at_ ≤ x1) (h2 : x1 < x2) : s.extract 0 at_ ++ s.extract at_ x1 ++ s.extract x1 x2 = s.extract 0 x2 := by
  apply ba_ext
  rw [app_list, app_list, extract_list, extract_list, extract_list, extract_list]
  have a : ∀ (l : List UInt8) (i j : Nat), i ≤ j → l.take i ++ (l.take j).drop i = l.take j := fun l i j h => by
    have := List.take_append_drop i (l.take j)
    rwa [List.take_take, Nat.min_eq_left h] at this
  rw [List.drop_zero, List.drop_zero, a _ _ _ h1, a _ _ _ (by omega)]
theorem back_end (s t b e : ByteArray) (at_ km : Nat) (hD : t.data.toList.drop (at_ + km) = textN s.data.toList b.data.toList e.data.toList at_ []) : s.extract 0 at_ ++ t.extract (at_ + km) t.size = s := by
  apply ba_ext
  rw [app_list, extract_list, extract_list, List.drop_zero]
  rw [textN] at hD
  rw [← bsize t, List.take_length, hD, List.take_append_drop]
theorem text_size (s b e : ByteArray) (l : List (Nat × Nat)) (h : okS 0 s.size l) : (str (textN s.data.toList b.data.toList e.data.toList 0 l)).size = s.size + l.length * (b.size + e.size) := by
  have := textN_len s.data.toList b.data.toList e.data.toList l 0 (by rw [bsize]; exact h)
  rw [bsize, bsize, bsize] at this
  rw [str_size]
  omega

set_option maxHeartbeats 12800000 in
theorem markAway_walk (q : Q) (hq : QSz q) (a0 a1 a2 a3 : Value) (s0 b0 e0 : ByteArray) (w : World) (hs : s0.size ≤ 140737488351232) (hs1 : b0.size ≤ 140737488351232) (hs2 : e0.size ≤ 140737488351232) (hQ : QAt w w.heap.size q [a0, a1, a2, a3]) :
    Calls Try.prog 5 #[.agg #[a0, a1, a2, a3], .string s0, .string b0, .string e0] w fun e w' => e = .returned (.bool true) ∧ Below w.heap.size w w' := by
  have k1 := fun w => mcut_any s0 w hs
  have k2 := fun w => mcut_any b0 w hs1
  have k3 := fun w => mcut_any e0 w hs2
  have zs0 := ct_size 400 s0
  have zb0 := ct_size 400 b0
  have ze0 := ct_size 400 e0
  generalize ct 400 s0 = s at *
  generalize ct 400 b0 = b at *
  generalize ct 400 e0 = e at *
  obtain ⟨hok, hcnt⟩ := spansQ_ok q ⟨#[109, 115, 103]⟩ s
  have c1 := fun (hw : wq q ≤ 300) b0 b1 b2 b3 wx (h : QAt wx wx.heap.size q [b0, b1, b2, b3]) => spans_any q (by omega) b0 b1 b2 b3 ⟨#[109, 115, 103]⟩ s (by omega) wx h
  generalize spansQ q ⟨#[109, 115, 103]⟩ s = l at *
  have hml : ∀ k, k ≤ l.length → k * (b.size + e.size) ≤ 320000 := fun k h => Nat.mul_le_mul (show k ≤ 400 by omega) (show b.size + e.size ≤ 800 by omega)
  have c2 := fun (A : Option Addr) (c : Nat) wx (hR : Reads wx wx.heap.size 2 A l.length (spC l)) => text_okL s b e A c l hok (by omega) (by have := hml l.length (Nat.le_refl _); omega) wx hR
  have htz := text_size s b e l hok
  have hstart : (str (textN s.data.toList b.data.toList e.data.toList 0 l)).data.toList.drop (0 + 0) = textN s.data.toList b.data.toList e.data.toList 0 (l.drop 0) := by rw [str_data]; simp
  generalize str (textN s.data.toList b.data.toList e.data.toList 0 l) = t at *
  generalize hLM : l.length * (b.size + e.size) = LM at *
  have hLM6 : LM ≤ 320000 := by have := hml l.length (Nat.le_refl _); omega
  have hmw : IntKind.i64.wrap ((l.length : Int) * ((b.size : Int) + (e.size : Int))) = (LM : Int) := by
    have h : (l.length : Int) * ((b.size : Int) + (e.size : Int)) = (LM : Int) := by rw [← hLM]; push_cast; rfl
    rw [h]; exact IntWalk.i64_in _ (by omega)
  have htz' : (t.size : Int) = (s.size : Int) + (LM : Int) := by omega
  obtain ⟨k0, nm, WA, m, wc, CA, n1, c2', e'⟩ := (show ∃ k nm A n c C m d, [a0, a1, a2, a3] = [.int .i64 k, .string nm, .slice A n c, .slice C m d] by cases hQ; exact ⟨_, _, _, _, _, _, _, _, rfl⟩)
  simp only [List.cons.injEq, and_true] at e'
  obtain ⟨rfl, rfl, rfl, rfl⟩ := e'
  have hb1 : Below w.heap.size w (w.alloc (.cells #[.int .i64 k0, .string nm, .slice WA m wc, .slice CA n1 c2'] 37)) := (Below.refl _ _).alloc (Nat.le_refl _) _
  have hB1 := Blk.new w 37 #[.int .i64 k0, .string nm, .slice WA m wc, .slice CA n1 c2']
  have hz1' : w.heap.size < (w.alloc (.cells #[.int .i64 k0, .string nm, .slice WA m wc, .slice CA n1 c2'] 37)).heap.size := by simp
  have hf := rfew_any q hq _ _ _ _ _ (hQ.grow hb1)
  have HQ1 := Lib.hid (hQ.grow hb1)
  have Hb1 := Lib.hid hb1
  have HB1 := Lib.hid hB1
  have Hf := Lib.hid hf
  have C1 := Lib.hid c1
  have C2 := Lib.hid c2
  have K1 := Lib.hid k1
  have K2 := Lib.hid k2
  have K3 := Lib.hid k3
  have Hok := Lib.hid hok
  have Htz := Lib.hid htz
  have Htz' := Lib.hid htz'
  have Hst := Lib.hid hstart
  have Hml := Lib.hid hml
  have HLM := Lib.hid hLM
  clear hQ hb1 hB1 c1 c2 hok hf k1 k2 k3 hq hstart htz hml hLM htz'
  go_enter Try.func5, Try.ntmps5
  go_wp2_with fail
  generalize hw1 : (w.alloc (.cells #[.int .i64 k0, .string nm, .slice WA m wc, .slice CA n1 c2'] 37)) = w1 at *
  clear hw1
  have hcells : ∀ wx, Below w1.heap.size w1 wx → wx.cell? ⟨w.heap.size, 0, none⟩ = some (.int .i64 k0) ∧ wx.cell? ⟨w.heap.size, 1, none⟩ = some (.string nm) ∧ wx.cell? ⟨w.heap.size, 2, none⟩ = some (.slice WA m wc) ∧ wx.cell? ⟨w.heap.size, 3, none⟩ = some (.slice CA n1 c2') := fun wx hC =>
    have hB := HB1.out.below hC hz1'
    ⟨hB.cell 0, hB.cell 1, hB.cell 2, hB.cell 3⟩
  have Hcells := Lib.hid hcells
  clear hcells HB1
  refine Hf.out.mono ?_
  rintro e2 w2 ⟨⟨tt, rfl, ht⟩, hb2⟩
  have Ht := Lib.hid ht
  have Hb2 := Lib.hid hb2
  have hS2 := Hcells.out w2 hb2
  have HQ2 := Lib.hid (HQ1.out.grow hb2)
  clear Hf ht hb2
  cases tt with
  | false =>
    clear hS2
    go_wp2_with fail
    refine (awake_any _).mono ?_
    rintro e3 w3 ⟨rfl, hb3⟩
    have Hb3 := Lib.hid (Hb1.out.trans ((Hb2.out.trans (hb3.mono Hb2.out.size)).mono Hb1.out.size))
    clear hb3
    go_wp2
    go_ret
    exact ⟨rfl, Hb3.out⟩
  | true =>
    have hwq := Ht.out rfl
    have c1 := C1.out hwq _ _ _ _ w2 HQ2.out
    have Hc1 := Lib.hid c1
    clear C1 c1 hwq Ht
    go_wp2_with fail
    refine (K1.out _).mono ?_
    rintro e3 w3 ⟨rfl, hw3⟩
    subst hw3
    clear K1
    go_wp2_with fail
    refine (K2.out _).mono ?_
    rintro e3 w3 ⟨rfl, hw3⟩
    subst hw3
    clear K2
    go_wp2_with fail
    refine (K3.out _).mono ?_
    rintro e3 w3 ⟨rfl, hw3⟩
    subst hw3
    clear K3
    go_wp2_with fail
    refine Hc1.out.mono ?_
    rintro e3 w3 ⟨v3, rfl, hown3, hb3⟩
    obtain ⟨A3, d3, rfl, hR3⟩ := own_shape hown3
    have c2 := C2.out A3 d3 w3 hR3
    have Hc2 := Lib.hid c2
    have HR3 := Lib.hid hR3
    have Hb3 := Lib.hid (Hb2.out.trans (hb3.mono Hb2.out.size))
    clear hown3 hR3 hb3 Hc1 hS2 C2 c2 Hb2 HQ1 HQ2 Hcells
    go_wp2_with fail
    refine Hc2.out.mono ?_
    rintro e4 w4 ⟨rfl, hb4⟩
    have HR4 := Lib.hid (reads_grow hb4 HR3.out)
    have Hb4 := Lib.hid (Hb1.out.trans ((Hb3.out.trans (hb4.mono Hb3.out.size)).mono Hb1.out.size))
    clear hb4 Hc2 Hb3 HR3 Hb1
    have htz1 := Htz'.out
    go_wp2_with fail
    clear htz1
    go_loopw [12, 13, 14] (fun a v i wr => ∃ (k at_ km : Nat), k ≤ l.length ∧ i = .int .i64 (k : Nat) ∧ v = .int .i64 (at_ : Nat) ∧ a = .string (s.extract 0 at_) ∧ Hid (k * (b.size + e.size) = km) ∧ at_ ≤ s.size ∧ Hid (okS at_ s.size (l.drop k)) ∧ Hid (t.data.toList.drop (at_ + km) = textN s.data.toList b.data.toList e.data.toList at_ (l.drop k)) ∧ Hid (at_ + km ≤ t.size) ∧ Below w4.heap.size w4 wr) (fun _ _ i _ => l.length - (intOf i).toNat)
    case atStart => exact ⟨0, 0, 0, Nat.zero_le _, rfl, rfl, congrArg Value.string (ba_ext _ _ (by rw [extract_list]; simp)), Lib.hid (Nat.zero_mul _), Nat.zero_le _, Hok, Hst, Lib.hid (Nat.zero_le _), Below.refl _ _⟩
    case round =>
      obtain ⟨k, at_, km, hk, rfl, rfl, rfl, hKM, hat, hO, hD, hP, hb⟩ := hrel
      have Hb := Lib.hid hb
      have hkm6 : km ≤ 320000 := by have := Hml.out k hk; rw [hKM.out] at this; exact this
      by_cases hlt : k < l.length
      · obtain ⟨bb, o, rfl, hbb, y0, y1⟩ := spans_at (reads_grow hb HR4.out) hlt
        have hk0 : (0 : Int) ≤ (k : Int) := by omega
        have hk1 : (k : Int) < (l.length : Int) := by omega
        have hdr : l.drop k = l[k] :: l.drop (k + 1) := List.drop_eq_getElem_cons hlt
        have hO1 := hO.out
        have hD1 := hD.out
        rw [hdr] at hO1 hD1
        clear hdr hO hD
        generalize l[k] = x at *
        obtain ⟨x1, x2⟩ := x
        obtain ⟨q1, q2, q3, q4⟩ := hO1
        simp only at y0 y1 q1 q2 q3 q4
        obtain ⟨f1, f2, f3, f4, f5, f6⟩ := away_step s b e t at_ x1 x2 km _ q1 q2 q3 hD1 hP.out
        have f7 := back_step s at_ x1 x2 q1 q2
        have zp1 : (s.extract at_ x1).size ≤ 400 := by rw [ByteArray.size_extract]; omega
        have zp2 : (s.extract x1 x2).size ≤ 400 := by rw [ByteArray.size_extract]; omega
        have zbk : (s.extract 0 at_).size ≤ 400 := by rw [ByteArray.size_extract]; omega
        have HF7 := Lib.hid f7
        generalize s.extract at_ x1 = p1 at *
        generalize s.extract x1 x2 = p2 at *
        generalize s.extract 0 at_ = bk at *
        have Ho4 := Lib.hid q4
        have Hf5 := Lib.hid f5
        have Hf6 := Lib.hid f6
        have hkmw : IntKind.i64.wrap ((k : Int) * ((b.size : Int) + (e.size : Int))) = (km : Int) := by
          have h : (k : Int) * ((b.size : Int) + (e.size : Int)) = (km : Int) := by rw [← hKM.out]; push_cast; rfl
          rw [h]; exact IntWalk.i64_in _ (by omega)
        have hmbe : IntKind.i64.wrap ((b.size : Int) + (e.size : Int)) = (b.size : Int) + (e.size : Int) := IntWalk.i64_in _ (by omega)
        obtain ⟨nn, hnn⟩ : ∃ nn : Nat, nn = x2 - x1 := ⟨_, rfl⟩
        rw [← hnn] at f3 f4
        obtain ⟨FF, hFF⟩ : ∃ FF : Nat, FF = x1 + km := ⟨_, rfl⟩
        rw [← hFF] at f1 f2 f3 f4
        have hnw : IntKind.i64.wrap ((x2 : Int) - (x1 : Int)) = (nn : Int) := by rw [IntWalk.i64_in _ (by omega)]; omega
        have hFw : (x1 : Int) + (km : Int) = (FF : Int) := by omega
        have hF6 : FF ≤ 320400 := by omega
        have hn6 : nn ≤ 400 := by omega
        have htz2 : t.size ≤ 320400 := by have := Htz.out; omega
        have htf : FF + b.size + nn + e.size ≤ t.size := by have := Hf6.out; omega
        have hwA : IntKind.i64.wrap ((at_ : Int) + (km : Int)) = (at_ : Int) + (km : Int) := IntWalk.i64_in _ (by omega)
        have hwB : IntKind.i64.wrap ((FF : Int) + (b.size : Int)) = (FF : Int) + (b.size : Int) := IntWalk.i64_in _ (by omega)
        have hwC : IntKind.i64.wrap ((FF : Int) + (b.size : Int) + (nn : Int)) = (FF : Int) + (b.size : Int) + (nn : Int) := IntWalk.i64_in _ (by omega)
        have n1 : (at_ : Int) + (km : Int) = ((at_ + km : Nat) : Int) := by omega
        have n2 : (FF : Int) + (b.size : Int) = ((FF + b.size : Nat) : Int) := by omega
        have n3 : (FF : Int) + (b.size : Int) + (nn : Int) = ((FF + b.size + nn : Nat) : Int) := by omega
        have n4 : (FF : Int) + (b.size : Int) + (nn : Int) + (e.size : Int) = ((FF + b.size + nn + e.size : Nat) : Int) := by omega
        have hsl1 : ∀ W : World, (Instr.slice 9 (.string t) (some (.int .i64 ((at_ : Int) + (km : Int)))) (some (.int .i64 (FF : Nat))) none).run Try.prog W = .ok (.string p1) W := fun W => by
          rw [n1, run_slice_string W 9 t .i64 .i64 _ _ Try.underlying9 (by omega) (by omega) (by omega)]
          simp only [Int.toNat_natCast]
          rw [f1]
        have hsl2 : ∀ W : World, (Instr.slice 9 (.string t) (some (.int .i64 (FF : Nat))) (some (.int .i64 ((FF : Int) + (b.size : Int)))) none).run Try.prog W = .ok (.string b) W := fun W => by
          rw [n2, run_slice_string W 9 t .i64 .i64 _ _ Try.underlying9 (by omega) (by omega) (by omega)]
          simp only [Int.toNat_natCast]
          rw [f2]
        have hsl3 : ∀ W : World, (Instr.slice 9 (.string t) (some (.int .i64 ((FF : Int) + (b.size : Int)))) (some (.int .i64 ((FF : Int) + (b.size : Int) + (nn : Int)))) none).run Try.prog W = .ok (.string p2) W := fun W => by
          rw [n3, n2, run_slice_string W 9 t .i64 .i64 _ _ Try.underlying9 (by omega) (by omega) (by omega)]
          simp only [Int.toNat_natCast]
          rw [f3]
        have hsl4 : ∀ W : World, (Instr.slice 9 (.string t) (some (.int .i64 ((FF : Int) + (b.size : Int) + (nn : Int)))) (some (.int .i64 ((FF : Int) + (b.size : Int) + (nn : Int) + (e.size : Int)))) none).run Try.prog W = .ok (.string e) W := fun W => by
          rw [n4, n3, run_slice_string W 9 t .i64 .i64 _ _ Try.underlying9 (by omega) (by omega) (by omega)]
          simp only [Int.toNat_natCast]
          rw [f4]
        have hcA : ¬ 9223372036854775807 < bk.size + p1.size := by omega
        have hcB : ¬ 9223372036854775807 < bk.size + p1.size + p2.size := by omega
        have g1 : ((x1 : Int) < (at_ : Int)) = False := by rw [eq_iff_iff, iff_false]; omega
        have g2 : ((x2 : Int) ≤ (x1 : Int)) = False := by rw [eq_iff_iff, iff_false]; omega
        have g3 : ((s.size : Int) < (x2 : Int)) = False := by rw [eq_iff_iff, iff_false]; omega
        have hcells : ∀ wx, Below wr.heap.size wr wx → wx.cell? ⟨bb, o + k * 2, none⟩ = some (.int .i64 (x1 : Nat)) ∧ wx.cell? ⟨bb, o + k * 2 + 1, none⟩ = some (.int .i64 (x2 : Nat)) := fun wx hC =>
          ⟨(hC.cell (p := ⟨bb, o + k * 2, none⟩) hbb).trans y0, (hC.cell (p := ⟨bb, o + k * 2 + 1, none⟩) hbb).trans y1⟩
        have Hcells := Lib.hid hcells
        clear hcells n1 n2 n3 n4 f1 f2 f3 f4 f5 f6 f7 y0 y1 q4 hD1 hb hnn hFF htf htz2 hP
        go_wp2_with fail
        refine wp_region_grow (specOf []) (fun wx => Below (World.heap wr).size wr wx) (fun w1 w2 => Below w1.heap.size w1 w2) (by kernel_rfl) (by kernel_rfl) (stab_nil) (Below.refl _ _).drew ?_
        refine grow_fix 1 ?_ rfl (by rfl) (by rfl) (fun wx hC hD => ?_) ?_
        rotate_left
        · have hSw := Hcells.out wx hC
          go_simp
          all_goals with_reducible rfl
        try simp only [Act.put, List.setIfInBounds_toArray, List.set_cons_zero, List.set_cons_succ]
        refine grow_fix 2 ?_ rfl (by rfl) (by rfl) (fun wx hC hD => ?_) ?_
        rotate_left
        · have hSw := Hcells.out wx hC
          go_simp
          all_goals with_reducible rfl
        try simp only [Act.put, List.setIfInBounds_toArray, List.set_cons_zero, List.set_cons_succ]
        refine grow_fix 3 ?_ rfl (by rfl) (by rfl) (fun wx hC hD => ?_) ?_
        rotate_left
        · have hSw := Hcells.out wx hC
          go_simp
          all_goals with_reducible rfl
        try simp only [Act.put, List.setIfInBounds_toArray, List.set_cons_zero, List.set_cons_succ]
        refine grow_fix 4 ?_ rfl (by rfl) (by rfl) (fun wx hC hD => ?_) ?_
        rotate_left
        · have hSw := Hcells.out wx hC
          go_simp
          all_goals with_reducible rfl
        try simp only [Act.put, List.setIfInBounds_toArray, List.set_cons_zero, List.set_cons_succ]
        refine grow_fix 5 ?_ rfl (by rfl) (by rfl) (fun wx hC hD => ?_) ?_
        rotate_left
        · have hSw := Hcells.out wx hC
          go_simp
          all_goals with_reducible rfl
        try simp only [Act.put, List.setIfInBounds_toArray, List.set_cons_zero, List.set_cons_succ]
        refine grow_fix 6 ?_ rfl (by rfl) (by rfl) (fun wx hC hD => ?_) ?_
        rotate_left
        · have hSw := Hcells.out wx hC
          go_simp
          all_goals with_reducible rfl
        try simp only [Act.put, List.setIfInBounds_toArray, List.set_cons_zero, List.set_cons_succ]
        refine grow_fix 7 ?_ rfl (by rfl) (by rfl) (fun wx hC hD => ?_) ?_
        rotate_left
        · have hSw := Hcells.out wx hC
          go_simp
          all_goals with_reducible rfl
        try simp only [Act.put, List.setIfInBounds_toArray, List.set_cons_zero, List.set_cons_succ]
        refine grow_fix 8 ?_ rfl (by rfl) (by rfl) (fun wx hC hD => ?_) ?_
        rotate_left
        · have hSw := Hcells.out wx hC
          go_simp
          all_goals with_reducible rfl
        try simp only [Act.put, List.setIfInBounds_toArray, List.set_cons_zero, List.set_cons_succ]
        refine grow_fix 9 ?_ rfl (by rfl) (by rfl) (fun wx hC hD => ?_) ?_
        rotate_left
        · have hSw := Hcells.out wx hC
          go_simp
          all_goals with_reducible rfl
        try simp only [Act.put, List.setIfInBounds_toArray, List.set_cons_zero, List.set_cons_succ]
        refine grow_fix 10 ?_ rfl (by rfl) (by rfl) (fun wx hC hD => ?_) ?_
        rotate_left
        · have hSw := Hcells.out wx hC
          go_simp
          all_goals with_reducible rfl
        try simp only [Act.put, List.setIfInBounds_toArray, List.set_cons_zero, List.set_cons_succ]
        refine grow_fix 11 ?_ rfl (by rfl) (by rfl) (fun wx hC hD => ?_) ?_
        rotate_left
        · have hSw := Hcells.out wx hC
          go_simp
          all_goals with_reducible rfl
        try simp only [Act.put, List.setIfInBounds_toArray, List.set_cons_zero, List.set_cons_succ]
        refine grow_fix 12 ?_ rfl (by rfl) (by rfl) (fun wx hC hD => ?_) ?_
        rotate_left
        · have hSw := Hcells.out wx hC
          go_simp
          all_goals with_reducible rfl
        try simp only [Act.put, List.setIfInBounds_toArray, List.set_cons_zero, List.set_cons_succ]
        refine grow_fix 13 ?_ rfl (by rfl) (by rfl) (fun wx hC hD => ?_) ?_
        rotate_left
        · have hSw := Hcells.out wx hC
          go_simp
          all_goals with_reducible rfl
        try simp only [Act.put, List.setIfInBounds_toArray, List.set_cons_zero, List.set_cons_succ]
        refine grow_fix 14 ?_ rfl (by rfl) (by rfl) (fun wx hC hD => ?_) ?_
        rotate_left
        · have hSw := Hcells.out wx hC
          go_simp
          all_goals with_reducible rfl
        try simp only [Act.put, List.setIfInBounds_toArray, List.set_cons_zero, List.set_cons_succ]
        refine grow_fix 15 ?_ rfl (by rfl) (by rfl) (fun wx hC hD => ?_) ?_
        rotate_left
        · have hSw := Hcells.out wx hC
          go_simp
          all_goals with_reducible rfl
        try simp only [Act.put, List.setIfInBounds_toArray, List.set_cons_zero, List.set_cons_succ]
        refine grow_fix 16 ?_ rfl (by rfl) (by rfl) (fun wx hC hD => ?_) ?_
        rotate_left
        · have hSw := Hcells.out wx hC
          go_simp
          all_goals with_reducible rfl
        try simp only [Act.put, List.setIfInBounds_toArray, List.set_cons_zero, List.set_cons_succ]
        refine grow_fix 17 ?_ rfl (by rfl) (by rfl) (fun wx hC hD => ?_) ?_
        rotate_left
        · have hSw := Hcells.out wx hC
          go_simp
          all_goals with_reducible rfl
        try simp only [Act.put, List.setIfInBounds_toArray, List.set_cons_zero, List.set_cons_succ]
        refine grow_fix 18 ?_ rfl (by rfl) (by rfl) (fun wx hC hD => ?_) ?_
        rotate_left
        · have hSw := Hcells.out wx hC
          go_simp
          all_goals with_reducible rfl
        try simp only [Act.put, List.setIfInBounds_toArray, List.set_cons_zero, List.set_cons_succ]
        refine grow_fix 19 ?_ rfl (by rfl) (by rfl) (fun wx hC hD => ?_) ?_
        rotate_left
        · have hSw := Hcells.out wx hC
          go_simp
          all_goals with_reducible rfl
        try simp only [Act.put, List.setIfInBounds_toArray, List.set_cons_zero, List.set_cons_succ]
        refine grow_fix 20 ?_ rfl (by rfl) (by rfl) (fun wx hC hD => ?_) ?_
        rotate_left
        · have hSw := Hcells.out wx hC
          go_simp
          all_goals with_reducible rfl
        try simp only [Act.put, List.setIfInBounds_toArray, List.set_cons_zero, List.set_cons_succ]
        refine grow_fix 21 ?_ rfl (by rfl) (by rfl) (fun wx hC hD => ?_) ?_
        rotate_left
        · have hSw := Hcells.out wx hC
          go_simp
          all_goals with_reducible rfl
        try simp only [Act.put, List.setIfInBounds_toArray, List.set_cons_zero, List.set_cons_succ]
        refine grow_fix 22 ?_ rfl (by rfl) (by rfl) (fun wx hC hD => ?_) ?_
        rotate_left
        · have hSw := Hcells.out wx hC
          go_simp
          all_goals with_reducible rfl
        try simp only [Act.put, List.setIfInBounds_toArray, List.set_cons_zero, List.set_cons_succ]
        refine grow_fix 23 ?_ rfl (by rfl) (by rfl) (fun wx hC hD => ?_) ?_
        rotate_left
        · have hSw := Hcells.out wx hC
          go_simp
          all_goals with_reducible rfl
        try simp only [Act.put, List.setIfInBounds_toArray, List.set_cons_zero, List.set_cons_succ]
        refine grow_fix 24 ?_ rfl (by rfl) (by rfl) (fun wx hC hD => ?_) ?_
        rotate_left
        · have hSw := Hcells.out wx hC
          go_simp
          all_goals with_reducible rfl
        try simp only [Act.put, List.setIfInBounds_toArray, List.set_cons_zero, List.set_cons_succ]
        refine grow_fix 25 ?_ rfl (by rfl) (by rfl) (fun wx hC hD => ?_) ?_
        rotate_left
        · have hSw := Hcells.out wx hC
          go_simp
          all_goals with_reducible rfl
        try simp only [Act.put, List.setIfInBounds_toArray, List.set_cons_zero, List.set_cons_succ]
        refine grow_fix 26 ?_ rfl (by rfl) (by rfl) (fun wx hC hD => ?_) ?_
        rotate_left
        · have hSw := Hcells.out wx hC
          go_simp
          all_goals with_reducible rfl
        try simp only [Act.put, List.setIfInBounds_toArray, List.set_cons_zero, List.set_cons_succ]
        refine grow_fix 27 ?_ rfl (by rfl) (by rfl) (fun wx hC hD => ?_) ?_
        rotate_left
        · have hSw := Hcells.out wx hC
          go_simp
          all_goals with_reducible rfl
        try simp only [Act.put, List.setIfInBounds_toArray, List.set_cons_zero, List.set_cons_succ]
        refine grow_fix 28 ?_ rfl (by rfl) (by rfl) (fun wx hC hD => ?_) ?_
        rotate_left
        · have hSw := Hcells.out wx hC
          go_simp
          all_goals with_reducible rfl
        try simp only [Act.put, List.setIfInBounds_toArray, List.set_cons_zero, List.set_cons_succ]
        refine grow_fix 29 ?_ rfl (by rfl) (by rfl) (fun wx hC hD => ?_) ?_
        rotate_left
        · have hSw := Hcells.out wx hC
          go_simp
          all_goals with_reducible rfl
        try simp only [Act.put, List.setIfInBounds_toArray, List.set_cons_zero, List.set_cons_succ]
        refine grow_fix 30 ?_ rfl (by rfl) (by rfl) (fun wx hC hD => ?_) ?_
        rotate_left
        · have hSw := Hcells.out wx hC
          go_simp
          all_goals with_reducible rfl
        try simp only [Act.put, List.setIfInBounds_toArray, List.set_cons_zero, List.set_cons_succ]
        refine grow_nil (fun w5 hC hF => ?_)
        have Hb5 := Lib.hid (Hb.out.trans (hC.mono Hb.out.size))
        have Hcells5 : Hid (∀ wx, Below w5.heap.size w5 wx → wx.cell? ⟨bb, o + k * 2, none⟩ = some (.int .i64 (x1 : Nat)) ∧ wx.cell? ⟨bb, o + k * 2 + 1, none⟩ = some (.int .i64 (x2 : Nat))) := Lib.hid (fun wx h => Hcells.out wx (hC.trans (h.mono hC.size)))
        have hS5 := Hcells5.out w5 (Below.refl _ _)
        clear hF hC Hcells Hb
        go_wp2_with fail
        refine wp_region_grow (specOf []) (fun wx => Below (World.heap w5).size w5 wx) (fun w1 w2 => Below w1.heap.size w1 w2) (by kernel_rfl) (by kernel_rfl) (stab_nil) (Below.refl _ _).drew ?_
        refine grow_fix 1 ?_ rfl (by rfl) (by rfl) (fun wx hC hD => ?_) ?_
        rotate_left
        · have hSw := Hcells5.out wx hC
          go_simp
          all_goals with_reducible rfl
        try simp only [Act.put, List.setIfInBounds_toArray, List.set_cons_zero, List.set_cons_succ]
        refine grow_fix 2 ?_ rfl (by rfl) (by rfl) (fun wx hC hD => ?_) ?_
        rotate_left
        · have hSw := Hcells5.out wx hC
          go_simp
          all_goals with_reducible rfl
        try simp only [Act.put, List.setIfInBounds_toArray, List.set_cons_zero, List.set_cons_succ]
        refine grow_fix 3 ?_ rfl (by rfl) (by rfl) (fun wx hC hD => ?_) ?_
        rotate_left
        · have hSw := Hcells5.out wx hC
          go_simp
          all_goals with_reducible rfl
        try simp only [Act.put, List.setIfInBounds_toArray, List.set_cons_zero, List.set_cons_succ]
        refine grow_fix 4 ?_ rfl (by rfl) (by rfl) (fun wx hC hD => ?_) ?_
        rotate_left
        · have hSw := Hcells5.out wx hC
          go_simp
          all_goals with_reducible rfl
        try simp only [Act.put, List.setIfInBounds_toArray, List.set_cons_zero, List.set_cons_succ]
        refine grow_fix 5 ?_ rfl (by rfl) (by rfl) (fun wx hC hD => ?_) ?_
        rotate_left
        · have hSw := Hcells5.out wx hC
          go_simp
          all_goals with_reducible rfl
        try simp only [Act.put, List.setIfInBounds_toArray, List.set_cons_zero, List.set_cons_succ]
        refine grow_fix 6 ?_ rfl (by rfl) (by rfl) (fun wx hC hD => ?_) ?_
        rotate_left
        · have hSw := Hcells5.out wx hC
          go_simp
          all_goals with_reducible rfl
        try simp only [Act.put, List.setIfInBounds_toArray, List.set_cons_zero, List.set_cons_succ]
        refine grow_fix 7 ?_ rfl (by rfl) (by rfl) (fun wx hC hD => ?_) ?_
        rotate_left
        · have hSw := Hcells5.out wx hC
          go_simp
          all_goals with_reducible rfl
        try simp only [Act.put, List.setIfInBounds_toArray, List.set_cons_zero, List.set_cons_succ]
        refine grow_fix 8 ?_ rfl (by rfl) (by rfl) (fun wx hC hD => ?_) ?_
        rotate_left
        · have hSw := Hcells5.out wx hC
          go_simp
          all_goals with_reducible rfl
        try simp only [Act.put, List.setIfInBounds_toArray, List.set_cons_zero, List.set_cons_succ]
        refine grow_fix 9 ?_ rfl (by rfl) (by rfl) (fun wx hC hD => ?_) ?_
        rotate_left
        · have hSw := Hcells5.out wx hC
          go_simp
          all_goals with_reducible rfl
        try simp only [Act.put, List.setIfInBounds_toArray, List.set_cons_zero, List.set_cons_succ]
        refine grow_fix 10 ?_ rfl (by rfl) (by rfl) (fun wx hC hD => ?_) ?_
        rotate_left
        · have hSw := Hcells5.out wx hC
          go_simp
          all_goals with_reducible rfl
        try simp only [Act.put, List.setIfInBounds_toArray, List.set_cons_zero, List.set_cons_succ]
        refine grow_fix 11 ?_ rfl (by rfl) (by rfl) (fun wx hC hD => ?_) ?_
        rotate_left
        · have hSw := Hcells5.out wx hC
          go_simp
          all_goals with_reducible rfl
        try simp only [Act.put, List.setIfInBounds_toArray, List.set_cons_zero, List.set_cons_succ]
        refine grow_fix 12 ?_ rfl (by rfl) (by rfl) (fun wx hC hD => ?_) ?_
        rotate_left
        · have hSw := Hcells5.out wx hC
          go_simp
          all_goals with_reducible rfl
        try simp only [Act.put, List.setIfInBounds_toArray, List.set_cons_zero, List.set_cons_succ]
        refine grow_nil (fun w6 hC hF => ?_)
        have Hb6 := Lib.hid (Hb5.out.trans (hC.mono Hb5.out.size))
        have Hcells6 : Hid (∀ wx, Below w6.heap.size w6 wx → wx.cell? ⟨bb, o + k * 2, none⟩ = some (.int .i64 (x1 : Nat)) ∧ wx.cell? ⟨bb, o + k * 2 + 1, none⟩ = some (.int .i64 (x2 : Nat))) := Lib.hid (fun wx h => Hcells5.out wx (hC.trans (h.mono hC.size)))
        clear hF hC Hcells5 Hb5 hS5
        go_wp2_with fail
        refine wp_region_grow (specOf []) (fun wx => Below (World.heap w6).size w6 wx) (fun w1 w2 => Below w1.heap.size w1 w2) (by kernel_rfl) (by kernel_rfl) (stab_nil) (Below.refl _ _).drew ?_
        refine grow_fix 1 ?_ rfl (by rfl) (by rfl) (fun wx hC hD => ?_) ?_
        rotate_left
        · have hSw := Hcells6.out wx hC
          go_simp
          all_goals with_reducible rfl
        try simp only [Act.put, List.setIfInBounds_toArray, List.set_cons_zero, List.set_cons_succ]
        refine grow_fix 2 ?_ rfl (by rfl) (by rfl) (fun wx hC hD => ?_) ?_
        rotate_left
        · have hSw := Hcells6.out wx hC
          go_simp
          all_goals with_reducible rfl
        try simp only [Act.put, List.setIfInBounds_toArray, List.set_cons_zero, List.set_cons_succ]
        refine grow_fix 3 ?_ rfl (by rfl) (by rfl) (fun wx hC hD => ?_) ?_
        rotate_left
        · have hSw := Hcells6.out wx hC
          go_simp
          all_goals with_reducible rfl
        try simp only [Act.put, List.setIfInBounds_toArray, List.set_cons_zero, List.set_cons_succ]
        refine grow_fix 4 ?_ rfl (by rfl) (by rfl) (fun wx hC hD => ?_) ?_
        rotate_left
        · have hSw := Hcells6.out wx hC
          go_simp
          all_goals with_reducible rfl
        try simp only [Act.put, List.setIfInBounds_toArray, List.set_cons_zero, List.set_cons_succ]
        refine grow_fix 5 ?_ rfl (by rfl) (by rfl) (fun wx hC hD => ?_) ?_
        rotate_left
        · have hSw := Hcells6.out wx hC
          go_simp
          all_goals with_reducible rfl
        try simp only [Act.put, List.setIfInBounds_toArray, List.set_cons_zero, List.set_cons_succ]
        refine grow_fix 6 ?_ rfl (by rfl) (by rfl) (fun wx hC hD => ?_) ?_
        rotate_left
        · have hSw := Hcells6.out wx hC
          go_simp
          all_goals with_reducible rfl
        try simp only [Act.put, List.setIfInBounds_toArray, List.set_cons_zero, List.set_cons_succ]
        refine grow_fix 7 ?_ rfl (by rfl) (by rfl) (fun wx hC hD => ?_) ?_
        rotate_left
        · have hSw := Hcells6.out wx hC
          go_simp
          all_goals with_reducible rfl
        try simp only [Act.put, List.setIfInBounds_toArray, List.set_cons_zero, List.set_cons_succ]
        refine grow_fix 8 ?_ rfl (by rfl) (by rfl) (fun wx hC hD => ?_) ?_
        rotate_left
        · have hSw := Hcells6.out wx hC
          go_simp
          all_goals with_reducible rfl
        try simp only [Act.put, List.setIfInBounds_toArray, List.set_cons_zero, List.set_cons_succ]
        refine grow_fix 9 ?_ rfl (by rfl) (by rfl) (fun wx hC hD => ?_) ?_
        rotate_left
        · have hSw := Hcells6.out wx hC
          go_simp
          all_goals with_reducible rfl
        try simp only [Act.put, List.setIfInBounds_toArray, List.set_cons_zero, List.set_cons_succ]
        refine grow_fix 10 ?_ rfl (by rfl) (by rfl) (fun wx hC hD => ?_) ?_
        rotate_left
        · have hSw := Hcells6.out wx hC
          go_simp
          all_goals with_reducible rfl
        try simp only [Act.put, List.setIfInBounds_toArray, List.set_cons_zero, List.set_cons_succ]
        refine grow_fix 11 ?_ rfl (by rfl) (by rfl) (fun wx hC hD => ?_) ?_
        rotate_left
        · have hSw := Hcells6.out wx hC
          go_simp
          all_goals with_reducible rfl
        try simp only [Act.put, List.setIfInBounds_toArray, List.set_cons_zero, List.set_cons_succ]
        refine grow_fix 12 ?_ rfl (by rfl) (by rfl) (fun wx hC hD => ?_) ?_
        rotate_left
        · have hSw := Hcells6.out wx hC
          go_simp
          all_goals with_reducible rfl
        try simp only [Act.put, List.setIfInBounds_toArray, List.set_cons_zero, List.set_cons_succ]
        refine grow_fix 13 ?_ rfl (by rfl) (by rfl) (fun wx hC hD => ?_) ?_
        rotate_left
        · have hSw := Hcells6.out wx hC
          go_simp
          all_goals with_reducible rfl
        try simp only [Act.put, List.setIfInBounds_toArray, List.set_cons_zero, List.set_cons_succ]
        refine grow_fix 14 ?_ rfl (by rfl) (by rfl) (fun wx hC hD => ?_) ?_
        rotate_left
        · have hSw := Hcells6.out wx hC
          go_simp
          all_goals with_reducible rfl
        try simp only [Act.put, List.setIfInBounds_toArray, List.set_cons_zero, List.set_cons_succ]
        refine grow_fix 15 ?_ rfl (by rfl) (by rfl) (fun wx hC hD => ?_) ?_
        rotate_left
        · have hSw := Hcells6.out wx hC
          go_simp
          all_goals with_reducible rfl
        try simp only [Act.put, List.setIfInBounds_toArray, List.set_cons_zero, List.set_cons_succ]
        refine grow_fix 16 ?_ rfl (by rfl) (by rfl) (fun wx hC hD => ?_) ?_
        rotate_left
        · have hSw := Hcells6.out wx hC
          go_simp
          all_goals with_reducible rfl
        try simp only [Act.put, List.setIfInBounds_toArray, List.set_cons_zero, List.set_cons_succ]
        refine grow_fix 17 ?_ rfl (by rfl) (by rfl) (fun wx hC hD => ?_) ?_
        rotate_left
        · have hSw := Hcells6.out wx hC
          go_simp
          all_goals with_reducible rfl
        try simp only [Act.put, List.setIfInBounds_toArray, List.set_cons_zero, List.set_cons_succ]
        refine grow_fix 18 ?_ rfl (by rfl) (by rfl) (fun wx hC hD => ?_) ?_
        rotate_left
        · have hSw := Hcells6.out wx hC
          go_simp
          all_goals with_reducible rfl
        try simp only [Act.put, List.setIfInBounds_toArray, List.set_cons_zero, List.set_cons_succ]
        refine grow_fix 19 ?_ rfl (by rfl) (by rfl) (fun wx hC hD => ?_) ?_
        rotate_left
        · have hSw := Hcells6.out wx hC
          go_simp
          all_goals with_reducible rfl
        try simp only [Act.put, List.setIfInBounds_toArray, List.set_cons_zero, List.set_cons_succ]
        refine grow_fix 20 ?_ rfl (by rfl) (by rfl) (fun wx hC hD => ?_) ?_
        rotate_left
        · have hSw := Hcells6.out wx hC
          go_simp
          all_goals with_reducible rfl
        try simp only [Act.put, List.setIfInBounds_toArray, List.set_cons_zero, List.set_cons_succ]
        refine grow_fix 21 ?_ rfl (by rfl) (by rfl) (fun wx hC hD => ?_) ?_
        rotate_left
        · have hSw := Hcells6.out wx hC
          go_simp
          all_goals with_reducible rfl
        try simp only [Act.put, List.setIfInBounds_toArray, List.set_cons_zero, List.set_cons_succ]
        refine grow_fix 22 ?_ rfl (by rfl) (by rfl) (fun wx hC hD => ?_) ?_
        rotate_left
        · have hSw := Hcells6.out wx hC
          go_simp
          all_goals with_reducible rfl
        try simp only [Act.put, List.setIfInBounds_toArray, List.set_cons_zero, List.set_cons_succ]
        refine grow_fix 23 ?_ rfl (by rfl) (by rfl) (fun wx hC hD => ?_) ?_
        rotate_left
        · have hSw := Hcells6.out wx hC
          go_simp
          all_goals with_reducible rfl
        try simp only [Act.put, List.setIfInBounds_toArray, List.set_cons_zero, List.set_cons_succ]
        refine grow_fix 24 ?_ rfl (by rfl) (by rfl) (fun wx hC hD => ?_) ?_
        rotate_left
        · have hSw := Hcells6.out wx hC
          go_simp
          all_goals with_reducible rfl
        try simp only [Act.put, List.setIfInBounds_toArray, List.set_cons_zero, List.set_cons_succ]
        refine grow_fix 25 ?_ rfl (by rfl) (by rfl) (fun wx hC hD => ?_) ?_
        rotate_left
        · have hSw := Hcells6.out wx hC
          go_simp
          all_goals with_reducible rfl
        try simp only [Act.put, List.setIfInBounds_toArray, List.set_cons_zero, List.set_cons_succ]
        refine grow_fix 26 ?_ rfl (by rfl) (by rfl) (fun wx hC hD => ?_) ?_
        rotate_left
        · have hSw := Hcells6.out wx hC
          go_simp
          all_goals with_reducible rfl
        try simp only [Act.put, List.setIfInBounds_toArray, List.set_cons_zero, List.set_cons_succ]
        refine grow_fix 27 ?_ rfl (by rfl) (by rfl) (fun wx hC hD => ?_) ?_
        rotate_left
        · have hSw := Hcells6.out wx hC
          go_simp
          all_goals with_reducible rfl
        try simp only [Act.put, List.setIfInBounds_toArray, List.set_cons_zero, List.set_cons_succ]
        refine grow_fix 28 ?_ rfl (by rfl) (by rfl) (fun wx hC hD => ?_) ?_
        rotate_left
        · have hSw := Hcells6.out wx hC
          go_simp
          all_goals with_reducible rfl
        try simp only [Act.put, List.setIfInBounds_toArray, List.set_cons_zero, List.set_cons_succ]
        refine grow_nil (fun w7 hC hF => ?_)
        have Hb7 := Lib.hid (Hb6.out.trans (hC.mono Hb6.out.size))
        have hS7 := Hcells6.out w7 hC
        clear hF hC Hcells6 Hb6
        go_wp2
        go_roundw
        case rel => exact ⟨k + 1, x2, km + (b.size + e.size), by omega, by go_num, rfl, congrArg Value.string HF7.out, Lib.hid (by rw [Nat.add_mul, Nat.one_mul, hKM.out]), q3, Ho4, Hf5, Hf6, Hb7.out⟩
        case measure => simp [intOf]; omega
      · obtain rfl : k = l.length := by omega
        have hd : l.drop l.length = [] := List.drop_eq_nil_of_le (Nat.le_refl _)
        have hD1 := hD.out
        rw [hd] at hD1
        have hfin := back_end s t b e at_ km hD1
        have hkl : km = LM := by rw [← hKM.out]; exact HLM.out
        rw [← hkl] at hmw
        have htz2 : t.size ≤ 320400 := by have := Htz.out; omega
        have htf := hP.out
        have zbk : (s.extract 0 at_).size ≤ 400 := by rw [ByteArray.size_extract]; omega
        have n1 : (at_ : Int) + (km : Int) = ((at_ + km : Nat) : Int) := by omega
        have hsl : ∀ W : World, (Instr.slice 9 (.string t) (some (.int .i64 ((at_ : Int) + (km : Int)))) none none).run Try.prog W = .ok (.string (t.extract (at_ + km) t.size)) W := fun W => by
          rw [n1, run_slice_string_l W 9 t Try.underlying9 .i64 _ (by omega) (by omega)]
          simp only [Int.toNat_natCast]
        have zr : (t.extract (at_ + km) t.size).size ≤ 320400 := by rw [ByteArray.size_extract]; omega
        generalize t.extract (at_ + km) t.size = rest at *
        generalize s.extract 0 at_ = bk at *
        have hcA : ¬ 9223372036854775807 < bk.size + rest.size := by omega
        have HbE := Lib.hid (Hb4.out.trans (Hb.out.mono Hb4.out.size))
        clear hd hD hD1 hO hP hb n1 hkl htf htz2 hKM Hb HLM hlt
        go_wp2_with fail
        refine (awake_any _).mono ?_
        rintro e5 w5 ⟨rfl, hb5⟩
        have Hb5 := Lib.hid (HbE.out.trans (hb5.mono HbE.out.size))
        clear hb5
        go_wp2
        go_ret
        exact ⟨rfl, Hb5.out⟩
end Go.Proofs.Ytjfconddkfihcaa.Mk
