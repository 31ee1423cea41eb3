/- loggialaw17.QparseReads: the walk. -/
import Derived.Test.YtceekocfmbcobaaPkCursorBytesRow0
import Derived.Test.YtceekocfmbcobaaPkCursorFollowsRow37
section
namespace Go.Proofs.Ytceekocfmbcobaa.Qp
open Go.RowKit Go.Proofs.Ytceekocfmbcobaa Go.Proofs.Ytceekocfmbcobaa.Ut Go.Proofs.Ytceekocfmbcobaa.Tk Go.Proofs.Ytceekocfmbcobaa.Qy
set_option maxRecDepth 20000
set_option linter.unusedSimpArgs false

/-- A text's first bytes. -/
def ct (n : Nat) (s : ByteArray) : ByteArray := s.extract 0 (min s.size n)
theorem ct_size (n : Nat) (s : ByteArray) : (ct n s).size ≤ n := by unfold ct; rw [ByteArray.size_extract]; omega
theorem lcut17 (s : ByteArray) (w : World) (hs : s.size ≤ 140737488351232) : Calls Try.prog 11 #[.string s] w fun e w' => e = .returned (.string (ct 1100 s)) ∧ w = w' := by
  have F : Hid (ct 1100 s = s.extract 0 (min s.size 1100)) := rfl
  generalize ct 1100 s = r at *
  have hm : (min (s.size : Int) 1100).toNat = min s.size 1100 := by omega
  have Hm := Lib.hid hm
  clear hm
  by_cases h : s.size ≤ 1100
  · have h' : (s.size : Int) ≤ 1100 := by omega
    clear h
    go_enter Try.func11, Try.ntmps11
    go_wp2
    go_ret
    rw [F.out, ← Hm.out]
    exact ⟨rfl, rfl⟩
  · have h' : (1100 : Int) < (s.size : Int) := by omega
    clear h
    go_enter Try.func11, Try.ntmps11
    go_wp2
    go_ret
    rw [F.out, ← Hm.out]
    exact ⟨rfl, rfl⟩
/-- A parsed query's sizes. -/
theorem prs_w {s : P} {E : Int} {o : Option Q} (h : PrsR s E o) : ∃ K, QW K (o.getD noQ) := by
  have hno : ∃ K, QW K noQ := ⟨0 + 1, .mk (by simp) (by simp) (by simp)⟩
  cases h with
  | @ok l q h hp hr hm hd =>
    have h1 := pieces_pc s.length s l (Nat.le_refl _) hp
    have h2 := pieces_many s.length s l (Nat.le_refl _) hp
    obtain ⟨K, _, hK⟩ := or_wide hr (fun x hx => by have := (h1 x hx).2; omega) (by omega)
    exact ⟨K, hK⟩
  | long _ => exact hno
  | noPieces _ _ => exact hno
  | bad _ _ _ => exact hno
  | left _ _ _ _ => exact hno
  | many _ _ _ _ => exact hno
  | deep _ _ _ _ _ => exact hno
/-- A text's pieces, whatever they are: a row of them, and whether there are any. -/
def PcsRow (w : World) (L : List P) (ok : Bool) (e : Ending) (w' : World) : Prop := ∃ A c, e = .returned (.tuple #[.slice A L.length c, .bool ok]) ∧ Reads w' w'.heap.size 1 A L.length (sv L) ∧ Below w.heap.size w w'
theorem pcs_row {w w' : World} {e : Ending} {o : Option (List P)} (h : PcsPost w o e w') : PcsRow w (o.getD []) o.isSome e w' := by
  cases o with
  | none =>
    obtain ⟨rfl, hb⟩ := h
    exact ⟨none, 0, rfl, Reads.none_, hb⟩
  | some l =>
    obtain ⟨v, rfl, hown, hb⟩ := h
    obtain ⟨A, c, rfl, hR⟩ := own_shape hown
    exact ⟨A, c, rfl, hR, hb⟩
set_option maxHeartbeats 6400000 in
theorem reads_walk (s0 : ByteArray) (w : World) (hs : s0.size ≤ 140737488351232) : Calls Try.prog 3 #[.string s0] w fun e w' => e = .returned (.bool true) ∧ Below w.heap.size w w' := by
  have c0 := lcut17 s0 w hs
  have hz := ct_size 1100 s0
  generalize ct 1100 s0 = s at *
  obtain ⟨L, ok, hL, hpl⟩ : ∃ (L : List P) (ok : Bool), (∀ (w : World) e w', PcsPost w (pieces s.data.toList) e w' → PcsRow w L ok e w') ∧ L.length ≤ 1100 := by
    refine ⟨_, _, fun w e w' h => pcs_row h, ?_⟩
    cases h : pieces s.data.toList with
    | none => simp
    | some l =>
      have := pieces_many s.data.toList.length s.data.toList l (Nat.le_refl _) h
      rw [bsize] at this
      show l.length ≤ 1100
      omega
  have C1 := Lib.hid (fun wx => (pieces_any s wx (by omega)).mono fun e w' h => hL wx e w' h)
  have C2 := Lib.hid (fun wx => (pieces_ref s wx (by omega)).mono fun e w' h => hL wx e w' h)
  clear hL hs
  go_enter Try.func3, Try.ntmps3
  go_wp2_with fail
  refine c0.mono ?_
  rintro e w' ⟨rfl, rfl⟩
  clear c0
  go_wp2_with fail
  refine (C1.out _).mono ?_
  rintro e w1 ⟨A1, k1, rfl, hR1, hb1⟩
  have Hb1 := Lib.hid hb1
  have HR1 := Lib.hid hR1
  clear hb1 hR1
  go_wp2_with fail
  refine (C2.out _).mono ?_
  rintro e w2 ⟨A2, k2, rfl, hR2, hb2⟩
  have Hb2 := Lib.hid (Hb1.out.trans (hb2.mono Hb1.out.size))
  have HR1' := Lib.hid (rgrow HR1.out hb2)
  have HR2 := Lib.hid hR2
  clear hb2 hR2 HR1 Hb1
  have c3 := parse_any s w2
  go_wp2_with fail
  refine c3.mono ?_
  rintro e w3 ⟨E, oq, a0, a1, a2, a3, hp, rfl, hF, hb3⟩
  obtain ⟨K, hQW⟩ := prs_w hp
  obtain ⟨A', n', c', C', m', d', e4⟩ := hF.four
  simp only [List.cons.injEq, and_true] at e4
  obtain ⟨rfl, rfl, rfl, rfl⟩ := e4
  have HP := Lib.hid hp
  have HQW := Lib.hid hQW
  have hba := (Below.refl w3.heap.size w3).alloc (Nat.le_refl _) (.cells #[.int .i64 (oq.getD noQ).kind, .string (oq.getD noQ).name, .slice A' n' c', .slice C' m' d'] 29)
  have HF := Lib.hid (hF.grow hba)
  have HB := Lib.hid (Blk.new w3 29 #[.int .i64 (oq.getD noQ).kind, .string (oq.getD noQ).name, .slice A' n' c', .slice C' m' d'])
  have HR3 := Lib.hid (rgrow (rgrow HR1'.out hb3) hba)
  have HR4 := Lib.hid (rgrow (rgrow HR2.out hb3) hba)
  have Hb4 := Lib.hid ((Hb2.out.trans (hb3.mono Hb2.out.size)).trans (hba.mono (Nat.le_trans Hb2.out.size hb3.size)))
  have hzz : w3.heap.size < (w3.alloc (.cells #[.int .i64 (oq.getD noQ).kind, .string (oq.getD noQ).name, .slice A' n' c', .slice C' m' d'] 29)).heap.size := by simp
  clear c3 hF hb3 hp hQW hba HR1' HR2 Hb2
  generalize hq0 : oq.getD noQ = q0 at *
  have Hq0 := Lib.hid hq0
  clear hq0
  go_wp2_with fail
  generalize hw4 : w3.alloc (.cells #[.int .i64 q0.kind, .string q0.name, .slice A' n' c', .slice C' m' d'] 29) = w4 at *
  clear hw4
  have c5 := parse_rf s w4
  refine c5.mono ?_
  rintro e w5 ⟨E2, oq2, b0, b1, b2, b3, hp2, rfl, hG, hb5⟩
  obtain ⟨rfl, rfl⟩ := hp2.det HP.out
  rw [Hq0.out] at hG
  obtain ⟨A9, n9, c9, C9, m9, d9, e9⟩ := hG.four
  simp only [List.cons.injEq, and_true] at e9
  obtain ⟨rfl, rfl, rfl, rfl⟩ := e9
  have hba := (Below.refl w5.heap.size w5).alloc (Nat.le_refl _) (.cells #[.int .i64 q0.kind, .string q0.name, .slice A9 n9 c9, .slice C9 m9 d9] 29)
  have HF6 := Lib.hid ((HF.out.grow hb5).grow hba)
  have HG6 := Lib.hid (hG.grow hba)
  have HB6 := Lib.hid ((HB.out.below hb5 hzz).alloc (.cells #[.int .i64 q0.kind, .string q0.name, .slice A9 n9 c9, .slice C9 m9 d9] 29))
  have HC6 := Lib.hid (Blk.new w5 29 #[.int .i64 q0.kind, .string q0.name, .slice A9 n9 c9, .slice C9 m9 d9])
  have HR5 := Lib.hid (rgrow (rgrow HR3.out hb5) hba)
  have HR6 := Lib.hid (rgrow (rgrow HR4.out hb5) hba)
  have Hb6 := Lib.hid ((Hb4.out.trans (hb5.mono Hb4.out.size)).trans (hba.mono (Nat.le_trans Hb4.out.size hb5.size)))
  have hz5 : w4.heap.size ≤ w5.heap.size := hb5.size
  have hz6 : w5.heap.size < (w5.alloc (.cells #[.int .i64 q0.kind, .string q0.name, .slice A9 n9 c9, .slice C9 m9 d9] 29)).heap.size := by simp
  clear c5 hp2 hG hb5 hba HF HB HR3 HR4 Hb4
  go_upto_region 6 with (fail)
  generalize hw6 : w5.alloc (.cells #[.int .i64 q0.kind, .string q0.name, .slice A9 n9 c9, .slice C9 m9 d9] 29) = w6 at *
  clear hw6
  have c7 := sameWords_eq A1 A2 k1 k2 w6.heap.size L w6 HR5.out HR6.out (Nat.le_refl _) (by omega)
  go_wp2_with fail
  refine c7.mono ?_
  rintro e w7 ⟨rfl, hb7⟩
  obtain ⟨x0, x1, x2, x3, _, _, _, _⟩ := (HB6.out.below hb7 (by omega)).four
  obtain ⟨y0, y1, y2, y3, _, _, _, _⟩ := (HC6.out.below hb7 (by omega)).four
  have c8 := same_q HQW.out w7 _ _ _ _ _ _ _ _ ((HF6.out.grow hb7).at_ fun b hS => hS.2) ((HG6.out.grow hb7).at_ fun b hS => hS.2)
  have Hb7 := Lib.hid (Hb6.out.trans (hb7.mono Hb6.out.size))
  clear c7 hb7
  go_wp2_with fail
  refine c8.mono ?_
  rintro e w8 ⟨rfl, hb8⟩
  have Hb8 := Lib.hid (Hb7.out.trans (hb8.mono Hb7.out.size))
  have c9 := awake17 w8
  clear c8 hb8 x0 x1 x2 x3 y0 y1 y2 y3
  go_wp2_with fail
  refine c9.mono ?_
  rintro e w9 ⟨rfl, hb9⟩
  have Hb9 := Lib.hid (Hb8.out.trans (hb9.mono Hb8.out.size))
  clear c9 hb9
  go_wp2_with fail
  go_ret
  exact ⟨rfl, Hb9.out⟩
end Go.Proofs.Ytceekocfmbcobaa.Qp
end

section
/- loggialaw25.CursorBytes: the walk (printed by gen_cuy.py). -/
namespace Go.Proofs.Ytceekocfmbcobaa.Cu
open Go.RowKit Go.Proofs.Ytceekocfmbcobaa Go.Proofs.Ytceekocfmbcobaa.Qy Go.Proofs.Ytceekocfmbcobaa.Ph Go.Proofs.Ytceekocfmbcobaa.Cr Go.Proofs.Ytceekocfmbcobaa.Qp
set_option maxRecDepth 100000
set_option linter.unusedSimpArgs false

/-- A cursor's bytes, or none. -/
def EncR (a : Int) (q : ByteArray) (X : List UInt8) (E : Int) : Prop := (∃ n : Nat, a = n ∧ IsC a q ∧ X = enc n q.data.toList ∧ E = 0) ∨ (¬ IsC a q ∧ X = [] ∧ E = 250)
theorem encode_both (a : Int) (q : ByteArray) : ∃ X E, EncR a q X E ∧ X.length ≤ 1041 ∧ (∀ w, Calls Try.prog 21 #[.agg #[.int .i64 a, .string q]] w (BytesTo w X E)) ∧ ∀ w, Calls Try.prog 22 #[.agg #[.int .i64 a, .string q]] w (BytesTo w X E) := by
  by_cases h : IsC a q
  · obtain ⟨n, rfl⟩ : ∃ n : Nat, a = n := ⟨a.toNat, by have := h.1; omega⟩
    have hs := h.short
    exact ⟨_, 0, .inl ⟨n, rfl, h, rfl, rfl⟩, by rw [enc_len, bsize]; omega, fun w => encode_yes n q w h, fun w => rencode_yes n q w h⟩
  · exact ⟨_, 250, .inr ⟨h, rfl, rfl⟩, by simp, fun w => encode_no a q w h, fun w => rencode_no a q w h⟩
/-- Bytes cut. -/
theorem cut25 (A : Option Addr) (m c : Nat) (w : World) (hc : m ≤ c) (hm : m ≤ 140737488351232) : Calls Try.prog 20 #[.slice A m c] w fun e w' => e = .returned (.slice A (min m 1200) c) ∧ w = w' := by
  have Hm : Hid ((min (m : Int) 1200).toNat = min m 1200) := Lib.hid (by omega)
  by_cases h : m ≤ 1200
  · have h' : ¬ (1200 : Int) < (m : Int) := by omega
    have h2 : (m : Int) ≤ 1200 := by omega
    clear h
    go_enter Try.func20, Try.ntmps20
    go_wp2
    go_ret
    rw [← Hm.out]
    exact ⟨rfl, rfl⟩
  · have h' : (1200 : Int) < (m : Int) := by omega
    have h2 : (1200 : Int) ≤ (c : Int) := by omega
    clear h
    go_enter Try.func20, Try.ntmps20
    go_wp2
    go_ret
    rw [← Hm.out]
    exact ⟨rfl, rfl⟩
theorem reads_take {w : World} {B m : Nat} {A : Option Addr} {L : List UInt8} (h : Reads w B 1 A m (bv L)) (k : Nat) : Reads w B 1 A (min m k) (bv (L.take k)) := by
  have hl : L.length = m := by have := h.1; rw [bv_len] at this; omega
  refine ⟨by rw [bv_len, List.length_take, hl]; omega, fun hp => ?_⟩
  obtain ⟨b, o, e, hb, hc⟩ := h.2 (by omega)
  refine ⟨b, o, e, hb, fun j u hu => hc j u ?_⟩
  rw [bv_get, List.getElem?_take] at hu
  rw [bv_get]
  split at hu
  · exact hu
  · cases hu

set_option maxHeartbeats 6400000 in
theorem bytes_walk (a : Int) (q0 : ByteArray) (A : Option Addr) (m0 cb : Nat) (L0 : List UInt8) (w : World) (hq : q0.size ≤ 140737488351232) (hR : Reads w w.heap.size 1 A m0 (bv L0)) (hm : m0 ≤ 140737488351232) (hc : m0 ≤ cb) (hnil : A = none → cb = 0) :
    Calls Try.prog 7 #[.agg #[.int .i64 a, .string q0], .slice A m0 cb] w fun e w' => e = .returned (.bool true) ∧ Below w.heap.size w w' := by
  have hb1 := (Below.refl w.heap.size w).alloc (Nat.le_refl _) (.cells #[.int .i64 a, .string q0] 45)
  have hB1 := Blk.new w 45 #[.int .i64 a, .string q0]
  have hR1 := ((reads_take hR 1200).below hb1).more hb1.size
  have c1 := cut25 A m0 cb (w.alloc (.cells #[.int .i64 a, .string q0] 45)) hc hm
  have hmm : min m0 1200 ≤ cb := by omega
  have hm12 : min m0 1200 ≤ 1200 := by omega
  have Hb1 := Lib.hid hb1
  have HB1 := Lib.hid hB1
  have HR1 := Lib.hid hR1
  have HR0 := Lib.hid (reads_take hR 1200)
  have Hct : Hid (Qp.ct 1100 q0 = q0.extract 0 (min q0.size 1100)) := Lib.hid rfl
  have hcz := Qp.ct_size 1100 q0
  have Hmin : Hid ((min (q0.size : Int) 1100).toNat = min q0.size 1100) := Lib.hid (by omega)
  clear hb1 hB1 hR1 hR hm hc
  generalize min m0 1200 = m at *
  generalize L0.take 1200 = L at *
  generalize Qp.ct 1100 q0 = q at *
  go_enter Try.func7, Try.ntmps7
  go_wp2_with fail
  refine c1.mono ?_
  rintro e w' ⟨rfl, rfl⟩
  clear c1
  generalize hw1 : w.alloc (.cells #[.int .i64 a, .string q0] 45) = w1 at *
  clear hw1
  have hd0 := HB1.out.cell 0
  have hd1 := HB1.out.cell 1
  have hf1 := HB1.out.frozen 1
  simp at hd0 hd1
  have hcut : q0.extract 0 (min (q0.size : Int) 1100).toNat = q := by rw [Hmin.out, Hct.out]
  have hz0 : (0 : Int) ≤ (q0.size : Int) := by omega
  have hbl1 := HB1.out.lt
  have HB2 : Hid (Blk (w1.setCell ⟨w.heap.size, 1, none⟩ (.string q)) w.heap.size 45 #[.int .i64 a, .string q]) := Lib.hid (by have := HB1.out.set_ 1 (.string q); simpa using this)
  have Hb2 : Hid (Below w.heap.size w (w1.setCell ⟨w.heap.size, 1, none⟩ (.string q))) := Lib.hid (Hb1.out.setCell (p := ⟨w.heap.size, 1, none⟩) (Nat.le_refl _) _)
  have hq11 : q.size ≤ 1100 := hcz
  go_upto_region 3 with (fail)
  have HR2 : Hid (Reads (w1.setCell ⟨w.heap.size, 1, none⟩ (.string q)) w.heap.size 1 A m (bv L)) := Lib.hid (HR0.out.below Hb2.out)
  clear hd0 hd1 hf1 hcut HR1 HB1 Hb1 Hct Hmin hz0 hq hcz
  have hbl2 : w.heap.size < (w1.setCell ⟨w.heap.size, 1, none⟩ (.string q)).heap.size := HB2.out.lt
  generalize hw2 : w1.setCell ⟨w.heap.size, 1, none⟩ (.string q) = w2 at *
  clear hw2
  -- both encodings
  obtain ⟨X, E, hX, hXl, ce, re⟩ := encode_both a q
  have HX := Lib.hid hX
  have CE := Lib.hid ce
  have RE := Lib.hid re
  clear hX ce re
  have hd0 := HB2.out.cell 0
  have hd1 := HB2.out.cell 1
  simp at hd0 hd1
  go_wp2_with fail
  refine (CE.out w2).mono ?_
  rintro e w3 ⟨⟨v3, rfl, hown3⟩, hb3⟩
  obtain ⟨Ax, cx, rfl, hRx⟩ := own_shape hown3
  have hxc : X.length ≤ cx ∧ (Ax = none → cx = 0) := by
    obtain ⟨A', c', e', _, h1, h2, _⟩ := own_shape2 hown3
    injection e' with e1 _ e3
    subst e1 e3
    exact ⟨h1, h2⟩
  have HXc := Lib.hid hxc
  have HRx3 := Lib.hid hRx
  have HB3 := Lib.hid (HB2.out.below hb3 hbl2)
  have Hb3 := Lib.hid (Hb2.out.trans (hb3.mono Hb2.out.size))
  have hbl3 := HB3.out.lt
  have hd0 := HB3.out.cell 0
  have hd1 := HB3.out.cell 1
  simp at hd0 hd1
  clear hown3 hRx hb3 HB2 Hb2 hxc
  go_wp2_with fail
  refine (RE.out w3).mono ?_
  rintro e w4 ⟨⟨v4, rfl, hown4⟩, hb4⟩
  obtain ⟨Ay, cy, rfl, hRy⟩ := own_shape hown4
  have HRx4 := Lib.hid ((HRx3.out.below hb4).more hb4.size)
  have HRy4 := Lib.hid hRy
  have HB4 := Lib.hid (HB3.out.below hb4 hbl3)
  have Hb4 := Lib.hid (Hb3.out.trans (hb4.mono Hb3.out.size))
  have HRb4 := Lib.hid (HR0.out.below Hb4.out)
  have hbl4 := HB4.out.lt
  clear hown4 hRy hb4 HB3 Hb3 HRx3 hd0 hd1 HR2
  -- both decodings
  have cd := decode_any A m cb L w4 (HRb4.out.more Hb4.out.size) (by omega) hmm hnil
  go_wp2_with fail
  refine cd.mono ?_
  rintro e w5 ⟨u, q2, E2, hd, rfl, hb5⟩
  have HDu := Lib.hid hd
  have ha5 := (Below.refl w5.heap.size w5).alloc (Nat.le_refl _) (.cells #[.int .i64 u, .string q2] 45)
  have hb5' : Below w4.heap.size w4 (w5.alloc (.cells #[.int .i64 u, .string q2] 45)) := hb5.alloc hb5.size _
  have HRx5 := Lib.hid ((HRx4.out.below hb5').more hb5'.size)
  have HRy5 := Lib.hid ((HRy4.out.below hb5').more hb5'.size)
  have HB5 := Lib.hid (HB4.out.below hb5' hbl4)
  have HU5 := Lib.hid (Blk.new w5 45 #[.int .i64 u, .string q2])
  have Hb5 := Lib.hid (Hb4.out.trans (hb5'.mono Hb4.out.size))
  have HRb5 := Lib.hid (HR0.out.below Hb5.out)
  clear cd hd hb5 ha5 hb5' HB4 Hb4 HRx4 HRy4 HRb4
  go_upto_region 6 with (fail)
  generalize hw6 : w5.alloc (.cells #[.int .i64 u, .string q2] 45) = w6 at *
  clear hw6
  have hbl6 := HB5.out.lt
  have hbu6 := HU5.out.lt
  have cd := rdecode_any A m cb L w6 (HRb5.out.more Hb5.out.size) (by omega) hmm
  go_wp2_with fail
  refine cd.mono ?_
  rintro e w7 ⟨u', q2', E2', hd, rfl, hb7⟩
  obtain ⟨rfl, rfl, rfl⟩ := hd.det HDu.out
  have hb7' : Below w6.heap.size w6 (w7.alloc (.cells #[.int .i64 u', .string q2'] 45)) := hb7.alloc hb7.size _
  have HRx8 := Lib.hid ((HRx5.out.below hb7').more hb7'.size)
  have HRy8 := Lib.hid ((HRy5.out.below hb7').more hb7'.size)
  have HB8 := Lib.hid (HB5.out.below hb7' hbl6)
  have HU8 := Lib.hid (HU5.out.below hb7' hbu6)
  have HV8 := Lib.hid (Blk.new w7 45 #[.int .i64 u', .string q2'])
  have Hb8 := Lib.hid (Hb5.out.trans (hb7'.mono Hb5.out.size))
  clear cd hd hb7 hb7' HB5 Hb5 HRx5 HRy5 HRb5 HU5
  go_upto_region 7 with (fail)
  generalize hw8 : w7.alloc (.cells #[.int .i64 u', .string q2'] 45) = w8 at *
  clear hw8
  have HRb8 := Lib.hid ((HR0.out.below Hb8.out).more Hb8.out.size)
  have hcx := conv_str cx HRx8.out
  have hcy := conv_str cy HRy8.out
  have hu0 := HU8.out.cell 0
  have hu1 := HU8.out.cell 1
  have hv0 := HV8.out.cell 0
  have hv1 := HV8.out.cell 1
  simp at hu0 hu1 hv0 hv1
  have hEE : (E != E) = false := by simp
  have hE2E : (E2' != E2') = false := by simp
  have hself := fun W => cur_nself u' q2' W
  have hXX : ((⟨X.toArray⟩ : ByteArray).toList != (⟨X.toArray⟩ : ByteArray).toList) = false := by simp
  generalize hsx : (⟨X.toArray⟩ : ByteArray) = SX at *
  clear hsx
  go_upto_region 9 with (fail)
  clear hXX hself hu0 hu1 hv0 hv1 hcx hcy HV8 HRy8 hEE hE2E
  have hbl8 := HB8.out.lt
  have hbu8 := HU8.out.lt
  by_cases hE : E = 0
  · subst hE
    obtain ⟨n, rfl, hI, hXn⟩ : ∃ n : Nat, a = n ∧ IsC a q ∧ X = enc n q.data.toList := by
      rcases HX.out with ⟨n, h1, h2, h3, _⟩ | ⟨_, _, h3⟩
      · exact ⟨n, h1, h2, h3⟩
      · exact absurd h3 (by decide)
    have HdX : Hid (DecR X n q 0) := Lib.hid (.inl ⟨n, rfl, hI, hXn, rfl⟩)
    have cd := decode_any Ax X.length cx X w8 HRx8.out (by omega) HXc.out.1 HXc.out.2
    clear hI hXn
    go_wp2_with fail
    refine cd.mono ?_
    rintro e w9 ⟨d, s9, E9, hd, rfl, hb9⟩
    obtain ⟨rfl, rfl, rfl⟩ := hd.det HdX.out
    have hb9' : Below w8.heap.size w8 (w9.alloc (.cells #[.int .i64 (n : Int), .string s9] 45)) := hb9.alloc hb9.size _
    have HB10 := Lib.hid (HB8.out.below hb9' hbl8)
    have HU10 := Lib.hid (HU8.out.below hb9' hbu8)
    have HD10 := Lib.hid (Blk.new w9 45 #[.int .i64 (n : Int), .string s9])
    have Hb10 := Lib.hid (Hb8.out.trans (hb9'.mono Hb8.out.size))
    have HRb10 := Lib.hid ((HRb8.out.below hb9').more hb9'.size)
    clear cd hd hb9 hb9' HB8 HU8 Hb8 HRb8 HRx8
    go_upto_region 11 with (fail)
    generalize hw10 : w9.alloc (.cells #[.int .i64 (n : Int), .string s9] 45) = w10 at *
    clear hw10
    have hd0 := HB10.out.cell 0
    have hd1 := HB10.out.cell 1
    have he0 := HD10.out.cell 0
    have he1 := HD10.out.cell 1
    simp at hd0 hd1 he0 he1
    have hself := fun W => cur_nself n s9 W
    go_upto_region 13 with (fail)
    clear hd0 hd1 he0 he1 hself HD10
    by_cases hE2 : E2' = 0
    · subst hE2
      obtain ⟨nu, rfl, hIu, hLu⟩ : ∃ nu : Nat, u' = nu ∧ IsC u' q2' ∧ L = enc nu q2'.data.toList := by
        rcases HDu.out with ⟨nu, h1, h2, h3, _⟩ | ⟨_, _, _, h3⟩
        · exact ⟨nu, h1, h2, h3⟩
        · exact absurd h3 (by decide)
      have hu0 := HU10.out.cell 0
      have hu1 := HU10.out.cell 1
      simp at hu0 hu1
      have ce := encode_yes nu q2' w10 hIu
      have HLu := Lib.hid hLu
      clear hIu hLu
      go_wp2_with fail
      refine ce.mono ?_
      rintro e wy ⟨⟨vy, rfl, hown⟩, hby⟩
      rw [← HLu.out] at hown
      obtain ⟨Ay, cy, rfl, hRy⟩ := own_shape hown
      have Hby := Lib.hid (Hb10.out.trans (hby.mono Hb10.out.size))
      have hcy := conv_str cy hRy
      have hcb := conv_str cb ((HRb10.out.below hby).more hby.size)
      clear ce hown hRy hby
      generalize (⟨L.toArray⟩ : ByteArray) = SL at *
      have c9 := awake25 wy
      go_wp2_with fail
      refine c9.mono ?_
      rintro e wz ⟨rfl, hbz⟩
      have Hbz := Lib.hid (Hby.out.trans (hbz.mono Hby.out.size))
      clear c9 hbz
      go_wp2_with fail
      go_ret
      exact ⟨rfl, Hbz.out⟩
    · have hE2' : (E2' == 0) = false := by rw [beq_eq_false_iff_ne]; exact hE2
      clear hE2
      have c9 := awake25 w10
      go_wp2_with fail
      refine c9.mono ?_
      rintro e wz ⟨rfl, hbz⟩
      have Hbz := Lib.hid (Hb10.out.trans (hbz.mono Hb10.out.size))
      clear c9 hbz
      go_wp2_with fail
      go_ret
      exact ⟨rfl, Hbz.out⟩
  · have hE' : (E == 0) = false := by rw [beq_eq_false_iff_ne]; exact hE
    clear hE
    go_upto_region 13 with (fail)
    by_cases hE2 : E2' = 0
    · subst hE2
      obtain ⟨nu, rfl, hIu, hLu⟩ : ∃ nu : Nat, u' = nu ∧ IsC u' q2' ∧ L = enc nu q2'.data.toList := by
        rcases HDu.out with ⟨nu, h1, h2, h3, _⟩ | ⟨_, _, _, h3⟩
        · exact ⟨nu, h1, h2, h3⟩
        · exact absurd h3 (by decide)
      have hu0 := HU8.out.cell 0
      have hu1 := HU8.out.cell 1
      simp at hu0 hu1
      have ce := encode_yes nu q2' w8 hIu
      have HLu := Lib.hid hLu
      clear hIu hLu
      go_wp2_with fail
      refine ce.mono ?_
      rintro e wy ⟨⟨vy, rfl, hown⟩, hby⟩
      rw [← HLu.out] at hown
      obtain ⟨Ay, cy, rfl, hRy⟩ := own_shape hown
      have Hby := Lib.hid (Hb8.out.trans (hby.mono Hb8.out.size))
      have hcy := conv_str cy hRy
      have hcb := conv_str cb ((HRb8.out.below hby).more hby.size)
      clear ce hown hRy hby
      generalize (⟨L.toArray⟩ : ByteArray) = SL at *
      have c9 := awake25 wy
      go_wp2_with fail
      refine c9.mono ?_
      rintro e wz ⟨rfl, hbz⟩
      have Hbz := Lib.hid (Hby.out.trans (hbz.mono Hby.out.size))
      clear c9 hbz
      go_wp2_with fail
      go_ret
      exact ⟨rfl, Hbz.out⟩
    · have hE2' : (E2' == 0) = false := by rw [beq_eq_false_iff_ne]; exact hE2
      clear hE2
      have c9 := awake25 w8
      go_wp2_with fail
      refine c9.mono ?_
      rintro e wz ⟨rfl, hbz⟩
      have Hbz := Lib.hid (Hb8.out.trans (hbz.mono Hb8.out.size))
      clear c9 hbz
      go_wp2_with fail
      go_ret
      exact ⟨rfl, Hbz.out⟩
theorem bv_of_ints (zs : List Int) (h : ∀ n ∈ zs, (Lit.int .u8 n).wf = true) : zs.map (Value.int .u8) = bv (zs.map fun z => UInt8.ofNat z.toNat) := by
  unfold bv
  rw [List.map_map]
  apply List.map_congr_left
  intro z hz
  have h1 : IntKind.u8.min ≤ z ∧ z ≤ IntKind.u8.max := by simpa [Lit.wf] using h z hz
  have e1 : IntKind.u8.min = 0 := rfl
  have e2 : IntKind.u8.max = 255 := rfl
  show Value.int .u8 z = .int .u8 ((UInt8.ofNat z.toNat).toNat : Int)
  congr 1
  rw [u8n]
  omega
theorem bytes_any25 (a : Int) (q0 : ByteArray) (A : Option Addr) (m0 cb : Nat) (zs : List Int) (w : World) (hq : q0.size ≤ 140737488351232) (hR : Reads w w.heap.size 1 A m0 (zs.map (Value.int .u8))) (hz : ∀ n ∈ zs, (Lit.int .u8 n).wf = true) (hm : m0 * 1 ≤ 140737488351232) (hc : m0 ≤ cb) (hnil : A = none → cb = 0) :
    Calls Try.prog 7 #[.agg #[.int .i64 a, .string q0], .slice A m0 cb] w fun e w' => e = .returned (.bool true) ∧ Below w.heap.size w w' := by
  rw [bv_of_ints zs hz] at hR
  exact bytes_walk a q0 A m0 cb _ w hq hR (by omega) hc hnil
end Go.Proofs.Ytceekocfmbcobaa.Cu
end
