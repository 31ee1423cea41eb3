/- loggialaw17.QparseReads: the walk. -/
import Derived.Test.YtceekocfmbcobaaQpVPk
namespace Go.Proofs.Ytceekocfmbcobaa.Qp
open Go.RowKit Go.Proofs.Ytceekocfmbcobaa Go.Proofs.Ytceekocfmbcobaa.Ut Go.Proofs.Ytceekocfmbcobaa.Tk Go.Proofs.Ytceekocfmbcobaa.Qy
set_option maxRecDepth 20000
set_option linter.unusedSimpArgs false

/-- A text's first bytes. -/
def ct (n : Nat) (s : ByteArray) : ByteArray := s.extract 0 (min s.size n)
theorem ct_size (n : Nat) (s : ByteArray) : (ct n s).size ≤ n := by unfold ct; rw [ByteArray.size_extract]; omega
theorem lcut17 (s : ByteArray) (w : World) (hs : s.size ≤ 140737488351232) : Calls Try.prog 11 #[.string s] w fun e w' => e = .returned (.string (ct 1100 s)) ∧ w = w' := by
  have F : Hid (ct 1100 s = s.extract 0 (min s.size 1100)) := rfl
  generalize ct 1100 s = r at *
  have hm : (min (s.size : Int) 1100).toNat = min s.size 1100 := by omega
  have Hm := Lib.hid hm
  clear hm
  by_cases h : s.size ≤ 1100
  · have h' : (s.size : Int) ≤ 1100 := by omega
    clear h
    go_enter Try.func11, Try.ntmps11
    go_wp2
    go_ret
    rw [F.out, ← Hm.out]
    exact ⟨rfl, rfl⟩
  · have h' : (1100 : Int) < (s.size : Int) := by omega
    clear h
    go_enter Try.func11, Try.ntmps11
    go_wp2
    go_ret
    rw [F.out, ← Hm.out]
    exact ⟨rfl, rfl⟩
/-- A parsed query's sizes. -/
theorem prs_w {s : P} {E : Int} {o : Option Q} (h : PrsR s E o) : ∃ K, QW K (o.getD noQ) := by
  have hno : ∃ K, QW K noQ := ⟨0 + 1, .mk (by simp) (by simp) (by simp)⟩
  cases h with
  | @ok l q h hp hr hm hd =>
    have h1 := pieces_pc s.length s l (Nat.le_refl _) hp
    have h2 := pieces_many s.length s l (Nat.le_refl _) hp
    obtain ⟨K, _, hK⟩ := or_wide hr (fun x hx => by have := (h1 x hx).2; omega) (by omega)
    exact ⟨K, hK⟩
  | long _ => exact hno
  | noPieces _ _ => exact hno
  | bad _ _ _ => exact hno
  | left _ _ _ _ => exact hno
  | many _ _ _ _ => exact hno
  | deep _ _ _ _ _ => exact hno
/-- A text's pieces, whatever they are: a row of them, and whether there are any. -/
def PcsRow (w : World) (L : List P) (ok : Bool) (e : Ending) (w' : World) : Prop := ∃ A c, e = .returned (.tuple #[.slice A L.length c, .bool ok]) ∧ Reads w' w'.heap.size 1 A L.length (sv L) ∧ Below w.heap.size w w'
theorem pcs_row {w w' : World} {e : Ending} {o : Option (List P)} (h : PcsPost w o e w') : PcsRow w (o.getD []) o.isSome e w' := by
  cases o with
  | none =>
    obtain ⟨rfl, hb⟩ := h
    exact ⟨none, 0, rfl, Reads.none_, hb⟩
  | some l =>
    obtain ⟨v, rfl, hown, hb⟩ := h
    obtain ⟨A, c, rfl, hR⟩ := own_shape hown
    exact ⟨A, c, rfl, hR, hb⟩
set_option maxHeartbeats 6400000 in
theorem reads_walk (s0 : ByteArray) (w : World) (hs : s0.size ≤ 140737488351232) : Calls Try.prog 3 #[.string s0] w fun e w' => e = .returned (.bool true) ∧ Below w.heap.size w w' := by
  have c0 := lcut17 s0 w hs
  have hz := ct_size 1100 s0
  generalize ct 1100 s0 = s at *
  obtain ⟨L, ok, hL, hpl⟩ : ∃ (L : List P) (ok : Bool), (∀ (w : World) e w', PcsPost w (pieces s.data.toList) e w' → PcsRow w L ok e w') ∧ L.length ≤ 1100 := by
    refine ⟨_, _, fun w e w' h => pcs_row h, ?_⟩
    cases h : pieces s.data.toList with
    | none => simp
    | some l =>
      have := pieces_many s.data.toList.length s.data.toList l (Nat.le_refl _) h
      rw [bsize] at this
      show l.length ≤ 1100
      omega
  have C1 := Lib.hid (fun wx => (pieces_any s wx (by omega)).mono fun e w' h => hL wx e w' h)
  have C2 := Lib.hid (fun wx => (pieces_ref s wx (by omega)).mono fun e w' h => hL wx e w' h)
  clear hL hs
  go_enter Try.func3, Try.ntmps3
  go_wp2_with fail
  refine c0.mono ?_
  rintro e w' ⟨rfl, rfl⟩
  clear c0
  go_wp2_with fail
  refine (C1.out _).mono ?_
  rintro e w1 ⟨A1, k1, rfl, hR1, hb1⟩
  have Hb1 := Lib.hid hb1
  have HR1 := Lib.hid hR1
  clear hb1 hR1
  go_wp2_with fail
  refine (C2.out _).mono ?_
  rintro e w2 ⟨A2, k2, rfl, hR2, hb2⟩
  have Hb2 := Lib.hid (Hb1.out.trans (hb2.mono Hb1.out.size))
  have HR1' := Lib.hid (rgrow HR1.out hb2)
  have HR2 := Lib.hid hR2
  clear hb2 hR2 HR1 Hb1
  have c3 := parse_any s w2
  go_wp2_with fail
  refine c3.mono ?_
  rintro e w3 ⟨E, oq, a0, a1, a2, a3, hp, rfl, hF, hb3⟩
  obtain ⟨K, hQW⟩ := prs_w hp
  obtain ⟨A', n', c', C', m', d', e4⟩ := hF.four
  simp only [List.cons.injEq, and_true] at e4
  obtain ⟨rfl, rfl, rfl, rfl⟩ := e4
  have HP := Lib.hid hp
  have HQW := Lib.hid hQW
  have hba := (Below.refl w3.heap.size w3).alloc (Nat.le_refl _) (.cells #[.int .i64 (oq.getD noQ).kind, .string (oq.getD noQ).name, .slice A' n' c', .slice C' m' d'] 29)
  have HF := Lib.hid (hF.grow hba)
  have HB := Lib.hid (Blk.new w3 29 #[.int .i64 (oq.getD noQ).kind, .string (oq.getD noQ).name, .slice A' n' c', .slice C' m' d'])
  have HR3 := Lib.hid (rgrow (rgrow HR1'.out hb3) hba)
  have HR4 := Lib.hid (rgrow (rgrow HR2.out hb3) hba)
  have Hb4 := Lib.hid ((Hb2.out.trans (hb3.mono Hb2.out.size)).trans (hba.mono (Nat.le_trans Hb2.out.size hb3.size)))
  have hzz : w3.heap.size < (w3.alloc (.cells #[.int .i64 (oq.getD noQ).kind, .string (oq.getD noQ).name, .slice A' n' c', .slice C' m' d'] 29)).heap.size := by simp
  clear c3 hF hb3 hp hQW hba HR1' HR2 Hb2
  generalize hq0 : oq.getD noQ = q0 at *
  have Hq0 := Lib.hid hq0
  clear hq0
  go_wp2_with fail
  generalize hw4 : w3.alloc (.cells #[.int .i64 q0.kind, .string q0.name, .slice A' n' c', .slice C' m' d'] 29) = w4 at *
  clear hw4
  have c5 := parse_rf s w4
  refine c5.mono ?_
  rintro e w5 ⟨E2, oq2, b0, b1, b2, b3, hp2, rfl, hG, hb5⟩
  obtain ⟨rfl, rfl⟩ := hp2.det HP.out
  rw [Hq0.out] at hG
  obtain ⟨A9, n9, c9, C9, m9, d9, e9⟩ := hG.four
  simp only [List.cons.injEq, and_true] at e9
  obtain ⟨rfl, rfl, rfl, rfl⟩ := e9
  have hba := (Below.refl w5.heap.size w5).alloc (Nat.le_refl _) (.cells #[.int .i64 q0.kind, .string q0.name, .slice A9 n9 c9, .slice C9 m9 d9] 29)
  have HF6 := Lib.hid ((HF.out.grow hb5).grow hba)
  have HG6 := Lib.hid (hG.grow hba)
  have HB6 := Lib.hid ((HB.out.below hb5 hzz).alloc (.cells #[.int .i64 q0.kind, .string q0.name, .slice A9 n9 c9, .slice C9 m9 d9] 29))
  have HC6 := Lib.hid (Blk.new w5 29 #[.int .i64 q0.kind, .string q0.name, .slice A9 n9 c9, .slice C9 m9 d9])
  have HR5 := Lib.hid (rgrow (rgrow HR3.out hb5) hba)
  have HR6 := Lib.hid (rgrow (rgrow HR4.out hb5) hba)
  have Hb6 := Lib.hid ((Hb4.out.trans (hb5.mono Hb4.out.size)).trans (hba.mono (Nat.le_trans Hb4.out.size hb5.size)))
  have hz5 : w4.heap.size ≤ w5.heap.size := hb5.size
  have hz6 : w5.heap.size < (w5.alloc (.cells #[.int .i64 q0.kind, .string q0.name, .slice A9 n9 c9, .slice C9 m9 d9] 29)).heap.size := by simp
  clear c5 hp2 hG hb5 hba HF HB HR3 HR4 Hb4
  go_upto_region 6 with (fail)
  generalize hw6 : w5.alloc (.cells #[.int .i64 q0.kind, .string q0.name, .slice A9 n9 c9, .slice C9 m9 d9] 29) = w6 at *
  clear hw6
  have c7 := sameWords_eq A1 A2 k1 k2 w6.heap.size L w6 HR5.out HR6.out (Nat.le_refl _) (by omega)
  go_wp2_with fail
  refine c7.mono ?_
  rintro e w7 ⟨rfl, hb7⟩
  obtain ⟨x0, x1, x2, x3, _, _, _, _⟩ := (HB6.out.below hb7 (by omega)).four
  obtain ⟨y0, y1, y2, y3, _, _, _, _⟩ := (HC6.out.below hb7 (by omega)).four
  have c8 := same_q HQW.out w7 _ _ _ _ _ _ _ _ ((HF6.out.grow hb7).at_ fun b hS => hS.2) ((HG6.out.grow hb7).at_ fun b hS => hS.2)
  have Hb7 := Lib.hid (Hb6.out.trans (hb7.mono Hb6.out.size))
  clear c7 hb7
  go_wp2_with fail
  refine c8.mono ?_
  rintro e w8 ⟨rfl, hb8⟩
  have Hb8 := Lib.hid (Hb7.out.trans (hb8.mono Hb7.out.size))
  have c9 := awake17 w8
  clear c8 hb8 x0 x1 x2 x3 y0 y1 y2 y3
  go_wp2_with fail
  refine c9.mono ?_
  rintro e w9 ⟨rfl, hb9⟩
  have Hb9 := Lib.hid (Hb8.out.trans (hb9.mono Hb8.out.size))
  clear c9 hb9
  go_wp2_with fail
  go_ret
  exact ⟨rfl, Hb9.out⟩
end Go.Proofs.Ytceekocfmbcobaa.Qp
