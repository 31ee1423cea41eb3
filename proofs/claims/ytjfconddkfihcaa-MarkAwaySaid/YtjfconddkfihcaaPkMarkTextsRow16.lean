/- mark.marked: a leaf of a beginning. -/
import Derived.Maps.RangeWalk
import Derived.Maps.OwnSet
import Derived.Test.YtjfconddkfihcaaPkMarkTextsRow11
import Derived.Test.YtjfconddkfihcaaMatchBPk
import Derived.Test.YtjfconddkfihcaaPkMarkTextsRow14
import Derived.Test.YtjfconddkfihcaaGrowPk
section
namespace Go.Proofs.Ytjfconddkfihcaa.Mk
open Go.RowKit Go.Proofs.Ytjfconddkfihcaa Go.Proofs.Ytjfconddkfihcaa.Ut Go.Proofs.Ytjfconddkfihcaa.Tk Go.Proofs.Ytjfconddkfihcaa.Qy Go.Maps
set_option maxRecDepth 20000
set_option linter.unusedSimpArgs false

/-- What comes back: a set of places, of the call's own. -/
def MpPost (w : World) (f : Nat → Bool) (N : Nat) (e : Ending) (w' : World) : Prop := ∃ (b : Nat) (D : DataW Unit), e = .returned (.map (some b)) ∧ w'.ownsMap Try.prog 3 unitElem b N D ∧ Holds D f ∧ Below w.heap.size w w' ∧ w.heap.size ≤ b
def MarkOk (name : ByteArray) (T : List (List UInt8)) (q : Q) : Prop := ∀ (w : World) (a0 a1 a2 a3 : Value) (A : Option Addr) (c : Nat), QAt w w.heap.size q [a0, a1, a2, a3] → Reads w w.heap.size 2 A T.length (tokC (placed T)) →
  Calls Try.prog 67 #[.agg #[a0, a1, a2, a3], .string name, .slice A T.length c] w (MpPost w (fun i => markB name T i q) (T.length * wq q))
theorem law3 : Keyed Try.prog 3 := Maps.int_keyed Try.underlying3

theorem beq_toList (a b : ByteArray) : (a.toList == b.toList) = (a.data.toList == b.data.toList) := by rw [tl, tl]
theorem no_mark (name : ByteArray) (T : List (List UInt8)) (k : Int) (nm : ByteArray) (ws : List ByteArray) (l : List Q) (hk : k = 2 ∨ k = 3 ∨ k = 4) (hno : (nm.toList == name.toList) = false ∨ ws = [] ∨ (k ≠ 4 ∧ ws.length ≠ 1)) (i : Nat) : markB name T i (.mk k nm ws l) = false := by
  rw [markB_eq, if_pos hk]
  rcases hno with h | h | ⟨h1, h2⟩
  · rw [beq_toList] at h
    rw [h, Bool.false_and]
  · subst h
    rw [Bool.and_eq_false_iff]
    right
    unfold leafM
    split
    · rfl
    · simp [phr]
  · rw [Bool.and_eq_false_iff]
    right
    unfold leafM
    split
    · match ws, h2 with
      | [], _ => rfl
      | [p], h2 => simp at h2
      | _ :: _ :: _, _ => rfl
    · rw [if_pos ⟨by omega, h2⟩]
theorem made_map (w : World) (o : Obj) : ((w.alloc o).alloc (.map #[] 0)).ownsMap (H := Unit) Try.prog 3 unitElem (w.heap.size + 1) 0 (.map []) := by
  have := World.ownsMap_made (H := Unit) (w.alloc o) Try.prog 3 unitElem
  rw [World.size_alloc] at this
  exact this
theorem made_below (w : World) (o : Obj) : Below w.heap.size w ((w.alloc o).alloc (.map #[] 0)) := ((Below.refl _ _).alloc (Nat.le_refl _) _).alloc (by simp) _

set_option maxHeartbeats 1600000 in
theorem marked_no (name : ByteArray) (T : List (List UInt8)) (k : Int) (nm : ByteArray) (ws : List ByteArray) (l : List Q) (hk : k = 2 ∨ k = 3 ∨ k = 4) (hno : (nm.toList == name.toList) = false ∨ ws = [] ∨ (k ≠ 4 ∧ ws.length ≠ 1)) : MarkOk name T (.mk k nm ws l) := by
  intro w a0 a1 a2 a3 A c hQ hT
  obtain ⟨WA, m, wc, CA, n1, c2, e, hI⟩ := hQ.is
  simp only [List.cons.injEq, and_true] at e
  obtain ⟨rfl, rfl, rfl, rfl⟩ := e
  have hwn := hI.wn
  have hmm := @run_makeMap Try.prog
  have hf := no_mark name T k nm ws l hk hno
  have fin : MpPost w (fun i => markB name T i (.mk k nm ws l)) (T.length * wq (.mk k nm ws l)) (.returned (.map (some (w.heap.size + 1)))) ((w.alloc (.cells #[.int .i64 k, .string nm, .slice WA m wc, .slice CA n1 c2] 37)).alloc (.map #[] 0)) :=
    ⟨_, .map [], rfl, (made_map _ _).mono (Nat.zero_le _), Holds.none.congr (fun i => (hf i).symm), made_below _ _, Nat.le_succ _⟩
  have Fin := Lib.hid fin
  have hm0 : ws = [] → m = 0 := fun e => by rw [← hwn, e]; rfl
  rw [hwn] at hno
  clear hQ hT hI hwn hf fin
  go_enter Try.func67, Try.ntmps67
  by_cases hxy : (nm.toList == name.toList) = true
  · have hxn : (nm.toList != name.toList) = false := by rw [bne, hxy]; rfl
    by_cases h0 : m = 0
    · subst h0
      clear hm0 hno
      rcases hk with rfl | rfl | rfl <;> go_wp2 <;> go_ret <;> exact Fin.out
    · have h1 : k ≠ 4 ∧ m ≠ 1 := by
        rcases hno with h | h | h
        · rw [h] at hxy; cases hxy
        · exact absurd (hm0 h) h0
        · exact h
      have hz0 : ((m : Int) == 0) = false := by simp; omega
      have hz1 : ((m : Int) != 1) = true := by simp; omega
      clear hm0 hno
      rcases hk with rfl | rfl | rfl
      · go_wp2
        go_ret
        exact Fin.out
      · go_wp2
        go_ret
        exact Fin.out
      · exact absurd rfl h1.1
  · have hxf : (nm.toList == name.toList) = false := Bool.eq_false_iff.2 hxy
    have hxn : (nm.toList != name.toList) = true := by rw [bne, hxf]; rfl
    clear hm0 hno
    rcases hk with rfl | rfl | rfl <;> go_wp2 <;> go_ret <;> exact Fin.out
end Go.Proofs.Ytjfconddkfihcaa.Mk
end

section
/- mark.marked: a leaf of a beginning (printed by gen_mkd.py). -/
namespace Go.Proofs.Ytjfconddkfihcaa.Mk
open Go.RowKit Go.Proofs.Ytjfconddkfihcaa Go.Proofs.Ytjfconddkfihcaa.Ut Go.Proofs.Ytjfconddkfihcaa.Tk Go.Proofs.Ytjfconddkfihcaa.Qy Go.Maps
set_option maxRecDepth 20000
set_option linter.unusedSimpArgs false

theorem wf_nat (k : Nat) (h : k ≤ 9223372036854775807) : (Lit.int .i64 (k : Int)).wf = true := by
  simp only [Lit.wf, Bool.and_eq_true, decide_eq_true_eq]
  exact ⟨Int.le_trans (by decide : IntKind.i64.min ≤ (0 : Int)) (by omega), Int.le_trans (by omega : (k : Int) ≤ 9223372036854775807) (by decide)⟩
theorem below_map {w wr w2 : World} {b : Nat} (h : Below w.heap.size w wr) (hg : wr.grownBy w2 (some b)) (hb : w.heap.size ≤ b) : Below w.heap.size w w2 := h.grown hg h.size (fun j hj => by injection hj with hj; omega)
set_option maxHeartbeats 3200000 in
theorem marked_begin (name : ByteArray) (T : List (List UInt8)) (hT6 : T.length ≤ 1000000) (nm p : ByteArray) (l : List Q) (hnm : (nm.toList == name.toList) = true) : MarkOk name T (.mk 3 nm [p] l) := by
  intro w a0 a1 a2 a3 A c hQ hT
  obtain ⟨WA, m, wc, CA, n1, c2, e, hI⟩ := hQ.is
  simp only [List.cons.injEq, and_true] at e
  obtain ⟨rfl, rfl, rfl, rfl⟩ := e
  have hwn := hI.wn
  have hwds := hI.wds
  obtain rfl : m = 1 := by simpa using hwn.symm
  obtain ⟨pb, po, rfl, hpb, hpc⟩ := hwds.2 (by omega)
  have hp0 := hpc 0 (.string p) rfl
  rw [Nat.add_zero] at hp0
  have hmm := @run_makeMap Try.prog
  have hxn : (nm.toList != name.toList) = false := by rw [bne, hnm]; rfl
  have hf : ∀ i, markB name T i (.mk 3 nm [p] l) = (T[i]?).any (begins · p) := fun i => by
    rw [markB_eq, if_pos (by decide), ← beq_toList, hnm, Bool.true_and]
    simp [leafM]
  have hm1 := made_map w (.cells #[.int .i64 3, .string nm, .slice (some ⟨pb, po, none⟩) 1 wc, .slice CA n1 c2] 37)
  have hb1 := made_below w (.cells #[.int .i64 3, .string nm, .slice (some ⟨pb, po, none⟩) 1 wc, .slice CA n1 c2] 37)
  have hB1 := (Blk.new w 37 #[.int .i64 3, .string nm, .slice (some ⟨pb, po, none⟩) 1 wc, .slice CA n1 c2]).alloc (.map #[] 0)
  have hz : ((w.alloc (.cells #[.int .i64 3, .string nm, .slice (some ⟨pb, po, none⟩) 1 wc, .slice CA n1 c2] 37)).alloc (.map #[] 0)).heap.size = w.heap.size + 1 + 1 := by simp
  have c1 := fun (x : List UInt8) wx => Try.strings_HasPrefix (str x) p wx
  simp only [hasPrefix_begins] at c1
  have HC := Lib.hid c1
  have HT := Lib.hid hT
  have Hf := Lib.hid hf
  have Hp0 := Lib.hid hp0
  have HM := Lib.hid hm1
  have Hb1 := Lib.hid hb1
  have HB1 := Lib.hid hB1
  have hN : T.length ≤ T.length * wq (.mk 3 nm [p] l) := Nat.le_mul_of_pos_right _ (by rw [wq_eq]; omega)
  have HN := Lib.hid hN
  clear hQ hT hI hwn hwds hpc hp0 hf hm1 hb1 hB1 c1 hN
  go_enter Try.func67, Try.ntmps67
  go_wp2_with fail
  generalize ((w.alloc (.cells #[.int .i64 3, .string nm, .slice (some ⟨pb, po, none⟩) 1 wc, .slice CA n1 c2] 37)).alloc (.map #[] 0)) = w1 at *
  go_loopw [50] (fun i wr => ∃ (k : Nat) (D : DataW Unit), k ≤ T.length ∧ i = .int .i64 k ∧ wr.ownsMap Try.prog 3 unitElem (w.heap.size + 1) k D ∧ Holds D (fun i => decide (i < k) && (T[i]?).any (begins · p)) ∧ Blk wr w.heap.size 37 #[.int .i64 3, .string nm, .slice (some ⟨pb, po, none⟩) 1 wc, .slice CA n1 c2] ∧ Below w.heap.size w wr ∧ w.heap.size + 1 < wr.heap.size) (fun i _ => T.length - (intOf i).toNat)
  case atStart => exact ⟨0, _, Nat.zero_le _, rfl, HM.out, Holds.none.congr (fun i => by simp), HB1.out, Hb1.out, by omega⟩
  case round =>
    obtain ⟨k, D, hk, rfl, hown, hD, hBx, hb, hzr⟩ := hrel
    by_cases hlt : k < T.length
    · obtain ⟨b, o, rfl, hbb, g0, g1⟩ := toks_at (reads_grow hb HT.out) rfl hlt
      have hk1 : (k : Int) < (T.length : Int) := by omega
      have q2 := hBx.cell 2
      simp only [List.getElem?_toArray, List.getElem?_cons_succ, List.getElem?_cons_zero] at q2
      have hTk : T[k]? = some T[k] := List.getElem?_eq_getElem hlt
      have hstep : ∀ (r : Bool), begins T[k] p = r → ∀ i : Nat, (decide (i < k + 1) && (T[i]?).any (begins · p)) = (if r then (decide (i < k) && (T[i]?).any (begins · p)) || i == k else decide (i < k) && (T[i]?).any (begins · p)) := fun r hr i => by
        by_cases e : i = k
        · subst e
          rw [hTk]
          cases r <;> simp [hr]
        · have h1 : decide (i < k + 1) = decide (i < k) := by rw [decide_eq_decide]; omega
          have h2 : (i == k) = false := by simpa using e
          rw [h1, h2]
          cases r <;> simp
      have cH := HC.out T[k]
      have Hst := Lib.hid (hstep _ rfl)
      have CH := Lib.hid cH
      have pcell := fun wx (h : Below wr.heap.size wr wx) => ((hb.trans (h.mono hb.size)).cell (p := ⟨pb, po, none⟩) hpb).trans Hp0.out
      have tb := Blk.new wr 74 #[.string (str T[k]), .int .i64 (k : Int)]
      have hbw : Below wr.heap.size wr (wr.alloc (.cells #[.string (str T[k]), .int .i64 (k : Int)] 74)) := (Below.refl _ _).alloc (Nat.le_refl _) _
      have hBx2 := hBx.alloc (.cells #[.string (str T[k]), .int .i64 (k : Int)] 74)
      have hown2 := hown.alloc (.cells #[.string (str T[k]), .int .i64 (k : Int)] 74)
      have hzt : wr.heap.size < (wr.alloc (.cells #[.string (str T[k]), .int .i64 (k : Int)] 74)).heap.size := by simp
      have pcell2 := fun wx (h : Below (wr.alloc (.cells #[.string (str T[k]), .int .i64 (k : Int)] 74)).heap.size (wr.alloc (.cells #[.string (str T[k]), .int .i64 (k : Int)] 74)) wx) => pcell wx (hbw.trans (h.mono (by omega)))
      have hb2 := hb.trans (hbw.mono hb.size)
      clear pcell hstep cH hTk
      generalize begins T[k] p = r at *
      generalize str T[k] = x at *
      have Tb := Lib.hid tb
      have HBx2 := Lib.hid hBx2
      have Hown2 := Lib.hid hown2
      have HD := Lib.hid hD
      have Hb2 := Lib.hid hb2
      have Pc := Lib.hid pcell2
      clear tb hBx2 hown2 hD hb2 pcell2 hBx hown hb hbw
      go_wp2_with fail
      generalize (wr.alloc (.cells #[.string x, .int .i64 (k : Int)] 74)) = w2 at *
      have hcells : ∀ wx, Below w2.heap.size w2 wx → wx.cell? ⟨wr.heap.size, 0, none⟩ = some (.string x) ∧ wx.cell? ⟨w.heap.size, 2, none⟩ = some (.slice (some ⟨pb, po, none⟩) 1 wc) ∧ wx.cell? ⟨pb, po, none⟩ = some (.string p) := fun wx hC =>
        ⟨(Tb.out.below hC hzt).cell 0, (HBx2.out.below hC (by omega)).cell 2, Pc.out wx hC⟩
      have Hcells := Lib.hid hcells
      clear hcells Pc
      refine wp_region_grow (specOf [(6, ⟨Unit, fun _ => (.bool r), fun _ _ => True⟩)]) (fun wx => Below (World.heap w2).size w2 wx) (fun w1 w2 => Below w1.heap.size w1 w2) (by kernel_rfl) (by kernel_rfl) (stab_cons (fun _ _ _ _ h => h) (stab_nil)) (Below.refl _ _).drew ?_
      refine grow_fix 1 ?_ rfl (by rfl) (by rfl) (fun wx hC hD => ?_) ?_
      rotate_left
      · have hSw := Hcells.out wx hC
        go_simp
        all_goals with_reducible rfl
      try simp only [Act.put, List.setIfInBounds_toArray, List.set_cons_zero, List.set_cons_succ]
      refine grow_fix 2 ?_ rfl (by rfl) (by rfl) (fun wx hC hD => ?_) ?_
      rotate_left
      · have hSw := Hcells.out wx hC
        go_simp
        all_goals with_reducible rfl
      try simp only [Act.put, List.setIfInBounds_toArray, List.set_cons_zero, List.set_cons_succ]
      refine grow_fix 3 ?_ rfl (by rfl) (by rfl) (fun wx hC hD => ?_) ?_
      rotate_left
      · have hSw := Hcells.out wx hC
        go_simp
        all_goals with_reducible rfl
      try simp only [Act.put, List.setIfInBounds_toArray, List.set_cons_zero, List.set_cons_succ]
      refine grow_fix 4 ?_ rfl (by rfl) (by rfl) (fun wx hC hD => ?_) ?_
      rotate_left
      · have hSw := Hcells.out wx hC
        go_simp
        all_goals with_reducible rfl
      try simp only [Act.put, List.setIfInBounds_toArray, List.set_cons_zero, List.set_cons_succ]
      refine grow_fix 5 ?_ rfl (by rfl) (by rfl) (fun wx hC hD => ?_) ?_
      rotate_left
      · have hSw := Hcells.out wx hC
        go_simp
        all_goals with_reducible rfl
      try simp only [Act.put, List.setIfInBounds_toArray, List.set_cons_zero, List.set_cons_succ]
      refine grow_fix 6 ?_ rfl (by rfl) (by rfl) (fun wx hC hD => ?_) ?_
      rotate_left
      · have hSw := Hcells.out wx hC
        go_simp
        all_goals with_reducible rfl
      try simp only [Act.put, List.setIfInBounds_toArray, List.set_cons_zero, List.set_cons_succ]
      refine grow_give 7 _ rfl (by rfl) (by rfl) (fun wx hC hD => ?_) (fun x => ?_)
      · refine give_enter (f := ?_) (args := ?_) ?_ ?_
        rotate_left 2
        · have hSw := Hcells.out wx hC
          go_simp
          all_goals first | with_reducible rfl | (refine ⟨?_, ?_⟩ <;> with_reducible rfl)
        refine (CH.out wx).mono ?_
        rintro e w3 ⟨rfl, rfl⟩
        exact ⟨_, rfl, Below.refl _ _, hC, (), rfl, trivial⟩
      obtain ⟨⟩ := x
      try simp only [Act.put, List.setIfInBounds_toArray, List.set_cons_zero, List.set_cons_succ]
      refine grow_nil (fun w3 hC hF => ?_)
      have hown3 := Hown2.out.kept (grow_of_below hC none) (by simp)
      have hBx3 := HBx2.out.below hC (by omega)
      have htk := (Tb.out.below hC hzt).cell 1
      simp only [List.getElem?_toArray, List.getElem?_cons_succ, List.getElem?_cons_zero] at htk
      have hb3 := Hb2.out.trans (hC.mono Hb2.out.size)
      have hz3 := Nat.lt_of_lt_of_le hzt hC.size
      have HBx3 := Lib.hid hBx3
      have Hb3 := Lib.hid hb3
      clear hF hC Hcells CH HBx2 Hown2 Hb2 Tb hBx3 hb3
      cases r
      case false =>
        have Hown3 := Lib.hid hown3
        clear hown3
        go_wp2
        go_roundw
        case rel => exact ⟨k + 1, D, by omega, by go_num, Hown3.out.mono (Nat.le_succ _), HD.out.congr (fun i => (Hst.out i).symm), HBx3.out, Hb3.out, by omega⟩
        case measure => simp [intOf]; omega
      case true =>
        have hD2 := HD.out.put hown3.isMap k (.agg [])
        have HD2 := Lib.hid hD2
        clear hD2
        go_wp2_with (first
          | (at_mapUpdate; refine wpList_mapUpdate_own _ rfl _ _ _ 96 rfl 3 98 law3 Try.underlying96 _ (w.heap.size + 1) _ _ rfl hown3 (by unfold maxLen; omega) _ _ _ rfl rfl (keyOf_int_mk Try.underlying3 (wf_nat k (by omega))) _ [] unitElem_mk ?_; intro w4 hown4 hg4; go_frame)
          | go_in)
        have hb4 := below_map Hb3.out hg4 (by omega)
        have hBx4 := HBx3.out.grown hg4 (by simp)
        have hz4 := hg4.size
        have Hown4 := Lib.hid hown4
        have HB4 := Lib.hid hBx4
        have Hb4 := Lib.hid hb4
        clear hown4 hBx4 hb4 hown3 hg4 htk
        go_roundw
        case rel => exact ⟨k + 1, _, by omega, by go_num, Hown4.out, HD2.out.congr (fun i => (Hst.out i).symm), HB4.out, Hb4.out, by omega⟩
        case measure => simp [intOf]; omega
    · obtain rfl : k = T.length := by omega
      have Hown := Lib.hid hown
      have HD := Lib.hid hD
      have Hb := Lib.hid hb
      clear hown hD hb hBx
      go_wp2
      go_ret
      refine ⟨_, D, rfl, Hown.out.mono HN.out, HD.out.congr (fun i => ?_), Hb.out, Nat.le_succ _⟩
      rw [Hf.out i]
      by_cases h : i < T.length
      · simp [h]
      · simp [h, List.getElem?_eq_none (show T.length ≤ i by omega)]
end Go.Proofs.Ytjfconddkfihcaa.Mk
end
