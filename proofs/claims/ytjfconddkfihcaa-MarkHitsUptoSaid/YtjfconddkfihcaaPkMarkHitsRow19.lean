/- What a query marks: plain. No program. -/
import Derived.Maps.Views
import Derived.Maps.RangeWalk
import Derived.Maps.OwnSet
import Derived.Test.YtjfconddkfihcaaPkMarkHitsRow18
import Derived.Test.YtjfconddkfihcaaPkMarkHitsRow1
import Derived.Test.YtjfconddkfihcaaPkMarkHitsRow13
import Derived.Test.YtjfconddkfihcaaMatchBPk
import Derived.Test.YtjfconddkfihcaaPkMarkHitsRow10
import Derived.Test.YtjfconddkfihcaaGrowPk
section
namespace Go.Proofs.Ytjfconddkfihcaa.Mk
open Go.RowKit Go.Proofs.Ytjfconddkfihcaa Go.Proofs.Ytjfconddkfihcaa.Ut Go.Proofs.Ytjfconddkfihcaa.Qy Go.Maps

/-- Does a leaf mark the i-th word? -/
def leafM (k : Int) (ws : List ByteArray) (T : List (List UInt8)) (i : Nat) : Bool :=
  if k = 3 then (match ws with | [p] => (T[i]?).any (begins · p) | _ => false)
  else if k = 2 ∧ ws.length ≠ 1 then false else (phr T ws).any fun f => decide (f ≤ i) && decide (i < f + ws.length)
mutual
/-- Does a query mark the i-th word? -/
def markB (name : ByteArray) (T : List (List UInt8)) (i : Nat) : Q → Bool
  | .mk k nm ws l => if k = 2 ∨ k = 3 ∨ k = 4 then nm.data.toList == name.data.toList && leafM k ws T i else if k = 5 ∨ k = 6 then markSome name T i l else false
def markSome (name : ByteArray) (T : List (List UInt8)) (i : Nat) : List Q → Bool
  | [] => false
  | q :: l => markB name T i q || markSome name T i l
end
theorem markSome_eq (name : ByteArray) (T : List (List UInt8)) (i : Nat) : ∀ l, markSome name T i l = l.any (markB name T i)
  | [] => by simp [markSome]
  | q :: l => by simp [markSome, markSome_eq name T i l]
theorem markB_eq (name : ByteArray) (T : List (List UInt8)) (i : Nat) (k : Int) (nm : ByteArray) (ws : List ByteArray) (l : List Q) :
    markB name T i (.mk k nm ws l) = if k = 2 ∨ k = 3 ∨ k = 4 then nm.data.toList == name.data.toList && leafM k ws T i else if k = 5 ∨ k = 6 then l.any (markB name T i) else false := by
  rw [markB, markSome_eq]
/-- A set of places. -/
def Holds {H : Type} (D : DataW H) (f : Nat → Bool) : Prop := (∀ i : Nat, Maps.has D (.int .i64 (i : Nat)) = f i) ∧ ∀ kl, Maps.has D kl = true → ∃ i : Nat, kl = .int .i64 (i : Nat)
theorem Holds.none {H : Type} : Holds (H := H) (.map []) (fun _ => false) := ⟨fun i => by simp [Maps.has], fun kl h => by simp [Maps.has] at h⟩
theorem Holds.put {H : Type} {D : DataW H} {f : Nat → Bool} (h : Holds D f) (hm : IsMap D) (k : Nat) (d : DataW H) : Holds (D.put (.int .i64 (k : Nat)) d) (fun i => f i || i == k) := by
  refine ⟨fun i => ?_, fun kl hk => ?_⟩
  · by_cases e : i = k
    · subst e
      rw [has_put_same hm (by simp [WideAt.IsKeyLit])]
      simp
    · rw [has_put_other (fun h => by injection h with _ h; omega), h.1 i]
      simp [e]
  · by_cases e : kl = .int .i64 (k : Nat)
    · exact ⟨k, e⟩
    · rw [has_put_other e] at hk
      exact h.2 kl hk
theorem Holds.congr {H : Type} {D : DataW H} {f g : Nat → Bool} (h : Holds D f) (e : ∀ i, f i = g i) : Holds D g := ⟨fun i => (h.1 i).trans (e i), h.2⟩
end Go.Proofs.Ytjfconddkfihcaa.Mk
end

section
/- mark.marked: a leaf of a beginning. -/
namespace Go.Proofs.Ytjfconddkfihcaa.Mk
open Go.RowKit Go.Proofs.Ytjfconddkfihcaa Go.Proofs.Ytjfconddkfihcaa.Ut Go.Proofs.Ytjfconddkfihcaa.Tk Go.Proofs.Ytjfconddkfihcaa.Qy Go.Maps
set_option maxRecDepth 20000
set_option linter.unusedSimpArgs false

/-- What comes back: a set of places, of the call's own. -/
def MpPost (w : World) (f : Nat → Bool) (N : Nat) (e : Ending) (w' : World) : Prop := ∃ (b : Nat) (D : DataW Unit), e = .returned (.map (some b)) ∧ w'.ownsMap Try.prog 3 unitElem b N D ∧ Holds D f ∧ Below w.heap.size w w' ∧ w.heap.size ≤ b
def MarkOk (name : ByteArray) (T : List (List UInt8)) (q : Q) : Prop := ∀ (w : World) (a0 a1 a2 a3 : Value) (A : Option Addr) (c : Nat), QAt w w.heap.size q [a0, a1, a2, a3] → Reads w w.heap.size 2 A T.length (tokC (placed T)) →
  Calls Try.prog 67 #[.agg #[a0, a1, a2, a3], .string name, .slice A T.length c] w (MpPost w (fun i => markB name T i q) (T.length * wq q))
theorem law3 : Keyed Try.prog 3 := Maps.int_keyed Try.underlying3

theorem beq_toList (a b : ByteArray) : (a.toList == b.toList) = (a.data.toList == b.data.toList) := by rw [tl, tl]
theorem no_mark (name : ByteArray) (T : List (List UInt8)) (k : Int) (nm : ByteArray) (ws : List ByteArray) (l : List Q) (hk : k = 2 ∨ k = 3 ∨ k = 4) (hno : (nm.toList == name.toList) = false ∨ ws = [] ∨ (k ≠ 4 ∧ ws.length ≠ 1)) (i : Nat) : markB name T i (.mk k nm ws l) = false := by
  rw [markB_eq, if_pos hk]
  rcases hno with h | h | ⟨h1, h2⟩
  · rw [beq_toList] at h
    rw [h, Bool.false_and]
  · subst h
    rw [Bool.and_eq_false_iff]
    right
    unfold leafM
    split
    · rfl
    · simp [phr]
  · rw [Bool.and_eq_false_iff]
    right
    unfold leafM
    split
    · match ws, h2 with
      | [], _ => rfl
      | [p], h2 => simp at h2
      | _ :: _ :: _, _ => rfl
    · rw [if_pos ⟨by omega, h2⟩]
theorem made_map (w : World) (o : Obj) : ((w.alloc o).alloc (.map #[] 0)).ownsMap (H := Unit) Try.prog 3 unitElem (w.heap.size + 1) 0 (.map []) := by
  have := World.ownsMap_made (H := Unit) (w.alloc o) Try.prog 3 unitElem
  rw [World.size_alloc] at this
  exact this
theorem made_below (w : World) (o : Obj) : Below w.heap.size w ((w.alloc o).alloc (.map #[] 0)) := ((Below.refl _ _).alloc (Nat.le_refl _) _).alloc (by simp) _

set_option maxHeartbeats 1600000 in
theorem marked_no (name : ByteArray) (T : List (List UInt8)) (k : Int) (nm : ByteArray) (ws : List ByteArray) (l : List Q) (hk : k = 2 ∨ k = 3 ∨ k = 4) (hno : (nm.toList == name.toList) = false ∨ ws = [] ∨ (k ≠ 4 ∧ ws.length ≠ 1)) : MarkOk name T (.mk k nm ws l) := by
  intro w a0 a1 a2 a3 A c hQ hT
  obtain ⟨WA, m, wc, CA, n1, c2, e, hI⟩ := hQ.is
  simp only [List.cons.injEq, and_true] at e
  obtain ⟨rfl, rfl, rfl, rfl⟩ := e
  have hwn := hI.wn
  have hmm := @run_makeMap Try.prog
  have hf := no_mark name T k nm ws l hk hno
  have fin : MpPost w (fun i => markB name T i (.mk k nm ws l)) (T.length * wq (.mk k nm ws l)) (.returned (.map (some (w.heap.size + 1)))) ((w.alloc (.cells #[.int .i64 k, .string nm, .slice WA m wc, .slice CA n1 c2] 37)).alloc (.map #[] 0)) :=
    ⟨_, .map [], rfl, (made_map _ _).mono (Nat.zero_le _), Holds.none.congr (fun i => (hf i).symm), made_below _ _, Nat.le_succ _⟩
  have Fin := Lib.hid fin
  have hm0 : ws = [] → m = 0 := fun e => by rw [← hwn, e]; rfl
  rw [hwn] at hno
  clear hQ hT hI hwn hf fin
  go_enter Try.func67, Try.ntmps67
  by_cases hxy : (nm.toList == name.toList) = true
  · have hxn : (nm.toList != name.toList) = false := by rw [bne, hxy]; rfl
    by_cases h0 : m = 0
    · subst h0
      clear hm0 hno
      rcases hk with rfl | rfl | rfl <;> go_wp2 <;> go_ret <;> exact Fin.out
    · have h1 : k ≠ 4 ∧ m ≠ 1 := by
        rcases hno with h | h | h
        · rw [h] at hxy; cases hxy
        · exact absurd (hm0 h) h0
        · exact h
      have hz0 : ((m : Int) == 0) = false := by simp; omega
      have hz1 : ((m : Int) != 1) = true := by simp; omega
      clear hm0 hno
      rcases hk with rfl | rfl | rfl
      · go_wp2
        go_ret
        exact Fin.out
      · go_wp2
        go_ret
        exact Fin.out
      · exact absurd rfl h1.1
  · have hxf : (nm.toList == name.toList) = false := Bool.eq_false_iff.2 hxy
    have hxn : (nm.toList != name.toList) = true := by rw [bne, hxf]; rfl
    clear hm0 hno
    rcases hk with rfl | rfl | rfl <;> go_wp2 <;> go_ret <;> exact Fin.out
end Go.Proofs.Ytjfconddkfihcaa.Mk
end

section
/- mark.marked: a leaf of a beginning (printed by gen_mkd.py). -/
namespace Go.Proofs.Ytjfconddkfihcaa.Mk
open Go.RowKit Go.Proofs.Ytjfconddkfihcaa Go.Proofs.Ytjfconddkfihcaa.Ut Go.Proofs.Ytjfconddkfihcaa.Tk Go.Proofs.Ytjfconddkfihcaa.Qy Go.Maps
set_option maxRecDepth 20000
set_option linter.unusedSimpArgs false

theorem wf_nat (k : Nat) (h : k ≤ 9223372036854775807) : (Lit.int .i64 (k : Int)).wf = true := by
  simp only [Lit.wf, Bool.and_eq_true, decide_eq_true_eq]
  exact ⟨Int.le_trans (by decide : IntKind.i64.min ≤ (0 : Int)) (by omega), Int.le_trans (by omega : (k : Int) ≤ 9223372036854775807) (by decide)⟩
theorem below_map {w wr w2 : World} {b : Nat} (h : Below w.heap.size w wr) (hg : wr.grownBy w2 (some b)) (hb : w.heap.size ≤ b) : Below w.heap.size w w2 := h.grown hg h.size (fun j hj => by injection hj with hj; omega)
set_option maxHeartbeats 3200000 in
theorem marked_begin (name : ByteArray) (T : List (List UInt8)) (hT6 : T.length ≤ 1048576) (nm p : ByteArray) (l : List Q) (hnm : (nm.toList == name.toList) = true) : MarkOk name T (.mk 3 nm [p] l) := by
  intro w a0 a1 a2 a3 A c hQ hT
  obtain ⟨WA, m, wc, CA, n1, c2, e, hI⟩ := hQ.is
  simp only [List.cons.injEq, and_true] at e
  obtain ⟨rfl, rfl, rfl, rfl⟩ := e
  have hwn := hI.wn
  have hwds := hI.wds
  obtain rfl : m = 1 := by simpa using hwn.symm
  obtain ⟨pb, po, rfl, hpb, hpc⟩ := hwds.2 (by omega)
  have hp0 := hpc 0 (.string p) rfl
  rw [Nat.add_zero] at hp0
  have hmm := @run_makeMap Try.prog
  have hxn : (nm.toList != name.toList) = false := by rw [bne, hnm]; rfl
  have hf : ∀ i, markB name T i (.mk 3 nm [p] l) = (T[i]?).any (begins · p) := fun i => by
    rw [markB_eq, if_pos (by decide), ← beq_toList, hnm, Bool.true_and]
    simp [leafM]
  have hm1 := made_map w (.cells #[.int .i64 3, .string nm, .slice (some ⟨pb, po, none⟩) 1 wc, .slice CA n1 c2] 37)
  have hb1 := made_below w (.cells #[.int .i64 3, .string nm, .slice (some ⟨pb, po, none⟩) 1 wc, .slice CA n1 c2] 37)
  have hB1 := (Blk.new w 37 #[.int .i64 3, .string nm, .slice (some ⟨pb, po, none⟩) 1 wc, .slice CA n1 c2]).alloc (.map #[] 0)
  have hz : ((w.alloc (.cells #[.int .i64 3, .string nm, .slice (some ⟨pb, po, none⟩) 1 wc, .slice CA n1 c2] 37)).alloc (.map #[] 0)).heap.size = w.heap.size + 1 + 1 := by simp
  have c1 := fun (x : List UInt8) wx => Try.strings_HasPrefix (str x) p wx
  simp only [hasPrefix_begins] at c1
  have HC := Lib.hid c1
  have HT := Lib.hid hT
  have Hf := Lib.hid hf
  have Hp0 := Lib.hid hp0
  have HM := Lib.hid hm1
  have Hb1 := Lib.hid hb1
  have HB1 := Lib.hid hB1
  have hN : T.length ≤ T.length * wq (.mk 3 nm [p] l) := Nat.le_mul_of_pos_right _ (by rw [wq_eq]; omega)
  have HN := Lib.hid hN
  clear hQ hT hI hwn hwds hpc hp0 hf hm1 hb1 hB1 c1 hN
  go_enter Try.func67, Try.ntmps67
  go_wp2_with fail
  generalize ((w.alloc (.cells #[.int .i64 3, .string nm, .slice (some ⟨pb, po, none⟩) 1 wc, .slice CA n1 c2] 37)).alloc (.map #[] 0)) = w1 at *
  go_loopw [50] (fun i wr => ∃ (k : Nat) (D : DataW Unit), k ≤ T.length ∧ i = .int .i64 k ∧ wr.ownsMap Try.prog 3 unitElem (w.heap.size + 1) k D ∧ Holds D (fun i => decide (i < k) && (T[i]?).any (begins · p)) ∧ Blk wr w.heap.size 37 #[.int .i64 3, .string nm, .slice (some ⟨pb, po, none⟩) 1 wc, .slice CA n1 c2] ∧ Below w.heap.size w wr ∧ w.heap.size + 1 < wr.heap.size) (fun i _ => T.length - (intOf i).toNat)
  case atStart => exact ⟨0, _, Nat.zero_le _, rfl, HM.out, Holds.none.congr (fun i => by simp), HB1.out, Hb1.out, by omega⟩
  case round =>
    obtain ⟨k, D, hk, rfl, hown, hD, hBx, hb, hzr⟩ := hrel
    by_cases hlt : k < T.length
    · obtain ⟨b, o, rfl, hbb, g0, g1⟩ := toks_at (reads_grow hb HT.out) rfl hlt
      have hk1 : (k : Int) < (T.length : Int) := by omega
      have q2 := hBx.cell 2
      simp only [List.getElem?_toArray, List.getElem?_cons_succ, List.getElem?_cons_zero] at q2
      have hTk : T[k]? = some T[k] := List.getElem?_eq_getElem hlt
      have hstep : ∀ (r : Bool), begins T[k] p = r → ∀ i : Nat, (decide (i < k + 1) && (T[i]?).any (begins · p)) = (if r then (decide (i < k) && (T[i]?).any (begins · p)) || i == k else decide (i < k) && (T[i]?).any (begins · p)) := fun r hr i => by
        by_cases e : i = k
        · subst e
          rw [hTk]
          cases r <;> simp [hr]
        · have h1 : decide (i < k + 1) = decide (i < k) := by rw [decide_eq_decide]; omega
          have h2 : (i == k) = false := by simpa using e
          rw [h1, h2]
          cases r <;> simp
      have cH := HC.out T[k]
      have Hst := Lib.hid (hstep _ rfl)
      have CH := Lib.hid cH
      have pcell := fun wx (h : Below wr.heap.size wr wx) => ((hb.trans (h.mono hb.size)).cell (p := ⟨pb, po, none⟩) hpb).trans Hp0.out
      have tb := Blk.new wr 74 #[.string (str T[k]), .int .i64 (k : Int)]
      have hbw : Below wr.heap.size wr (wr.alloc (.cells #[.string (str T[k]), .int .i64 (k : Int)] 74)) := (Below.refl _ _).alloc (Nat.le_refl _) _
      have hBx2 := hBx.alloc (.cells #[.string (str T[k]), .int .i64 (k : Int)] 74)
      have hown2 := hown.alloc (.cells #[.string (str T[k]), .int .i64 (k : Int)] 74)
      have hzt : wr.heap.size < (wr.alloc (.cells #[.string (str T[k]), .int .i64 (k : Int)] 74)).heap.size := by simp
      have pcell2 := fun wx (h : Below (wr.alloc (.cells #[.string (str T[k]), .int .i64 (k : Int)] 74)).heap.size (wr.alloc (.cells #[.string (str T[k]), .int .i64 (k : Int)] 74)) wx) => pcell wx (hbw.trans (h.mono (by omega)))
      have hb2 := hb.trans (hbw.mono hb.size)
      clear pcell hstep cH hTk
      generalize begins T[k] p = r at *
      generalize str T[k] = x at *
      have Tb := Lib.hid tb
      have HBx2 := Lib.hid hBx2
      have Hown2 := Lib.hid hown2
      have HD := Lib.hid hD
      have Hb2 := Lib.hid hb2
      have Pc := Lib.hid pcell2
      clear tb hBx2 hown2 hD hb2 pcell2 hBx hown hb hbw
      go_wp2_with fail
      generalize (wr.alloc (.cells #[.string x, .int .i64 (k : Int)] 74)) = w2 at *
      have hcells : ∀ wx, Below w2.heap.size w2 wx → wx.cell? ⟨wr.heap.size, 0, none⟩ = some (.string x) ∧ wx.cell? ⟨w.heap.size, 2, none⟩ = some (.slice (some ⟨pb, po, none⟩) 1 wc) ∧ wx.cell? ⟨pb, po, none⟩ = some (.string p) := fun wx hC =>
        ⟨(Tb.out.below hC hzt).cell 0, (HBx2.out.below hC (by omega)).cell 2, Pc.out wx hC⟩
      have Hcells := Lib.hid hcells
      clear hcells Pc
      refine wp_region_grow (specOf [(6, ⟨Unit, fun _ => (.bool r), fun _ _ => True⟩)]) (fun wx => Below (World.heap w2).size w2 wx) (fun w1 w2 => Below w1.heap.size w1 w2) (by kernel_rfl) (by kernel_rfl) (stab_cons (fun _ _ _ _ h => h) (stab_nil)) (Below.refl _ _).drew ?_
      refine grow_fix 1 ?_ rfl (by rfl) (by rfl) (fun wx hC hD => ?_) ?_
      rotate_left
      · have hSw := Hcells.out wx hC
        go_simp
        all_goals with_reducible rfl
      try simp only [Act.put, List.setIfInBounds_toArray, List.set_cons_zero, List.set_cons_succ]
      refine grow_fix 2 ?_ rfl (by rfl) (by rfl) (fun wx hC hD => ?_) ?_
      rotate_left
      · have hSw := Hcells.out wx hC
        go_simp
        all_goals with_reducible rfl
      try simp only [Act.put, List.setIfInBounds_toArray, List.set_cons_zero, List.set_cons_succ]
      refine grow_fix 3 ?_ rfl (by rfl) (by rfl) (fun wx hC hD => ?_) ?_
      rotate_left
      · have hSw := Hcells.out wx hC
        go_simp
        all_goals with_reducible rfl
      try simp only [Act.put, List.setIfInBounds_toArray, List.set_cons_zero, List.set_cons_succ]
      refine grow_fix 4 ?_ rfl (by rfl) (by rfl) (fun wx hC hD => ?_) ?_
      rotate_left
      · have hSw := Hcells.out wx hC
        go_simp
        all_goals with_reducible rfl
      try simp only [Act.put, List.setIfInBounds_toArray, List.set_cons_zero, List.set_cons_succ]
      refine grow_fix 5 ?_ rfl (by rfl) (by rfl) (fun wx hC hD => ?_) ?_
      rotate_left
      · have hSw := Hcells.out wx hC
        go_simp
        all_goals with_reducible rfl
      try simp only [Act.put, List.setIfInBounds_toArray, List.set_cons_zero, List.set_cons_succ]
      refine grow_fix 6 ?_ rfl (by rfl) (by rfl) (fun wx hC hD => ?_) ?_
      rotate_left
      · have hSw := Hcells.out wx hC
        go_simp
        all_goals with_reducible rfl
      try simp only [Act.put, List.setIfInBounds_toArray, List.set_cons_zero, List.set_cons_succ]
      refine grow_give 7 _ rfl (by rfl) (by rfl) (fun wx hC hD => ?_) (fun x => ?_)
      · refine give_enter (f := ?_) (args := ?_) ?_ ?_
        rotate_left 2
        · have hSw := Hcells.out wx hC
          go_simp
          all_goals first | with_reducible rfl | (refine ⟨?_, ?_⟩ <;> with_reducible rfl)
        refine (CH.out wx).mono ?_
        rintro e w3 ⟨rfl, rfl⟩
        exact ⟨_, rfl, Below.refl _ _, hC, (), rfl, trivial⟩
      obtain ⟨⟩ := x
      try simp only [Act.put, List.setIfInBounds_toArray, List.set_cons_zero, List.set_cons_succ]
      refine grow_nil (fun w3 hC hF => ?_)
      have hown3 := Hown2.out.kept (grow_of_below hC none) (by simp)
      have hBx3 := HBx2.out.below hC (by omega)
      have htk := (Tb.out.below hC hzt).cell 1
      simp only [List.getElem?_toArray, List.getElem?_cons_succ, List.getElem?_cons_zero] at htk
      have hb3 := Hb2.out.trans (hC.mono Hb2.out.size)
      have hz3 := Nat.lt_of_lt_of_le hzt hC.size
      have HBx3 := Lib.hid hBx3
      have Hb3 := Lib.hid hb3
      clear hF hC Hcells CH HBx2 Hown2 Hb2 Tb hBx3 hb3
      cases r
      case false =>
        have Hown3 := Lib.hid hown3
        clear hown3
        go_wp2
        go_roundw
        case rel => exact ⟨k + 1, D, by omega, by go_num, Hown3.out.mono (Nat.le_succ _), HD.out.congr (fun i => (Hst.out i).symm), HBx3.out, Hb3.out, by omega⟩
        case measure => simp [intOf]; omega
      case true =>
        have hD2 := HD.out.put hown3.isMap k (.agg [])
        have HD2 := Lib.hid hD2
        clear hD2
        go_wp2_with (first
          | (at_mapUpdate; refine wpList_mapUpdate_own _ rfl _ _ _ 96 rfl 3 98 law3 Try.underlying96 _ (w.heap.size + 1) _ _ rfl hown3 (by unfold maxLen; omega) _ _ _ rfl rfl (keyOf_int_mk Try.underlying3 (wf_nat k (by omega))) _ [] unitElem_mk ?_; intro w4 hown4 hg4; go_frame)
          | go_in)
        have hb4 := below_map Hb3.out hg4 (by omega)
        have hBx4 := HBx3.out.grown hg4 (by simp)
        have hz4 := hg4.size
        have Hown4 := Lib.hid hown4
        have HB4 := Lib.hid hBx4
        have Hb4 := Lib.hid hb4
        clear hown4 hBx4 hb4 hown3 hg4 htk
        go_roundw
        case rel => exact ⟨k + 1, _, by omega, by go_num, Hown4.out, HD2.out.congr (fun i => (Hst.out i).symm), HB4.out, Hb4.out, by omega⟩
        case measure => simp [intOf]; omega
    · obtain rfl : k = T.length := by omega
      have Hown := Lib.hid hown
      have HD := Lib.hid hD
      have Hb := Lib.hid hb
      clear hown hD hb hBx
      go_wp2
      go_ret
      refine ⟨_, D, rfl, Hown.out.mono HN.out, HD.out.congr (fun i => ?_), Hb.out, Nat.le_succ _⟩
      rw [Hf.out i]
      by_cases h : i < T.length
      · simp [h]
      · simp [h, List.getElem?_eq_none (show T.length ≤ i by omega)]
end Go.Proofs.Ytjfconddkfihcaa.Mk
end

section
/- mark.marked: a leaf of words (printed by gen_mke.py). -/
namespace Go.Proofs.Ytjfconddkfihcaa.Mk
open Go.RowKit Go.Proofs.Ytjfconddkfihcaa Go.Proofs.Ytjfconddkfihcaa.Ut Go.Proofs.Ytjfconddkfihcaa.Tk Go.Proofs.Ytjfconddkfihcaa.Qy Go.Maps
set_option maxRecDepth 20000
set_option linter.unusedSimpArgs false

theorem phr_in (T : List (List UInt8)) (ws : List ByteArray) : ∀ f ∈ phr T ws, f + ws.length ≤ T.length := by
  intro f hf
  unfold phr at hf
  split at hf
  · cases hf
  · rename_i h
    unfold phrTo at hf
    rw [List.mem_filter, List.mem_range] at hf
    have h1 : ws.length ≠ 0 := fun e => h (List.length_eq_zero_iff.1 e)
    by_cases hs : T.length - f < ws.length
    · have := stands_short T ws f hs
      rw [hf.2] at this
      cases this
    · omega
theorem phr_len (T : List (List UInt8)) (ws : List ByteArray) : (phr T ws).length ≤ T.length := by
  unfold phr
  split
  · simp
  · exact phrTo_len T ws T.length
/-- The places of the words of the first k phrases. -/
def phM (ps : List Nat) (m k i : Nat) : Bool := (ps.take k).any fun f => decide (f ≤ i) && decide (i < f + m)
theorem phM_succ (ps : List Nat) (m k i : Nat) (h : k < ps.length) : phM ps m (k + 1) i = (phM ps m k i || (decide (ps[k] ≤ i) && decide (i < ps[k] + m))) := by
  unfold phM
  rw [List.take_succ_eq_append_getElem h, List.any_append]
  simp
theorem in_succ (f j i : Nat) : (decide (f ≤ i) && decide (i < f + (j + 1))) = ((decide (f ≤ i) && decide (i < f + j)) || i == f + j) := by
  by_cases e : i = f + j
  · subst e; simp
  · have h2 : (i == f + j) = false := by simpa using e
    have h3 : decide (i < f + (j + 1)) = decide (i < f + j) := by rw [decide_eq_decide]; omega
    rw [h2, h3, Bool.or_false]

set_option maxHeartbeats 3200000 in
theorem marked_term (name : ByteArray) (T : List (List UInt8)) (hT6 : T.length ≤ 1048576) (nm : ByteArray) (ws : List ByteArray) (l : List Q) (hnm : (nm.toList == name.toList) = true) (hone : ws.length = 1) : MarkOk name T (.mk 2 nm ws l) := by
  have hne : ws ≠ [] := fun e => by rw [e] at hone; cases hone
  intro w a0 a1 a2 a3 A c hQ hT
  obtain ⟨WA, m, wc, CA, n1, c2, e, hI⟩ := hQ.is
  simp only [List.cons.injEq, and_true] at e
  obtain ⟨rfl, rfl, rfl, rfl⟩ := e
  have hwn := hI.wn
  have hwds := hI.wds
  have hmm := @run_makeMap Try.prog
  have hxn : (nm.toList != name.toList) = false := by rw [bne, hnm]; rfl
  have hwl : ws.length ≤ 1048576 := by omega
  have hm0 : 0 < m := by
    rw [← hwn]
    exact List.length_pos_iff.2 hne
  have hf : ∀ i, markB name T i (.mk 2 nm ws l) = phM (phr T ws) ws.length (phr T ws).length i := fun i => by
    rw [markB_eq, if_pos (by decide), ← beq_toList, hnm, Bool.true_and]
    unfold leafM phM
    rw [if_neg (by decide), if_neg (by rw [hone]; decide)]
    rw [List.take_of_length_le (Nat.le_refl _)]
  have hpi := phr_in T ws
  have hpl := phr_len T ws
  have hm1 := made_map w (.cells #[.int .i64 2, .string nm, .slice WA m wc, .slice CA n1 c2] 37)
  have hb1 := made_below w (.cells #[.int .i64 2, .string nm, .slice WA m wc, .slice CA n1 c2] 37)
  have hB1 := (Blk.new w 37 #[.int .i64 2, .string nm, .slice WA m wc, .slice CA n1 c2]).alloc (.map #[] 0)
  have hz : ((w.alloc (.cells #[.int .i64 2, .string nm, .slice WA m wc, .slice CA n1 c2] 37)).alloc (.map #[] 0)).heap.size = w.heap.size + 1 + 1 := by simp
  have cph := phrase_any A T.length c T WA m wc ws _ (reads_grow hb1 hT) rfl hT6 (reads_grow hb1 hwds) hwn (by omega)
  have hN : (phr T ws).length * ws.length ≤ T.length * wq (.mk 2 nm ws l) := Nat.mul_le_mul hpl (by rw [wq_eq]; omega)
  rw [hwn] at hf hpi hN hwl
  generalize phr T ws = ps at *
  have hNb : ps.length * m ≤ 1048576 * 1048576 := Nat.mul_le_mul (Nat.le_trans hpl hT6) hwl
  have Hf := Lib.hid hf
  have HM := Lib.hid hm1
  have Hb1 := Lib.hid hb1
  have HB1 := Lib.hid hB1
  have HN := Lib.hid hN
  have Hpi := Lib.hid hpi
  have HNb := Lib.hid hNb
  clear hQ hT hI hf hm1 hb1 hB1 hN hpi hNb hne hwds
  obtain rfl : m = 1 := by omega
  go_enter Try.func67, Try.ntmps67
  go_wp2_with fail
  generalize ((w.alloc (.cells #[.int .i64 2, .string nm, .slice WA 1 wc, .slice CA n1 c2] 37)).alloc (.map #[] 0)) = w1 at *
  refine cph.mono ?_
  rintro e w2 ⟨v, rfl, hIn⟩
  obtain ⟨A2, d2, rfl, hR2⟩ := own_shape hIn.own
  have hb2 := hIn.bel
  have HM2 := Lib.hid (HM.out.kept (grow_of_below hb2 none) (by simp))
  have HB2 := Lib.hid (HB1.out.below hb2 (by omega))
  have Hb2 := Lib.hid (Hb1.out.trans (hb2.mono Hb1.out.size))
  have hz2 : w.heap.size + 1 < w2.heap.size := by have := hb2.size; omega
  have HR2 := Lib.hid hR2
  have HBb : Hid (1 ≤ 1048576 ∧ ps.length ≤ 1048576) := Lib.hid ⟨by omega, by omega⟩
  clear cph hIn hb2 HM HB1 Hb1 hR2
  go_wp2_with fail
  go_loopw [72] (fun i wr => ∃ (k : Nat) (D : DataW Unit), k ≤ ps.length ∧ i = .int .i64 k ∧ wr.ownsMap Try.prog 3 unitElem (w.heap.size + 1) (k * 1) D ∧ Holds D (fun i => phM ps 1 k i) ∧ Blk wr w.heap.size 37 #[.int .i64 2, .string nm, .slice WA 1 wc, .slice CA n1 c2] ∧ Below w.heap.size w wr ∧ w.heap.size + 1 < wr.heap.size ∧ (∀ b o, A2 = some ⟨b, o, none⟩ → ∀ j (h : j < ps.length), wr.cell? ⟨b, o + j, none⟩ = some (.int .i64 (ps[j] : Nat)))) (fun i _ => ps.length - (intOf i).toNat)
  case atStart =>
    refine ⟨0, _, Nat.zero_le _, rfl, by rw [Nat.zero_mul]; exact HM2.out, Holds.none.congr (fun i => by simp [phM]), HB2.out, Hb2.out, hz2, fun b o e j h => ?_⟩
    obtain ⟨b', o', e', _, hc⟩ := HR2.out.2 (by omega)
    rw [e] at e'
    injection e' with e'
    injection e' with e1 e2
    subst e1 e2
    exact hc j _ (by simp [nv, List.getElem?_eq_getElem h])
  case round =>
    obtain ⟨k, D, hk, rfl, hown, hD, hBx, hb, hzr, hcl⟩ := hrel
    by_cases hlt : k < ps.length
    · obtain ⟨b2, o2, rfl, _, _⟩ := HR2.out.2 (by omega)
      have g0 := hcl b2 o2 rfl k hlt
      have hk1 : (k : Int) < (ps.length : Int) := by omega
      have q2 := hBx.cell 2
      simp only [List.getElem?_toArray, List.getElem?_cons_succ, List.getElem?_cons_zero] at q2
      have hfi := Hpi.out ps[k] (List.getElem_mem hlt)
      have hst := fun i => phM_succ ps 1 k i hlt
      have hkm : k * 1 + 1 ≤ ps.length * 1 := by
        have := Nat.mul_le_mul_right 1 (show k + 1 ≤ ps.length by omega)
        rwa [Nat.add_mul, Nat.one_mul] at this
      generalize ps[k] = f at *
      have Hst := Lib.hid hst
      have Hown := Lib.hid hown
      have HD := Lib.hid hD
      have HBx := Lib.hid hBx
      have Hb := Lib.hid hb
      have Hcl := Lib.hid hcl
      have Hkm := Lib.hid hkm
      clear hst hown hD hBx hb hcl hkm
      go_wp2_with fail
      go_loopw [79] (fun i wq' => ∃ (j : Nat) (E : DataW Unit), j ≤ 1 ∧ i = .int .i64 j ∧ wq'.ownsMap Try.prog 3 unitElem (w.heap.size + 1) (k * 1 + j) E ∧ Holds E (fun i => phM ps 1 k i || (decide (f ≤ i) && decide (i < f + j))) ∧ Blk wq' w.heap.size 37 #[.int .i64 2, .string nm, .slice WA 1 wc, .slice CA n1 c2] ∧ Below w.heap.size w wq' ∧ w.heap.size + 1 < wq'.heap.size ∧ (∀ b o, (some ⟨b2, o2, none⟩ : Option Addr) = some ⟨b, o, none⟩ → ∀ j (h : j < ps.length), wq'.cell? ⟨b, o + j, none⟩ = some (.int .i64 (ps[j] : Nat)))) (fun i _ => 1 - (intOf i).toNat)
      case atStart => exact ⟨0, D, Nat.zero_le _, rfl, Hown.out, HD.out.congr (fun i => by
        have h : (decide (f ≤ i) && decide (i < f + 0)) = false := by
          by_cases h1 : f ≤ i
          · have h2 : ¬ i < f + 0 := by omega
            simp [h2]
          · simp [h1]
        rw [h, Bool.or_false]), HBx.out, Hb.out, hzr, Hcl.out⟩
      case round =>
        obtain ⟨j, E, hj, rfl, hownE, hE, hBE, hbE, hzE, hcE⟩ := hrel
        by_cases hlj : j < 1
        · have hj1 : (j : Int) < ((1 : Nat) : Int) := by omega
          have hBb := HBb.out
          have hb1 := HNb.out
          have hb2 := Hkm.out
          have hkk : (f : Int) + (j : Int) = ((f + j : Nat) : Int) := by omega
          have hE2 := hE.put hownE.isMap (f + j) (.agg [])
          have HE2 := Lib.hid (hE2.congr (g := fun i => phM ps 1 k i || (decide (f ≤ i) && decide (i < f + (j + 1)))) (fun i => by rw [in_succ f j i, ← Bool.or_assoc]))
          have Hb3 := Lib.hid hbE
          have HB3 := Lib.hid hBE
          have Hc3 := Lib.hid hcE
          have HnE : Hid (k * 1 + j < maxLen) := Lib.hid (by unfold maxLen; omega)
          have Hkk := Lib.hid hkk
          clear hE hE2 hbE hBE hcE hb1 hb2 hkk
          go_wp2_with (first
            | (at_mapUpdate; refine wpList_mapUpdate_own _ rfl _ _ _ 96 rfl 3 98 law3 Try.underlying96 _ (w.heap.size + 1) _ _ rfl hownE HnE.out _ _ _ rfl rfl (keyOf_int_mk Try.underlying3 (by rw [Hkk.out]; exact wf_nat (f + j) (by omega))) _ [] unitElem_mk ?_; intro w4 hown4 hg4; go_frame)
            | go_in)
          rw [Hkk.out] at hown4
          have hb4 := below_map Hb3.out hg4 (by omega)
          have hBx4 := HB3.out.grown hg4 (by simp)
          have hz4 := hg4.size
          have hc4 : ∀ b o, (some ⟨b2, o2, none⟩ : Option Addr) = some ⟨b, o, none⟩ → ∀ j (h : j < ps.length), w4.cell? ⟨b, o + j, none⟩ = some (.int .i64 (ps[j] : Nat)) := fun b o e j h => by
            have hc := Hc3.out b o e j h
            have hl := World.block_lt_of_cell? _ _ hc
            refine (hg4.cell_far _ hl (fun e => ?_)).trans hc
            injection e with e
            have h1 := hownE.lt
            obtain ⟨es, cl, hm, _⟩ := hownE
            have e : b = w.heap.size + 1 := e
            rw [e] at hc
            simp [World.cell?, hm] at hc
          have Hown4 := Lib.hid hown4
          have HB4 := Lib.hid hBx4
          have Hb4 := Lib.hid hb4
          have Hc4 := Lib.hid hc4
          clear hown4 hBx4 hb4 hownE hg4 hc4
          go_roundw
          case rel => exact ⟨j + 1, _, by omega, by go_num, Hown4.out, HE2.out, HB4.out, Hb4.out, by omega, Hc4.out⟩
          case measure => simp [intOf]; omega
        · obtain rfl : j = 1 := by omega
          have hBb := HBb.out
          have Hown4 := Lib.hid hownE
          have HE2 := Lib.hid hE
          have Hb3 := Lib.hid hbE
          have HB3 := Lib.hid hBE
          have Hc3 := Lib.hid hcE
          clear hownE hE hbE hBE hcE
          go_wp2
          go_roundw
          case rel => exact ⟨k + 1, E, by omega, by go_num, by rw [Nat.add_mul, Nat.one_mul]; exact Hown4.out, HE2.out.congr (fun i => (Hst.out i).symm), HB3.out, Hb3.out, hzE, Hc3.out⟩
          case measure => simp [intOf]; omega
    · obtain rfl : k = ps.length := by omega
      have Hown := Lib.hid hown
      have HD := Lib.hid hD
      have Hb := Lib.hid hb
      clear hown hD hb hBx hcl
      go_wp2
      go_ret
      exact ⟨_, D, rfl, Hown.out.mono HN.out, HD.out.congr (fun i => (Hf.out i).symm), Hb.out, Nat.le_succ _⟩

set_option maxHeartbeats 3200000 in
theorem marked_phrase (name : ByteArray) (T : List (List UInt8)) (hT6 : T.length ≤ 1048576) (nm : ByteArray) (ws : List ByteArray) (l : List Q) (hnm : (nm.toList == name.toList) = true) (hwq : wq (.mk 4 nm ws l) ≤ 1048576) (hne : ws ≠ []) : MarkOk name T (.mk 4 nm ws l) := by
  intro w a0 a1 a2 a3 A c hQ hT
  obtain ⟨WA, m, wc, CA, n1, c2, e, hI⟩ := hQ.is
  simp only [List.cons.injEq, and_true] at e
  obtain ⟨rfl, rfl, rfl, rfl⟩ := e
  have hwn := hI.wn
  have hwds := hI.wds
  have hmm := @run_makeMap Try.prog
  have hxn : (nm.toList != name.toList) = false := by rw [bne, hnm]; rfl
  have hwl : ws.length ≤ 1048576 := by rw [wq_eq] at hwq; omega
  have hm0 : 0 < m := by
    rw [← hwn]
    exact List.length_pos_iff.2 hne
  have hf : ∀ i, markB name T i (.mk 4 nm ws l) = phM (phr T ws) ws.length (phr T ws).length i := fun i => by
    rw [markB_eq, if_pos (by decide), ← beq_toList, hnm, Bool.true_and]
    unfold leafM phM
    rw [if_neg (by decide), if_neg (fun h => absurd h.1 (by decide))]
    rw [List.take_of_length_le (Nat.le_refl _)]
  have hpi := phr_in T ws
  have hpl := phr_len T ws
  have hm1 := made_map w (.cells #[.int .i64 4, .string nm, .slice WA m wc, .slice CA n1 c2] 37)
  have hb1 := made_below w (.cells #[.int .i64 4, .string nm, .slice WA m wc, .slice CA n1 c2] 37)
  have hB1 := (Blk.new w 37 #[.int .i64 4, .string nm, .slice WA m wc, .slice CA n1 c2]).alloc (.map #[] 0)
  have hz : ((w.alloc (.cells #[.int .i64 4, .string nm, .slice WA m wc, .slice CA n1 c2] 37)).alloc (.map #[] 0)).heap.size = w.heap.size + 1 + 1 := by simp
  have cph := phrase_any A T.length c T WA m wc ws _ (reads_grow hb1 hT) rfl hT6 (reads_grow hb1 hwds) hwn (by omega)
  have hN : (phr T ws).length * ws.length ≤ T.length * wq (.mk 4 nm ws l) := Nat.mul_le_mul hpl (by rw [wq_eq]; omega)
  rw [hwn] at hf hpi hN hwl
  generalize phr T ws = ps at *
  have hNb : ps.length * m ≤ 1048576 * 1048576 := Nat.mul_le_mul (Nat.le_trans hpl hT6) hwl
  have Hf := Lib.hid hf
  have HM := Lib.hid hm1
  have Hb1 := Lib.hid hb1
  have HB1 := Lib.hid hB1
  have HN := Lib.hid hN
  have Hpi := Lib.hid hpi
  have HNb := Lib.hid hNb
  clear hQ hT hI hf hm1 hb1 hB1 hN hpi hNb hne hwds
  go_enter Try.func67, Try.ntmps67
  go_wp2_with fail
  generalize ((w.alloc (.cells #[.int .i64 4, .string nm, .slice WA m wc, .slice CA n1 c2] 37)).alloc (.map #[] 0)) = w1 at *
  refine cph.mono ?_
  rintro e w2 ⟨v, rfl, hIn⟩
  obtain ⟨A2, d2, rfl, hR2⟩ := own_shape hIn.own
  have hb2 := hIn.bel
  have HM2 := Lib.hid (HM.out.kept (grow_of_below hb2 none) (by simp))
  have HB2 := Lib.hid (HB1.out.below hb2 (by omega))
  have Hb2 := Lib.hid (Hb1.out.trans (hb2.mono Hb1.out.size))
  have hz2 : w.heap.size + 1 < w2.heap.size := by have := hb2.size; omega
  have HR2 := Lib.hid hR2
  have HBb : Hid (m ≤ 1048576 ∧ ps.length ≤ 1048576) := Lib.hid ⟨by omega, by omega⟩
  clear cph hIn hb2 HM HB1 Hb1 hR2
  go_wp2_with fail
  go_loopw [72] (fun i wr => ∃ (k : Nat) (D : DataW Unit), k ≤ ps.length ∧ i = .int .i64 k ∧ wr.ownsMap Try.prog 3 unitElem (w.heap.size + 1) (k * m) D ∧ Holds D (fun i => phM ps m k i) ∧ Blk wr w.heap.size 37 #[.int .i64 4, .string nm, .slice WA m wc, .slice CA n1 c2] ∧ Below w.heap.size w wr ∧ w.heap.size + 1 < wr.heap.size ∧ (∀ b o, A2 = some ⟨b, o, none⟩ → ∀ j (h : j < ps.length), wr.cell? ⟨b, o + j, none⟩ = some (.int .i64 (ps[j] : Nat)))) (fun i _ => ps.length - (intOf i).toNat)
  case atStart =>
    refine ⟨0, _, Nat.zero_le _, rfl, by rw [Nat.zero_mul]; exact HM2.out, Holds.none.congr (fun i => by simp [phM]), HB2.out, Hb2.out, hz2, fun b o e j h => ?_⟩
    obtain ⟨b', o', e', _, hc⟩ := HR2.out.2 (by omega)
    rw [e] at e'
    injection e' with e'
    injection e' with e1 e2
    subst e1 e2
    exact hc j _ (by simp [nv, List.getElem?_eq_getElem h])
  case round =>
    obtain ⟨k, D, hk, rfl, hown, hD, hBx, hb, hzr, hcl⟩ := hrel
    by_cases hlt : k < ps.length
    · obtain ⟨b2, o2, rfl, _, _⟩ := HR2.out.2 (by omega)
      have g0 := hcl b2 o2 rfl k hlt
      have hk1 : (k : Int) < (ps.length : Int) := by omega
      have q2 := hBx.cell 2
      simp only [List.getElem?_toArray, List.getElem?_cons_succ, List.getElem?_cons_zero] at q2
      have hfi := Hpi.out ps[k] (List.getElem_mem hlt)
      have hst := fun i => phM_succ ps m k i hlt
      have hkm : k * m + m ≤ ps.length * m := by
        have := Nat.mul_le_mul_right m (show k + 1 ≤ ps.length by omega)
        rwa [Nat.add_mul, Nat.one_mul] at this
      generalize ps[k] = f at *
      have Hst := Lib.hid hst
      have Hown := Lib.hid hown
      have HD := Lib.hid hD
      have HBx := Lib.hid hBx
      have Hb := Lib.hid hb
      have Hcl := Lib.hid hcl
      have Hkm := Lib.hid hkm
      clear hst hown hD hBx hb hcl hkm
      go_wp2_with fail
      go_loopw [79] (fun i wq' => ∃ (j : Nat) (E : DataW Unit), j ≤ m ∧ i = .int .i64 j ∧ wq'.ownsMap Try.prog 3 unitElem (w.heap.size + 1) (k * m + j) E ∧ Holds E (fun i => phM ps m k i || (decide (f ≤ i) && decide (i < f + j))) ∧ Blk wq' w.heap.size 37 #[.int .i64 4, .string nm, .slice WA m wc, .slice CA n1 c2] ∧ Below w.heap.size w wq' ∧ w.heap.size + 1 < wq'.heap.size ∧ (∀ b o, (some ⟨b2, o2, none⟩ : Option Addr) = some ⟨b, o, none⟩ → ∀ j (h : j < ps.length), wq'.cell? ⟨b, o + j, none⟩ = some (.int .i64 (ps[j] : Nat)))) (fun i _ => m - (intOf i).toNat)
      case atStart => exact ⟨0, D, Nat.zero_le _, rfl, Hown.out, HD.out.congr (fun i => by
        have h : (decide (f ≤ i) && decide (i < f + 0)) = false := by
          by_cases h1 : f ≤ i
          · have h2 : ¬ i < f + 0 := by omega
            simp [h2]
          · simp [h1]
        rw [h, Bool.or_false]), HBx.out, Hb.out, hzr, Hcl.out⟩
      case round =>
        obtain ⟨j, E, hj, rfl, hownE, hE, hBE, hbE, hzE, hcE⟩ := hrel
        by_cases hlj : j < m
        · have hj1 : (j : Int) < ((m : Nat) : Int) := by omega
          have hBb := HBb.out
          have hb1 := HNb.out
          have hb2 := Hkm.out
          have hkk : (f : Int) + (j : Int) = ((f + j : Nat) : Int) := by omega
          have hE2 := hE.put hownE.isMap (f + j) (.agg [])
          have HE2 := Lib.hid (hE2.congr (g := fun i => phM ps m k i || (decide (f ≤ i) && decide (i < f + (j + 1)))) (fun i => by rw [in_succ f j i, ← Bool.or_assoc]))
          have Hb3 := Lib.hid hbE
          have HB3 := Lib.hid hBE
          have Hc3 := Lib.hid hcE
          have HnE : Hid (k * m + j < maxLen) := Lib.hid (by unfold maxLen; omega)
          have Hkk := Lib.hid hkk
          clear hE hE2 hbE hBE hcE hb1 hb2 hkk
          go_wp2_with (first
            | (at_mapUpdate; refine wpList_mapUpdate_own _ rfl _ _ _ 96 rfl 3 98 law3 Try.underlying96 _ (w.heap.size + 1) _ _ rfl hownE HnE.out _ _ _ rfl rfl (keyOf_int_mk Try.underlying3 (by rw [Hkk.out]; exact wf_nat (f + j) (by omega))) _ [] unitElem_mk ?_; intro w4 hown4 hg4; go_frame)
            | go_in)
          rw [Hkk.out] at hown4
          have hb4 := below_map Hb3.out hg4 (by omega)
          have hBx4 := HB3.out.grown hg4 (by simp)
          have hz4 := hg4.size
          have hc4 : ∀ b o, (some ⟨b2, o2, none⟩ : Option Addr) = some ⟨b, o, none⟩ → ∀ j (h : j < ps.length), w4.cell? ⟨b, o + j, none⟩ = some (.int .i64 (ps[j] : Nat)) := fun b o e j h => by
            have hc := Hc3.out b o e j h
            have hl := World.block_lt_of_cell? _ _ hc
            refine (hg4.cell_far _ hl (fun e => ?_)).trans hc
            injection e with e
            have h1 := hownE.lt
            obtain ⟨es, cl, hm, _⟩ := hownE
            have e : b = w.heap.size + 1 := e
            rw [e] at hc
            simp [World.cell?, hm] at hc
          have Hown4 := Lib.hid hown4
          have HB4 := Lib.hid hBx4
          have Hb4 := Lib.hid hb4
          have Hc4 := Lib.hid hc4
          clear hown4 hBx4 hb4 hownE hg4 hc4
          go_roundw
          case rel => exact ⟨j + 1, _, by omega, by go_num, Hown4.out, HE2.out, HB4.out, Hb4.out, by omega, Hc4.out⟩
          case measure => simp [intOf]; omega
        · obtain rfl : j = m := by omega
          have hBb := HBb.out
          have Hown4 := Lib.hid hownE
          have HE2 := Lib.hid hE
          have Hb3 := Lib.hid hbE
          have HB3 := Lib.hid hBE
          have Hc3 := Lib.hid hcE
          clear hownE hE hbE hBE hcE
          go_wp2
          go_roundw
          case rel => exact ⟨k + 1, E, by omega, by go_num, by rw [Nat.add_mul, Nat.one_mul]; exact Hown4.out, HE2.out.congr (fun i => (Hst.out i).symm), HB3.out, Hb3.out, hzE, Hc3.out⟩
          case measure => simp [intOf]; omega
    · obtain rfl : k = ps.length := by omega
      have Hown := Lib.hid hown
      have HD := Lib.hid hD
      have Hb := Lib.hid hb
      clear hown hD hb hBx hcl
      go_wp2
      go_ret
      exact ⟨_, D, rfl, Hown.out.mono HN.out, HD.out.congr (fun i => (Hf.out i).symm), Hb.out, Nat.le_succ _⟩

end Go.Proofs.Ytjfconddkfihcaa.Mk
end
