/- mark.marked: an and, an or (printed by gen_mkf.py). -/
import Derived.Test.YtjfconddkfihcaaPkMarkHitsRow19
namespace Go.Proofs.Ytjfconddkfihcaa.Mk
open Go.RowKit Go.Proofs.Ytjfconddkfihcaa Go.Proofs.Ytjfconddkfihcaa.Ut Go.Proofs.Ytjfconddkfihcaa.Tk Go.Proofs.Ytjfconddkfihcaa.Qy Go.Maps
set_option maxRecDepth 20000
set_option linter.unusedSimpArgs false

theorem invK (key : Value) (kl : Lit) (h : keyOf Try.prog 3 key = some kl) : ∃ x : Int, key = .int .i64 x := by
  obtain ⟨x, rfl, _⟩ := Maps.keyOf_int_inv Try.underlying3 h
  exact ⟨x, rfl⟩
theorem invV (v : Value) (y : DataW Unit × List MemPlace) (h : unitElem v = some y) : ∃ _c : Unit, v = .agg #[] := ⟨(), (unitElem_inv h).1⟩
/-- The out map, on the way: what stood, and what has come of the other one. -/
def Along (E D' : DataW Unit) (left : Lit → Bool) (base f : Nat → Bool) : Prop := Holds E (fun i => base i || (f i && !left (.int .i64 (i : Nat)))) ∧ ∀ z, left z = true → Maps.has D' z = true
theorem Along.start {E D' : DataW Unit} {base f : Nat → Bool} (hE : Holds E base) (hD : Holds D' f) : Along E D' (Maps.has D') base f :=
  ⟨hE.congr (fun i => by rw [hD.1 i]; cases f i <;> simp), fun z h => h⟩
theorem Along.fin {E D' : DataW Unit} {left : Lit → Bool} {base f : Nat → Bool} (h : Along E D' left base f) (hl : ∀ kl, left kl = false) : Holds E (fun i => base i || f i) := h.1.congr (fun i => by rw [hl]; simp)
theorem Along.step {E D' : DataW Unit} {left : Lit → Bool} {base f : Nat → Bool} {x : Int} {kl : Lit} (h : Along E D' left base f) (hD : Holds D' f) (hm : IsMap E) (hk : keyOf Try.prog 3 (.int .i64 x) = some kl) (hl : left kl = true) (d : DataW Unit) :
    Along (E.put kl d) D' (fun z => left z && !z.sameKey kl) base f := by
  have hk' : kl = .int .i64 x := by
    obtain ⟨x', e1, e2, _⟩ := Maps.keyOf_int_inv Try.underlying3 hk
    injection e1 with _ e1
    rw [e2, e1]
  obtain ⟨i0, hi0⟩ := hD.2 kl (h.2 kl hl)
  subst hi0
  have hfi : f i0 = true := by rw [← hD.1 i0]; exact h.2 _ hl
  refine ⟨(h.1.put hm i0 d).congr (fun i => ?_), fun z hz => h.2 z (by rw [Bool.and_eq_true] at hz; exact hz.1)⟩
  show ((base i || (f i && !left (.int .i64 (i : Nat)))) || i == i0) = (base i || (f i && !(left (.int .i64 (i : Nat)) && !(Lit.int .i64 (i : Nat)).sameKey (.int .i64 (i0 : Nat)))))
  by_cases e : i = i0
  · subst e
    have h3 : (Lit.int .i64 (i : Nat)).sameKey (.int .i64 (i : Nat)) = true := by simp [Lit.sameKey]
    rw [hfi, h3]
    simp
  · have h2 : (i == i0) = false := by simpa using e
    have h3 : (Lit.int .i64 (i : Nat)).sameKey (.int .i64 (i0 : Nat)) = false := by
      simp [Lit.sameKey]
      omega
    rw [h2, h3]
    simp

set_option maxHeartbeats 3200000 in
theorem marked_and (name : ByteArray) (T : List (List UInt8)) (hT6 : T.length ≤ 1048576) (nm : ByteArray) (ws : List ByteArray) (l : List Q) (hwq : wq (.mk 5 nm ws l) ≤ 1048576) (ih : ∀ x ∈ l, MarkOk name T x) : MarkOk name T (.mk 5 nm ws l) := by
  intro w a0 a1 a2 a3 A c hQ hT
  obtain ⟨WA, m, wc, CA, n1, c2, e, hI⟩ := hQ.is
  simp only [List.cons.injEq, and_true] at e
  obtain ⟨rfl, rfl, rfl, rfl⟩ := e
  have hln := hI.lm
  have hmm := @run_makeMap Try.prog
  have hf : ∀ i, markB name T i (.mk 5 nm ws l) = l.any (markB name T i) := fun i => by rw [markB_eq, if_neg (by decide), if_pos (by decide)]
  have hm1 := made_map w (.cells #[.int .i64 5, .string nm, .slice WA m wc, .slice CA n1 c2] 37)
  have hb1 := made_below w (.cells #[.int .i64 5, .string nm, .slice WA m wc, .slice CA n1 c2] 37)
  have hz : ((w.alloc (.cells #[.int .i64 5, .string nm, .slice WA m wc, .slice CA n1 c2] 37)).alloc (.map #[] 0)).heap.size = w.heap.size + 1 + 1 := by simp
  have hwl : wqs l ≤ 1048576 := by rw [wq_eq] at hwq; omega
  have hpos := wqs_pos l
  have hn1 : n1 ≤ 1048576 := by omega
  have hN : T.length * wqs l ≤ T.length * wq (.mk 5 nm ws l) := Nat.mul_le_mul_left _ (by rw [wq_eq]; omega)
  have Hf := Lib.hid hf
  have HM := Lib.hid hm1
  have Hb1 := Lib.hid hb1
  have HN := Lib.hid hN
  have HI := Lib.hid hI
  have HT := Lib.hid hT
  have Ih := Lib.hid ih
  have Hwl := Lib.hid hwl
  clear hQ hT hI hf hm1 hb1 hN ih hwl
  go_enter Try.func67, Try.ntmps67
  go_wp2_with fail
  generalize ((w.alloc (.cells #[.int .i64 5, .string nm, .slice WA m wc, .slice CA n1 c2] 37)).alloc (.map #[] 0)) = w1 at *
  go_loopw [95] (fun i wr => ∃ (k : Nat) (D : DataW Unit), k ≤ n1 ∧ i = .int .i64 k ∧ wr.ownsMap Try.prog 3 unitElem (w.heap.size + 1) (T.length * wqs (l.take k)) D ∧ Holds D (fun i => (l.take k).any (markB name T i)) ∧ Below w.heap.size w wr ∧ w.heap.size + 1 < wr.heap.size) (fun i _ => n1 - (intOf i).toNat)
  case atStart => exact ⟨0, _, Nat.zero_le _, rfl, HM.out.mono (Nat.zero_le _), Holds.none.congr (fun i => by simp), Hb1.out, by omega⟩
  case round =>
    obtain ⟨k, D, hk, rfl, hown, hD, hb, hzr⟩ := hrel
    by_cases hlt : k < n1
    · have hkl : k < l.length := by omega
      obtain ⟨b, o, A', n', c', C', m', d', rfl, hbb, hqk, y0, y1, y2, y3⟩ := HI.out.at_ hkl
      have g0 := (hb.cell (p := ⟨b, o + k * 4, none⟩) hbb).trans y0
      have g1 := (hb.cell (p := ⟨b, o + k * 4 + 1, none⟩) hbb).trans y1
      have g2 := (hb.cell (p := ⟨b, o + k * 4 + 2, none⟩) hbb).trans y2
      have g3 := (hb.cell (p := ⟨b, o + k * 4 + 3, none⟩) hbb).trans y3
      have hk1 : (k : Int) < (n1 : Int) := by omega
      have hst : ∀ i, (l.take (k + 1)).any (markB name T i) = ((l.take k).any (markB name T i) || markB name T i l[k]) := fun i => by
        rw [List.take_succ_eq_append_getElem hkl, List.any_append]
        simp
      have hws : wqs (l.take (k + 1)) = wqs (l.take k) + wq l[k] := wqs_take l k hkl
      have hwt : wqs (l.take (k + 1)) ≤ wqs l := wqs_take_le l (k + 1)
      have hkid := Ih.out l[k] (List.getElem_mem hkl)
      clear y0 y1 y2 y3
      generalize l[k] = kid at *
      obtain ⟨kk, knm, kws, kl⟩ := kid
      simp only [Q.kind, Q.name] at g0 g1 hqk
      have hba : Below wr.heap.size wr (wr.alloc (.cells #[.int .i64 kk, .string knm, .slice A' n' c', .slice C' m' d'] 37)) := (Below.refl _ _).alloc (Nat.le_refl _) _
      have hbw := hb.trans (hba.mono hb.size)
      have hza : wr.heap.size < (wr.alloc (.cells #[.int .i64 kk, .string knm, .slice A' n' c', .slice C' m' d'] 37)).heap.size := by simp
      have ck := hkid _ _ _ _ _ A c (hqk.grow hbw) (reads_grow hbw HT.out)
      have hown2 := hown.alloc (.cells #[.int .i64 kk, .string knm, .slice A' n' c', .slice C' m' d'] 37)
      have hbq := Blk.new wr 37 #[.int .i64 kk, .string knm, .slice A' n' c', .slice C' m' d']
      have Hst := Lib.hid hst
      have Hown := Lib.hid hown2
      have HD := Lib.hid hD
      have Hb := Lib.hid hbw
      have Hws := Lib.hid hws
      have Hwt := Lib.hid hwt
      clear hst hown hown2 hD hb hbw hba hkid hqk hws hwt hbq
      go_wp2_with fail
      generalize hwa : (wr.alloc (.cells #[.int .i64 kk, .string knm, .slice A' n' c', .slice C' m' d'] 37)) = wa at *
      clear hwa
      refine ck.mono ?_
      rintro e w2 ⟨b', D', rfl, hownc, hDc, hb2, hbge⟩
      have hown3 := Hown.out.kept (grow_of_below hb2 none) (by simp)
      have hsz := hownc.size_le
      have hz2 := hb2.size
      have Hb2 := Lib.hid (Hb.out.trans (hb2.mono Hb.out.size))
      have HDc := Lib.hid hDc
      have Hown3 := Lib.hid hown3
      have hbl := hownc.lt
      clear ck hDc hb2 Hown Hb hown3
      go_wp2_with (first
        | (at_range; refine wpList_range_own _ rfl _ 96 rfl 3 98 law3 Try.underlying96 _ b' _ _ rfl hownc ?_; intro w0 hrg0 hg0 hs0)
        | go_in)
      go_frame
      have hz0 := hg0.size
      have St1 := Lib.hid (Hown3.out.kept hg0 (by simp))
      have St2 := Lib.hid (Hb2.out.grown hg0 Hb2.out.size (fun j hj => by cases hj))
      have Al := Lib.hid (Along.start HD.out HDc.out)
      have HNN : Hid (T.length * wqs (l.take k) + T.length * wq (.mk kk knm kws kl) = T.length * wqs (l.take (k + 1)) ∧ T.length * wqs (l.take (k + 1)) ≤ 1048576 * 1048576) := Lib.hid ⟨by rw [Hws.out, Nat.mul_add], Nat.mul_le_mul hT6 (Nat.le_trans Hwt.out Hwl.out)⟩
      generalize hcn : Maps.size D' = cn at *
      clear hcn
      go_loopw [15] (fun _ wr => ∃ (left : Lit → Bool) (cnt : Nat) (E : DataW Unit), wr.ranges Try.prog 3 unitElem b' w2.heap.size (T.length * wq (.mk kk knm kws kl)) D' left cnt ∧ cnt ≤ cn ∧ wr.ownsMap Try.prog 3 unitElem (w.heap.size + 1) (T.length * wqs (l.take k) + (cn - cnt)) E ∧ Along E D' left (fun i => (l.take k).any (markB name T i)) (fun i => markB name T i (.mk kk knm kws kl)) ∧ Below w.heap.size w wr ∧ w2.heap.size < wr.heap.size)
        (fun _ wr => wr.rangeLeft b' w2.heap.size)
      case atStart => exact ⟨_, _, D, hrg0, Nat.le_refl _, by rw [Nat.sub_self, Nat.add_zero]; exact St1.out, Al.out, St2.out, by omega⟩
      case round =>
        obtain ⟨left, cnt, E, hrg, hcs, hout, hA, hbx, hzx⟩ := hrel
        go_wp2_with (first
          | (at_next; refine wpList_next_ranges _ rfl _ rfl 3 law3 unitElem (Value.int .i64) (fun _ : Unit => .agg #[]) invK invV b' w2.heap.size _ _ _ _ rfl hrg ?_ ?_)
          | go_in)
        · intro hc0 hl0
          have hEf := hA.fin hl0
          have HEf := Lib.hid hEf
          have hnn := HNN.out
          have Hout := Lib.hid (hout.mono (show T.length * wqs (l.take k) + (cn - cnt) ≤ T.length * wqs (l.take (k + 1)) by omega))
          have Hbx := Lib.hid hbx
          clear hEf hA hrg hbx hout
          go_wp2
          go_roundw
          case rel => exact ⟨k + 1, E, by omega, by go_num, Hout.out, HEf.out.congr (fun i => (Hst.out i).symm), Hbx.out, by omega⟩
          case measure => simp [intOf]; omega
        · intro x cu klx y w3 cnt1 hkey hlx hv hat hrg1 hlt1 hg1 hs1 hen
          have hout1 := hout.kept hg1 (fun e => by injection e with e; omega)
          have hnn := HNN.out
          have hA1 := hA.step HDc.out hout1.isMap hkey hlx (.agg [])
          have HA1 := Lib.hid hA1
          have Hbx := Lib.hid hbx
          have Hg1 := Lib.hid hg1
          have HnE : Hid (T.length * wqs (l.take k) + (cn - cnt) < maxLen) := Lib.hid (by unfold maxLen; omega)
          clear hA hA1 hbx hg1 hnn
          go_wp2_with (first
            | (at_mapUpdate; refine wpList_mapUpdate_own _ rfl _ _ _ 96 rfl 3 98 law3 Try.underlying96 _ (w.heap.size + 1) _ _ rfl hout1 HnE.out _ _ _ rfl rfl hkey _ [] unitElem_mk ?_; intro w4 hout4 hg4; go_frame)
            | go_in)
          have hrg4 := hrg1.kept hg4 (fun e => by injection e with e; omega) (fun e => by injection e with e; omega)
          have hb4 := below_map (Hbx.out.grown Hg1.out Hbx.out.size (fun j hj => by injection hj with hj; have := Hbx.out.size; omega)) hg4 (by omega)
          have hz4 := hg4.size
          have hm4 := hrg4.left_eq
          have hm0 := hrg.left_eq
          have Hrg4 := Lib.hid hrg4
          have Hb4 := Lib.hid hb4
          have Hout4 := Lib.hid (hout4.mono (show T.length * wqs (l.take k) + (cn - cnt) + 1 ≤ T.length * wqs (l.take k) + (cn - cnt1) by omega))
          clear hout4 hrg4 hb4 hg4 hout1 hrg1 hen
          go_roundw
          case rel => exact ⟨_, cnt1, _, Hrg4.out, by omega, Hout4.out, HA1.out, Hb4.out, by omega⟩
          case measure => rw [hm4, hm0]; exact hlt1
    · obtain rfl : k = n1 := by omega
      have Hown := Lib.hid hown
      have HD := Lib.hid hD
      have Hb := Lib.hid hb
      have hall : l.take k = l := List.take_of_length_le (by omega)
      have Hall := Lib.hid hall
      clear hown hD hb hall
      go_wp2
      go_ret
      exact ⟨_, D, rfl, Hown.out.mono (by rw [Hall.out]; exact HN.out), HD.out.congr (fun i => by rw [Hall.out]; exact (Hf.out i).symm), Hb.out, Nat.le_succ _⟩

set_option maxHeartbeats 3200000 in
theorem marked_or (name : ByteArray) (T : List (List UInt8)) (hT6 : T.length ≤ 1048576) (nm : ByteArray) (ws : List ByteArray) (l : List Q) (hwq : wq (.mk 6 nm ws l) ≤ 1048576) (ih : ∀ x ∈ l, MarkOk name T x) : MarkOk name T (.mk 6 nm ws l) := by
  intro w a0 a1 a2 a3 A c hQ hT
  obtain ⟨WA, m, wc, CA, n1, c2, e, hI⟩ := hQ.is
  simp only [List.cons.injEq, and_true] at e
  obtain ⟨rfl, rfl, rfl, rfl⟩ := e
  have hln := hI.lm
  have hmm := @run_makeMap Try.prog
  have hf : ∀ i, markB name T i (.mk 6 nm ws l) = l.any (markB name T i) := fun i => by rw [markB_eq, if_neg (by decide), if_pos (by decide)]
  have hm1 := made_map w (.cells #[.int .i64 6, .string nm, .slice WA m wc, .slice CA n1 c2] 37)
  have hb1 := made_below w (.cells #[.int .i64 6, .string nm, .slice WA m wc, .slice CA n1 c2] 37)
  have hz : ((w.alloc (.cells #[.int .i64 6, .string nm, .slice WA m wc, .slice CA n1 c2] 37)).alloc (.map #[] 0)).heap.size = w.heap.size + 1 + 1 := by simp
  have hwl : wqs l ≤ 1048576 := by rw [wq_eq] at hwq; omega
  have hpos := wqs_pos l
  have hn1 : n1 ≤ 1048576 := by omega
  have hN : T.length * wqs l ≤ T.length * wq (.mk 6 nm ws l) := Nat.mul_le_mul_left _ (by rw [wq_eq]; omega)
  have Hf := Lib.hid hf
  have HM := Lib.hid hm1
  have Hb1 := Lib.hid hb1
  have HN := Lib.hid hN
  have HI := Lib.hid hI
  have HT := Lib.hid hT
  have Ih := Lib.hid ih
  have Hwl := Lib.hid hwl
  clear hQ hT hI hf hm1 hb1 hN ih hwl
  go_enter Try.func67, Try.ntmps67
  go_wp2_with fail
  generalize ((w.alloc (.cells #[.int .i64 6, .string nm, .slice WA m wc, .slice CA n1 c2] 37)).alloc (.map #[] 0)) = w1 at *
  go_loopw [95] (fun i wr => ∃ (k : Nat) (D : DataW Unit), k ≤ n1 ∧ i = .int .i64 k ∧ wr.ownsMap Try.prog 3 unitElem (w.heap.size + 1) (T.length * wqs (l.take k)) D ∧ Holds D (fun i => (l.take k).any (markB name T i)) ∧ Below w.heap.size w wr ∧ w.heap.size + 1 < wr.heap.size) (fun i _ => n1 - (intOf i).toNat)
  case atStart => exact ⟨0, _, Nat.zero_le _, rfl, HM.out.mono (Nat.zero_le _), Holds.none.congr (fun i => by simp), Hb1.out, by omega⟩
  case round =>
    obtain ⟨k, D, hk, rfl, hown, hD, hb, hzr⟩ := hrel
    by_cases hlt : k < n1
    · have hkl : k < l.length := by omega
      obtain ⟨b, o, A', n', c', C', m', d', rfl, hbb, hqk, y0, y1, y2, y3⟩ := HI.out.at_ hkl
      have g0 := (hb.cell (p := ⟨b, o + k * 4, none⟩) hbb).trans y0
      have g1 := (hb.cell (p := ⟨b, o + k * 4 + 1, none⟩) hbb).trans y1
      have g2 := (hb.cell (p := ⟨b, o + k * 4 + 2, none⟩) hbb).trans y2
      have g3 := (hb.cell (p := ⟨b, o + k * 4 + 3, none⟩) hbb).trans y3
      have hk1 : (k : Int) < (n1 : Int) := by omega
      have hst : ∀ i, (l.take (k + 1)).any (markB name T i) = ((l.take k).any (markB name T i) || markB name T i l[k]) := fun i => by
        rw [List.take_succ_eq_append_getElem hkl, List.any_append]
        simp
      have hws : wqs (l.take (k + 1)) = wqs (l.take k) + wq l[k] := wqs_take l k hkl
      have hwt : wqs (l.take (k + 1)) ≤ wqs l := wqs_take_le l (k + 1)
      have hkid := Ih.out l[k] (List.getElem_mem hkl)
      clear y0 y1 y2 y3
      generalize l[k] = kid at *
      obtain ⟨kk, knm, kws, kl⟩ := kid
      simp only [Q.kind, Q.name] at g0 g1 hqk
      have hba : Below wr.heap.size wr (wr.alloc (.cells #[.int .i64 kk, .string knm, .slice A' n' c', .slice C' m' d'] 37)) := (Below.refl _ _).alloc (Nat.le_refl _) _
      have hbw := hb.trans (hba.mono hb.size)
      have hza : wr.heap.size < (wr.alloc (.cells #[.int .i64 kk, .string knm, .slice A' n' c', .slice C' m' d'] 37)).heap.size := by simp
      have ck := hkid _ _ _ _ _ A c (hqk.grow hbw) (reads_grow hbw HT.out)
      have hown2 := hown.alloc (.cells #[.int .i64 kk, .string knm, .slice A' n' c', .slice C' m' d'] 37)
      have hbq := Blk.new wr 37 #[.int .i64 kk, .string knm, .slice A' n' c', .slice C' m' d']
      have Hst := Lib.hid hst
      have Hown := Lib.hid hown2
      have HD := Lib.hid hD
      have Hb := Lib.hid hbw
      have Hws := Lib.hid hws
      have Hwt := Lib.hid hwt
      clear hst hown hown2 hD hb hbw hba hkid hqk hws hwt hbq
      go_wp2_with fail
      generalize hwa : (wr.alloc (.cells #[.int .i64 kk, .string knm, .slice A' n' c', .slice C' m' d'] 37)) = wa at *
      clear hwa
      refine ck.mono ?_
      rintro e w2 ⟨b', D', rfl, hownc, hDc, hb2, hbge⟩
      have hown3 := Hown.out.kept (grow_of_below hb2 none) (by simp)
      have hsz := hownc.size_le
      have hz2 := hb2.size
      have Hb2 := Lib.hid (Hb.out.trans (hb2.mono Hb.out.size))
      have HDc := Lib.hid hDc
      have Hown3 := Lib.hid hown3
      have hbl := hownc.lt
      clear ck hDc hb2 Hown Hb hown3
      go_wp2_with (first
        | (at_range; refine wpList_range_own _ rfl _ 96 rfl 3 98 law3 Try.underlying96 _ b' _ _ rfl hownc ?_; intro w0 hrg0 hg0 hs0)
        | go_in)
      go_frame
      have hz0 := hg0.size
      have St1 := Lib.hid (Hown3.out.kept hg0 (by simp))
      have St2 := Lib.hid (Hb2.out.grown hg0 Hb2.out.size (fun j hj => by cases hj))
      have Al := Lib.hid (Along.start HD.out HDc.out)
      have HNN : Hid (T.length * wqs (l.take k) + T.length * wq (.mk kk knm kws kl) = T.length * wqs (l.take (k + 1)) ∧ T.length * wqs (l.take (k + 1)) ≤ 1048576 * 1048576) := Lib.hid ⟨by rw [Hws.out, Nat.mul_add], Nat.mul_le_mul hT6 (Nat.le_trans Hwt.out Hwl.out)⟩
      generalize hcn : Maps.size D' = cn at *
      clear hcn
      go_loopw [15] (fun _ wr => ∃ (left : Lit → Bool) (cnt : Nat) (E : DataW Unit), wr.ranges Try.prog 3 unitElem b' w2.heap.size (T.length * wq (.mk kk knm kws kl)) D' left cnt ∧ cnt ≤ cn ∧ wr.ownsMap Try.prog 3 unitElem (w.heap.size + 1) (T.length * wqs (l.take k) + (cn - cnt)) E ∧ Along E D' left (fun i => (l.take k).any (markB name T i)) (fun i => markB name T i (.mk kk knm kws kl)) ∧ Below w.heap.size w wr ∧ w2.heap.size < wr.heap.size)
        (fun _ wr => wr.rangeLeft b' w2.heap.size)
      case atStart => exact ⟨_, _, D, hrg0, Nat.le_refl _, by rw [Nat.sub_self, Nat.add_zero]; exact St1.out, Al.out, St2.out, by omega⟩
      case round =>
        obtain ⟨left, cnt, E, hrg, hcs, hout, hA, hbx, hzx⟩ := hrel
        go_wp2_with (first
          | (at_next; refine wpList_next_ranges _ rfl _ rfl 3 law3 unitElem (Value.int .i64) (fun _ : Unit => .agg #[]) invK invV b' w2.heap.size _ _ _ _ rfl hrg ?_ ?_)
          | go_in)
        · intro hc0 hl0
          have hEf := hA.fin hl0
          have HEf := Lib.hid hEf
          have hnn := HNN.out
          have Hout := Lib.hid (hout.mono (show T.length * wqs (l.take k) + (cn - cnt) ≤ T.length * wqs (l.take (k + 1)) by omega))
          have Hbx := Lib.hid hbx
          clear hEf hA hrg hbx hout
          go_wp2
          go_roundw
          case rel => exact ⟨k + 1, E, by omega, by go_num, Hout.out, HEf.out.congr (fun i => (Hst.out i).symm), Hbx.out, by omega⟩
          case measure => simp [intOf]; omega
        · intro x cu klx y w3 cnt1 hkey hlx hv hat hrg1 hlt1 hg1 hs1 hen
          have hout1 := hout.kept hg1 (fun e => by injection e with e; omega)
          have hnn := HNN.out
          have hA1 := hA.step HDc.out hout1.isMap hkey hlx (.agg [])
          have HA1 := Lib.hid hA1
          have Hbx := Lib.hid hbx
          have Hg1 := Lib.hid hg1
          have HnE : Hid (T.length * wqs (l.take k) + (cn - cnt) < maxLen) := Lib.hid (by unfold maxLen; omega)
          clear hA hA1 hbx hg1 hnn
          go_wp2_with (first
            | (at_mapUpdate; refine wpList_mapUpdate_own _ rfl _ _ _ 96 rfl 3 98 law3 Try.underlying96 _ (w.heap.size + 1) _ _ rfl hout1 HnE.out _ _ _ rfl rfl hkey _ [] unitElem_mk ?_; intro w4 hout4 hg4; go_frame)
            | go_in)
          have hrg4 := hrg1.kept hg4 (fun e => by injection e with e; omega) (fun e => by injection e with e; omega)
          have hb4 := below_map (Hbx.out.grown Hg1.out Hbx.out.size (fun j hj => by injection hj with hj; have := Hbx.out.size; omega)) hg4 (by omega)
          have hz4 := hg4.size
          have hm4 := hrg4.left_eq
          have hm0 := hrg.left_eq
          have Hrg4 := Lib.hid hrg4
          have Hb4 := Lib.hid hb4
          have Hout4 := Lib.hid (hout4.mono (show T.length * wqs (l.take k) + (cn - cnt) + 1 ≤ T.length * wqs (l.take k) + (cn - cnt1) by omega))
          clear hout4 hrg4 hb4 hg4 hout1 hrg1 hen
          go_roundw
          case rel => exact ⟨_, cnt1, _, Hrg4.out, by omega, Hout4.out, HA1.out, Hb4.out, by omega⟩
          case measure => rw [hm4, hm0]; exact hlt1
    · obtain rfl : k = n1 := by omega
      have Hown := Lib.hid hown
      have HD := Lib.hid hD
      have Hb := Lib.hid hb
      have hall : l.take k = l := List.take_of_length_le (by omega)
      have Hall := Lib.hid hall
      clear hown hD hb hall
      go_wp2
      go_ret
      exact ⟨_, D, rfl, Hown.out.mono (by rw [Hall.out]; exact HN.out), HD.out.congr (fun i => by rw [Hall.out]; exact (Hf.out i).symm), Hb.out, Nat.le_succ _⟩

end Go.Proofs.Ytjfconddkfihcaa.Mk
