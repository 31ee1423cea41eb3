/- The document's Match at a word of a field: the walk (turned from MatchR). -/
import Derived.Test.YtfegkchajkpgfaaPkGroupFoundRow0
import Derived.Test.YtfegkchajkpgfaaPkGroupRowsRow24
namespace Go.Proofs.Ytfegkchajkpgfaa.Qy
open Go.RowKit Go.Proofs.Ytfegkchajkpgfaa Go.Proofs.Ytfegkchajkpgfaa.Ut Go.Proofs.Ytfegkchajkpgfaa.Tk
set_option maxRecDepth 20000
set_option linter.unusedSimpArgs false
set_option linter.unusedVariables false

theorem reads_grow {w1 w2 : World} {A : Option Addr} {k n : Nat} {xs : List Value} (hb : Below w1.heap.size w1 w2) (h : Reads w1 w1.heap.size k A n xs) : Reads w2 w2.heap.size k A n xs := (h.below hb).more hb.size
structure EvAt (w : World) (F : Option Addr) (fn : Nat) (fs : List (ByteArray × ByteArray)) : Prop where
  rd : Reads w w.heap.size 2 F fn (fldC fs)
  len : fs.length = fn
  few : fn ≤ 8796093021952
  sz : ∀ f ∈ fs, f.2.size ≤ 1048576
theorem EvAt.grow {w w' : World} {F : Option Addr} {fn : Nat} {fs : List (ByteArray × ByteArray)} (h : EvAt w F fn fs) (hb : Below w.heap.size w w') : EvAt w' F fn fs := ⟨reads_grow hb h.rd, h.len, h.few, h.sz⟩
theorem words_small (s : ByteArray) : ∀ x ∈ words s.data.toList, x.length ≤ 1048576 := fun x hx => by
  have := (words_word s.data.toList x hx).2
  omega
set_option maxHeartbeats 1600000 in
theorem field_two (nm : ByteArray) (ws : List ByteArray) (WA CA : Option Addr) (m wc n c2 : Nat) (y : ByteArray) (w : World) (hy : y.size ≤ 1048576)
    (hW : Reads w w.heap.size 1 WA m (ws.map Value.string)) (hm : ws.length = m) (hm2 : m ≤ 8796093021952) (h1 : m = 1) :
    Calls Try.prog 96 #[.agg #[.int .i64 2, .string nm, .slice WA m wc, .slice CA n c2], .string y] w fun e w' => e = .returned (.bool (leafT 2 ws (words y.data.toList))) ∧ Below w.heap.size w w' := by
  have hb2 : Below w.heap.size w (w.alloc (.cells #[.int .i64 2, .string nm, .slice WA m wc, .slice CA n c2] 85)) := (Below.refl _ _).alloc (Nat.le_refl _) _
  have hQ := Blk.new w 85 #[.int .i64 2, .string nm, .slice WA m wc, .slice CA n c2]
  have hW2 := reads_grow hb2 hW
  have c0 := tokens_ref y (w.alloc (.cells #[.int .i64 2, .string nm, .slice WA m wc, .slice CA n c2] 85)) hy
  have hwl := words_len y
  have hws := words_small y
  have HW := Lib.hid hW2
  have HQ := Lib.hid hQ
  have Hb2 := Lib.hid hb2
  have Hws := Lib.hid hws
  have Hm := Lib.hid hm
  clear hW hb2 hQ hW2 hws hm
  generalize words y.data.toList = T at *
  have h1' : ((m : Int) == 1) = true := by rw [beq_iff_eq]; omega
  have e : leafT 2 ws T = decide (0 < (phr T ws).length) := by unfold leafT; simp [Hm.out, h1]
  rw [e]
  generalize hP : phr T ws = P
  have HP := Lib.hid hP
  clear e h1 hP
  go_enter Try.func96, Try.ntmps96
  go_wp2_with fail
  refine c0.mono ?_
  rintro e w2 ⟨v, rfl, hown, hb⟩
  obtain ⟨A, c, rfl, hR⟩ := own_shape hown
  have hq := HQ.out.below hb (by simp)
  have hq0 := hq.cell 0
  have hq2 := hq.cell 2
  simp at hq0 hq2
  have hRw := reads_grow hb HW.out
  have hz := hq.lt
  have c1 := fun wx (hbx : Below w2.heap.size w2 wx) => phrase_ref A T.length c T WA m wc ws wx (reads_grow hbx hR) rfl (by omega) (reads_grow hbx hRw) Hm.out hm2
  simp only [HP.out] at c1
  have C1 := Lib.hid c1
  have Hb := Lib.hid (Hb2.out.trans (hb.mono Hb2.out.size))
  clear hown hR hq hRw c1 hb c0
  go_wp2_with fail
  refine (C1.out w2 (Below.refl _ _)).mono ?_
  rintro e w3 ⟨v3, rfl, hI⟩
  obtain ⟨A3, c3, rfl, _⟩ := own_shape hI.own
  have Hb3 := Lib.hid (Hb.out.trans (hI.bel.mono Hb.out.size))
  clear hI
  go_wp2
  go_ret
  exact ⟨by simp, Hb3.out⟩
/-- What stands in memory behind Match's beginning. -/
structure MAt (W : World) (qb eb : Nat) (k : Int) (nm : ByteArray) (ws : List ByteArray) (l : List Q) (WA : Option Addr) (m wc : Nat) (CA : Option Addr) (n c2 : Nat) (t : Int) (F : Option Addr) (fn fc : Nat) (fs : List (ByteArray × ByteArray)) : Prop where
  q : Blk W qb 85 #[.int .i64 k, .string nm, .slice WA m wc, .slice CA n c2]
  e : Blk W eb 41 #[.int .i64 t, .slice F fn fc]
  ev : EvAt W F fn fs
  at_ : QAt W W.heap.size (.mk k nm ws l) [.int .i64 k, .string nm, .slice WA m wc, .slice CA n c2]
section
variable {W W' : World} {qb eb : Nat} {k : Int} {nm : ByteArray} {ws : List ByteArray} {l : List Q} {WA : Option Addr} {m wc : Nat} {CA : Option Addr} {n c2 : Nat} {t : Int} {F : Option Addr} {fn fc : Nat} {fs : List (ByteArray × ByteArray)}
theorem MAt.grow (h : MAt W qb eb k nm ws l WA m wc CA n c2 t F fn fc fs) (hb : Below W.heap.size W W') : MAt W' qb eb k nm ws l WA m wc CA n c2 t F fn fc fs :=
  ⟨h.q.below hb h.q.lt, h.e.below hb h.e.lt, h.ev.grow hb, h.at_.grow hb⟩
theorem MAt.is (h : MAt W qb eb k nm ws l WA m wc CA n c2 t F fn fc fs) : QIs W W.heap.size k nm ws l WA m CA n := by
  obtain ⟨WA', m', wc', CA', n', c2', e, hI⟩ := h.at_.is
  simp only [List.cons.injEq, Value.slice.injEq, and_true, true_and] at e
  obtain ⟨⟨rfl, rfl, rfl⟩, rfl, rfl, rfl⟩ := e
  exact hI
end
theorem any_take_succ {α : Type} (l : List α) (g : α → Bool) (i : Nat) (h : i < l.length) : (l.take (i + 1)).any g = ((l.take i).any g || g l[i]) := by
  rw [List.take_succ_eq_append_getElem h, List.any_append]
  simp

set_option maxHeartbeats 3200000 in
theorem rmatch_two (fs : List (ByteArray × ByteArray)) (nm : ByteArray) (ws : List ByteArray) (l : List Q) (h1 : ws.length = 1) (w : World) (a0 a1 a2 a3 : Value) (t : Int) (F : Option Addr) (fn fc : Nat) (hq : QAt w w.heap.size (.mk 2 nm ws l) [a0, a1, a2, a3]) (hF : EvAt w F fn fs) :
    Calls Try.prog 72 #[.agg #[a0, a1, a2, a3], .agg #[.int .i64 t, .slice F fn fc]] w fun e w' => e = .returned (.bool (leafB 2 nm ws fs)) ∧ Below w.heap.size w w' := by
  obtain ⟨WA, m, wc, CA, n, c2, e, hI⟩ := hq.is
  simp only [List.cons.injEq, and_true] at e
  obtain ⟨rfl, rfl, rfl, rfl⟩ := e
  have hbq : Below w.heap.size w (w.alloc (.cells #[.int .i64 2, .string nm, .slice WA m wc, .slice CA n c2] 85)) := (Below.refl _ _).alloc (Nat.le_refl _) _
  have hb3 : Below w.heap.size w ((w.alloc (.cells #[.int .i64 2, .string nm, .slice WA m wc, .slice CA n c2] 85)).alloc (.cells #[.int .i64 t, .slice F fn fc] 41)) := hbq.alloc hbq.size _
  have z1 : (w.alloc (.cells #[.int .i64 2, .string nm, .slice WA m wc, .slice CA n c2] 85)).heap.size = w.heap.size + 1 := by simp
  have hQ3 := ((Blk.new w 85 #[.int .i64 2, .string nm, .slice WA m wc, .slice CA n c2]).alloc (.cells #[.int .i64 t, .slice F fn fc] 41))
  have hE3 := Blk.new (w.alloc (.cells #[.int .i64 2, .string nm, .slice WA m wc, .slice CA n c2] 85)) 41 #[.int .i64 t, .slice F fn fc]
  rw [z1] at hE3
  have HM : Hid (MAt ((w.alloc (.cells #[.int .i64 2, .string nm, .slice WA m wc, .slice CA n c2] 85)).alloc (.cells #[.int .i64 t, .slice F fn fc] 41)) w.heap.size (w.heap.size + 1) 2 nm ws l WA m wc CA n c2 t F fn fc fs) := Lib.hid ⟨hQ3, hE3, hF.grow hb3, hq.grow hb3⟩
  have Hb3 := Lib.hid hb3
  have hlm := hI.lm
  have hwn := hI.wn
  have hfn := hF.len
  have hff := hF.few
  have z3 : w.heap.size + 1 < (World.heap ((w.alloc (.cells #[.int .i64 2, .string nm, .slice WA m wc, .slice CA n c2] 85)).alloc (.cells #[.int .i64 t, .slice F fn fc] 41))).size := by simp
  clear hq hF hI hbq hb3 z1 hQ3 hE3
  have Hfn := Lib.hid hfn
  have Hwn := Lib.hid hwn
  have hm1 : Hid (m = 1) := Lib.hid (by omega)
  have hm2 : m ≤ 8796093021952 := by omega
  clear hlm hfn hwn h1
  go_enter Try.func72, Try.ntmps72
  go_wp2_with fail
  go_loopw [5] (fun i wr => ∃ j : Nat, j ≤ fn ∧ i = .int .i64 j ∧ (fs.take j).any (fun f => f.1.data.toList == nm.data.toList && leafT 2 ws (words f.2.data.toList)) = false ∧ Below (World.heap ((w.alloc (.cells #[.int .i64 2, .string nm, .slice WA m wc, .slice CA n c2] 85)).alloc (.cells #[.int .i64 t, .slice F fn fc] 41))).size ((w.alloc (.cells #[.int .i64 2, .string nm, .slice WA m wc, .slice CA n c2] 85)).alloc (.cells #[.int .i64 t, .slice F fn fc] 41)) wr) (fun i _ => fn - (intOf i).toNat)
  case atStart => exact ⟨0, Nat.zero_le _, rfl, rfl, Below.refl _ _⟩
  case round =>
    obtain ⟨j, hj, rfl, hal, hb⟩ := hrel
    have HMr := Lib.hid (HM.out.grow hb)
    have Hal := Lib.hid hal
    have Hbr := Lib.hid (Hb3.out.trans (hb.mono Hb3.out.size))
    have Hb := Lib.hid hb
    clear hal hb
    have he1 := HMr.out.e.cell 1
    simp at he1
    by_cases hlt : j < fn
    · obtain ⟨tb, tq, rfl, htb, hc1, hc2⟩ := fields_at HMr.out.ev.rd (k := j) (by rw [Hfn.out]; exact hlt)
      have hjl : j < fs.length := by rw [Hfn.out]; exact hlt
      have hat := any_take_succ fs (fun f => f.1.data.toList == nm.data.toList && leafT 2 ws (words f.2.data.toList)) j hjl
      rw [Hal.out, Bool.false_or] at hat
      have hxe : (fs[j].1.data.toList == nm.data.toList) = (fs[j].1.toList == nm.toList) := by rw [tl, tl]
      rw [hxe] at hat
      have hsz := HMr.out.ev.sz _ (List.getElem_mem hjl)
      have hmem : fs[j] ∈ fs := List.getElem_mem hjl
      have Hmem : Hid ((fs[j].1.toList == nm.toList && leafT 2 ws (words fs[j].2.data.toList)) = true → leafB 2 nm ws fs = true) := Lib.hid (fun e => List.any_eq_true.2 ⟨_, hmem, by rw [hxe]; exact e⟩)
      have c1 := fun wx (hC : Below wr.heap.size wr wx) => field_two nm ws WA CA m wc n c2 fs[j].2 wx hsz (HMr.out.grow hC).is.wds Hwn.out hm2 hm1.out
      have hcells : ∀ wx, Below wr.heap.size wr wx → wx.cell? ⟨w.heap.size, 0, none⟩ = some (.int .i64 2) ∧ wx.cell? ⟨w.heap.size, 1, none⟩ = some (.string nm) ∧ wx.cell? ⟨w.heap.size, 2, none⟩ = some (.slice WA m wc) ∧ wx.cell? ⟨w.heap.size, 3, none⟩ = some (.slice CA n c2) ∧
          wx.cell? ⟨w.heap.size + 1, 1, none⟩ = some (.slice (some ⟨tb, tq, none⟩) fn fc) ∧ wx.cell? ⟨tb, tq + j * 2, none⟩ = some (.string fs[j].1) ∧ wx.cell? ⟨tb, tq + j * 2 + 1, none⟩ = some (.string fs[j].2) := fun wx hC =>
        ⟨(HMr.out.grow hC).q.cell 0, (HMr.out.grow hC).q.cell 1, (HMr.out.grow hC).q.cell 2, (HMr.out.grow hC).q.cell 3, (HMr.out.grow hC).e.cell 1, (hC.cell (p := ⟨tb, tq + j * 2, none⟩) htb).trans hc1, (hC.cell (p := ⟨tb, tq + j * 2 + 1, none⟩) htb).trans hc2⟩
      have hi0 : (0 : Int) ≤ (j : Int) := by omega
      have hi1 : (j : Int) < (fn : Int) := by omega
      have C1 := Lib.hid c1
      have hcells' := Lib.hid hcells
      have Hat := Lib.hid hat
      clear c1 hcells hat hmem hsz hc1 hc2 hxe
      generalize leafT 2 ws (words fs[j].2.data.toList) = r at *
      generalize fs[j].1 = x at *
      generalize fs[j].2 = y at *
      by_cases hxy : (x.toList == nm.toList) = true
      · cases r with
        | true =>
          have Fin := Lib.hid (Hmem.out (by rw [hxy]; rfl))
          go_wp2_with fail
          refine wp_region_grow (specOf [(17, ⟨Unit, fun _ => (.bool true), fun _ _ => True⟩)]) (fun wx => Below (World.heap wr).size wr wx) (fun w1 w2 => Below w1.heap.size w1 w2) (by kernel_rfl) (by kernel_rfl) (stab_cons (fun _ _ _ _ h => h) (stab_nil)) (Below.refl _ _).drew ?_
          refine grow_fix 1 ?_ rfl (by rfl) (by rfl) (fun wx hC hD => ?_) ?_
          rotate_left
          · have hSw := hcells'.out wx hC
            go_simp
            all_goals with_reducible rfl
          try simp only [Act.put, List.setIfInBounds_toArray, List.set_cons_zero, List.set_cons_succ]
          refine grow_fix 2 ?_ rfl (by rfl) (by rfl) (fun wx hC hD => ?_) ?_
          rotate_left
          · have hSw := hcells'.out wx hC
            go_simp
            all_goals with_reducible rfl
          try simp only [Act.put, List.setIfInBounds_toArray, List.set_cons_zero, List.set_cons_succ]
          refine grow_fix 3 ?_ rfl (by rfl) (by rfl) (fun wx hC hD => ?_) ?_
          rotate_left
          · have hSw := hcells'.out wx hC
            go_simp
            all_goals with_reducible rfl
          try simp only [Act.put, List.setIfInBounds_toArray, List.set_cons_zero, List.set_cons_succ]
          refine grow_fix 4 ?_ rfl (by rfl) (by rfl) (fun wx hC hD => ?_) ?_
          rotate_left
          · have hSw := hcells'.out wx hC
            go_simp
            all_goals with_reducible rfl
          try simp only [Act.put, List.setIfInBounds_toArray, List.set_cons_zero, List.set_cons_succ]
          refine grow_fix 5 ?_ rfl (by rfl) (by rfl) (fun wx hC hD => ?_) ?_
          rotate_left
          · have hSw := hcells'.out wx hC
            go_simp
            all_goals with_reducible rfl
          try simp only [Act.put, List.setIfInBounds_toArray, List.set_cons_zero, List.set_cons_succ]
          refine grow_fix 6 ?_ rfl (by rfl) (by rfl) (fun wx hC hD => ?_) ?_
          rotate_left
          · have hSw := hcells'.out wx hC
            go_simp
            all_goals with_reducible rfl
          try simp only [Act.put, List.setIfInBounds_toArray, List.set_cons_zero, List.set_cons_succ]
          refine grow_fix 7 ?_ rfl (by rfl) (by rfl) (fun wx hC hD => ?_) ?_
          rotate_left
          · have hSw := hcells'.out wx hC
            go_simp
            all_goals with_reducible rfl
          try simp only [Act.put, List.setIfInBounds_toArray, List.set_cons_zero, List.set_cons_succ]
          refine grow_fix 8 ?_ rfl (by rfl) (by rfl) (fun wx hC hD => ?_) ?_
          rotate_left
          · have hSw := hcells'.out wx hC
            go_simp
            all_goals with_reducible rfl
          try simp only [Act.put, List.setIfInBounds_toArray, List.set_cons_zero, List.set_cons_succ]
          refine grow_fix 9 ?_ rfl (by rfl) (by rfl) (fun wx hC hD => ?_) ?_
          rotate_left
          · have hSw := hcells'.out wx hC
            go_simp
            all_goals with_reducible rfl
          try simp only [Act.put, List.setIfInBounds_toArray, List.set_cons_zero, List.set_cons_succ]
          refine grow_fix 10 ?_ rfl (by rfl) (by rfl) (fun wx hC hD => ?_) ?_
          rotate_left
          · have hSw := hcells'.out wx hC
            go_simp
            all_goals with_reducible rfl
          try simp only [Act.put, List.setIfInBounds_toArray, List.set_cons_zero, List.set_cons_succ]
          refine grow_fix 11 ?_ rfl (by rfl) (by rfl) (fun wx hC hD => ?_) ?_
          rotate_left
          · have hSw := hcells'.out wx hC
            go_simp
            all_goals with_reducible rfl
          try simp only [Act.put, List.setIfInBounds_toArray, List.set_cons_zero, List.set_cons_succ]
          refine grow_fix 12 ?_ rfl (by rfl) (by rfl) (fun wx hC hD => ?_) ?_
          rotate_left
          · have hSw := hcells'.out wx hC
            go_simp
            all_goals with_reducible rfl
          try simp only [Act.put, List.setIfInBounds_toArray, List.set_cons_zero, List.set_cons_succ]
          refine grow_fix 13 ?_ rfl (by rfl) (by rfl) (fun wx hC hD => ?_) ?_
          rotate_left
          · have hSw := hcells'.out wx hC
            go_simp
            all_goals with_reducible rfl
          try simp only [Act.put, List.setIfInBounds_toArray, List.set_cons_zero, List.set_cons_succ]
          refine grow_fix 14 ?_ rfl (by rfl) (by rfl) (fun wx hC hD => ?_) ?_
          rotate_left
          · have hSw := hcells'.out wx hC
            go_simp
            all_goals with_reducible rfl
          try simp only [Act.put, List.setIfInBounds_toArray, List.set_cons_zero, List.set_cons_succ]
          refine grow_fix 15 ?_ rfl (by rfl) (by rfl) (fun wx hC hD => ?_) ?_
          rotate_left
          · have hSw := hcells'.out wx hC
            go_simp
            all_goals with_reducible rfl
          try simp only [Act.put, List.setIfInBounds_toArray, List.set_cons_zero, List.set_cons_succ]
          refine grow_fix 16 ?_ rfl (by rfl) (by rfl) (fun wx hC hD => ?_) ?_
          rotate_left
          · have hSw := hcells'.out wx hC
            go_simp
            all_goals with_reducible rfl
          try simp only [Act.put, List.setIfInBounds_toArray, List.set_cons_zero, List.set_cons_succ]
          refine grow_fix 17 ?_ rfl (by rfl) (by rfl) (fun wx hC hD => ?_) ?_
          rotate_left
          · have hSw := hcells'.out wx hC
            go_simp
            all_goals with_reducible rfl
          try simp only [Act.put, List.setIfInBounds_toArray, List.set_cons_zero, List.set_cons_succ]
          refine grow_give 18 _ rfl (by rfl) (by rfl) (fun wx hC hD => ?_) (fun x => ?_)
          · refine give_enter (f := ?_) (args := ?_) ?_ ?_
            rotate_left 2
            · have hSw := hcells'.out wx hC
              go_simp
              all_goals first | with_reducible rfl | (refine ⟨?_, ?_⟩ <;> with_reducible rfl)
            exact calls_cst hC (C1.out wx hC)
          obtain ⟨⟩ := x
          try simp only [Act.put, List.setIfInBounds_toArray, List.set_cons_zero, List.set_cons_succ]
          refine grow_fix 19 ?_ rfl (by rfl) (by rfl) (fun wx hC hD => ?_) ?_
          rotate_left
          · have hSw := hcells'.out wx hC
            go_simp
            all_goals with_reducible rfl
          try simp only [Act.put, List.setIfInBounds_toArray, List.set_cons_zero, List.set_cons_succ]
          refine grow_nil (fun w4 hC hF => ?_)
          have Hf := Lib.hid (Hbr.out.trans (hC.mono Hbr.out.size))
          clear hF hC
          go_wp2
          go_ret
          exact ⟨by rw [Fin.out]; rfl, Hf.out⟩
        | false =>
          have Hnx := Lib.hid (Hat.out.trans (by rw [Bool.and_false]))
          go_wp2_with fail
          refine wp_region_grow (specOf [(17, ⟨Unit, fun _ => (.bool false), fun _ _ => True⟩)]) (fun wx => Below (World.heap wr).size wr wx) (fun w1 w2 => Below w1.heap.size w1 w2) (by kernel_rfl) (by kernel_rfl) (stab_cons (fun _ _ _ _ h => h) (stab_nil)) (Below.refl _ _).drew ?_
          refine grow_fix 1 ?_ rfl (by rfl) (by rfl) (fun wx hC hD => ?_) ?_
          rotate_left
          · have hSw := hcells'.out wx hC
            go_simp
            all_goals with_reducible rfl
          try simp only [Act.put, List.setIfInBounds_toArray, List.set_cons_zero, List.set_cons_succ]
          refine grow_fix 2 ?_ rfl (by rfl) (by rfl) (fun wx hC hD => ?_) ?_
          rotate_left
          · have hSw := hcells'.out wx hC
            go_simp
            all_goals with_reducible rfl
          try simp only [Act.put, List.setIfInBounds_toArray, List.set_cons_zero, List.set_cons_succ]
          refine grow_fix 3 ?_ rfl (by rfl) (by rfl) (fun wx hC hD => ?_) ?_
          rotate_left
          · have hSw := hcells'.out wx hC
            go_simp
            all_goals with_reducible rfl
          try simp only [Act.put, List.setIfInBounds_toArray, List.set_cons_zero, List.set_cons_succ]
          refine grow_fix 4 ?_ rfl (by rfl) (by rfl) (fun wx hC hD => ?_) ?_
          rotate_left
          · have hSw := hcells'.out wx hC
            go_simp
            all_goals with_reducible rfl
          try simp only [Act.put, List.setIfInBounds_toArray, List.set_cons_zero, List.set_cons_succ]
          refine grow_fix 5 ?_ rfl (by rfl) (by rfl) (fun wx hC hD => ?_) ?_
          rotate_left
          · have hSw := hcells'.out wx hC
            go_simp
            all_goals with_reducible rfl
          try simp only [Act.put, List.setIfInBounds_toArray, List.set_cons_zero, List.set_cons_succ]
          refine grow_fix 6 ?_ rfl (by rfl) (by rfl) (fun wx hC hD => ?_) ?_
          rotate_left
          · have hSw := hcells'.out wx hC
            go_simp
            all_goals with_reducible rfl
          try simp only [Act.put, List.setIfInBounds_toArray, List.set_cons_zero, List.set_cons_succ]
          refine grow_fix 7 ?_ rfl (by rfl) (by rfl) (fun wx hC hD => ?_) ?_
          rotate_left
          · have hSw := hcells'.out wx hC
            go_simp
            all_goals with_reducible rfl
          try simp only [Act.put, List.setIfInBounds_toArray, List.set_cons_zero, List.set_cons_succ]
          refine grow_fix 8 ?_ rfl (by rfl) (by rfl) (fun wx hC hD => ?_) ?_
          rotate_left
          · have hSw := hcells'.out wx hC
            go_simp
            all_goals with_reducible rfl
          try simp only [Act.put, List.setIfInBounds_toArray, List.set_cons_zero, List.set_cons_succ]
          refine grow_fix 9 ?_ rfl (by rfl) (by rfl) (fun wx hC hD => ?_) ?_
          rotate_left
          · have hSw := hcells'.out wx hC
            go_simp
            all_goals with_reducible rfl
          try simp only [Act.put, List.setIfInBounds_toArray, List.set_cons_zero, List.set_cons_succ]
          refine grow_fix 10 ?_ rfl (by rfl) (by rfl) (fun wx hC hD => ?_) ?_
          rotate_left
          · have hSw := hcells'.out wx hC
            go_simp
            all_goals with_reducible rfl
          try simp only [Act.put, List.setIfInBounds_toArray, List.set_cons_zero, List.set_cons_succ]
          refine grow_fix 11 ?_ rfl (by rfl) (by rfl) (fun wx hC hD => ?_) ?_
          rotate_left
          · have hSw := hcells'.out wx hC
            go_simp
            all_goals with_reducible rfl
          try simp only [Act.put, List.setIfInBounds_toArray, List.set_cons_zero, List.set_cons_succ]
          refine grow_fix 12 ?_ rfl (by rfl) (by rfl) (fun wx hC hD => ?_) ?_
          rotate_left
          · have hSw := hcells'.out wx hC
            go_simp
            all_goals with_reducible rfl
          try simp only [Act.put, List.setIfInBounds_toArray, List.set_cons_zero, List.set_cons_succ]
          refine grow_fix 13 ?_ rfl (by rfl) (by rfl) (fun wx hC hD => ?_) ?_
          rotate_left
          · have hSw := hcells'.out wx hC
            go_simp
            all_goals with_reducible rfl
          try simp only [Act.put, List.setIfInBounds_toArray, List.set_cons_zero, List.set_cons_succ]
          refine grow_fix 14 ?_ rfl (by rfl) (by rfl) (fun wx hC hD => ?_) ?_
          rotate_left
          · have hSw := hcells'.out wx hC
            go_simp
            all_goals with_reducible rfl
          try simp only [Act.put, List.setIfInBounds_toArray, List.set_cons_zero, List.set_cons_succ]
          refine grow_fix 15 ?_ rfl (by rfl) (by rfl) (fun wx hC hD => ?_) ?_
          rotate_left
          · have hSw := hcells'.out wx hC
            go_simp
            all_goals with_reducible rfl
          try simp only [Act.put, List.setIfInBounds_toArray, List.set_cons_zero, List.set_cons_succ]
          refine grow_fix 16 ?_ rfl (by rfl) (by rfl) (fun wx hC hD => ?_) ?_
          rotate_left
          · have hSw := hcells'.out wx hC
            go_simp
            all_goals with_reducible rfl
          try simp only [Act.put, List.setIfInBounds_toArray, List.set_cons_zero, List.set_cons_succ]
          refine grow_fix 17 ?_ rfl (by rfl) (by rfl) (fun wx hC hD => ?_) ?_
          rotate_left
          · have hSw := hcells'.out wx hC
            go_simp
            all_goals with_reducible rfl
          try simp only [Act.put, List.setIfInBounds_toArray, List.set_cons_zero, List.set_cons_succ]
          refine grow_give 18 _ rfl (by rfl) (by rfl) (fun wx hC hD => ?_) (fun x => ?_)
          · refine give_enter (f := ?_) (args := ?_) ?_ ?_
            rotate_left 2
            · have hSw := hcells'.out wx hC
              go_simp
              all_goals first | with_reducible rfl | (refine ⟨?_, ?_⟩ <;> with_reducible rfl)
            exact calls_cst hC (C1.out wx hC)
          obtain ⟨⟩ := x
          try simp only [Act.put, List.setIfInBounds_toArray, List.set_cons_zero, List.set_cons_succ]
          refine grow_fix 19 ?_ rfl (by rfl) (by rfl) (fun wx hC hD => ?_) ?_
          rotate_left
          · have hSw := hcells'.out wx hC
            go_simp
            all_goals with_reducible rfl
          try simp only [Act.put, List.setIfInBounds_toArray, List.set_cons_zero, List.set_cons_succ]
          refine grow_nil (fun w4 hC hF => ?_)
          have Hf := Lib.hid (Hb.out.trans (hC.mono Hb.out.size))
          clear hF hC
          go_wp2
          go_roundw
          case rel => exact ⟨j + 1, by omega, by go_num, Hnx.out, Hf.out⟩
          case measure => simp [intOf]; omega
      · have hxf : (x.toList == nm.toList) = false := Bool.eq_false_iff.2 hxy
        have Hnx := Lib.hid (Hat.out.trans (by rw [hxf, Bool.false_and]))
        clear hxy
        go_wp2_with fail
        refine wp_region_grow (specOf []) (fun wx => Below (World.heap wr).size wr wx) (fun w1 w2 => Below w1.heap.size w1 w2) (by kernel_rfl) (by kernel_rfl) (stab_nil) (Below.refl _ _).drew ?_
        refine grow_fix 1 ?_ rfl (by rfl) (by rfl) (fun wx hC hD => ?_) ?_
        rotate_left
        · have hSw := hcells'.out wx hC
          go_simp
          all_goals with_reducible rfl
        try simp only [Act.put, List.setIfInBounds_toArray, List.set_cons_zero, List.set_cons_succ]
        refine grow_fix 2 ?_ rfl (by rfl) (by rfl) (fun wx hC hD => ?_) ?_
        rotate_left
        · have hSw := hcells'.out wx hC
          go_simp
          all_goals with_reducible rfl
        try simp only [Act.put, List.setIfInBounds_toArray, List.set_cons_zero, List.set_cons_succ]
        refine grow_fix 3 ?_ rfl (by rfl) (by rfl) (fun wx hC hD => ?_) ?_
        rotate_left
        · have hSw := hcells'.out wx hC
          go_simp
          all_goals with_reducible rfl
        try simp only [Act.put, List.setIfInBounds_toArray, List.set_cons_zero, List.set_cons_succ]
        refine grow_fix 4 ?_ rfl (by rfl) (by rfl) (fun wx hC hD => ?_) ?_
        rotate_left
        · have hSw := hcells'.out wx hC
          go_simp
          all_goals with_reducible rfl
        try simp only [Act.put, List.setIfInBounds_toArray, List.set_cons_zero, List.set_cons_succ]
        refine grow_fix 5 ?_ rfl (by rfl) (by rfl) (fun wx hC hD => ?_) ?_
        rotate_left
        · have hSw := hcells'.out wx hC
          go_simp
          all_goals with_reducible rfl
        try simp only [Act.put, List.setIfInBounds_toArray, List.set_cons_zero, List.set_cons_succ]
        refine grow_fix 6 ?_ rfl (by rfl) (by rfl) (fun wx hC hD => ?_) ?_
        rotate_left
        · have hSw := hcells'.out wx hC
          go_simp
          all_goals with_reducible rfl
        try simp only [Act.put, List.setIfInBounds_toArray, List.set_cons_zero, List.set_cons_succ]
        refine grow_fix 7 ?_ rfl (by rfl) (by rfl) (fun wx hC hD => ?_) ?_
        rotate_left
        · have hSw := hcells'.out wx hC
          go_simp
          all_goals with_reducible rfl
        try simp only [Act.put, List.setIfInBounds_toArray, List.set_cons_zero, List.set_cons_succ]
        refine grow_fix 8 ?_ rfl (by rfl) (by rfl) (fun wx hC hD => ?_) ?_
        rotate_left
        · have hSw := hcells'.out wx hC
          go_simp
          all_goals with_reducible rfl
        try simp only [Act.put, List.setIfInBounds_toArray, List.set_cons_zero, List.set_cons_succ]
        refine grow_fix 9 ?_ rfl (by rfl) (by rfl) (fun wx hC hD => ?_) ?_
        rotate_left
        · have hSw := hcells'.out wx hC
          go_simp
          all_goals with_reducible rfl
        try simp only [Act.put, List.setIfInBounds_toArray, List.set_cons_zero, List.set_cons_succ]
        refine grow_fix 10 ?_ rfl (by rfl) (by rfl) (fun wx hC hD => ?_) ?_
        rotate_left
        · have hSw := hcells'.out wx hC
          go_simp
          all_goals with_reducible rfl
        try simp only [Act.put, List.setIfInBounds_toArray, List.set_cons_zero, List.set_cons_succ]
        refine grow_skip 11 (some false) true rfl (by rfl) (by rfl) (by rfl) ?_
        try simp only [Act.put, List.setIfInBounds_toArray, List.set_cons_zero, List.set_cons_succ]
        refine grow_skip 12 (some false) true rfl (by rfl) (by rfl) (by rfl) ?_
        try simp only [Act.put, List.setIfInBounds_toArray, List.set_cons_zero, List.set_cons_succ]
        refine grow_skip 13 (some false) true rfl (by rfl) (by rfl) (by rfl) ?_
        try simp only [Act.put, List.setIfInBounds_toArray, List.set_cons_zero, List.set_cons_succ]
        refine grow_skip 14 (some false) true rfl (by rfl) (by rfl) (by rfl) ?_
        try simp only [Act.put, List.setIfInBounds_toArray, List.set_cons_zero, List.set_cons_succ]
        refine grow_skip 15 (some false) true rfl (by rfl) (by rfl) (by rfl) ?_
        try simp only [Act.put, List.setIfInBounds_toArray, List.set_cons_zero, List.set_cons_succ]
        refine grow_skip 16 (some false) true rfl (by rfl) (by rfl) (by rfl) ?_
        try simp only [Act.put, List.setIfInBounds_toArray, List.set_cons_zero, List.set_cons_succ]
        refine grow_skip 17 (some false) true rfl (by rfl) (by rfl) (by rfl) ?_
        try simp only [Act.put, List.setIfInBounds_toArray, List.set_cons_zero, List.set_cons_succ]
        refine grow_skip 18 (some false) true rfl (by rfl) (by rfl) (by rfl) ?_
        try simp only [Act.put, List.setIfInBounds_toArray, List.set_cons_zero, List.set_cons_succ]
        refine grow_fix 19 ?_ rfl (by rfl) (by rfl) (fun wx hC hD => ?_) ?_
        rotate_left
        · have hSw := hcells'.out wx hC
          go_simp
          all_goals with_reducible rfl
        try simp only [Act.put, List.setIfInBounds_toArray, List.set_cons_zero, List.set_cons_succ]
        refine grow_nil (fun w4 hC hF => ?_)
        have Hf := Lib.hid (Hb.out.trans (hC.mono Hb.out.size))
        clear hF hC
        go_wp2
        go_roundw
        case rel => exact ⟨j + 1, by omega, by go_num, Hnx.out, Hf.out⟩
        case measure => simp [intOf]; omega
    · obtain rfl : j = fn := by omega
      have Fin : Hid (leafB 2 nm ws fs = false) := Lib.hid (by have := Hal.out; rwa [List.take_of_length_le (by rw [Hfn.out]; exact Nat.le_refl _)] at this)
      go_wp2
      go_ret
      exact ⟨by rw [Fin.out]; rfl, Hbr.out⟩
end Go.Proofs.Ytfegkchajkpgfaa.Qy
