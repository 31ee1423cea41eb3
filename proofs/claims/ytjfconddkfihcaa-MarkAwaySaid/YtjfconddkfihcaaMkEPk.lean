/- mark.marked: a leaf of words (printed by gen_mke.py). -/
import Derived.Test.YtjfconddkfihcaaPkMarkTextsRow16
namespace Go.Proofs.Ytjfconddkfihcaa.Mk
open Go.RowKit Go.Proofs.Ytjfconddkfihcaa Go.Proofs.Ytjfconddkfihcaa.Ut Go.Proofs.Ytjfconddkfihcaa.Tk Go.Proofs.Ytjfconddkfihcaa.Qy Go.Maps
set_option maxRecDepth 20000
set_option linter.unusedSimpArgs false

theorem phr_in (T : List (List UInt8)) (ws : List ByteArray) : ∀ f ∈ phr T ws, f + ws.length ≤ T.length := by
  intro f hf
  unfold phr at hf
  split at hf
  · cases hf
  · rename_i h
    unfold phrTo at hf
    rw [List.mem_filter, List.mem_range] at hf
    have h1 : ws.length ≠ 0 := fun e => h (List.length_eq_zero_iff.1 e)
    by_cases hs : T.length - f < ws.length
    · have := stands_short T ws f hs
      rw [hf.2] at this
      cases this
    · omega
theorem phr_len (T : List (List UInt8)) (ws : List ByteArray) : (phr T ws).length ≤ T.length := by
  unfold phr
  split
  · simp
  · exact phrTo_len T ws T.length
/-- The places of the words of the first k phrases. -/
def phM (ps : List Nat) (m k i : Nat) : Bool := (ps.take k).any fun f => decide (f ≤ i) && decide (i < f + m)
theorem phM_succ (ps : List Nat) (m k i : Nat) (h : k < ps.length) : phM ps m (k + 1) i = (phM ps m k i || (decide (ps[k] ≤ i) && decide (i < ps[k] + m))) := by
  unfold phM
  rw [List.take_succ_eq_append_getElem h, List.any_append]
  simp
theorem in_succ (f j i : Nat) : (decide (f ≤ i) && decide (i < f + (j + 1))) = ((decide (f ≤ i) && decide (i < f + j)) || i == f + j) := by
  by_cases e : i = f + j
  · subst e; simp
  · have h2 : (i == f + j) = false := by simpa using e
    have h3 : decide (i < f + (j + 1)) = decide (i < f + j) := by rw [decide_eq_decide]; omega
    rw [h2, h3, Bool.or_false]

set_option maxHeartbeats 3200000 in
theorem marked_term (name : ByteArray) (T : List (List UInt8)) (hT6 : T.length ≤ 1000000) (nm : ByteArray) (ws : List ByteArray) (l : List Q) (hnm : (nm.toList == name.toList) = true) (hone : ws.length = 1) : MarkOk name T (.mk 2 nm ws l) := by
  have hne : ws ≠ [] := fun e => by rw [e] at hone; cases hone
  intro w a0 a1 a2 a3 A c hQ hT
  obtain ⟨WA, m, wc, CA, n1, c2, e, hI⟩ := hQ.is
  simp only [List.cons.injEq, and_true] at e
  obtain ⟨rfl, rfl, rfl, rfl⟩ := e
  have hwn := hI.wn
  have hwds := hI.wds
  have hmm := @run_makeMap Try.prog
  have hxn : (nm.toList != name.toList) = false := by rw [bne, hnm]; rfl
  have hwl : ws.length ≤ 1048576 := by omega
  have hm0 : 0 < m := by
    rw [← hwn]
    exact List.length_pos_iff.2 hne
  have hf : ∀ i, markB name T i (.mk 2 nm ws l) = phM (phr T ws) ws.length (phr T ws).length i := fun i => by
    rw [markB_eq, if_pos (by decide), ← beq_toList, hnm, Bool.true_and]
    unfold leafM phM
    rw [if_neg (by decide), if_neg (by rw [hone]; decide)]
    rw [List.take_of_length_le (Nat.le_refl _)]
  have hpi := phr_in T ws
  have hpl := phr_len T ws
  have hm1 := made_map w (.cells #[.int .i64 2, .string nm, .slice WA m wc, .slice CA n1 c2] 37)
  have hb1 := made_below w (.cells #[.int .i64 2, .string nm, .slice WA m wc, .slice CA n1 c2] 37)
  have hB1 := (Blk.new w 37 #[.int .i64 2, .string nm, .slice WA m wc, .slice CA n1 c2]).alloc (.map #[] 0)
  have hz : ((w.alloc (.cells #[.int .i64 2, .string nm, .slice WA m wc, .slice CA n1 c2] 37)).alloc (.map #[] 0)).heap.size = w.heap.size + 1 + 1 := by simp
  have cph := phrase_any A T.length c T WA m wc ws _ (reads_grow hb1 hT) rfl hT6 (reads_grow hb1 hwds) hwn (by omega)
  have hN : (phr T ws).length * ws.length ≤ T.length * wq (.mk 2 nm ws l) := Nat.mul_le_mul hpl (by rw [wq_eq]; omega)
  rw [hwn] at hf hpi hN hwl
  generalize phr T ws = ps at *
  have hNb : ps.length * m ≤ 1000000 * 1048576 := Nat.mul_le_mul (Nat.le_trans hpl hT6) hwl
  have Hf := Lib.hid hf
  have HM := Lib.hid hm1
  have Hb1 := Lib.hid hb1
  have HB1 := Lib.hid hB1
  have HN := Lib.hid hN
  have Hpi := Lib.hid hpi
  have HNb := Lib.hid hNb
  clear hQ hT hI hf hm1 hb1 hB1 hN hpi hNb hne hwds
  obtain rfl : m = 1 := by omega
  go_enter Try.func67, Try.ntmps67
  go_wp2_with fail
  generalize ((w.alloc (.cells #[.int .i64 2, .string nm, .slice WA 1 wc, .slice CA n1 c2] 37)).alloc (.map #[] 0)) = w1 at *
  refine cph.mono ?_
  rintro e w2 ⟨v, rfl, hIn⟩
  obtain ⟨A2, d2, rfl, hR2⟩ := own_shape hIn.own
  have hb2 := hIn.bel
  have HM2 := Lib.hid (HM.out.kept (grow_of_below hb2 none) (by simp))
  have HB2 := Lib.hid (HB1.out.below hb2 (by omega))
  have Hb2 := Lib.hid (Hb1.out.trans (hb2.mono Hb1.out.size))
  have hz2 : w.heap.size + 1 < w2.heap.size := by have := hb2.size; omega
  have HR2 := Lib.hid hR2
  have HBb : Hid (1 ≤ 1048576 ∧ ps.length ≤ 1000000) := Lib.hid ⟨by omega, by omega⟩
  clear cph hIn hb2 HM HB1 Hb1 hR2
  go_wp2_with fail
  go_loopw [72] (fun i wr => ∃ (k : Nat) (D : DataW Unit), k ≤ ps.length ∧ i = .int .i64 k ∧ wr.ownsMap Try.prog 3 unitElem (w.heap.size + 1) (k * 1) D ∧ Holds D (fun i => phM ps 1 k i) ∧ Blk wr w.heap.size 37 #[.int .i64 2, .string nm, .slice WA 1 wc, .slice CA n1 c2] ∧ Below w.heap.size w wr ∧ w.heap.size + 1 < wr.heap.size ∧ (∀ b o, A2 = some ⟨b, o, none⟩ → ∀ j (h : j < ps.length), wr.cell? ⟨b, o + j, none⟩ = some (.int .i64 (ps[j] : Nat)))) (fun i _ => ps.length - (intOf i).toNat)
  case atStart =>
    refine ⟨0, _, Nat.zero_le _, rfl, by rw [Nat.zero_mul]; exact HM2.out, Holds.none.congr (fun i => by simp [phM]), HB2.out, Hb2.out, hz2, fun b o e j h => ?_⟩
    obtain ⟨b', o', e', _, hc⟩ := HR2.out.2 (by omega)
    rw [e] at e'
    injection e' with e'
    injection e' with e1 e2
    subst e1 e2
    exact hc j _ (by simp [nv, List.getElem?_eq_getElem h])
  case round =>
    obtain ⟨k, D, hk, rfl, hown, hD, hBx, hb, hzr, hcl⟩ := hrel
    by_cases hlt : k < ps.length
    · obtain ⟨b2, o2, rfl, _, _⟩ := HR2.out.2 (by omega)
      have g0 := hcl b2 o2 rfl k hlt
      have hk1 : (k : Int) < (ps.length : Int) := by omega
      have q2 := hBx.cell 2
      simp only [List.getElem?_toArray, List.getElem?_cons_succ, List.getElem?_cons_zero] at q2
      have hfi := Hpi.out ps[k] (List.getElem_mem hlt)
      have hst := fun i => phM_succ ps 1 k i hlt
      have hkm : k * 1 + 1 ≤ ps.length * 1 := by
        have := Nat.mul_le_mul_right 1 (show k + 1 ≤ ps.length by omega)
        rwa [Nat.add_mul, Nat.one_mul] at this
      generalize ps[k] = f at *
      have Hst := Lib.hid hst
      have Hown := Lib.hid hown
      have HD := Lib.hid hD
      have HBx := Lib.hid hBx
      have Hb := Lib.hid hb
      have Hcl := Lib.hid hcl
      have Hkm := Lib.hid hkm
      clear hst hown hD hBx hb hcl hkm
      go_wp2_with fail
      go_loopw [79] (fun i wq' => ∃ (j : Nat) (E : DataW Unit), j ≤ 1 ∧ i = .int .i64 j ∧ wq'.ownsMap Try.prog 3 unitElem (w.heap.size + 1) (k * 1 + j) E ∧ Holds E (fun i => phM ps 1 k i || (decide (f ≤ i) && decide (i < f + j))) ∧ Blk wq' w.heap.size 37 #[.int .i64 2, .string nm, .slice WA 1 wc, .slice CA n1 c2] ∧ Below w.heap.size w wq' ∧ w.heap.size + 1 < wq'.heap.size ∧ (∀ b o, (some ⟨b2, o2, none⟩ : Option Addr) = some ⟨b, o, none⟩ → ∀ j (h : j < ps.length), wq'.cell? ⟨b, o + j, none⟩ = some (.int .i64 (ps[j] : Nat)))) (fun i _ => 1 - (intOf i).toNat)
      case atStart => exact ⟨0, D, Nat.zero_le _, rfl, Hown.out, HD.out.congr (fun i => by
        have h : (decide (f ≤ i) && decide (i < f + 0)) = false := by
          by_cases h1 : f ≤ i
          · have h2 : ¬ i < f + 0 := by omega
            simp [h2]
          · simp [h1]
        rw [h, Bool.or_false]), HBx.out, Hb.out, hzr, Hcl.out⟩
      case round =>
        obtain ⟨j, E, hj, rfl, hownE, hE, hBE, hbE, hzE, hcE⟩ := hrel
        by_cases hlj : j < 1
        · have hj1 : (j : Int) < ((1 : Nat) : Int) := by omega
          have hBb := HBb.out
          have hb1 := HNb.out
          have hb2 := Hkm.out
          have hkk : (f : Int) + (j : Int) = ((f + j : Nat) : Int) := by omega
          have hE2 := hE.put hownE.isMap (f + j) (.agg [])
          have HE2 := Lib.hid (hE2.congr (g := fun i => phM ps 1 k i || (decide (f ≤ i) && decide (i < f + (j + 1)))) (fun i => by rw [in_succ f j i, ← Bool.or_assoc]))
          have Hb3 := Lib.hid hbE
          have HB3 := Lib.hid hBE
          have Hc3 := Lib.hid hcE
          have HnE : Hid (k * 1 + j < maxLen) := Lib.hid (by unfold maxLen; omega)
          have Hkk := Lib.hid hkk
          clear hE hE2 hbE hBE hcE hb1 hb2 hkk
          go_wp2_with (first
            | (at_mapUpdate; refine wpList_mapUpdate_own _ rfl _ _ _ 96 rfl 3 98 law3 Try.underlying96 _ (w.heap.size + 1) _ _ rfl hownE HnE.out _ _ _ rfl rfl (keyOf_int_mk Try.underlying3 (by rw [Hkk.out]; exact wf_nat (f + j) (by omega))) _ [] unitElem_mk ?_; intro w4 hown4 hg4; go_frame)
            | go_in)
          rw [Hkk.out] at hown4
          have hb4 := below_map Hb3.out hg4 (by omega)
          have hBx4 := HB3.out.grown hg4 (by simp)
          have hz4 := hg4.size
          have hc4 : ∀ b o, (some ⟨b2, o2, none⟩ : Option Addr) = some ⟨b, o, none⟩ → ∀ j (h : j < ps.length), w4.cell? ⟨b, o + j, none⟩ = some (.int .i64 (ps[j] : Nat)) := fun b o e j h => by
            have hc := Hc3.out b o e j h
            have hl := World.block_lt_of_cell? _ _ hc
            refine (hg4.cell_far _ hl (fun e => ?_)).trans hc
            injection e with e
            have h1 := hownE.lt
            obtain ⟨es, cl, hm, _⟩ := hownE
            have e : b = w.heap.size + 1 := e
            rw [e] at hc
            simp [World.cell?, hm] at hc
          have Hown4 := Lib.hid hown4
          have HB4 := Lib.hid hBx4
          have Hb4 := Lib.hid hb4
          have Hc4 := Lib.hid hc4
          clear hown4 hBx4 hb4 hownE hg4 hc4
          go_roundw
          case rel => exact ⟨j + 1, _, by omega, by go_num, Hown4.out, HE2.out, HB4.out, Hb4.out, by omega, Hc4.out⟩
          case measure => simp [intOf]; omega
        · obtain rfl : j = 1 := by omega
          have hBb := HBb.out
          have Hown4 := Lib.hid hownE
          have HE2 := Lib.hid hE
          have Hb3 := Lib.hid hbE
          have HB3 := Lib.hid hBE
          have Hc3 := Lib.hid hcE
          clear hownE hE hbE hBE hcE
          go_wp2
          go_roundw
          case rel => exact ⟨k + 1, E, by omega, by go_num, by rw [Nat.add_mul, Nat.one_mul]; exact Hown4.out, HE2.out.congr (fun i => (Hst.out i).symm), HB3.out, Hb3.out, hzE, Hc3.out⟩
          case measure => simp [intOf]; omega
    · obtain rfl : k = ps.length := by omega
      have Hown := Lib.hid hown
      have HD := Lib.hid hD
      have Hb := Lib.hid hb
      clear hown hD hb hBx hcl
      go_wp2
      go_ret
      exact ⟨_, D, rfl, Hown.out.mono HN.out, HD.out.congr (fun i => (Hf.out i).symm), Hb.out, Nat.le_succ _⟩

set_option maxHeartbeats 3200000 in
theorem marked_phrase (name : ByteArray) (T : List (List UInt8)) (hT6 : T.length ≤ 1000000) (nm : ByteArray) (ws : List ByteArray) (l : List Q) (hnm : (nm.toList == name.toList) = true) (hwq : wq (.mk 4 nm ws l) ≤ 1048576) (hne : ws ≠ []) : MarkOk name T (.mk 4 nm ws l) := by
  intro w a0 a1 a2 a3 A c hQ hT
  obtain ⟨WA, m, wc, CA, n1, c2, e, hI⟩ := hQ.is
  simp only [List.cons.injEq, and_true] at e
  obtain ⟨rfl, rfl, rfl, rfl⟩ := e
  have hwn := hI.wn
  have hwds := hI.wds
  have hmm := @run_makeMap Try.prog
  have hxn : (nm.toList != name.toList) = false := by rw [bne, hnm]; rfl
  have hwl : ws.length ≤ 1048576 := by rw [wq_eq] at hwq; omega
  have hm0 : 0 < m := by
    rw [← hwn]
    exact List.length_pos_iff.2 hne
  have hf : ∀ i, markB name T i (.mk 4 nm ws l) = phM (phr T ws) ws.length (phr T ws).length i := fun i => by
    rw [markB_eq, if_pos (by decide), ← beq_toList, hnm, Bool.true_and]
    unfold leafM phM
    rw [if_neg (by decide), if_neg (fun h => absurd h.1 (by decide))]
    rw [List.take_of_length_le (Nat.le_refl _)]
  have hpi := phr_in T ws
  have hpl := phr_len T ws
  have hm1 := made_map w (.cells #[.int .i64 4, .string nm, .slice WA m wc, .slice CA n1 c2] 37)
  have hb1 := made_below w (.cells #[.int .i64 4, .string nm, .slice WA m wc, .slice CA n1 c2] 37)
  have hB1 := (Blk.new w 37 #[.int .i64 4, .string nm, .slice WA m wc, .slice CA n1 c2]).alloc (.map #[] 0)
  have hz : ((w.alloc (.cells #[.int .i64 4, .string nm, .slice WA m wc, .slice CA n1 c2] 37)).alloc (.map #[] 0)).heap.size = w.heap.size + 1 + 1 := by simp
  have cph := phrase_any A T.length c T WA m wc ws _ (reads_grow hb1 hT) rfl hT6 (reads_grow hb1 hwds) hwn (by omega)
  have hN : (phr T ws).length * ws.length ≤ T.length * wq (.mk 4 nm ws l) := Nat.mul_le_mul hpl (by rw [wq_eq]; omega)
  rw [hwn] at hf hpi hN hwl
  generalize phr T ws = ps at *
  have hNb : ps.length * m ≤ 1000000 * 1048576 := Nat.mul_le_mul (Nat.le_trans hpl hT6) hwl
  have Hf := Lib.hid hf
  have HM := Lib.hid hm1
  have Hb1 := Lib.hid hb1
  have HB1 := Lib.hid hB1
  have HN := Lib.hid hN
  have Hpi := Lib.hid hpi
  have HNb := Lib.hid hNb
  clear hQ hT hI hf hm1 hb1 hB1 hN hpi hNb hne hwds
  go_enter Try.func67, Try.ntmps67
  go_wp2_with fail
  generalize ((w.alloc (.cells #[.int .i64 4, .string nm, .slice WA m wc, .slice CA n1 c2] 37)).alloc (.map #[] 0)) = w1 at *
  refine cph.mono ?_
  rintro e w2 ⟨v, rfl, hIn⟩
  obtain ⟨A2, d2, rfl, hR2⟩ := own_shape hIn.own
  have hb2 := hIn.bel
  have HM2 := Lib.hid (HM.out.kept (grow_of_below hb2 none) (by simp))
  have HB2 := Lib.hid (HB1.out.below hb2 (by omega))
  have Hb2 := Lib.hid (Hb1.out.trans (hb2.mono Hb1.out.size))
  have hz2 : w.heap.size + 1 < w2.heap.size := by have := hb2.size; omega
  have HR2 := Lib.hid hR2
  have HBb : Hid (m ≤ 1048576 ∧ ps.length ≤ 1000000) := Lib.hid ⟨by omega, by omega⟩
  clear cph hIn hb2 HM HB1 Hb1 hR2
  go_wp2_with fail
  go_loopw [72] (fun i wr => ∃ (k : Nat) (D : DataW Unit), k ≤ ps.length ∧ i = .int .i64 k ∧ wr.ownsMap Try.prog 3 unitElem (w.heap.size + 1) (k * m) D ∧ Holds D (fun i => phM ps m k i) ∧ Blk wr w.heap.size 37 #[.int .i64 4, .string nm, .slice WA m wc, .slice CA n1 c2] ∧ Below w.heap.size w wr ∧ w.heap.size + 1 < wr.heap.size ∧ (∀ b o, A2 = some ⟨b, o, none⟩ → ∀ j (h : j < ps.length), wr.cell? ⟨b, o + j, none⟩ = some (.int .i64 (ps[j] : Nat)))) (fun i _ => ps.length - (intOf i).toNat)
  case atStart =>
    refine ⟨0, _, Nat.zero_le _, rfl, by rw [Nat.zero_mul]; exact HM2.out, Holds.none.congr (fun i => by simp [phM]), HB2.out, Hb2.out, hz2, fun b o e j h => ?_⟩
    obtain ⟨b', o', e', _, hc⟩ := HR2.out.2 (by omega)
    rw [e] at e'
    injection e' with e'
    injection e' with e1 e2
    subst e1 e2
    exact hc j _ (by simp [nv, List.getElem?_eq_getElem h])
  case round =>
    obtain ⟨k, D, hk, rfl, hown, hD, hBx, hb, hzr, hcl⟩ := hrel
    by_cases hlt : k < ps.length
    · obtain ⟨b2, o2, rfl, _, _⟩ := HR2.out.2 (by omega)
      have g0 := hcl b2 o2 rfl k hlt
      have hk1 : (k : Int) < (ps.length : Int) := by omega
      have q2 := hBx.cell 2
      simp only [List.getElem?_toArray, List.getElem?_cons_succ, List.getElem?_cons_zero] at q2
      have hfi := Hpi.out ps[k] (List.getElem_mem hlt)
      have hst := fun i => phM_succ ps m k i hlt
      have hkm : k * m + m ≤ ps.length * m := by
        have := Nat.mul_le_mul_right m (show k + 1 ≤ ps.length by omega)
        rwa [Nat.add_mul, Nat.one_mul] at this
      generalize ps[k] = f at *
      have Hst := Lib.hid hst
      have Hown := Lib.hid hown
      have HD := Lib.hid hD
      have HBx := Lib.hid hBx
      have Hb := Lib.hid hb
      have Hcl := Lib.hid hcl
      have Hkm := Lib.hid hkm
      clear hst hown hD hBx hb hcl hkm
      go_wp2_with fail
      go_loopw [79] (fun i wq' => ∃ (j : Nat) (E : DataW Unit), j ≤ m ∧ i = .int .i64 j ∧ wq'.ownsMap Try.prog 3 unitElem (w.heap.size + 1) (k * m + j) E ∧ Holds E (fun i => phM ps m k i || (decide (f ≤ i) && decide (i < f + j))) ∧ Blk wq' w.heap.size 37 #[.int .i64 4, .string nm, .slice WA m wc, .slice CA n1 c2] ∧ Below w.heap.size w wq' ∧ w.heap.size + 1 < wq'.heap.size ∧ (∀ b o, (some ⟨b2, o2, none⟩ : Option Addr) = some ⟨b, o, none⟩ → ∀ j (h : j < ps.length), wq'.cell? ⟨b, o + j, none⟩ = some (.int .i64 (ps[j] : Nat)))) (fun i _ => m - (intOf i).toNat)
      case atStart => exact ⟨0, D, Nat.zero_le _, rfl, Hown.out, HD.out.congr (fun i => by
        have h : (decide (f ≤ i) && decide (i < f + 0)) = false := by
          by_cases h1 : f ≤ i
          · have h2 : ¬ i < f + 0 := by omega
            simp [h2]
          · simp [h1]
        rw [h, Bool.or_false]), HBx.out, Hb.out, hzr, Hcl.out⟩
      case round =>
        obtain ⟨j, E, hj, rfl, hownE, hE, hBE, hbE, hzE, hcE⟩ := hrel
        by_cases hlj : j < m
        · have hj1 : (j : Int) < ((m : Nat) : Int) := by omega
          have hBb := HBb.out
          have hb1 := HNb.out
          have hb2 := Hkm.out
          have hkk : (f : Int) + (j : Int) = ((f + j : Nat) : Int) := by omega
          have hE2 := hE.put hownE.isMap (f + j) (.agg [])
          have HE2 := Lib.hid (hE2.congr (g := fun i => phM ps m k i || (decide (f ≤ i) && decide (i < f + (j + 1)))) (fun i => by rw [in_succ f j i, ← Bool.or_assoc]))
          have Hb3 := Lib.hid hbE
          have HB3 := Lib.hid hBE
          have Hc3 := Lib.hid hcE
          have HnE : Hid (k * m + j < maxLen) := Lib.hid (by unfold maxLen; omega)
          have Hkk := Lib.hid hkk
          clear hE hE2 hbE hBE hcE hb1 hb2 hkk
          go_wp2_with (first
            | (at_mapUpdate; refine wpList_mapUpdate_own _ rfl _ _ _ 96 rfl 3 98 law3 Try.underlying96 _ (w.heap.size + 1) _ _ rfl hownE HnE.out _ _ _ rfl rfl (keyOf_int_mk Try.underlying3 (by rw [Hkk.out]; exact wf_nat (f + j) (by omega))) _ [] unitElem_mk ?_; intro w4 hown4 hg4; go_frame)
            | go_in)
          rw [Hkk.out] at hown4
          have hb4 := below_map Hb3.out hg4 (by omega)
          have hBx4 := HB3.out.grown hg4 (by simp)
          have hz4 := hg4.size
          have hc4 : ∀ b o, (some ⟨b2, o2, none⟩ : Option Addr) = some ⟨b, o, none⟩ → ∀ j (h : j < ps.length), w4.cell? ⟨b, o + j, none⟩ = some (.int .i64 (ps[j] : Nat)) := fun b o e j h => by
            have hc := Hc3.out b o e j h
            have hl := World.block_lt_of_cell? _ _ hc
            refine (hg4.cell_far _ hl (fun e => ?_)).trans hc
            injection e with e
            have h1 := hownE.lt
            obtain ⟨es, cl, hm, _⟩ := hownE
            have e : b = w.heap.size + 1 := e
            rw [e] at hc
            simp [World.cell?, hm] at hc
          have Hown4 := Lib.hid hown4
          have HB4 := Lib.hid hBx4
          have Hb4 := Lib.hid hb4
          have Hc4 := Lib.hid hc4
          clear hown4 hBx4 hb4 hownE hg4 hc4
          go_roundw
          case rel => exact ⟨j + 1, _, by omega, by go_num, Hown4.out, HE2.out, HB4.out, Hb4.out, by omega, Hc4.out⟩
          case measure => simp [intOf]; omega
        · obtain rfl : j = m := by omega
          have hBb := HBb.out
          have Hown4 := Lib.hid hownE
          have HE2 := Lib.hid hE
          have Hb3 := Lib.hid hbE
          have HB3 := Lib.hid hBE
          have Hc3 := Lib.hid hcE
          clear hownE hE hbE hBE hcE
          go_wp2
          go_roundw
          case rel => exact ⟨k + 1, E, by omega, by go_num, by rw [Nat.add_mul, Nat.one_mul]; exact Hown4.out, HE2.out.congr (fun i => (Hst.out i).symm), HB3.out, Hb3.out, hzE, Hc3.out⟩
          case measure => simp [intOf]; omega
    · obtain rfl : k = ps.length := by omega
      have Hown := Lib.hid hown
      have HD := Lib.hid hD
      have Hb := Lib.hid hb
      clear hown hD hb hBx hcl
      go_wp2
      go_ret
      exact ⟨_, D, rfl, Hown.out.mono HN.out, HD.out.congr (fun i => (Hf.out i).symm), Hb.out, Nat.le_succ _⟩

end Go.Proofs.Ytjfconddkfihcaa.Mk
