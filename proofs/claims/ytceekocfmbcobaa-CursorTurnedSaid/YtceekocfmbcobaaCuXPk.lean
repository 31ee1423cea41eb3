/- loggialaw25.CursorTurned: the walk (printed by gen_cux.py). -/
import Derived.Test.YtceekocfmbcobaaPkCursorFollowsRow37
import Derived.Test.YtceekocfmbcobaaCuWPk
namespace Go.Proofs.Ytceekocfmbcobaa.Cu
open Go.RowKit Go.Proofs.Ytceekocfmbcobaa Go.Proofs.Ytceekocfmbcobaa.Qy Go.Proofs.Ytceekocfmbcobaa.Ph Go.Proofs.Ytceekocfmbcobaa.Cr Go.Proofs.Ytceekocfmbcobaa.Qp
set_option maxRecDepth 100000
set_option linter.unusedSimpArgs false

/-- A cursor's bytes that are being turned. -/
structure Trn (w wr : World) (g cap : Nat) (b : List UInt8) (M : List UInt8) : Prop where
  box : Blk wr (w.heap.size + 1) 57 (bv b).toArray
  own : wr.ownsRow (w.heap.size + 2) 5 1 (.slice (some ⟨g, 0, none⟩) M.length cap) M.length (bv M)
  bel : Below w.heap.size w wr
theorem Trn.ge {w wr : World} {g cap : Nat} {b M : List UInt8} (h : Trn w wr g cap b M) : w.heap.size + 2 ≤ g ∧ g < wr.heap.size := h.own.lt g rfl
theorem Trn.put {w wr : World} {g cap : Nat} {b M : List UInt8} (h : Trn w wr g cap b M) (j : Nat) (x : UInt8) : Trn w (wr.drew.setCell ⟨g, j, none⟩ (.int .u8 (x.toNat : Int))) g cap b (M.set j x) := by
  have hg := h.ge
  have h1 := (World.ownsRow.drew h.own).stored j (.int .u8 (x.toNat : Int))
  refine ⟨h.box.drew.far (by simp; omega) _, ?_, h.bel.drew.setCell (p := ⟨g, j, none⟩) (by simp; omega) _⟩
  have e : bv (M.set j x) = (bv M).set j (.int .u8 (x.toNat : Int)) := by unfold bv; rw [List.map_set]
  rw [List.length_set, e]
  exact h1.1
theorem Trn.cell {w wr : World} {g cap : Nat} {b M : List UInt8} (h : Trn w wr g cap b M) {j : Nat} {x : UInt8} (hx : M[j]? = some x) : wr.cell? ⟨g, j, none⟩ = some (.int .u8 (x.toNat : Int)) := by
  rw [h.own.cellAt j (by have := (List.getElem?_eq_some_iff.1 hx).1; omega), bv_get, hx]; rfl
theorem Trn.byte {w wr : World} {g cap : Nat} {b M : List UInt8} (h : Trn w wr g cap b M) {j : Nat} (hj : j < b.length) : wr.cell? ⟨w.heap.size + 1, j, none⟩ = some (.int .u8 ((b.getD j 0).toNat : Int)) := by
  rw [h.box.cell, List.getElem?_toArray, bv_get]
  simp [List.getD, List.getElem?_eq_getElem hj]
theorem xor_u8 (x y : UInt8) : bits .xor .u8 (x.toNat : Int) (y.toNat : Int) = ((x ^^^ y).toNat : Int) := by
  rw [u8_xor_nat x.toNat y.toNat x.toNat_lt y.toNat_lt, UInt8.toNat_xor]

theorem ne0 (y : UInt8) : ((y.toNat : Int) != 0) = (y != 0) := by
  rw [Bool.eq_iff_iff, bne_iff_ne, bne_iff_ne]
  constructor
  · intro h e; exact h (by rw [e]; rfl)
  · intro h e; exact h (UInt8.toNat_inj.1 (by simpa using e))

set_option maxHeartbeats 6400000 in
theorem turned_walk (a : Int) (q : ByteArray) (t : Nat) (y0 y1 y2 y3 : UInt8) (w : World) (ht : t ≤ 65535) :
    Calls Try.prog 8 #[.agg #[.int .i64 a, .string q], .int .u16 (t : Int), .agg #[.int .u8 (y0.toNat : Int), .int .u8 (y1.toNat : Int), .int .u8 (y2.toNat : Int), .int .u8 (y3.toNat : Int)]] w fun e w' => e = .returned (.bool true) ∧ Below w.heap.size w w' := by
  have hb2 := ((Below.refl w.heap.size w).alloc (Nat.le_refl _) (.cells #[.int .i64 a, .string q] 45)).alloc (by simp) (.cells #[.int .u8 (y0.toNat : Int), .int .u8 (y1.toNat : Int), .int .u8 (y2.toNat : Int), .int .u8 (y3.toNat : Int)] 57)
  have hB0 := (Blk.new w 45 #[.int .i64 a, .string q]).alloc (.cells #[.int .u8 (y0.toNat : Int), .int .u8 (y1.toNat : Int), .int .u8 (y2.toNat : Int), .int .u8 (y3.toNat : Int)] 57)
  have hz : (w.alloc (.cells #[.int .i64 a, .string q] 45)).heap.size = w.heap.size + 1 := by simp
  have hB1 := Blk.new (w.alloc (.cells #[.int .i64 a, .string q] 45)) 57 #[.int .u8 (y0.toNat : Int), .int .u8 (y1.toNat : Int), .int .u8 (y2.toNat : Int), .int .u8 (y3.toNat : Int)]
  rw [hz] at hB1
  have hz2 : ((w.alloc (.cells #[.int .i64 a, .string q] 45)).alloc (.cells #[.int .u8 (y0.toNat : Int), .int .u8 (y1.toNat : Int), .int .u8 (y2.toNat : Int), .int .u8 (y3.toNat : Int)] 57)).heap.size = w.heap.size + 2 := by simp
  have hbe : (#[.int .u8 (y0.toNat : Int), .int .u8 (y1.toNat : Int), .int .u8 (y2.toNat : Int), .int .u8 (y3.toNat : Int)] : Array Value) = (bv [y0, y1, y2, y3]).toArray := rfl
  have HB1 : Hid (Blk _ (w.heap.size + 1) 57 (bv [y0, y1, y2, y3]).toArray) := Lib.hid hB1
  have HB0 := Lib.hid hB0
  have Hb2 := Lib.hid hb2
  have Hz2 := Lib.hid hz2
  clear hb2 hB0 hB1 hz hz2 hbe
  go_enter Try.func8, Try.ntmps8
  go_wp2_with fail
  have hb4 : [y0, y1, y2, y3].length = 4 := rfl
  generalize hby : [y0, y1, y2, y3] = by_ at *
  clear hby
  have Hb4 := Lib.hid hb4
  clear hb4
  generalize hw2 : (w.alloc (.cells #[.int .i64 a, .string q] 45)).alloc (.cells #[.int .u8 (y0.toNat : Int), .int .u8 (y1.toNat : Int), .int .u8 (y2.toNat : Int), .int .u8 (y3.toNat : Int)] 57) = w2 at *
  clear hw2
  by_cases hI : IsC a q
  · obtain ⟨n, rfl⟩ : ∃ n : Nat, a = n := ⟨a.toNat, by have := hI.1; omega⟩
    have ce := encode_yes n q w2 hI
    have HI := Lib.hid hI
    have hsh := hI.short
    clear hI
    refine ce.mono ?_
    rintro e w3 ⟨⟨v3, rfl, hown3⟩, hb3⟩
    have hln := enc_len n q.data.toList
    rw [bsize] at hln
    have Hen : Hid (enc n q.data.toList = enc n q.data.toList) := Lib.hid rfl
    obtain ⟨L, hL⟩ : ∃ L, enc n q.data.toList = L := ⟨_, rfl⟩
    rw [hL] at hown3 hln
    obtain ⟨g, cap, rfl⟩ := Joins.ownsRow_form hown3 (by omega)
    rw [Hz2.out] at hown3
    have HT : Hid (Trn w w3 g cap by_ L) := Lib.hid ⟨HB1.out.below hb3 (by rw [Hz2.out]; omega), hown3, Hb2.out.trans (hb3.mono (by rw [Hz2.out]; omega))⟩
    have HL := Lib.hid hL
    have hl17 : 17 ≤ L.length := by omega
    have hlM : L.length ≤ 1041 := by omega
    have hll : (L.length : Int) ≤ 1041 := by omega
    have hl0 : (17 : Int) ≤ (L.length : Int) := by omega
    have hne0 : ((L.length : Int) == 0) = false := by rw [beq_eq_false_iff_ne]; omega
    have ht0 : (0 : Int) ≤ (t : Int) := by omega
    have ht1 : (t : Int) ≤ 65535 := by omega
    clear ce hown3 hb3 hL hln Hen HB1 HB0 Hb2 hsh
    go_wp2_with fail
    have hkm : (t : Int) % (L.length : Int) = ((t % L.length : Nat) : Int) := by omega
    have hkl : t % L.length < L.length := Nat.mod_lt _ (by omega)
    rw [hkm]
    clear hkm
    generalize t % L.length = k at *
    have hki : (k : Int) < (L.length : Int) := by omega
    go_loopw [10, 11] (fun b i wr => ∃ (r : Nat) (M : List UInt8), r ≤ 4 ∧ k + r ≤ L.length ∧ i = .int .i64 (r : Int) ∧ b = .bool (tb by_ r) ∧ Mix L M k r by_ ∧ Trn w wr g cap by_ M) (fun _ i _ => 4 - (intOf i).toNat)
    case atStart => exact ⟨0, L, by omega, by omega, rfl, rfl, Mix.start L k by_, HT.out⟩
    case round =>
      obtain ⟨r, M, hr, hkr, rfl, rfl, hM, hT⟩ := hrel
      have hlenM := hM.len
      have HM := Lib.hid hM
      have HTr := Lib.hid hT
      have HlM := Lib.hid hlenM
      clear hM hlenM hT
      by_cases hgo : r < 4 ∧ k + r < L.length
      · obtain ⟨hr4, hkr2⟩ := hgo
        have hkM : k + r < M.length := by rw [HlM.out]; exact hkr2
        obtain ⟨x, hx⟩ : ∃ x, M[k + r]? = some x := ⟨M[k + r], List.getElem?_eq_getElem hkM⟩
        have hcx := HTr.out.cell hx
        have hcf : wr.frozen? ⟨g, k + r, none⟩ = false := HTr.out.own.frozenAt (k + r)
        have hcb := HTr.out.byte (j := r) (by rw [Hb4.out]; exact hr4)
        have Hstep := Lib.hid (HM.out.step x hx)
        have hxr := xor_u8 x (by_.getD r 0)
        have Hput := Lib.hid (HTr.out.put (k + r) (x ^^^ by_.getD r 0))
        have Htb := Lib.hid (tb_succ by_ r (by rw [Hb4.out]; exact hr4))
        obtain ⟨y, hy⟩ : ∃ y, by_.getD r 0 = y := ⟨_, rfl⟩
        rw [hy] at hcb Hstep hxr Hput Htb
        have Hy := Lib.hid hy
        clear hy
        generalize x ^^^ y = z at *
        have Hkr : Hid (k + (r + 1) = k + r + 1) := Lib.hid (by omega)
        have hr4' : (r : Int) < 4 := by omega
        have hsum : (k : Int) + (r : Int) = ((k + r : Nat) : Int) := by omega
        clear hkr hkM
        generalize k + r = m at *
        have hkr3 : (m : Int) < (L.length : Int) := by omega
        have hwm : IntKind.i64.wrap (m : Int) = (m : Int) := IntWalk.i64_in _ (by omega)
        have hm0 : (0 : Int) ≤ (m : Int) := by omega
        clear hx
        go_upto_region 9 with (fail)
        refine wp_region_ph_tail 10 (specOf []) (fun wx => wx = wr.drew) (fun _ => True) (by kernel_rfl) (by kernel_rfl) (turns_of (by kernel_rfl)) rfl trivial ?_
        refine ph_fix 1 ?_ rfl (by rfl) (by rfl) (fun wx hC => ?_) ?_
        rotate_left
        · subst hC
          go_simp
          all_goals with_reducible rfl
        try simp only [Act.put, List.setIfInBounds_toArray, List.set_cons_zero, List.set_cons_succ]
        refine ph_fix 2 ?_ rfl (by rfl) (by rfl) (fun wx hC => ?_) ?_
        rotate_left
        · subst hC
          go_simp
          all_goals with_reducible rfl
        try simp only [Act.put, List.setIfInBounds_toArray, List.set_cons_zero, List.set_cons_succ]
        refine ph_fix 3 ?_ rfl (by rfl) (by rfl) (fun wx hC => ?_) ?_
        rotate_left
        · subst hC
          go_simp
          all_goals with_reducible rfl
        try simp only [Act.put, List.setIfInBounds_toArray, List.set_cons_zero, List.set_cons_succ]
        refine ph_fix 4 ?_ rfl (by rfl) (by rfl) (fun wx hC => ?_) ?_
        rotate_left
        · subst hC
          go_simp
          all_goals with_reducible rfl
        try simp only [Act.put, List.setIfInBounds_toArray, List.set_cons_zero, List.set_cons_succ]
        refine ph_fix 5 ?_ rfl (by rfl) (by rfl) (fun wx hC => ?_) ?_
        rotate_left
        · subst hC
          go_simp
          all_goals with_reducible rfl
        try simp only [Act.put, List.setIfInBounds_toArray, List.set_cons_zero, List.set_cons_succ]
        refine ph_fix 6 ?_ rfl (by rfl) (by rfl) (fun wx hC => ?_) ?_
        rotate_left
        · subst hC
          go_simp
          all_goals with_reducible rfl
        try simp only [Act.put, List.setIfInBounds_toArray, List.set_cons_zero, List.set_cons_succ]
        refine ph_fix 7 ?_ rfl (by rfl) (by rfl) (fun wx hC => ?_) ?_
        rotate_left
        · subst hC
          go_simp
          all_goals with_reducible rfl
        try simp only [Act.put, List.setIfInBounds_toArray, List.set_cons_zero, List.set_cons_succ]
        refine ph_fix 8 ?_ rfl (by rfl) (by rfl) (fun wx hC => ?_) ?_
        rotate_left
        · subst hC
          go_simp
          all_goals with_reducible rfl
        try simp only [Act.put, List.setIfInBounds_toArray, List.set_cons_zero, List.set_cons_succ]
        refine ph_fix 9 ?_ rfl (by rfl) (by rfl) (fun wx hC => ?_) ?_
        rotate_left
        · subst hC
          go_simp
          all_goals with_reducible rfl
        try simp only [Act.put, List.setIfInBounds_toArray, List.set_cons_zero, List.set_cons_succ]
        refine ph_fix 10 ?_ rfl (by rfl) (by rfl) (fun wx hC => ?_) ?_
        rotate_left
        · subst hC
          go_simp
          all_goals with_reducible rfl
        try simp only [Act.put, List.setIfInBounds_toArray, List.set_cons_zero, List.set_cons_succ]
        refine ph_nil (fun w6 hC hI => ?_)
        subst hC
        clear hI
        go_upto_region 10 with (fail)
        have HT7 : Hid (Trn w ((wr.setCell ⟨g, m, none⟩ (.int .u8 (z.toNat : Int))).drew) g cap by_ (M.set m z)) := Lib.hid Hput.out
        clear Hput hcx hcf hcb
        generalize (wr.setCell ⟨g, m, none⟩ (.int .u8 (z.toNat : Int))).drew = w7 at *
        have hcb := HT7.out.byte (j := r) (by rw [Hb4.out]; exact hr4)
        rw [Hy.out] at hcb
        have Fin : Hid (∀ b, tb by_ (r + 1) = b → ∃ (r' : Nat) (M' : List UInt8), r' ≤ 4 ∧ k + r' ≤ L.length ∧ Value.int IntKind.i64 ((r : Int) + 1) = .int .i64 (r' : Int) ∧ Value.bool b = .bool (tb by_ r') ∧ Mix L M' k r' by_ ∧ Trn w w7 g cap by_ M') := Lib.hid (fun b hb =>
          ⟨r + 1, _, by omega, by have := Hkr.out; omega, by go_num, by rw [hb], Hstep.out, HT7.out⟩)
        clear Hstep
        generalize tb by_ r = b0 at *
        cases b0 with
        | true =>
          go_wp2
          go_roundw
          case rel => exact Fin.out true (by rw [Htb.out]; rfl)
          case measure => simp [intOf]; omega
        | false =>
          go_wp2
          go_roundw
          case rel => exact Fin.out _ (by rw [Htb.out, ne0]; rfl)
          case measure => simp [intOf]; omega
      · -- the loop is left
        have hge := HTr.out.ge
        have hR := Reads.of_own HTr.out.own
        have hcp : M.length ≤ cap := by
          obtain ⟨A', c', e', h'⟩ := own_cap HTr.out.own
          injection e' with _ _ e'
          omega
        have cd := decode_any (some ⟨g, 0, none⟩) M.length cap M wr hR (by rw [HlM.out]; omega) hcp (fun h => by cases h)
        rw [HlM.out] at cd
        have Hdec : Hid (∀ a' q' E, DecR M a' q' E → (E == 0) = !(tb by_ r)) := Lib.hid (fun a' q' E hd => by
          cases htb : tb by_ r with
          | false =>
            have e := HM.out.same htb
            subst e
            have hd2 : DecR M (n : Int) q 0 := .inl ⟨n, rfl, HI.out, HL.out.symm, rfl⟩
            obtain ⟨_, _, rfl⟩ := hd.det hd2
            rfl
          | true =>
            rcases hd with ⟨n', _, h1, h2, _⟩ | ⟨_, _, _, rfl⟩
            · exact (HM.out.turned htb (by omega) hkr HL.out.symm h2).elim
            · rfl)
        have Hb := Lib.hid HTr.out.bel
        clear hR hcp HTr HT
        generalize tb by_ r = b0 at *
        by_cases hr4 : r < 4
        · have hr4' : (r : Int) < 4 := by omega
          have hsum : (k : Int) + (r : Int) = (L.length : Int) := by omega
          clear hgo hkr
          go_wp2_with fail
          refine cd.mono ?_
          rintro e w8 ⟨a', q', E, hd, rfl, hb8⟩
          have hEb := Hdec.out a' q' E hd
          have hz8 := hb8.size
          have Hb9 := Lib.hid ((Hb.out.trans (hb8.mono Hb.out.size)).alloc (by have := Hb.out.size; omega) (.cells #[.int .i64 a', .string q'] 45))
          clear cd hd hb8
          go_upto_region 12 with (fail)
          generalize hw9 : w8.alloc (.cells #[.int .i64 a', .string q'] 45) = w9 at *
          clear hw9
          have c9 := awake25 w9
          cases b0 <;> simp only [Bool.not_true, Bool.not_false] at hEb <;>
            (go_wp2_with fail
             refine c9.mono ?_
             rintro e w10 ⟨rfl, hb10⟩
             have Hb10 := Lib.hid (Hb9.out.trans (hb10.mono Hb9.out.size))
             clear c9 hb10
             go_wp2_with fail
             go_ret
             exact ⟨rfl, Hb10.out⟩)
        · have hr4' : ¬ (r : Int) < 4 := by omega
          clear hgo hkr
          go_wp2_with fail
          refine cd.mono ?_
          rintro e w8 ⟨a', q', E, hd, rfl, hb8⟩
          have hEb := Hdec.out a' q' E hd
          have hz8 := hb8.size
          have Hb9 := Lib.hid ((Hb.out.trans (hb8.mono Hb.out.size)).alloc (by have := Hb.out.size; omega) (.cells #[.int .i64 a', .string q'] 45))
          clear cd hd hb8
          go_upto_region 12 with (fail)
          generalize hw9 : w8.alloc (.cells #[.int .i64 a', .string q'] 45) = w9 at *
          clear hw9
          have c9 := awake25 w9
          cases b0 <;> simp only [Bool.not_true, Bool.not_false] at hEb <;>
            (go_wp2_with fail
             refine c9.mono ?_
             rintro e w10 ⟨rfl, hb10⟩
             have Hb10 := Lib.hid (Hb9.out.trans (hb10.mono Hb9.out.size))
             clear c9 hb10
             go_wp2_with fail
             go_ret
             exact ⟨rfl, Hb10.out⟩)
  · have ce := encode_no a q w2 hI
    clear hI HB0 HB1
    refine ce.mono ?_
    rintro e w3 ⟨⟨v3, rfl, hown3⟩, hb3⟩
    have Hb3 := Lib.hid (Hb2.out.trans (hb3.mono Hb2.out.size))
    have c9 := awake25 w3
    clear ce hown3 hb3
    go_wp2_with fail
    refine c9.mono ?_
    rintro e w10 ⟨rfl, hb10⟩
    have Hb10 := Lib.hid (Hb3.out.trans (hb10.mono Hb3.out.size))
    clear c9 hb10
    go_wp2_with fail
    go_ret
    exact ⟨rfl, Hb10.out⟩
theorem turned_any (a : Int) (q : ByteArray) (t : Int) (y0 y1 y2 y3 : UInt8) (w : World) (ht : (Lit.int .u16 t).wf = true) :
    Calls Try.prog 8 #[.agg #[.int .i64 a, .string q], .int .u16 t, .agg #[.int .u8 (y0.toNat : Int), .int .u8 (y1.toNat : Int), .int .u8 (y2.toNat : Int), .int .u8 (y3.toNat : Int)]] w fun e w' => e = .returned (.bool true) ∧ Below w.heap.size w w' := by
  have h1 : IntKind.u16.min ≤ t ∧ t ≤ IntKind.u16.max := by simpa [Lit.wf] using ht
  have e1 : IntKind.u16.min = 0 := rfl
  have e2 : IntKind.u16.max = 65535 := rfl
  obtain ⟨n, rfl⟩ : ∃ n : Nat, t = (n : Int) := ⟨t.toNat, by omega⟩
  exact turned_walk a q n y0 y1 y2 y3 w (by omega)
end Go.Proofs.Ytceekocfmbcobaa.Cu
