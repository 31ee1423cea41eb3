/- cursor.Decode: the walk (printed by gen_cug.py). -/
import Derived.Test.YtceekocfmbcobaaPkCursorFollowsRow35
import Derived.Test.YtceekocfmbcobaaPkCursorFollowsRow32
import Derived.Test.YtceekocfmbcobaaGrowSPk
namespace Go.Proofs.Ytceekocfmbcobaa.Cu
open Go.RowKit Go.Proofs.Ytceekocfmbcobaa Go.Proofs.Ytceekocfmbcobaa.Cr Go.Proofs.Ytceekocfmbcobaa.Qp Go.Proofs.Ytceekocfmbcobaa.Qy Go.Proofs.Ytceekocfmbcobaa.Ph
set_option maxRecDepth 100000
set_option linter.unusedSimpArgs false

/-- A reader: what is left, and what is read. -/
structure Rdr (w0 w : World) (L : List UInt8) (a : Int) (q : ByteArray) : Prop where
  ex : ∃ A m c, Blk w (w0.heap.size + 1) 103 #[.slice A m c, .int .i64 a, .string q] ∧ Lf w (w0.heap.size + 1) A m c L
  res : Blk w w0.heap.size 45 #[.int .i64 0, .string ⟨#[]⟩]
  bel : Below w0.heap.size w0 w
theorem Rdr.moved {w0 w : World} {L M : List UInt8} {a : Int} {q : ByteArray} (h : Rdr w0 w L a q) {A : Option Addr} {m c : Nat} (hL : Lf (w.setCell ⟨w0.heap.size + 1, 0, none⟩ (.slice A m c)) (w0.heap.size + 1) A m c M) : Rdr w0 (w.setCell ⟨w0.heap.size + 1, 0, none⟩ (.slice A m c)) M a q := by
  obtain ⟨⟨A', m', c', hB, _⟩, hr, hb⟩ := h
  exact ⟨⟨A, m, c, hB.set_ 0 _, hL⟩, hr.far (by simp) _, hb.setCell (p := ⟨w0.heap.size + 1, 0, none⟩) (Nat.le_succ _) _⟩
theorem Lf.far {w : World} {g : Nat} {A : Option Addr} {m c : Nat} {L : List UInt8} (h : Lf w g A m c L) (o : Nat) (ho : o ≠ 0) (u : Value) : Lf (w.setCell ⟨g, o, none⟩ u) g A m c L := by
  refine ⟨?_, by rw [World.frozen?_setCell]; exact h.fz, h.le, h.ln, fun hm => ?_, h.nil⟩
  · rw [World.cell?_setCell_other _ _ _ _ (by simp [ho])]
    exact h.cell
  · obtain ⟨b, o', e, hb, hne, hc⟩ := h.rd hm
    exact ⟨b, o', e, by simpa [World.setCell] using hb, hne, fun j u' hu => by
      rw [World.cell?_of_block (w := w) (Below.heap_setCell w ⟨g, o, none⟩ u b hne)]
      exact hc j u' hu⟩
theorem Lf.below {w w' : World} {g : Nat} {A : Option Addr} {m c : Nat} {L : List UInt8} (h : Lf w g A m c L) (hg : g < w.heap.size) (hb : Below w.heap.size w w') : Lf w' g A m c L := by
  refine ⟨(hb.cell (p := ⟨g, 0, none⟩) hg).trans h.cell, (hb.frozen (p := ⟨g, 0, none⟩) hg).trans h.fz, h.le, h.ln, fun hm => ?_, h.nil⟩
  obtain ⟨b, o', e, hlt, hne, hc⟩ := h.rd hm
  exact ⟨b, o', e, Nat.lt_of_lt_of_le hlt hb.size, hne, fun j u' hu => (hb.cell (p := ⟨b, _, none⟩) hlt).trans (hc j u' hu)⟩
theorem Rdr.after {w0 w : World} {L : List UInt8} {a : Int} {q : ByteArray} (h : Rdr w0 w L a q) (b : Int) : Rdr w0 (w.setCell ⟨w0.heap.size + 1, 1, none⟩ (.int .i64 b)) L b q := by
  obtain ⟨⟨A', m', c', hB, hL⟩, hr, hb⟩ := h
  exact ⟨⟨A', m', c', hB.set_ 1 _, hL.far 1 (by omega) _⟩, hr.far (by simp) _, hb.setCell (p := ⟨w0.heap.size + 1, 1, none⟩) (Nat.le_succ _) _⟩
theorem Rdr.query {w0 w : World} {L : List UInt8} {a : Int} {q : ByteArray} (h : Rdr w0 w L a q) (s : ByteArray) : Rdr w0 (w.setCell ⟨w0.heap.size + 1, 2, none⟩ (.string s)) L a s := by
  obtain ⟨⟨A', m', c', hB, hL⟩, hr, hb⟩ := h
  exact ⟨⟨A', m', c', hB.set_ 2 _, hL.far 2 (by omega) _⟩, hr.far (by simp) _, hb.setCell (p := ⟨w0.heap.size + 1, 2, none⟩) (Nat.le_succ _) _⟩
theorem Rdr.lt {w0 w : World} {L : List UInt8} {a : Int} {q : ByteArray} (h : Rdr w0 w L a q) : w0.heap.size + 1 < w.heap.size := by
  obtain ⟨⟨A', m', c', hB, hL⟩, hr, hb⟩ := h
  exact hB.lt
theorem Rdr.drew {w0 w : World} {L : List UInt8} {a : Int} {q : ByteArray} (h : Rdr w0 w L a q) : Rdr w0 w.drew L a q := by
  obtain ⟨⟨A', m', c', hB, hL⟩, hr, hb⟩ := h
  exact ⟨⟨A', m', c', hB, hL.cell, hL.fz, hL.le, hL.ln, hL.rd, hL.nil⟩, hr, hb.drew⟩
theorem Rdr.below {w0 w w' : World} {L : List UInt8} {a : Int} {q : ByteArray} (h : Rdr w0 w L a q) (hb : Below w.heap.size w w') : Rdr w0 w' L a q := by
  obtain ⟨⟨A', m', c', hB, hL⟩, hr, hbl⟩ := h
  exact ⟨⟨A', m', c', hB.below hb hB.lt, hL.below hB.lt hb⟩, hr.below hb hr.lt, hbl.trans (hb.mono hbl.size)⟩
/-- A cursor stored over another. -/
theorem blk_over {w : World} {g : Nat} {a0 a1 b0 b1 : Value} (h : Blk w g 45 #[a0, a1]) : Blk ((w.setCell ⟨g, 0, none⟩ b0).setCell ⟨g, 1, none⟩ b1) g 45 #[b0, b1] := by
  have := (h.set_ 0 b0).set_ 1 b1
  simpa using this
theorem dec_results {fn : Func} {p1 p2 : Tmp} (hf : fn.results = #[.cell p1 45, .tmp p2]) {tmps : Array Value} {W : World} {b1 : Nat} {a0 a1 v : Value} (h1 : tmps.getD p1 undef = .pointer (some ⟨b1, 0, none⟩)) (h2 : tmps.getD p2 undef = v) (B1 : Blk W b1 45 #[a0, a1]) :
    (results fn tmps).run Try.prog W = .ok (.tuple #[.agg #[a0, a1], v]) W := by
  have l1 := run_loadVar_row (P := Try.prog) W b1 45 45 #[a0, a1] (0, 0) _ B1 Try.underlying45 rfl (by kernel_rfl)
  have h1' : tmps[p1]?.getD undef = .pointer (some ⟨b1, 0, none⟩) := by simpa using h1
  have h2' : tmps[p2]?.getD undef = v := by simpa using h2
  simp [results, hf, h1', h2', asAddr, l1]

set_option maxHeartbeats 6400000 in
theorem decode_any (A : Option Addr) (m c : Nat) (L : List UInt8) (w : World) (hR : Reads w w.heap.size 1 A m (bv L)) (hm : m ≤ 140737488351232) (hc : m ≤ c) (hnil : A = none → c = 0) : Calls Try.prog 23 #[.slice A m c] w (DecTo w L) := by
  have hln : L.length = m := by have := hR.1; rw [bv_len] at this; omega
  have hb2 := ((Below.refl w.heap.size w).alloc (Nat.le_refl _) (.cells #[.int .i64 0, .string ⟨#[]⟩] 45)).alloc (by simp) (.cells #[.slice A m c, .int .i64 0, .string ⟨#[]⟩] 103)
  have hBr := (Blk.new w 45 #[.int .i64 0, .string ⟨#[]⟩]).alloc (.cells #[.slice A m c, .int .i64 0, .string ⟨#[]⟩] 103)
  have hBx := Blk.new (w.alloc (.cells #[.int .i64 0, .string ⟨#[]⟩] 45)) 103 #[.slice A m c, .int .i64 0, .string ⟨#[]⟩]
  have hz : (w.alloc (.cells #[.int .i64 0, .string ⟨#[]⟩] 45)).heap.size = w.heap.size + 1 := by simp
  rw [hz] at hBx
  have hR0 : Rdr w ((w.alloc (.cells #[.int .i64 0, .string ⟨#[]⟩] 45)).alloc (.cells #[.slice A m c, .int .i64 0, .string ⟨#[]⟩] 103)) L 0 ⟨#[]⟩ := by
    refine ⟨⟨A, m, c, hBx, ⟨hBx.cell 0, hBx.frozen 0, hc, hln, fun hp => ?_, hnil⟩⟩, hBr, hb2⟩
    obtain ⟨b, o, e, hb, hcl⟩ := hR.2 hp
    refine ⟨b, o, e, by simp; omega, by omega, fun j u hu => ?_⟩
    exact (hb2.cell (p := ⟨b, o + j, none⟩) hb).trans (hcl j u hu)
  have HR0 := Lib.hid hR0
  have HL := Lib.hid hln
  have HR := Lib.hid hR
  clear hb2 hBr hBx hR0 hln hR hz
  go_enter Try.func23, Try.ntmps23
  go_wp2_with fail
  generalize hw2 : (w.alloc (.cells #[.int .i64 0, .string ⟨#[]⟩] 45)).alloc (.cells #[.slice A m c, .int .i64 0, .string ⟨#[]⟩] 103) = w2 at *
  clear hw2
  obtain ⟨A0, m0, c0, hB0, hL0⟩ := HR0.out.ex
  have hlm0 : m0 ≤ 140737488351232 := by have := hL0.ln; have := HL.out; omega
  have cn := next_any w2 (w.heap.size + 1) A0 m0 c0 3 L hL0 hlm0 (by omega)
  clear hB0 hL0
  refine cn.mono ?_
  rintro e w3 ⟨A1, m1, c1, A2, c2, rfl, hln1, rfl, _, _, _, hL3⟩
  have HR3 := Lib.hid (HR0.out.moved hL3)
  clear cn hln1 hL3 HR0
  generalize hw3 : w2.setCell ⟨w.heap.size + 1, 0, none⟩ (.slice A2 (m1 - min 3 m1) c2) = w3 at *
  clear hw3
  obtain ⟨A3, m3, c3, hB3, hL3⟩ := HR3.out.ex
  have hlm3 : m3 ≤ 140737488351232 := by have := hL3.ln; rw [List.length_drop] at this; have := HL.out; omega
  have cn := number_any w3 (w.heap.size + 1) A3 m3 c3 8 (L.drop 3) hL3 hlm3 (by omega)
  clear hB3 hL3
  go_wp2_with fail
  refine cn.mono ?_
  rintro e w4 ⟨rfl, A4, m4, c4, rfl, hL4⟩
  have HR4 := Lib.hid (HR3.out.moved hL4)
  have Hz : Hid (aOf L < 9223372036854775808 → wrap64 (num ((L.drop 3).take 8) : Nat) = (aOf L : Int)) := Lib.hid (fun h => by
    unfold aOf at h ⊢
    exact IntWalk.wrap64_in _ (by omega))
  clear cn hL4 HR3
  generalize wrap64 (num ((L.drop 3).take 8) : Nat) = z at *
  generalize hw4 : w3.setCell ⟨w.heap.size + 1, 0, none⟩ (.slice A4 m4 c4) = w4 at *
  clear hw4
  rw [List.drop_drop] at HR4
  obtain ⟨A5, m5, c5, hB5, _⟩ := HR4.out.ex
  have hd1 := hB5.cell 1
  have hf1 := hB5.frozen 1
  simp at hd1
  clear hB5
  go_upto_region 4 with (fail)
  have HR5 := Lib.hid (HR4.out.after z)
  clear HR4 hd1 hf1
  generalize hw5 : w4.setCell ⟨w.heap.size + 1, 1, none⟩ (.int .i64 z) = w5 at *
  clear hw5
  refine wp_region_ph_tail 10 (specOf [(7, ⟨Unit, fun _ => .int .i64 (nOf L : Int), fun _ wx => Rdr w wx (L.drop 13) z ⟨#[]⟩⟩), (8, ⟨Option Addr × Nat × Nat, fun x => .slice x.1 x.2.1 x.2.2, fun x wx => (∃ M, Rdr w wx M z ⟨#[]⟩) ∧ Reads wx wx.heap.size 1 x.1 x.2.1 (bv (qOf L))⟩), (9, ⟨Unit, fun _ => .string ⟨(qOf L).toArray⟩, fun _ wx => ∃ M, Rdr w wx M z ⟨#[]⟩⟩)])
    (fun _ => True) (fun wx => Rdr w wx (L.drop 11) z ⟨#[]⟩) (by kernel_rfl) (by kernel_rfl) (turns_of (by kernel_rfl)) trivial HR5.out.drew ?_
  refine ph_fix 1 ?_ rfl (by rfl) (by rfl) (fun wx hC => ?_) ?_
  rotate_left
  · go_simp
    all_goals with_reducible rfl
  try simp only [Act.put, List.setIfInBounds_toArray, List.set_cons_zero, List.set_cons_succ]
  refine ph_fix 2 ?_ rfl (by rfl) (by rfl) (fun wx hC => ?_) ?_
  rotate_left
  · go_simp
    all_goals with_reducible rfl
  try simp only [Act.put, List.setIfInBounds_toArray, List.set_cons_zero, List.set_cons_succ]
  refine ph_fix 3 ?_ rfl (by rfl) (by rfl) (fun wx hC => ?_) ?_
  rotate_left
  · go_simp
    all_goals with_reducible rfl
  try simp only [Act.put, List.setIfInBounds_toArray, List.set_cons_zero, List.set_cons_succ]
  refine ph_fix 4 ?_ rfl (by rfl) (by rfl) (fun wx hC => ?_) ?_
  rotate_left
  · go_simp
    all_goals with_reducible rfl
  try simp only [Act.put, List.setIfInBounds_toArray, List.set_cons_zero, List.set_cons_succ]
  refine ph_fix 5 ?_ rfl (by rfl) (by rfl) (fun wx hC => ?_) ?_
  rotate_left
  · go_simp
    all_goals with_reducible rfl
  try simp only [Act.put, List.setIfInBounds_toArray, List.set_cons_zero, List.set_cons_succ]
  refine ph_fix 6 ?_ rfl (by rfl) (by rfl) (fun wx hC => ?_) ?_
  rotate_left
  · go_simp
    all_goals with_reducible rfl
  try simp only [Act.put, List.setIfInBounds_toArray, List.set_cons_zero, List.set_cons_succ]
  refine ph_fix 7 ?_ rfl (by rfl) (by rfl) (fun wx hC => ?_) ?_
  rotate_left
  · go_simp
    all_goals with_reducible rfl
  try simp only [Act.put, List.setIfInBounds_toArray, List.set_cons_zero, List.set_cons_succ]
  refine ph_give 8 _ rfl (by rfl) (by rfl) (fun wx hC hI => ?_) (fun x => ?_)
  · refine give_enter (f := ?_) (args := ?_) ?_ ?_
    rotate_left 2
    · go_simp
      all_goals first | with_reducible rfl | (refine ⟨?_, ?_⟩ <;> with_reducible rfl)
    obtain ⟨A6, m6, c6, hB6, hL6⟩ := hI.ex
    have hlm6 : m6 ≤ 140737488351232 := by have := hL6.ln; rw [List.length_drop] at this; have := HL.out; omega
    refine (number_any wx (w.heap.size + 1) A6 m6 c6 2 (L.drop 11) hL6 hlm6 (by omega)).mono ?_
    rintro e w9 ⟨rfl, A9, m9, c9, rfl, hL9⟩
    have hR9 := hI.moved hL9
    rw [List.drop_drop] at hR9
    have hn := num_lt ((L.drop 11).take 2)
    have hn2 : num ((L.drop 11).take 2) < 65536 := Nat.lt_of_lt_of_le hn (Nat.le_trans (Nat.pow_le_pow_right (by omega) (List.length_take_le _ _)) (by decide))
    exact ⟨_, rfl, trivial, trivial, (), by rw [IntWalk.wrap64_in _ (by omega)]; rfl, hR9⟩
  rename Unit => x7
  try simp only [Act.put, List.setIfInBounds_toArray, List.set_cons_zero, List.set_cons_succ]
  refine ph_give 9 _ rfl (by rfl) (by rfl) (fun wx hC hI => ?_) (fun x => ?_)
  · refine give_enter (f := ?_) (args := ?_) ?_ ?_
    rotate_left 2
    · go_simp
      all_goals first | with_reducible rfl | (refine ⟨?_, ?_⟩ <;> with_reducible rfl)
    obtain ⟨A6, m6, c6, hB6, hL6⟩ := hI.ex
    have hlm6 : m6 ≤ 140737488351232 := by have := hL6.ln; rw [List.length_drop] at this; have := HL.out; omega
    have hn := num_lt ((L.drop 11).take 2)
    have hn2 : nOf L < 65536 := Nat.lt_of_lt_of_le hn (Nat.le_trans (Nat.pow_le_pow_right (by omega) (List.length_take_le _ _)) (by decide))
    refine (next_any wx (w.heap.size + 1) A6 m6 c6 (nOf L) (L.drop 13) hL6 hlm6 (by omega)).mono ?_
    rintro e w9 ⟨A9, m9, c9, A10, c10, rfl, hln9, rfl, _, _, hR9, hL9⟩
    exact ⟨_, rfl, trivial, trivial, (A9, min (nOf L) m9, c9), rfl, ⟨_, hI.moved hL9⟩, hR9⟩
  obtain ⟨A8, n8, c8⟩ := x
  try simp only [Act.put, List.setIfInBounds_toArray, List.set_cons_zero, List.set_cons_succ]
  refine ph_give 10 _ rfl (by rfl) (by rfl) (fun wx hC hI => ?_) (fun x => ?_)
  · refine give_value (u := ?_) (w' := ?_) ?_ trivial ?_
    rotate_left 2
    · have hcv := conv_str c8 hI.2
      go_simp
      all_goals first | with_reducible rfl | (refine ⟨?_, ?_⟩ <;> with_reducible rfl)
    exact ⟨trivial, (), rfl, hI.1⟩
  rename Unit => x9
  try simp only [Act.put, List.setIfInBounds_toArray, List.set_cons_zero, List.set_cons_succ]
  refine ph_nil (fun w6 hC hI => ?_)
  obtain ⟨M, hR6⟩ := hI
  have HR6 := Lib.hid hR6
  obtain ⟨A6, m6, c6, hB6, _⟩ := hR6.ex
  have hd2 := hB6.cell 2
  have hf2 := hB6.frozen 2
  simp at hd2
  have hlen : (qOf L).length ≤ m := by unfold qOf; rw [List.length_take, List.length_drop]; have := HL.out; omega
  have HS : Hid ((⟨(qOf L).toArray⟩ : ByteArray).data.toList = qOf L) := Lib.hid (by simp)
  have hSz : (⟨(qOf L).toArray⟩ : ByteArray).size ≤ m := by rw [← bsize, HS.out]; exact hlen
  clear hB6 hR6 hC HR5 hlen
  generalize (⟨(qOf L).toArray⟩ : ByteArray) = S at *
  go_upto_region 5 with (fail)
  have HR7 := Lib.hid (HR6.out.query S)
  clear HR6 hd2 hf2
  generalize hw7 : w6.setCell ⟨w.heap.size + 1, 2, none⟩ (.string S) = w7 at *
  clear hw7
  obtain ⟨A7, m7, c7, hB7, _⟩ := HR7.out.ex
  have hd1 := hB7.cell 1
  have hd2 := hB7.cell 2
  simp at hd1 hd2
  have hlt7 := HR7.out.lt
  have Hdec := Lib.hid (decR_of Hz.out (.inl HS.out))
  clear hB7
  by_cases hI : IsC z S
  · obtain ⟨n, rfl⟩ : ∃ n : Nat, z = n := ⟨z.toNat, by have := hI.1; omega⟩
    have ce := encode_yes n S w7 hI
    have HI := Lib.hid hI
    clear hI
    go_wp2_with fail
    refine ce.mono ?_
    rintro e w8 ⟨⟨v8, rfl, hown8⟩, hb8⟩
    have HR8 := Lib.hid (HR7.out.below hb8)
    have Hb8 : Hid (Below w.heap.size w w8) := Lib.hid HR8.out.bel
    obtain ⟨A8', c8', rfl, hRd8⟩ := own_shape hown8
    have hcv1 := conv_str c8' hRd8
    have hcv2 := conv_str c (HR.out.below Hb8.out)
    obtain ⟨A9, m9, c9, hB9, _⟩ := HR8.out.ex
    have hd1 := hB9.cell 1
    have hd2 := hB9.cell 2
    simp at hd1 hd2
    have hBr := HR8.out.res
    have hr0 := hBr.cell 0
    have hr1 := hBr.cell 1
    have hg0 := hBr.frozen 0
    have hg1 := hBr.frozen 1
    simp at hr0 hr1
    have HBr := Lib.hid hBr
    clear ce hb8 hown8 hRd8 hB9 hBr HR7
    generalize hen : enc n S.data.toList = M8 at *
    have Hen := Lib.hid hen
    clear hen
    by_cases hE : M8 = L
    · subst hE
      generalize (⟨M8.toArray⟩ : ByteArray) = X at *
      go_wp2
      exact bodyPost_ret (dec_results rfl rfl rfl (blk_over HBr.out)) rfl ⟨n, S, 0, .inl ⟨n, rfl, HI.out, Hen.out.symm, rfl⟩, rfl, (Hb8.out.setCell (p := ⟨w.heap.size, 0, none⟩) (Nat.le_refl _) _).setCell (p := ⟨w.heap.size, 1, none⟩) (Nat.le_refl _) _⟩
    · have hX : ((⟨M8.toArray⟩ : ByteArray).toList == (⟨L.toArray⟩ : ByteArray).toList) = false := by
        rw [Tk.tl, Tk.tl, beq_eq_false_iff_ne]
        intro h
        exact hE (by simpa using h)
      have hXn : ((⟨M8.toArray⟩ : ByteArray).toList != (⟨L.toArray⟩ : ByteArray).toList) = true := by rw [bne, hX]; rfl
      have Hno : Hid (∀ (n : Nat) (q' : ByteArray), IsC n q' → L ≠ enc n q'.data.toList) := Lib.hid (by
        rcases Hdec.out with ⟨n', e1, _, h2⟩ | h
        · exact absurd (by rw [← Hen.out, ← h2]; congr 1; omega) hE
        · exact h)
      clear hE Hdec
      generalize (⟨M8.toArray⟩ : ByteArray) = X at *
      generalize (⟨L.toArray⟩ : ByteArray) = Y at *
      go_wp2
      exact bodyPost_ret (dec_results rfl rfl rfl (blk_over HBr.out)) rfl ⟨0, ⟨#[]⟩, 250, .inr ⟨Hno.out, rfl, rfl, rfl⟩, rfl, (Hb8.out.setCell (p := ⟨w.heap.size, 0, none⟩) (Nat.le_refl _) _).setCell (p := ⟨w.heap.size, 1, none⟩) (Nat.le_refl _) _⟩
  · have ce := encode_no z S w7 hI
    have Hno : Hid (∀ (n : Nat) (q' : ByteArray), IsC n q' → L ≠ enc n q'.data.toList) := Lib.hid (by
      rcases Hdec.out with ⟨n', e1, h1, h2⟩ | h
      · exact absurd h1 hI
      · exact h)
    clear hI Hdec
    go_wp2_with fail
    refine ce.mono ?_
    rintro e w8 ⟨⟨v8, rfl, hown8⟩, hb8⟩
    have HR8 := Lib.hid (HR7.out.below hb8)
    have Hb8 : Hid (Below w.heap.size w w8) := Lib.hid HR8.out.bel
    have hBr := HR8.out.res
    have hr0 := hBr.cell 0
    have hr1 := hBr.cell 1
    have hg0 := hBr.frozen 0
    have hg1 := hBr.frozen 1
    simp at hr0 hr1
    have HBr := Lib.hid hBr
    clear ce hb8 hown8 hBr HR7
    go_wp2
    exact bodyPost_ret (dec_results rfl rfl rfl (blk_over HBr.out)) rfl ⟨0, ⟨#[]⟩, 250, .inr ⟨Hno.out, rfl, rfl, rfl⟩, rfl, (Hb8.out.setCell (p := ⟨w.heap.size, 0, none⟩) (Nat.le_refl _) _).setCell (p := ⟨w.heap.size, 1, none⟩) (Nat.le_refl _) _⟩
end Go.Proofs.Ytceekocfmbcobaa.Cu
