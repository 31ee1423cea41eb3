/- MarkSpans: the law's walk. -/
import Derived.Test.YtjfconddkfihcaaMkVPk
namespace Go.Proofs.Ytjfconddkfihcaa.Mk
open Go.RowKit Go.Proofs.Ytjfconddkfihcaa Go.Proofs.Ytjfconddkfihcaa.Ut Go.Proofs.Ytjfconddkfihcaa.Tk Go.Proofs.Ytjfconddkfihcaa.Qy
set_option maxRecDepth 20000
set_option linter.unusedSimpArgs false

theorem okS_weak {n : Nat} : ∀ {l : List (Nat × Nat)} {e e' : Nat}, e ≤ e' → okS e' n l → okS e n l
  | [], _, _, _, _ => trivial
  | _ :: _, _, _, h, hk => ⟨Nat.le_trans h hk.1, hk.2⟩
theorem sel_cons (x : Nat × Nat) (t : List (Nat × Nat)) (f : Nat → Bool) (k : Nat) : sel (x :: t) f (k + 1) = (if f 0 then [x] else []) ++ sel t (fun i => f (i + 1)) k := by
  unfold sel
  rw [List.range_succ_eq_map, List.filterMap_cons, List.filterMap_map]
  cases h : f 0 <;> simp [Function.comp_def]
theorem sel_okS {n : Nat} : ∀ {l : List (Nat × Nat)} {e : Nat} (f : Nat → Bool), okS e n l → okS e n (sel l f l.length)
  | [], _, _, _ => trivial
  | x :: t, e, f, h => by
    rw [List.length_cons, sel_cons]
    obtain ⟨h1, h2, h3, h4⟩ := h
    have ih := sel_okS (fun i => f (i + 1)) h4
    cases f 0
    · exact okS_weak (by omega) ih
    · exact ⟨h1, h2, h3, ih⟩
theorem spansQ_ok (q : Q) (name s : ByteArray) : okS 0 s.size (spansQ q name s) ∧ (spansQ q name s).length ≤ s.size := by
  have h := spans_ok s.data.toList
  rw [bsize] at h
  have hc := sp_count s.data.toList
  rw [bsize] at hc
  refine ⟨sel_okS _ h, ?_⟩
  have := sel_len (sp s.data.toList 0 none) (fun i => markB name (Tk.words s.data.toList) i q) (sp s.data.toList 0 none).length
  unfold spansQ
  omega

set_option maxHeartbeats 6400000 in
theorem markSpans_walk (q : Q) (hq : QSz q) (a0 a1 a2 a3 : Value) (name s0 : ByteArray) (w : World) (hs : s0.size ≤ 140737488351232) (hQ : QAt w w.heap.size q [a0, a1, a2, a3]) :
    Calls Try.prog 4 #[.agg #[a0, a1, a2, a3], .string name, .string s0] w fun e w' => e = .returned (.bool true) ∧ Below w.heap.size w w' := by
  have k1 := fun w => mcut_any s0 w hs
  have zs0 := ct_size 400 s0
  generalize ct 400 s0 = s at *
  obtain ⟨hok, hcnt⟩ := spansQ_ok q name s
  have c1 := fun (hw : wq q ≤ 300) b0 b1 b2 b3 wx (h : QAt wx wx.heap.size q [b0, b1, b2, b3]) => spans_any q (by omega) b0 b1 b2 b3 name s (by omega) wx h
  have c2 := fun b0 b1 b2 b3 wx (h : QAt wx wx.heap.size q [b0, b1, b2, b3]) => rspans_any q hq b0 b1 b2 b3 name s (by omega) wx h
  have hck : chk 0 s.size (zs (spansQ q name s)) = true := by have := chk_zs (e := 0) hok; simpa using this
  have hzl : (zs (spansQ q name s)).length = (spansQ q name s).length := by simp [zs]
  have c4 := fun (A : Option Addr) (c : Nat) wx (hR : Reads wx wx.heap.size 2 A (spansQ q name s).length (spC (spansQ q name s))) => check_any s A c (zs (spansQ q name s)) (by omega) wx (by rw [hzl, ← spC_zs]; exact hR)
  simp only [hck, hzl] at c4
  generalize spansQ q name s = sps at *
  obtain ⟨k0, nm, WA, m, wc, CA, n1, c2', e⟩ := (show ∃ k nm A n c C m d, [a0, a1, a2, a3] = [.int .i64 k, .string nm, .slice A n c, .slice C m d] by cases hQ; exact ⟨_, _, _, _, _, _, _, _, rfl⟩)
  simp only [List.cons.injEq, and_true] at e
  obtain ⟨rfl, rfl, rfl, rfl⟩ := e
  have hb1 : Below w.heap.size w (w.alloc (.cells #[.int .i64 k0, .string nm, .slice WA m wc, .slice CA n1 c2'] 37)) := (Below.refl _ _).alloc (Nat.le_refl _) _
  have hB1 := Blk.new w 37 #[.int .i64 k0, .string nm, .slice WA m wc, .slice CA n1 c2']
  have hz1' : w.heap.size < (w.alloc (.cells #[.int .i64 k0, .string nm, .slice WA m wc, .slice CA n1 c2'] 37)).heap.size := by simp
  have hf := rfew_any q hq _ _ _ _ _ (hQ.grow hb1)
  have HQ1 := Lib.hid (hQ.grow hb1)
  have Hb1 := Lib.hid hb1
  have HB1 := Lib.hid hB1
  have Hf := Lib.hid hf
  have C1 := Lib.hid c1
  have C2 := Lib.hid c2
  have C4 := Lib.hid c4
  have K1 := Lib.hid k1
  clear hQ hb1 hB1 c1 c2 c4 hok hck hzl hf k1 hq
  go_enter Try.func4, Try.ntmps4
  go_wp2_with fail
  generalize hw1 : (w.alloc (.cells #[.int .i64 k0, .string nm, .slice WA m wc, .slice CA n1 c2'] 37)) = w1 at *
  clear hw1
  have hcells : ∀ wx, Below w1.heap.size w1 wx → wx.cell? ⟨w.heap.size, 0, none⟩ = some (.int .i64 k0) ∧ wx.cell? ⟨w.heap.size, 1, none⟩ = some (.string nm) ∧ wx.cell? ⟨w.heap.size, 2, none⟩ = some (.slice WA m wc) ∧ wx.cell? ⟨w.heap.size, 3, none⟩ = some (.slice CA n1 c2') := fun wx hC =>
    have hB := HB1.out.below hC hz1'
    ⟨hB.cell 0, hB.cell 1, hB.cell 2, hB.cell 3⟩
  have Hcells := Lib.hid hcells
  clear hcells HB1
  refine Hf.out.mono ?_
  rintro e w2 ⟨⟨t, rfl, ht⟩, hb2⟩
  have Ht := Lib.hid ht
  have Hb2 := Lib.hid hb2
  have hS2 := Hcells.out w2 hb2
  have HQ2 := Lib.hid (HQ1.out.grow hb2)
  clear Hf ht hb2
  cases t with
  | false =>
    clear hS2
    go_wp2_with fail
    refine (awake_any _).mono ?_
    rintro e w3 ⟨rfl, hb3⟩
    have Hb3 := Lib.hid (Hb1.out.trans ((Hb2.out.trans (hb3.mono Hb2.out.size)).mono Hb1.out.size))
    clear hb3
    go_wp2
    go_ret
    exact ⟨rfl, Hb3.out⟩
  | true =>
    have hwq := Ht.out rfl
    have c1 := C1.out hwq _ _ _ _ w2 HQ2.out
    have Hc1 := Lib.hid c1
    clear C1 c1 hwq Ht
    go_wp2_with fail
    refine (K1.out _).mono ?_
    rintro e w3 ⟨rfl, hw3⟩
    subst hw3
    clear K1
    go_wp2_with fail
    refine Hc1.out.mono ?_
    rintro e w3 ⟨v3, rfl, hown3, hb3⟩
    obtain ⟨A3, d3, rfl, hR3⟩ := own_shape hown3
    have HR3 := Lib.hid hR3
    have hS3 := Hcells.out w3 (Hb2.out.trans (hb3.mono Hb2.out.size))
    have c2 := C2.out _ _ _ _ w3 (HQ2.out.grow hb3)
    have Hc2 := Lib.hid c2
    have Hb3 := Lib.hid (Hb2.out.trans (hb3.mono Hb2.out.size))
    clear hown3 hR3 hb3 Hc1 hS2 C2 c2 Hb2
    go_wp2_with fail
    refine Hc2.out.mono ?_
    rintro e w4 ⟨v4, rfl, hown4, hb4⟩
    obtain ⟨A4, d4, rfl, hR4⟩ := own_shape hown4
    have HR34 := Lib.hid (reads_grow hb4 HR3.out)
    have Hb4 := Lib.hid (Hb3.out.trans (hb4.mono Hb3.out.size))
    have c5 := same_spans A3 A4 d3 d4 sps w4 HR34.out hR4 (by omega)
    have Hc5 := Lib.hid c5
    clear hown4 hR4 hb4 Hc2 hS3 Hb3 HR3 c5
    go_wp2_with fail
    refine Hc5.out.mono ?_
    rintro e w5 ⟨rfl, hb5⟩
    have c6 := C4.out A3 d3 w5 (reads_grow hb5 HR34.out)
    have Hc6 := Lib.hid c6
    have Hb5 := Lib.hid (Hb4.out.trans (hb5.mono Hb4.out.size))
    clear hb5 Hc5 Hb4 HR34 C4 c6
    go_wp2_with fail
    refine Hc6.out.mono ?_
    rintro e w6 ⟨rfl, hb6⟩
    have Hb6 := Lib.hid (Hb5.out.trans (hb6.mono Hb5.out.size))
    clear hb6 Hc6 Hb5
    go_wp2_with fail
    refine (awake_any _).mono ?_
    rintro e w7 ⟨rfl, hb7⟩
    have Hb7 := Lib.hid (Hb1.out.trans ((Hb6.out.trans (hb7.mono Hb6.out.size)).mono Hb1.out.size))
    clear hb7 Hb6
    go_wp2
    go_ret
    exact ⟨rfl, Hb7.out⟩
end Go.Proofs.Ytjfconddkfihcaa.Mk
