/- The index in a later world. (No walk.) -/
import Derived.Test.YtioekhiaoajgfaaMxMPk
import Derived.Test.YtioekhiaoajgfaaPkMemidxAddsRow33
import Derived.Test.YtioekhiaoajgfaaMxAPk
import Derived.Test.YtioekhiaoajgfaaMxFPk
import Derived.Test.YtioekhiaoajgfaaMxGPk
import Derived.Test.YtioekhiaoajgfaaPkMemidxAddsRow29
import Derived.Test.YtioekhiaoajgfaaPkMemidxAddsRow13
section
namespace Go.Proofs.Ytioekhiaoajgfaa.Mx
open Go.RowKit Go.Proofs.Ytioekhiaoajgfaa Go.Proofs.Ytioekhiaoajgfaa.Ut Go.Proofs.Ytioekhiaoajgfaa.Tk Go.Proofs.Ytioekhiaoajgfaa.Qy Go.Proofs.Ytioekhiaoajgfaa.Ev Go.Proofs.Ytioekhiaoajgfaa.Qp Go.Proofs.Ytioekhiaoajgfaa.Mv
set_option linter.unusedVariables false
theorem Idx.later {w w' : World} {n0 X M cn : Nat} {v : Value} {F : ByteArray → Option Value} {O : Nat → Prop} {ds : List Dc} {sz lo hi : Int} {f : ByteArray → List Po} (h : Idx w n0 X M cn v F O ds sz lo hi f) (hb : Below w.heap.size w w') : Idx w' n0 X M cn v F (fun b => n0 ≤ b ∧ b < w'.heap.size) ds sz lo hi f :=
  h.below hb (fun b hO => ⟨(h.lt b hO).1, Nat.lt_of_lt_of_le (h.lt b hO).2 hb.size⟩) (fun b hb => hb)
end Go.Proofs.Ytioekhiaoajgfaa.Mx
end

section
/- loggialaw14.word, awake: the walks. -/
namespace Go.Proofs.Ytioekhiaoajgfaa.Mx
open Go.RowKit Go.Proofs.Ytioekhiaoajgfaa Go.Proofs.Ytioekhiaoajgfaa.Ut Go.Proofs.Ytioekhiaoajgfaa.Tk Go.Proofs.Ytioekhiaoajgfaa.Qy Go.Proofs.Ytioekhiaoajgfaa.Ev Go.Proofs.Ytioekhiaoajgfaa.Qp Go.Proofs.Ytioekhiaoajgfaa.Mv
set_option linter.unusedVariables false
set_option linter.unusedSimpArgs false
set_option maxRecDepth 40000

/-- A new index. -/
def NewIx (w : World) (e : Ending) (w' : World) : Prop := ∃ X, e = .returned (.pointer (some ⟨X, 0, none⟩)) ∧ IxD w' w.heap.size X (fun b => w.heap.size ≤ b ∧ b < w'.heap.size) [] ∧ Below w.heap.size w w'
theorem new_ix (w : World) : Calls Try.prog 11 #[] w (NewIx w) := by
  refine (new_any w).mono ?_
  rintro e w' ⟨rfl, hb, hI⟩
  exact ⟨_, rfl, ⟨⟨_, _, _, _, hI, by omega⟩, fun d hd => (nomatch hd), by simp⟩, hb⟩
/-- An event of one text. -/
def WordP (w : World) (s : ByteArray) (e : Ending) (w' : World) : Prop := ∃ g, e = .returned (.agg #[.int .i64 0, .slice (some ⟨g, 0, none⟩) 1 1]) ∧ FlAt w' w'.heap.size (some ⟨g, 0, none⟩) 1 1 [(exMsg, s)] ∧ Below w.heap.size w w'
set_option maxHeartbeats 800000 in
theorem word_any (s : ByteArray) (w : World) (hs : s.size ≤ 1000) : Calls Try.prog 19 #[.string s] w (WordP w s) := by
  have hB1 : Below w.heap.size w ((w.alloc (.cells #[.int .i64 0, .slice (some ⟨w.heap.size + 1, 0, none⟩) 1 1] 41)).alloc (.cells #[.string ⟨#[109, 115, 103]⟩, .string s] 87)) := ((Below.refl _ _).alloc (Nat.le_refl _) _).alloc (by simp) _
  have hX1 := (Blk.new w 41 #[.int .i64 0, .slice (some ⟨w.heap.size + 1, 0, none⟩) 1 1]).alloc (.cells #[.string ⟨#[109, 115, 103]⟩, .string s] 87)
  have hF := Rg.new_row (k := 2) (w.alloc (.cells #[.int .i64 0, .slice (some ⟨w.heap.size + 1, 0, none⟩) 1 1] 41)) 87 [.string ⟨#[109, 115, 103]⟩, .string s] 1 rfl (by omega)
  have H := Lib.hid (And.intro hX1 (And.intro hF hB1))
  clear hX1 hF hB1
  go_enter Try.func19, Try.ntmps19
  go_wp2_with fail
  refine bodyPost_ret (results_cell rfl rfl (run_loadVar_row _ w.heap.size 41 41 #[.int .i64 0, .slice (some ⟨w.heap.size + 1, 0, none⟩) 1 1] (0, 0) _ H.out.1 Try.underlying41 rfl (by kernel_rfl))) rfl ⟨w.heap.size + 1, rfl, ⟨?_, rfl, by omega, Nat.le_refl _, fun f hf => ?_, fun h => (nomatch h)⟩, H.out.2.2⟩
  · have := H.out.2.1
    have e : (World.heap (w.alloc (.cells #[.int .i64 0, .slice (some ⟨w.heap.size + 1, 0, none⟩) 1 1] 41))).size = w.heap.size + 1 := World.size_alloc _ _
    rw [e] at this
    exact this
  · rw [List.mem_singleton] at hf
    subst hf
    exact ⟨show exMsg.size ≤ 140737488351232 by decide, by show s.size ≤ _; omega⟩
theorem chkB_len {seq : Int} {l : List Evn} (h : chkB seq l = 0) : l.length ≤ 64 := (chkB_ok h).2.1
set_option maxHeartbeats 1600000 in
theorem awake_any (w : World) : Calls Try.prog 6 #[] w fun e w' => e = .returned (.bool true) ∧ Below w.heap.size w w' := by
  have hp : postsT ((addD [] 1 exL).map (·.fs)) ⟨#[109, 115, 103, 58, 98]⟩ = [(0, [1]), (1, [0])] := ex_posts
  have HP := Lib.hid hp
  clear hp
  go_enter Try.func6, Try.ntmps6
  go_wp2_with fail
  refine (new_ix w).mono ?_
  rintro e w1 ⟨X, rfl, hI, hb1⟩
  have HI1 := Lib.hid hI
  have HB1 := Lib.hid hb1
  have C1 := Lib.hid (word_any ⟨#[97, 32, 98]⟩ w1 (by decide))
  clear hI hb1
  go_wp2_with fail
  refine C1.out.mono ?_
  rintro e w2 ⟨g1, rfl, hf1, hb2⟩
  have HF1 := Lib.hid hf1
  have HB2 := Lib.hid (HB1.out.trans (hb2.mono HB1.out.size))
  have HI2 := Lib.hid (HI1.out.below (O' := fun b => w.heap.size ≤ b ∧ b < w2.heap.size) hb2 (fun b hb => ⟨hb.1, Nat.lt_of_lt_of_le hb.2 hb2.size⟩) (fun b hb => hb))
  have C2 := Lib.hid (word_any ⟨#[98]⟩ w2 (by decide))
  clear hf1 hb2 HI1
  go_wp2_with fail
  refine C2.out.mono ?_
  rintro e w3 ⟨g2, rfl, hf2, hb3⟩
  have hb4 : Below w3.heap.size w3 (w3.alloc (.cells #[.int .i64 0, .slice (some ⟨g1, 0, none⟩) 1 1, .int .i64 0, .slice (some ⟨g2, 0, none⟩) 1 1] 41)) := (Below.refl _ _).alloc (Nat.le_refl _) _
  have hb34 := hb3.trans (hb4.mono hb3.size)
  have hrow := Rg.new_row (k := 2) w3 41 [.int .i64 0, .slice (some ⟨g1, 0, none⟩) 1 1, .int .i64 0, .slice (some ⟨g2, 0, none⟩) 1 1] 2 rfl (by omega)
  have hE : EvsAt (w3.alloc (.cells #[.int .i64 0, .slice (some ⟨g1, 0, none⟩) 1 1, .int .i64 0, .slice (some ⟨g2, 0, none⟩) 1 1] 41)) (World.heap (w3.alloc (.cells #[.int .i64 0, .slice (some ⟨g1, 0, none⟩) 1 1, .int .i64 0, .slice (some ⟨g2, 0, none⟩) 1 1] 41))).size (some ⟨w3.heap.size, 0, none⟩) 2 2 exL := by
    refine ⟨rfl, by omega, Nat.le_refl _, [[.int .i64 0, .slice (some ⟨g1, 0, none⟩) 1 1], [.int .i64 0, .slice (some ⟨g2, 0, none⟩) 1 1]], rfl, hrow, fun i h1 h2 => ?_⟩
    match i, h1, h2 with
    | 0, _, _ => exact ⟨_, _, _, rfl, HF1.out.grow hb34⟩
    | 1, _, _ => exact ⟨_, _, _, rfl, hf2.grow hb4⟩
    | i + 2, h1, _ => exact absurd h1 (by simp [exL])
  have HI4 := Lib.hid (HI2.out.below (O' := fun b => w.heap.size ≤ b ∧ b < (World.heap (w3.alloc (.cells #[.int .i64 0, .slice (some ⟨g1, 0, none⟩) 1 1, .int .i64 0, .slice (some ⟨g2, 0, none⟩) 1 1] 41))).size) hb34 (fun b hb => ⟨hb.1, Nat.lt_of_lt_of_le hb.2 hb34.size⟩) (fun b hb => hb))
  have HB4 := Lib.hid (HB2.out.trans (hb34.mono HB2.out.size))
  have C4 := Lib.hid (add_walk 1 (some ⟨w3.heap.size, 0, none⟩) 2 2 exL w.heap.size X _ [] _ HI4.out HB4.out.size hE)
  clear hf2 hb3 hb4 hb34 hrow hE HI2 HF1
  go_wp2_with fail
  refine C4.out.mono ?_
  rintro e w5 ⟨rfl, hI5, hch⟩
  rw [ex_add]
  have hb5 : Below w.heap.size w w5 := HB4.out.trans (hch.below HB4.out.size (fun b hb => hb.1))
  obtain ⟨M, cn, v, F, hIx, _⟩ := hI5.ex
  have HI5 := Lib.hid hIx
  have HB5 := Lib.hid hb5
  have C5 := Lib.hid (posts_any ⟨#[109, 115, 103, 58, 98]⟩ (by decide) hIx (by rw [HP.out]; decide))
  clear hI5 hch hIx hb5 HB4 C4 HI4
  go_wp2_with fail
  refine C5.out.mono ?_
  rw [HP.out]
  rintro e w6 ⟨u, rfl, hu, hb6⟩
  obtain ⟨xs, hx1, hx2, hx3⟩ := hu.ex
  obtain ⟨A, c, rfl, _⟩ := own_shape2 hx2
  have hr6 := PostRd.of hu rfl
  have HI6 := Lib.hid (HI5.out.later hb6)
  have HB6 := Lib.hid (HB5.out.trans (hb6.mono HB5.out.size))
  clear hx1 hx2 hx3 hu hb6 HI5 C5
  -- the row that is told
  have k1 : Below w6.heap.size w6 (w6.alloc (.cells #[.int .i64 1] 3)) := (Below.refl _ _).alloc (Nat.le_refl _) _
  have r1 := Rg.new_row (k := 1) w6 3 [.int .i64 1] 1 rfl (by omega)
  generalize hw7 : w6.alloc (.cells #[.int .i64 1] 3) = w7 at *
  have r1' : Reads w7 w7.heap.size 1 (some ⟨w6.heap.size, 0, none⟩) 1 [.int .i64 1] := r1
  have k2 : Below w7.heap.size w7 (w7.alloc (.cells #[.int .i64 0] 3)) := (Below.refl _ _).alloc (Nat.le_refl _) _
  have r2 := Rg.new_row (k := 1) w7 3 [.int .i64 0] 1 rfl (by omega)
  generalize hw8 : w7.alloc (.cells #[.int .i64 0] 3) = w8 at *
  have r2' : Reads w8 w8.heap.size 1 (some ⟨w7.heap.size, 0, none⟩) 1 [.int .i64 0] := r2
  have k3 : Below w8.heap.size w8 (w8.alloc (.cells #[.int .i64 0, .slice (some ⟨w6.heap.size, 0, none⟩) 1 1, .int .i64 1, .slice (some ⟨w7.heap.size, 0, none⟩) 1 1] 52)) := (Below.refl _ _).alloc (Nat.le_refl _) _
  have hbk := Blk.new w8 52 #[.int .i64 0, .slice (some ⟨w6.heap.size, 0, none⟩) 1 1, .int .i64 1, .slice (some ⟨w7.heap.size, 0, none⟩) 1 1]
  generalize hw9 : w8.alloc (.cells #[.int .i64 0, .slice (some ⟨w6.heap.size, 0, none⟩) 1 1, .int .i64 1, .slice (some ⟨w7.heap.size, 0, none⟩) 1 1] 52) = w9 at *
  have hr9 : PostRd w9 (some ⟨w8.heap.size, 0, none⟩) 2 [(0, [1]), (1, [0])] := by
    refine ⟨rfl, fun {i} h => ?_⟩
    have q0 := hbk.cell 0
    have q1 := hbk.cell 1
    have q2 := hbk.cell 2
    have q3 := hbk.cell 3
    simp only [List.getElem?_toArray, List.getElem?_cons_zero, List.getElem?_cons_succ] at q0 q1 q2 q3
    match i, h with
    | 0, _ => exact ⟨w8.heap.size, 0, _, 1, 1, rfl, hbk.lt, q0, q1, reads_gr k3 (reads_gr k2 r1'), rfl, by omega⟩
    | 1, _ => exact ⟨w8.heap.size, 0, _, 1, 1, rfl, hbk.lt, q2, q3, reads_gr k3 r2', rfl, by omega⟩
    | i + 2, h => exact absurd h (by simp)
  have k69 := (k1.trans (k2.mono k1.size)).trans (k3.mono (k1.trans (k2.mono k1.size)).size)
  have hr6' := hr6.grow k69
  have HI9 := Lib.hid (HI6.out.later k69)
  have HB9 := Lib.hid (HB6.out.trans (k69.mono HB6.out.size))
  have C9 := Lib.hid (sameP_eq A (some ⟨w8.heap.size, 0, none⟩) 2 c 2 [(0, [1]), (1, [0])] w9 hr6' hr9 (by omega))
  clear r1 r1' r2 r2' k1 k2 k3 hbk hr9 k69 hr6' hr6 HI6
  go_wp2_with fail
  clear hw7 hw8 hw9
  refine C9.out.mono ?_
  rintro e w10 ⟨rfl, hb10⟩
  have HI10 := Lib.hid (HI9.out.later hb10)
  have HB10 := Lib.hid (HB9.out.trans (hb10.mono HB9.out.size))
  have C10 := Lib.hid (len_any HI10.out)
  have C11 := Lib.hid (sizeX_any HI10.out)
  clear hb10 HI9 C9
  go_wp2_with fail
  refine C10.out.mono ?_
  rintro e w11 ⟨rfl, rfl⟩
  rw [ex_len]
  go_wp2_with fail
  refine C11.out.mono ?_
  rintro e w11 ⟨rfl, rfl⟩
  rw [ex_sz]
  go_wp2
  go_ret
  exact ⟨rfl, HB10.out⟩
end Go.Proofs.Ytioekhiaoajgfaa.Mx
end

section
/- The index and the document's, side by side. (No walk.) -/
namespace Go.Proofs.Ytioekhiaoajgfaa.Mx
open Go.RowKit Go.Proofs.Ytioekhiaoajgfaa Go.Proofs.Ytioekhiaoajgfaa.Ut Go.Proofs.Ytioekhiaoajgfaa.Tk Go.Proofs.Ytioekhiaoajgfaa.Qy Go.Proofs.Ytioekhiaoajgfaa.Ev Go.Proofs.Ytioekhiaoajgfaa.Qp Go.Proofs.Ytioekhiaoajgfaa.Mv
set_option linter.unusedVariables false
set_option linter.unusedSimpArgs false
set_option maxRecDepth 20000

theorem size_setC (w : World) (p : Addr) (u : Value) : (w.setCell p u).heap.size = w.heap.size := by simp [World.setCell]
theorem strip {w : World} {S : Nat → Prop} {k n p : Nat} {T : TypeId} {a : Option Addr} {b q : Nat} {F : Option Addr} {xs : List Value} (h : ReadsS w S k F n xs) (hp : Blk w p T #[.slice a b q]) (hk : 0 < k) (h0 : ∀ u, xs[0]? = some u → ∀ a b q, u ≠ .slice a b q) : ReadsS w (fun i => S i ∧ i ≠ p) k F n xs := by
  refine ⟨h.1, fun hn => ?_⟩
  obtain ⟨g, o, e, hs, hc⟩ := h.2 hn
  refine ⟨g, o, e, ⟨hs, fun e2 => ?_⟩, hc⟩
  subst e2
  have hl : 0 < xs.length := by rw [h.1]; exact Nat.mul_pos hn hk
  have h1 := hc 0 _ (List.getElem?_eq_getElem hl)
  rw [hp.cell] at h1
  rcases Nat.eq_zero_or_pos o with ho | ho
  · subst ho
    simp at h1
    exact h0 _ (List.getElem?_eq_getElem hl) a b q h1.symm
  · rw [Array.getElem?_eq_none (by simp; omega)] at h1
    cases h1
theorem dcs_strip {w : World} {S : Nat → Prop} {d : Dc} {v : List Value} {p : Nat} {T : TypeId} {a : Option Addr} {b q : Nat} (h : DcS w S d v) (hp : Blk w p T #[.slice a b q]) : DcS w (fun i => S i ∧ i ≠ p) d v := by
  obtain ⟨F, fn, fc, e, h1, h2⟩ := h.ex
  refine ⟨F, fn, fc, e, Mx.strip h1 hp (by omega) (fun u hu a b q e => ?_), h2⟩
  subst e
  have := fldC_one d.fs _ (List.mem_of_getElem? hu)
  cases hd : d.fs with
  | nil => rw [hd] at hu; simp [fldC] at hu
  | cons f fs => rw [hd] at hu; simp [fldC] at hu
/-- A cell of a variable that holds the row is written anew. -/
theorem RIx.write {w : World} {Rr : Nat → Prop} {B : Nat} {A : Option Addr} {n c : Nat} {ds : List Dc} {p : Nat} {T : TypeId} {a : Option Addr} {b q : Nat} (h : RIx w Rr B A n c ds) (hp : Blk w p T #[.slice a b q]) (hB : B ≤ p) (u : Value) : RIx (w.setCell ⟨p, 0, none⟩ u) Rr B A n c ds := by
  have kp : ∀ i, i ≠ p → (w.setCell ⟨p, 0, none⟩ u).heap[i]? = w.heap[i]? := fun i hi => Below.heap_setCell _ ⟨p, 0, none⟩ _ i hi
  obtain ⟨vss, h1, h2, h3⟩ := h.rd.ex
  refine ⟨⟨h.rd.ln, vss, h1, (Mx.strip h2 hp (by omega) (fun u hu a b q e => ?_)).same (fun b hb => ⟨hb.1, kp b hb.2⟩), fun i x y => ((dcs_strip (h3 i x y) hp).same (fun b hb => ⟨hb.1, kp b hb.2⟩))⟩, h.cap, h.nl, fun b hb => by rw [size_setC]; exact h.lt b hb, by rw [size_setC]; exact h.bw⟩
  subst e
  cases hd : vss with
  | nil => rw [hd] at hu; simp at hu
  | cons x xs =>
    have hl := h.rd.ln
    have hx := (h3 0 (by rw [hl, ← h1, hd]; simp) (by rw [hd]; simp)).ex
    obtain ⟨F, fn, fc, e, _⟩ := hx
    simp only [hd, List.getElem_cons_zero] at e
    rw [hd, e] at hu
    simp at hu
theorem tg_of_blk {w : World} {p : Nat} {T : TypeId} {cs : Array Value} (h : Blk w p T cs) : Tg w T p := tg_blk h
theorem IxD.write {w : World} {n0 X : Nat} {O : Nat → Prop} {ds : List Dc} {p : Nat} {cs : Array Value} (h : IxD w n0 X O ds) (hp : Blk w p 30 cs) (hO : ¬ O p) (u : Value) : IxD (w.setCell ⟨p, 0, none⟩ u) n0 X O ds := by
  obtain ⟨M, cn, v, F, h1, h2⟩ := h.ex
  refine ⟨⟨M, cn, v, F, h1.turn (grownBy_setC w p 0 u) (fun b hb => hb) (fun b hb => by rw [size_setC]; exact h1.lt b hb) (fun e => hO (e ▸ h1.oX)) (fun e => hO (e ▸ h1.oM)) (fun b hb e => hO (e ▸ h1.oV b hb)) (fun e => absurd ((tg_blk hp).one e) (by decide)) (fun e => absurd ((tg_blk hp).one e) (by decide)) (fun s u b hs hb e => hO (e ▸ h1.oF s u b hs hb)), h2⟩, h.ok, h.few⟩
theorem IxD.lt {w : World} {n0 X : Nat} {O : Nat → Prop} {ds : List Dc} (h : IxD w n0 X O ds) : ∀ b, O b → n0 ≤ b ∧ b < w.heap.size := by
  obtain ⟨M, cn, v, F, h1, h2⟩ := h.ex
  exact h1.lt
/-- The index in block X; the document's row in a variable, block R0. -/
structure Pair (w : World) (n0 B X R0 : Nat) (O Rr : Nat → Prop) (A : Option Addr) (n c : Nat) (ds : List Dc) : Prop where
  ix : IxD w n0 X O ds
  rx : RIx w Rr B A n c ds
  dis : ∀ b, Rr b → ¬ O b
  blk : Blk w R0 30 #[.slice A n c]
  nO : ¬ O R0
  hB : B ≤ n0
  hn : n0 ≤ w.heap.size
  hR : n0 ≤ R0
section
variable {w w' w4 w6 : World} {n0 B X R0 : Nat} {O Rr : Nat → Prop} {A : Option Addr} {n c : Nat} {ds : List Dc}
theorem Pair.start {w2 : World} (h : IxD w2 n0 X (fun b => n0 ≤ b ∧ b < w2.heap.size) []) (hB : B ≤ n0) (hn : n0 ≤ w2.heap.size) : Pair (w2.alloc (.cells #[.slice none 0 0] 30)) n0 B X w2.heap.size (fun b => n0 ≤ b ∧ b < w2.heap.size) (fun _ => False) none 0 0 [] := by
  have hb : Below w2.heap.size w2 (w2.alloc (.cells #[.slice none 0 0] 30)) := (Below.refl _ _).alloc (Nat.le_refl _) _
  have hs := hb.size
  exact ⟨h.below hb (fun b hb => hb) (fun b hb => ⟨hb.1, by omega⟩), ⟨DocsS.nil, Nat.le_refl _, fun _ => rfl, fun b hb => hb.elim, by omega⟩, fun b hb => hb.elim, Blk.new w2 _ _, fun hO => Nat.lt_irrefl _ hO.2, hB, by omega, hn⟩
theorem Pair.below (h : Pair w n0 B X R0 O Rr A n c ds) (hb : Below w.heap.size w w') : Pair w' n0 B X R0 O Rr A n c ds :=
  ⟨h.ix.below hb (fun b hb => hb) (fun b hO => ⟨(h.ix.lt b hO).1, Nat.lt_of_lt_of_le (h.ix.lt b hO).2 hb.size⟩), h.rx.below hb (fun b hb => hb) (fun b hr => Nat.lt_of_lt_of_le (h.rx.lt b hr) hb.size), h.dis, h.blk.below hb h.blk.lt, h.nO, h.hB, Nat.le_trans h.hn hb.size, h.hR⟩
/-- Behind the index' own Add. -/
theorem Pair.add (h : Pair w n0 B X R0 O Rr A n c ds) {ds' : List Dc} (hI : IxD w' n0 X (Ow O w w') ds') (hc : Chg O w w') : RIx w' Rr B A n c ds ∧ Blk w' R0 30 #[.slice A n c] ∧ Below n0 w w' ∧ (∀ b, Rr b → ¬ Ow O w w' b) ∧ ¬ Ow O w w' R0 := by
  refine ⟨⟨h.rx.rd.same (fun b hr => ⟨hr, hc.block b (h.rx.lt b hr) (h.dis b hr)⟩) (fun b hr => ⟨hr, ?_⟩), h.rx.cap, h.rx.nl, fun b hr => Nat.lt_of_lt_of_le (h.rx.lt b hr) hc.size, Nat.le_trans h.rx.bw hc.size⟩, (hc.block R0 h.blk.lt h.nO).trans h.blk, hc.below h.hn (fun b hb => (h.ix.lt b hb).1), fun b hr hO => ?_, fun hO => ?_⟩
  · rcases hr with hr | hr
    · exact hc.block b (h.rx.lt b hr) (h.dis b hr)
    · have h1 := h.hB
      have h2 := h.hn
      exact hc.block b (by omega) (fun hO => by have := (h.ix.lt b hO).1; omega)
  · rcases hO with hO | hO
    · exact h.dis b hr hO
    · have := h.rx.lt b hr; omega
  · rcases hO with hO | hO
    · exact h.nO hO
    · have := h.blk.lt; omega
/-- Behind the document's Add, and the store. -/
theorem Pair.put {O4 : Nat → Prop} {A' : Option Addr} {n' c' : Nat} {ds' : List Dc} {a : Option Addr} {b q : Nat} (hI : IxD w4 n0 X O4 ds') (hb : Below w4.heap.size w4 w6) (hR : RIx w6 (fun b => Rr b ∨ (w4.heap.size ≤ b ∧ b < w6.heap.size)) B A' n' c' ds')
    (hd : ∀ b, Rr b → ¬ O4 b) (hk : Blk w4 R0 30 #[.slice a b q]) (hO : ¬ O4 R0) (hB : B ≤ n0) (hn : n0 ≤ w4.heap.size) (hR0 : n0 ≤ R0) :
    Pair (w6.setCell ⟨R0, 0, none⟩ (.slice A' n' c')) n0 B X R0 O4 (fun b => Rr b ∨ (w4.heap.size ≤ b ∧ b < w6.heap.size)) A' n' c' ds' := by
  have hk6 := hk.below hb hk.lt
  refine ⟨(hI.below hb (fun b hb => hb) (fun b hO => ⟨(hI.lt b hO).1, Nat.lt_of_lt_of_le (hI.lt b hO).2 hb.size⟩)).write hk6 hO _, hR.write hk6 (Nat.le_trans hB hR0) _, fun b hr hO => ?_, ?_, hO, hB, by rw [size_setC]; exact Nat.le_trans hn hb.size, hR0⟩
  · rcases hr with hr | hr
    · exact hd b hr hO
    · have := (hI.lt b hO).2; omega
  · have := hk6.set_ 0 (.slice A' n' c')
    simpa using this
end
end Go.Proofs.Ytioekhiaoajgfaa.Mx
end

section
/- loggiaref14.Size, Times, Seqs: the walks (seat j). -/
namespace Go.Proofs.Ytioekhiaoajgfaa.Mx
open Go.RowKit Go.Proofs.Ytioekhiaoajgfaa Go.Proofs.Ytioekhiaoajgfaa.Ut Go.Proofs.Ytioekhiaoajgfaa.Tk Go.Proofs.Ytioekhiaoajgfaa.Qy Go.Proofs.Ytioekhiaoajgfaa.Ev Go.Proofs.Ytioekhiaoajgfaa.Qp Go.Proofs.Ytioekhiaoajgfaa.Mv
set_option linter.unusedVariables false
set_option linter.unusedSimpArgs false
set_option maxRecDepth 40000

theorem rseqs_any (A : Option Addr) (n c : Nat) (ds : List Dc) (w : World) (h : DocRd w A n ds) (hn : n ≤ 65536) :
    Calls Try.prog 35 #[.agg #[.slice A n c]] w fun e w' => e = .returned (seqsV ds) ∧ Below w.heap.size w w' := by
  have hB1 : Below w.heap.size w (w.alloc (.cells #[.slice A n c] 30)) := (Below.refl _ _).alloc (Nat.le_refl _) _
  have hX := Blk.new w 30 #[.slice A n c]
  have h1 := h.grow hB1
  have HB1 := Lib.hid hB1
  have x0 := hX.cell 0
  simp only [List.getElem?_toArray, List.getElem?_cons_zero, List.getElem?_cons_succ] at x0
  have hln := h.ln
  clear hX h hB1
  go_enter Try.func35, Try.ntmps35
  by_cases h0 : n = 0
  · subst h0
    have hds : ds = [] := List.length_eq_zero_iff.1 hln
    subst hds
    have hz : ((0 : Int) == 0) = true := rfl
    clear hln h1
    go_wp2
    go_ret2
    exact ⟨rfl, HB1.out⟩
  · have hp : 0 < ds.length := by omega
    have hz : ((n : Int) == 0) = false := beq_eq_false_iff_ne.2 (by omega)
    have hzn : (n == 0) = false := beq_eq_false_iff_ne.2 (by omega)
    obtain ⟨g, o, Fa, fn, fc, e1, hg, q0, qr⟩ := h1.at_ hp
    obtain ⟨g', o', Fa', fn', fc', e2, hg', r0, rr⟩ := h1.at_ (i := ds.length - 1) (by omega)
    clear qr rr
    rw [e1] at e2
    injection e2 with e2
    injection e2 with e2 e3
    subst e2 e1 e3
    have hs : seqsV ds = .tuple #[.int .i64 ds[0].seq, .int .i64 ds[ds.length - 1].seq] := by
      unfold seqsV
      rw [List.head?_eq_getElem?, List.getLast?_eq_getElem?, List.getElem?_eq_getElem hp, List.getElem?_eq_getElem (by omega)]
      rfl
    have HS := Lib.hid hs
    generalize ds[0].seq = s0 at *
    generalize ds[ds.length - 1].seq = s1 at *
    rw [hln] at r0
    have hd1 : (n : Int) - 1 = ((n - 1 : Nat) : Int) := by omega
    have hm1 : n - 1 < n := by omega
    have hpz : (0 : Int) < (n : Int) := by omega
    clear hs h0 h1 hp hln
    generalize hm' : n - 1 = m1 at *
    clear hm'
    have hd2 : IntKind.i64.wrap (m1 : Int) = (m1 : Int) := by rw [IntKind.wrap_i64]; omega
    have hd3 : (0 : Int) ≤ (m1 : Int) := by omega
    have hd4 : (m1 : Int) < (n : Int) := by omega
    have q0' : (w.alloc (.cells #[.slice (some ⟨g, o, none⟩) n c] 30)).cell? ⟨g, o, none⟩ = some (.int .i64 s0) := by simpa using q0
    clear q0
    go_wp2_with fail
    go_quiet (fail)
    go_wp2
    go_ret2
    exact ⟨congrArg Ending.returned HS.out.symm, HB1.out.trans (below_dN (Below.refl _ _) nq)⟩
set_option maxHeartbeats 1600000 in
theorem rsizeX_any (A : Option Addr) (n c : Nat) (ds : List Dc) (w : World) (h : DocRd w A n ds) (hcs : ∀ {i : Nat} (hi : i < ds.length) (Fa : Option Addr) (fn fc : Nat), (∃ b o, A = some ⟨b, o, none⟩ ∧ w.cell? ⟨b, o + i * 3 + 2, none⟩ = some (.slice Fa fn fc)) → FlAt w w.heap.size Fa fn fc ds[i].fs) (hok : Dok ds) (hn : n ≤ 65536) :
    Calls Try.prog 38 #[.agg #[.slice A n c]] w fun e w' => e = .returned (.int .i64 (szD ds : Nat)) ∧ Below w.heap.size w w' := by
  have hB1 : Below w.heap.size w (w.alloc (.cells #[.slice A n c] 30)) := (Below.refl _ _).alloc (Nat.le_refl _) _
  have hX := Blk.new w 30 #[.slice A n c]
  have HB1 := Lib.hid hB1
  have HX := Lib.hid hX
  have H := Lib.hid h
  have HC : Hid (∀ wx, Below w.heap.size w wx → ∀ {i : Nat} (hi : i < ds.length), ∃ b o Fa fn fc, A = some ⟨b, o, none⟩ ∧ wx.cell? ⟨b, o + i * 3 + 1, none⟩ = some (.int .i64 ds[i].at_) ∧ wx.cell? ⟨b, o + i * 3 + 2, none⟩ = some (.slice Fa fn fc) ∧ FlAt wx wx.heap.size Fa fn fc ds[i].fs) := Lib.hid (fun wx hb i hi => by
    obtain ⟨b, o, Fa, fn, fc, e, hg, q0, q1, q2, _⟩ := h.at_ hi
    exact ⟨b, o, Fa, fn, fc, e, (hb.cell hg).trans q1, (hb.cell hg).trans q2, (hcs hi Fa fn fc ⟨b, o, e, q2⟩).grow hb⟩)
  have OK := Lib.hid hok
  have hln := h.ln
  have hl1 : ds.length ≤ n := by omega
  have hl2 : n ≤ ds.length := by omega
  clear hX h hB1 hcs hok hln
  go_enter Try.func38, Try.ntmps38
  go_wp2
  go_loopw [3, 4] (fun s i wr => ∃ k : Nat, k ≤ ds.length ∧ i = .int .i64 (k : Nat) ∧ s = .int .i64 (szD (ds.take k) : Nat) ∧ Hid (Below w.heap.size w wr) ∧ Hid (Blk wr w.heap.size 30 #[.slice A n c])) (fun _ i _ => ds.length - (intOf i).toNat)
  case atStart => exact ⟨0, Nat.zero_le _, rfl, rfl, HB1, HX⟩
  case round =>
    obtain ⟨k, hk, rfl, rfl, hB, hX⟩ := hrel
    have x0 := hX.out.cell 0
    simp only [List.getElem?_toArray, List.getElem?_cons_zero, List.getElem?_cons_succ] at x0
    by_cases hlt : k < ds.length
    · have hkz : (k : Int) < (n : Int) := by omega
      have hk0 : (0 : Int) ≤ (k : Int) := by omega
      obtain ⟨b, o, Fa, fn, fc, rfl, q1, q2, hfl⟩ := HC.out wr hB.out hlt
      have htk : ds.take (k + 1) = ds.take k ++ [ds[k]] := List.take_succ_eq_append_getElem hlt
      have hsz : szD (ds.take (k + 1)) = szD (ds.take k) + szE ds[k].fs := by rw [htk, szD_snoc]
      have hs1 := szD_le (ds := ds.take k) (fun d hd => OK.out d (List.mem_of_mem_take hd))
      have hs2 := szE_le (OK.out _ (List.getElem_mem hlt)).1
      rw [List.length_take] at hs1
      have C1 := Lib.hid (rsize_any ds[k].at_ Fa fn fc ds[k].fs wr hfl (OK.out _ (List.getElem_mem hlt)).1)
      have HSZ := Lib.hid hsz
      generalize hS1 : szD (ds.take k) = s1 at *
      generalize hS2 : szE ds[k].fs = s2 at *
      generalize ds[k].at_ = a1 at *
      have hw : IntKind.i64.wrap ((s1 : Int) + (s2 : Int)) = ((s1 + s2 : Nat) : Int) := by rw [IntKind.wrap_i64]; omega
      clear htk hsz hfl hS1 hS2
      go_wp2_with fail
      refine C1.out.mono ?_
      rintro e w2 ⟨rfl, hb2⟩
      have HB2 := Lib.hid (hB.out.trans (hb2.mono hB.out.size))
      have HX2 := Lib.hid (hX.out.below hb2 hX.out.lt)
      clear hb2
      go_wp2_with fail
      go_roundw
      case rel => exact ⟨k + 1, by omega, by go_num, by rw [HSZ.out]; go_num, HB2, HX2⟩
      case measure => simp [intOf]; omega
    · obtain rfl : k = ds.length := by omega
      rw [List.take_length]
      go_wp2
      go_ret
      exact ⟨rfl, hB.out⟩
set_option maxHeartbeats 1600000 in
theorem rtimes_any (A : Option Addr) (n c : Nat) (ds : List Dc) (w : World) (h : DocRd w A n ds) (hn : n ≤ 65536) :
    Calls Try.prog 33 #[.agg #[.slice A n c]] w fun e w' => e = .returned (timesV ds (loD ds) (hiD ds)) ∧ Below w.heap.size w w' := by
  have hB1 : Below w.heap.size w (w.alloc (.cells #[.slice A n c] 30)) := (Below.refl _ _).alloc (Nat.le_refl _) _
  have hX := Blk.new w 30 #[.slice A n c]
  have HB1 := Lib.hid hB1
  have HX := Lib.hid hX
  have x0 := hX.cell 0
  simp only [List.getElem?_toArray, List.getElem?_cons_zero, List.getElem?_cons_succ] at x0
  have HC : Hid (∀ wx, Below w.heap.size w wx → ∀ {i : Nat} (hi : i < ds.length), ∃ b o, A = some ⟨b, o, none⟩ ∧ wx.cell? ⟨b, o + i * 3 + 1, none⟩ = some (.int .i64 ds[i].at_)) := Lib.hid (fun wx hb i hi => by
    obtain ⟨b, o, Fa, fn, fc, e, hg, q0, q1, q2, _⟩ := h.at_ hi
    exact ⟨b, o, e, (hb.cell hg).trans q1⟩)
  have hln := h.ln
  clear hX h hB1
  go_enter Try.func33, Try.ntmps33
  by_cases h0 : n = 0
  · subst h0
    have hds : ds = [] := List.length_eq_zero_iff.1 hln
    subst hds
    have hz : ((0 : Int) == 0) = true := rfl
    clear hln
    go_wp2
    go_ret3
    exact ⟨rfl, HB1.out⟩
  · have hz : ((n : Int) == 0) = false := beq_eq_false_iff_ne.2 (by omega)
    have hzn : (n == 0) = false := beq_eq_false_iff_ne.2 (by omega)
    have hpz : (0 : Int) < (n : Int) := by omega
    obtain ⟨b, o, rfl, q1⟩ := HC.out _ HB1.out (i := 0) (by omega)
    have ht1 : loD (ds.take 1) = ds[0].at_ ∧ hiD (ds.take 1) = ds[0].at_ := by
      cases ds with
      | nil => simp at hln; omega
      | cons d l => exact ⟨rfl, rfl⟩
    have HT1 := Lib.hid ht1
    have HLN := Lib.hid hln
    have hl1 : ds.length ≤ n := by omega
    have hl2 : n ≤ ds.length := by omega
    have H0 : Hid (timesV ds (loD ds) (hiD ds) = .tuple #[.int .i64 (loD ds), .int .i64 (hiD ds), .bool true]) := Lib.hid (by
      have hne : ds ≠ [] := fun e => by rw [e] at hln; simp at hln; omega
      unfold timesV; rw [if_neg hne, if_neg hne, decide_eq_true hne])
    have q1' : (w.alloc (.cells #[.slice (some ⟨b, o, none⟩) n c] 30)).cell? ⟨b, o + 1, none⟩ = some (.int .i64 ds[0].at_) := by simpa using q1
    generalize ds[0].at_ = a0 at *
    clear q1 ht1 hln h0
    go_wp2_with fail
    go_quiet (fail)
    go_wp2_with fail
    have HBq := Lib.hid (HB1.out.trans (below_dN (Below.refl _ _) nq))
    have HXq : Hid (Blk ((w.alloc (.cells #[.slice (some ⟨b, o, none⟩) n c] 30)).drewN nq) w.heap.size 30 #[.slice (some ⟨b, o, none⟩) n c]) := Lib.hid (HX.out.drewN nq)
    clear q1' x0
    go_loopw [5, 6, 7] (fun lo hi i wr => ∃ k : Nat, 1 ≤ k ∧ k ≤ ds.length ∧ i = .int .i64 (k : Nat) ∧ lo = .int .i64 (loD (ds.take k)) ∧ hi = .int .i64 (hiD (ds.take k)) ∧ Hid (Below w.heap.size w wr) ∧ Hid (Blk wr w.heap.size 30 #[.slice (some ⟨b, o, none⟩) n c])) (fun _ _ i _ => ds.length - (intOf i).toNat)
    case atStart => exact ⟨1, Nat.le_refl _, by omega, rfl, by rw [HT1.out.1], by rw [HT1.out.2], HBq, HXq⟩
    case round =>
      obtain ⟨k, hk1, hk, rfl, rfl, rfl, hB, hX⟩ := hrel
      have x0 := hX.out.cell 0
      simp only [List.getElem?_toArray, List.getElem?_cons_zero, List.getElem?_cons_succ] at x0
      by_cases hlt : k < ds.length
      · have hkz : (k : Int) < (n : Int) := by omega
        have hk0 : (0 : Int) ≤ (k : Int) := by omega
        obtain ⟨b', o', e, q1⟩ := HC.out wr hB.out hlt
        injection e with e
        injection e with e1 e2
        subst e1 e2
        have htk : ds.take (k + 1) = ds.take k ++ [ds[k]] := List.take_succ_eq_append_getElem hlt
        have hne : ds.take k ≠ [] := fun e => by
          have := congrArg List.length e
          rw [List.length_take] at this
          simp only [List.length_nil] at this
          omega
        have hlo : loD (ds.take (k + 1)) = min (loD (ds.take k)) ds[k].at_ := by rw [htk, loD_snoc, if_neg hne]
        have hhi : hiD (ds.take (k + 1)) = max (hiD (ds.take k)) ds[k].at_ := by rw [htk, hiD_snoc, if_neg hne]
        have HLO := Lib.hid hlo
        have HHI := Lib.hid hhi
        clear htk hne hlo hhi
        generalize ds[k].at_ = a1 at *
        go_wp2_with fail
        go_roundw
        case rel => exact ⟨k + 1, by omega, by omega, by go_num, by rw [HLO.out], by rw [HHI.out], hB, hX⟩
        case measure => simp [intOf]; omega
      · obtain rfl : k = ds.length := by omega
        rw [List.take_length]
        go_wp2
        go_ret3
        exact ⟨congrArg Ending.returned H0.out.symm, hB.out⟩
end Go.Proofs.Ytioekhiaoajgfaa.Mx
end
