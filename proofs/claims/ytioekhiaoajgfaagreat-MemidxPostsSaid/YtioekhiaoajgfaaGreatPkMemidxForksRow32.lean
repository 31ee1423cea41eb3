/- loggialaw14.word, awake: the walks. -/
import Derived.Maps.OwnOps
import Derived.ChangeMaps5
import Derived.Test.YtioekhiaoajgfaaGreatPkMemidxForksRow30
import Derived.Test.YtioekhiaoajgfaaGreatMxAPk
import Derived.Test.YtioekhiaoajgfaaGreatPkMemidxForksRow27
import Derived.Test.YtioekhiaoajgfaaGreatMxGPk
import Derived.Test.YtioekhiaoajgfaaGreatPkMemidxForksRow26
import Derived.Test.YtioekhiaoajgfaaGreatPkMemidxForksRow14
import Derived.Test.YtioekhiaoajgfaaGreatPkMemidxForksRow25
section
namespace Go.Proofs.YtioekhiaoajgfaaGreat.Mx
open Go.RowKit Go.Proofs.YtioekhiaoajgfaaGreat Go.Proofs.YtioekhiaoajgfaaGreat.Ut Go.Proofs.YtioekhiaoajgfaaGreat.Tk Go.Proofs.YtioekhiaoajgfaaGreat.Qy Go.Proofs.YtioekhiaoajgfaaGreat.Ev Go.Proofs.YtioekhiaoajgfaaGreat.Qp Go.Proofs.YtioekhiaoajgfaaGreat.Mv
set_option linter.unusedVariables false
set_option linter.unusedSimpArgs false
set_option maxRecDepth 40000

/-- A new index. -/
def NewIx (w : World) (e : Ending) (w' : World) : Prop := ∃ X, e = .returned (.pointer (some ⟨X, 0, none⟩)) ∧ IxD w' w.heap.size X (fun b => w.heap.size ≤ b ∧ b < w'.heap.size) [] ∧ Below w.heap.size w w'
theorem new_ix (w : World) : Calls Tryz.prog 29 #[] w (NewIx w) := by
  refine (new_any w).mono ?_
  rintro e w' ⟨rfl, hb, hI⟩
  exact ⟨_, rfl, ⟨⟨_, _, _, _, hI, by omega⟩, fun d hd => (nomatch hd), by simp⟩, hb⟩
/-- An event of one text. -/
def WordP (w : World) (s : ByteArray) (e : Ending) (w' : World) : Prop := ∃ g, e = .returned (.agg #[.int .i64 0, .slice (some ⟨g, 0, none⟩) 1 1]) ∧ FlAt w' w'.heap.size (some ⟨g, 0, none⟩) 1 1 [(exMsg, s)] ∧ Below w.heap.size w w'
set_option maxHeartbeats 800000 in
theorem word_any (s : ByteArray) (w : World) (hs : s.size ≤ 1000) : Calls Tryz.prog 19 #[.string s] w (WordP w s) := by
  have hB1 : Below w.heap.size w ((w.alloc (.cells #[.int .i64 0, .slice (some ⟨w.heap.size + 1, 0, none⟩) 1 1] 51)).alloc (.cells #[.string ⟨#[109, 115, 103]⟩, .string s] 97)) := ((Below.refl _ _).alloc (Nat.le_refl _) _).alloc (by simp) _
  have hX1 := (Blk.new w 51 #[.int .i64 0, .slice (some ⟨w.heap.size + 1, 0, none⟩) 1 1]).alloc (.cells #[.string ⟨#[109, 115, 103]⟩, .string s] 97)
  have hF := Rg.new_row (k := 2) (w.alloc (.cells #[.int .i64 0, .slice (some ⟨w.heap.size + 1, 0, none⟩) 1 1] 51)) 97 [.string ⟨#[109, 115, 103]⟩, .string s] 1 rfl (by omega)
  have H := Lib.hid (And.intro hX1 (And.intro hF hB1))
  clear hX1 hF hB1
  go_enter Tryz.func19, Tryz.ntmps19
  go_wp2_with fail
  refine bodyPost_ret (results_cell rfl rfl (run_loadVar_row _ w.heap.size 51 51 #[.int .i64 0, .slice (some ⟨w.heap.size + 1, 0, none⟩) 1 1] (0, 0) _ H.out.1 Tryz.underlying51 rfl (by kernel_rfl))) rfl ⟨w.heap.size + 1, rfl, ⟨?_, rfl, by omega, Nat.le_refl _, fun f hf => ?_, fun h => (nomatch h)⟩, H.out.2.2⟩
  · have := H.out.2.1
    have e : (World.heap (w.alloc (.cells #[.int .i64 0, .slice (some ⟨w.heap.size + 1, 0, none⟩) 1 1] 51))).size = w.heap.size + 1 := World.size_alloc _ _
    rw [e] at this
    exact this
  · rw [List.mem_singleton] at hf
    subst hf
    exact ⟨show exMsg.size ≤ 140737488351232 by decide, by show s.size ≤ _; omega⟩
theorem chkB_len {seq : Int} {l : List Evn} (h : chkB seq l = 0) : l.length ≤ 64 := (chkB_ok h).2.1
set_option maxHeartbeats 1600000 in
theorem awake_any (w : World) : Calls Tryz.prog 6 #[] w fun e w' => e = .returned (.bool true) ∧ Below w.heap.size w w' := by
  have hp : postsT ((addD [] 1 exL).map (·.fs)) ⟨#[109, 115, 103, 58, 98]⟩ = [(0, [1]), (1, [0])] := ex_posts
  have HP := Lib.hid hp
  clear hp
  go_enter Tryz.func6, Tryz.ntmps6
  go_wp2_with fail
  refine (new_ix w).mono ?_
  rintro e w1 ⟨X, rfl, hI, hb1⟩
  have HI1 := Lib.hid hI
  have HB1 := Lib.hid hb1
  have C1 := Lib.hid (word_any ⟨#[97, 32, 98]⟩ w1 (by decide))
  clear hI hb1
  go_wp2_with fail
  refine C1.out.mono ?_
  rintro e w2 ⟨g1, rfl, hf1, hb2⟩
  have HF1 := Lib.hid hf1
  have HB2 := Lib.hid (HB1.out.trans (hb2.mono HB1.out.size))
  have HI2 := Lib.hid (HI1.out.below (O' := fun b => w.heap.size ≤ b ∧ b < w2.heap.size) hb2 (fun b hb => ⟨hb.1, Nat.lt_of_lt_of_le hb.2 hb2.size⟩) (fun b hb => hb))
  have C2 := Lib.hid (word_any ⟨#[98]⟩ w2 (by decide))
  clear hf1 hb2 HI1
  go_wp2_with fail
  refine C2.out.mono ?_
  rintro e w3 ⟨g2, rfl, hf2, hb3⟩
  have hb4 : Below w3.heap.size w3 (w3.alloc (.cells #[.int .i64 0, .slice (some ⟨g1, 0, none⟩) 1 1, .int .i64 0, .slice (some ⟨g2, 0, none⟩) 1 1] 51)) := (Below.refl _ _).alloc (Nat.le_refl _) _
  have hb34 := hb3.trans (hb4.mono hb3.size)
  have hrow := Rg.new_row (k := 2) w3 51 [.int .i64 0, .slice (some ⟨g1, 0, none⟩) 1 1, .int .i64 0, .slice (some ⟨g2, 0, none⟩) 1 1] 2 rfl (by omega)
  have hE : EvsAt (w3.alloc (.cells #[.int .i64 0, .slice (some ⟨g1, 0, none⟩) 1 1, .int .i64 0, .slice (some ⟨g2, 0, none⟩) 1 1] 51)) (World.heap (w3.alloc (.cells #[.int .i64 0, .slice (some ⟨g1, 0, none⟩) 1 1, .int .i64 0, .slice (some ⟨g2, 0, none⟩) 1 1] 51))).size (some ⟨w3.heap.size, 0, none⟩) 2 2 exL := by
    refine ⟨rfl, by omega, Nat.le_refl _, [[.int .i64 0, .slice (some ⟨g1, 0, none⟩) 1 1], [.int .i64 0, .slice (some ⟨g2, 0, none⟩) 1 1]], rfl, hrow, fun i h1 h2 => ?_⟩
    match i, h1, h2 with
    | 0, _, _ => exact ⟨_, _, _, rfl, HF1.out.grow hb34⟩
    | 1, _, _ => exact ⟨_, _, _, rfl, hf2.grow hb4⟩
    | i + 2, h1, _ => exact absurd h1 (by simp [exL])
  have HI4 := Lib.hid (HI2.out.below (O' := fun b => w.heap.size ≤ b ∧ b < (World.heap (w3.alloc (.cells #[.int .i64 0, .slice (some ⟨g1, 0, none⟩) 1 1, .int .i64 0, .slice (some ⟨g2, 0, none⟩) 1 1] 51))).size) hb34 (fun b hb => ⟨hb.1, Nat.lt_of_lt_of_le hb.2 hb34.size⟩) (fun b hb => hb))
  have HB4 := Lib.hid (HB2.out.trans (hb34.mono HB2.out.size))
  have C4 := Lib.hid (add_walk 1 (some ⟨w3.heap.size, 0, none⟩) 2 2 exL w.heap.size X _ [] _ HI4.out HB4.out.size hE)
  clear hf2 hb3 hb4 hb34 hrow hE HI2 HF1
  go_wp2_with fail
  refine C4.out.mono ?_
  rintro e w5 ⟨rfl, hI5, hch⟩
  rw [ex_add]
  have hb5 : Below w.heap.size w w5 := HB4.out.trans (hch.below HB4.out.size (fun b hb => hb.1))
  obtain ⟨M, cn, v, F, hIx, _⟩ := hI5.ex
  have HI5 := Lib.hid hIx
  have HB5 := Lib.hid hb5
  have C5 := Lib.hid (posts_any ⟨#[109, 115, 103, 58, 98]⟩ (by decide) hIx (by rw [HP.out]; decide))
  clear hI5 hch hIx hb5 HB4 C4 HI4
  go_wp2_with fail
  refine C5.out.mono ?_
  rw [HP.out]
  rintro e w6 ⟨u, rfl, hu, hb6⟩
  obtain ⟨xs, hx1, hx2, hx3⟩ := hu.ex
  obtain ⟨A, c, rfl, _⟩ := own_shape2 hx2
  have hr6 := PostRd.of hu rfl
  have HI6 := Lib.hid (HI5.out.later hb6)
  have HB6 := Lib.hid (HB5.out.trans (hb6.mono HB5.out.size))
  clear hx1 hx2 hx3 hu hb6 HI5 C5
  -- the row that is told
  have k1 : Below w6.heap.size w6 (w6.alloc (.cells #[.int .i64 1] 3)) := (Below.refl _ _).alloc (Nat.le_refl _) _
  have r1 := Rg.new_row (k := 1) w6 3 [.int .i64 1] 1 rfl (by omega)
  generalize hw7 : w6.alloc (.cells #[.int .i64 1] 3) = w7 at *
  have r1' : Reads w7 w7.heap.size 1 (some ⟨w6.heap.size, 0, none⟩) 1 [.int .i64 1] := r1
  have k2 : Below w7.heap.size w7 (w7.alloc (.cells #[.int .i64 0] 3)) := (Below.refl _ _).alloc (Nat.le_refl _) _
  have r2 := Rg.new_row (k := 1) w7 3 [.int .i64 0] 1 rfl (by omega)
  generalize hw8 : w7.alloc (.cells #[.int .i64 0] 3) = w8 at *
  have r2' : Reads w8 w8.heap.size 1 (some ⟨w7.heap.size, 0, none⟩) 1 [.int .i64 0] := r2
  have k3 : Below w8.heap.size w8 (w8.alloc (.cells #[.int .i64 0, .slice (some ⟨w6.heap.size, 0, none⟩) 1 1, .int .i64 1, .slice (some ⟨w7.heap.size, 0, none⟩) 1 1] 74)) := (Below.refl _ _).alloc (Nat.le_refl _) _
  have hbk := Blk.new w8 74 #[.int .i64 0, .slice (some ⟨w6.heap.size, 0, none⟩) 1 1, .int .i64 1, .slice (some ⟨w7.heap.size, 0, none⟩) 1 1]
  generalize hw9 : w8.alloc (.cells #[.int .i64 0, .slice (some ⟨w6.heap.size, 0, none⟩) 1 1, .int .i64 1, .slice (some ⟨w7.heap.size, 0, none⟩) 1 1] 74) = w9 at *
  have hr9 : PostRd w9 (some ⟨w8.heap.size, 0, none⟩) 2 [(0, [1]), (1, [0])] := by
    refine ⟨rfl, fun {i} h => ?_⟩
    have q0 := hbk.cell 0
    have q1 := hbk.cell 1
    have q2 := hbk.cell 2
    have q3 := hbk.cell 3
    simp only [List.getElem?_toArray, List.getElem?_cons_zero, List.getElem?_cons_succ] at q0 q1 q2 q3
    match i, h with
    | 0, _ => exact ⟨w8.heap.size, 0, _, 1, 1, rfl, hbk.lt, q0, q1, reads_gr k3 (reads_gr k2 r1'), rfl, by omega⟩
    | 1, _ => exact ⟨w8.heap.size, 0, _, 1, 1, rfl, hbk.lt, q2, q3, reads_gr k3 r2', rfl, by omega⟩
    | i + 2, h => exact absurd h (by simp)
  have k69 := (k1.trans (k2.mono k1.size)).trans (k3.mono (k1.trans (k2.mono k1.size)).size)
  have hr6' := hr6.grow k69
  have HI9 := Lib.hid (HI6.out.later k69)
  have HB9 := Lib.hid (HB6.out.trans (k69.mono HB6.out.size))
  have C9 := Lib.hid (sameP_eq A (some ⟨w8.heap.size, 0, none⟩) 2 c 2 [(0, [1]), (1, [0])] w9 hr6' hr9 (by omega))
  clear r1 r1' r2 r2' k1 k2 k3 hbk hr9 k69 hr6' hr6 HI6
  go_wp2_with fail
  clear hw7 hw8 hw9
  refine C9.out.mono ?_
  rintro e w10 ⟨rfl, hb10⟩
  have HI10 := Lib.hid (HI9.out.later hb10)
  have HB10 := Lib.hid (HB9.out.trans (hb10.mono HB9.out.size))
  have C10 := Lib.hid (len_any HI10.out)
  have C11 := Lib.hid (sizeX_any HI10.out)
  clear hb10 HI9 C9
  go_wp2_with fail
  refine C10.out.mono ?_
  rintro e w11 ⟨rfl, rfl⟩
  rw [ex_len]
  go_wp2_with fail
  refine C11.out.mono ?_
  rintro e w11 ⟨rfl, rfl⟩
  rw [ex_sz]
  go_wp2
  go_ret
  exact ⟨rfl, HB10.out⟩
end Go.Proofs.YtioekhiaoajgfaaGreat.Mx
end

section
/- The index and the document's, side by side. (No walk.) -/
namespace Go.Proofs.YtioekhiaoajgfaaGreat.Mx
open Go.RowKit Go.Proofs.YtioekhiaoajgfaaGreat Go.Proofs.YtioekhiaoajgfaaGreat.Ut Go.Proofs.YtioekhiaoajgfaaGreat.Tk Go.Proofs.YtioekhiaoajgfaaGreat.Qy Go.Proofs.YtioekhiaoajgfaaGreat.Ev Go.Proofs.YtioekhiaoajgfaaGreat.Qp Go.Proofs.YtioekhiaoajgfaaGreat.Mv
set_option linter.unusedVariables false
set_option linter.unusedSimpArgs false
set_option maxRecDepth 20000

theorem size_setC (w : World) (p : Addr) (u : Value) : (w.setCell p u).heap.size = w.heap.size := by simp [World.setCell]
theorem strip {w : World} {S : Nat → Prop} {k n p : Nat} {T : TypeId} {a : Option Addr} {b q : Nat} {F : Option Addr} {xs : List Value} (h : ReadsS w S k F n xs) (hp : Blk w p T #[.slice a b q]) (hk : 0 < k) (h0 : ∀ u, xs[0]? = some u → ∀ a b q, u ≠ .slice a b q) : ReadsS w (fun i => S i ∧ i ≠ p) k F n xs := by
  refine ⟨h.1, fun hn => ?_⟩
  obtain ⟨g, o, e, hs, hc⟩ := h.2 hn
  refine ⟨g, o, e, ⟨hs, fun e2 => ?_⟩, hc⟩
  subst e2
  have hl : 0 < xs.length := by rw [h.1]; exact Nat.mul_pos hn hk
  have h1 := hc 0 _ (List.getElem?_eq_getElem hl)
  rw [hp.cell] at h1
  rcases Nat.eq_zero_or_pos o with ho | ho
  · subst ho
    simp at h1
    exact h0 _ (List.getElem?_eq_getElem hl) a b q h1.symm
  · rw [Array.getElem?_eq_none (by simp; omega)] at h1
    cases h1
theorem dcs_strip {w : World} {S : Nat → Prop} {d : Dc} {v : List Value} {p : Nat} {T : TypeId} {a : Option Addr} {b q : Nat} (h : DcS w S d v) (hp : Blk w p T #[.slice a b q]) : DcS w (fun i => S i ∧ i ≠ p) d v := by
  obtain ⟨F, fn, fc, e, h1, h2⟩ := h.ex
  refine ⟨F, fn, fc, e, Mx.strip h1 hp (by omega) (fun u hu a b q e => ?_), h2⟩
  subst e
  have := fldC_one d.fs _ (List.mem_of_getElem? hu)
  cases hd : d.fs with
  | nil => rw [hd] at hu; simp [fldC] at hu
  | cons f fs => rw [hd] at hu; simp [fldC] at hu
/-- A cell of a variable that holds the row is written anew. -/
theorem RIx.write {w : World} {Rr : Nat → Prop} {B : Nat} {A : Option Addr} {n c : Nat} {ds : List Dc} {p : Nat} {T : TypeId} {a : Option Addr} {b q : Nat} (h : RIx w Rr B A n c ds) (hp : Blk w p T #[.slice a b q]) (hB : B ≤ p) (u : Value) : RIx (w.setCell ⟨p, 0, none⟩ u) Rr B A n c ds := by
  have kp : ∀ i, i ≠ p → (w.setCell ⟨p, 0, none⟩ u).heap[i]? = w.heap[i]? := fun i hi => Below.heap_setCell _ ⟨p, 0, none⟩ _ i hi
  obtain ⟨vss, h1, h2, h3⟩ := h.rd.ex
  refine ⟨⟨h.rd.ln, vss, h1, (Mx.strip h2 hp (by omega) (fun u hu a b q e => ?_)).same (fun b hb => ⟨hb.1, kp b hb.2⟩), fun i x y => ((dcs_strip (h3 i x y) hp).same (fun b hb => ⟨hb.1, kp b hb.2⟩))⟩, h.cap, h.nl, fun b hb => by rw [size_setC]; exact h.lt b hb, by rw [size_setC]; exact h.bw⟩
  subst e
  cases hd : vss with
  | nil => rw [hd] at hu; simp at hu
  | cons x xs =>
    have hl := h.rd.ln
    have hx := (h3 0 (by rw [hl, ← h1, hd]; simp) (by rw [hd]; simp)).ex
    obtain ⟨F, fn, fc, e, _⟩ := hx
    simp only [hd, List.getElem_cons_zero] at e
    rw [hd, e] at hu
    simp at hu
theorem tg_of_blk {w : World} {p : Nat} {T : TypeId} {cs : Array Value} (h : Blk w p T cs) : Tg w T p := tg_blk h
theorem IxD.write {w : World} {n0 X : Nat} {O : Nat → Prop} {ds : List Dc} {p : Nat} {cs : Array Value} (h : IxD w n0 X O ds) (hp : Blk w p 30 cs) (hO : ¬ O p) (u : Value) : IxD (w.setCell ⟨p, 0, none⟩ u) n0 X O ds := by
  obtain ⟨M, cn, v, F, h1, h2⟩ := h.ex
  refine ⟨⟨M, cn, v, F, h1.turn (grownBy_setC w p 0 u) (fun b hb => hb) (fun b hb => by rw [size_setC]; exact h1.lt b hb) (fun e => hO (e ▸ h1.oX)) (fun e => hO (e ▸ h1.oM)) (fun b hb e => hO (e ▸ h1.oV b hb)) (fun e => absurd ((tg_blk hp).one e) (by decide)) (fun e => absurd ((tg_blk hp).one e) (by decide)) (fun s u b hs hb e => hO (e ▸ h1.oF s u b hs hb)), h2⟩, h.ok, h.few⟩
theorem IxD.lt {w : World} {n0 X : Nat} {O : Nat → Prop} {ds : List Dc} (h : IxD w n0 X O ds) : ∀ b, O b → n0 ≤ b ∧ b < w.heap.size := by
  obtain ⟨M, cn, v, F, h1, h2⟩ := h.ex
  exact h1.lt
/-- The index in block X; the document's row in a variable, block R0. -/
structure Pair (w : World) (n0 B X R0 : Nat) (O Rr : Nat → Prop) (A : Option Addr) (n c : Nat) (ds : List Dc) : Prop where
  ix : IxD w n0 X O ds
  rx : RIx w Rr B A n c ds
  dis : ∀ b, Rr b → ¬ O b
  blk : Blk w R0 30 #[.slice A n c]
  nO : ¬ O R0
  hB : B ≤ n0
  hn : n0 ≤ w.heap.size
  hR : n0 ≤ R0
section
variable {w w' w4 w6 : World} {n0 B X R0 : Nat} {O Rr : Nat → Prop} {A : Option Addr} {n c : Nat} {ds : List Dc}
theorem Pair.start {w2 : World} (h : IxD w2 n0 X (fun b => n0 ≤ b ∧ b < w2.heap.size) []) (hB : B ≤ n0) (hn : n0 ≤ w2.heap.size) : Pair (w2.alloc (.cells #[.slice none 0 0] 30)) n0 B X w2.heap.size (fun b => n0 ≤ b ∧ b < w2.heap.size) (fun _ => False) none 0 0 [] := by
  have hb : Below w2.heap.size w2 (w2.alloc (.cells #[.slice none 0 0] 30)) := (Below.refl _ _).alloc (Nat.le_refl _) _
  have hs := hb.size
  exact ⟨h.below hb (fun b hb => hb) (fun b hb => ⟨hb.1, by omega⟩), ⟨DocsS.nil, Nat.le_refl _, fun _ => rfl, fun b hb => hb.elim, by omega⟩, fun b hb => hb.elim, Blk.new w2 _ _, fun hO => Nat.lt_irrefl _ hO.2, hB, by omega, hn⟩
theorem Pair.below (h : Pair w n0 B X R0 O Rr A n c ds) (hb : Below w.heap.size w w') : Pair w' n0 B X R0 O Rr A n c ds :=
  ⟨h.ix.below hb (fun b hb => hb) (fun b hO => ⟨(h.ix.lt b hO).1, Nat.lt_of_lt_of_le (h.ix.lt b hO).2 hb.size⟩), h.rx.below hb (fun b hb => hb) (fun b hr => Nat.lt_of_lt_of_le (h.rx.lt b hr) hb.size), h.dis, h.blk.below hb h.blk.lt, h.nO, h.hB, Nat.le_trans h.hn hb.size, h.hR⟩
/-- Behind the index' own Add. -/
theorem Pair.add (h : Pair w n0 B X R0 O Rr A n c ds) {ds' : List Dc} (hI : IxD w' n0 X (Ow O w w') ds') (hc : Chg O w w') : RIx w' Rr B A n c ds ∧ Blk w' R0 30 #[.slice A n c] ∧ Below n0 w w' ∧ (∀ b, Rr b → ¬ Ow O w w' b) ∧ ¬ Ow O w w' R0 := by
  refine ⟨⟨h.rx.rd.same (fun b hr => ⟨hr, hc.block b (h.rx.lt b hr) (h.dis b hr)⟩) (fun b hr => ⟨hr, ?_⟩), h.rx.cap, h.rx.nl, fun b hr => Nat.lt_of_lt_of_le (h.rx.lt b hr) hc.size, Nat.le_trans h.rx.bw hc.size⟩, (hc.block R0 h.blk.lt h.nO).trans h.blk, hc.below h.hn (fun b hb => (h.ix.lt b hb).1), fun b hr hO => ?_, fun hO => ?_⟩
  · rcases hr with hr | hr
    · exact hc.block b (h.rx.lt b hr) (h.dis b hr)
    · have h1 := h.hB
      have h2 := h.hn
      exact hc.block b (by omega) (fun hO => by have := (h.ix.lt b hO).1; omega)
  · rcases hO with hO | hO
    · exact h.dis b hr hO
    · have := h.rx.lt b hr; omega
  · rcases hO with hO | hO
    · exact h.nO hO
    · have := h.blk.lt; omega
/-- Behind the document's Add, and the store. -/
theorem Pair.put {O4 : Nat → Prop} {A' : Option Addr} {n' c' : Nat} {ds' : List Dc} {a : Option Addr} {b q : Nat} (hI : IxD w4 n0 X O4 ds') (hb : Below w4.heap.size w4 w6) (hR : RIx w6 (fun b => Rr b ∨ (w4.heap.size ≤ b ∧ b < w6.heap.size)) B A' n' c' ds')
    (hd : ∀ b, Rr b → ¬ O4 b) (hk : Blk w4 R0 30 #[.slice a b q]) (hO : ¬ O4 R0) (hB : B ≤ n0) (hn : n0 ≤ w4.heap.size) (hR0 : n0 ≤ R0) :
    Pair (w6.setCell ⟨R0, 0, none⟩ (.slice A' n' c')) n0 B X R0 O4 (fun b => Rr b ∨ (w4.heap.size ≤ b ∧ b < w6.heap.size)) A' n' c' ds' := by
  have hk6 := hk.below hb hk.lt
  refine ⟨(hI.below hb (fun b hb => hb) (fun b hO => ⟨(hI.lt b hO).1, Nat.lt_of_lt_of_le (hI.lt b hO).2 hb.size⟩)).write hk6 hO _, hR.write hk6 (Nat.le_trans hB hR0) _, fun b hr hO => ?_, ?_, hO, hB, by rw [size_setC]; exact Nat.le_trans hn hb.size, hR0⟩
  · rcases hr with hr | hr
    · exact hd b hr hO
    · have := (hI.lt b hO).2; omega
  · have := hk6.set_ 0 (.slice A' n' c')
    simpa using this
end
end Go.Proofs.YtioekhiaoajgfaaGreat.Mx
end

section
/- (*memidx.Index).Clear: the walk (seat k). -/
namespace Go.Proofs.YtioekhiaoajgfaaGreat.Mx
open Go.RowKit Go.Maps Go.Proofs.YtioekhiaoajgfaaGreat Go.Proofs.YtioekhiaoajgfaaGreat.Ut Go.Proofs.YtioekhiaoajgfaaGreat.Tk Go.Proofs.YtioekhiaoajgfaaGreat.Qy Go.Proofs.YtioekhiaoajgfaaGreat.Ev Go.Proofs.YtioekhiaoajgfaaGreat.Qp Go.Proofs.YtioekhiaoajgfaaGreat.Mv
set_option linter.unusedVariables false
set_option linter.unusedSimpArgs false
set_option maxRecDepth 20000

theorem wpList_clear {P : Program} {w : World} {ops : Array Oper} {rest : List Oper} {o : Oper} {a : Act} {Q : Exit → Act → World → Prop} (hg : o.guard = none) (m : Operand) (t k e : TypeId)
    (hop : o.op = Op.call { callee := Callee.builtin Builtin.clear, args := #[m], argTypes := #[t] }) (ht : P.underlying t = some (.map k e)) (b : Nat) (es : Array MapEntry) (ck : Nat) (hm : a.eval m = .map (some b)) (hb : w.heap[b]? = some (.map es ck))
    (hK : ∀ w', w'.heap[b]? = some (.map #[] ck) → w.grownBy w' (some b) → w'.heap.size = w.heap.size → wpList P ops Q rest (a.put o.dst (.tuple #[])) w') : wpList P ops Q (o :: rest) a w := by
  refine wpList_plain hg fun K' hK' => ?_
  have hr : (Go.Builtin.clear_ #[t] o.type #[.map (some b)]).run P w = .ok (.tuple #[]) (ChangeMaps.setBlock w b (.map #[] ck)) := by
    simp [Go.Builtin.clear_, run_underlying ht, MapKept.run_getObj_map hb, MapKept.run_setObj_map _ hb, Result.andThen, ChangeMaps.setBlock]
  have hk := hK (ChangeMaps.setBlock w b (.map #[] ck)) (ChangeMaps.heap_setBlock_same hb _) ⟨rfl, rfl, rfl, by simp [ChangeMaps.setBlock], fun i hi hne => ChangeMaps.heap_setBlock_other hb _ (fun e => hne (by rw [e]))⟩ (by simp [ChangeMaps.setBlock])
  unfold Oper.wp
  simp [execOp, hop, resolve, invoke, builtin, hm, hr, Result.andThen]
  exact hK' _ _ hk
set_option maxHeartbeats 1600000 in
theorem clear_any {w : World} {n0 X M cn : Nat} {v : Value} {F : ByteArray → Option Value} {O : Nat → Prop} {ds : List Dc} {sz lo hi : Int} {f : ByteArray → List Po} (h : Idx w n0 X M cn v F O ds sz lo hi f) :
    Calls Tryz.prog 22 #[.pointer (some ⟨X, 0, none⟩)] w fun e w' => e = .returned (.tuple #[]) ∧ Idx w' n0 X M 0 (.slice none 0 0) noV O [] 0 0 0 (fun _ => []) ∧ Chg O w w' := by
  have c1 := Lib.hid (none_no h)
  obtain ⟨es, ck, hM⟩ := h.mp.obj
  have hMX := h.notM h.tgX
  have H := Lib.hid h
  have y0 := h.blk.cell 0
  have y1 := h.blk.cell 1
  have y2 := h.blk.cell 2
  have y3 := h.blk.cell 3
  have y4 := h.blk.cell 4
  have z0 := h.blk.frozen 0
  have z1 := h.blk.frozen 1
  have z2 := h.blk.frozen 2
  have z3 := h.blk.frozen 3
  simp only [List.getElem?_toArray, List.getElem?_cons_zero, List.getElem?_cons_succ] at y0 y1 y2 y3 y4
  have hh : Blk ((((w.setCell ⟨X, 0, none⟩ (.int .i64 0)).setCell ⟨X, 1, none⟩ (.int .i64 0)).setCell ⟨X, 2, none⟩ (.int .i64 0)).setCell ⟨X, 3, none⟩ (.slice none 0 0)) X 59 #[.int .i64 0, .int .i64 0, .int .i64 0, .slice none 0 0, .map (some M)] := by
    have := (((h.blk.set_ 0 (.int .i64 0)).set_ 1 (.int .i64 0)).set_ 2 (.int .i64 0)).set_ 3 (.slice none 0 0)
    simpa using this
  have hkp : ∀ i, i ≠ X → ((((w.setCell ⟨X, 0, none⟩ (.int .i64 0)).setCell ⟨X, 1, none⟩ (.int .i64 0)).setCell ⟨X, 2, none⟩ (.int .i64 0)).setCell ⟨X, 3, none⟩ (.slice none 0 0)).heap[i]? = w.heap[i]? := fun i hi =>
    (((Below.heap_setCell _ ⟨X, 3, none⟩ _ i hi).trans (Below.heap_setCell _ ⟨X, 2, none⟩ _ i hi)).trans (Below.heap_setCell _ ⟨X, 1, none⟩ _ i hi)).trans (Below.heap_setCell _ ⟨X, 0, none⟩ _ i hi)
  have hsz : ((((w.setCell ⟨X, 0, none⟩ (.int .i64 0)).setCell ⟨X, 1, none⟩ (.int .i64 0)).setCell ⟨X, 2, none⟩ (.int .i64 0)).setCell ⟨X, 3, none⟩ (.slice none 0 0)).heap.size = w.heap.size := by rw [size_setC, size_setC, size_setC, size_setC]
  have hch : Chg O w ((((w.setCell ⟨X, 0, none⟩ (.int .i64 0)).setCell ⟨X, 1, none⟩ (.int .i64 0)).setCell ⟨X, 2, none⟩ (.int .i64 0)).setCell ⟨X, 3, none⟩ (.slice none 0 0)) := ⟨rfl, rfl, rfl, by rw [hsz]; exact Nat.le_refl _, fun k _ hn => hkp k (fun e => hn (by rw [e]; exact h.oX))⟩
  have HH := Lib.hid (And.intro hh (And.intro hkp (And.intro hsz hch)))
  clear h hh hkp hsz hch
  go_enter Tryz.func22, Tryz.ntmps22
  go_wp2_with fail
  refine c1.out.mono ?_
  rintro e w' ⟨rfl, rfl⟩
  clear c1
  go_upto_region 2 with fail
  generalize hw1 : ((((w.setCell ⟨X, 0, none⟩ (.int .i64 0)).setCell ⟨X, 1, none⟩ (.int .i64 0)).setCell ⟨X, 2, none⟩ (.int .i64 0)).setCell ⟨X, 3, none⟩ (.slice none 0 0)) = w1 at *
  clear hw1 y0 y1 y2 y3 y4 z0 z1 z2 z3
  have y4 := HH.out.1.cell 4
  simp only [List.getElem?_toArray, List.getElem?_cons_zero, List.getElem?_cons_succ] at y4
  have hM1 : w1.heap[M]? = some (.map es ck) := (HH.out.2.1 M (fun e => hMX e.symm)).trans hM
  go_wp2_with (refine wpList_clear rfl _ 57 9 33 rfl Tryz.underlying57 M es ck rfl hM1 ?_)
  intro w2 hM2 hg2 hs2
  have hX2 : w2.heap[X]? = w1.heap[X]? := hg2.block X HH.out.1.lt (fun e => hMX (Option.some.inj e))
  have hFin : Idx w2 n0 X M 0 (.slice none 0 0) noV O [] 0 0 0 (fun _ => []) := by
    refine ⟨hX2.trans HH.out.1, ⟨.map [], ⟨#[], ck, hM2, ⟨by simp, MapKept.stamped_empty ck, by simp⟩, Nat.le_refl _, rfl⟩, TabV.none⟩, ⟨[], rfl, World.ownsRow_nil _ _ _ _, fun i h => absurd h (by simp)⟩, fun s u h => (nomatch h), fun s _ => rfl, fun s t u u' b _ h => (nomatch h), H.out.oX, H.out.oM, fun b h => (nomatch h), fun s u b h => (nomatch h), fun b hb => by rw [hs2, HH.out.2.2.1]; exact H.out.lt b hb⟩
  have hC2 : Chg O w w2 := HH.out.2.2.2.trans (O' := O) (Chg.of_grown hg2 (fun k hk => by injection hk with hk; rw [← hk]; exact H.out.oM)) (fun x hx => .inl hx)
  have HF := Lib.hid (And.intro hFin hC2)
  clear hFin hC2 hX2 hM2 hg2 hs2 hM1 y4
  go_wp2
  go_end0
  exact ⟨rfl, HF.out.1, HF.out.2⟩
end Go.Proofs.YtioekhiaoajgfaaGreat.Mx
end

section
/- An index that nobody made, nil or zero: the walks (seat k; printed by gen_mxno.py). -/
namespace Go.Proofs.YtioekhiaoajgfaaGreat.Mx
open Go.RowKit Go.Proofs.YtioekhiaoajgfaaGreat Go.Proofs.YtioekhiaoajgfaaGreat.Ut Go.Proofs.YtioekhiaoajgfaaGreat.Tk Go.Proofs.YtioekhiaoajgfaaGreat.Qy Go.Proofs.YtioekhiaoajgfaaGreat.Ev Go.Proofs.YtioekhiaoajgfaaGreat.Qp Go.Proofs.YtioekhiaoajgfaaGreat.Mv
set_option linter.unusedVariables false
set_option linter.unusedSimpArgs false
set_option maxRecDepth 20000

/-- Nil, or of zeros. -/
def NoIx (w : World) (p : Option Addr) : Prop := p = none ∨ ∃ X, p = some ⟨X, 0, none⟩ ∧ Blk w X 59 #[.int .i64 0, .int .i64 0, .int .i64 0, .slice none 0 0, .map none]
theorem NoIx.below {w w' : World} {p : Option Addr} (h : NoIx w p) (hb : Below w.heap.size w w') : NoIx w' p := by
  rcases h with h | ⟨X, e, hk⟩
  · exact .inl h
  · exact .inr ⟨X, e, hk.below hb hk.lt⟩
theorem none_N {w : World} {p : Option Addr} (h : NoIx w p) : Calls Tryz.prog 31 #[.pointer p] w fun e w' => e = .returned (.bool true) ∧ w = w' := by
  rcases h with rfl | ⟨X, rfl, hk⟩
  · exact none_nil w
  · have c4 := hk.cell 4
    simp only [List.getElem?_toArray, List.getElem?_cons_zero, List.getElem?_cons_succ] at c4
    exact none_zero X w c4
theorem len_N {w : World} {p : Option Addr} (h : NoIx w p) : Calls Tryz.prog 26 #[.pointer p] w fun e w' => e = .returned (.int .i64 0) ∧ w = w' := by
  have c1 := Lib.hid (none_N h)
  clear h
  go_enter Tryz.func26, Tryz.ntmps26
  go_wp2_with fail
  refine c1.out.mono ?_
  rintro e w' ⟨rfl, rfl⟩
  go_wp2
  go_ret
  exact ⟨rfl, rfl⟩
theorem size_N {w : World} {p : Option Addr} (h : NoIx w p) : Calls Tryz.prog 27 #[.pointer p] w fun e w' => e = .returned (.int .i64 0) ∧ w = w' := by
  have c1 := Lib.hid (none_N h)
  clear h
  go_enter Tryz.func27, Tryz.ntmps27
  go_wp2_with fail
  refine c1.out.mono ?_
  rintro e w' ⟨rfl, rfl⟩
  go_wp2
  go_ret
  exact ⟨rfl, rfl⟩
theorem docs_N {w : World} {p : Option Addr} (h : NoIx w p) : Calls Tryz.prog 21 #[.pointer p] w fun e w' => e = .returned (.slice none 0 0) ∧ w = w' := by
  have c1 := Lib.hid (none_N h)
  clear h
  go_enter Tryz.func21, Tryz.ntmps21
  go_wp2_with fail
  refine c1.out.mono ?_
  rintro e w' ⟨rfl, rfl⟩
  go_wp2
  go_ret
  exact ⟨rfl, rfl⟩
theorem terms_N {w : World} {p : Option Addr} (h : NoIx w p) : Calls Tryz.prog 12 #[.pointer p] w fun e w' => e = .returned (.slice none 0 0) ∧ w = w' := by
  have c1 := Lib.hid (none_N h)
  clear h
  go_enter Tryz.func12, Tryz.ntmps12
  go_wp2_with fail
  refine c1.out.mono ?_
  rintro e w' ⟨rfl, rfl⟩
  go_wp2
  go_ret
  exact ⟨rfl, rfl⟩
theorem posts_N {w : World} {p : Option Addr} (h : NoIx w p) (s : ByteArray) : Calls Tryz.prog 9 #[.pointer p, .string s] w fun e w' => e = .returned (.slice none 0 0) ∧ w = w' := by
  have c1 := Lib.hid (none_N h)
  clear h
  go_enter Tryz.func9, Tryz.ntmps9
  go_wp2_with fail
  refine c1.out.mono ?_
  rintro e w' ⟨rfl, rfl⟩
  go_wp2
  go_ret
  exact ⟨rfl, rfl⟩
theorem times_N {w : World} {p : Option Addr} (h : NoIx w p) : Calls Tryz.prog 23 #[.pointer p] w fun e w' => e = .returned (.tuple #[.int .i64 0, .int .i64 0, .bool false]) ∧ w = w' := by
  have c1 := Lib.hid (len_N h)
  clear h
  go_enter Tryz.func23, Tryz.ntmps23
  go_wp2_with fail
  refine c1.out.mono ?_
  rintro e w' ⟨rfl, rfl⟩
  go_wp2
  go_ret3
  exact ⟨rfl, rfl⟩
theorem seqs_N {w : World} {p : Option Addr} (h : NoIx w p) : Calls Tryz.prog 24 #[.pointer p] w fun e w' => e = .returned (.tuple #[.int .i64 0, .int .i64 0]) ∧ w = w' := by
  have c1 := Lib.hid (len_N h)
  clear h
  go_enter Tryz.func24, Tryz.ntmps24
  go_wp2_with fail
  refine c1.out.mono ?_
  rintro e w' ⟨rfl, rfl⟩
  go_wp2
  go_ret2
  exact ⟨rfl, rfl⟩
theorem clear_N {w : World} {p : Option Addr} (h : NoIx w p) : Calls Tryz.prog 22 #[.pointer p] w fun e w' => e = .returned (.tuple #[]) ∧ w = w' := by
  have c1 := Lib.hid (none_N h)
  clear h
  go_enter Tryz.func22, Tryz.ntmps22
  go_wp2_with fail
  refine c1.out.mono ?_
  rintro e w' ⟨rfl, rfl⟩
  go_wp2
  go_end0
  exact ⟨rfl, rfl⟩
theorem fork_N {w : World} {p : Option Addr} (h : NoIx w p) : Calls Tryz.prog 17 #[.pointer p] w fun e w' => e = .returned (.pointer none) ∧ w = w' := by
  have c1 := Lib.hid (none_N h)
  clear h
  go_enter Tryz.func17, Tryz.ntmps17
  go_wp2_with fail
  refine c1.out.mono ?_
  rintro e w' ⟨rfl, rfl⟩
  go_wp2
  go_ret
  exact ⟨rfl, rfl⟩
theorem doc_N {w : World} {p : Option Addr} (h : NoIx w p) (i : Int) : Calls Tryz.prog 25 #[.pointer p, .int .i64 i] w fun e w' => e = .returned (.tuple #[.agg #[.int .i64 0, .int .i64 0, .slice none 0 0], .int .i64 4]) ∧ Below w.heap.size w w' := by
  have hB1 : Below w.heap.size w (w.alloc (.cells #[.int .i64 0, .int .i64 0, .slice none 0 0] 66)) := (Below.refl _ _).alloc (Nat.le_refl _) _
  have hR := Blk.new w 66 #[.int .i64 0, .int .i64 0, .slice none 0 0]
  have c1 := Lib.hid (none_N (h.below hB1))
  have HB1 := Lib.hid hB1
  have HR := Lib.hid hR
  have r0 := hR.cell 0
  have r1 := hR.cell 1
  have r2 := hR.cell 2
  have r0f := hR.frozen 0
  have r1f := hR.frozen 1
  have r2f := hR.frozen 2
  simp only [List.getElem?_toArray, List.getElem?_cons_zero, List.getElem?_cons_succ] at r0 r1 r2
  clear h hB1 hR
  go_enter Tryz.func25, Tryz.ntmps25
  go_wp2_with fail
  refine c1.out.mono ?_
  rintro e w' ⟨rfl, rfl⟩
  go_wp2_with fail
  refine bodyPost_ret (results_ct rfl rfl (run_loadVar_row _ w.heap.size 66 66 #[.int .i64 0, .int .i64 0, .slice none 0 0] (0, 0) _ HR.out Tryz.underlying66 rfl (by kernel_rfl))) rfl ?_
  exact ⟨rfl, HB1.out⟩
theorem add_N {w : World} {p : Option Addr} (h : NoIx w p) (sq : Int) (E : Option Addr) (m q : Nat) : Calls Tryz.prog 18 #[.pointer p, .agg #[.int .i64 sq, .slice E m q]] w fun e w' => e = .returned (.int .i64 4) ∧ Below w.heap.size w w' := by
  have hB1 : Below w.heap.size w (w.alloc (.cells #[.int .i64 sq, .slice E m q] 45)) := (Below.refl _ _).alloc (Nat.le_refl _) _
  have c1 := Lib.hid (none_N (h.below hB1))
  have HB1 := Lib.hid hB1
  clear h hB1
  go_enter Tryz.func18, Tryz.ntmps18
  go_wp2_with fail
  refine c1.out.mono ?_
  rintro e w' ⟨rfl, rfl⟩
  go_wp2
  go_ret
  exact ⟨rfl, HB1.out⟩
theorem prefix_N {w : World} {p : Option Addr} (h : NoIx w p) (s : ByteArray) : Calls Tryz.prog 10 #[.pointer p, .string s] w fun e w' => e = .returned (.slice none 0 0) ∧ Below w.heap.size w w' := by
  have hB1 : Below w.heap.size w (w.alloc (.map #[] 0)) := (Below.refl _ _).alloc (Nat.le_refl _) _
  have hmk : (Instr.makeMap 78 none).run Tryz.prog w = .ok (.map (some w.heap.size)) (w.alloc (.map #[] 0)) := rfl
  have c1 := Lib.hid (terms_N (h.below hB1))
  have c2 := Lib.hid (len_N (h.below hB1))
  have HB1 := Lib.hid hB1
  clear h hB1
  go_enter Tryz.func10, Tryz.ntmps10
  go_wp2_with fail
  refine c1.out.mono ?_
  rintro e w' ⟨rfl, rfl⟩
  go_wp2_with fail
  go_loopw [18] (fun i wr => i = .int .i64 0 ∧ wr = w.alloc (.map #[] 0)) (fun _ _ => 0)
  case atStart => exact ⟨rfl, rfl⟩
  case round =>
    obtain ⟨rfl, rfl⟩ := hrel
    go_wp2_with fail
    refine c2.out.mono ?_
    rintro e w' ⟨rfl, rfl⟩
    go_wp2_with fail
    go_loopw [10, 51] (fun v i wr => v = .slice none 0 0 ∧ i = .int .i64 0 ∧ wr = w.alloc (.map #[] 0)) (fun _ _ _ => 0)
    case atStart => exact ⟨rfl, rfl, rfl⟩
    case round =>
      obtain ⟨rfl, rfl, rfl⟩ := hrel
      go_wp2
      go_ret
      exact ⟨rfl, HB1.out⟩
end Go.Proofs.YtioekhiaoajgfaaGreat.Mx
end
