/- qparse: the reader's peek, next, must; one: the walks. -/
import Derived.Recover
import Derived.Test.YtceekocfmbcobaaPkCursorFollowsRow16
section
namespace Go.Proofs.Ytceekocfmbcobaa.Qp
open Go.RowKit Go.Proofs.Ytceekocfmbcobaa Go.Proofs.Ytceekocfmbcobaa.Ut Go.Proofs.Ytceekocfmbcobaa.Tk Go.Proofs.Ytceekocfmbcobaa.Qy
set_option maxRecDepth 20000
set_option linter.unusedSimpArgs false

/-- A reader: what is left of pieces. -/
structure Rd (B : Nat) (w : World) (g : Nat) (l : List P) : Prop where
  ex : ∃ A n c, Blk w g 85 #[.slice A n c] ∧ l.length = n ∧ n ≤ c ∧ ReadsS w (fun b => b < B ∧ b ≠ g) 1 A n (sv l)
  low : B ≤ w.heap.size
  ne : ∀ x ∈ l, x ≠ []
  many : l.length ≤ 1048576
theorem Rd.lt {B : Nat} {w : World} {g : Nat} {l : List P} (h : Rd B w g l) : g < w.heap.size := by
  obtain ⟨A, n, c, hB, _⟩ := h.ex
  exact hB.lt
theorem Rd.other {B : Nat} {w w' : World} {g : Nat} {l : List P} {row : Option Nat} (h : Rd B w g l) (hg : w.grownBy w' row) (hr : ∀ b, row = some b → B ≤ b ∧ b ≠ g) : Rd B w' g l := by
  obtain ⟨A, n, c, hB, hn, hc, hR⟩ := h.ex
  refine ⟨⟨A, n, c, hB.grown hg (fun e => (hr g e.symm).2 rfl), hn, hc, hR.keep fun b o hS => World.cell?_of_block (w := w) (hg.block b (Nat.lt_of_lt_of_le hS.1 h.low) (fun e => ?_))⟩, Nat.le_trans h.low hg.size, h.ne, h.many⟩
  have := (hr b e.symm).1
  have := hS.1
  omega
theorem Rd.below {B : Nat} {w w' : World} {g : Nat} {l : List P} (h : Rd B w g l) (hb : Below w.heap.size w w') : Rd B w' g l :=
  h.other (grow_of_below hb none) (fun b e => by cases e)
theorem Rd.grown {B : Nat} {w w' : World} {g : Nat} {l : List P} {row : Option Nat} (h : Rd B w g l) (hg : w.grownBy w' row) (hr : ∀ b, row = some b → w.heap.size ≤ b) : Rd B w' g l :=
  h.below ((Below.refl _ _).grown hg (Nat.le_refl _) hr)
def pk : List P → ByteArray | [] => ByteArray.empty | s :: _ => str s
theorem str_ne (s : P) (h : s ≠ []) : (str s).toList.isEmpty = false := by
  rw [tl, str_data]
  cases s with
  | nil => exact absurd rfl h
  | cons a t => rfl

theorem peek_nil (B : Nat) (w : World) (g : Nat) (h : Rd B w g []) : Calls Try.prog 52 #[.pointer (some ⟨g, 0, none⟩)] w fun e w' => e = .returned (.string ByteArray.empty) ∧ w = w' := by
  obtain ⟨A, n, c, hB, hn, hc, hR⟩ := h.ex
  have h0 := hB.cell 0
  simp at h0
  obtain rfl : n = 0 := by simpa using hn.symm
  clear hB hn hR h
  go_enter Try.func52, Try.ntmps52
  go_wp2
  go_ret
  exact ⟨rfl, rfl⟩
theorem peek_cons (B : Nat) (w : World) (g : Nat) (s : P) (l : List P) (h : Rd B w g (s :: l)) : Calls Try.prog 52 #[.pointer (some ⟨g, 0, none⟩)] w fun e w' => e = .returned (.string (str s)) ∧ w = w' := by
  obtain ⟨A, n, c, hB, hn, hc, hR⟩ := h.ex
  have h0 := hB.cell 0
  simp at h0
  have hn1 : 0 < n := by rw [← hn]; simp
  obtain ⟨b, o, rfl, hb, hcl⟩ := hR.2 hn1
  have h1 := hcl 0 (.string (str s)) rfl
  have hn2 : ((n : Int) == 0) = false := by rw [beq_eq_false_iff_ne]; omega
  simp at h1
  clear hB hn hR h hcl hb
  go_enter Try.func52, Try.ntmps52
  go_wp2
  go_ret
  exact ⟨rfl, rfl⟩
theorem must_yes (g : Nat) (w : World) : Calls Try.prog 35 #[.pointer (some ⟨g, 0, none⟩), .bool true] w fun e w' => e = .returned (.tuple #[]) ∧ w = w' := by
  go_enter Try.func35, Try.ntmps35
  go_wp2
  go_end0
  exact ⟨rfl, rfl⟩
theorem must_no (g : Nat) (w : World) : Calls Try.prog 35 #[.pointer (some ⟨g, 0, none⟩), .bool false] w fun e w' => e = .panicked [{ v := .iface 80 (.agg #[.int .i64 170]), recovered := false }] ∧ w = w' := by
  go_enter Try.func35, Try.ntmps35
  go_wp2
  exact ⟨rfl, rfl, rfl⟩
theorem next_nil (B : Nat) (w : World) (g : Nat) (h : Rd B w g []) : Calls Try.prog 53 #[.pointer (some ⟨g, 0, none⟩)] w fun e w' => e = .returned (.string ByteArray.empty) ∧ w = w' := by
  have c0 := peek_nil B w g h
  clear h
  go_enter Try.func53, Try.ntmps53
  go_wp2_with (go_at_call 52; refine c0.mono ?_; rintro e w' ⟨rfl, rfl⟩)
  go_ret
  exact ⟨rfl, rfl⟩
theorem next_cons (B : Nat) (w : World) (g : Nat) (s : P) (l : List P) (h : Rd B w g (s :: l)) : Calls Try.prog 53 #[.pointer (some ⟨g, 0, none⟩)] w fun e w' => e = .returned (.string (str s)) ∧ Rd B w' g l ∧ w.grownBy w' (some g) := by
  have c0 := peek_cons B w g s l h
  obtain ⟨A, n, c, hB, hn, hc, hR⟩ := h.ex
  have h0 := hB.cell 0
  have hfz := hB.frozen 0
  simp at h0
  have hn1 : 0 < n := by rw [← hn]; simp
  have he := str_ne s (h.ne s (by simp))
  obtain ⟨b, o, rfl, hb, hcl⟩ := hR.2 hn1
  have Fin : ∀ (A' : Option Addr) (c' : Nat), n - 1 ≤ c' → (1 < n → A' = some ⟨b, o + 1, none⟩) → Rd B (w.setCell ⟨g, 0, none⟩ (.slice A' (n - 1) c')) g l := fun A' c' h1 h2 => by
    refine ⟨⟨A', n - 1, c', hB.set_ 0 _, by rw [List.length_cons] at hn; omega, h1, ⟨by rw [sv_len]; rw [List.length_cons] at hn; omega, fun hp => ?_⟩⟩, by simpa [World.setCell] using h.low, fun x hx => h.ne x (by simp [hx]), by have := h.many; rw [List.length_cons] at this; omega⟩
    refine ⟨b, o + 1, h2 (by omega), hb, fun j u hu => ?_⟩
    have := hcl (j + 1) u (by simpa [sv] using hu)
    rw [World.cell?_of_block (w := w) (Below.heap_setCell w ⟨g, 0, none⟩ _ b hb.2)]
    rw [← this]; congr 2; omega
  have FIN := Lib.hid Fin
  clear Fin hB hn hR h hcl
  by_cases hc1 : c = 1
  · obtain rfl : n = 1 := by omega
    subst hc1
    go_enter Try.func53, Try.ntmps53
    go_wp2_with (go_at_call 52; refine c0.mono ?_; rintro e w' ⟨rfl, rfl⟩)
    go_ret
    exact ⟨rfl, FIN.out _ _ (Nat.le_refl _) (fun h => absurd h (by omega)), grownBy_set w g 0 _⟩
  · go_enter Try.func53, Try.ntmps53
    go_wp2_with (go_at_call 52; refine c0.mono ?_; rintro e w' ⟨rfl, rfl⟩)
    go_ret
    exact ⟨rfl, FIN.out _ _ (by omega) (fun h => rfl), grownBy_set w g 0 _⟩
end Go.Proofs.Ytceekocfmbcobaa.Qp
end

section
/- qparse: one, words: the walks. -/
namespace Go.Proofs.Ytceekocfmbcobaa.Qp
open Go.RowKit Go.Proofs.Ytceekocfmbcobaa Go.Proofs.Ytceekocfmbcobaa.Ut Go.Proofs.Ytceekocfmbcobaa.Tk Go.Proofs.Ytceekocfmbcobaa.Qy
set_option maxRecDepth 20000
set_option linter.unusedSimpArgs false

/-- A block of four cells, written anew. -/
def set4 (w : World) (g : Nat) (a b c d : Value) : World := (((w.setCell ⟨g, 0, none⟩ a).setCell ⟨g, 1, none⟩ b).setCell ⟨g, 2, none⟩ c).setCell ⟨g, 3, none⟩ d
theorem _root_.Go.Proofs.Ytceekocfmbcobaa.Blk.four {w : World} {g : Nat} {t : TypeId} {x0 x1 x2 x3 : Value} (h : Blk w g t #[x0, x1, x2, x3]) :
    w.cell? ⟨g, 0, none⟩ = some x0 ∧ w.cell? ⟨g, 1, none⟩ = some x1 ∧ w.cell? ⟨g, 2, none⟩ = some x2 ∧ w.cell? ⟨g, 3, none⟩ = some x3 ∧
    w.frozen? ⟨g, 0, none⟩ = false ∧ w.frozen? ⟨g, 1, none⟩ = false ∧ w.frozen? ⟨g, 2, none⟩ = false ∧ w.frozen? ⟨g, 3, none⟩ = false :=
  ⟨h.cell 0, h.cell 1, h.cell 2, h.cell 3, h.frozen 0, h.frozen 1, h.frozen 2, h.frozen 3⟩
theorem _root_.Go.Proofs.Ytceekocfmbcobaa.Blk.set4 {w : World} {g : Nat} {t : TypeId} {x0 x1 x2 x3 : Value} (h : Blk w g t #[x0, x1, x2, x3]) (a b c d : Value) : Blk (set4 w g a b c d) g t #[a, b, c, d] :=
  (((h.set_ 0 a).set_ 1 b).set_ 2 c).set_ 3 d
theorem set4_other (w : World) (g k : Nat) (a b c d : Value) (h : k ≠ g) : (set4 w g a b c d).heap[k]? = w.heap[k]? := by
  unfold set4
  rw [Below.heap_setCell _ _ _ _ h, Below.heap_setCell _ _ _ _ h, Below.heap_setCell _ _ _ _ h, Below.heap_setCell _ _ _ _ h]
theorem set4_size (w : World) (g : Nat) (a b c d : Value) : (set4 w g a b c d).heap.size = w.heap.size := by simp [set4, World.setCell]
theorem below_set4 {B g : Nat} {w0 w : World} (hb : Below B w0 w) (hBg : B ≤ g) (a b c d : Value) : Below B w0 (set4 w g a b c d) :=
  (((hb.setCell (p := ⟨g, 0, none⟩) hBg a).setCell (p := ⟨g, 1, none⟩) hBg b).setCell (p := ⟨g, 2, none⟩) hBg c).setCell (p := ⟨g, 3, none⟩) hBg d
/-- A query, all of it made since base. -/
def OkQ (base : Nat) (w : World) (q : Q) (e : Ending) (w' : World) : Prop := ∃ a0 a1 a2 a3, e = .returned (.agg #[a0, a1, a2, a3]) ∧ QF w' (fun b => base ≤ b ∧ b < w'.heap.size) q [a0, a1, a2, a3] ∧ Below w.heap.size w w'
def badE : Ending := .panicked [{ v := .iface 80 (.agg #[.int .i64 170]), recovered := false }]
/-- A query, or why there is none. -/
def LfPost (w : World) (o : Option Q) (e : Ending) (w' : World) : Prop :=
  match o with
  | some q => OkQ w.heap.size w q e w'
  | none => e = badE ∧ Below w.heap.size w w'
theorem QF.grow {w w' : World} {base : Nat} {q : Q} {vs : List Value} (h : QF w (fun b => base ≤ b ∧ b < w.heap.size) q vs) (hb : Below w.heap.size w w') : QF w' (fun b => base ≤ b ∧ b < w'.heap.size) q vs :=
  (h.keep fun _ _ hS => hb.cell (p := ⟨_, _, none⟩) hS.2).mono fun _ hS => ⟨hS.1, Nat.lt_of_lt_of_le hS.2 hb.size⟩
theorem oneQ_many (k : Int) (l : List Q) (h : l.length ≠ 1) : oneQ k l = .mk k ByteArray.empty [] l := by
  match l, h with
  | [], _ => rfl
  | [q], h => simp at h
  | _ :: _ :: _, _ => rfl
set_option maxHeartbeats 800000 in
theorem one_any (base : Nat) (k : Int) (v : Value) (l : List Q) (vss : List (List Value)) (w : World) (hQ : Qs base w v l vss) (hl : l ≠ []) : Calls Try.prog 54 #[.int .i64 k, v] w (OkQ base w (oneQ k l)) := by
  by_cases h1 : l.length = 1
  · obtain ⟨q, rfl⟩ := List.length_eq_one_iff.1 h1
    obtain ⟨b, d, A, n, c, C, m, d', rfl, hb, hbase, c0, c1, c2, c3, hF⟩ := hQ.first
    have hh := Blk.new w 29 #[.int .i64 q.kind, .string q.name, .slice A n c, .slice C m d']
    have hbl := (Below.refl w.heap.size w).alloc (Nat.le_refl _) (.cells #[.int .i64 q.kind, .string q.name, .slice A n c, .slice C m d'] 29)
    have HF := Lib.hid (hF.grow hbl)
    have Hbl := Lib.hid hbl
    clear hQ hl h1 hF hbl
    go_enter Try.func54, Try.ntmps54
    go_wp2_with fail
    exact bodyPost_ret (results_cell rfl rfl (run_loadVar_row _ w.heap.size 29 29 #[.int .i64 q.kind, .string q.name, .slice A n c, .slice C m d'] (0, 0) _ hh Try.underlying29 rfl (by kernel_rfl))) rfl ⟨_, _, _, _, rfl, HF.out, Hbl.out⟩
  · rw [oneQ_many k l h1]
    obtain ⟨C, d, rfl, hF⟩ := hQ.query k
    have hbl := (Below.refl w.heap.size w).alloc (Nat.le_refl _) (.cells #[.int .i64 k, .string ByteArray.empty, .slice none 0 0, .slice C l.length d] 29)
    have hh := Blk.new w 29 #[.int .i64 k, .string ByteArray.empty, .slice none 0 0, .slice C l.length d]
    have HF := Lib.hid (hF.grow hbl)
    have Hbl := Lib.hid hbl
    have h1' : ((l.length : Int) == 1) = false := by rw [beq_eq_false_iff_ne]; omega
    clear hQ hl h1 hF hbl
    generalize l.length = n at *
    go_enter Try.func54, Try.ntmps54
    go_wp2_with fail
    exact bodyPost_ret (results_cell rfl rfl (run_loadVar_row _ w.heap.size 29 29 #[.int .i64 k, .string ByteArray.empty, .slice none 0 0, .slice C n d] (0, 0) _ hh Try.underlying29 rfl (by kernel_rfl))) rfl ⟨_, _, _, _, rfl, HF.out, Hbl.out⟩
set_option maxHeartbeats 800000 in
theorem words_q (g : Nat) (nm s : ByteArray) (w : World) (hs : s.size ≤ 1048576) : Calls Try.prog 72 #[.pointer (some ⟨g, 0, none⟩), .string nm, .string s] w (LfPost w (wordsQ nm.data.toList (words s.data.toList))) := by
  have hb0 := (Below.refl w.heap.size w).alloc (Nat.le_refl _) (.cells #[.int .i64 0, .string ByteArray.empty, .slice none 0 0, .slice none 0 0] 29)
  have c0 := words_any s (w.alloc (.cells #[.int .i64 0, .string ByteArray.empty, .slice none 0 0, .slice none 0 0] 29)) hs
  have hB := Blk.new w 29 #[.int .i64 0, .string ByteArray.empty, .slice none 0 0, .slice none 0 0]
  have hz : (w.alloc (.cells #[.int .i64 0, .string ByteArray.empty, .slice none 0 0, .slice none 0 0] 29)).heap.size = w.heap.size + 1 := by simp
  have HB := Lib.hid hB
  have Hb0 := Lib.hid hb0
  have Hz := Lib.hid hz
  have Hnm := Lib.hid (of_str nm)
  have hwl := words_len s
  clear hB hb0 hz
  generalize words s.data.toList = l at *
  go_enter Try.func72, Try.ntmps72
  go_wp2_with fail
  refine c0.mono ?_
  rintro e w2 ⟨v, rfl, hown, hb⟩
  have hsz : w.heap.size + 1 ≤ w2.heap.size := by have := hb.size; rw [Hz.out] at this; exact this
  rw [Hz.out] at hown
  obtain ⟨A, c, rfl, _⟩ := own_shape hown
  have hB2 := HB.out.below hb (by rw [Hz.out]; omega)
  have hR := (ReadsS.of_own hown).mono (S' := fun b => w.heap.size + 1 ≤ b ∧ b < w2.heap.size) fun b hS => ⟨hS.1, hS.2.1⟩
  have Hb2 := Lib.hid (Hb0.out.trans (hb.mono (by rw [Hz.out]; omega)))
  have HR := Lib.hid hR
  have hlt := hB2.lt
  have HB2 := Lib.hid hB2
  obtain ⟨q0, q1, q2, q3, f0, f1, f2, f3⟩ := HB2.out.four
  clear hown hb hR c0 hB2
  by_cases h0 : l.length = 0
  · have Fin : Hid (wordsQ nm.data.toList l = none) := Lib.hid (by unfold wordsQ; rw [if_pos (List.length_eq_zero_iff.1 h0)])
    have h0' : decide (0 < (l.length : Int)) = false := decide_eq_false (by omega)
    have h0'' : (l.length : Int) ≤ 0 := by omega
    clear HR
    generalize l.length = n at *
    obtain rfl : n = 0 := h0
    go_wp2_with (go_at_call 35; refine (must_no g _).mono ?_; rintro e w' ⟨rfl, rfl⟩)
    exact ⟨rfl, by rw [Fin.out]; exact ⟨rfl, Hb2.out⟩⟩
  · have h0' : (0 : Int) < (l.length : Int) := by omega
    by_cases h1 : l.length = 1
    · have Fin : Hid (wordsQ nm.data.toList l = some (.mk 2 nm (l.map str) [])) := Lib.hid (by
        unfold wordsQ; rw [if_neg (fun e => h0 (by rw [e]; rfl)), if_pos h1, Hnm.out])
      generalize hn : l.length = n at *
      have Hn := Lib.hid hn
      have h0d : decide (0 < n) = true := decide_eq_true (by omega)
      clear hn h0
      have h1' : ((n : Int) == 1) = true := by rw [h1]; rfl
      clear h1
      have hF : QF (set4 w2 w.heap.size (.int .i64 2) (.string nm) (.slice A n c) (.slice none 0 0)) (fun b => w.heap.size ≤ b ∧ b < (set4 w2 w.heap.size (.int .i64 2) (.string nm) (.slice A n c) (.slice none 0 0)).heap.size) (.mk 2 nm (l.map str) []) [.int .i64 2, .string nm, .slice A n c, .slice none 0 0] :=
        .mk [] (by rw [List.length_map]; exact Hn.out) ((HR.out.keep fun b o hS => World.cell?_of_block (w := w2) (set4_other w2 w.heap.size b _ _ _ _ (by omega))).mono fun b hS => ⟨by omega, by rw [set4_size]; exact hS.2⟩) rfl rfl (by simp) ReadsS.none_ (fun i hi => absurd hi (by simp))
      have hbl := below_set4 Hb2.out (Nat.le_refl _) (.int .i64 2) (.string nm) (.slice A n c) (.slice none 0 0)
      have hh := HB2.out.set4 (.int .i64 2) (.string nm) (.slice A n c) (.slice none 0 0)
      have HF := Lib.hid hF
      have Hbl := Lib.hid hbl
      have Hh := Lib.hid hh
      clear hF hbl hh HR Hb2
      go_wp2_with (go_at_call 35; refine (must_yes g _).mono ?_; rintro e w' ⟨rfl, rfl⟩)
      refine bodyPost_ret (results_cell rfl rfl (run_loadVar_row _ w.heap.size 29 29 #[.int .i64 2, .string nm, .slice A n c, .slice none 0 0] (0, 0) _ Hh.out Try.underlying29 rfl (by kernel_rfl))) rfl ?_
      rw [Fin.out]
      exact ⟨_, _, _, _, rfl, HF.out, Hbl.out⟩
    · have Fin : Hid (wordsQ nm.data.toList l = some (.mk 4 nm (l.map str) [])) := Lib.hid (by
        unfold wordsQ; rw [if_neg (fun e => h0 (by rw [e]; rfl)), if_neg h1, Hnm.out])
      generalize hn : l.length = n at *
      have Hn := Lib.hid hn
      have h0d : decide (0 < n) = true := decide_eq_true (by omega)
      clear hn h0
      have h1' : ((n : Int) == 1) = false := by rw [beq_eq_false_iff_ne]; omega
      clear h1
      have hF : QF (set4 w2 w.heap.size (.int .i64 4) (.string nm) (.slice A n c) (.slice none 0 0)) (fun b => w.heap.size ≤ b ∧ b < (set4 w2 w.heap.size (.int .i64 4) (.string nm) (.slice A n c) (.slice none 0 0)).heap.size) (.mk 4 nm (l.map str) []) [.int .i64 4, .string nm, .slice A n c, .slice none 0 0] :=
        .mk [] (by rw [List.length_map]; exact Hn.out) ((HR.out.keep fun b o hS => World.cell?_of_block (w := w2) (set4_other w2 w.heap.size b _ _ _ _ (by omega))).mono fun b hS => ⟨by omega, by rw [set4_size]; exact hS.2⟩) rfl rfl (by simp) ReadsS.none_ (fun i hi => absurd hi (by simp))
      have hbl := below_set4 Hb2.out (Nat.le_refl _) (.int .i64 4) (.string nm) (.slice A n c) (.slice none 0 0)
      have hh := HB2.out.set4 (.int .i64 4) (.string nm) (.slice A n c) (.slice none 0 0)
      have HF := Lib.hid hF
      have Hbl := Lib.hid hbl
      have Hh := Lib.hid hh
      clear hF hbl hh HR Hb2
      go_wp2_with (go_at_call 35; refine (must_yes g _).mono ?_; rintro e w' ⟨rfl, rfl⟩)
      refine bodyPost_ret (results_cell rfl rfl (run_loadVar_row _ w.heap.size 29 29 #[.int .i64 4, .string nm, .slice A n c, .slice none 0 0] (0, 0) _ Hh.out Try.underlying29 rfl (by kernel_rfl))) rfl ?_
      rw [Fin.out]
      exact ⟨_, _, _, _, rfl, HF.out, Hbl.out⟩
end Go.Proofs.Ytceekocfmbcobaa.Qp
end
