/- Rows and queries whose blocks are of some kind; queries of the call's own. No program. -/
import Derived.Laws.AppendOwn
import Derived.Below
import Derived.Lib.Hide
import Derived.Recover
import Derived.Test.YtlfpfkallgkjdaaGreatPkAlertManyRow1
import Derived.Test.YtlfpfkallgkjdaaGreatPkAlertManyRow9
section
namespace Go.Proofs.YtlfpfkallgkjdaaGreat.Qp
open Go.RowKit Go.Proofs.YtlfpfkallgkjdaaGreat Go.Proofs.YtlfpfkallgkjdaaGreat.Qy

/-- A query's four cells, and what lies behind them, in blocks of S. -/
inductive QF (w : World) (S : Nat → Prop) : Q → List Value → Prop
  | mk {k : Int} {nm : ByteArray} {ws : List ByteArray} {l : List Q} {A C : Option Addr} {n c m d : Nat} (vss : List (List Value)) (hn : ws.length = n) (hw : ReadsS w S 1 A n (ws.map Value.string)) (hm : l.length = m) (hv : vss.length = m)
      (h4 : ∀ v ∈ vss, v.length = 4) (hl : ReadsS w S 4 C m vss.flatten) (kids : ∀ i (h : i < l.length) (h' : i < vss.length), QF w S l[i] vss[i]) : QF w S (.mk k nm ws l) [.int .i64 k, .string nm, .slice A n c, .slice C m d]
section
variable {w w' : World} {S S' : Nat → Prop} {q : Q} {vs : List Value}
theorem QF.keep (hk : ∀ b o, S b → w'.cell? ⟨b, o, none⟩ = w.cell? ⟨b, o, none⟩) (h : QF w S q vs) : QF w' S q vs := by
  induction h with
  | mk vss hn hw hm hv h4 hl _ ih => exact .mk vss hn (hw.keep hk) hm hv h4 (hl.keep hk) ih
theorem QF.mono (h : QF w S q vs) (hS : ∀ b, S b → S' b) : QF w S' q vs := by
  induction h with
  | mk vss hn hw hm hv h4 hl _ ih => exact .mk vss hn (hw.mono hS) hm hv h4 (hl.mono hS) ih
theorem QF.at_ {B : Nat} (h : QF w S q vs) (hS : ∀ b, S b → b < B) : QAt w B q vs := by
  induction h with
  | mk vss hn hw hm hv h4 hl _ ih => exact .mk vss hn (hw.reads hS) hm hv h4 (hl.reads hS) ih
theorem QF.len (h : QF w S q vs) : vs.length = 4 := by cases h; rfl
/-- Its four cells. -/
theorem QF.four (h : QF w S q vs) : ∃ A n c C m d, vs = [.int .i64 q.kind, .string q.name, .slice A n c, .slice C m d] := by
  cases h with
  | @mk _ _ _ _ A C n c m d vss hn hw hm hv h4 hl kids => exact ⟨A, n, c, C, m, d, rfl⟩
end
/-- Blocks that are new since base, and none of the row's own. -/
def Kin (base : Nat) (w : World) (v : Value) (b : Nat) : Prop := base ≤ b ∧ b < w.heap.size ∧ v.ownBlock ≠ some b
/-- Queries of the call's own. -/
structure Qs (base : Nat) (w : World) (v : Value) (l : List Q) (vss : List (List Value)) : Prop where
  lv : vss.length = l.length
  own : w.ownsRow base 52 4 v l.length vss.flatten
  kid : ∀ i (h : i < l.length) (h' : i < vss.length), QF w (Kin base w v) l[i] vss[i]
theorem Qs.start (base : Nat) (w : World) : Qs base w (.slice none 0 0) [] [] := ⟨rfl, World.ownsRow_nil _ _ _ _, fun i h => absurd h (by simp)⟩
theorem Qs.four {base : Nat} {w : World} {v : Value} {l : List Q} {vss : List (List Value)} (h : Qs base w v l vss) : ∀ u ∈ vss, u.length = 4 := fun u hu => by
  obtain ⟨j, hj, rfl⟩ := List.mem_iff_getElem.1 hu
  exact (h.kid j (by rw [← h.lv]; exact hj) hj).len
/-- Of the own row, and below base, nothing else is written. -/
theorem Qs.grown {base : Nat} {w w' : World} {v : Value} {l : List Q} {vss : List (List Value)} {row : Option Nat} (h : Qs base w v l vss) (hg : w.grownBy w' row) (hr : ∀ b, row = some b → b < base) : Qs base w' v l vss := by
  refine ⟨h.lv, h.own.kept hg ?_, fun i a b => ?_⟩
  · cases hv : v.ownBlock with
    | none => exact .inl rfl
    | some k =>
      refine .inr (fun e => ?_)
      have := (h.own.lt k hv).1
      have := hr k e.symm
      omega
  · refine ((h.kid i a b).keep fun g o hS => ?_).mono fun g hS => ⟨hS.1, Nat.lt_of_lt_of_le hS.2.1 hg.size, hS.2.2⟩
    refine World.cell?_of_block (hg.block g hS.2.1 (fun e => ?_))
    have := hr g e.symm
    have := hS.1
    omega
theorem Qs.put {base : Nat} {w w' : World} {v v' : Value} {l : List Q} {q : Q} {vss : List (List Value)} {u : List Value} (h : Qs base w v l vss) (hq : QF w (Kin base w v) q u)
    (hp : w'.ownsRow base 52 4 v' (l.length + 1) (vss.flatten ++ u)) (hg : w.grownBy w' v.ownBlock) (hv : v'.ownBlock = v.ownBlock ∨ v'.ownBlock = some w.heap.size) : Qs base w' v' (l ++ [q]) (vss ++ [u]) := by
  have keep : ∀ (q : Q) (u : List Value), QF w (Kin base w v) q u → QF w' (Kin base w' v') q u := fun q u hq => by
    refine (hq.keep fun g o hS => ?_).mono fun g hS => ⟨hS.1, Nat.lt_of_lt_of_le hS.2.1 hg.size, fun e => ?_⟩
    · exact World.cell?_of_block (hg.block g hS.2.1 (fun e => hS.2.2 e.symm))
    · rcases hv with hv | hv
      · exact hS.2.2 (hv.symm.trans e)
      · have h1 : some w.heap.size = some g := hv.symm.trans e
        injection h1 with h1
        have := hS.2.1
        omega
  refine ⟨by simp [h.lv], ?_, fun i a b => ?_⟩
  · rw [List.flatten_append, List.length_append]
    simpa using hp
  · by_cases hi : i < l.length
    · rw [List.getElem_append_left hi, List.getElem_append_left (by rw [h.lv]; exact hi)]
      exact keep _ _ (h.kid i hi (by rw [h.lv]; exact hi))
    · have hi' : i = l.length := by simp at a; omega
      subst hi'
      rw [List.getElem_append_right (by omega), List.getElem_append_right (by rw [h.lv]; omega)]
      simp only [Nat.sub_self, h.lv, List.getElem_cons_zero]
      exact keep _ _ hq
/-- A row of the call's own, as a query's parts. -/
theorem Qs.query {base : Nat} {w : World} {v : Value} {l : List Q} {vss : List (List Value)} (h : Qs base w v l vss) (k : Int) : ∃ C d, v = .slice C l.length d ∧
    QF w (fun b => base ≤ b ∧ b < w.heap.size) (.mk k ByteArray.empty [] l) [.int .i64 k, .string ByteArray.empty, .slice none 0 0, .slice C l.length d] := by
  obtain ⟨C, d, rfl, _⟩ := own_shape h.own
  exact ⟨C, d, rfl, .mk vss rfl (by simpa using ReadsS.none_) rfl h.lv h.four ((ReadsS.of_own h.own).mono fun b hb => ⟨hb.1, hb.2.1⟩) fun i a b => (h.kid i a b).mono fun g hS => ⟨hS.1, hS.2.1⟩⟩
/-- The first of a row of the call's own, as a query. -/
theorem Qs.first {base : Nat} {w : World} {v : Value} {q : Q} {vss : List (List Value)} (h : Qs base w v [q] vss) : ∃ b d A n c C m d', v = .slice (some ⟨b, 0, none⟩) 1 d ∧ b < w.heap.size ∧ base ≤ b ∧
    w.cell? ⟨b, 0, none⟩ = some (.int .i64 q.kind) ∧ w.cell? ⟨b, 1, none⟩ = some (.string q.name) ∧ w.cell? ⟨b, 2, none⟩ = some (.slice A n c) ∧ w.cell? ⟨b, 3, none⟩ = some (.slice C m d') ∧
    QF w (fun b => base ≤ b ∧ b < w.heap.size) q [.int .i64 q.kind, .string q.name, .slice A n c, .slice C m d'] := by
  obtain ⟨A0, d, rfl, _⟩ := own_shape h.own
  have hlv := h.lv
  obtain ⟨u, rfl⟩ : ∃ u, vss = [u] := List.length_eq_one_iff.1 hlv
  have hq := (h.kid 0 (by simp) (by simp)).mono (S' := fun b => base ≤ b ∧ b < w.heap.size) fun g hS => ⟨hS.1, hS.2.1⟩
  simp only [List.getElem_cons_zero] at hq
  obtain ⟨A, n, c, C, m, d', rfl⟩ := hq.four
  have hS := ReadsS.of_own h.own
  obtain ⟨b, o, e, hb, hc⟩ := hS.2 (by simp)
  have ho : o = 0 := by
    rcases h.own.2 with ⟨hv, h0⟩ | ⟨g, cap, cur, hv, _⟩
    · simp at h0
    · injection hv with hv
      rw [e] at hv
      injection hv with hv
      injection hv
  subst ho
  subst e
  have c0 := hc 0 (.int .i64 q.kind) rfl
  have c1 := hc 1 (.string q.name) rfl
  have c2 := hc 2 (.slice A n c) rfl
  have c3 := hc 3 (.slice C m d') rfl
  exact ⟨b, d, A, n, c, C, m, d', rfl, hb.2.1, hb.1, c0, c1, c2, c3, hq⟩

/-- Frames, one behind the other: of the blocks that were there, one alone is written. -/
theorem grownBy_trans {w w1 w2 : World} {row : Option Nat} (h : w.grownBy w1 row) (k : w1.grownBy w2 row) : w.grownBy w2 row :=
  ⟨k.os.trans h.os, k.tape.trans h.tape, k.output.trans h.output, Nat.le_trans h.size k.size, fun i hi hr => (k.block i (Nat.lt_of_lt_of_le hi h.size) hr).trans (h.block i hi hr)⟩
theorem grownBy_new {w w1 w2 : World} {row row2 : Option Nat} (h : w.grownBy w1 row) (k : w1.grownBy w2 row2) (hn : ∀ b, row2 = some b → w.heap.size ≤ b) : w.grownBy w2 row :=
  ⟨k.os.trans h.os, k.tape.trans h.tape, k.output.trans h.output, Nat.le_trans h.size k.size, fun i hi hr => (k.block i (Nat.lt_of_lt_of_le hi h.size) (fun e => by have := hn i e.symm; omega)).trans (h.block i hi hr)⟩
theorem grownBy_refl (w : World) (row : Option Nat) : w.grownBy w row := ⟨rfl, rfl, rfl, Nat.le_refl _, fun _ _ _ => rfl⟩
theorem grownBy_below {w w1 w2 : World} {row : Option Nat} (h : w.grownBy w1 row) (k : Below w1.heap.size w1 w2) : w.grownBy w2 row := grownBy_trans h (grow_of_below k row)
theorem grownBy_set (w : World) (g : Nat) (i : Nat) (u : Value) : w.grownBy (w.setCell ⟨g, i, none⟩ u) (some g) :=
  ⟨rfl, rfl, rfl, by simp [World.setCell], fun k _ hk => Below.heap_setCell _ _ _ _ (fun e => hk (by rw [e]))⟩
/-- What is written is new: nothing that was there has turned. -/
theorem below_of_grown {w w1 w2 : World} {g : Nat} (h : Below w.heap.size w w1) (k : w1.grownBy w2 (some g)) (hg : w.heap.size ≤ g) : Below w.heap.size w w2 :=
  h.grown k h.size (fun b e => by injection e with e; omega)
end Go.Proofs.YtlfpfkallgkjdaaGreat.Qp
end

section
/- qparse: the reader's peek, next, must; one: the walks. -/
namespace Go.Proofs.YtlfpfkallgkjdaaGreat.Qp
open Go.RowKit Go.Proofs.YtlfpfkallgkjdaaGreat Go.Proofs.YtlfpfkallgkjdaaGreat.Ut Go.Proofs.YtlfpfkallgkjdaaGreat.Tk Go.Proofs.YtlfpfkallgkjdaaGreat.Qy
set_option maxRecDepth 20000
set_option linter.unusedSimpArgs false

/-- A reader: what is left of pieces. -/
structure Rd (B : Nat) (w : World) (g : Nat) (l : List P) : Prop where
  ex : ∃ A n c, Blk w g 139 #[.slice A n c] ∧ l.length = n ∧ n ≤ c ∧ ReadsS w (fun b => b < B ∧ b ≠ g) 1 A n (sv l)
  low : B ≤ w.heap.size
  ne : ∀ x ∈ l, x ≠ []
  many : l.length ≤ 1048576
theorem Rd.lt {B : Nat} {w : World} {g : Nat} {l : List P} (h : Rd B w g l) : g < w.heap.size := by
  obtain ⟨A, n, c, hB, _⟩ := h.ex
  exact hB.lt
theorem Rd.other {B : Nat} {w w' : World} {g : Nat} {l : List P} {row : Option Nat} (h : Rd B w g l) (hg : w.grownBy w' row) (hr : ∀ b, row = some b → B ≤ b ∧ b ≠ g) : Rd B w' g l := by
  obtain ⟨A, n, c, hB, hn, hc, hR⟩ := h.ex
  refine ⟨⟨A, n, c, hB.grown hg (fun e => (hr g e.symm).2 rfl), hn, hc, hR.keep fun b o hS => World.cell?_of_block (w := w) (hg.block b (Nat.lt_of_lt_of_le hS.1 h.low) (fun e => ?_))⟩, Nat.le_trans h.low hg.size, h.ne, h.many⟩
  have := (hr b e.symm).1
  have := hS.1
  omega
theorem Rd.below {B : Nat} {w w' : World} {g : Nat} {l : List P} (h : Rd B w g l) (hb : Below w.heap.size w w') : Rd B w' g l :=
  h.other (grow_of_below hb none) (fun b e => by cases e)
theorem Rd.grown {B : Nat} {w w' : World} {g : Nat} {l : List P} {row : Option Nat} (h : Rd B w g l) (hg : w.grownBy w' row) (hr : ∀ b, row = some b → w.heap.size ≤ b) : Rd B w' g l :=
  h.below ((Below.refl _ _).grown hg (Nat.le_refl _) hr)
def pk : List P → ByteArray | [] => ByteArray.empty | s :: _ => str s
theorem str_ne (s : P) (h : s ≠ []) : (str s).toList.isEmpty = false := by
  rw [tl, str_data]
  cases s with
  | nil => exact absurd rfl h
  | cons a t => rfl

theorem peek_nil (B : Nat) (w : World) (g : Nat) (h : Rd B w g []) : Calls Tryz.prog 100 #[.pointer (some ⟨g, 0, none⟩)] w fun e w' => e = .returned (.string ByteArray.empty) ∧ w = w' := by
  obtain ⟨A, n, c, hB, hn, hc, hR⟩ := h.ex
  have h0 := hB.cell 0
  simp at h0
  obtain rfl : n = 0 := by simpa using hn.symm
  clear hB hn hR h
  go_enter Tryz.func100, Tryz.ntmps100
  go_wp2
  go_ret
  exact ⟨rfl, rfl⟩
theorem peek_cons (B : Nat) (w : World) (g : Nat) (s : P) (l : List P) (h : Rd B w g (s :: l)) : Calls Tryz.prog 100 #[.pointer (some ⟨g, 0, none⟩)] w fun e w' => e = .returned (.string (str s)) ∧ w = w' := by
  obtain ⟨A, n, c, hB, hn, hc, hR⟩ := h.ex
  have h0 := hB.cell 0
  simp at h0
  have hn1 : 0 < n := by rw [← hn]; simp
  obtain ⟨b, o, rfl, hb, hcl⟩ := hR.2 hn1
  have h1 := hcl 0 (.string (str s)) rfl
  have hn2 : ((n : Int) == 0) = false := by rw [beq_eq_false_iff_ne]; omega
  simp at h1
  clear hB hn hR h hcl hb
  go_enter Tryz.func100, Tryz.ntmps100
  go_wp2
  go_ret
  exact ⟨rfl, rfl⟩
theorem must_yes (g : Nat) (w : World) : Calls Tryz.prog 63 #[.pointer (some ⟨g, 0, none⟩), .bool true] w fun e w' => e = .returned (.tuple #[]) ∧ w = w' := by
  go_enter Tryz.func63, Tryz.ntmps63
  go_wp2
  go_end0
  exact ⟨rfl, rfl⟩
theorem must_no (g : Nat) (w : World) : Calls Tryz.prog 63 #[.pointer (some ⟨g, 0, none⟩), .bool false] w fun e w' => e = .panicked [{ v := .iface 134 (.agg #[.int .i64 170]), recovered := false }] ∧ w = w' := by
  go_enter Tryz.func63, Tryz.ntmps63
  go_wp2
  exact ⟨rfl, rfl, rfl⟩
theorem next_nil (B : Nat) (w : World) (g : Nat) (h : Rd B w g []) : Calls Tryz.prog 101 #[.pointer (some ⟨g, 0, none⟩)] w fun e w' => e = .returned (.string ByteArray.empty) ∧ w = w' := by
  have c0 := peek_nil B w g h
  clear h
  go_enter Tryz.func101, Tryz.ntmps101
  go_wp2_with (go_at_call 100; refine c0.mono ?_; rintro e w' ⟨rfl, rfl⟩)
  go_ret
  exact ⟨rfl, rfl⟩
theorem next_cons (B : Nat) (w : World) (g : Nat) (s : P) (l : List P) (h : Rd B w g (s :: l)) : Calls Tryz.prog 101 #[.pointer (some ⟨g, 0, none⟩)] w fun e w' => e = .returned (.string (str s)) ∧ Rd B w' g l ∧ w.grownBy w' (some g) := by
  have c0 := peek_cons B w g s l h
  obtain ⟨A, n, c, hB, hn, hc, hR⟩ := h.ex
  have h0 := hB.cell 0
  have hfz := hB.frozen 0
  simp at h0
  have hn1 : 0 < n := by rw [← hn]; simp
  have he := str_ne s (h.ne s (by simp))
  obtain ⟨b, o, rfl, hb, hcl⟩ := hR.2 hn1
  have Fin : ∀ (A' : Option Addr) (c' : Nat), n - 1 ≤ c' → (1 < n → A' = some ⟨b, o + 1, none⟩) → Rd B (w.setCell ⟨g, 0, none⟩ (.slice A' (n - 1) c')) g l := fun A' c' h1 h2 => by
    refine ⟨⟨A', n - 1, c', hB.set_ 0 _, by rw [List.length_cons] at hn; omega, h1, ⟨by rw [sv_len]; rw [List.length_cons] at hn; omega, fun hp => ?_⟩⟩, by simpa [World.setCell] using h.low, fun x hx => h.ne x (by simp [hx]), by have := h.many; rw [List.length_cons] at this; omega⟩
    refine ⟨b, o + 1, h2 (by omega), hb, fun j u hu => ?_⟩
    have := hcl (j + 1) u (by simpa [sv] using hu)
    rw [World.cell?_of_block (w := w) (Below.heap_setCell w ⟨g, 0, none⟩ _ b hb.2)]
    rw [← this]; congr 2; omega
  have FIN := Lib.hid Fin
  clear Fin hB hn hR h hcl
  by_cases hc1 : c = 1
  · obtain rfl : n = 1 := by omega
    subst hc1
    go_enter Tryz.func101, Tryz.ntmps101
    go_wp2_with (go_at_call 100; refine c0.mono ?_; rintro e w' ⟨rfl, rfl⟩)
    go_ret
    exact ⟨rfl, FIN.out _ _ (Nat.le_refl _) (fun h => absurd h (by omega)), grownBy_set w g 0 _⟩
  · go_enter Tryz.func101, Tryz.ntmps101
    go_wp2_with (go_at_call 100; refine c0.mono ?_; rintro e w' ⟨rfl, rfl⟩)
    go_ret
    exact ⟨rfl, FIN.out _ _ (by omega) (fun h => rfl), grownBy_set w g 0 _⟩
end Go.Proofs.YtlfpfkallgkjdaaGreat.Qp
end

section
/- qparse: one, words: the walks. -/
namespace Go.Proofs.YtlfpfkallgkjdaaGreat.Qp
open Go.RowKit Go.Proofs.YtlfpfkallgkjdaaGreat Go.Proofs.YtlfpfkallgkjdaaGreat.Ut Go.Proofs.YtlfpfkallgkjdaaGreat.Tk Go.Proofs.YtlfpfkallgkjdaaGreat.Qy
set_option maxRecDepth 20000
set_option linter.unusedSimpArgs false

/-- A block of four cells, written anew. -/
def set4 (w : World) (g : Nat) (a b c d : Value) : World := (((w.setCell ⟨g, 0, none⟩ a).setCell ⟨g, 1, none⟩ b).setCell ⟨g, 2, none⟩ c).setCell ⟨g, 3, none⟩ d
theorem _root_.Go.Proofs.YtlfpfkallgkjdaaGreat.Blk.four {w : World} {g : Nat} {t : TypeId} {x0 x1 x2 x3 : Value} (h : Blk w g t #[x0, x1, x2, x3]) :
    w.cell? ⟨g, 0, none⟩ = some x0 ∧ w.cell? ⟨g, 1, none⟩ = some x1 ∧ w.cell? ⟨g, 2, none⟩ = some x2 ∧ w.cell? ⟨g, 3, none⟩ = some x3 ∧
    w.frozen? ⟨g, 0, none⟩ = false ∧ w.frozen? ⟨g, 1, none⟩ = false ∧ w.frozen? ⟨g, 2, none⟩ = false ∧ w.frozen? ⟨g, 3, none⟩ = false :=
  ⟨h.cell 0, h.cell 1, h.cell 2, h.cell 3, h.frozen 0, h.frozen 1, h.frozen 2, h.frozen 3⟩
theorem _root_.Go.Proofs.YtlfpfkallgkjdaaGreat.Blk.set4 {w : World} {g : Nat} {t : TypeId} {x0 x1 x2 x3 : Value} (h : Blk w g t #[x0, x1, x2, x3]) (a b c d : Value) : Blk (set4 w g a b c d) g t #[a, b, c, d] :=
  (((h.set_ 0 a).set_ 1 b).set_ 2 c).set_ 3 d
theorem set4_other (w : World) (g k : Nat) (a b c d : Value) (h : k ≠ g) : (set4 w g a b c d).heap[k]? = w.heap[k]? := by
  unfold set4
  rw [Below.heap_setCell _ _ _ _ h, Below.heap_setCell _ _ _ _ h, Below.heap_setCell _ _ _ _ h, Below.heap_setCell _ _ _ _ h]
theorem set4_size (w : World) (g : Nat) (a b c d : Value) : (set4 w g a b c d).heap.size = w.heap.size := by simp [set4, World.setCell]
theorem below_set4 {B g : Nat} {w0 w : World} (hb : Below B w0 w) (hBg : B ≤ g) (a b c d : Value) : Below B w0 (set4 w g a b c d) :=
  (((hb.setCell (p := ⟨g, 0, none⟩) hBg a).setCell (p := ⟨g, 1, none⟩) hBg b).setCell (p := ⟨g, 2, none⟩) hBg c).setCell (p := ⟨g, 3, none⟩) hBg d
/-- A query, all of it made since base. -/
def OkQ (base : Nat) (w : World) (q : Q) (e : Ending) (w' : World) : Prop := ∃ a0 a1 a2 a3, e = .returned (.agg #[a0, a1, a2, a3]) ∧ QF w' (fun b => base ≤ b ∧ b < w'.heap.size) q [a0, a1, a2, a3] ∧ Below w.heap.size w w'
def badE : Ending := .panicked [{ v := .iface 134 (.agg #[.int .i64 170]), recovered := false }]
/-- A query, or why there is none. -/
def LfPost (w : World) (o : Option Q) (e : Ending) (w' : World) : Prop :=
  match o with
  | some q => OkQ w.heap.size w q e w'
  | none => e = badE ∧ Below w.heap.size w w'
theorem QF.grow {w w' : World} {base : Nat} {q : Q} {vs : List Value} (h : QF w (fun b => base ≤ b ∧ b < w.heap.size) q vs) (hb : Below w.heap.size w w') : QF w' (fun b => base ≤ b ∧ b < w'.heap.size) q vs :=
  (h.keep fun _ _ hS => hb.cell (p := ⟨_, _, none⟩) hS.2).mono fun _ hS => ⟨hS.1, Nat.lt_of_lt_of_le hS.2 hb.size⟩
theorem oneQ_many (k : Int) (l : List Q) (h : l.length ≠ 1) : oneQ k l = .mk k ByteArray.empty [] l := by
  match l, h with
  | [], _ => rfl
  | [q], h => simp at h
  | _ :: _ :: _, _ => rfl
set_option maxHeartbeats 800000 in
theorem one_any (base : Nat) (k : Int) (v : Value) (l : List Q) (vss : List (List Value)) (w : World) (hQ : Qs base w v l vss) (hl : l ≠ []) : Calls Tryz.prog 102 #[.int .i64 k, v] w (OkQ base w (oneQ k l)) := by
  by_cases h1 : l.length = 1
  · obtain ⟨q, rfl⟩ := List.length_eq_one_iff.1 h1
    obtain ⟨b, d, A, n, c, C, m, d', rfl, hb, hbase, c0, c1, c2, c3, hF⟩ := hQ.first
    have hh := Blk.new w 52 #[.int .i64 q.kind, .string q.name, .slice A n c, .slice C m d']
    have hbl := (Below.refl w.heap.size w).alloc (Nat.le_refl _) (.cells #[.int .i64 q.kind, .string q.name, .slice A n c, .slice C m d'] 52)
    have HF := Lib.hid (hF.grow hbl)
    have Hbl := Lib.hid hbl
    clear hQ hl h1 hF hbl
    go_enter Tryz.func102, Tryz.ntmps102
    go_wp2_with fail
    exact bodyPost_ret (results_cell rfl rfl (run_loadVar_row _ w.heap.size 52 52 #[.int .i64 q.kind, .string q.name, .slice A n c, .slice C m d'] (0, 0) _ hh Tryz.underlying52 rfl (by kernel_rfl))) rfl ⟨_, _, _, _, rfl, HF.out, Hbl.out⟩
  · rw [oneQ_many k l h1]
    obtain ⟨C, d, rfl, hF⟩ := hQ.query k
    have hbl := (Below.refl w.heap.size w).alloc (Nat.le_refl _) (.cells #[.int .i64 k, .string ByteArray.empty, .slice none 0 0, .slice C l.length d] 52)
    have hh := Blk.new w 52 #[.int .i64 k, .string ByteArray.empty, .slice none 0 0, .slice C l.length d]
    have HF := Lib.hid (hF.grow hbl)
    have Hbl := Lib.hid hbl
    have h1' : ((l.length : Int) == 1) = false := by rw [beq_eq_false_iff_ne]; omega
    clear hQ hl h1 hF hbl
    generalize l.length = n at *
    go_enter Tryz.func102, Tryz.ntmps102
    go_wp2_with fail
    exact bodyPost_ret (results_cell rfl rfl (run_loadVar_row _ w.heap.size 52 52 #[.int .i64 k, .string ByteArray.empty, .slice none 0 0, .slice C n d] (0, 0) _ hh Tryz.underlying52 rfl (by kernel_rfl))) rfl ⟨_, _, _, _, rfl, HF.out, Hbl.out⟩
set_option maxHeartbeats 800000 in
theorem words_q (g : Nat) (nm s : ByteArray) (w : World) (hs : s.size ≤ 1048576) : Calls Tryz.prog 189 #[.pointer (some ⟨g, 0, none⟩), .string nm, .string s] w (LfPost w (wordsQ nm.data.toList (words s.data.toList))) := by
  have hb0 := (Below.refl w.heap.size w).alloc (Nat.le_refl _) (.cells #[.int .i64 0, .string ByteArray.empty, .slice none 0 0, .slice none 0 0] 52)
  have c0 := words_any s (w.alloc (.cells #[.int .i64 0, .string ByteArray.empty, .slice none 0 0, .slice none 0 0] 52)) hs
  have hB := Blk.new w 52 #[.int .i64 0, .string ByteArray.empty, .slice none 0 0, .slice none 0 0]
  have hz : (w.alloc (.cells #[.int .i64 0, .string ByteArray.empty, .slice none 0 0, .slice none 0 0] 52)).heap.size = w.heap.size + 1 := by simp
  have HB := Lib.hid hB
  have Hb0 := Lib.hid hb0
  have Hz := Lib.hid hz
  have Hnm := Lib.hid (of_str nm)
  have hwl := words_len s
  clear hB hb0 hz
  generalize words s.data.toList = l at *
  go_enter Tryz.func189, Tryz.ntmps189
  go_wp2_with fail
  refine c0.mono ?_
  rintro e w2 ⟨v, rfl, hown, hb⟩
  have hsz : w.heap.size + 1 ≤ w2.heap.size := by have := hb.size; rw [Hz.out] at this; exact this
  rw [Hz.out] at hown
  obtain ⟨A, c, rfl, _⟩ := own_shape hown
  have hB2 := HB.out.below hb (by rw [Hz.out]; omega)
  have hR := (ReadsS.of_own hown).mono (S' := fun b => w.heap.size + 1 ≤ b ∧ b < w2.heap.size) fun b hS => ⟨hS.1, hS.2.1⟩
  have Hb2 := Lib.hid (Hb0.out.trans (hb.mono (by rw [Hz.out]; omega)))
  have HR := Lib.hid hR
  have hlt := hB2.lt
  have HB2 := Lib.hid hB2
  obtain ⟨q0, q1, q2, q3, f0, f1, f2, f3⟩ := HB2.out.four
  clear hown hb hR c0 hB2
  by_cases h0 : l.length = 0
  · have Fin : Hid (wordsQ nm.data.toList l = none) := Lib.hid (by unfold wordsQ; rw [if_pos (List.length_eq_zero_iff.1 h0)])
    have h0' : decide (0 < (l.length : Int)) = false := decide_eq_false (by omega)
    have h0'' : (l.length : Int) ≤ 0 := by omega
    clear HR
    generalize l.length = n at *
    obtain rfl : n = 0 := h0
    go_wp2_with (go_at_call 63; refine (must_no g _).mono ?_; rintro e w' ⟨rfl, rfl⟩)
    exact ⟨rfl, by rw [Fin.out]; exact ⟨rfl, Hb2.out⟩⟩
  · have h0' : (0 : Int) < (l.length : Int) := by omega
    by_cases h1 : l.length = 1
    · have Fin : Hid (wordsQ nm.data.toList l = some (.mk 2 nm (l.map str) [])) := Lib.hid (by
        unfold wordsQ; rw [if_neg (fun e => h0 (by rw [e]; rfl)), if_pos h1, Hnm.out])
      generalize hn : l.length = n at *
      have Hn := Lib.hid hn
      have h0d : decide (0 < n) = true := decide_eq_true (by omega)
      clear hn h0
      have h1' : ((n : Int) == 1) = true := by rw [h1]; rfl
      clear h1
      have hF : QF (set4 w2 w.heap.size (.int .i64 2) (.string nm) (.slice A n c) (.slice none 0 0)) (fun b => w.heap.size ≤ b ∧ b < (set4 w2 w.heap.size (.int .i64 2) (.string nm) (.slice A n c) (.slice none 0 0)).heap.size) (.mk 2 nm (l.map str) []) [.int .i64 2, .string nm, .slice A n c, .slice none 0 0] :=
        .mk [] (by rw [List.length_map]; exact Hn.out) ((HR.out.keep fun b o hS => World.cell?_of_block (w := w2) (set4_other w2 w.heap.size b _ _ _ _ (by omega))).mono fun b hS => ⟨by omega, by rw [set4_size]; exact hS.2⟩) rfl rfl (by simp) ReadsS.none_ (fun i hi => absurd hi (by simp))
      have hbl := below_set4 Hb2.out (Nat.le_refl _) (.int .i64 2) (.string nm) (.slice A n c) (.slice none 0 0)
      have hh := HB2.out.set4 (.int .i64 2) (.string nm) (.slice A n c) (.slice none 0 0)
      have HF := Lib.hid hF
      have Hbl := Lib.hid hbl
      have Hh := Lib.hid hh
      clear hF hbl hh HR Hb2
      go_wp2_with (go_at_call 63; refine (must_yes g _).mono ?_; rintro e w' ⟨rfl, rfl⟩)
      refine bodyPost_ret (results_cell rfl rfl (run_loadVar_row _ w.heap.size 52 52 #[.int .i64 2, .string nm, .slice A n c, .slice none 0 0] (0, 0) _ Hh.out Tryz.underlying52 rfl (by kernel_rfl))) rfl ?_
      rw [Fin.out]
      exact ⟨_, _, _, _, rfl, HF.out, Hbl.out⟩
    · have Fin : Hid (wordsQ nm.data.toList l = some (.mk 4 nm (l.map str) [])) := Lib.hid (by
        unfold wordsQ; rw [if_neg (fun e => h0 (by rw [e]; rfl)), if_neg h1, Hnm.out])
      generalize hn : l.length = n at *
      have Hn := Lib.hid hn
      have h0d : decide (0 < n) = true := decide_eq_true (by omega)
      clear hn h0
      have h1' : ((n : Int) == 1) = false := by rw [beq_eq_false_iff_ne]; omega
      clear h1
      have hF : QF (set4 w2 w.heap.size (.int .i64 4) (.string nm) (.slice A n c) (.slice none 0 0)) (fun b => w.heap.size ≤ b ∧ b < (set4 w2 w.heap.size (.int .i64 4) (.string nm) (.slice A n c) (.slice none 0 0)).heap.size) (.mk 4 nm (l.map str) []) [.int .i64 4, .string nm, .slice A n c, .slice none 0 0] :=
        .mk [] (by rw [List.length_map]; exact Hn.out) ((HR.out.keep fun b o hS => World.cell?_of_block (w := w2) (set4_other w2 w.heap.size b _ _ _ _ (by omega))).mono fun b hS => ⟨by omega, by rw [set4_size]; exact hS.2⟩) rfl rfl (by simp) ReadsS.none_ (fun i hi => absurd hi (by simp))
      have hbl := below_set4 Hb2.out (Nat.le_refl _) (.int .i64 4) (.string nm) (.slice A n c) (.slice none 0 0)
      have hh := HB2.out.set4 (.int .i64 4) (.string nm) (.slice A n c) (.slice none 0 0)
      have HF := Lib.hid hF
      have Hbl := Lib.hid hbl
      have Hh := Lib.hid hh
      clear hF hbl hh HR Hb2
      go_wp2_with (go_at_call 63; refine (must_yes g _).mono ?_; rintro e w' ⟨rfl, rfl⟩)
      refine bodyPost_ret (results_cell rfl rfl (run_loadVar_row _ w.heap.size 52 52 #[.int .i64 4, .string nm, .slice A n c, .slice none 0 0] (0, 0) _ Hh.out Tryz.underlying52 rfl (by kernel_rfl))) rfl ?_
      rw [Fin.out]
      exact ⟨_, _, _, _, rfl, HF.out, Hbl.out⟩
end Go.Proofs.YtlfpfkallgkjdaaGreat.Qp
end
