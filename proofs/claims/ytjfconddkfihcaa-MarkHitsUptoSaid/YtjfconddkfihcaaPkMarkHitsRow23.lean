/- loggiaref18.words, alone, all, Check: the walks (printed by gen_hitb.py). -/
import Derived.Test.YtjfconddkfihcaaHitAPk
import Derived.Test.YtjfconddkfihcaaNeedBPk
section
namespace Go.Proofs.Ytjfconddkfihcaa.Mk
open Go.RowKit Go.Proofs.Ytjfconddkfihcaa Go.Proofs.Ytjfconddkfihcaa.Ut Go.Proofs.Ytjfconddkfihcaa.Tk Go.Proofs.Ytjfconddkfihcaa.Qy
set_option maxRecDepth 20000
set_option linter.unusedSimpArgs false

def WordsOk (q : Q) : Prop := ∀ (w : World) (a0 a1 a2 a3 : Value), QAt w w.heap.size q [a0, a1, a2, a3] →
  Calls Try.prog 124 #[.agg #[a0, a1, a2, a3]] w fun e w' => (∃ t : Bool, e = .returned (.bool t)) ∧ Below w.heap.size w w'


set_option maxHeartbeats 6400000 in
theorem words_2 (nm : ByteArray) (ws : List ByteArray) (l : List Q) (hm6 : ws.length ≤ 8796093021952) (hsz : ∀ x ∈ ws, x.size ≤ 1048576) : WordsOk (.mk 2 nm ws l) := by
  intro w a0 a1 a2 a3 hQ
  obtain ⟨WA, m, wc, CA, n, c2, e, hI⟩ := hQ.is
  simp only [List.cons.injEq, and_true] at e
  obtain ⟨rfl, rfl, rfl, rfl⟩ := e
  have hb1 : Below w.heap.size w (w.alloc (.cells #[.int .i64 2, .string nm, .slice WA m wc, .slice CA n c2] 37)) := (Below.refl _ _).alloc (Nat.le_refl _) _
  have hB1 := Blk.new w 37 #[.int .i64 2, .string nm, .slice WA m wc, .slice CA n c2]
  have hz1 : w.heap.size < (w.alloc (.cells #[.int .i64 2, .string nm, .slice WA m wc, .slice CA n c2] 37)).heap.size := by simp
  have Hb1 := Lib.hid hb1
  have HB1 := Lib.hid hB1
  have hwn := hI.wn
  have hm2 : m ≤ 8796093021952 := by omega
  have hwd : ∀ i, i < m → ∀ w1, Below w.heap.size w w1 → ∃ b o, ∃ s : ByteArray, WA = some ⟨b, o, none⟩ ∧ b < w.heap.size ∧ w1.cell? ⟨b, o + i, none⟩ = some (.string s) ∧ s.size ≤ 1048576 := by
    intro i hi w1 hb
    obtain ⟨b, o, hl, e, hbb, hc⟩ := hI.wds.at_map hi
    exact ⟨b, o, ws[i], e, hbb, (hb.cell (p := ⟨b, o + i, none⟩) hbb).trans hc, hsz _ (List.getElem_mem hl)⟩
  have Hwd := Lib.hid hwd
  clear hQ hI hb1 hB1 hwd hsz hm6 hwn
  go_enter Try.func124, Try.ntmps124
  go_wp2_with fail
  generalize hw1 : (w.alloc (.cells #[.int .i64 2, .string nm, .slice WA m wc, .slice CA n c2] 37)) = w1 at *
  clear hw1
  go_loopw [3] (fun v wr => ∃ j : Nat, j ≤ m ∧ v = .int .i64 (j : Nat) ∧ Below w1.heap.size w1 wr) (fun v _ => m - (intOf v).toNat)
  case atStart => exact ⟨0, Nat.zero_le _, rfl, Below.refl _ _⟩
  case round =>
    obtain ⟨j, hj, rfl, hb⟩ := hrel
    have Hb := Lib.hid hb
    have hcell : ∀ wx, Below w1.heap.size w1 wx → wx.cell? ⟨w.heap.size, 0, none⟩ = some (.int .i64 2) ∧ wx.cell? ⟨w.heap.size, 2, none⟩ = some (.slice WA m wc) := fun wx hC => ⟨(HB1.out.below hC hz1).cell 0, (HB1.out.below hC hz1).cell 2⟩
    have hS := hcell wr hb
    by_cases hlt : j < m
    · have hji : (j : Int) < (m : Int) := by omega
      have hji0 : (0 : Int) ≤ (j : Int) := by omega
      obtain ⟨wb, wo, s, rfl, hwb, hc0, hs6⟩ := Hwd.out j hlt wr (Hb1.out.trans (hb.mono Hb1.out.size))
      have c1 := isWord_refB s wr hs6
      have Hcell := Lib.hid hcell
      have hget : ∀ wx, Below wr.heap.size wr wx → wx.cell? ⟨wb, wo + j, none⟩ = some (.string s) := fun wx hC => (hC.cell (p := ⟨wb, wo + j, none⟩) (by have := (Hb1.out.trans (Hb.out.mono Hb1.out.size)).size; show wb < _; omega)).trans hc0
      have Hget := Lib.hid hget
      clear hb hlt hcell hget
      generalize isW s.data.toList = t at *
      go_wp2_with fail
      refine c1.mono ?_
      rintro e w2 ⟨rfl, hb2⟩
      have FinB := Lib.hid (Hb.out.trans (hb2.mono Hb.out.size))
      have hS2 := Hcell.out w2 FinB.out
      have hg2 := Hget.out w2 hb2
      clear hb2 c1 hS hc0 Hcell Hget
      cases t with
      | true =>
        go_wp2
        go_roundw
        case rel => exact ⟨j + 1, by omega, by go_num, FinB.out⟩
        case measure => simp [intOf]; omega
      | false =>
        go_wp2
        go_ret
        exact ⟨⟨false, rfl⟩, Hb1.out.trans (FinB.out.mono Hb1.out.size)⟩
    · have hji : (m : Int) ≤ (j : Int) := by omega
      clear hb hcell
      go_wp2
      go_ret
      exact ⟨⟨_, rfl⟩, Hb1.out.trans (Hb.out.mono Hb1.out.size)⟩

set_option maxHeartbeats 6400000 in
theorem words_3 (nm : ByteArray) (ws : List ByteArray) (l : List Q) (hm6 : ws.length ≤ 8796093021952) (hsz : ∀ x ∈ ws, x.size ≤ 1048576) : WordsOk (.mk 3 nm ws l) := by
  intro w a0 a1 a2 a3 hQ
  obtain ⟨WA, m, wc, CA, n, c2, e, hI⟩ := hQ.is
  simp only [List.cons.injEq, and_true] at e
  obtain ⟨rfl, rfl, rfl, rfl⟩ := e
  have hb1 : Below w.heap.size w (w.alloc (.cells #[.int .i64 3, .string nm, .slice WA m wc, .slice CA n c2] 37)) := (Below.refl _ _).alloc (Nat.le_refl _) _
  have hB1 := Blk.new w 37 #[.int .i64 3, .string nm, .slice WA m wc, .slice CA n c2]
  have hz1 : w.heap.size < (w.alloc (.cells #[.int .i64 3, .string nm, .slice WA m wc, .slice CA n c2] 37)).heap.size := by simp
  have Hb1 := Lib.hid hb1
  have HB1 := Lib.hid hB1
  have hwn := hI.wn
  have hm2 : m ≤ 8796093021952 := by omega
  have hwd : ∀ i, i < m → ∀ w1, Below w.heap.size w w1 → ∃ b o, ∃ s : ByteArray, WA = some ⟨b, o, none⟩ ∧ b < w.heap.size ∧ w1.cell? ⟨b, o + i, none⟩ = some (.string s) ∧ s.size ≤ 1048576 := by
    intro i hi w1 hb
    obtain ⟨b, o, hl, e, hbb, hc⟩ := hI.wds.at_map hi
    exact ⟨b, o, ws[i], e, hbb, (hb.cell (p := ⟨b, o + i, none⟩) hbb).trans hc, hsz _ (List.getElem_mem hl)⟩
  have Hwd := Lib.hid hwd
  clear hQ hI hb1 hB1 hwd hsz hm6 hwn
  go_enter Try.func124, Try.ntmps124
  go_wp2_with fail
  generalize hw1 : (w.alloc (.cells #[.int .i64 3, .string nm, .slice WA m wc, .slice CA n c2] 37)) = w1 at *
  clear hw1
  go_loopw [3] (fun v wr => ∃ j : Nat, j ≤ m ∧ v = .int .i64 (j : Nat) ∧ Below w1.heap.size w1 wr) (fun v _ => m - (intOf v).toNat)
  case atStart => exact ⟨0, Nat.zero_le _, rfl, Below.refl _ _⟩
  case round =>
    obtain ⟨j, hj, rfl, hb⟩ := hrel
    have Hb := Lib.hid hb
    have hcell : ∀ wx, Below w1.heap.size w1 wx → wx.cell? ⟨w.heap.size, 0, none⟩ = some (.int .i64 3) ∧ wx.cell? ⟨w.heap.size, 2, none⟩ = some (.slice WA m wc) := fun wx hC => ⟨(HB1.out.below hC hz1).cell 0, (HB1.out.below hC hz1).cell 2⟩
    have hS := hcell wr hb
    by_cases hlt : j < m
    · have hji : (j : Int) < (m : Int) := by omega
      have hji0 : (0 : Int) ≤ (j : Int) := by omega
      obtain ⟨wb, wo, s, rfl, hwb, hc0, hs6⟩ := Hwd.out j hlt wr (Hb1.out.trans (hb.mono Hb1.out.size))
      have c1 := isWord_refB s wr hs6
      have Hcell := Lib.hid hcell
      have hget : ∀ wx, Below wr.heap.size wr wx → wx.cell? ⟨wb, wo + j, none⟩ = some (.string s) := fun wx hC => (hC.cell (p := ⟨wb, wo + j, none⟩) (by have := (Hb1.out.trans (Hb.out.mono Hb1.out.size)).size; show wb < _; omega)).trans hc0
      have Hget := Lib.hid hget
      clear hb hlt hcell hget
      generalize isW s.data.toList = t at *
      go_wp2_with fail
      refine c1.mono ?_
      rintro e w2 ⟨rfl, hb2⟩
      have FinB := Lib.hid (Hb.out.trans (hb2.mono Hb.out.size))
      have hS2 := Hcell.out w2 FinB.out
      have hg2 := Hget.out w2 hb2
      clear hb2 c1 hS hc0 Hcell Hget
      cases t with
      | true =>
        go_wp2
        go_roundw
        case rel => exact ⟨j + 1, by omega, by go_num, FinB.out⟩
        case measure => simp [intOf]; omega
      | false =>
        by_cases he : s = ⟨#[]⟩
        · subst he
          go_wp2
          go_roundw
          case rel => exact ⟨j + 1, by omega, by go_num, FinB.out⟩
          case measure => simp [intOf]; omega
        · have he' : s.toList.isEmpty = false := by
            cases hl : s.toList with
            | nil =>
              rw [tl] at hl
              exact absurd (by rw [← of_str s, hl]; rfl) he
            | cons _ _ => rfl
          go_wp2
          go_ret
          exact ⟨⟨false, rfl⟩, Hb1.out.trans (FinB.out.mono Hb1.out.size)⟩
    · have hji : (m : Int) ≤ (j : Int) := by omega
      clear hb hcell
      go_wp2
      go_ret
      exact ⟨⟨_, rfl⟩, Hb1.out.trans (Hb.out.mono Hb1.out.size)⟩

set_option maxHeartbeats 6400000 in
theorem words_4 (nm : ByteArray) (ws : List ByteArray) (l : List Q) (hm6 : ws.length ≤ 8796093021952) (hsz : ∀ x ∈ ws, x.size ≤ 1048576) : WordsOk (.mk 4 nm ws l) := by
  intro w a0 a1 a2 a3 hQ
  obtain ⟨WA, m, wc, CA, n, c2, e, hI⟩ := hQ.is
  simp only [List.cons.injEq, and_true] at e
  obtain ⟨rfl, rfl, rfl, rfl⟩ := e
  have hb1 : Below w.heap.size w (w.alloc (.cells #[.int .i64 4, .string nm, .slice WA m wc, .slice CA n c2] 37)) := (Below.refl _ _).alloc (Nat.le_refl _) _
  have hB1 := Blk.new w 37 #[.int .i64 4, .string nm, .slice WA m wc, .slice CA n c2]
  have hz1 : w.heap.size < (w.alloc (.cells #[.int .i64 4, .string nm, .slice WA m wc, .slice CA n c2] 37)).heap.size := by simp
  have Hb1 := Lib.hid hb1
  have HB1 := Lib.hid hB1
  have hwn := hI.wn
  have hm2 : m ≤ 8796093021952 := by omega
  have hwd : ∀ i, i < m → ∀ w1, Below w.heap.size w w1 → ∃ b o, ∃ s : ByteArray, WA = some ⟨b, o, none⟩ ∧ b < w.heap.size ∧ w1.cell? ⟨b, o + i, none⟩ = some (.string s) ∧ s.size ≤ 1048576 := by
    intro i hi w1 hb
    obtain ⟨b, o, hl, e, hbb, hc⟩ := hI.wds.at_map hi
    exact ⟨b, o, ws[i], e, hbb, (hb.cell (p := ⟨b, o + i, none⟩) hbb).trans hc, hsz _ (List.getElem_mem hl)⟩
  have Hwd := Lib.hid hwd
  clear hQ hI hb1 hB1 hwd hsz hm6 hwn
  go_enter Try.func124, Try.ntmps124
  go_wp2_with fail
  generalize hw1 : (w.alloc (.cells #[.int .i64 4, .string nm, .slice WA m wc, .slice CA n c2] 37)) = w1 at *
  clear hw1
  go_loopw [3] (fun v wr => ∃ j : Nat, j ≤ m ∧ v = .int .i64 (j : Nat) ∧ Below w1.heap.size w1 wr) (fun v _ => m - (intOf v).toNat)
  case atStart => exact ⟨0, Nat.zero_le _, rfl, Below.refl _ _⟩
  case round =>
    obtain ⟨j, hj, rfl, hb⟩ := hrel
    have Hb := Lib.hid hb
    have hcell : ∀ wx, Below w1.heap.size w1 wx → wx.cell? ⟨w.heap.size, 0, none⟩ = some (.int .i64 4) ∧ wx.cell? ⟨w.heap.size, 2, none⟩ = some (.slice WA m wc) := fun wx hC => ⟨(HB1.out.below hC hz1).cell 0, (HB1.out.below hC hz1).cell 2⟩
    have hS := hcell wr hb
    by_cases hlt : j < m
    · have hji : (j : Int) < (m : Int) := by omega
      have hji0 : (0 : Int) ≤ (j : Int) := by omega
      obtain ⟨wb, wo, s, rfl, hwb, hc0, hs6⟩ := Hwd.out j hlt wr (Hb1.out.trans (hb.mono Hb1.out.size))
      have c1 := isWord_refB s wr hs6
      have Hcell := Lib.hid hcell
      have hget : ∀ wx, Below wr.heap.size wr wx → wx.cell? ⟨wb, wo + j, none⟩ = some (.string s) := fun wx hC => (hC.cell (p := ⟨wb, wo + j, none⟩) (by have := (Hb1.out.trans (Hb.out.mono Hb1.out.size)).size; show wb < _; omega)).trans hc0
      have Hget := Lib.hid hget
      clear hb hlt hcell hget
      generalize isW s.data.toList = t at *
      go_wp2_with fail
      refine c1.mono ?_
      rintro e w2 ⟨rfl, hb2⟩
      have FinB := Lib.hid (Hb.out.trans (hb2.mono Hb.out.size))
      have hS2 := Hcell.out w2 FinB.out
      have hg2 := Hget.out w2 hb2
      clear hb2 c1 hS hc0 Hcell Hget
      cases t with
      | true =>
        go_wp2
        go_roundw
        case rel => exact ⟨j + 1, by omega, by go_num, FinB.out⟩
        case measure => simp [intOf]; omega
      | false =>
        go_wp2
        go_ret
        exact ⟨⟨false, rfl⟩, Hb1.out.trans (FinB.out.mono Hb1.out.size)⟩
    · have hji : (m : Int) ≤ (j : Int) := by omega
      clear hb hcell
      go_wp2
      go_ret
      exact ⟨⟨_, rfl⟩, Hb1.out.trans (Hb.out.mono Hb1.out.size)⟩
end Go.Proofs.Ytjfconddkfihcaa.Mk
end

section
/- loggiaref18.alone: the walk (printed by gen_hitc.py). -/
namespace Go.Proofs.Ytjfconddkfihcaa.Mk
open Go.RowKit Go.Proofs.Ytjfconddkfihcaa Go.Proofs.Ytjfconddkfihcaa.Ut Go.Proofs.Ytjfconddkfihcaa.Tk Go.Proofs.Ytjfconddkfihcaa.Qy
set_option maxRecDepth 20000
set_option linter.unusedSimpArgs false

def AloneOk (q : Q) : Prop := ∀ (w : World) (a0 a1 a2 a3 : Value), QAt w w.heap.size q [a0, a1, a2, a3] →
  Calls Try.prog 99 #[.agg #[a0, a1, a2, a3]] w fun e w' => (∃ r : Int, e = .returned (.int .i64 r) ∧ (r = 0 → q.kind = 5 → q.l ≠ [])) ∧ Below w.heap.size w w'


set_option maxHeartbeats 6400000 in
theorem alone_low (k : Int) (hk : k < 1) (nm : ByteArray) (ws : List ByteArray) (l : List Q) : AloneOk (.mk k nm ws l) := by
  intro w a0 a1 a2 a3 hQ
  obtain ⟨WA, m, wc, CA, n, c2, e, hI⟩ := hQ.is
  simp only [List.cons.injEq, and_true] at e
  obtain ⟨rfl, rfl, rfl, rfl⟩ := e
  have hb1 : Below w.heap.size w (w.alloc (.cells #[.int .i64 k, .string nm, .slice WA m wc, .slice CA n c2] 37)) := (Below.refl _ _).alloc (Nat.le_refl _) _
  have hB1 := Blk.new w 37 #[.int .i64 k, .string nm, .slice WA m wc, .slice CA n c2]
  have hz1 : w.heap.size < (w.alloc (.cells #[.int .i64 k, .string nm, .slice WA m wc, .slice CA n c2] 37)).heap.size := by simp
  have Hb1 := Lib.hid hb1
  have HB1 := Lib.hid hB1
  have hne : k ≠ 5 := by omega
  have Hne := Lib.hid hne
  clear hQ hI hb1 hB1 hne
  go_enter Try.func99, Try.ntmps99
  go_wp2
  go_ret
  exact ⟨⟨170, rfl, fun _ h => absurd h Hne.out⟩, Hb1.out⟩

set_option maxHeartbeats 6400000 in
theorem alone_high (k : Int) (hk : 7 < k) (nm : ByteArray) (ws : List ByteArray) (l : List Q) : AloneOk (.mk k nm ws l) := by
  intro w a0 a1 a2 a3 hQ
  obtain ⟨WA, m, wc, CA, n, c2, e, hI⟩ := hQ.is
  simp only [List.cons.injEq, and_true] at e
  obtain ⟨rfl, rfl, rfl, rfl⟩ := e
  have hb1 : Below w.heap.size w (w.alloc (.cells #[.int .i64 k, .string nm, .slice WA m wc, .slice CA n c2] 37)) := (Below.refl _ _).alloc (Nat.le_refl _) _
  have hB1 := Blk.new w 37 #[.int .i64 k, .string nm, .slice WA m wc, .slice CA n c2]
  have hz1 : w.heap.size < (w.alloc (.cells #[.int .i64 k, .string nm, .slice WA m wc, .slice CA n c2] 37)).heap.size := by simp
  have Hb1 := Lib.hid hb1
  have HB1 := Lib.hid hB1
  have hne : k ≠ 5 := by omega
  have hk1 : 1 ≤ k := by omega
  have Hne := Lib.hid hne
  clear hQ hI hb1 hB1 hne
  go_enter Try.func99, Try.ntmps99
  go_wp2
  go_ret
  exact ⟨⟨170, rfl, fun _ h => absurd h Hne.out⟩, Hb1.out⟩

set_option maxHeartbeats 6400000 in
theorem alone_1 (nm : ByteArray) (ws : List ByteArray) (l : List Q) (hm6 : ws.length ≤ 8796093021952) (hl6 : l.length ≤ 8796093021952) : AloneOk (.mk 1 nm ws l) := by
  intro w a0 a1 a2 a3 hQ
  obtain ⟨WA, m, wc, CA, n, c2, e, hI⟩ := hQ.is
  simp only [List.cons.injEq, and_true] at e
  obtain ⟨rfl, rfl, rfl, rfl⟩ := e
  have hb1 : Below w.heap.size w (w.alloc (.cells #[.int .i64 1, .string nm, .slice WA m wc, .slice CA n c2] 37)) := (Below.refl _ _).alloc (Nat.le_refl _) _
  have hB1 := Blk.new w 37 #[.int .i64 1, .string nm, .slice WA m wc, .slice CA n c2]
  have hz1 : w.heap.size < (w.alloc (.cells #[.int .i64 1, .string nm, .slice WA m wc, .slice CA n c2] 37)).heap.size := by simp
  have Hb1 := Lib.hid hb1
  have HB1 := Lib.hid hB1
  have hm2 : m ≤ 8796093021952 := by have := hI.wn; omega
  have hn2 : n ≤ 8796093021952 := by have := hI.lm; omega
  have Hl0 : Hid (n ≠ 0 → l ≠ []) := Lib.hid (fun h e => h (by rw [← hI.lm, e]; rfl))
  clear hQ hI hb1 hB1 hm6 hl6
  by_cases hm : m = 0
  · subst hm
    by_cases hn : n = 0
    · subst hn
      clear Hl0
      go_enter Try.func99, Try.ntmps99
      go_wp2
      all_goals
        go_ret
        exact ⟨⟨_, rfl, fun _ h => absurd (show (1 : Int) = 5 from h) (by decide)⟩, Hb1.out⟩
    · have Fin := Lib.hid (Hl0.out hn)
      have hn' : ((n : Int) == 0) = false := by rw [beq_eq_false_iff_ne]; omega
      clear Hl0
      by_cases h1 : n = 1
      · subst h1
        clear hn hn'
        go_enter Try.func99, Try.ntmps99
        go_wp2
        all_goals
          go_ret
          exact ⟨⟨_, rfl, fun _ h => absurd (show (1 : Int) = 5 from h) (by decide)⟩, Hb1.out⟩
      · have h1' : ((n : Int) == 1) = false := by rw [beq_eq_false_iff_ne]; omega
        go_enter Try.func99, Try.ntmps99
        go_wp2
        all_goals
          go_ret
          exact ⟨⟨_, rfl, fun _ h => absurd (show (1 : Int) = 5 from h) (by decide)⟩, Hb1.out⟩
  · have hm' : ((m : Int) == 0) = false := by rw [beq_eq_false_iff_ne]; omega
    by_cases hn : n = 0
    · subst hn
      clear Hl0
      go_enter Try.func99, Try.ntmps99
      go_wp2
      all_goals
        go_ret
        exact ⟨⟨_, rfl, fun _ h => absurd (show (1 : Int) = 5 from h) (by decide)⟩, Hb1.out⟩
    · have Fin := Lib.hid (Hl0.out hn)
      have hn' : ((n : Int) == 0) = false := by rw [beq_eq_false_iff_ne]; omega
      clear Hl0
      by_cases h1 : n = 1
      · subst h1
        clear hn hn'
        go_enter Try.func99, Try.ntmps99
        go_wp2
        all_goals
          go_ret
          exact ⟨⟨_, rfl, fun _ h => absurd (show (1 : Int) = 5 from h) (by decide)⟩, Hb1.out⟩
      · have h1' : ((n : Int) == 1) = false := by rw [beq_eq_false_iff_ne]; omega
        go_enter Try.func99, Try.ntmps99
        go_wp2
        all_goals
          go_ret
          exact ⟨⟨_, rfl, fun _ h => absurd (show (1 : Int) = 5 from h) (by decide)⟩, Hb1.out⟩

set_option maxHeartbeats 6400000 in
theorem alone_5 (nm : ByteArray) (ws : List ByteArray) (l : List Q) (hm6 : ws.length ≤ 8796093021952) (hl6 : l.length ≤ 8796093021952) : AloneOk (.mk 5 nm ws l) := by
  intro w a0 a1 a2 a3 hQ
  obtain ⟨WA, m, wc, CA, n, c2, e, hI⟩ := hQ.is
  simp only [List.cons.injEq, and_true] at e
  obtain ⟨rfl, rfl, rfl, rfl⟩ := e
  have hb1 : Below w.heap.size w (w.alloc (.cells #[.int .i64 5, .string nm, .slice WA m wc, .slice CA n c2] 37)) := (Below.refl _ _).alloc (Nat.le_refl _) _
  have hB1 := Blk.new w 37 #[.int .i64 5, .string nm, .slice WA m wc, .slice CA n c2]
  have hz1 : w.heap.size < (w.alloc (.cells #[.int .i64 5, .string nm, .slice WA m wc, .slice CA n c2] 37)).heap.size := by simp
  have Hb1 := Lib.hid hb1
  have HB1 := Lib.hid hB1
  have hm2 : m ≤ 8796093021952 := by have := hI.wn; omega
  have hn2 : n ≤ 8796093021952 := by have := hI.lm; omega
  have Hl0 : Hid (n ≠ 0 → l ≠ []) := Lib.hid (fun h e => h (by rw [← hI.lm, e]; rfl))
  clear hQ hI hb1 hB1 hm6 hl6
  by_cases hm : m = 0
  · subst hm
    by_cases hn : n = 0
    · subst hn
      clear Hl0
      go_enter Try.func99, Try.ntmps99
      go_wp2
      all_goals
        go_ret
        exact ⟨⟨_, rfl, fun h => absurd h (by decide)⟩, Hb1.out⟩
    · have Fin := Lib.hid (Hl0.out hn)
      have hn' : ((n : Int) == 0) = false := by rw [beq_eq_false_iff_ne]; omega
      clear Hl0
      by_cases h1 : n = 1
      · subst h1
        clear hn hn'
        go_enter Try.func99, Try.ntmps99
        go_wp2
        all_goals
          go_ret
          exact ⟨⟨_, rfl, fun _ _ => Fin.out⟩, Hb1.out⟩
      · have h1' : ((n : Int) == 1) = false := by rw [beq_eq_false_iff_ne]; omega
        go_enter Try.func99, Try.ntmps99
        go_wp2
        all_goals
          go_ret
          exact ⟨⟨_, rfl, fun _ _ => Fin.out⟩, Hb1.out⟩
  · have hm' : ((m : Int) == 0) = false := by rw [beq_eq_false_iff_ne]; omega
    by_cases hn : n = 0
    · subst hn
      clear Hl0
      go_enter Try.func99, Try.ntmps99
      go_wp2
      all_goals
        go_ret
        exact ⟨⟨_, rfl, fun h => absurd h (by decide)⟩, Hb1.out⟩
    · have Fin := Lib.hid (Hl0.out hn)
      have hn' : ((n : Int) == 0) = false := by rw [beq_eq_false_iff_ne]; omega
      clear Hl0
      by_cases h1 : n = 1
      · subst h1
        clear hn hn'
        go_enter Try.func99, Try.ntmps99
        go_wp2
        all_goals
          go_ret
          exact ⟨⟨_, rfl, fun _ _ => Fin.out⟩, Hb1.out⟩
      · have h1' : ((n : Int) == 1) = false := by rw [beq_eq_false_iff_ne]; omega
        go_enter Try.func99, Try.ntmps99
        go_wp2
        all_goals
          go_ret
          exact ⟨⟨_, rfl, fun _ _ => Fin.out⟩, Hb1.out⟩

set_option maxHeartbeats 6400000 in
theorem alone_6 (nm : ByteArray) (ws : List ByteArray) (l : List Q) (hm6 : ws.length ≤ 8796093021952) (hl6 : l.length ≤ 8796093021952) : AloneOk (.mk 6 nm ws l) := by
  intro w a0 a1 a2 a3 hQ
  obtain ⟨WA, m, wc, CA, n, c2, e, hI⟩ := hQ.is
  simp only [List.cons.injEq, and_true] at e
  obtain ⟨rfl, rfl, rfl, rfl⟩ := e
  have hb1 : Below w.heap.size w (w.alloc (.cells #[.int .i64 6, .string nm, .slice WA m wc, .slice CA n c2] 37)) := (Below.refl _ _).alloc (Nat.le_refl _) _
  have hB1 := Blk.new w 37 #[.int .i64 6, .string nm, .slice WA m wc, .slice CA n c2]
  have hz1 : w.heap.size < (w.alloc (.cells #[.int .i64 6, .string nm, .slice WA m wc, .slice CA n c2] 37)).heap.size := by simp
  have Hb1 := Lib.hid hb1
  have HB1 := Lib.hid hB1
  have hm2 : m ≤ 8796093021952 := by have := hI.wn; omega
  have hn2 : n ≤ 8796093021952 := by have := hI.lm; omega
  have Hl0 : Hid (n ≠ 0 → l ≠ []) := Lib.hid (fun h e => h (by rw [← hI.lm, e]; rfl))
  clear hQ hI hb1 hB1 hm6 hl6
  by_cases hm : m = 0
  · subst hm
    by_cases hn : n = 0
    · subst hn
      clear Hl0
      go_enter Try.func99, Try.ntmps99
      go_wp2
      all_goals
        go_ret
        exact ⟨⟨_, rfl, fun _ h => absurd (show (6 : Int) = 5 from h) (by decide)⟩, Hb1.out⟩
    · have Fin := Lib.hid (Hl0.out hn)
      have hn' : ((n : Int) == 0) = false := by rw [beq_eq_false_iff_ne]; omega
      clear Hl0
      by_cases h1 : n = 1
      · subst h1
        clear hn hn'
        go_enter Try.func99, Try.ntmps99
        go_wp2
        all_goals
          go_ret
          exact ⟨⟨_, rfl, fun _ h => absurd (show (6 : Int) = 5 from h) (by decide)⟩, Hb1.out⟩
      · have h1' : ((n : Int) == 1) = false := by rw [beq_eq_false_iff_ne]; omega
        go_enter Try.func99, Try.ntmps99
        go_wp2
        all_goals
          go_ret
          exact ⟨⟨_, rfl, fun _ h => absurd (show (6 : Int) = 5 from h) (by decide)⟩, Hb1.out⟩
  · have hm' : ((m : Int) == 0) = false := by rw [beq_eq_false_iff_ne]; omega
    by_cases hn : n = 0
    · subst hn
      clear Hl0
      go_enter Try.func99, Try.ntmps99
      go_wp2
      all_goals
        go_ret
        exact ⟨⟨_, rfl, fun _ h => absurd (show (6 : Int) = 5 from h) (by decide)⟩, Hb1.out⟩
    · have Fin := Lib.hid (Hl0.out hn)
      have hn' : ((n : Int) == 0) = false := by rw [beq_eq_false_iff_ne]; omega
      clear Hl0
      by_cases h1 : n = 1
      · subst h1
        clear hn hn'
        go_enter Try.func99, Try.ntmps99
        go_wp2
        all_goals
          go_ret
          exact ⟨⟨_, rfl, fun _ h => absurd (show (6 : Int) = 5 from h) (by decide)⟩, Hb1.out⟩
      · have h1' : ((n : Int) == 1) = false := by rw [beq_eq_false_iff_ne]; omega
        go_enter Try.func99, Try.ntmps99
        go_wp2
        all_goals
          go_ret
          exact ⟨⟨_, rfl, fun _ h => absurd (show (6 : Int) = 5 from h) (by decide)⟩, Hb1.out⟩

set_option maxHeartbeats 6400000 in
theorem alone_7 (nm : ByteArray) (ws : List ByteArray) (l : List Q) (hm6 : ws.length ≤ 8796093021952) (hl6 : l.length ≤ 8796093021952) : AloneOk (.mk 7 nm ws l) := by
  intro w a0 a1 a2 a3 hQ
  obtain ⟨WA, m, wc, CA, n, c2, e, hI⟩ := hQ.is
  simp only [List.cons.injEq, and_true] at e
  obtain ⟨rfl, rfl, rfl, rfl⟩ := e
  have hb1 : Below w.heap.size w (w.alloc (.cells #[.int .i64 7, .string nm, .slice WA m wc, .slice CA n c2] 37)) := (Below.refl _ _).alloc (Nat.le_refl _) _
  have hB1 := Blk.new w 37 #[.int .i64 7, .string nm, .slice WA m wc, .slice CA n c2]
  have hz1 : w.heap.size < (w.alloc (.cells #[.int .i64 7, .string nm, .slice WA m wc, .slice CA n c2] 37)).heap.size := by simp
  have Hb1 := Lib.hid hb1
  have HB1 := Lib.hid hB1
  have hm2 : m ≤ 8796093021952 := by have := hI.wn; omega
  have hn2 : n ≤ 8796093021952 := by have := hI.lm; omega
  have Hl0 : Hid (n ≠ 0 → l ≠ []) := Lib.hid (fun h e => h (by rw [← hI.lm, e]; rfl))
  clear hQ hI hb1 hB1 hm6 hl6
  by_cases hm : m = 0
  · subst hm
    by_cases hn : n = 0
    · subst hn
      clear Hl0
      go_enter Try.func99, Try.ntmps99
      go_wp2
      all_goals
        go_ret
        exact ⟨⟨_, rfl, fun _ h => absurd (show (7 : Int) = 5 from h) (by decide)⟩, Hb1.out⟩
    · have Fin := Lib.hid (Hl0.out hn)
      have hn' : ((n : Int) == 0) = false := by rw [beq_eq_false_iff_ne]; omega
      clear Hl0
      by_cases h1 : n = 1
      · subst h1
        clear hn hn'
        go_enter Try.func99, Try.ntmps99
        go_wp2
        all_goals
          go_ret
          exact ⟨⟨_, rfl, fun _ h => absurd (show (7 : Int) = 5 from h) (by decide)⟩, Hb1.out⟩
      · have h1' : ((n : Int) == 1) = false := by rw [beq_eq_false_iff_ne]; omega
        go_enter Try.func99, Try.ntmps99
        go_wp2
        all_goals
          go_ret
          exact ⟨⟨_, rfl, fun _ h => absurd (show (7 : Int) = 5 from h) (by decide)⟩, Hb1.out⟩
  · have hm' : ((m : Int) == 0) = false := by rw [beq_eq_false_iff_ne]; omega
    by_cases hn : n = 0
    · subst hn
      clear Hl0
      go_enter Try.func99, Try.ntmps99
      go_wp2
      all_goals
        go_ret
        exact ⟨⟨_, rfl, fun _ h => absurd (show (7 : Int) = 5 from h) (by decide)⟩, Hb1.out⟩
    · have Fin := Lib.hid (Hl0.out hn)
      have hn' : ((n : Int) == 0) = false := by rw [beq_eq_false_iff_ne]; omega
      clear Hl0
      by_cases h1 : n = 1
      · subst h1
        clear hn hn'
        go_enter Try.func99, Try.ntmps99
        go_wp2
        all_goals
          go_ret
          exact ⟨⟨_, rfl, fun _ h => absurd (show (7 : Int) = 5 from h) (by decide)⟩, Hb1.out⟩
      · have h1' : ((n : Int) == 1) = false := by rw [beq_eq_false_iff_ne]; omega
        go_enter Try.func99, Try.ntmps99
        go_wp2
        all_goals
          go_ret
          exact ⟨⟨_, rfl, fun _ h => absurd (show (7 : Int) = 5 from h) (by decide)⟩, Hb1.out⟩
end Go.Proofs.Ytjfconddkfihcaa.Mk
end
