/- loggialaw34.plain, loggiaref18.Depth: the walks (printed by gen_hita.py). -/
import Derived.Test.YtjfconddkfihcaaPkMarkHitsRow21
import Derived.Test.YtjfconddkfihcaaMatchBPk
namespace Go.Proofs.Ytjfconddkfihcaa.Mk
open Go.RowKit Go.Proofs.Ytjfconddkfihcaa Go.Proofs.Ytjfconddkfihcaa.Ut Go.Proofs.Ytjfconddkfihcaa.Tk Go.Proofs.Ytjfconddkfihcaa.Qy
set_option maxRecDepth 20000
set_option linter.unusedSimpArgs false

def PlainOk (q : Q) : Prop := ∀ (w : World) (a0 a1 a2 a3 : Value), QAt w w.heap.size q [a0, a1, a2, a3] →
  Calls Try.prog 27 #[.agg #[a0, a1, a2, a3]] w fun e w' => (∃ t : Bool, e = .returned (.bool t) ∧ (t = true → PlainQ q)) ∧ Below w.heap.size w w'
def DepthOk (q : Q) : Prop := ∀ (w : World) (a0 a1 a2 a3 : Value), QAt w w.heap.size q [a0, a1, a2, a3] →
  Calls Try.prog 71 #[.agg #[a0, a1, a2, a3]] w fun e w' => (∃ r : Int, e = .returned (.int .i64 r)) ∧ Below w.heap.size w w'


set_option maxHeartbeats 6400000 in
theorem plain_7 (nm : ByteArray) (ws : List ByteArray) (l : List Q) : PlainOk (.mk 7 nm ws l) := by
  intro w a0 a1 a2 a3 hQ
  obtain ⟨WA, m, wc, CA, n, c2, e, hI⟩ := hQ.is
  simp only [List.cons.injEq, and_true] at e
  obtain ⟨rfl, rfl, rfl, rfl⟩ := e
  have hb1 : Below w.heap.size w (w.alloc (.cells #[.int .i64 7, .string nm, .slice WA m wc, .slice CA n c2] 37)) := (Below.refl _ _).alloc (Nat.le_refl _) _
  have hB1 := Blk.new w 37 #[.int .i64 7, .string nm, .slice WA m wc, .slice CA n c2]
  have hz1 : w.heap.size < (w.alloc (.cells #[.int .i64 7, .string nm, .slice WA m wc, .slice CA n c2] 37)).heap.size := by simp
  have Hb1 := Lib.hid hb1
  have HB1 := Lib.hid hB1
  clear hQ hI hb1 hB1
  go_enter Try.func27, Try.ntmps27
  go_wp2
  go_ret
  exact ⟨⟨false, rfl, fun h => by cases h⟩, Hb1.out⟩

set_option maxHeartbeats 6400000 in
theorem plain_1 (nm : ByteArray) (ws : List ByteArray) (l : List Q) : PlainOk (.mk 1 nm ws l) := by
  intro w a0 a1 a2 a3 hQ
  obtain ⟨WA, m, wc, CA, n, c2, e, hI⟩ := hQ.is
  simp only [List.cons.injEq, and_true] at e
  obtain ⟨rfl, rfl, rfl, rfl⟩ := e
  have hb1 : Below w.heap.size w (w.alloc (.cells #[.int .i64 1, .string nm, .slice WA m wc, .slice CA n c2] 37)) := (Below.refl _ _).alloc (Nat.le_refl _) _
  have hB1 := Blk.new w 37 #[.int .i64 1, .string nm, .slice WA m wc, .slice CA n c2]
  have hz1 : w.heap.size < (w.alloc (.cells #[.int .i64 1, .string nm, .slice WA m wc, .slice CA n c2] 37)).heap.size := by simp
  have Hb1 := Lib.hid hb1
  have HB1 := Lib.hid hB1
  clear hQ hI hb1 hB1
  go_enter Try.func27, Try.ntmps27
  go_wp2
  go_ret
  exact ⟨⟨false, rfl, fun h => by cases h⟩, Hb1.out⟩

set_option maxHeartbeats 6400000 in
theorem plain_in (k : Int) (h7 : k ≠ 7) (h1 : k ≠ 1) (nm : ByteArray) (ws : List ByteArray) (l : List Q) (hl6 : l.length ≤ 8796093021952) (ih : ∀ x ∈ l, PlainOk x) : PlainOk (.mk k nm ws l) := by
  intro w a0 a1 a2 a3 hQ
  obtain ⟨WA, m, wc, CA, n, c2, e, hI⟩ := hQ.is
  simp only [List.cons.injEq, and_true] at e
  obtain ⟨rfl, rfl, rfl, rfl⟩ := e
  have hb1 : Below w.heap.size w (w.alloc (.cells #[.int .i64 k, .string nm, .slice WA m wc, .slice CA n c2] 37)) := (Below.refl _ _).alloc (Nat.le_refl _) _
  have hB1 := Blk.new w 37 #[.int .i64 k, .string nm, .slice WA m wc, .slice CA n c2]
  have hz1 : w.heap.size < (w.alloc (.cells #[.int .i64 k, .string nm, .slice WA m wc, .slice CA n c2] 37)).heap.size := by simp
  have Hb1 := Lib.hid hb1
  have HB1 := Lib.hid hB1
  have hlm := hI.lm
  have hn6 : n ≤ 8796093021952 := by omega
  have hkid : ∀ j (hj : j < l.length), ∀ w1, Below w.heap.size w w1 → ∃ b o A' n' c' C' m' d', CA = some ⟨b, o, none⟩ ∧ b < w.heap.size ∧
      w1.cell? ⟨b, o + j * 4, none⟩ = some (.int .i64 l[j].kind) ∧ w1.cell? ⟨b, o + j * 4 + 1, none⟩ = some (.string l[j].name) ∧ w1.cell? ⟨b, o + j * 4 + 2, none⟩ = some (.slice A' n' c') ∧ w1.cell? ⟨b, o + j * 4 + 3, none⟩ = some (.slice C' m' d') ∧
      Calls Try.prog 27 #[.agg #[.int .i64 l[j].kind, .string l[j].name, .slice A' n' c', .slice C' m' d']] w1 fun e w' => (∃ t : Bool, e = .returned (.bool t) ∧ (t = true → PlainQ l[j])) ∧ Below w1.heap.size w1 w' := by
    intro j hj w1 hb
    obtain ⟨tb, tq, A', n', c', C', m', d', rfl, htb, hq, hc0, hc1, hc2, hc3⟩ := hI.at_ hj
    exact ⟨tb, tq, A', n', c', C', m', d', rfl, htb, (hb.cell (p := ⟨tb, tq + j * 4, none⟩) htb).trans hc0, (hb.cell (p := ⟨tb, tq + j * 4 + 1, none⟩) htb).trans hc1, (hb.cell (p := ⟨tb, tq + j * 4 + 2, none⟩) htb).trans hc2, (hb.cell (p := ⟨tb, tq + j * 4 + 3, none⟩) htb).trans hc3, ih _ (List.getElem_mem hj) w1 _ _ _ _ (hq.grow hb)⟩
  have Hlm := Lib.hid hlm
  have Hkid := Lib.hid hkid
  have h7' : (k == 7) = false := by simpa using h7
  have h1' : (k == 1) = false := by simpa using h1
  have hfin : (∀ x ∈ l.take n, PlainQ x) → PlainQ (.mk k nm ws l) := fun h => .mk h7 h1 (fun x hx => h x (by rw [← hlm, List.take_length]; exact hx))
  have hnx : ∀ j (hj : j < l.length), (∀ x ∈ l.take j, PlainQ x) → PlainQ l[j] → ∀ x ∈ l.take (j + 1), PlainQ x := fun j hj h h' x hx => by
    rw [List.take_succ_eq_append_getElem hj, List.mem_append] at hx
    rcases hx with hx | hx
    · exact h x hx
    · rw [List.mem_singleton] at hx; rw [hx]; exact h'
  have Hfin := Lib.hid hfin
  have Hnx := Lib.hid hnx
  clear hQ hI hb1 hB1 hkid ih hl6 hlm hfin hnx h7 h1
  go_enter Try.func27, Try.ntmps27
  go_wp2_with fail
  generalize hw1 : (w.alloc (.cells #[.int .i64 k, .string nm, .slice WA m wc, .slice CA n c2] 37)) = w1 at *
  clear hw1
  go_loopw [3] (fun v wr => ∃ j : Nat, j ≤ n ∧ v = .int .i64 (j : Nat) ∧ Hid (∀ x ∈ l.take j, PlainQ x) ∧ Below w1.heap.size w1 wr) (fun v _ => n - (intOf v).toNat)
  case atStart => exact ⟨0, Nat.zero_le _, rfl, Lib.hid (fun x hx => by simp at hx), Below.refl _ _⟩
  case round =>
    obtain ⟨j, hj, rfl, hS, hb⟩ := hrel
    have Hb := Lib.hid hb
    have hls := (hb.cell (p := ⟨w.heap.size, 3, none⟩) (by show w.heap.size < _; exact hz1)).trans (HB1.out.cell 3)
    simp at hls
    by_cases hlt : j < n
    · have hjl : j < l.length := by rw [Hlm.out]; exact hlt
      have hji : (j : Int) < (n : Int) := by omega
      have hji0 : (0 : Int) ≤ (j : Int) := by omega
      obtain ⟨tb, tq, A', n', c', C', m', d', rfl, htb, hc0, hc1, hc2', hc3, c1⟩ := Hkid.out j hjl wr (Hb1.out.trans (hb.mono Hb1.out.size))
      have Hmm : Hid (PlainQ l[j] → ∀ x ∈ l.take (j + 1), PlainQ x) := Lib.hid (Hnx.out j hjl hS.out)
      clear hb hS hlt
      generalize l[j] = y at *
      generalize (y).kind = x0 at *
      generalize (y).name = x1 at *
      go_wp2_with fail
      refine c1.mono ?_
      rintro e w2 ⟨⟨t, rfl, ht⟩, hb2⟩
      have Ht := Lib.hid ht
      have FinB := Lib.hid (Hb.out.trans (hb2.mono Hb.out.size))
      clear hb2 c1 ht
      cases t with
      | true =>
        go_wp2
        go_roundw
        case rel => exact ⟨j + 1, by omega, by go_num, Lib.hid (Hmm.out (Ht.out (by trivial))), FinB.out⟩
        case measure => simp [intOf]; omega
      | false =>
        go_wp2
        go_ret
        exact ⟨⟨false, rfl, fun h => by cases h⟩, Hb1.out.trans (FinB.out.mono Hb1.out.size)⟩
    · have hji : (n : Int) ≤ (j : Int) := by omega
      have e : n = j := by omega
      have Fin : Hid (PlainQ (.mk k nm ws l)) := Lib.hid (Hfin.out (by rw [e]; exact hS.out))
      clear hb hS e
      go_wp2
      go_ret
      exact ⟨⟨true, rfl, fun _ => Fin.out⟩, Hb1.out.trans (Hb.out.mono Hb1.out.size)⟩

theorem plain_any : ∀ q, QSz q → PlainOk q := by
  refine Q.ind (p := fun q => QSz q → PlainOk q) (fun k nm ws l ih h => ?_)
  cases h with
  | mk g1 g2 g3 =>
    by_cases h7 : k = 7
    · subst h7; exact plain_7 nm ws l
    by_cases h1 : k = 1
    · subst h1; exact plain_1 nm ws l
    exact plain_in k h7 h1 nm ws l g2 (fun x hx => ih x hx (g3 x hx))

set_option maxHeartbeats 6400000 in
theorem depth_one (k : Int) (h5 : k ≠ 5) (h6 : k ≠ 6) (h7 : k ≠ 7) (nm : ByteArray) (ws : List ByteArray) (l : List Q) : DepthOk (.mk k nm ws l) := by
  intro w a0 a1 a2 a3 hQ
  obtain ⟨WA, m, wc, CA, n, c2, e, hI⟩ := hQ.is
  simp only [List.cons.injEq, and_true] at e
  obtain ⟨rfl, rfl, rfl, rfl⟩ := e
  have hb1 : Below w.heap.size w (w.alloc (.cells #[.int .i64 k, .string nm, .slice WA m wc, .slice CA n c2] 37)) := (Below.refl _ _).alloc (Nat.le_refl _) _
  have hB1 := Blk.new w 37 #[.int .i64 k, .string nm, .slice WA m wc, .slice CA n c2]
  have hz1 : w.heap.size < (w.alloc (.cells #[.int .i64 k, .string nm, .slice WA m wc, .slice CA n c2] 37)).heap.size := by simp
  have Hb1 := Lib.hid hb1
  have HB1 := Lib.hid hB1
  have h5' : (k == 5) = false := by simpa using h5
  have h6' : (k == 6) = false := by simpa using h6
  have h7' : (k == 7) = false := by simpa using h7
  have g5 : (k != 5) = true := by simpa using h5
  have g6 : (k != 6) = true := by simpa using h6
  have g7 : (k != 7) = true := by simpa using h7
  clear hQ hI hb1 hB1 h5 h6 h7
  go_enter Try.func71, Try.ntmps71
  go_wp2
  go_ret
  exact ⟨⟨1, rfl⟩, Hb1.out⟩

set_option maxHeartbeats 6400000 in
theorem depth_5 (nm : ByteArray) (ws : List ByteArray) (l : List Q) (hl6 : l.length ≤ 8796093021952) (ih : ∀ x ∈ l, DepthOk x) : DepthOk (.mk 5 nm ws l) := by
  intro w a0 a1 a2 a3 hQ
  obtain ⟨WA, m, wc, CA, n, c2, e, hI⟩ := hQ.is
  simp only [List.cons.injEq, and_true] at e
  obtain ⟨rfl, rfl, rfl, rfl⟩ := e
  have hb1 : Below w.heap.size w (w.alloc (.cells #[.int .i64 5, .string nm, .slice WA m wc, .slice CA n c2] 37)) := (Below.refl _ _).alloc (Nat.le_refl _) _
  have hB1 := Blk.new w 37 #[.int .i64 5, .string nm, .slice WA m wc, .slice CA n c2]
  have hz1 : w.heap.size < (w.alloc (.cells #[.int .i64 5, .string nm, .slice WA m wc, .slice CA n c2] 37)).heap.size := by simp
  have Hb1 := Lib.hid hb1
  have HB1 := Lib.hid hB1
  have hlm := hI.lm
  have hn6 : n ≤ 8796093021952 := by omega
  have hkid : ∀ j (hj : j < l.length), ∀ w1, Below w.heap.size w w1 → ∃ b o A' n' c' C' m' d', CA = some ⟨b, o, none⟩ ∧ b < w.heap.size ∧
      w1.cell? ⟨b, o + j * 4, none⟩ = some (.int .i64 l[j].kind) ∧ w1.cell? ⟨b, o + j * 4 + 1, none⟩ = some (.string l[j].name) ∧ w1.cell? ⟨b, o + j * 4 + 2, none⟩ = some (.slice A' n' c') ∧ w1.cell? ⟨b, o + j * 4 + 3, none⟩ = some (.slice C' m' d') ∧
      Calls Try.prog 71 #[.agg #[.int .i64 l[j].kind, .string l[j].name, .slice A' n' c', .slice C' m' d']] w1 fun e w' => (∃ r : Int, e = .returned (.int .i64 r)) ∧ Below w1.heap.size w1 w' := by
    intro j hj w1 hb
    obtain ⟨tb, tq, A', n', c', C', m', d', rfl, htb, hq, hc0, hc1, hc2, hc3⟩ := hI.at_ hj
    exact ⟨tb, tq, A', n', c', C', m', d', rfl, htb, (hb.cell (p := ⟨tb, tq + j * 4, none⟩) htb).trans hc0, (hb.cell (p := ⟨tb, tq + j * 4 + 1, none⟩) htb).trans hc1, (hb.cell (p := ⟨tb, tq + j * 4 + 2, none⟩) htb).trans hc2, (hb.cell (p := ⟨tb, tq + j * 4 + 3, none⟩) htb).trans hc3, ih _ (List.getElem_mem hj) w1 _ _ _ _ (hq.grow hb)⟩
  have Hlm := Lib.hid hlm
  have Hkid := Lib.hid hkid
  clear hQ hI hb1 hB1 hkid ih hl6 hlm
  go_enter Try.func71, Try.ntmps71
  go_wp2_with fail
  generalize hw1 : (w.alloc (.cells #[.int .i64 5, .string nm, .slice WA m wc, .slice CA n c2] 37)) = w1 at *
  clear hw1
  go_loopw [3, 4] (fun d v wr => ∃ (j : Nat) (z : Int), j ≤ n ∧ v = .int .i64 (j : Nat) ∧ d = .int .i64 z ∧ Below w1.heap.size w1 wr) (fun _ v _ => n - (intOf v).toNat)
  case atStart => exact ⟨0, 0, Nat.zero_le _, rfl, rfl, Below.refl _ _⟩
  case round =>
    obtain ⟨j, z, hj, rfl, rfl, hb⟩ := hrel
    have Hb := Lib.hid hb
    have hls := (hb.cell (p := ⟨w.heap.size, 3, none⟩) (by show w.heap.size < _; exact hz1)).trans (HB1.out.cell 3)
    simp at hls
    by_cases hlt : j < n
    · have hjl : j < l.length := by rw [Hlm.out]; exact hlt
      have hji : (j : Int) < (n : Int) := by omega
      have hji0 : (0 : Int) ≤ (j : Int) := by omega
      obtain ⟨tb, tq, A', n', c', C', m', d', rfl, htb, hc0, hc1, hc2', hc3, c1⟩ := Hkid.out j hjl wr (Hb1.out.trans (hb.mono Hb1.out.size))
      clear hb hlt
      generalize (l[j]).kind = x0 at *
      generalize (l[j]).name = x1 at *
      go_wp2_with fail
      refine c1.mono ?_
      rintro e w2 ⟨⟨r, rfl⟩, hb2⟩
      have FinB := Lib.hid (Hb.out.trans (hb2.mono Hb.out.size))
      clear hb2 c1
      go_wp2
      go_roundw
      case rel => exact ⟨j + 1, _, by omega, by go_num, rfl, FinB.out⟩
      case measure => simp [intOf]; omega
    · have hji : (n : Int) ≤ (j : Int) := by omega
      clear hb
      go_wp2
      go_ret
      exact ⟨⟨_, rfl⟩, Hb1.out.trans (Hb.out.mono Hb1.out.size)⟩

set_option maxHeartbeats 6400000 in
theorem depth_6 (nm : ByteArray) (ws : List ByteArray) (l : List Q) (hl6 : l.length ≤ 8796093021952) (ih : ∀ x ∈ l, DepthOk x) : DepthOk (.mk 6 nm ws l) := by
  intro w a0 a1 a2 a3 hQ
  obtain ⟨WA, m, wc, CA, n, c2, e, hI⟩ := hQ.is
  simp only [List.cons.injEq, and_true] at e
  obtain ⟨rfl, rfl, rfl, rfl⟩ := e
  have hb1 : Below w.heap.size w (w.alloc (.cells #[.int .i64 6, .string nm, .slice WA m wc, .slice CA n c2] 37)) := (Below.refl _ _).alloc (Nat.le_refl _) _
  have hB1 := Blk.new w 37 #[.int .i64 6, .string nm, .slice WA m wc, .slice CA n c2]
  have hz1 : w.heap.size < (w.alloc (.cells #[.int .i64 6, .string nm, .slice WA m wc, .slice CA n c2] 37)).heap.size := by simp
  have Hb1 := Lib.hid hb1
  have HB1 := Lib.hid hB1
  have hlm := hI.lm
  have hn6 : n ≤ 8796093021952 := by omega
  have hkid : ∀ j (hj : j < l.length), ∀ w1, Below w.heap.size w w1 → ∃ b o A' n' c' C' m' d', CA = some ⟨b, o, none⟩ ∧ b < w.heap.size ∧
      w1.cell? ⟨b, o + j * 4, none⟩ = some (.int .i64 l[j].kind) ∧ w1.cell? ⟨b, o + j * 4 + 1, none⟩ = some (.string l[j].name) ∧ w1.cell? ⟨b, o + j * 4 + 2, none⟩ = some (.slice A' n' c') ∧ w1.cell? ⟨b, o + j * 4 + 3, none⟩ = some (.slice C' m' d') ∧
      Calls Try.prog 71 #[.agg #[.int .i64 l[j].kind, .string l[j].name, .slice A' n' c', .slice C' m' d']] w1 fun e w' => (∃ r : Int, e = .returned (.int .i64 r)) ∧ Below w1.heap.size w1 w' := by
    intro j hj w1 hb
    obtain ⟨tb, tq, A', n', c', C', m', d', rfl, htb, hq, hc0, hc1, hc2, hc3⟩ := hI.at_ hj
    exact ⟨tb, tq, A', n', c', C', m', d', rfl, htb, (hb.cell (p := ⟨tb, tq + j * 4, none⟩) htb).trans hc0, (hb.cell (p := ⟨tb, tq + j * 4 + 1, none⟩) htb).trans hc1, (hb.cell (p := ⟨tb, tq + j * 4 + 2, none⟩) htb).trans hc2, (hb.cell (p := ⟨tb, tq + j * 4 + 3, none⟩) htb).trans hc3, ih _ (List.getElem_mem hj) w1 _ _ _ _ (hq.grow hb)⟩
  have Hlm := Lib.hid hlm
  have Hkid := Lib.hid hkid
  clear hQ hI hb1 hB1 hkid ih hl6 hlm
  go_enter Try.func71, Try.ntmps71
  go_wp2_with fail
  generalize hw1 : (w.alloc (.cells #[.int .i64 6, .string nm, .slice WA m wc, .slice CA n c2] 37)) = w1 at *
  clear hw1
  go_loopw [3, 4] (fun d v wr => ∃ (j : Nat) (z : Int), j ≤ n ∧ v = .int .i64 (j : Nat) ∧ d = .int .i64 z ∧ Below w1.heap.size w1 wr) (fun _ v _ => n - (intOf v).toNat)
  case atStart => exact ⟨0, 0, Nat.zero_le _, rfl, rfl, Below.refl _ _⟩
  case round =>
    obtain ⟨j, z, hj, rfl, rfl, hb⟩ := hrel
    have Hb := Lib.hid hb
    have hls := (hb.cell (p := ⟨w.heap.size, 3, none⟩) (by show w.heap.size < _; exact hz1)).trans (HB1.out.cell 3)
    simp at hls
    by_cases hlt : j < n
    · have hjl : j < l.length := by rw [Hlm.out]; exact hlt
      have hji : (j : Int) < (n : Int) := by omega
      have hji0 : (0 : Int) ≤ (j : Int) := by omega
      obtain ⟨tb, tq, A', n', c', C', m', d', rfl, htb, hc0, hc1, hc2', hc3, c1⟩ := Hkid.out j hjl wr (Hb1.out.trans (hb.mono Hb1.out.size))
      clear hb hlt
      generalize (l[j]).kind = x0 at *
      generalize (l[j]).name = x1 at *
      go_wp2_with fail
      refine c1.mono ?_
      rintro e w2 ⟨⟨r, rfl⟩, hb2⟩
      have FinB := Lib.hid (Hb.out.trans (hb2.mono Hb.out.size))
      clear hb2 c1
      go_wp2
      go_roundw
      case rel => exact ⟨j + 1, _, by omega, by go_num, rfl, FinB.out⟩
      case measure => simp [intOf]; omega
    · have hji : (n : Int) ≤ (j : Int) := by omega
      clear hb
      go_wp2
      go_ret
      exact ⟨⟨_, rfl⟩, Hb1.out.trans (Hb.out.mono Hb1.out.size)⟩

set_option maxHeartbeats 6400000 in
theorem depth_7 (nm : ByteArray) (ws : List ByteArray) (l : List Q) (hl6 : l.length ≤ 8796093021952) (ih : ∀ x ∈ l, DepthOk x) : DepthOk (.mk 7 nm ws l) := by
  intro w a0 a1 a2 a3 hQ
  obtain ⟨WA, m, wc, CA, n, c2, e, hI⟩ := hQ.is
  simp only [List.cons.injEq, and_true] at e
  obtain ⟨rfl, rfl, rfl, rfl⟩ := e
  have hb1 : Below w.heap.size w (w.alloc (.cells #[.int .i64 7, .string nm, .slice WA m wc, .slice CA n c2] 37)) := (Below.refl _ _).alloc (Nat.le_refl _) _
  have hB1 := Blk.new w 37 #[.int .i64 7, .string nm, .slice WA m wc, .slice CA n c2]
  have hz1 : w.heap.size < (w.alloc (.cells #[.int .i64 7, .string nm, .slice WA m wc, .slice CA n c2] 37)).heap.size := by simp
  have Hb1 := Lib.hid hb1
  have HB1 := Lib.hid hB1
  have hlm := hI.lm
  have hn6 : n ≤ 8796093021952 := by omega
  have hkid : ∀ j (hj : j < l.length), ∀ w1, Below w.heap.size w w1 → ∃ b o A' n' c' C' m' d', CA = some ⟨b, o, none⟩ ∧ b < w.heap.size ∧
      w1.cell? ⟨b, o + j * 4, none⟩ = some (.int .i64 l[j].kind) ∧ w1.cell? ⟨b, o + j * 4 + 1, none⟩ = some (.string l[j].name) ∧ w1.cell? ⟨b, o + j * 4 + 2, none⟩ = some (.slice A' n' c') ∧ w1.cell? ⟨b, o + j * 4 + 3, none⟩ = some (.slice C' m' d') ∧
      Calls Try.prog 71 #[.agg #[.int .i64 l[j].kind, .string l[j].name, .slice A' n' c', .slice C' m' d']] w1 fun e w' => (∃ r : Int, e = .returned (.int .i64 r)) ∧ Below w1.heap.size w1 w' := by
    intro j hj w1 hb
    obtain ⟨tb, tq, A', n', c', C', m', d', rfl, htb, hq, hc0, hc1, hc2, hc3⟩ := hI.at_ hj
    exact ⟨tb, tq, A', n', c', C', m', d', rfl, htb, (hb.cell (p := ⟨tb, tq + j * 4, none⟩) htb).trans hc0, (hb.cell (p := ⟨tb, tq + j * 4 + 1, none⟩) htb).trans hc1, (hb.cell (p := ⟨tb, tq + j * 4 + 2, none⟩) htb).trans hc2, (hb.cell (p := ⟨tb, tq + j * 4 + 3, none⟩) htb).trans hc3, ih _ (List.getElem_mem hj) w1 _ _ _ _ (hq.grow hb)⟩
  have Hlm := Lib.hid hlm
  have Hkid := Lib.hid hkid
  clear hQ hI hb1 hB1 hkid ih hl6 hlm
  go_enter Try.func71, Try.ntmps71
  go_wp2_with fail
  generalize hw1 : (w.alloc (.cells #[.int .i64 7, .string nm, .slice WA m wc, .slice CA n c2] 37)) = w1 at *
  clear hw1
  go_loopw [3, 4] (fun d v wr => ∃ (j : Nat) (z : Int), j ≤ n ∧ v = .int .i64 (j : Nat) ∧ d = .int .i64 z ∧ Below w1.heap.size w1 wr) (fun _ v _ => n - (intOf v).toNat)
  case atStart => exact ⟨0, 0, Nat.zero_le _, rfl, rfl, Below.refl _ _⟩
  case round =>
    obtain ⟨j, z, hj, rfl, rfl, hb⟩ := hrel
    have Hb := Lib.hid hb
    have hls := (hb.cell (p := ⟨w.heap.size, 3, none⟩) (by show w.heap.size < _; exact hz1)).trans (HB1.out.cell 3)
    simp at hls
    by_cases hlt : j < n
    · have hjl : j < l.length := by rw [Hlm.out]; exact hlt
      have hji : (j : Int) < (n : Int) := by omega
      have hji0 : (0 : Int) ≤ (j : Int) := by omega
      obtain ⟨tb, tq, A', n', c', C', m', d', rfl, htb, hc0, hc1, hc2', hc3, c1⟩ := Hkid.out j hjl wr (Hb1.out.trans (hb.mono Hb1.out.size))
      clear hb hlt
      generalize (l[j]).kind = x0 at *
      generalize (l[j]).name = x1 at *
      go_wp2_with fail
      refine c1.mono ?_
      rintro e w2 ⟨⟨r, rfl⟩, hb2⟩
      have FinB := Lib.hid (Hb.out.trans (hb2.mono Hb.out.size))
      clear hb2 c1
      go_wp2
      go_roundw
      case rel => exact ⟨j + 1, _, by omega, by go_num, rfl, FinB.out⟩
      case measure => simp [intOf]; omega
    · have hji : (n : Int) ≤ (j : Int) := by omega
      clear hb
      go_wp2
      go_ret
      exact ⟨⟨_, rfl⟩, Hb1.out.trans (Hb.out.mono Hb1.out.size)⟩

theorem depth_any : ∀ q, QSz q → DepthOk q := by
  refine Q.ind (p := fun q => QSz q → DepthOk q) (fun k nm ws l ih h => ?_)
  cases h with
  | mk g1 g2 g3 =>
    by_cases h5 : k = 5
    · subst h5; exact depth_5 nm ws l g2 (fun x hx => ih x hx (g3 x hx))
    by_cases h6 : k = 6
    · subst h6; exact depth_6 nm ws l g2 (fun x hx => ih x hx (g3 x hx))
    by_cases h7 : k = 7
    · subst h7; exact depth_7 nm ws l g2 (fun x hx => ih x hx (g3 x hx))
    exact depth_one k h5 h6 h7 nm ws l
end Go.Proofs.Ytjfconddkfihcaa.Mk
