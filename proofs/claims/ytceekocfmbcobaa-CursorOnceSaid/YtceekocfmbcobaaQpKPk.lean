/- many, depth of queries, the program's and the document's: the walks (printed by gen_qpk.py). -/
import Derived.Test.YtceekocfmbcobaaQpJPk
namespace Go.Proofs.Ytceekocfmbcobaa.Qp
open Go.RowKit Go.Proofs.Ytceekocfmbcobaa Go.Proofs.Ytceekocfmbcobaa.Ut Go.Proofs.Ytceekocfmbcobaa.Tk Go.Proofs.Ytceekocfmbcobaa.Qy
set_option maxRecDepth 20000
set_option linter.unusedSimpArgs false

mutual
/-- How deep a query is. -/
def depthN : Q → Nat
  | .mk _ _ _ l => depthL l + 1
def depthL : List Q → Nat
  | [] => 0
  | q :: l => max (depthN q) (depthL l)
end
mutual
/-- Has something in a query too many parts, or words? -/
def manyB : Q → Bool
  | .mk _ _ ws l => decide (32 < l.length) || decide (16 < ws.length) || manyL l
def manyL : List Q → Bool
  | [] => false
  | q :: l => manyB q || manyL l
end
theorem depthN_eq (k : Int) (nm : ByteArray) (ws : List ByteArray) (l : List Q) : depthN (.mk k nm ws l) = depthL l + 1 := by rw [depthN]
theorem manyB_eq (k : Int) (nm : ByteArray) (ws : List ByteArray) (l : List Q) : manyB (.mk k nm ws l) = (decide (32 < l.length) || decide (16 < ws.length) || manyL l) := by rw [manyB]
theorem depthL_append : ∀ a b, depthL (a ++ b) = max (depthL a) (depthL b)
  | [], b => by simp [depthL]
  | q :: a, b => by rw [List.cons_append, depthL, depthL, depthL_append a b, Nat.max_assoc]
theorem manyL_append : ∀ a b, manyL (a ++ b) = (manyL a || manyL b)
  | [], b => by simp [manyL]
  | q :: a, b => by rw [List.cons_append, manyL, manyL, manyL_append a b, Bool.or_assoc]
theorem depthL_take (l : List Q) (k : Nat) (h : k < l.length) : depthL (l.take (k + 1)) = max (depthL (l.take k)) (depthN l[k]) := by
  rw [List.take_succ_eq_append_getElem h, depthL_append]
  simp [depthL]
theorem manyL_take (l : List Q) (k : Nat) (h : k < l.length) : manyL (l.take (k + 1)) = (manyL (l.take k) || manyB l[k]) := by
  rw [List.take_succ_eq_append_getElem h, manyL_append]
  simp [manyL]
theorem manyL_some (l : List Q) (k : Nat) (h : k < l.length) (hb : manyB l[k] = true) : manyL l = true := by
  have e : l = l.take k ++ l[k] :: l.drop (k + 1) := by rw [← List.drop_eq_getElem_cons h, List.take_append_drop]
  rw [e, manyL_append, manyL, hb]
  simp
/-- A query of some sizes, not deeper than K. -/
inductive QW : Nat → Q → Prop
  | mk {K : Nat} {k : Int} {nm : ByteArray} {ws : List ByteArray} {l : List Q} (h1 : ws.length ≤ 8796093021952) (h2 : l.length ≤ 8796093021952) (h3 : ∀ x ∈ l, QW K x) : QW (K + 1) (.mk k nm ws l)
theorem QW.more {K : Nat} {q : Q} (h : QW K q) : ∀ K', K ≤ K' → QW K' q := by
  induction h with
  | mk h1 h2 h3 ih =>
    intro K' hK
    obtain ⟨K2, rfl⟩ : ∃ K2, K' = K2 + 1 := ⟨K' - 1, by omega⟩
    exact .mk h1 h2 fun x hx => ih x hx K2 (by omega)
theorem QW.depth {K : Nat} {q : Q} (h : QW K q) : depthN q ≤ K := by
  induction h with
  | @mk K k nm ws l h1 h2 h3 ih =>
    rw [depthN_eq]
    have : ∀ l' : List Q, (∀ x ∈ l', depthN x ≤ K) → depthL l' ≤ K := by
      intro l'
      induction l' with
      | nil => intro _; simp [depthL]
      | cons q l' ih2 =>
        intro h
        rw [depthL]
        have := h q (by simp)
        have := ih2 (fun x hx => h x (by simp [hx]))
        omega
    have := this l ih
    omega
def ManyOk (F : Nat) (q : Q) : Prop := ∀ (w : World) (a0 a1 a2 a3 : Value), QAt w w.heap.size q [a0, a1, a2, a3] →
  Calls Try.prog F #[.agg #[a0, a1, a2, a3]] w fun e w' => e = .returned (.bool (manyB q)) ∧ Below w.heap.size w w'
def DepOk (F : Nat) (q : Q) : Prop := ∀ (w : World) (a0 a1 a2 a3 : Value), QAt w w.heap.size q [a0, a1, a2, a3] →
  Calls Try.prog F #[.agg #[a0, a1, a2, a3]] w fun e w' => e = .returned (.int .i64 (depthN q : Nat)) ∧ Below w.heap.size w w'


set_option maxHeartbeats 6400000 in
theorem many_ref1 (k : Int) (nm : ByteArray) (ws : List ByteArray) (l : List Q) (hl6 : l.length ≤ 8796093021952) (hw6 : ws.length ≤ 8796093021952) (ih : ∀ x ∈ l, ManyOk 39 x) : ManyOk 39 (.mk k nm ws l) := by
  intro w a0 a1 a2 a3 hQ
  obtain ⟨WA, m, wc, CA, n, c2, e, hI⟩ := hQ.is
  simp only [List.cons.injEq, and_true] at e
  obtain ⟨rfl, rfl, rfl, rfl⟩ := e
  have hb1 : Below w.heap.size w (w.alloc (.cells #[.int .i64 k, .string nm, .slice WA m wc, .slice CA n c2] 29)) := (Below.refl _ _).alloc (Nat.le_refl _) _
  have hB1 := Blk.new w 29 #[.int .i64 k, .string nm, .slice WA m wc, .slice CA n c2]
  have hz1 : w.heap.size < (w.alloc (.cells #[.int .i64 k, .string nm, .slice WA m wc, .slice CA n c2] 29)).heap.size := by simp
  have Hb1 := Lib.hid hb1
  have HB1 := Lib.hid hB1
  have hlm := hI.lm
  have hn6 : n ≤ 8796093021952 := by omega
  have hkid : ∀ j (hj : j < l.length), ∀ w1, Below w.heap.size w w1 → ∃ b o A' n' c' C' m' d', CA = some ⟨b, o, none⟩ ∧ b < w.heap.size ∧
      w1.cell? ⟨b, o + j * 4, none⟩ = some (.int .i64 l[j].kind) ∧ w1.cell? ⟨b, o + j * 4 + 1, none⟩ = some (.string l[j].name) ∧ w1.cell? ⟨b, o + j * 4 + 2, none⟩ = some (.slice A' n' c') ∧ w1.cell? ⟨b, o + j * 4 + 3, none⟩ = some (.slice C' m' d') ∧
      ∀ w2, Below w1.heap.size w1 w2 → Calls Try.prog 39 #[.agg #[.int .i64 l[j].kind, .string l[j].name, .slice A' n' c', .slice C' m' d']] w2 fun e w' => e = .returned (.bool (manyB l[j])) ∧ Below w2.heap.size w2 w' := by
    intro j hj w1 hb
    obtain ⟨tb, tq, A', n', c', C', m', d', rfl, htb, hq, hc0, hc1, hc2, hc3⟩ := hI.at_ hj
    exact ⟨tb, tq, A', n', c', C', m', d', rfl, htb, (hb.cell (p := ⟨tb, tq + j * 4, none⟩) htb).trans hc0, (hb.cell (p := ⟨tb, tq + j * 4 + 1, none⟩) htb).trans hc1, (hb.cell (p := ⟨tb, tq + j * 4 + 2, none⟩) htb).trans hc2, (hb.cell (p := ⟨tb, tq + j * 4 + 3, none⟩) htb).trans hc3, fun w2 hb2 => ih _ (List.getElem_mem hj) w2 _ _ _ _ ((hq.grow hb).grow hb2)⟩
  have Hlm := Lib.hid hlm
  have Hkid := Lib.hid hkid
  have hwm := hI.wn
  have hm6 : m ≤ 8796093021952 := by omega
  have Fin := Lib.hid (manyB_eq k nm ws l)
  have Hms := Lib.hid (manyL_some l)
  have Hmt := Lib.hid (manyL_take l)
  clear hQ hI hb1 hB1 hkid ih
  by_cases h32 : 32 < n
  · have h32' : (32 : Int) < (n : Int) := by omega
    have Fin2 : Hid (manyB (.mk k nm ws l) = true) := Lib.hid (by rw [Fin.out, decide_eq_true (by omega)]; rfl)
    clear hlm hwm h32
    go_enter Try.func39, Try.ntmps39
    go_wp2
    go_ret
    exact ⟨by rw [Fin2.out]; first | done | rfl, Hb1.out⟩
  have h32' : (n : Int) ≤ 32 := by omega
  by_cases h16 : 16 < m
  · have h16' : (16 : Int) < (m : Int) := by omega
    have Fin2 : Hid (manyB (.mk k nm ws l) = true) := Lib.hid (by rw [Fin.out, decide_eq_true (p := 16 < ws.length) (by omega)]; simp)
    clear hlm hwm h32 h16
    go_enter Try.func39, Try.ntmps39
    go_wp2
    go_ret
    exact ⟨by rw [Fin2.out]; first | done | rfl, Hb1.out⟩
  have h16' : (m : Int) ≤ 16 := by omega
  have Fin2 : Hid (manyB (.mk k nm ws l) = manyL l) := Lib.hid (by rw [Fin.out, decide_eq_false (by omega), decide_eq_false (by omega)]; rfl)
  clear hlm hwm h32 h16 Fin hl6 hw6
  go_enter Try.func39, Try.ntmps39
  go_wp2_with fail
  generalize hw1 : (w.alloc (.cells #[.int .i64 k, .string nm, .slice WA m wc, .slice CA n c2] 29)) = w1 at *
  clear hw1
  go_loopw [3] (fun v wr => ∃ j : Nat, j ≤ n ∧ v = .int .i64 (j : Nat) ∧ Hid (manyL (l.take j) = false) ∧ Below w1.heap.size w1 wr) (fun v _ => n - (intOf v).toNat)
  case atStart => exact ⟨0, Nat.zero_le _, rfl, Lib.hid rfl, Below.refl _ _⟩
  case round =>
    obtain ⟨j, hj, rfl, hS, hb⟩ := hrel
    have Hb := Lib.hid hb
    have hls := (hb.cell (p := ⟨w.heap.size, 3, none⟩) (by show w.heap.size < _; exact hz1)).trans (HB1.out.cell 3)
    simp at hls
    by_cases hlt : j < n
    · have hjl : j < l.length := by rw [Hlm.out]; exact hlt
      have hji : (j : Int) < (n : Int) := by omega
      have hji0 : (0 : Int) ≤ (j : Int) := by omega
      have hbx : Below w.heap.size w wr := Hb1.out.trans (hb.mono Hb1.out.size)
      obtain ⟨tb, tq, A', n', c', C', m', d', rfl, htb, hc0, hc1, hc2', hc3, cK⟩ := Hkid.out j hjl wr hbx
      have c1 := cK wr (Below.refl _ _)
      clear cK
      have Hmm := Lib.hid (Hmt.out j hjl)
      have Hmx := Lib.hid (Hms.out j hjl)
      clear hb hlt hbx
      generalize l[j] = y at *
      generalize (y).kind = x0 at *
      generalize (y).name = x1 at *
      go_wp2_with fail
      refine c1.mono ?_
      rintro e w2 ⟨rfl, hb2⟩
      have FinB := Lib.hid (Hb.out.trans (hb2.mono Hb.out.size))
      clear hb2 c1
      cases hy : manyB y with
      | true =>
        have Fin3 : Hid (manyB (.mk k nm ws l) = true) := Lib.hid (by rw [Fin2.out]; exact Hmx.out hy)
        clear hy Hmx Hmm
        go_wp2
        go_ret
        exact ⟨by rw [Fin3.out]; first | done | rfl, Hb1.out.trans (FinB.out.mono Hb1.out.size)⟩
      | false =>
        have Hnx : Hid (manyL (l.take (j + 1)) = false) := Lib.hid (by rw [Hmm.out, hS.out, hy]; rfl)
        clear hy Hmx Hmm
        go_wp2
        go_roundw
        case rel => exact ⟨j + 1, by omega, by go_num, Hnx, FinB.out⟩
        case measure => simp [intOf]; omega
    · have hji : (n : Int) ≤ (j : Int) := by omega
      have e : n = j := by omega
      have Fin3 : Hid (manyB (.mk k nm ws l) = false) := Lib.hid (by
        rw [Fin2.out, ← List.take_length (l := l), Hlm.out, e]; exact hS.out)
      clear hb hS e
      go_wp2
      go_ret
      exact ⟨by rw [Fin3.out]; first | done | rfl, Hb1.out.trans (Hb.out.mono Hb1.out.size)⟩


set_option maxHeartbeats 6400000 in
theorem many_go1 (k : Int) (nm : ByteArray) (ws : List ByteArray) (l : List Q) (hl6 : l.length ≤ 8796093021952) (hw6 : ws.length ≤ 8796093021952) (ih : ∀ x ∈ l, ManyOk 36 x) : ManyOk 36 (.mk k nm ws l) := by
  intro w a0 a1 a2 a3 hQ
  obtain ⟨WA, m, wc, CA, n, c2, e, hI⟩ := hQ.is
  simp only [List.cons.injEq, and_true] at e
  obtain ⟨rfl, rfl, rfl, rfl⟩ := e
  have hb1 : Below w.heap.size w (w.alloc (.cells #[.int .i64 k, .string nm, .slice WA m wc, .slice CA n c2] 29)) := (Below.refl _ _).alloc (Nat.le_refl _) _
  have hB1 := Blk.new w 29 #[.int .i64 k, .string nm, .slice WA m wc, .slice CA n c2]
  have hz1 : w.heap.size < (w.alloc (.cells #[.int .i64 k, .string nm, .slice WA m wc, .slice CA n c2] 29)).heap.size := by simp
  have Hb1 := Lib.hid hb1
  have HB1 := Lib.hid hB1
  have hlm := hI.lm
  have hn6 : n ≤ 8796093021952 := by omega
  have hkid : ∀ j (hj : j < l.length), ∀ w1, Below w.heap.size w w1 → ∃ b o A' n' c' C' m' d', CA = some ⟨b, o, none⟩ ∧ b < w.heap.size ∧
      w1.cell? ⟨b, o + j * 4, none⟩ = some (.int .i64 l[j].kind) ∧ w1.cell? ⟨b, o + j * 4 + 1, none⟩ = some (.string l[j].name) ∧ w1.cell? ⟨b, o + j * 4 + 2, none⟩ = some (.slice A' n' c') ∧ w1.cell? ⟨b, o + j * 4 + 3, none⟩ = some (.slice C' m' d') ∧
      ∀ w2, Below w1.heap.size w1 w2 → Calls Try.prog 36 #[.agg #[.int .i64 l[j].kind, .string l[j].name, .slice A' n' c', .slice C' m' d']] w2 fun e w' => e = .returned (.bool (manyB l[j])) ∧ Below w2.heap.size w2 w' := by
    intro j hj w1 hb
    obtain ⟨tb, tq, A', n', c', C', m', d', rfl, htb, hq, hc0, hc1, hc2, hc3⟩ := hI.at_ hj
    exact ⟨tb, tq, A', n', c', C', m', d', rfl, htb, (hb.cell (p := ⟨tb, tq + j * 4, none⟩) htb).trans hc0, (hb.cell (p := ⟨tb, tq + j * 4 + 1, none⟩) htb).trans hc1, (hb.cell (p := ⟨tb, tq + j * 4 + 2, none⟩) htb).trans hc2, (hb.cell (p := ⟨tb, tq + j * 4 + 3, none⟩) htb).trans hc3, fun w2 hb2 => ih _ (List.getElem_mem hj) w2 _ _ _ _ ((hq.grow hb).grow hb2)⟩
  have Hlm := Lib.hid hlm
  have Hkid := Lib.hid hkid
  have hwm := hI.wn
  have hm6 : m ≤ 8796093021952 := by omega
  have Fin := Lib.hid (manyB_eq k nm ws l)
  have Hms := Lib.hid (manyL_some l)
  have Hmt := Lib.hid (manyL_take l)
  clear hQ hI hb1 hB1 hkid ih
  by_cases h32 : 32 < n
  · have h32' : (32 : Int) < (n : Int) := by omega
    have Fin2 : Hid (manyB (.mk k nm ws l) = true) := Lib.hid (by rw [Fin.out, decide_eq_true (by omega)]; rfl)
    clear hlm hwm h32
    go_enter Try.func36, Try.ntmps36
    go_wp2
    go_ret
    exact ⟨by rw [Fin2.out]; first | done | rfl, Hb1.out⟩
  have h32' : (n : Int) ≤ 32 := by omega
  by_cases h16 : 16 < m
  · have h16' : (16 : Int) < (m : Int) := by omega
    have Fin2 : Hid (manyB (.mk k nm ws l) = true) := Lib.hid (by rw [Fin.out, decide_eq_true (p := 16 < ws.length) (by omega)]; simp)
    clear hlm hwm h32 h16
    go_enter Try.func36, Try.ntmps36
    go_wp2
    go_ret
    exact ⟨by rw [Fin2.out]; first | done | rfl, Hb1.out⟩
  have h16' : (m : Int) ≤ 16 := by omega
  have Fin2 : Hid (manyB (.mk k nm ws l) = manyL l) := Lib.hid (by rw [Fin.out, decide_eq_false (by omega), decide_eq_false (by omega)]; rfl)
  clear hlm hwm h32 h16 Fin hl6 hw6
  go_enter Try.func36, Try.ntmps36
  go_wp2_with fail
  generalize hw1 : (w.alloc (.cells #[.int .i64 k, .string nm, .slice WA m wc, .slice CA n c2] 29)) = w1 at *
  clear hw1
  go_loopw [18] (fun v wr => ∃ j : Nat, j ≤ n ∧ v = .int .i64 (j : Nat) ∧ Hid (manyL (l.take j) = false) ∧ Below w1.heap.size w1 wr) (fun v _ => n - (intOf v).toNat)
  case atStart => exact ⟨0, Nat.zero_le _, rfl, Lib.hid rfl, Below.refl _ _⟩
  case round =>
    obtain ⟨j, hj, rfl, hS, hb⟩ := hrel
    have Hb := Lib.hid hb

    by_cases hlt : j < n
    · have hjl : j < l.length := by rw [Hlm.out]; exact hlt
      have hji : (j : Int) < (n : Int) := by omega
      have hji0 : (0 : Int) ≤ (j : Int) := by omega
      have hbx : Below w.heap.size w wr := Hb1.out.trans (hb.mono Hb1.out.size)
      obtain ⟨tb, tq, A', n', c', C', m', d', rfl, htb, hc0, hc1, hc2', hc3, cK⟩ := Hkid.out j hjl wr hbx
      have hal := (Below.refl wr.heap.size wr).alloc (Nat.le_refl _) (.cells #[.int .i64 l[j].kind, .string l[j].name, .slice A' n' c', .slice C' m' d'] 29)
      have Hal := Lib.hid hal
      have c1 := cK _ hal
      clear cK hal
      have Hmm := Lib.hid (Hmt.out j hjl)
      have Hmx := Lib.hid (Hms.out j hjl)
      clear hb hlt hbx
      generalize l[j] = y at *
      generalize (y).kind = x0 at *
      generalize (y).name = x1 at *
      go_wp2_with fail
      refine c1.mono ?_
      rintro e w2 ⟨rfl, hb2⟩
      have FinB := Lib.hid ((Hb.out.trans (Hal.out.mono Hb.out.size)).trans (hb2.mono (Nat.le_trans Hb.out.size Hal.out.size)))
      clear hb2 c1
      cases hy : manyB y with
      | true =>
        have Fin3 : Hid (manyB (.mk k nm ws l) = true) := Lib.hid (by rw [Fin2.out]; exact Hmx.out hy)
        clear hy Hmx Hmm
        go_wp2
        go_ret
        exact ⟨by rw [Fin3.out]; first | done | rfl, Hb1.out.trans (FinB.out.mono Hb1.out.size)⟩
      | false =>
        have Hnx : Hid (manyL (l.take (j + 1)) = false) := Lib.hid (by rw [Hmm.out, hS.out, hy]; rfl)
        clear hy Hmx Hmm
        go_wp2
        go_roundw
        case rel => exact ⟨j + 1, by omega, by go_num, Hnx, FinB.out⟩
        case measure => simp [intOf]; omega
    · have hji : (n : Int) ≤ (j : Int) := by omega
      have e : n = j := by omega
      have Fin3 : Hid (manyB (.mk k nm ws l) = false) := Lib.hid (by
        rw [Fin2.out, ← List.take_length (l := l), Hlm.out, e]; exact hS.out)
      clear hb hS e
      go_wp2
      go_ret
      exact ⟨by rw [Fin3.out]; first | done | rfl, Hb1.out.trans (Hb.out.mono Hb1.out.size)⟩


set_option maxHeartbeats 6400000 in
theorem depth_ref1 (k : Int) (nm : ByteArray) (ws : List ByteArray) (l : List Q) (K : Nat) (hK : K ≤ 16777216) (hl6 : l.length ≤ 8796093021952) (hd : ∀ j, depthL (l.take j) ≤ K) (ih : ∀ x ∈ l, DepOk 19 x) : DepOk 19 (.mk k nm ws l) := by
  intro w a0 a1 a2 a3 hQ
  obtain ⟨WA, m, wc, CA, n, c2, e, hI⟩ := hQ.is
  simp only [List.cons.injEq, and_true] at e
  obtain ⟨rfl, rfl, rfl, rfl⟩ := e
  have hb1 : Below w.heap.size w (w.alloc (.cells #[.int .i64 k, .string nm, .slice WA m wc, .slice CA n c2] 29)) := (Below.refl _ _).alloc (Nat.le_refl _) _
  have hB1 := Blk.new w 29 #[.int .i64 k, .string nm, .slice WA m wc, .slice CA n c2]
  have hz1 : w.heap.size < (w.alloc (.cells #[.int .i64 k, .string nm, .slice WA m wc, .slice CA n c2] 29)).heap.size := by simp
  have Hb1 := Lib.hid hb1
  have HB1 := Lib.hid hB1
  have hlm := hI.lm
  have hn6 : n ≤ 8796093021952 := by omega
  have hkid : ∀ j (hj : j < l.length), ∀ w1, Below w.heap.size w w1 → ∃ b o A' n' c' C' m' d', CA = some ⟨b, o, none⟩ ∧ b < w.heap.size ∧
      w1.cell? ⟨b, o + j * 4, none⟩ = some (.int .i64 l[j].kind) ∧ w1.cell? ⟨b, o + j * 4 + 1, none⟩ = some (.string l[j].name) ∧ w1.cell? ⟨b, o + j * 4 + 2, none⟩ = some (.slice A' n' c') ∧ w1.cell? ⟨b, o + j * 4 + 3, none⟩ = some (.slice C' m' d') ∧
      ∀ w2, Below w1.heap.size w1 w2 → Calls Try.prog 19 #[.agg #[.int .i64 l[j].kind, .string l[j].name, .slice A' n' c', .slice C' m' d']] w2 fun e w' => e = .returned (.int .i64 (depthN l[j] : Nat)) ∧ Below w2.heap.size w2 w' := by
    intro j hj w1 hb
    obtain ⟨tb, tq, A', n', c', C', m', d', rfl, htb, hq, hc0, hc1, hc2, hc3⟩ := hI.at_ hj
    exact ⟨tb, tq, A', n', c', C', m', d', rfl, htb, (hb.cell (p := ⟨tb, tq + j * 4, none⟩) htb).trans hc0, (hb.cell (p := ⟨tb, tq + j * 4 + 1, none⟩) htb).trans hc1, (hb.cell (p := ⟨tb, tq + j * 4 + 2, none⟩) htb).trans hc2, (hb.cell (p := ⟨tb, tq + j * 4 + 3, none⟩) htb).trans hc3, fun w2 hb2 => ih _ (List.getElem_mem hj) w2 _ _ _ _ ((hq.grow hb).grow hb2)⟩
  have Hlm := Lib.hid hlm
  have Hkid := Lib.hid hkid
  have Fin := Lib.hid (depthN_eq k nm ws l)
  have Hmt := Lib.hid (depthL_take l)
  have Hd := Lib.hid hd
  clear hQ hI hb1 hB1 hkid ih hlm hl6 hd
  go_enter Try.func19, Try.ntmps19
  go_wp2_with fail
  generalize hw1 : (w.alloc (.cells #[.int .i64 k, .string nm, .slice WA m wc, .slice CA n c2] 29)) = w1 at *
  clear hw1
  go_loopw [3, 4] (fun d v wr => ∃ j : Nat, j ≤ n ∧ v = .int .i64 (j : Nat) ∧ d = .int .i64 (depthL (l.take j) : Nat) ∧ Below w1.heap.size w1 wr) (fun _ v _ => n - (intOf v).toNat)
  case atStart => exact ⟨0, Nat.zero_le _, rfl, rfl, Below.refl _ _⟩
  case round =>
    obtain ⟨j, hj, rfl, rfl, hb⟩ := hrel
    have Hb := Lib.hid hb
    have hdj := Hd.out j
    have hls := (hb.cell (p := ⟨w.heap.size, 3, none⟩) (by show w.heap.size < _; exact hz1)).trans (HB1.out.cell 3)
    simp at hls
    by_cases hlt : j < n
    · have hjl : j < l.length := by rw [Hlm.out]; exact hlt
      have hji : (j : Int) < (n : Int) := by omega
      have hji0 : (0 : Int) ≤ (j : Int) := by omega
      have hbx : Below w.heap.size w wr := Hb1.out.trans (hb.mono Hb1.out.size)
      obtain ⟨tb, tq, A', n', c', C', m', d', rfl, htb, hc0, hc1, hc2', hc3, cK⟩ := Hkid.out j hjl wr hbx
      have c1 := cK wr (Below.refl _ _)
      clear cK
      have Hmm := Lib.hid (Hmt.out j hjl)
      have hdn : depthN l[j] ≤ K := by have := Hd.out (j + 1); rw [Hmm.out] at this; omega
      clear hb hlt hbx
      generalize l[j] = y at *
      generalize depthN y = dy at *
      generalize hD : depthL (l.take j) = dl at *
      generalize hD2 : depthL (l.take (j + 1)) = dl2 at *
      have HD2 := Lib.hid hD2
      clear hD hD2
      generalize (y).kind = x0 at *
      generalize (y).name = x1 at *
      go_wp2_with fail
      refine c1.mono ?_
      rintro e w2 ⟨rfl, hb2⟩
      have FinB := Lib.hid (Hb.out.trans (hb2.mono Hb.out.size))
      clear hb2 c1
      go_wp2_with fail
      go_roundw
      case rel => exact ⟨j + 1, by omega, by go_num, by rw [HD2.out, Hmm.out]; exact congrArg (Value.int .i64) (by omega), FinB.out⟩
      case measure => simp [intOf]; omega
    · have hji : (n : Int) ≤ (j : Int) := by omega
      have e : n = j := by omega
      have Fin3 : Hid (depthN (.mk k nm ws l) = depthL (l.take j) + 1) := Lib.hid (by
        rw [Fin.out, ← e, ← Hlm.out, List.take_length])
      clear hb e
      generalize depthL (l.take j) = dl at *
      go_wp2
      go_ret
      exact ⟨ret_int (by rw [Fin3.out]; omega), Hb1.out.trans (Hb.out.mono Hb1.out.size)⟩


set_option maxHeartbeats 6400000 in
theorem depth_go1 (k : Int) (nm : ByteArray) (ws : List ByteArray) (l : List Q) (K : Nat) (hK : K ≤ 16777216) (hl6 : l.length ≤ 8796093021952) (hd : ∀ j, depthL (l.take j) ≤ K) (ih : ∀ x ∈ l, DepOk 37 x) : DepOk 37 (.mk k nm ws l) := by
  intro w a0 a1 a2 a3 hQ
  obtain ⟨WA, m, wc, CA, n, c2, e, hI⟩ := hQ.is
  simp only [List.cons.injEq, and_true] at e
  obtain ⟨rfl, rfl, rfl, rfl⟩ := e
  have hb1 : Below w.heap.size w (w.alloc (.cells #[.int .i64 k, .string nm, .slice WA m wc, .slice CA n c2] 29)) := (Below.refl _ _).alloc (Nat.le_refl _) _
  have hB1 := Blk.new w 29 #[.int .i64 k, .string nm, .slice WA m wc, .slice CA n c2]
  have hz1 : w.heap.size < (w.alloc (.cells #[.int .i64 k, .string nm, .slice WA m wc, .slice CA n c2] 29)).heap.size := by simp
  have Hb1 := Lib.hid hb1
  have HB1 := Lib.hid hB1
  have hlm := hI.lm
  have hn6 : n ≤ 8796093021952 := by omega
  have hkid : ∀ j (hj : j < l.length), ∀ w1, Below w.heap.size w w1 → ∃ b o A' n' c' C' m' d', CA = some ⟨b, o, none⟩ ∧ b < w.heap.size ∧
      w1.cell? ⟨b, o + j * 4, none⟩ = some (.int .i64 l[j].kind) ∧ w1.cell? ⟨b, o + j * 4 + 1, none⟩ = some (.string l[j].name) ∧ w1.cell? ⟨b, o + j * 4 + 2, none⟩ = some (.slice A' n' c') ∧ w1.cell? ⟨b, o + j * 4 + 3, none⟩ = some (.slice C' m' d') ∧
      ∀ w2, Below w1.heap.size w1 w2 → Calls Try.prog 37 #[.agg #[.int .i64 l[j].kind, .string l[j].name, .slice A' n' c', .slice C' m' d']] w2 fun e w' => e = .returned (.int .i64 (depthN l[j] : Nat)) ∧ Below w2.heap.size w2 w' := by
    intro j hj w1 hb
    obtain ⟨tb, tq, A', n', c', C', m', d', rfl, htb, hq, hc0, hc1, hc2, hc3⟩ := hI.at_ hj
    exact ⟨tb, tq, A', n', c', C', m', d', rfl, htb, (hb.cell (p := ⟨tb, tq + j * 4, none⟩) htb).trans hc0, (hb.cell (p := ⟨tb, tq + j * 4 + 1, none⟩) htb).trans hc1, (hb.cell (p := ⟨tb, tq + j * 4 + 2, none⟩) htb).trans hc2, (hb.cell (p := ⟨tb, tq + j * 4 + 3, none⟩) htb).trans hc3, fun w2 hb2 => ih _ (List.getElem_mem hj) w2 _ _ _ _ ((hq.grow hb).grow hb2)⟩
  have Hlm := Lib.hid hlm
  have Hkid := Lib.hid hkid
  have Fin := Lib.hid (depthN_eq k nm ws l)
  have Hmt := Lib.hid (depthL_take l)
  have Hd := Lib.hid hd
  clear hQ hI hb1 hB1 hkid ih hlm hl6 hd
  go_enter Try.func37, Try.ntmps37
  go_wp2_with fail
  generalize hw1 : (w.alloc (.cells #[.int .i64 k, .string nm, .slice WA m wc, .slice CA n c2] 29)) = w1 at *
  clear hw1
  go_loopw [3, 9] (fun d v wr => ∃ j : Nat, j ≤ n ∧ v = .int .i64 (j : Nat) ∧ d = .int .i64 (depthL (l.take j) : Nat) ∧ Below w1.heap.size w1 wr) (fun _ v _ => n - (intOf v).toNat)
  case atStart => exact ⟨0, Nat.zero_le _, rfl, rfl, Below.refl _ _⟩
  case round =>
    obtain ⟨j, hj, rfl, rfl, hb⟩ := hrel
    have Hb := Lib.hid hb
    have hdj := Hd.out j

    by_cases hlt : j < n
    · have hjl : j < l.length := by rw [Hlm.out]; exact hlt
      have hji : (j : Int) < (n : Int) := by omega
      have hji0 : (0 : Int) ≤ (j : Int) := by omega
      have hbx : Below w.heap.size w wr := Hb1.out.trans (hb.mono Hb1.out.size)
      obtain ⟨tb, tq, A', n', c', C', m', d', rfl, htb, hc0, hc1, hc2', hc3, cK⟩ := Hkid.out j hjl wr hbx
      have hal := (Below.refl wr.heap.size wr).alloc (Nat.le_refl _) (.cells #[.int .i64 l[j].kind, .string l[j].name, .slice A' n' c', .slice C' m' d'] 29)
      have Hal := Lib.hid hal
      have c1 := cK _ hal
      clear cK hal
      have Hmm := Lib.hid (Hmt.out j hjl)
      have hdn : depthN l[j] ≤ K := by have := Hd.out (j + 1); rw [Hmm.out] at this; omega
      clear hb hlt hbx
      generalize l[j] = y at *
      generalize depthN y = dy at *
      generalize hD : depthL (l.take j) = dl at *
      generalize hD2 : depthL (l.take (j + 1)) = dl2 at *
      have HD2 := Lib.hid hD2
      clear hD hD2
      generalize (y).kind = x0 at *
      generalize (y).name = x1 at *
      go_wp2_with fail
      refine c1.mono ?_
      rintro e w2 ⟨rfl, hb2⟩
      have FinB := Lib.hid ((Hb.out.trans (Hal.out.mono Hb.out.size)).trans (hb2.mono (Nat.le_trans Hb.out.size Hal.out.size)))
      clear hb2 c1
      go_wp2_with fail
      go_roundw
      case rel => exact ⟨j + 1, by omega, by go_num, by rw [HD2.out, Hmm.out]; exact congrArg (Value.int .i64) (by omega), FinB.out⟩
      case measure => simp [intOf]; omega
    · have hji : (n : Int) ≤ (j : Int) := by omega
      have e : n = j := by omega
      have Fin3 : Hid (depthN (.mk k nm ws l) = depthL (l.take j) + 1) := Lib.hid (by
        rw [Fin.out, ← e, ← Hlm.out, List.take_length])
      clear hb e
      generalize depthL (l.take j) = dl at *
      go_wp2
      go_ret
      exact ⟨ret_int (by rw [Fin3.out]; omega), Hb1.out.trans (Hb.out.mono Hb1.out.size)⟩

theorem depthL_le (l : List Q) (K : Nat) (h : ∀ x ∈ l, QW K x) (j : Nat) : depthL (l.take j) ≤ K := by
  have : ∀ l' : List Q, (∀ x ∈ l', depthN x ≤ K) → depthL l' ≤ K := by
    intro l'
    induction l' with
    | nil => intro _; simp [depthL]
    | cons q l' ih2 =>
      intro h
      rw [depthL]
      have := h q (by simp)
      have := ih2 (fun x hx => h x (by simp [hx]))
      omega
  exact this _ fun x hx => (h x (List.mem_of_mem_take hx)).depth
theorem many_ref {K : Nat} {q : Q} (h : QW K q) : ManyOk 39 q := by
  induction h with
  | mk h1 h2 h3 ih => exact many_ref1 _ _ _ _ h2 h1 ih
theorem many_go {K : Nat} {q : Q} (h : QW K q) : ManyOk 36 q := by
  induction h with
  | mk h1 h2 h3 ih => exact many_go1 _ _ _ _ h2 h1 ih
theorem depth_ref {K : Nat} {q : Q} (h : QW K q) : K ≤ 16777216 → DepOk 19 q := by
  induction h with
  | mk h1 h2 h3 ih => intro hK; exact depth_ref1 _ _ _ _ _ (by omega) h2 (depthL_le _ _ h3) fun x hx => ih x hx (by omega)
theorem depth_go {K : Nat} {q : Q} (h : QW K q) : K ≤ 16777216 → DepOk 37 q := by
  induction h with
  | mk h1 h2 h3 ih => intro hK; exact depth_go1 _ _ _ _ _ (by omega) h2 (depthL_le _ _ h3) fun x hx => ih x hx (by omega)
end Go.Proofs.Ytceekocfmbcobaa.Qp
