/- many, depth of queries, the program's and the document's: the walks (printed by gen_qpk.py). -/
import Derived.Defers
import Derived.Recover
import Derived.Test.YtlfpfkallgkjdaaGreatQpJPk
section
namespace Go.Proofs.YtlfpfkallgkjdaaGreat.Qp
open Go.RowKit Go.Proofs.YtlfpfkallgkjdaaGreat Go.Proofs.YtlfpfkallgkjdaaGreat.Ut Go.Proofs.YtlfpfkallgkjdaaGreat.Tk Go.Proofs.YtlfpfkallgkjdaaGreat.Qy
set_option maxRecDepth 20000
set_option linter.unusedSimpArgs false

mutual
/-- How deep a query is. -/
def depthN : Q → Nat
  | .mk _ _ _ l => depthL l + 1
def depthL : List Q → Nat
  | [] => 0
  | q :: l => max (depthN q) (depthL l)
end
mutual
/-- Has something in a query too many parts, or words? -/
def manyB : Q → Bool
  | .mk _ _ ws l => decide (32 < l.length) || decide (16 < ws.length) || manyL l
def manyL : List Q → Bool
  | [] => false
  | q :: l => manyB q || manyL l
end
theorem depthN_eq (k : Int) (nm : ByteArray) (ws : List ByteArray) (l : List Q) : depthN (.mk k nm ws l) = depthL l + 1 := by rw [depthN]
theorem manyB_eq (k : Int) (nm : ByteArray) (ws : List ByteArray) (l : List Q) : manyB (.mk k nm ws l) = (decide (32 < l.length) || decide (16 < ws.length) || manyL l) := by rw [manyB]
theorem depthL_append : ∀ a b, depthL (a ++ b) = max (depthL a) (depthL b)
  | [], b => by simp [depthL]
  | q :: a, b => by rw [List.cons_append, depthL, depthL, depthL_append a b, Nat.max_assoc]
theorem manyL_append : ∀ a b, manyL (a ++ b) = (manyL a || manyL b)
  | [], b => by simp [manyL]
  | q :: a, b => by rw [List.cons_append, manyL, manyL, manyL_append a b, Bool.or_assoc]
theorem depthL_take (l : List Q) (k : Nat) (h : k < l.length) : depthL (l.take (k + 1)) = max (depthL (l.take k)) (depthN l[k]) := by
  rw [List.take_succ_eq_append_getElem h, depthL_append]
  simp [depthL]
theorem manyL_take (l : List Q) (k : Nat) (h : k < l.length) : manyL (l.take (k + 1)) = (manyL (l.take k) || manyB l[k]) := by
  rw [List.take_succ_eq_append_getElem h, manyL_append]
  simp [manyL]
theorem manyL_some (l : List Q) (k : Nat) (h : k < l.length) (hb : manyB l[k] = true) : manyL l = true := by
  have e : l = l.take k ++ l[k] :: l.drop (k + 1) := by rw [← List.drop_eq_getElem_cons h, List.take_append_drop]
  rw [e, manyL_append, manyL, hb]
  simp
/-- A query of some sizes, not deeper than K. -/
inductive QW : Nat → Q → Prop
  | mk {K : Nat} {k : Int} {nm : ByteArray} {ws : List ByteArray} {l : List Q} (h1 : ws.length ≤ 8796093021952) (h2 : l.length ≤ 8796093021952) (h3 : ∀ x ∈ l, QW K x) : QW (K + 1) (.mk k nm ws l)
theorem QW.more {K : Nat} {q : Q} (h : QW K q) : ∀ K', K ≤ K' → QW K' q := by
  induction h with
  | mk h1 h2 h3 ih =>
    intro K' hK
    obtain ⟨K2, rfl⟩ : ∃ K2, K' = K2 + 1 := ⟨K' - 1, by omega⟩
    exact .mk h1 h2 fun x hx => ih x hx K2 (by omega)
theorem QW.depth {K : Nat} {q : Q} (h : QW K q) : depthN q ≤ K := by
  induction h with
  | @mk K k nm ws l h1 h2 h3 ih =>
    rw [depthN_eq]
    have : ∀ l' : List Q, (∀ x ∈ l', depthN x ≤ K) → depthL l' ≤ K := by
      intro l'
      induction l' with
      | nil => intro _; simp [depthL]
      | cons q l' ih2 =>
        intro h
        rw [depthL]
        have := h q (by simp)
        have := ih2 (fun x hx => h x (by simp [hx]))
        omega
    have := this l ih
    omega
def ManyOk (F : Nat) (q : Q) : Prop := ∀ (w : World) (a0 a1 a2 a3 : Value), QAt w w.heap.size q [a0, a1, a2, a3] →
  Calls Tryz.prog F #[.agg #[a0, a1, a2, a3]] w fun e w' => e = .returned (.bool (manyB q)) ∧ Below w.heap.size w w'
def DepOk (F : Nat) (q : Q) : Prop := ∀ (w : World) (a0 a1 a2 a3 : Value), QAt w w.heap.size q [a0, a1, a2, a3] →
  Calls Tryz.prog F #[.agg #[a0, a1, a2, a3]] w fun e w' => e = .returned (.int .i64 (depthN q : Nat)) ∧ Below w.heap.size w w'


set_option maxHeartbeats 6400000 in
theorem many_ref1 (k : Int) (nm : ByteArray) (ws : List ByteArray) (l : List Q) (hl6 : l.length ≤ 8796093021952) (hw6 : ws.length ≤ 8796093021952) (ih : ∀ x ∈ l, ManyOk 50 x) : ManyOk 50 (.mk k nm ws l) := by
  intro w a0 a1 a2 a3 hQ
  obtain ⟨WA, m, wc, CA, n, c2, e, hI⟩ := hQ.is
  simp only [List.cons.injEq, and_true] at e
  obtain ⟨rfl, rfl, rfl, rfl⟩ := e
  have hb1 : Below w.heap.size w (w.alloc (.cells #[.int .i64 k, .string nm, .slice WA m wc, .slice CA n c2] 52)) := (Below.refl _ _).alloc (Nat.le_refl _) _
  have hB1 := Blk.new w 52 #[.int .i64 k, .string nm, .slice WA m wc, .slice CA n c2]
  have hz1 : w.heap.size < (w.alloc (.cells #[.int .i64 k, .string nm, .slice WA m wc, .slice CA n c2] 52)).heap.size := by simp
  have Hb1 := Lib.hid hb1
  have HB1 := Lib.hid hB1
  have hlm := hI.lm
  have hn6 : n ≤ 8796093021952 := by omega
  have hkid : ∀ j (hj : j < l.length), ∀ w1, Below w.heap.size w w1 → ∃ b o A' n' c' C' m' d', CA = some ⟨b, o, none⟩ ∧ b < w.heap.size ∧
      w1.cell? ⟨b, o + j * 4, none⟩ = some (.int .i64 l[j].kind) ∧ w1.cell? ⟨b, o + j * 4 + 1, none⟩ = some (.string l[j].name) ∧ w1.cell? ⟨b, o + j * 4 + 2, none⟩ = some (.slice A' n' c') ∧ w1.cell? ⟨b, o + j * 4 + 3, none⟩ = some (.slice C' m' d') ∧
      ∀ w2, Below w1.heap.size w1 w2 → Calls Tryz.prog 50 #[.agg #[.int .i64 l[j].kind, .string l[j].name, .slice A' n' c', .slice C' m' d']] w2 fun e w' => e = .returned (.bool (manyB l[j])) ∧ Below w2.heap.size w2 w' := by
    intro j hj w1 hb
    obtain ⟨tb, tq, A', n', c', C', m', d', rfl, htb, hq, hc0, hc1, hc2, hc3⟩ := hI.at_ hj
    exact ⟨tb, tq, A', n', c', C', m', d', rfl, htb, (hb.cell (p := ⟨tb, tq + j * 4, none⟩) htb).trans hc0, (hb.cell (p := ⟨tb, tq + j * 4 + 1, none⟩) htb).trans hc1, (hb.cell (p := ⟨tb, tq + j * 4 + 2, none⟩) htb).trans hc2, (hb.cell (p := ⟨tb, tq + j * 4 + 3, none⟩) htb).trans hc3, fun w2 hb2 => ih _ (List.getElem_mem hj) w2 _ _ _ _ ((hq.grow hb).grow hb2)⟩
  have Hlm := Lib.hid hlm
  have Hkid := Lib.hid hkid
  have hwm := hI.wn
  have hm6 : m ≤ 8796093021952 := by omega
  have Fin := Lib.hid (manyB_eq k nm ws l)
  have Hms := Lib.hid (manyL_some l)
  have Hmt := Lib.hid (manyL_take l)
  clear hQ hI hb1 hB1 hkid ih
  by_cases h32 : 32 < n
  · have h32' : (32 : Int) < (n : Int) := by omega
    have Fin2 : Hid (manyB (.mk k nm ws l) = true) := Lib.hid (by rw [Fin.out, decide_eq_true (by omega)]; rfl)
    clear hlm hwm h32
    go_enter Tryz.func50, Tryz.ntmps50
    go_wp2
    go_ret
    exact ⟨by rw [Fin2.out]; first | done | rfl, Hb1.out⟩
  have h32' : (n : Int) ≤ 32 := by omega
  by_cases h16 : 16 < m
  · have h16' : (16 : Int) < (m : Int) := by omega
    have Fin2 : Hid (manyB (.mk k nm ws l) = true) := Lib.hid (by rw [Fin.out, decide_eq_true (p := 16 < ws.length) (by omega)]; simp)
    clear hlm hwm h32 h16
    go_enter Tryz.func50, Tryz.ntmps50
    go_wp2
    go_ret
    exact ⟨by rw [Fin2.out]; first | done | rfl, Hb1.out⟩
  have h16' : (m : Int) ≤ 16 := by omega
  have Fin2 : Hid (manyB (.mk k nm ws l) = manyL l) := Lib.hid (by rw [Fin.out, decide_eq_false (by omega), decide_eq_false (by omega)]; rfl)
  clear hlm hwm h32 h16 Fin hl6 hw6
  go_enter Tryz.func50, Tryz.ntmps50
  go_wp2_with fail
  generalize hw1 : (w.alloc (.cells #[.int .i64 k, .string nm, .slice WA m wc, .slice CA n c2] 52)) = w1 at *
  clear hw1
  go_loopw [3] (fun v wr => ∃ j : Nat, j ≤ n ∧ v = .int .i64 (j : Nat) ∧ Hid (manyL (l.take j) = false) ∧ Below w1.heap.size w1 wr) (fun v _ => n - (intOf v).toNat)
  case atStart => exact ⟨0, Nat.zero_le _, rfl, Lib.hid rfl, Below.refl _ _⟩
  case round =>
    obtain ⟨j, hj, rfl, hS, hb⟩ := hrel
    have Hb := Lib.hid hb
    have hls := (hb.cell (p := ⟨w.heap.size, 3, none⟩) (by show w.heap.size < _; exact hz1)).trans (HB1.out.cell 3)
    simp at hls
    by_cases hlt : j < n
    · have hjl : j < l.length := by rw [Hlm.out]; exact hlt
      have hji : (j : Int) < (n : Int) := by omega
      have hji0 : (0 : Int) ≤ (j : Int) := by omega
      have hbx : Below w.heap.size w wr := Hb1.out.trans (hb.mono Hb1.out.size)
      obtain ⟨tb, tq, A', n', c', C', m', d', rfl, htb, hc0, hc1, hc2', hc3, cK⟩ := Hkid.out j hjl wr hbx
      have c1 := cK wr (Below.refl _ _)
      clear cK
      have Hmm := Lib.hid (Hmt.out j hjl)
      have Hmx := Lib.hid (Hms.out j hjl)
      clear hb hlt hbx
      generalize l[j] = y at *
      generalize (y).kind = x0 at *
      generalize (y).name = x1 at *
      go_wp2_with fail
      refine c1.mono ?_
      rintro e w2 ⟨rfl, hb2⟩
      have FinB := Lib.hid (Hb.out.trans (hb2.mono Hb.out.size))
      clear hb2 c1
      cases hy : manyB y with
      | true =>
        have Fin3 : Hid (manyB (.mk k nm ws l) = true) := Lib.hid (by rw [Fin2.out]; exact Hmx.out hy)
        clear hy Hmx Hmm
        go_wp2
        go_ret
        exact ⟨by rw [Fin3.out]; first | done | rfl, Hb1.out.trans (FinB.out.mono Hb1.out.size)⟩
      | false =>
        have Hnx : Hid (manyL (l.take (j + 1)) = false) := Lib.hid (by rw [Hmm.out, hS.out, hy]; rfl)
        clear hy Hmx Hmm
        go_wp2
        go_roundw
        case rel => exact ⟨j + 1, by omega, by go_num, Hnx, FinB.out⟩
        case measure => simp [intOf]; omega
    · have hji : (n : Int) ≤ (j : Int) := by omega
      have e : n = j := by omega
      have Fin3 : Hid (manyB (.mk k nm ws l) = false) := Lib.hid (by
        rw [Fin2.out, ← List.take_length (l := l), Hlm.out, e]; exact hS.out)
      clear hb hS e
      go_wp2
      go_ret
      exact ⟨by rw [Fin3.out]; first | done | rfl, Hb1.out.trans (Hb.out.mono Hb1.out.size)⟩


set_option maxHeartbeats 6400000 in
theorem many_go1 (k : Int) (nm : ByteArray) (ws : List ByteArray) (l : List Q) (hl6 : l.length ≤ 8796093021952) (hw6 : ws.length ≤ 8796093021952) (ih : ∀ x ∈ l, ManyOk 64 x) : ManyOk 64 (.mk k nm ws l) := by
  intro w a0 a1 a2 a3 hQ
  obtain ⟨WA, m, wc, CA, n, c2, e, hI⟩ := hQ.is
  simp only [List.cons.injEq, and_true] at e
  obtain ⟨rfl, rfl, rfl, rfl⟩ := e
  have hb1 : Below w.heap.size w (w.alloc (.cells #[.int .i64 k, .string nm, .slice WA m wc, .slice CA n c2] 52)) := (Below.refl _ _).alloc (Nat.le_refl _) _
  have hB1 := Blk.new w 52 #[.int .i64 k, .string nm, .slice WA m wc, .slice CA n c2]
  have hz1 : w.heap.size < (w.alloc (.cells #[.int .i64 k, .string nm, .slice WA m wc, .slice CA n c2] 52)).heap.size := by simp
  have Hb1 := Lib.hid hb1
  have HB1 := Lib.hid hB1
  have hlm := hI.lm
  have hn6 : n ≤ 8796093021952 := by omega
  have hkid : ∀ j (hj : j < l.length), ∀ w1, Below w.heap.size w w1 → ∃ b o A' n' c' C' m' d', CA = some ⟨b, o, none⟩ ∧ b < w.heap.size ∧
      w1.cell? ⟨b, o + j * 4, none⟩ = some (.int .i64 l[j].kind) ∧ w1.cell? ⟨b, o + j * 4 + 1, none⟩ = some (.string l[j].name) ∧ w1.cell? ⟨b, o + j * 4 + 2, none⟩ = some (.slice A' n' c') ∧ w1.cell? ⟨b, o + j * 4 + 3, none⟩ = some (.slice C' m' d') ∧
      ∀ w2, Below w1.heap.size w1 w2 → Calls Tryz.prog 64 #[.agg #[.int .i64 l[j].kind, .string l[j].name, .slice A' n' c', .slice C' m' d']] w2 fun e w' => e = .returned (.bool (manyB l[j])) ∧ Below w2.heap.size w2 w' := by
    intro j hj w1 hb
    obtain ⟨tb, tq, A', n', c', C', m', d', rfl, htb, hq, hc0, hc1, hc2, hc3⟩ := hI.at_ hj
    exact ⟨tb, tq, A', n', c', C', m', d', rfl, htb, (hb.cell (p := ⟨tb, tq + j * 4, none⟩) htb).trans hc0, (hb.cell (p := ⟨tb, tq + j * 4 + 1, none⟩) htb).trans hc1, (hb.cell (p := ⟨tb, tq + j * 4 + 2, none⟩) htb).trans hc2, (hb.cell (p := ⟨tb, tq + j * 4 + 3, none⟩) htb).trans hc3, fun w2 hb2 => ih _ (List.getElem_mem hj) w2 _ _ _ _ ((hq.grow hb).grow hb2)⟩
  have Hlm := Lib.hid hlm
  have Hkid := Lib.hid hkid
  have hwm := hI.wn
  have hm6 : m ≤ 8796093021952 := by omega
  have Fin := Lib.hid (manyB_eq k nm ws l)
  have Hms := Lib.hid (manyL_some l)
  have Hmt := Lib.hid (manyL_take l)
  clear hQ hI hb1 hB1 hkid ih
  by_cases h32 : 32 < n
  · have h32' : (32 : Int) < (n : Int) := by omega
    have Fin2 : Hid (manyB (.mk k nm ws l) = true) := Lib.hid (by rw [Fin.out, decide_eq_true (by omega)]; rfl)
    clear hlm hwm h32
    go_enter Tryz.func64, Tryz.ntmps64
    go_wp2
    go_ret
    exact ⟨by rw [Fin2.out]; first | done | rfl, Hb1.out⟩
  have h32' : (n : Int) ≤ 32 := by omega
  by_cases h16 : 16 < m
  · have h16' : (16 : Int) < (m : Int) := by omega
    have Fin2 : Hid (manyB (.mk k nm ws l) = true) := Lib.hid (by rw [Fin.out, decide_eq_true (p := 16 < ws.length) (by omega)]; simp)
    clear hlm hwm h32 h16
    go_enter Tryz.func64, Tryz.ntmps64
    go_wp2
    go_ret
    exact ⟨by rw [Fin2.out]; first | done | rfl, Hb1.out⟩
  have h16' : (m : Int) ≤ 16 := by omega
  have Fin2 : Hid (manyB (.mk k nm ws l) = manyL l) := Lib.hid (by rw [Fin.out, decide_eq_false (by omega), decide_eq_false (by omega)]; rfl)
  clear hlm hwm h32 h16 Fin hl6 hw6
  go_enter Tryz.func64, Tryz.ntmps64
  go_wp2_with fail
  generalize hw1 : (w.alloc (.cells #[.int .i64 k, .string nm, .slice WA m wc, .slice CA n c2] 52)) = w1 at *
  clear hw1
  go_loopw [18] (fun v wr => ∃ j : Nat, j ≤ n ∧ v = .int .i64 (j : Nat) ∧ Hid (manyL (l.take j) = false) ∧ Below w1.heap.size w1 wr) (fun v _ => n - (intOf v).toNat)
  case atStart => exact ⟨0, Nat.zero_le _, rfl, Lib.hid rfl, Below.refl _ _⟩
  case round =>
    obtain ⟨j, hj, rfl, hS, hb⟩ := hrel
    have Hb := Lib.hid hb

    by_cases hlt : j < n
    · have hjl : j < l.length := by rw [Hlm.out]; exact hlt
      have hji : (j : Int) < (n : Int) := by omega
      have hji0 : (0 : Int) ≤ (j : Int) := by omega
      have hbx : Below w.heap.size w wr := Hb1.out.trans (hb.mono Hb1.out.size)
      obtain ⟨tb, tq, A', n', c', C', m', d', rfl, htb, hc0, hc1, hc2', hc3, cK⟩ := Hkid.out j hjl wr hbx
      have hal := (Below.refl wr.heap.size wr).alloc (Nat.le_refl _) (.cells #[.int .i64 l[j].kind, .string l[j].name, .slice A' n' c', .slice C' m' d'] 52)
      have Hal := Lib.hid hal
      have c1 := cK _ hal
      clear cK hal
      have Hmm := Lib.hid (Hmt.out j hjl)
      have Hmx := Lib.hid (Hms.out j hjl)
      clear hb hlt hbx
      generalize l[j] = y at *
      generalize (y).kind = x0 at *
      generalize (y).name = x1 at *
      go_wp2_with fail
      refine c1.mono ?_
      rintro e w2 ⟨rfl, hb2⟩
      have FinB := Lib.hid ((Hb.out.trans (Hal.out.mono Hb.out.size)).trans (hb2.mono (Nat.le_trans Hb.out.size Hal.out.size)))
      clear hb2 c1
      cases hy : manyB y with
      | true =>
        have Fin3 : Hid (manyB (.mk k nm ws l) = true) := Lib.hid (by rw [Fin2.out]; exact Hmx.out hy)
        clear hy Hmx Hmm
        go_wp2
        go_ret
        exact ⟨by rw [Fin3.out]; first | done | rfl, Hb1.out.trans (FinB.out.mono Hb1.out.size)⟩
      | false =>
        have Hnx : Hid (manyL (l.take (j + 1)) = false) := Lib.hid (by rw [Hmm.out, hS.out, hy]; rfl)
        clear hy Hmx Hmm
        go_wp2
        go_roundw
        case rel => exact ⟨j + 1, by omega, by go_num, Hnx, FinB.out⟩
        case measure => simp [intOf]; omega
    · have hji : (n : Int) ≤ (j : Int) := by omega
      have e : n = j := by omega
      have Fin3 : Hid (manyB (.mk k nm ws l) = false) := Lib.hid (by
        rw [Fin2.out, ← List.take_length (l := l), Hlm.out, e]; exact hS.out)
      clear hb hS e
      go_wp2
      go_ret
      exact ⟨by rw [Fin3.out]; first | done | rfl, Hb1.out.trans (Hb.out.mono Hb1.out.size)⟩


set_option maxHeartbeats 6400000 in
theorem depth_ref1 (k : Int) (nm : ByteArray) (ws : List ByteArray) (l : List Q) (K : Nat) (hK : K ≤ 16777216) (hl6 : l.length ≤ 8796093021952) (hd : ∀ j, depthL (l.take j) ≤ K) (ih : ∀ x ∈ l, DepOk 51 x) : DepOk 51 (.mk k nm ws l) := by
  intro w a0 a1 a2 a3 hQ
  obtain ⟨WA, m, wc, CA, n, c2, e, hI⟩ := hQ.is
  simp only [List.cons.injEq, and_true] at e
  obtain ⟨rfl, rfl, rfl, rfl⟩ := e
  have hb1 : Below w.heap.size w (w.alloc (.cells #[.int .i64 k, .string nm, .slice WA m wc, .slice CA n c2] 52)) := (Below.refl _ _).alloc (Nat.le_refl _) _
  have hB1 := Blk.new w 52 #[.int .i64 k, .string nm, .slice WA m wc, .slice CA n c2]
  have hz1 : w.heap.size < (w.alloc (.cells #[.int .i64 k, .string nm, .slice WA m wc, .slice CA n c2] 52)).heap.size := by simp
  have Hb1 := Lib.hid hb1
  have HB1 := Lib.hid hB1
  have hlm := hI.lm
  have hn6 : n ≤ 8796093021952 := by omega
  have hkid : ∀ j (hj : j < l.length), ∀ w1, Below w.heap.size w w1 → ∃ b o A' n' c' C' m' d', CA = some ⟨b, o, none⟩ ∧ b < w.heap.size ∧
      w1.cell? ⟨b, o + j * 4, none⟩ = some (.int .i64 l[j].kind) ∧ w1.cell? ⟨b, o + j * 4 + 1, none⟩ = some (.string l[j].name) ∧ w1.cell? ⟨b, o + j * 4 + 2, none⟩ = some (.slice A' n' c') ∧ w1.cell? ⟨b, o + j * 4 + 3, none⟩ = some (.slice C' m' d') ∧
      ∀ w2, Below w1.heap.size w1 w2 → Calls Tryz.prog 51 #[.agg #[.int .i64 l[j].kind, .string l[j].name, .slice A' n' c', .slice C' m' d']] w2 fun e w' => e = .returned (.int .i64 (depthN l[j] : Nat)) ∧ Below w2.heap.size w2 w' := by
    intro j hj w1 hb
    obtain ⟨tb, tq, A', n', c', C', m', d', rfl, htb, hq, hc0, hc1, hc2, hc3⟩ := hI.at_ hj
    exact ⟨tb, tq, A', n', c', C', m', d', rfl, htb, (hb.cell (p := ⟨tb, tq + j * 4, none⟩) htb).trans hc0, (hb.cell (p := ⟨tb, tq + j * 4 + 1, none⟩) htb).trans hc1, (hb.cell (p := ⟨tb, tq + j * 4 + 2, none⟩) htb).trans hc2, (hb.cell (p := ⟨tb, tq + j * 4 + 3, none⟩) htb).trans hc3, fun w2 hb2 => ih _ (List.getElem_mem hj) w2 _ _ _ _ ((hq.grow hb).grow hb2)⟩
  have Hlm := Lib.hid hlm
  have Hkid := Lib.hid hkid
  have Fin := Lib.hid (depthN_eq k nm ws l)
  have Hmt := Lib.hid (depthL_take l)
  have Hd := Lib.hid hd
  clear hQ hI hb1 hB1 hkid ih hlm hl6 hd
  go_enter Tryz.func51, Tryz.ntmps51
  go_wp2_with fail
  generalize hw1 : (w.alloc (.cells #[.int .i64 k, .string nm, .slice WA m wc, .slice CA n c2] 52)) = w1 at *
  clear hw1
  go_loopw [3, 4] (fun d v wr => ∃ j : Nat, j ≤ n ∧ v = .int .i64 (j : Nat) ∧ d = .int .i64 (depthL (l.take j) : Nat) ∧ Below w1.heap.size w1 wr) (fun _ v _ => n - (intOf v).toNat)
  case atStart => exact ⟨0, Nat.zero_le _, rfl, rfl, Below.refl _ _⟩
  case round =>
    obtain ⟨j, hj, rfl, rfl, hb⟩ := hrel
    have Hb := Lib.hid hb
    have hdj := Hd.out j
    have hls := (hb.cell (p := ⟨w.heap.size, 3, none⟩) (by show w.heap.size < _; exact hz1)).trans (HB1.out.cell 3)
    simp at hls
    by_cases hlt : j < n
    · have hjl : j < l.length := by rw [Hlm.out]; exact hlt
      have hji : (j : Int) < (n : Int) := by omega
      have hji0 : (0 : Int) ≤ (j : Int) := by omega
      have hbx : Below w.heap.size w wr := Hb1.out.trans (hb.mono Hb1.out.size)
      obtain ⟨tb, tq, A', n', c', C', m', d', rfl, htb, hc0, hc1, hc2', hc3, cK⟩ := Hkid.out j hjl wr hbx
      have c1 := cK wr (Below.refl _ _)
      clear cK
      have Hmm := Lib.hid (Hmt.out j hjl)
      have hdn : depthN l[j] ≤ K := by have := Hd.out (j + 1); rw [Hmm.out] at this; omega
      clear hb hlt hbx
      generalize l[j] = y at *
      generalize depthN y = dy at *
      generalize hD : depthL (l.take j) = dl at *
      generalize hD2 : depthL (l.take (j + 1)) = dl2 at *
      have HD2 := Lib.hid hD2
      clear hD hD2
      generalize (y).kind = x0 at *
      generalize (y).name = x1 at *
      go_wp2_with fail
      refine c1.mono ?_
      rintro e w2 ⟨rfl, hb2⟩
      have FinB := Lib.hid (Hb.out.trans (hb2.mono Hb.out.size))
      clear hb2 c1
      go_wp2_with fail
      go_roundw
      case rel => exact ⟨j + 1, by omega, by go_num, by rw [HD2.out, Hmm.out]; exact congrArg (Value.int .i64) (by omega), FinB.out⟩
      case measure => simp [intOf]; omega
    · have hji : (n : Int) ≤ (j : Int) := by omega
      have e : n = j := by omega
      have Fin3 : Hid (depthN (.mk k nm ws l) = depthL (l.take j) + 1) := Lib.hid (by
        rw [Fin.out, ← e, ← Hlm.out, List.take_length])
      clear hb e
      generalize depthL (l.take j) = dl at *
      go_wp2
      go_ret
      exact ⟨ret_int (by rw [Fin3.out]; omega), Hb1.out.trans (Hb.out.mono Hb1.out.size)⟩


set_option maxHeartbeats 6400000 in
theorem depth_go1 (k : Int) (nm : ByteArray) (ws : List ByteArray) (l : List Q) (K : Nat) (hK : K ≤ 16777216) (hl6 : l.length ≤ 8796093021952) (hd : ∀ j, depthL (l.take j) ≤ K) (ih : ∀ x ∈ l, DepOk 65 x) : DepOk 65 (.mk k nm ws l) := by
  intro w a0 a1 a2 a3 hQ
  obtain ⟨WA, m, wc, CA, n, c2, e, hI⟩ := hQ.is
  simp only [List.cons.injEq, and_true] at e
  obtain ⟨rfl, rfl, rfl, rfl⟩ := e
  have hb1 : Below w.heap.size w (w.alloc (.cells #[.int .i64 k, .string nm, .slice WA m wc, .slice CA n c2] 52)) := (Below.refl _ _).alloc (Nat.le_refl _) _
  have hB1 := Blk.new w 52 #[.int .i64 k, .string nm, .slice WA m wc, .slice CA n c2]
  have hz1 : w.heap.size < (w.alloc (.cells #[.int .i64 k, .string nm, .slice WA m wc, .slice CA n c2] 52)).heap.size := by simp
  have Hb1 := Lib.hid hb1
  have HB1 := Lib.hid hB1
  have hlm := hI.lm
  have hn6 : n ≤ 8796093021952 := by omega
  have hkid : ∀ j (hj : j < l.length), ∀ w1, Below w.heap.size w w1 → ∃ b o A' n' c' C' m' d', CA = some ⟨b, o, none⟩ ∧ b < w.heap.size ∧
      w1.cell? ⟨b, o + j * 4, none⟩ = some (.int .i64 l[j].kind) ∧ w1.cell? ⟨b, o + j * 4 + 1, none⟩ = some (.string l[j].name) ∧ w1.cell? ⟨b, o + j * 4 + 2, none⟩ = some (.slice A' n' c') ∧ w1.cell? ⟨b, o + j * 4 + 3, none⟩ = some (.slice C' m' d') ∧
      ∀ w2, Below w1.heap.size w1 w2 → Calls Tryz.prog 65 #[.agg #[.int .i64 l[j].kind, .string l[j].name, .slice A' n' c', .slice C' m' d']] w2 fun e w' => e = .returned (.int .i64 (depthN l[j] : Nat)) ∧ Below w2.heap.size w2 w' := by
    intro j hj w1 hb
    obtain ⟨tb, tq, A', n', c', C', m', d', rfl, htb, hq, hc0, hc1, hc2, hc3⟩ := hI.at_ hj
    exact ⟨tb, tq, A', n', c', C', m', d', rfl, htb, (hb.cell (p := ⟨tb, tq + j * 4, none⟩) htb).trans hc0, (hb.cell (p := ⟨tb, tq + j * 4 + 1, none⟩) htb).trans hc1, (hb.cell (p := ⟨tb, tq + j * 4 + 2, none⟩) htb).trans hc2, (hb.cell (p := ⟨tb, tq + j * 4 + 3, none⟩) htb).trans hc3, fun w2 hb2 => ih _ (List.getElem_mem hj) w2 _ _ _ _ ((hq.grow hb).grow hb2)⟩
  have Hlm := Lib.hid hlm
  have Hkid := Lib.hid hkid
  have Fin := Lib.hid (depthN_eq k nm ws l)
  have Hmt := Lib.hid (depthL_take l)
  have Hd := Lib.hid hd
  clear hQ hI hb1 hB1 hkid ih hlm hl6 hd
  go_enter Tryz.func65, Tryz.ntmps65
  go_wp2_with fail
  generalize hw1 : (w.alloc (.cells #[.int .i64 k, .string nm, .slice WA m wc, .slice CA n c2] 52)) = w1 at *
  clear hw1
  go_loopw [3, 9] (fun d v wr => ∃ j : Nat, j ≤ n ∧ v = .int .i64 (j : Nat) ∧ d = .int .i64 (depthL (l.take j) : Nat) ∧ Below w1.heap.size w1 wr) (fun _ v _ => n - (intOf v).toNat)
  case atStart => exact ⟨0, Nat.zero_le _, rfl, rfl, Below.refl _ _⟩
  case round =>
    obtain ⟨j, hj, rfl, rfl, hb⟩ := hrel
    have Hb := Lib.hid hb
    have hdj := Hd.out j

    by_cases hlt : j < n
    · have hjl : j < l.length := by rw [Hlm.out]; exact hlt
      have hji : (j : Int) < (n : Int) := by omega
      have hji0 : (0 : Int) ≤ (j : Int) := by omega
      have hbx : Below w.heap.size w wr := Hb1.out.trans (hb.mono Hb1.out.size)
      obtain ⟨tb, tq, A', n', c', C', m', d', rfl, htb, hc0, hc1, hc2', hc3, cK⟩ := Hkid.out j hjl wr hbx
      have hal := (Below.refl wr.heap.size wr).alloc (Nat.le_refl _) (.cells #[.int .i64 l[j].kind, .string l[j].name, .slice A' n' c', .slice C' m' d'] 52)
      have Hal := Lib.hid hal
      have c1 := cK _ hal
      clear cK hal
      have Hmm := Lib.hid (Hmt.out j hjl)
      have hdn : depthN l[j] ≤ K := by have := Hd.out (j + 1); rw [Hmm.out] at this; omega
      clear hb hlt hbx
      generalize l[j] = y at *
      generalize depthN y = dy at *
      generalize hD : depthL (l.take j) = dl at *
      generalize hD2 : depthL (l.take (j + 1)) = dl2 at *
      have HD2 := Lib.hid hD2
      clear hD hD2
      generalize (y).kind = x0 at *
      generalize (y).name = x1 at *
      go_wp2_with fail
      refine c1.mono ?_
      rintro e w2 ⟨rfl, hb2⟩
      have FinB := Lib.hid ((Hb.out.trans (Hal.out.mono Hb.out.size)).trans (hb2.mono (Nat.le_trans Hb.out.size Hal.out.size)))
      clear hb2 c1
      go_wp2_with fail
      go_roundw
      case rel => exact ⟨j + 1, by omega, by go_num, by rw [HD2.out, Hmm.out]; exact congrArg (Value.int .i64) (by omega), FinB.out⟩
      case measure => simp [intOf]; omega
    · have hji : (n : Int) ≤ (j : Int) := by omega
      have e : n = j := by omega
      have Fin3 : Hid (depthN (.mk k nm ws l) = depthL (l.take j) + 1) := Lib.hid (by
        rw [Fin.out, ← e, ← Hlm.out, List.take_length])
      clear hb e
      generalize depthL (l.take j) = dl at *
      go_wp2
      go_ret
      exact ⟨ret_int (by rw [Fin3.out]; omega), Hb1.out.trans (Hb.out.mono Hb1.out.size)⟩

theorem depthL_le (l : List Q) (K : Nat) (h : ∀ x ∈ l, QW K x) (j : Nat) : depthL (l.take j) ≤ K := by
  have : ∀ l' : List Q, (∀ x ∈ l', depthN x ≤ K) → depthL l' ≤ K := by
    intro l'
    induction l' with
    | nil => intro _; simp [depthL]
    | cons q l' ih2 =>
      intro h
      rw [depthL]
      have := h q (by simp)
      have := ih2 (fun x hx => h x (by simp [hx]))
      omega
  exact this _ fun x hx => (h x (List.mem_of_mem_take hx)).depth
theorem many_ref {K : Nat} {q : Q} (h : QW K q) : ManyOk 50 q := by
  induction h with
  | mk h1 h2 h3 ih => exact many_ref1 _ _ _ _ h2 h1 ih
theorem many_go {K : Nat} {q : Q} (h : QW K q) : ManyOk 64 q := by
  induction h with
  | mk h1 h2 h3 ih => exact many_go1 _ _ _ _ h2 h1 ih
theorem depth_ref {K : Nat} {q : Q} (h : QW K q) : K ≤ 16777216 → DepOk 51 q := by
  induction h with
  | mk h1 h2 h3 ih => intro hK; exact depth_ref1 _ _ _ _ _ (by omega) h2 (depthL_le _ _ h3) fun x hx => ih x hx (by omega)
theorem depth_go {K : Nat} {q : Q} (h : QW K q) : K ≤ 16777216 → DepOk 65 q := by
  induction h with
  | mk h1 h2 h3 ih => intro hK; exact depth_go1 _ _ _ _ _ (by omega) h2 (depthL_le _ _ h3) fun x hx => ih x hx (by omega)
end Go.Proofs.YtlfpfkallgkjdaaGreat.Qp
end

section
/- What is read of pieces is not too great: plain. -/
namespace Go.Proofs.YtlfpfkallgkjdaaGreat.Qp
open Go.RowKit Go.Proofs.YtlfpfkallgkjdaaGreat Go.Proofs.YtlfpfkallgkjdaaGreat.Ut Go.Proofs.YtlfpfkallgkjdaaGreat.Tk Go.Proofs.YtlfpfkallgkjdaaGreat.Qy

theorem words_few (s : P) : (words s).length ≤ s.length := by
  have := words_len (str s)
  rw [str_data, ← bsize, str_data] at this
  exact this
theorem wordsQ_w (nm : P) (l : List P) (q : Q) (hl : l.length ≤ 1048576) (h : wordsQ nm l = some q) : QW 1 q := by
  unfold wordsQ at h
  split at h
  · cases h
  · split at h
    · injection h with h
      subst h
      exact .mk (by rw [List.length_map]; omega) (by simp) (by simp)
    · injection h with h
      subst h
      exact .mk (by rw [List.length_map]; omega) (by simp) (by simp)
theorem rest_len (s : P) : (restOf s).length ≤ s.length := by
  unfold restOf
  split
  · rw [List.length_drop]; omega
  · exact Nat.le_refl _
theorem leafQ_w (s : P) (q : Q) (hl : s.length ≤ 1048576) (h : leafQ s = some q) : QW 1 q := by
  unfold leafQ at h
  have hr := rest_len s
  split at h
  · injection h with h
    subst h
    exact .mk (by simp) (by simp) (by simp)
  · split at h
    · cases h
    · split at h
      · refine wordsQ_w _ _ q ?_ h
        have := words_few (((restOf s).take ((restOf s).length - 1)).drop 1)
        rw [List.length_drop, List.length_take] at this
        omega
      · split at h
        · split at h
          · injection h with h
            subst h
            exact .mk (by simp) (by simp) (by simp)
          · split at h
            · injection h with h
              subst h
              have := words_few (restOf s).dropLast
              rw [List.length_dropLast] at this
              exact .mk (by rw [List.length_map]; omega) (by simp) (by simp)
            · cases h
        · refine wordsQ_w _ _ q ?_ h
          have := words_few (restOf s)
          omega
theorem oneQ_w (k : Int) (a : List Q) (K : Nat) (hl : a.length ≤ 8796093021952) (h : ∀ x ∈ a, QW K x) : QW (K + 1) (oneQ k a) := by
  match a, hl, h with
  | [q], _, h => exact (h q (by simp)).more _ (by omega)
  | [], hl, h => exact .mk (by simp) hl h
  | q :: q' :: a, hl, h => exact .mk (by simp) hl h
/-- What is read of so many pieces. -/
def Wide (m : Md) (l : List P) (q : Q) : Prop :=
  match m with
  | .part => ∀ K, 4 * l.length ≤ K + 3 → QW K q
  | .and a => ∀ K, 4 * l.length ≤ K + 3 → (∀ x ∈ a, QW K x) → a.length + l.length ≤ 1048577 → QW (K + 1) q
  | .andT a => ∀ K, 4 * l.length ≤ K + 3 → (∀ x ∈ a, QW K x) → a.length + l.length ≤ 1048577 → QW (K + 1) q
  | .or a => ∀ K, 4 * l.length ≤ K + 3 → (∀ x ∈ a, QW (K + 1) x) → a.length + l.length ≤ 1048577 → QW (K + 2) q
  | .orT a => ∀ K, 4 * l.length ≤ K + 3 → (∀ x ∈ a, QW (K + 1) x) → a.length + l.length ≤ 1048577 → QW (K + 2) q
theorem R.wide {m : Md} {l : List P} {o : Option (Q × List P)} (h : R m l o) (hp : ∀ x ∈ l, x.length ≤ 1048576) (hm : l.length ≤ 1048576) : ∀ q r, o = some (q, r) → Wide m l q := by
  induction h with
  | pnil => intro q r e; cases e
  | pnot hs h ih =>
    intro q r e K hK
    obtain ⟨⟨q', r'⟩, h1, h2⟩ := Option.map_eq_some_iff.1 e
    simp only [Prod.mk.injEq] at h2
    obtain ⟨rfl, _⟩ := h2
    rw [List.length_cons] at hK hm
    have := ih (fun x hx => hp x (by simp [hx])) (by omega) q' r' h1
    obtain ⟨K2, rfl⟩ : ∃ K2, K = K2 + 1 := ⟨K - 1, by omega⟩
    exact .mk (by simp) (by simp) fun x hx => by rw [List.mem_singleton] at hx; rw [hx]; exact this K2 (by omega)
  | @plp s t o hs h ih =>
    intro q r e K hK
    match o, e, h, ih with
    | some (q', s' :: r'), e, h, ih =>
      by_cases hp' : s' = RP
      · have e2 : closed (some (q', s' :: r')) = some (q', r') := if_pos hp'
        rw [e2] at e
        simp only [Option.some.injEq, Prod.mk.injEq] at e
        obtain ⟨rfl, _⟩ := e
        rw [List.length_cons] at hK hm
        obtain ⟨k, hk1, hk2, hk3⟩ := h.less _ _ rfl
        have hk4 : 1 ≤ k := hk3 (.inr (.inr ⟨_, rfl⟩))
        have := ih (fun x hx => hp x (by simp [hx])) (by omega) q' _ rfl (4 * t.length - 3) (by omega) (by simp) (by simp; omega)
        exact this.more _ (by omega)
      · have e2 : closed (some (q', s' :: r')) = none := if_neg hp'
        rw [e2] at e
        cases e
    | some (q', []), e, _, _ => cases e
    | none, e, _, _ => cases e
  | pbad hs => intro q r e; cases e
  | pleaf hs =>
    intro q r e K hK
    obtain ⟨q', h1, h2⟩ := Option.map_eq_some_iff.1 e
    simp only [Prod.mk.injEq] at h2
    obtain ⟨rfl, _⟩ := h2
    rw [List.length_cons] at hK
    exact (leafQ_w _ _ (hp _ (by simp)) h1).more _ (by omega)
  | and0 h ih => intro q r e; cases e
  | and1 h h2 ih ih2 =>
    intro q r e K hK ha hn
    obtain ⟨k, rfl, hk, h1⟩ := h.less _ _ rfl
    have hk1 := h1 (.inl rfl)
    have hq := ih hp hm _ _ rfl K hK
    rw [List.length_drop] at ih2
    have := ih2 (fun x hx => hp x (List.mem_of_mem_drop hx)) (by omega) q r e K (by rw [List.length_drop]; omega) (fun x hx => by
      rcases List.mem_append.1 hx with hx | hx
      · exact ha x hx
      · rw [List.mem_singleton] at hx; rw [hx]; exact hq) (by rw [List.length_append, List.length_singleton, List.length_drop]; omega)
    exact this
  | andE h =>
    intro q r e K hK ha hn
    simp only [Option.some.injEq, Prod.mk.injEq] at e
    obtain ⟨rfl, _⟩ := e
    exact oneQ_w _ _ K (by omega) ha
  | andA hs h ih =>
    intro q r e K hK ha hn
    rw [List.length_cons] at hK hm hn
    exact ih (fun x hx => hp x (by simp [hx])) (by omega) q r e K (by omega) ha (by omega)
  | andN hs hn h ih =>
    intro q r e K hK ha hn
    exact ih hp hm q r e K hK ha hn
  | or0 h ih => intro q r e; cases e
  | or1 h h2 ih ih2 =>
    intro q r e K hK ha hn
    obtain ⟨k, rfl, hk, h1⟩ := h.less _ _ rfl
    have hk1 := h1 (.inr (.inl ⟨_, rfl⟩))
    have hq := ih hp hm _ _ rfl K hK (by simp) (by simp; omega)
    rw [List.length_drop] at ih2
    exact ih2 (fun x hx => hp x (List.mem_of_mem_drop hx)) (by omega) q r e K (by rw [List.length_drop]; omega) (fun x hx => by
      rcases List.mem_append.1 hx with hx | hx
      · exact ha x hx
      · rw [List.mem_singleton] at hx; rw [hx]; exact hq) (by rw [List.length_append, List.length_singleton, List.length_drop]; omega)
  | orE h =>
    intro q r e K hK ha hn
    simp only [Option.some.injEq, Prod.mk.injEq] at e
    obtain ⟨rfl, _⟩ := e
    exact oneQ_w _ _ (K + 1) (by omega) ha
  | orO hs h ih =>
    intro q r e K hK ha hn
    rw [List.length_cons] at hK hm hn
    exact ih (fun x hx => hp x (by simp [hx])) (by omega) q r e K (by omega) ha (by omega)
/-- What is read of a text. -/
theorem or_wide {l : List P} {q : Q} {r : List P} (h : R (.or []) l (some (q, r))) (hp : ∀ x ∈ l, x.length ≤ 1048576) (hm : l.length ≤ 1048576) : ∃ K, K ≤ 16777216 ∧ QW K q :=
  ⟨4 * l.length + 2, by omega, h.wide hp hm q r rfl (4 * l.length) (by omega) (by simp) (by simp; omega)⟩
/-- A text's query, or why there is none: 0, or the error's number. -/
inductive PrsR : P → Int → Option Q → Prop
  | long {s} (h : 1024 < s.length) : PrsR s 2 none
  | noPieces {s} (h : s.length ≤ 1024) (hp : pieces s = none) : PrsR s 170 none
  | bad {s l} (h : s.length ≤ 1024) (hp : pieces s = some l) (hr : R (.or []) l none) : PrsR s 170 none
  | left {s l q r} (h : s.length ≤ 1024) (hp : pieces s = some l) (hr : R (.or []) l (some (q, r))) (hl : r ≠ []) : PrsR s 170 none
  | many {s l q} (h : s.length ≤ 1024) (hp : pieces s = some l) (hr : R (.or []) l (some (q, []))) (hm : manyB q = true) : PrsR s 3 none
  | deep {s l q} (h : s.length ≤ 1024) (hp : pieces s = some l) (hr : R (.or []) l (some (q, []))) (hm : manyB q = false) (hd : 16 < depthN q) : PrsR s 171 none
  | ok {s l q} (h : s.length ≤ 1024) (hp : pieces s = some l) (hr : R (.or []) l (some (q, []))) (hm : manyB q = false) (hd : depthN q ≤ 16) : PrsR s 0 (some q)
theorem PrsR.det {s : P} {e e' : Int} {o o' : Option Q} (h : PrsR s e o) (h' : PrsR s e' o') : e = e' ∧ o = o' := by
  have key : ∀ {l l' : List P} {x x' : Option (Q × List P)}, pieces s = some l → pieces s = some l' → R (.or []) l x → R (.or []) l' x' → x = x' := fun hp hp' hr hr' => by
    rw [hp] at hp'
    injection hp' with hp'
    subst hp'
    exact hr.det _ hr'
  cases h with
  | long h => cases h' with
    | long _ => exact ⟨rfl, rfl⟩
    | _ => omega
  | noPieces h hp => cases h' with
    | long _ => omega
    | noPieces _ _ => exact ⟨rfl, rfl⟩
    | bad _ _ _ => exact ⟨rfl, rfl⟩
    | left _ _ _ _ => exact ⟨rfl, rfl⟩
    | many _ hp' _ _ => rw [hp] at hp'; cases hp'
    | deep _ hp' _ _ _ => rw [hp] at hp'; cases hp'
    | ok _ hp' _ _ _ => rw [hp] at hp'; cases hp'
  | bad h hp hr => cases h' with
    | long _ => omega
    | noPieces _ _ => exact ⟨rfl, rfl⟩
    | bad _ _ _ => exact ⟨rfl, rfl⟩
    | left _ _ _ _ => exact ⟨rfl, rfl⟩
    | many _ hp' hr' _ => exact absurd (key hp hp' hr hr') (by simp)
    | deep _ hp' hr' _ _ => exact absurd (key hp hp' hr hr') (by simp)
    | ok _ hp' hr' _ _ => exact absurd (key hp hp' hr hr') (by simp)
  | left h hp hr hl => cases h' with
    | long _ => omega
    | noPieces _ _ => exact ⟨rfl, rfl⟩
    | bad _ _ _ => exact ⟨rfl, rfl⟩
    | left _ _ _ _ => exact ⟨rfl, rfl⟩
    | many _ hp' hr' _ => have := key hp hp' hr hr'; simp at this; exact absurd this.2 hl
    | deep _ hp' hr' _ _ => have := key hp hp' hr hr'; simp at this; exact absurd this.2 hl
    | ok _ hp' hr' _ _ => have := key hp hp' hr hr'; simp at this; exact absurd this.2 hl
  | many h hp hr hm => cases h' with
    | long _ => omega
    | noPieces _ hp' => rw [hp] at hp'; cases hp'
    | bad _ hp' hr' => exact absurd (key hp hp' hr hr') (by simp)
    | left _ hp' hr' hl => have := key hp hp' hr hr'; simp at this; exact absurd this.2 hl
    | many _ _ _ _ => exact ⟨rfl, rfl⟩
    | deep _ hp' hr' hm' _ => have := key hp hp' hr hr'; simp at this; subst this; rw [hm] at hm'; cases hm'
    | ok _ hp' hr' hm' _ => have := key hp hp' hr hr'; simp at this; subst this; rw [hm] at hm'; cases hm'
  | deep h hp hr hm hd => cases h' with
    | long _ => omega
    | noPieces _ hp' => rw [hp] at hp'; cases hp'
    | bad _ hp' hr' => exact absurd (key hp hp' hr hr') (by simp)
    | left _ hp' hr' hl => have := key hp hp' hr hr'; simp at this; exact absurd this.2 hl
    | many _ hp' hr' hm' => have := key hp hp' hr hr'; simp at this; subst this; rw [hm] at hm'; cases hm'
    | deep _ _ _ _ _ => exact ⟨rfl, rfl⟩
    | ok _ hp' hr' _ hd' => have := key hp hp' hr hr'; simp at this; subst this; omega
  | ok h hp hr hm hd => cases h' with
    | long _ => omega
    | noPieces _ hp' => rw [hp] at hp'; cases hp'
    | bad _ hp' hr' => exact absurd (key hp hp' hr hr') (by simp)
    | left _ hp' hr' hl => have := key hp hp' hr hr'; simp at this; exact absurd this.2 hl
    | many _ hp' hr' hm' => have := key hp hp' hr hr'; simp at this; subst this; rw [hm] at hm'; cases hm'
    | deep _ hp' hr' _ hd' => have := key hp hp' hr hr'; simp at this; subst this; omega
    | ok _ hp' hr' _ _ => have := key hp hp' hr hr'; simp at this; subst this; exact ⟨rfl, rfl⟩
end Go.Proofs.YtlfpfkallgkjdaaGreat.Qp
end

section
/- qparse.Parse's deferred closure: its two contracts. -/
namespace Go.Proofs.YtlfpfkallgkjdaaGreat.Qp
open Go.RowKit Go.Proofs.YtlfpfkallgkjdaaGreat Go.Proofs.YtlfpfkallgkjdaaGreat.Ut Go.Proofs.YtlfpfkallgkjdaaGreat.Tk Go.Proofs.YtlfpfkallgkjdaaGreat.Qy
set_option maxRecDepth 20000
set_option linter.unusedSimpArgs false

theorem bad_is (v : Value) (xT : TypeId) (w : World) : (Instr.typeAssert (.iface 134 v) xT 134 true).run Tryz.prog w = .ok (.tuple #[v, .bool true]) w := by
  have hu := Tryz.underlying134
  simp [Instr.typeAssert, run_underlying hu, go_sem, Result.andThen]
theorem catch_idle (p1 p2 : Addr) (w : World) :
    CallsD Tryz.prog 61 #[.pointer (some p1), .pointer (some p2)] .returning w fun e u' w' => e = .returned (.tuple #[]) ∧ u' = .returning ∧ w' = w := by
  refine callsD_of_wpS Tryz.func61 rfl fun c₀ cs hu => ?_
  apply wpS_seq
  apply wpS_region
  simp [wpOpsS, go_sem, recoverD, hu, Tryz.ntmps61, Exit.thenS]
  refine wpS_of_wp ?_
  go_wp2
  cases c₀
  simp_all [bodyPostS, results, Tryz.results61]
set_option maxHeartbeats 1600000 in
theorem catch_bad (b1 b2 : Nat) (x0 x1 x2 x3 x4 : Value) (z : Int) (older : List PanicEntry) (w : World)
    (h1 : Blk w b1 52 #[x0, x1, x2, x3]) (h2 : Blk w b2 24 #[x4]) :
    CallsD Tryz.prog 61 #[.pointer (some ⟨b1, 0, none⟩), .pointer (some ⟨b2, 0, none⟩)] (.panicking ({ v := .iface 134 (.agg #[.int .i64 z]), recovered := false } :: older)) w fun e u' w' =>
      e = .returned (.tuple #[]) ∧ u' = .panicking ({ v := .iface 134 (.agg #[.int .i64 z]), recovered := true } :: older) ∧
      Blk w' b1 52 #[.int .i64 0, .string ⟨#[]⟩, .slice none 0 0, .slice none 0 0] ∧ Blk w' b2 24 #[.int .i64 z] ∧ (∀ B, B ≤ b1 → B ≤ b2 → B ≤ w.heap.size → Below B w w') := by
  refine callsD_of_wpS Tryz.func61 rfl fun c₀ cs hu => ?_
  apply wpS_seq
  apply wpS_region
  simp [wpOpsS, go_sem, recoverD, hu, Tryz.ntmps61, Exit.thenS]
  refine wpS_of_wp ?_
  obtain ⟨q0, q1, q2, q3, f0, f1, f2, f3⟩ := h1.four
  have q4 := h2.cell 0
  have f4 := h2.frozen 0
  simp at q4
  have hta := bad_is
  have hl1 := h1.lt
  have hl2 := h2.lt
  have hne := h1.ne_ h2 (by decide)
  have hne1 : b1 ≠ w.heap.size := by omega
  have hne2 : b2 ≠ w.heap.size := by omega
  have H1 := Lib.hid h1
  have H2 := Lib.hid h2
  clear h1 h2
  simp only [show Array.replicate 12 undef = #[undef, undef, undef, undef, undef, undef, undef, undef, undef, undef, undef, undef] from rfl, List.setIfInBounds_toArray, List.set_cons_succ, List.set_cons_zero, List.append_toArray, List.cons_append, List.nil_append]
  go_wp2
  go_region
  have g1 := (((H1.out.set4 (.int .i64 0) (.string ⟨#[]⟩) (.slice none 0 0) (.slice none 0 0)).far (p := ⟨b2, 0, none⟩) hne (.int .i64 z)).alloc (.cells #[.int .i64 z] 134)).drew
  have g2 : Blk (set4 w b1 (.int .i64 0) (.string ⟨#[]⟩) (.slice none 0 0) (.slice none 0 0)) b2 24 #[x4] := (set4_other w b1 b2 _ _ _ _ (fun e => hne e.symm)).trans H2.out
  have g3 := ((g2.set_ 0 (.int .i64 z)).alloc (.cells #[.int .i64 z] 134)).drew
  have g4 : ∀ B, B ≤ b1 → B ≤ b2 → B ≤ w.heap.size → Below B w (((set4 w b1 (.int .i64 0) (.string ⟨#[]⟩) (.slice none 0 0) (.slice none 0 0)).setCell ⟨b2, 0, none⟩ (.int .i64 z)).alloc (.cells #[.int .i64 z] 134)).drew := fun B h1 h2 h3 =>
    ((((below_set4 (Below.refl B w) h1 _ _ _ _).setCell (p := ⟨b2, 0, none⟩) h2 _).alloc (by simpa [World.setCell, set4_size] using h3) _).drew)
  unfold set4 at g1 g3 g4
  generalize (World.alloc _ (.cells #[.int .i64 z] 134)).drew = X at *
  rename_i QQ
  simp [QQ, Exit.inBlock, bodyPostS, results, Tryz.results61]
  exact ⟨g1, by simpa using g3, g4⟩
end Go.Proofs.YtlfpfkallgkjdaaGreat.Qp
end
