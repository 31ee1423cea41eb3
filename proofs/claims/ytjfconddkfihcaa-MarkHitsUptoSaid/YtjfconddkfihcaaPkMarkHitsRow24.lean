/- loggiaref18.alone at leaves: the walk (printed by gen_hitd.py). -/
import Derived.StillTail
import Derived.Test.YtjfconddkfihcaaPkMarkHitsRow23
import Derived.Test.YtjfconddkfihcaaPkMarkHitsRow16
import Derived.Test.YtjfconddkfihcaaGrowPk
section
namespace Go.Proofs.Ytjfconddkfihcaa.Mk
open Go.RowKit Go.Proofs.Ytjfconddkfihcaa Go.Proofs.Ytjfconddkfihcaa.Ut Go.Proofs.Ytjfconddkfihcaa.Tk Go.Proofs.Ytjfconddkfihcaa.Qy
set_option maxRecDepth 20000
set_option linter.unusedSimpArgs false


set_option maxHeartbeats 6400000 in
theorem alone_2 (nm : ByteArray) (ws : List ByteArray) (l : List Q) (hm6 : ws.length ≤ 8796093021952) (hl6 : l.length ≤ 8796093021952) (hnm : nm.size ≤ 1048576) (hsz : ∀ x ∈ ws, x.size ≤ 1048576) : AloneOk (.mk 2 nm ws l) := by
  intro w a0 a1 a2 a3 hQ
  obtain ⟨WA, m, wc, CA, n, c2, e, hI⟩ := hQ.is
  simp only [List.cons.injEq, and_true] at e
  obtain ⟨rfl, rfl, rfl, rfl⟩ := e
  have hb1 : Below w.heap.size w (w.alloc (.cells #[.int .i64 2, .string nm, .slice WA m wc, .slice CA n c2] 37)) := (Below.refl _ _).alloc (Nat.le_refl _) _
  have hB1 := Blk.new w 37 #[.int .i64 2, .string nm, .slice WA m wc, .slice CA n c2]
  have hz1 : w.heap.size < (w.alloc (.cells #[.int .i64 2, .string nm, .slice WA m wc, .slice CA n c2] 37)).heap.size := by simp
  have Hb1 := Lib.hid hb1
  have HB1 := Lib.hid hB1
  have hm2 : m ≤ 8796093021952 := by have := hI.wn; omega
  have hn2 : n ≤ 8796093021952 := by have := hI.lm; omega
  have cn := fun wx => isName_refB nm wx hnm
  have cw := fun wx (h : QAt wx wx.heap.size (.mk 2 nm ws l) [.int .i64 2, .string nm, .slice WA m wc, .slice CA n c2]) => words_2 nm ws l hm6 hsz wx _ _ _ _ h
  have fin : ∀ r : Int, r = 0 → ((2 : Int) = 5 → l ≠ []) := fun _ _ h => absurd h (by decide)
  have HQ1 := Lib.hid (hQ.grow hb1)
  generalize isN nm.data.toList = tn at *
  have CN := Lib.hid cn
  have CW := Lib.hid cw
  have Fin := Lib.hid fin
  clear hQ hI hb1 hB1 hm6 hl6 hnm hsz cn cw fin
  by_cases hn : n = 0
  · subst hn
    go_enter Try.func99, Try.ntmps99
    go_wp2_with fail
    all_goals
      refine (CN.out _).mono ?_
      rintro e wx ⟨rfl, hwx⟩
      subst hwx
      cases tn with
      | false =>
        go_wp2
        go_ret
        exact ⟨⟨_, rfl, Fin.out _⟩, Hb1.out⟩
      | true =>
        go_wp2_with fail
        refine (CW.out _ HQ1.out).mono ?_
        rintro e wx ⟨⟨t, rfl⟩, hbx⟩
        have Hbx := Lib.hid (Hb1.out.trans (hbx.mono Hb1.out.size))
        clear hbx
        cases t with
        | false =>
          go_wp2
          go_ret
          exact ⟨⟨_, rfl, Fin.out _⟩, Hbx.out⟩
        | true =>
          go_wp2
          go_ret
          exact ⟨⟨_, rfl, Fin.out _⟩, Hbx.out⟩
  · have hn' : ((n : Int) == 0) = false := by rw [beq_eq_false_iff_ne]; omega
    go_enter Try.func99, Try.ntmps99
    go_wp2_with fail
    all_goals
      refine (CN.out _).mono ?_
      rintro e wx ⟨rfl, hwx⟩
      subst hwx
      cases tn with
      | false =>
        go_wp2
        go_ret
        exact ⟨⟨_, rfl, Fin.out _⟩, Hb1.out⟩
      | true =>
        go_wp2
        go_ret
        exact ⟨⟨_, rfl, Fin.out _⟩, Hb1.out⟩

set_option maxHeartbeats 6400000 in
theorem alone_3 (nm : ByteArray) (ws : List ByteArray) (l : List Q) (hm6 : ws.length ≤ 8796093021952) (hl6 : l.length ≤ 8796093021952) (hnm : nm.size ≤ 1048576) (hsz : ∀ x ∈ ws, x.size ≤ 1048576) : AloneOk (.mk 3 nm ws l) := by
  intro w a0 a1 a2 a3 hQ
  obtain ⟨WA, m, wc, CA, n, c2, e, hI⟩ := hQ.is
  simp only [List.cons.injEq, and_true] at e
  obtain ⟨rfl, rfl, rfl, rfl⟩ := e
  have hb1 : Below w.heap.size w (w.alloc (.cells #[.int .i64 3, .string nm, .slice WA m wc, .slice CA n c2] 37)) := (Below.refl _ _).alloc (Nat.le_refl _) _
  have hB1 := Blk.new w 37 #[.int .i64 3, .string nm, .slice WA m wc, .slice CA n c2]
  have hz1 : w.heap.size < (w.alloc (.cells #[.int .i64 3, .string nm, .slice WA m wc, .slice CA n c2] 37)).heap.size := by simp
  have Hb1 := Lib.hid hb1
  have HB1 := Lib.hid hB1
  have hm2 : m ≤ 8796093021952 := by have := hI.wn; omega
  have hn2 : n ≤ 8796093021952 := by have := hI.lm; omega
  have cn := fun wx => isName_refB nm wx hnm
  have cw := fun wx (h : QAt wx wx.heap.size (.mk 3 nm ws l) [.int .i64 3, .string nm, .slice WA m wc, .slice CA n c2]) => words_3 nm ws l hm6 hsz wx _ _ _ _ h
  have fin : ∀ r : Int, r = 0 → ((3 : Int) = 5 → l ≠ []) := fun _ _ h => absurd h (by decide)
  have HQ1 := Lib.hid (hQ.grow hb1)
  generalize isN nm.data.toList = tn at *
  have CN := Lib.hid cn
  have CW := Lib.hid cw
  have Fin := Lib.hid fin
  clear hQ hI hb1 hB1 hm6 hl6 hnm hsz cn cw fin
  by_cases hn : n = 0
  · subst hn
    go_enter Try.func99, Try.ntmps99
    go_wp2_with fail
    all_goals
      refine (CN.out _).mono ?_
      rintro e wx ⟨rfl, hwx⟩
      subst hwx
      cases tn with
      | false =>
        go_wp2
        go_ret
        exact ⟨⟨_, rfl, Fin.out _⟩, Hb1.out⟩
      | true =>
        go_wp2_with fail
        refine (CW.out _ HQ1.out).mono ?_
        rintro e wx ⟨⟨t, rfl⟩, hbx⟩
        have Hbx := Lib.hid (Hb1.out.trans (hbx.mono Hb1.out.size))
        clear hbx
        cases t with
        | false =>
          go_wp2
          go_ret
          exact ⟨⟨_, rfl, Fin.out _⟩, Hbx.out⟩
        | true =>
          go_wp2
          go_ret
          exact ⟨⟨_, rfl, Fin.out _⟩, Hbx.out⟩
  · have hn' : ((n : Int) == 0) = false := by rw [beq_eq_false_iff_ne]; omega
    go_enter Try.func99, Try.ntmps99
    go_wp2_with fail
    all_goals
      refine (CN.out _).mono ?_
      rintro e wx ⟨rfl, hwx⟩
      subst hwx
      cases tn with
      | false =>
        go_wp2
        go_ret
        exact ⟨⟨_, rfl, Fin.out _⟩, Hb1.out⟩
      | true =>
        go_wp2
        go_ret
        exact ⟨⟨_, rfl, Fin.out _⟩, Hb1.out⟩

set_option maxHeartbeats 6400000 in
theorem alone_4 (nm : ByteArray) (ws : List ByteArray) (l : List Q) (hm6 : ws.length ≤ 8796093021952) (hl6 : l.length ≤ 8796093021952) (hnm : nm.size ≤ 1048576) (hsz : ∀ x ∈ ws, x.size ≤ 1048576) : AloneOk (.mk 4 nm ws l) := by
  intro w a0 a1 a2 a3 hQ
  obtain ⟨WA, m, wc, CA, n, c2, e, hI⟩ := hQ.is
  simp only [List.cons.injEq, and_true] at e
  obtain ⟨rfl, rfl, rfl, rfl⟩ := e
  have hb1 : Below w.heap.size w (w.alloc (.cells #[.int .i64 4, .string nm, .slice WA m wc, .slice CA n c2] 37)) := (Below.refl _ _).alloc (Nat.le_refl _) _
  have hB1 := Blk.new w 37 #[.int .i64 4, .string nm, .slice WA m wc, .slice CA n c2]
  have hz1 : w.heap.size < (w.alloc (.cells #[.int .i64 4, .string nm, .slice WA m wc, .slice CA n c2] 37)).heap.size := by simp
  have Hb1 := Lib.hid hb1
  have HB1 := Lib.hid hB1
  have hm2 : m ≤ 8796093021952 := by have := hI.wn; omega
  have hn2 : n ≤ 8796093021952 := by have := hI.lm; omega
  have cn := fun wx => isName_refB nm wx hnm
  have cw := fun wx (h : QAt wx wx.heap.size (.mk 4 nm ws l) [.int .i64 4, .string nm, .slice WA m wc, .slice CA n c2]) => words_4 nm ws l hm6 hsz wx _ _ _ _ h
  have fin : ∀ r : Int, r = 0 → ((4 : Int) = 5 → l ≠ []) := fun _ _ h => absurd h (by decide)
  have HQ1 := Lib.hid (hQ.grow hb1)
  generalize isN nm.data.toList = tn at *
  have CN := Lib.hid cn
  have CW := Lib.hid cw
  have Fin := Lib.hid fin
  clear hQ hI hb1 hB1 hm6 hl6 hnm hsz cn cw fin
  by_cases hm16 : 16 < m
  · have hm16' : (16 : Int) < (m : Int) := by omega
    clear CN CW HQ1
    go_enter Try.func99, Try.ntmps99
    go_wp2
    go_ret
    exact ⟨⟨_, rfl, Fin.out _⟩, Hb1.out⟩
  · have hm16' : (m : Int) ≤ (16 : Int) := by omega
    by_cases hn : n = 0
    · subst hn
      go_enter Try.func99, Try.ntmps99
      go_wp2_with fail
      all_goals
        refine (CN.out _).mono ?_
        rintro e wx ⟨rfl, hwx⟩
        subst hwx
        cases tn with
        | false =>
          go_wp2
          go_ret
          exact ⟨⟨_, rfl, Fin.out _⟩, Hb1.out⟩
        | true =>
          go_wp2_with fail
          refine (CW.out _ HQ1.out).mono ?_
          rintro e wx ⟨⟨t, rfl⟩, hbx⟩
          have Hbx := Lib.hid (Hb1.out.trans (hbx.mono Hb1.out.size))
          clear hbx
          cases t with
          | false =>
            go_wp2
            go_ret
            exact ⟨⟨_, rfl, Fin.out _⟩, Hbx.out⟩
          | true =>
            go_wp2
            go_ret
            exact ⟨⟨_, rfl, Fin.out _⟩, Hbx.out⟩
    · have hn' : ((n : Int) == 0) = false := by rw [beq_eq_false_iff_ne]; omega
      go_enter Try.func99, Try.ntmps99
      go_wp2_with fail
      all_goals
        refine (CN.out _).mono ?_
        rintro e wx ⟨rfl, hwx⟩
        subst hwx
        cases tn with
        | false =>
          go_wp2
          go_ret
          exact ⟨⟨_, rfl, Fin.out _⟩, Hb1.out⟩
        | true =>
          go_wp2
          go_ret
          exact ⟨⟨_, rfl, Fin.out _⟩, Hb1.out⟩

theorem alone_any (q : Q) (hq : QSz q) (ht : QTx 1048576 q) : AloneOk q := by
  cases hq with
  | @mk k nm ws l g1 g2 g3 =>
    cases ht with
    | mk t1 t2 t3 =>
      by_cases h0 : k < 1
      · exact alone_low k h0 nm ws l
      by_cases h7 : 7 < k
      · exact alone_high k h7 nm ws l
      have hk : k = 1 ∨ k = 2 ∨ k = 3 ∨ k = 4 ∨ k = 5 ∨ k = 6 ∨ k = 7 := by omega
      rcases hk with rfl | rfl | rfl | rfl | rfl | rfl | rfl
      · exact alone_1 nm ws l g1 g2
      · exact alone_2 nm ws l g1 g2 t1 t2
      · exact alone_3 nm ws l g1 g2 t1 t2
      · exact alone_4 nm ws l g1 g2 t1 t2
      · exact alone_5 nm ws l g1 g2
      · exact alone_6 nm ws l g1 g2
      · exact alone_7 nm ws l g1 g2
end Go.Proofs.Ytjfconddkfihcaa.Mk
end

section
/- loggiaref18.all, Check: the walks (printed by gen_hitd.py). -/
namespace Go.Proofs.Ytjfconddkfihcaa.Mk
open Go.RowKit Go.Proofs.Ytjfconddkfihcaa Go.Proofs.Ytjfconddkfihcaa.Ut Go.Proofs.Ytjfconddkfihcaa.Tk Go.Proofs.Ytjfconddkfihcaa.Qy
set_option maxRecDepth 20000
set_option linter.unusedSimpArgs false

def AllOk (q : Q) : Prop := ∀ (w : World) (a0 a1 a2 a3 : Value), QAt w w.heap.size q [a0, a1, a2, a3] →
  Calls Try.prog 72 #[.agg #[a0, a1, a2, a3]] w fun e w' => (∃ r : Int, e = .returned (.int .i64 r) ∧ (r = 0 → AndQ q)) ∧ Below w.heap.size w w'


set_option maxHeartbeats 6400000 in
theorem all_in (k : Int) (nm : ByteArray) (ws : List ByteArray) (l : List Q) (hal : AloneOk (.mk k nm ws l)) (hl6 : l.length ≤ 8796093021952) (ih : ∀ x ∈ l, AllOk x) : AllOk (.mk k nm ws l) := by
  intro w a0 a1 a2 a3 hQ
  obtain ⟨WA, m, wc, CA, n, c2, e, hI⟩ := hQ.is
  simp only [List.cons.injEq, and_true] at e
  obtain ⟨rfl, rfl, rfl, rfl⟩ := e
  have hb1 : Below w.heap.size w (w.alloc (.cells #[.int .i64 k, .string nm, .slice WA m wc, .slice CA n c2] 37)) := (Below.refl _ _).alloc (Nat.le_refl _) _
  have hB1 := Blk.new w 37 #[.int .i64 k, .string nm, .slice WA m wc, .slice CA n c2]
  have hz1 : w.heap.size < (w.alloc (.cells #[.int .i64 k, .string nm, .slice WA m wc, .slice CA n c2] 37)).heap.size := by simp
  have Hb1 := Lib.hid hb1
  have HB1 := Lib.hid hB1
  have hlm := hI.lm
  have hn6 : n ≤ 8796093021952 := by omega
  have hkid : ∀ j (hj : j < l.length), ∀ w1, Below w.heap.size w w1 → ∃ b o A' n' c' C' m' d', CA = some ⟨b, o, none⟩ ∧ b < w.heap.size ∧
      w1.cell? ⟨b, o + j * 4, none⟩ = some (.int .i64 l[j].kind) ∧ w1.cell? ⟨b, o + j * 4 + 1, none⟩ = some (.string l[j].name) ∧ w1.cell? ⟨b, o + j * 4 + 2, none⟩ = some (.slice A' n' c') ∧ w1.cell? ⟨b, o + j * 4 + 3, none⟩ = some (.slice C' m' d') ∧
      Calls Try.prog 72 #[.agg #[.int .i64 l[j].kind, .string l[j].name, .slice A' n' c', .slice C' m' d']] w1 fun e w' => (∃ r : Int, e = .returned (.int .i64 r) ∧ (r = 0 → AndQ l[j])) ∧ Below w1.heap.size w1 w' := by
    intro j hj w1 hb
    obtain ⟨tb, tq, A', n', c', C', m', d', rfl, htb, hq, hc0, hc1, hc2, hc3⟩ := hI.at_ hj
    exact ⟨tb, tq, A', n', c', C', m', d', rfl, htb, (hb.cell (p := ⟨tb, tq + j * 4, none⟩) htb).trans hc0, (hb.cell (p := ⟨tb, tq + j * 4 + 1, none⟩) htb).trans hc1, (hb.cell (p := ⟨tb, tq + j * 4 + 2, none⟩) htb).trans hc2, (hb.cell (p := ⟨tb, tq + j * 4 + 3, none⟩) htb).trans hc3, ih _ (List.getElem_mem hj) w1 _ _ _ _ (hq.grow hb)⟩
  have Hlm := Lib.hid hlm
  have Hkid := Lib.hid hkid
  have c0 := hal _ _ _ _ _ (hQ.grow hb1)
  have hfin : (k = 5 → l ≠ []) → (∀ x ∈ l.take n, AndQ x) → AndQ (.mk k nm ws l) := fun h5 h => .mk h5 (fun x hx => h x (by rw [← hlm, List.take_length]; exact hx))
  have hnx : ∀ j (hj : j < l.length), (∀ x ∈ l.take j, AndQ x) → AndQ l[j] → ∀ x ∈ l.take (j + 1), AndQ x := fun j hj h h' x hx => by
    rw [List.take_succ_eq_append_getElem hj, List.mem_append] at hx
    rcases hx with hx | hx
    · exact h x hx
    · rw [List.mem_singleton] at hx; rw [hx]; exact h'
  have Hfin := Lib.hid hfin
  have Hnx := Lib.hid hnx
  have C0 := Lib.hid c0
  clear hQ hI hb1 hB1 hkid ih hl6 hlm hfin hnx hal c0
  go_enter Try.func72, Try.ntmps72
  go_wp2_with fail
  generalize hw1 : (w.alloc (.cells #[.int .i64 k, .string nm, .slice WA m wc, .slice CA n c2] 37)) = w1 at *
  clear hw1
  refine C0.out.mono ?_
  rintro e w2 ⟨⟨r0, rfl, h50⟩, hb2⟩
  have H50 := Lib.hid h50
  have HbA := Lib.hid hb2
  clear C0 h50 hb2
  go_wp2_with fail
  go_loopw [3, 4] (fun v i wr => ∃ (j : Nat) (r : Int), j ≤ n ∧ i = .int .i64 (j : Nat) ∧ v = .int .i64 r ∧ Hid (r = 0 → (k = 5 → l ≠ []) ∧ ∀ x ∈ l.take j, AndQ x) ∧ Below w1.heap.size w1 wr) (fun _ i _ => n - (intOf i).toNat)
  case atStart => exact ⟨0, r0, Nat.zero_le _, rfl, rfl, Lib.hid (fun h => ⟨H50.out h, fun x hx => by simp at hx⟩), HbA.out⟩
  case round =>
    obtain ⟨j, r, hj, rfl, rfl, hS, hb⟩ := hrel
    have Hb := Lib.hid hb
    have hls := (hb.cell (p := ⟨w.heap.size, 3, none⟩) (by show w.heap.size < _; exact hz1)).trans (HB1.out.cell 3)
    simp at hls
    clear H50 HbA
    by_cases hlt : j < n
    · have hji : (j : Int) < (n : Int) := by omega
      have hji0 : (0 : Int) ≤ (j : Int) := by omega
      by_cases hr : r = 0
      · subst hr
        have hjl : j < l.length := by rw [Hlm.out]; exact hlt
        obtain ⟨tb, tq, A', n', c', C', m', d', rfl, htb, hc0, hc1, hc2', hc3, c1⟩ := Hkid.out j hjl wr (Hb1.out.trans (hb.mono Hb1.out.size))
        have Hmm : Hid (AndQ l[j] → (k = 5 → l ≠ []) ∧ ∀ x ∈ l.take (j + 1), AndQ x) := Lib.hid (fun h => ⟨(hS.out rfl).1, Hnx.out j hjl (hS.out rfl).2 h⟩)
        clear hb hS hlt
        generalize l[j] = y at *
        generalize (y).kind = x0 at *
        generalize (y).name = x1 at *
        go_wp2_with fail
        refine c1.mono ?_
        rintro e w2 ⟨⟨t, rfl, ht⟩, hb2⟩
        have Ht := Lib.hid (fun h => Hmm.out (ht h))
        have FinB := Lib.hid (Hb.out.trans (hb2.mono Hb.out.size))
        clear hb2 c1 ht Hmm
        go_wp2
        go_roundw
        case rel => exact ⟨j + 1, t, by omega, by go_num, rfl, Ht, FinB.out⟩
        case measure => simp [intOf]; omega
      · have hr' : (r == 0) = false := by rw [beq_eq_false_iff_ne]; exact hr
        have Fin : Hid (r = 0 → AndQ (.mk k nm ws l)) := Lib.hid (fun h => absurd h hr)
        clear hb hS Hkid Hnx Hfin
        go_wp2
        go_ret
        exact ⟨⟨r, rfl, Fin.out⟩, Hb1.out.trans (Hb.out.mono Hb1.out.size)⟩
    · have hji : (n : Int) ≤ (j : Int) := by omega
      have e : n = j := by omega
      have Fin : Hid (r = 0 → AndQ (.mk k nm ws l)) := Lib.hid (fun h => Hfin.out (hS.out h).1 (by rw [e]; exact (hS.out h).2))
      clear hb hS e Hkid Hnx Hfin
      go_wp2
      go_ret
      exact ⟨⟨r, rfl, Fin.out⟩, Hb1.out.trans (Hb.out.mono Hb1.out.size)⟩

theorem all_any : ∀ q, QSz q → QTx 1048576 q → AllOk q := by
  refine Q.ind (p := fun q => QSz q → QTx 1048576 q → AllOk q) (fun k nm ws l ih h ht => ?_)
  have ha := alone_any _ h ht
  cases h with
  | mk g1 g2 g3 =>
    cases ht with
    | mk t1 t2 t3 => exact all_in k nm ws l ha g2 (fun x hx => ih x hx (g3 x hx) (t3 x hx))

set_option maxHeartbeats 6400000 in
theorem hcheck_any (q : Q) (hq : QSz q) (ht : QTx 1048576 q) (w : World) (a0 a1 a2 a3 : Value) (hQ : QAt w w.heap.size q [a0, a1, a2, a3]) :
    Calls Try.prog 26 #[.agg #[a0, a1, a2, a3]] w fun e w' => (∃ r : Int, e = .returned (.int .i64 r) ∧ (r = 0 → AndQ q)) ∧ Below w.heap.size w w' := by
  obtain ⟨k, nm, WA, m, wc, CA, n, c2, e⟩ := (show ∃ k nm A n c C m d, [a0, a1, a2, a3] = [.int .i64 k, .string nm, .slice A n c, .slice C m d] by cases hQ; exact ⟨_, _, _, _, _, _, _, _, rfl⟩)
  simp only [List.cons.injEq, and_true] at e
  obtain ⟨rfl, rfl, rfl, rfl⟩ := e
  have hb1 : Below w.heap.size w (w.alloc (.cells #[.int .i64 k, .string nm, .slice WA m wc, .slice CA n c2] 37)) := (Below.refl _ _).alloc (Nat.le_refl _) _
  have hB1 := Blk.new w 37 #[.int .i64 k, .string nm, .slice WA m wc, .slice CA n c2]
  have hz1 : w.heap.size < (w.alloc (.cells #[.int .i64 k, .string nm, .slice WA m wc, .slice CA n c2] 37)).heap.size := by simp
  have Hb1 := Lib.hid hb1
  have HB1 := Lib.hid hB1
  have HQ1 := Lib.hid (hQ.grow hb1)
  have cd := depth_any q hq _ _ _ _ _ HQ1.out
  have ca := fun wx (h : QAt wx wx.heap.size q [.int .i64 k, .string nm, .slice WA m wc, .slice CA n c2]) => all_any q hq ht wx _ _ _ _ h
  have CD := Lib.hid cd
  have CA' := Lib.hid ca
  clear hQ hb1 hB1 cd ca hq ht
  go_enter Try.func26, Try.ntmps26
  go_wp2_with fail
  generalize hw1 : (w.alloc (.cells #[.int .i64 k, .string nm, .slice WA m wc, .slice CA n c2] 37)) = w1 at *
  clear hw1
  refine CD.out.mono ?_
  rintro e w2 ⟨⟨r0, rfl⟩, hb2⟩
  have hB2 := HB1.out.below hb2 hz1
  have hS2 := And.intro (hB2.cell 0) (And.intro (hB2.cell 1) (And.intro (hB2.cell 2) (hB2.cell 3)))
  simp at hS2
  have HQ2 := Lib.hid (HQ1.out.grow hb2)
  have Hb2 := Lib.hid (Hb1.out.trans (hb2.mono Hb1.out.size))
  clear CD hb2 hB2
  by_cases hd : 16 < r0
  · go_wp2
    go_ret
    exact ⟨⟨_, rfl, fun h => absurd h (by decide)⟩, Hb2.out⟩
  · have hd' : r0 ≤ 16 := by omega
    go_wp2_with fail
    refine (CA'.out _ HQ2.out).mono ?_
    rintro e w3 ⟨⟨r, rfl, hr⟩, hb3⟩
    have Hr := Lib.hid hr
    have Hb3 := Lib.hid (Hb2.out.trans (hb3.mono Hb2.out.size))
    clear hb3 hr
    go_wp2
    go_ret
    exact ⟨⟨r, rfl, Hr.out⟩, Hb3.out⟩
end Go.Proofs.Ytjfconddkfihcaa.Mk
end

section
/- Regions that draw their order and end in a forced tail (a store): one walk of the lexical order, calls that make memory let in ahead of the tail. -/
namespace Go.Proofs.Ytjfconddkfihcaa
open Go Go.RowKit

section
variable {P : Program} {ops : Array Oper} {md : Region.Mode} {C : World → Prop} {G : World → World → Prop} {Q : Act → World → Prop} {S : Nat → Option RSpec} {n g : Nat} {K : Array Bool → Act → (Nat → World → Prop) → Prop}

def TAnyL (P : Program) (md : Region.Mode) (ops : Array Oper) (C : World → Prop) (G : World → World → Prop) (S : Nat → Option RSpec) (n : Nat) (K : Array Bool → Act → (Nat → World → Prop) → Prop) : Nat → Array Bool → Act → (Nat → World → Prop) → Prop
  | 0, listed, a, F => SatT C F → K listed a F
  | fuel + 1, listed, a, F => SatT C F → (Region.ready md ops listed ≠ [] ∧
    ∀ i ∈ Region.ready md ops listed, i < n ∧ ∀ o, ops[i]? = some o → stepT P ops C G md S i o (TAnyL P md ops C G S n K fuel (listed.setIfInBounds i true)) a F)

theorem wpAny_of_TL (hS : ∀ i s, S i = some s → ∀ x w w', G w w' → s.Φ x w → s.Φ x w') {Q' : Exit → Act → World → Prop} (hK : ∀ listed a F w, K listed a F → C w → (∀ j, F j w) → wpAny P md ops Q' g listed a w) :
    ∀ (fuel : Nat) (listed : Array Bool) (a : Act) (F : Nat → World → Prop) (w : World), C w → (∀ j, F j w) → Lasts G F → TAnyL P md ops C G S n K fuel listed a F → wpAny P md ops Q' (fuel + g) listed a w
  | 0, _, a, F, w, hC, hF, _, h => by rw [Nat.zero_add]; exact hK _ _ _ _ (h ⟨w, hC, hF⟩) hC hF
  | fuel + 1, listed, a, F, w, hC, hF, hL, h => by
    rw [show fuel + 1 + g = (fuel + g) + 1 by omega]
    have h := h ⟨w, hC, hF⟩
    refine ⟨fun h0 => absurd h0 h.1, fun i hi => ?_⟩
    unfold wpOp
    obtain ⟨_, o, ho, _⟩ := mem_ready.1 hi
    simp only [ho]
    have hs := (h.2 i hi).2 o ho
    unfold stepT at hs
    split
    · rename_i hw
      rw [if_pos hw] at hs
      left
      split at hs
      · rename_i hSi
        obtain ⟨c, h1, h2⟩ := hs
        rcases h1 w hC (fun e _ _ => hF e.on) with hr | ⟨hr, rfl⟩
        · unfold Oper.wp; rw [hr]
          exact wpAny_of_TL hS hK fuel _ _ F w hC hF hL h2
        · unfold Oper.wp; rw [hr]
          exact wpAny_of_TL hS hK fuel _ _ F w hC hF hL h2
      · rename_i s hSi
        refine wp_of_gives ?_ (hs.1 w hC (fun e _ _ => hF e.on))
        rintro v w' hg ⟨hC', x, rfl, hx⟩
        refine wpAny_of_TL hS hK fuel _ _ _ w' hC' ?_ (hL.upd i (hS i s hSi x)) (hs.2 x)
        intro j
        unfold upd
        split
        · exact ⟨hL j _ _ hg (hF j), hx⟩
        · exact hL j _ _ hg (hF j)
    · rename_i hw
      rw [if_neg hw] at hs
      exact wpAny_of_TL hS hK fuel _ _ F w hC hF hL hs

theorem TAnyL_first (hS : ∀ i s, S i = some s → ∀ x w w', G w w' → s.Φ x w → s.Φ x w') {i : Nat} {oi : Oper} (hi : ops[i]? = some oi) (hsel : ∀ (j : Nat) (o : Oper) cs b, ops[j]? = some o → o.op ≠ .select cs b)
    (hs : Region.sinkB md ops n = true) (hc : Region.chainB md ops n = true) (hn : n < ops.size) (hin : i < n) (hdone : ∀ listed a F, K listed a F → ∀ j ∈ Region.ready md ops listed, n ≤ j)
    {V : Type} {f : V → Value} {p : V → Option (World → Prop)} :
    ∀ (fuel : Nat) (listed : Array Bool) (a : Act) (F : Nat → World → Prop), HeadInv md ops n listed → Lasts G F →
      (∀ j oj, ops[j]? = some oj → j ≠ i → listed.getD j true = false → (∀ e ∈ oj.after, Region.binds md e = true → e.on ≠ i) → oi.apart ops oj = true) →
      i ∈ Region.ready md ops listed → Head P ops C G md S i oi a F V f p →
      (∀ x, TAnyL P md ops C G S n K fuel (listed.setIfInBounds i true) (a.put oi.dst (f x)) (updO F i (p x))) → TAnyL P md ops C G S n K (fuel + 1) listed a F := by
  intro fuel
  induction fuel with
  | zero =>
    intro listed a F inv hL _ hr hy H hsat
    have hun := (mem_ready.1 hr).1
    refine ⟨fun h => (by rw [h] at hr; cases hr), fun j hj => ?_⟩
    have hjn : j < n := by
      rcases Nat.lt_or_ge j n with h | h
      · exact h
      · exact absurd hj (tail_waits hs hc hn inv _ i rfl hin hun j h)
    refine ⟨hjn, fun oj hoj => ?_⟩
    by_cases hji : j = i
    · subst hji
      rw [hi] at hoj
      injection hoj with hoj
      subst hoj
      exact hy.step H
    · obtain ⟨x, hx⟩ := hy.sat hL hsat
      have := hdone _ _ _ (H x hx) j (ready_mono hj hji)
      omega
  | succ fuel ih =>
    intro listed a F inv hL hfree hr hy H hsat
    have hun0 := (mem_ready.1 hr).1
    refine ⟨fun h => (by rw [h] at hr; cases hr), fun j hj => ?_⟩
    have hjn : j < n := by
      rcases Nat.lt_or_ge j n with h | h
      · exact h
      · exact absurd hj (tail_waits hs hc hn inv _ i rfl hin hun0 j h)
    refine ⟨hjn, fun oj hoj => ?_⟩
    by_cases hji : j = i
    · subst hji
      rw [hi] at hoj
      injection hoj with hoj
      subst hoj
      exact hy.step H
    · obtain ⟨hjun, oj', hoj', hall⟩ := mem_ready.1 hj
      rw [hoj] at hoj'
      injection hoj' with hoj'
      subst hoj'
      have hnot : ∀ e ∈ oj.after, Region.binds md e = true → e.on ≠ i := fun e he hb heq => by
        have h1 := hall e he hb
        have h0 := (mem_ready.1 hr).1
        rw [heq] at h1
        rcases Nat.lt_or_ge i listed.size with h' | h'
        · simp [h'] at h0 h1; rw [h0] at h1; cases h1
        · simp [Array.getElem?_eq_none h'] at h1
      have hnot2 : ∀ e ∈ oi.after, Region.binds md e = true → e.on ≠ j := fun e he hb heq => by
        obtain ⟨h0, o2, ho2, hall2⟩ := mem_ready.1 hr
        rw [hi] at ho2
        injection ho2 with ho2
        subst ho2
        have h1 := hall2 e he hb
        rw [heq] at h1
        rcases Nat.lt_or_ge j listed.size with h' | h'
        · simp [h'] at hjun h1; rw [hjun] at h1; cases h1
        · simp [Array.getElem?_eq_none h'] at h1
      have hap := hfree j oj hoj hji hjun hnot
      obtain ⟨a1, a2, a3⟩ := Oper.apart_spec hap
      have hsi : ∀ cs b, oi.op ≠ .select cs b := fun cs b => hsel i oi cs b hi
      have hsj : ∀ cs b, oj.op ≠ .select cs b := fun cs b => hsel j oj cs b hoj
      obtain ⟨x0, hx0⟩ := hy.sat hL hsat
      obtain ⟨Vj, fj, pj, hj0, _⟩ := head_of_step (((H x0 hx0).2 j (ready_mono hj hji)).2 oj hoj)
      have hjH : ∀ x, Head P ops C G md S j oj (a.put oi.dst (f x)) (updO F i (p x)) Vj fj pj := fun x =>
        hj0.same ((execOp_put oj hsj a oi.dst _ a1).trans (execOp_put oj hsj a oi.dst _ a1).symm) ((wanted_put oj a oi.dst _ a1).trans (wanted_put oj a oi.dst _ a1).symm) (fun w => (deps_updO hnot w).trans (deps_updO hnot w).symm)
      have hja : Head P ops C G md S j oj a F Vj fj pj := hj0.same (execOp_put oj hsj a oi.dst _ a1).symm (wanted_put oj a oi.dst _ a1).symm (fun w => (deps_updO hnot w).symm)
      refine hja.step fun y => ?_
      refine ih (listed.setIfInBounds j true) (a.put oj.dst (fj y)) (updO F j (pj y)) (inv.set hj hjn) (hja.lasts hS hL y) ?_ (ready_mono hr (Ne.symm hji)) ?_ ?_
      · intro k ok hk hki hun hno
        refine hfree k ok hk hki ?_ hno
        by_cases hjk : j = k
        · subst hjk; exact hjun
        · rw [getD_set_ne true hjk] at hun; exact hun
      · exact hy.same (execOp_put oi hsi a oj.dst _ a3) (wanted_put oi a oj.dst _ a3) (fun w => deps_updO hnot2 w)
      · intro x
        rw [← updO_comm (Ne.symm hji), ← Act.put_comm a (f x) (fj y) a2, Array.setIfInBounds_comm _ _ hji]
        have hb : SatT C (updO F i (p x)) → TAnyL P md ops C G S n K fuel ((listed.setIfInBounds i true).setIfInBounds j true) ((a.put oi.dst (f x)).put oj.dst (fj y)) (updO (updO F i (p x)) j (pj y)) := by
          intro hsx
          obtain ⟨V', f', p', h', hk'⟩ := head_of_step (((H x hsx).2 j (ready_mono hj hji)).2 oj hoj)
          obtain ⟨y', e1, e2⟩ := (hjH x).one h' hsx y
          rw [← e1, ← e2]
          exact hk' y'
        cases fuel with
        | zero => exact fun hs => hb (sat_updO hs) hs
        | succ fuel => exact fun hs => hb (sat_updO hs) hs

theorem TAnyL_lex (hS : ∀ i s, S i = some s → ∀ x w w', G w w' → s.Φ x w → s.Φ x w') (hsel : Region.noSelect ops = true) (hs : Region.sinkB md ops n = true) (hc : Region.chainB md ops n = true) (hn : n < ops.size) :
    ∀ (l : List Oper) (k : Nat) (listed : Array Bool) (a : Act) (F : Nat → World → Prop), HeadInv md ops n listed → Lasts G F → (∀ j, j < l.length → l[j]? = ops[k + j]?) → k + l.length = n →
    Region.lexHead md ops g l.length k listed = true → wpGrow P ops C G md S Q l k a F →
    TAnyL P md ops C G S n (fun listed' a' F' => Region.seqB md ops g n listed' = true ∧ FinT C Q a' F') l.length listed a F
  | [], k, listed, a, F, _, _, _, hk, hB, h => fun _ => by
    have : k = n := by simpa using hk
    subst this
    exact ⟨by simpa [Region.lexHead] using hB, h⟩
  | o :: l, k, listed, a, F, inv, hL, hl, hk, hB, h => by
    have h0 : ops[k]? = some o := by simpa using (hl 0 (by simp)).symm
    simp only [List.length_cons, Region.lexHead, Bool.and_eq_true] at hB
    obtain ⟨⟨hr, hf⟩, hB'⟩ := hB
    have hkn : k < n := by simp only [List.length_cons] at hk; omega
    have hr' : k ∈ Region.ready md ops listed := by simpa using hr
    obtain ⟨V, f, p, hh, hk'⟩ := head_of_step (show stepT P ops C G md S k o (wpGrow P ops C G md S Q l (k + 1)) a F from h)
    exact TAnyL_first hS h0 (Region.noSelect_spec hsel) hs hc hn hkn (fun listed' a' F' hL => seqB_ready hL.1) l.length listed a F inv hL (Region.free_spec h0 hf) hr' hh
      (fun x => TAnyL_lex hS hsel hs hc hn l (k + 1) _ _ _ (inv.set hr' hkn) (hh.lasts hS hL x) (fun j hj => by have := hl (j + 1) (by simp; omega); simpa [Nat.add_assoc, Nat.add_comm 1 j] using this) (by simp only [List.length_cons] at hk; omega) hB' (hk' x))

/-- **One walk of the lexical order serves every order**, calls that make memory let in, a forced tail behind. -/
theorem wp_region_grow_tail {id : Nat} {Q' : Exit → Act → World → Prop} {a : Act} {w : World} {l : List Oper} (n : Nat) (S : Nat → Option RSpec) (C : World → Prop) (G : World → World → Prop)
    (hm : P.follows .mixedOrders = true) (hB : Region.lexTailB .any l.toArray n = true) (hS : ∀ i s, S i = some s → ∀ x w w', G w w' → s.Φ x w → s.Φ x w') (hC : C { w with drawn := w.drawn + 1 })
    (h : GrowAt P l.toArray C G .any S (fun a w => wpList P l.toArray Q' (l.drop n) a w) (l.take n) 0 a (fun _ _ => True)) : (Code.region id l.toArray true).wp P Q' a w := by
  simp only [Region.lexTailB, Bool.and_eq_true, decide_eq_true_eq] at hB
  obtain ⟨⟨⟨⟨hsel, hn⟩, hs⟩, hc⟩, hlex⟩ := hB
  have hn' : n < l.length := by simpa using hn
  have htl : (l.take n).length = n := by simp; omega
  have hdl : (l.drop n).length = l.toArray.size - n := by simp
  have inv0 : HeadInv .any l.toArray n (Array.replicate l.toArray.size false) :=
    ⟨by simp, fun j oj _ hl => (by rw [getD_replicate_false] at hl; cases hl), fun t _ ht => getD_in (by simpa using ht) (getD_replicate_false _ _)⟩
  have H := TAnyL_lex (C := C) (G := G) (md := .any) (g := l.toArray.size - n) hS hsel hs hc hn (l.take n) 0 _ a (fun _ _ => True) inv0 (fun _ _ _ _ _ => trivial) (fun j hj => by
    have hj' : j < n := by rw [htl] at hj; exact hj
    simp [hj']) (by simpa using htl) (by rw [htl]; exact hlex) h.out
  refine wp_region_any hm ?_
  have := wpAny_of_TL (Q' := Q') (g := l.toArray.size - n) hS (fun listed a' F' w' hL hC' hF' => by
    have := wpAny_of_seq (md := .any) (Q' := Q') (l.drop n) n listed a' w' (fun j => by simp [List.getElem?_drop]) (by rw [hdl]; exact hL.1) (hL.2 w' hC' hF')
    rwa [hdl] at this) _ _ _ _ _ hC (fun _ => trivial) (fun _ _ _ _ _ => trivial) H
  rw [htl, show n + (l.toArray.size - n) = l.toArray.size by omega] at this
  exact this
theorem give_value {o : Oper} {a : Act} {w : World} {R : Value → World → Prop} {u : Value} {w' : World} (hr : (execOp a.eval o).run P w = .ok (.value u) w') (hg : G w w') (h : R u w') : growUpon P G w R ((execOp a.eval o).run P w) := by
  rw [hr]; exact ⟨hg, h⟩
end
end Go.Proofs.Ytjfconddkfihcaa
end
