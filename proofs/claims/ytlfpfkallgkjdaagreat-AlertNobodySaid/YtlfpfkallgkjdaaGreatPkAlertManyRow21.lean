/- match.Match: the walk. -/
import Derived.Laws.EntriesVeiled
import Derived.Test.YtlfpfkallgkjdaaGreatPkAlertManyRow20
import Derived.Test.YtlfpfkallgkjdaaGreatPkAlertManyRow19
section
namespace Go.Proofs.YtlfpfkallgkjdaaGreat.Qy
open Go.RowKit Go.Proofs.YtlfpfkallgkjdaaGreat Go.Proofs.YtlfpfkallgkjdaaGreat.Ut Go.Proofs.YtlfpfkallgkjdaaGreat.Tk
set_option maxRecDepth 20000
set_option linter.unusedSimpArgs false

/-- Not more than a slice can hold. -/
inductive QSz : Q → Prop where
  | mk {k : Int} {nm : ByteArray} {ws : List ByteArray} {l : List Q} (h1 : ws.length ≤ 8796093021952) (h2 : l.length ≤ 8796093021952) (h3 : ∀ x ∈ l, QSz x) : QSz (.mk k nm ws l)
/-- Fields of an event that came in, or of the call's own. -/
structure EvAt (w : World) (F : Option Addr) (fn : Nat) (fs : List (ByteArray × ByteArray)) : Prop where
  rd : Reads w w.heap.size 2 F fn (fldC fs)
  len : fs.length = fn
  few : fn ≤ 8796093021952
  sz : ∀ f ∈ fs, f.2.size ≤ 1048576
theorem EvAt.grow {w w' : World} {F : Option Addr} {fn : Nat} {fs : List (ByteArray × ByteArray)} (h : EvAt w F fn fs) (hb : Below w.heap.size w w') : EvAt w' F fn fs := ⟨reads_grow hb h.rd, h.len, h.few, h.sz⟩
/-- Match at a query does what it must. -/
def MatchOk (fs : List (ByteArray × ByteArray)) (q : Q) : Prop := ∀ (w : World) (a0 a1 a2 a3 : Value) (t : Int) (F : Option Addr) (fn fc : Nat), QAt w w.heap.size q [a0, a1, a2, a3] → EvAt w F fn fs →
  Calls Tryz.prog 46 #[.agg #[a0, a1, a2, a3], .agg #[.int .i64 t, .slice F fn fc]] w fun e w' => e = .returned (.bool (matchB fs q)) ∧ Below w.heap.size w w'

/-- An event behind a pointer. -/
structure EBox (w : World) (eb : Nat) (t : Int) (F : Option Addr) (fn fc : Nat) : Prop where
  c0 : w.cell? ⟨eb, 0, none⟩ = some (.int .i64 t)
  c1 : w.cell? ⟨eb, 1, none⟩ = some (.slice F fn fc)
theorem EBox.grow {w w' : World} {eb : Nat} {t : Int} {F : Option Addr} {fn fc : Nat} (h : EBox w eb t F fn fc) (hb : Below w.heap.size w w') : EBox w' eb t F fn fc := by
  have hl := World.block_lt_of_cell? w _ h.c0
  exact ⟨(hb.cell (p := ⟨eb, 0, none⟩) hl).trans h.c0, (hb.cell (p := ⟨eb, 1, none⟩) hl).trans h.c1⟩

set_option maxHeartbeats 800000 in
theorem fits_any (fs : List (ByteArray × ByteArray)) (q : Q) (ih : MatchOk fs q) (eb : Nat) (t : Int) (F : Option Addr) (fn fc : Nat) (w : World) (a0 a1 a2 a3 : Value) (hq : QAt w w.heap.size q [a0, a1, a2, a3]) (hE : EBox w eb t F fn fc) (hF : EvAt w F fn fs) :
    Calls Tryz.prog 81 #[.agg #[a0, a1, a2, a3], .pointer (some ⟨eb, 0, none⟩)] w fun e w' => e = .returned (.bool (matchB fs q)) ∧ Below w.heap.size w w' := by
  obtain ⟨k, nm, ws, l⟩ := q
  obtain ⟨A, n, c, C, m, d, e, _⟩ := hq.is
  simp only [List.cons.injEq, and_true] at e
  obtain ⟨rfl, rfl, rfl, rfl⟩ := e
  have hb : Below w.heap.size w (w.alloc (.cells #[.int .i64 k, .string nm, .slice A n c, .slice C m d] 52)) := (Below.refl _ _).alloc (Nat.le_refl _) _
  have c1 := ih _ _ _ _ _ t F fn fc (hq.grow hb) (hF.grow hb)
  have h0 := hE.c0
  have h1 := hE.c1
  have Hb := Lib.hid hb
  have hl := World.block_lt_of_cell? w _ h0
  clear hq hE hF ih hb
  generalize matchB fs (.mk k nm ws l) = r at *
  go_enter Tryz.func81, Tryz.ntmps81
  go_wp2_with fail
  refine c1.mono ?_
  rintro e w1 ⟨rfl, hb1⟩
  have Hb1 := Lib.hid (Hb.out.trans (hb1.mono Hb.out.size))
  clear hb1 c1
  go_wp2
  go_ret
  exact ⟨rfl, Hb1.out⟩
set_option maxHeartbeats 800000 in
theorem nots_any (fs : List (ByteArray × ByteArray)) (q : Q) (ih : MatchOk fs q) (fb eb : Nat) (t : Int) (F : Option Addr) (fn fc : Nat) (w : World) (a0 a1 a2 a3 : Value) (hq : QAt w w.heap.size q [a0, a1, a2, a3]) (hE : EBox w eb t F fn fc) (hF : EvAt w F fn fs)
    (hfb : w.cell? ⟨fb, 0, none⟩ = some (.func (.func 81) #[] #[.pointer (some ⟨eb, 0, none⟩)])) :
    Calls Tryz.prog 84 #[.agg #[a0, a1, a2, a3], .pointer (some ⟨fb, 0, none⟩)] w fun e w' => e = .returned (.bool (!matchB fs q)) ∧ Below w.heap.size w w' := by
  obtain ⟨k, nm, ws, l⟩ := q
  obtain ⟨A, n, c, C, m, d, e, _⟩ := hq.is
  simp only [List.cons.injEq, and_true] at e
  obtain ⟨rfl, rfl, rfl, rfl⟩ := e
  have hb : Below w.heap.size w (w.alloc (.cells #[.int .i64 k, .string nm, .slice A n c, .slice C m d] 52)) := (Below.refl _ _).alloc (Nat.le_refl _) _
  have c1 := fits_any fs _ ih eb t F fn fc _ _ _ _ _ (hq.grow hb) (hE.grow hb) (hF.grow hb)
  have Hb := Lib.hid hb
  have hl := World.block_lt_of_cell? w _ hfb
  clear hq hE hF ih hb
  generalize matchB fs (.mk k nm ws l) = r at *
  go_enter Tryz.func84, Tryz.ntmps84
  go_wp2_with fail
  refine c1.mono ?_
  rintro e w1 ⟨rfl, hb1⟩
  have Hb1 := Lib.hid (Hb.out.trans (hb1.mono Hb.out.size))
  clear hb1 c1
  go_wp2
  go_ret
  exact ⟨rfl, Hb1.out⟩

theorem not_any_not {α : Type} (l : List α) (g : α → Bool) : (!l.any fun x => !g x) = l.all g := by
  rw [List.all_eq_not_any_not]

set_option maxHeartbeats 3200000 in
theorem match_step (fs : List (ByteArray × ByteArray)) (k : Int) (nm : ByteArray) (ws : List ByteArray) (l : List Q) (hl2 : ws.length ≤ 8796093021952) (hl3 : l.length ≤ 8796093021952) (ih : ∀ x ∈ l, MatchOk fs x) : MatchOk fs (.mk k nm ws l) := by
  intro w a0 a1 a2 a3 t F fn fc hq hF
  obtain ⟨WA, m, wc, CA, n, c2, e, hI⟩ := hq.is
  simp only [List.cons.injEq, and_true] at e
  obtain ⟨rfl, rfl, rfl, rfl⟩ := e
  have hbq : Below w.heap.size w (w.alloc (.cells #[.int .i64 k, .string nm, .slice WA m wc, .slice CA n c2] 52)) := (Below.refl _ _).alloc (Nat.le_refl _) _
  have hbe : Below w.heap.size w ((w.alloc (.cells #[.int .i64 k, .string nm, .slice WA m wc, .slice CA n c2] 52)).alloc (.cells #[.int .i64 t, .slice F fn fc] 33)) := hbq.alloc hbq.size _
  have hb5 : Below w.heap.size w (((w.alloc (.cells #[.int .i64 k, .string nm, .slice WA m wc, .slice CA n c2] 52)).alloc (.cells #[.int .i64 t, .slice F fn fc] 33)).alloc (.cells #[.func (.func 81) #[] #[.pointer (some ⟨w.heap.size + 1, 0, none⟩)]] 119)) := hbe.alloc hbe.size _
  have z1 : (w.alloc (.cells #[.int .i64 k, .string nm, .slice WA m wc, .slice CA n c2] 52)).heap.size = w.heap.size + 1 := by simp
  have z2 : ((w.alloc (.cells #[.int .i64 k, .string nm, .slice WA m wc, .slice CA n c2] 52)).alloc (.cells #[.int .i64 t, .slice F fn fc] 33)).heap.size = w.heap.size + 1 + 1 := by simp
  have hQ5 := (((Blk.new w 52 #[.int .i64 k, .string nm, .slice WA m wc, .slice CA n c2]).alloc (.cells #[.int .i64 t, .slice F fn fc] 33)).alloc (.cells #[.func (.func 81) #[] #[.pointer (some ⟨w.heap.size + 1, 0, none⟩)]] 119))
  have hE5 : EBox (((w.alloc (.cells #[.int .i64 k, .string nm, .slice WA m wc, .slice CA n c2] 52)).alloc (.cells #[.int .i64 t, .slice F fn fc] 33)).alloc (.cells #[.func (.func 81) #[] #[.pointer (some ⟨w.heap.size + 1, 0, none⟩)]] 119)) (w.heap.size + 1) t F fn fc := by
    have h := ((Blk.new (w.alloc (.cells #[.int .i64 k, .string nm, .slice WA m wc, .slice CA n c2] 52)) 33 #[.int .i64 t, .slice F fn fc]).alloc (.cells #[.func (.func 81) #[] #[.pointer (some ⟨w.heap.size + 1, 0, none⟩)]] 119))
    rw [z1] at h
    exact ⟨h.cell 0, h.cell 1⟩
  have hF5 : ((((w.alloc (.cells #[.int .i64 k, .string nm, .slice WA m wc, .slice CA n c2] 52)).alloc (.cells #[.int .i64 t, .slice F fn fc] 33)).alloc (.cells #[.func (.func 81) #[] #[.pointer (some ⟨w.heap.size + 1, 0, none⟩)]] 119))).cell? ⟨w.heap.size + 1 + 1, 0, none⟩ = some (.func (.func 81) #[] #[.pointer (some ⟨w.heap.size + 1, 0, none⟩)]) := by
    have h := Blk.new ((w.alloc (.cells #[.int .i64 k, .string nm, .slice WA m wc, .slice CA n c2] 52)).alloc (.cells #[.int .i64 t, .slice F fn fc] 33)) 119 #[.func (.func 81) #[] #[.pointer (some ⟨w.heap.size + 1, 0, none⟩)]]
    rw [z2] at h
    exact h.cell 0
  have hEv := hF.grow hb5
  have hq5 := hq.grow hb5
  obtain ⟨WA', m', wc', CA', n', c2', e, hI5⟩ := hq5.is
  simp only [List.cons.injEq, Value.slice.injEq, and_true, true_and] at e
  obtain ⟨⟨rfl, rfl, rfl⟩, rfl, rfl, rfl⟩ := e
  have Hb5 := Lib.hid hb5
  by_cases k1 : k = 1
  · subst k1
    have Fin : Hid (matchB fs (.mk 1 nm ws l) = true) := Lib.hid (by rw [matchB_eq]; simp)
    rw [Fin.out]
    clear hq hF hI hbq hbe hb5 hQ5 hE5 hF5 hEv hq5 hI5 ih
    go_enter Tryz.func46, Tryz.ntmps46
    go_wp2
    go_ret
    exact ⟨rfl, Hb5.out⟩
  by_cases k234 : k = 2 ∨ k = 3 ∨ k = 4
  · have Fin : Hid (matchB fs (.mk k nm ws l) = leafB k nm ws fs) := Lib.hid (by rw [matchB_eq, if_neg k1, if_pos k234])
    have c1 := leaf_any k nm ws WA CA m wc n c2 t F fn fc fs _ k234 hI5.wds hI5.wn (by rw [← hI5.wn]; exact hl2) hEv.rd hEv.len hEv.few hEv.sz
    rw [Fin.out]
    have C1 := Lib.hid c1
    clear hq hF hI hbq hbe hb5 hQ5 hE5 hF5 hEv hq5 hI5 ih c1 Fin
    generalize leafB k nm ws fs = r at *
    rcases k234 with rfl | rfl | rfl
    all_goals
      clear k1
      go_enter Tryz.func46, Tryz.ntmps46
      go_wp2_with (go_at_call 82; refine C1.out.mono ?_; rintro e w1 ⟨rfl, hb1⟩)
      go_ret
      exact ⟨rfl, Hb5.out.trans (hb1.mono Hb5.out.size)⟩
  by_cases k5 : k = 5
  · subst k5
    have Fin : Hid (matchB fs (.mk 5 nm ws l) = l.all (matchB fs)) := Lib.hid (by rw [matchB_eq]; simp)
    have c1 := containsQry CA n c2 5 nm ws WA m l 84 #[.pointer (some ⟨w.heap.size + 1 + 1, 0, none⟩)] (fun i => (l[i]?).any (fun x => !matchB fs x)) _ (fun args wx => callFunc_enter Tryz.func84 (by kernel_rfl) rfl args wx)
      hI5 hI5.lm (by rw [← hI5.lm]; exact hl3) (fun i h b0 b1 b2 b3 wx hqx hbx => by
        have c := nots_any fs l[i] (ih _ (List.getElem_mem h)) (w.heap.size + 1 + 1) (w.heap.size + 1) t F fn fc wx b0 b1 b2 b3 (hqx.grow hbx) (hE5.grow hbx) (hEv.grow hbx) ((hbx.cell (p := ⟨w.heap.size + 1 + 1, 0, none⟩) (by simp)).trans hF5)
        rw [List.getElem?_eq_getElem h]
        simpa using c)
    have e := any_idx l (fun x => !matchB fs x)
    rw [hI5.lm] at e
    rw [e] at c1
    have Fin2 := Lib.hid (not_any_not l (matchB fs))
    rw [Fin.out, ← Fin2.out]
    have C1 := Lib.hid c1
    clear hq hF hI hbq hbe hb5 hQ5 hE5 hF5 hEv hq5 hI5 ih c1 Fin e k1 k234 Fin2
    generalize (l.any fun x => !matchB fs x) = r at *
    go_enter Tryz.func46, Tryz.ntmps46
    go_wp2_with (go_at_call 83; refine C1.out.mono ?_; rintro e w1 ⟨rfl, hb1⟩)
    go_ret
    exact ⟨rfl, Hb5.out.trans (hb1.mono Hb5.out.size)⟩
  by_cases k6 : k = 6
  · subst k6
    have Fin : Hid (matchB fs (.mk 6 nm ws l) = l.any (matchB fs)) := Lib.hid (by rw [matchB_eq]; simp)
    have c1 := containsQry CA n c2 6 nm ws WA m l 81 #[.pointer (some ⟨w.heap.size + 1, 0, none⟩)] (fun i => (l[i]?).any (fun x => matchB fs x)) _ (fun args wx => callFunc_enter Tryz.func81 (by kernel_rfl) rfl args wx)
      hI5 hI5.lm (by rw [← hI5.lm]; exact hl3) (fun i h b0 b1 b2 b3 wx hqx hbx => by
        have c := fits_any fs l[i] (ih _ (List.getElem_mem h)) (w.heap.size + 1) t F fn fc wx b0 b1 b2 b3 (hqx.grow hbx) (hE5.grow hbx) (hEv.grow hbx)
        rw [List.getElem?_eq_getElem h]
        simpa using c)
    have e := any_idx l (fun x => matchB fs x)
    rw [hI5.lm] at e
    rw [e] at c1
    rw [Fin.out]
    have C1 := Lib.hid c1
    clear hq hF hI hbq hbe hb5 hQ5 hE5 hF5 hEv hq5 hI5 ih c1 Fin e k1 k234 k5
    generalize (l.any fun x => matchB fs x) = r at *
    go_enter Tryz.func46, Tryz.ntmps46
    go_wp2_with (go_at_call 83; refine C1.out.mono ?_; rintro e w1 ⟨rfl, hb1⟩)
    go_ret
    exact ⟨rfl, Hb5.out.trans (hb1.mono Hb5.out.size)⟩
  by_cases k7 : k = 7
  · subst k7
    have Fin : Hid (matchB fs (.mk 7 nm ws l) = matchNone fs l) := Lib.hid (by rw [matchB_eq]; simp)
    rw [Fin.out]
    have hcells : ∀ wx, Below (World.heap (((w.alloc (.cells #[.int .i64 7, .string nm, .slice WA m wc, .slice CA n c2] 52)).alloc (.cells #[.int .i64 t, .slice F fn fc] 33)).alloc (.cells #[.func (.func 81) #[] #[.pointer (some ⟨w.heap.size + 1, 0, none⟩)]] 119))).size (((w.alloc (.cells #[.int .i64 7, .string nm, .slice WA m wc, .slice CA n c2] 52)).alloc (.cells #[.int .i64 t, .slice F fn fc] 33)).alloc (.cells #[.func (.func 81) #[] #[.pointer (some ⟨w.heap.size + 1, 0, none⟩)]] 119)) wx → wx.cell? ⟨w.heap.size, 3, none⟩ = some (.slice CA n c2) ∧ wx.cell? ⟨w.heap.size + 1 + 1, 0, none⟩ = some (.func (.func 81) #[] #[.pointer (some ⟨w.heap.size + 1, 0, none⟩)]) := fun wx hC =>
      ⟨(hC.cell (p := ⟨w.heap.size, 3, none⟩) (by simp; omega)).trans (hQ5.cell 3), (hC.cell (p := ⟨w.heap.size + 1 + 1, 0, none⟩) (by simp)).trans hF5⟩
    have hcells' := Lib.hid hcells
    have hmn := hI5.lm
    by_cases hn1 : n = 1
    · obtain ⟨x, rfl⟩ : ∃ x, l = [x] := List.length_eq_one_iff.1 (by omega)
      obtain ⟨tb, tq, A', n', c', C', m', d', e1, htb, hqx, g0, g1, g2, g3⟩ := hI5.at_ (i := 0) (by simp)
      subst e1
      obtain rfl : n = 1 := hn1
      have hx := ih x (by simp)
      simp only [List.getElem_cons_zero, Nat.zero_mul, Nat.add_zero] at hqx g0 g1 g2 g3
      have hcells2 : ∀ wx, Below (World.heap (((w.alloc (.cells #[.int .i64 7, .string nm, .slice WA m wc, .slice (some ⟨tb, tq, none⟩) 1 c2] 52)).alloc (.cells #[.int .i64 t, .slice F fn fc] 33)).alloc (.cells #[.func (.func 81) #[] #[.pointer (some ⟨w.heap.size + 1, 0, none⟩)]] 119))).size (((w.alloc (.cells #[.int .i64 7, .string nm, .slice WA m wc, .slice (some ⟨tb, tq, none⟩) 1 c2] 52)).alloc (.cells #[.int .i64 t, .slice F fn fc] 33)).alloc (.cells #[.func (.func 81) #[] #[.pointer (some ⟨w.heap.size + 1, 0, none⟩)]] 119)) wx → wx.cell? ⟨w.heap.size, 3, none⟩ = some (.slice (some ⟨tb, tq, none⟩) 1 c2) ∧ wx.cell? ⟨w.heap.size + 1 + 1, 0, none⟩ = some (.func (.func 81) #[] #[.pointer (some ⟨w.heap.size + 1, 0, none⟩)]) ∧
          wx.cell? ⟨tb, tq, none⟩ = some (.int .i64 x.kind) ∧ wx.cell? ⟨tb, tq + 1, none⟩ = some (.string x.name) ∧ wx.cell? ⟨tb, tq + 2, none⟩ = some (.slice A' n' c') ∧ wx.cell? ⟨tb, tq + 3, none⟩ = some (.slice C' m' d') := fun wx hC =>
        ⟨(hcells wx hC).1, (hcells wx hC).2, (hC.cell (p := ⟨tb, tq, none⟩) htb).trans g0, (hC.cell (p := ⟨tb, tq + 1, none⟩) htb).trans g1, (hC.cell (p := ⟨tb, tq + 2, none⟩) htb).trans g2, (hC.cell (p := ⟨tb, tq + 3, none⟩) htb).trans g3⟩
      have c1 := fun wx (hC : Below (World.heap (((w.alloc (.cells #[.int .i64 7, .string nm, .slice WA m wc, .slice (some ⟨tb, tq, none⟩) 1 c2] 52)).alloc (.cells #[.int .i64 t, .slice F fn fc] 33)).alloc (.cells #[.func (.func 81) #[] #[.pointer (some ⟨w.heap.size + 1, 0, none⟩)]] 119))).size (((w.alloc (.cells #[.int .i64 7, .string nm, .slice WA m wc, .slice (some ⟨tb, tq, none⟩) 1 c2] 52)).alloc (.cells #[.int .i64 t, .slice F fn fc] 33)).alloc (.cells #[.func (.func 81) #[] #[.pointer (some ⟨w.heap.size + 1, 0, none⟩)]] 119)) wx) => fits_any fs x hx (w.heap.size + 1) t F fn fc wx _ _ _ _ (hqx.grow hC) (hE5.grow hC) (hEv.grow hC)
      have hN : matchNone fs [x] = !matchB fs x := by rw [matchNone]
      rw [hN]
      have C1 := Lib.hid c1
      have hcells2' := Lib.hid hcells2
      clear hq hF hI hbq hbe hb5 hQ5 hE5 hF5 hEv hq5 hI5 ih c1 Fin k1 k234 k5 k6 hcells hcells2 hcells' hN hqx g0 g1 g2 g3 hx hmn
      generalize matchB fs x = r at *
      generalize x.kind = x0 at *
      generalize x.name = x1 at *
      go_enter Tryz.func46, Tryz.ntmps46
      go_wp2_with fail
      refine wp_region_grow (specOf [(10, ⟨Unit, fun _ => (.bool r), fun _ _ => True⟩)]) (fun wx => Below (World.heap (((w.alloc (.cells #[.int .i64 7, .string nm, .slice WA m wc, .slice (some ⟨tb, tq, none⟩) 1 c2] 52)).alloc (.cells #[.int .i64 t, .slice F fn fc] 33)).alloc (.cells #[.func (.func 81) #[] #[.pointer (some ⟨w.heap.size + 1, 0, none⟩)]] 119))).size (((w.alloc (.cells #[.int .i64 7, .string nm, .slice WA m wc, .slice (some ⟨tb, tq, none⟩) 1 c2] 52)).alloc (.cells #[.int .i64 t, .slice F fn fc] 33)).alloc (.cells #[.func (.func 81) #[] #[.pointer (some ⟨w.heap.size + 1, 0, none⟩)]] 119)) wx) (fun w1 w2 => Below w1.heap.size w1 w2) (by kernel_rfl) (by kernel_rfl) (stab_cons (fun _ _ _ _ h => h) (stab_nil)) (Below.refl _ _).drew ?_
      refine grow_fix 1 ?_ rfl (by rfl) (by rfl) (fun wx hC hD => ?_) ?_
      rotate_left
      · have hSw := hcells2'.out wx hC
        go_simp
        all_goals with_reducible rfl
      try simp only [Act.put, List.setIfInBounds_toArray, List.set_cons_zero, List.set_cons_succ]
      refine grow_fix 2 ?_ rfl (by rfl) (by rfl) (fun wx hC hD => ?_) ?_
      rotate_left
      · have hSw := hcells2'.out wx hC
        go_simp
        all_goals with_reducible rfl
      try simp only [Act.put, List.setIfInBounds_toArray, List.set_cons_zero, List.set_cons_succ]
      refine grow_fix 3 ?_ rfl (by rfl) (by rfl) (fun wx hC hD => ?_) ?_
      rotate_left
      · have hSw := hcells2'.out wx hC
        go_simp
        all_goals with_reducible rfl
      try simp only [Act.put, List.setIfInBounds_toArray, List.set_cons_zero, List.set_cons_succ]
      refine grow_fix 4 ?_ rfl (by rfl) (by rfl) (fun wx hC hD => ?_) ?_
      rotate_left
      · have hSw := hcells2'.out wx hC
        go_simp
        all_goals with_reducible rfl
      try simp only [Act.put, List.setIfInBounds_toArray, List.set_cons_zero, List.set_cons_succ]
      refine grow_fix 5 ?_ rfl (by rfl) (by rfl) (fun wx hC hD => ?_) ?_
      rotate_left
      · have hSw := hcells2'.out wx hC
        go_simp
        all_goals with_reducible rfl
      try simp only [Act.put, List.setIfInBounds_toArray, List.set_cons_zero, List.set_cons_succ]
      refine grow_fix 6 ?_ rfl (by rfl) (by rfl) (fun wx hC hD => ?_) ?_
      rotate_left
      · have hSw := hcells2'.out wx hC
        go_simp
        all_goals with_reducible rfl
      try simp only [Act.put, List.setIfInBounds_toArray, List.set_cons_zero, List.set_cons_succ]
      refine grow_fix 7 ?_ rfl (by rfl) (by rfl) (fun wx hC hD => ?_) ?_
      rotate_left
      · have hSw := hcells2'.out wx hC
        go_simp
        all_goals with_reducible rfl
      try simp only [Act.put, List.setIfInBounds_toArray, List.set_cons_zero, List.set_cons_succ]
      refine grow_fix 8 ?_ rfl (by rfl) (by rfl) (fun wx hC hD => ?_) ?_
      rotate_left
      · have hSw := hcells2'.out wx hC
        go_simp
        all_goals with_reducible rfl
      try simp only [Act.put, List.setIfInBounds_toArray, List.set_cons_zero, List.set_cons_succ]
      refine grow_fix 9 ?_ rfl (by rfl) (by rfl) (fun wx hC hD => ?_) ?_
      rotate_left
      · have hSw := hcells2'.out wx hC
        go_simp
        all_goals with_reducible rfl
      try simp only [Act.put, List.setIfInBounds_toArray, List.set_cons_zero, List.set_cons_succ]
      refine grow_fix 10 ?_ rfl (by rfl) (by rfl) (fun wx hC hD => ?_) ?_
      rotate_left
      · have hSw := hcells2'.out wx hC
        go_simp
        all_goals with_reducible rfl
      try simp only [Act.put, List.setIfInBounds_toArray, List.set_cons_zero, List.set_cons_succ]
      refine grow_give 11 _ rfl (by rfl) (by rfl) (fun wx hC hD => ?_) (fun x => ?_)
      · refine give_enter (f := ?_) (args := ?_) ?_ ?_
        rotate_left 2
        · have hSw := hcells2'.out wx hC
          go_simp
          all_goals first | with_reducible rfl | (refine ⟨?_, ?_⟩ <;> with_reducible rfl)
        exact calls_cst hC (C1.out wx hC)
      obtain ⟨⟩ := x
      try simp only [Act.put, List.setIfInBounds_toArray, List.set_cons_zero, List.set_cons_succ]
      refine grow_fix 12 ?_ rfl (by rfl) (by rfl) (fun wx hC hD => ?_) ?_
      rotate_left
      · have hSw := hcells2'.out wx hC
        go_simp
        all_goals with_reducible rfl
      try simp only [Act.put, List.setIfInBounds_toArray, List.set_cons_zero, List.set_cons_succ]
      refine grow_fix 13 ?_ rfl (by rfl) (by rfl) (fun wx hC hD => ?_) ?_
      rotate_left
      · have hSw := hcells2'.out wx hC
        go_simp
        all_goals with_reducible rfl
      try simp only [Act.put, List.setIfInBounds_toArray, List.set_cons_zero, List.set_cons_succ]
      refine grow_fix 14 ?_ rfl (by rfl) (by rfl) (fun wx hC hD => ?_) ?_
      rotate_left
      · have hSw := hcells2'.out wx hC
        go_simp
        all_goals with_reducible rfl
      try simp only [Act.put, List.setIfInBounds_toArray, List.set_cons_zero, List.set_cons_succ]
      refine grow_nil (fun w2 hC hF => ?_)
      have Hb := Lib.hid (Hb5.out.trans (hC.mono Hb5.out.size))
      clear hF hC
      go_wp2
      go_ret
      exact ⟨rfl, Hb.out⟩
    · have hn1' : ((n : Int) == 1) = false := by rw [beq_eq_false_iff_ne]; omega
      have hN : matchNone fs l = false := by
        unfold matchNone
        split
        · exact absurd hmn (by simp; omega)
        · rfl
      rw [hN]
      clear hq hF hI hbq hbe hb5 hQ5 hE5 hF5 hEv hq5 hI5 ih Fin k1 k234 k5 k6 hcells hN hmn hn1
      go_enter Tryz.func46, Tryz.ntmps46
      go_wp2_with fail
      refine wp_region_grow (specOf []) (fun wx => Below (World.heap (((w.alloc (.cells #[.int .i64 7, .string nm, .slice WA m wc, .slice CA n c2] 52)).alloc (.cells #[.int .i64 t, .slice F fn fc] 33)).alloc (.cells #[.func (.func 81) #[] #[.pointer (some ⟨w.heap.size + 1, 0, none⟩)]] 119))).size (((w.alloc (.cells #[.int .i64 7, .string nm, .slice WA m wc, .slice CA n c2] 52)).alloc (.cells #[.int .i64 t, .slice F fn fc] 33)).alloc (.cells #[.func (.func 81) #[] #[.pointer (some ⟨w.heap.size + 1, 0, none⟩)]] 119)) wx) (fun w1 w2 => Below w1.heap.size w1 w2) (by kernel_rfl) (by kernel_rfl) (stab_nil) (Below.refl _ _).drew ?_
      refine grow_fix 1 ?_ rfl (by rfl) (by rfl) (fun wx hC hD => ?_) ?_
      rotate_left
      · have hSw := hcells'.out wx hC
        go_simp
        all_goals with_reducible rfl
      try simp only [Act.put, List.setIfInBounds_toArray, List.set_cons_zero, List.set_cons_succ]
      refine grow_fix 2 ?_ rfl (by rfl) (by rfl) (fun wx hC hD => ?_) ?_
      rotate_left
      · have hSw := hcells'.out wx hC
        go_simp
        all_goals with_reducible rfl
      try simp only [Act.put, List.setIfInBounds_toArray, List.set_cons_zero, List.set_cons_succ]
      refine grow_fix 3 ?_ rfl (by rfl) (by rfl) (fun wx hC hD => ?_) ?_
      rotate_left
      · have hSw := hcells'.out wx hC
        go_simp
        all_goals with_reducible rfl
      try simp only [Act.put, List.setIfInBounds_toArray, List.set_cons_zero, List.set_cons_succ]
      refine grow_fix 4 ?_ rfl (by rfl) (by rfl) (fun wx hC hD => ?_) ?_
      rotate_left
      · have hSw := hcells'.out wx hC
        go_simp
        all_goals with_reducible rfl
      try simp only [Act.put, List.setIfInBounds_toArray, List.set_cons_zero, List.set_cons_succ]
      refine grow_fix 5 ?_ rfl (by rfl) (by rfl) (fun wx hC hD => ?_) ?_
      rotate_left
      · have hSw := hcells'.out wx hC
        go_simp
        all_goals with_reducible rfl
      try simp only [Act.put, List.setIfInBounds_toArray, List.set_cons_zero, List.set_cons_succ]
      refine grow_skip 6 (some false) true rfl (by rfl) (by rfl) (by rfl) ?_
      try simp only [Act.put, List.setIfInBounds_toArray, List.set_cons_zero, List.set_cons_succ]
      refine grow_skip 7 (some false) true rfl (by rfl) (by rfl) (by rfl) ?_
      try simp only [Act.put, List.setIfInBounds_toArray, List.set_cons_zero, List.set_cons_succ]
      refine grow_skip 8 (some false) true rfl (by rfl) (by rfl) (by rfl) ?_
      try simp only [Act.put, List.setIfInBounds_toArray, List.set_cons_zero, List.set_cons_succ]
      refine grow_skip 9 (some false) true rfl (by rfl) (by rfl) (by rfl) ?_
      try simp only [Act.put, List.setIfInBounds_toArray, List.set_cons_zero, List.set_cons_succ]
      refine grow_skip 10 (some false) true rfl (by rfl) (by rfl) (by rfl) ?_
      try simp only [Act.put, List.setIfInBounds_toArray, List.set_cons_zero, List.set_cons_succ]
      refine grow_skip 11 (some false) true rfl (by rfl) (by rfl) (by rfl) ?_
      try simp only [Act.put, List.setIfInBounds_toArray, List.set_cons_zero, List.set_cons_succ]
      refine grow_skip 12 (some false) true rfl (by rfl) (by rfl) (by rfl) ?_
      try simp only [Act.put, List.setIfInBounds_toArray, List.set_cons_zero, List.set_cons_succ]
      refine grow_fix 13 ?_ rfl (by rfl) (by rfl) (fun wx hC hD => ?_) ?_
      rotate_left
      · have hSw := hcells'.out wx hC
        go_simp
        all_goals with_reducible rfl
      try simp only [Act.put, List.setIfInBounds_toArray, List.set_cons_zero, List.set_cons_succ]
      refine grow_fix 14 ?_ rfl (by rfl) (by rfl) (fun wx hC hD => ?_) ?_
      rotate_left
      · have hSw := hcells'.out wx hC
        go_simp
        all_goals with_reducible rfl
      try simp only [Act.put, List.setIfInBounds_toArray, List.set_cons_zero, List.set_cons_succ]
      refine grow_nil (fun w2 hC hF => ?_)
      have Hb := Lib.hid (Hb5.out.trans (hC.mono Hb5.out.size))
      clear hF hC
      go_wp2
      go_ret
      exact ⟨rfl, Hb.out⟩
  · have Fin : Hid (matchB fs (.mk k nm ws l) = false) := Lib.hid (by rw [matchB_eq, if_neg k1, if_neg k234, if_neg k5, if_neg k6, if_neg k7])
    rw [Fin.out]
    have j1 : (k == 1) = false := by rw [beq_eq_false_iff_ne]; omega
    have j2 : (k == 2) = false := by rw [beq_eq_false_iff_ne]; omega
    have j3 : (k == 3) = false := by rw [beq_eq_false_iff_ne]; omega
    have j4 : (k == 4) = false := by rw [beq_eq_false_iff_ne]; omega
    have j5 : (k == 5) = false := by rw [beq_eq_false_iff_ne]; omega
    have j6 : (k == 6) = false := by rw [beq_eq_false_iff_ne]; omega
    have j7 : (k == 7) = false := by rw [beq_eq_false_iff_ne]; omega
    clear hq hF hI hbq hbe hb5 hQ5 hE5 hF5 hEv hq5 hI5 ih Fin k1 k234 k5 k6 k7
    go_enter Tryz.func46, Tryz.ntmps46
    go_wp2
    go_ret
    exact ⟨rfl, Hb5.out⟩

theorem match_any (fs : List (ByteArray × ByteArray)) : ∀ q, QSz q → MatchOk fs q := by
  intro q
  refine Q.ind (p := fun q => QSz q → MatchOk fs q) ?_ q
  intro k nm ws l ih hs
  cases hs with
  | mk h1 h2 h3 => exact match_step fs k nm ws l h1 h2 (fun x hx => ih x hx (h3 x hx))
end Go.Proofs.YtlfpfkallgkjdaaGreat.Qy
end

section
/- match.Needs: the walk. -/
namespace Go.Proofs.YtlfpfkallgkjdaaGreat.Qy
open Go.RowKit Go.Proofs.YtlfpfkallgkjdaaGreat Go.Proofs.YtlfpfkallgkjdaaGreat.Ut Go.Proofs.YtlfpfkallgkjdaaGreat.Tk
set_option maxRecDepth 20000
set_option linter.unusedSimpArgs false

/-- A query's texts are not longer than so. -/
inductive QTx (b : Nat) : Q → Prop where
  | mk {k : Int} {nm : ByteArray} {ws : List ByteArray} {l : List Q} (h1 : nm.size ≤ b) (h2 : ∀ x ∈ ws, x.size ≤ b) (h3 : ∀ x ∈ l, QTx b x) : QTx b (.mk k nm ws l)
/-- Texts of the call's own. -/
def BsPost (w : World) (l : List ByteArray) (e : Ending) (w' : World) : Prop := ∃ v, e = .returned v ∧ w'.ownsRow w.heap.size 9 1 v l.length (bsv l) ∧ Below w.heap.size w w'
def NeedOk (q : Q) : Prop := ∀ (w : World) (a0 a1 a2 a3 : Value), QAt w w.heap.size q [a0, a1, a2, a3] → wq q ≤ 1048576 →
  Calls Tryz.prog 36 #[.agg #[a0, a1, a2, a3]] w (BsPost w (needs q))

theorem cloneS_any (s : ByteArray) (w : World) (hs : s.size ≤ 281474976710656) : Calls Tryz.prog 70 #[.string s] w fun e w' => e = .returned (.string s) ∧ Below w.heap.size w w' := by
  have c1 := Tryz.stringslite_Clone s w hs
  go_enter Tryz.func70, Tryz.ntmps70
  go_wp2_with (go_at_call 106; refine c1.mono ?_; rintro e w2 ⟨rfl, hb2⟩)
  go_ret
  exact ⟨rfl, hb2⟩

/-- A row of one, new. -/
theorem mo_one {w : World} {g : Nat} {v : Value} {l : List ByteArray} (h : Nd w g v l) (t : ByteArray) : Mo (w.alloc (.cells #[.string t] 9)) g v (some ⟨w.heap.size, 0, none⟩) [t] := by
  refine ⟨fun _ => ⟨_, 0, rfl, by simp, by have := h.box.lt; omega, fun e => by have := (h.own.lt _ e).2; omega, fun j hj => ?_⟩⟩
  obtain rfl : j = 0 := by simp at hj; omega
  exact (Blk.new w 9 #[.string t]).cell 0
/-- A row that a call made. -/
theorem mo_made {w w' : World} {g : Nat} {v u : Value} {l ts : List ByteArray} (h : Nd w g v l) (hr : w'.ownsRow w.heap.size 9 1 u ts.length (bsv ts)) : ∃ A c, u = .slice A ts.length c ∧ Mo w' g v A ts := by
  obtain ⟨A, c, rfl, _⟩ := own_shape hr
  refine ⟨A, c, rfl, ⟨fun hp => ?_⟩⟩
  obtain ⟨m, hm⟩ : ∃ m, ts.length = m + 1 := ⟨ts.length - 1, by omega⟩
  have hr' := hr
  rw [hm] at hr'
  obtain ⟨gs, q, e⟩ := own_succ hr'
  injection e with e
  subst e
  have hl := hr.lt gs rfl
  refine ⟨gs, 0, rfl, hl.2, by have := h.box.lt; omega, fun e => by have := (h.own.lt _ e).2; omega, fun j hj => ?_⟩
  have h1 := hr.cells (g := gs) rfl j (.string ts[j]) (by unfold bsv; rw [List.getElem?_map, List.getElem?_eq_getElem hj]; rfl)
  have hadd : (⟨gs, 0, none⟩ : Addr).add j = ⟨gs, 0 + j, none⟩ := by unfold Addr.add; split <;> simp_all
  rw [hadd] at h1
  exact h1

set_option maxHeartbeats 3200000 in
theorem needs_step (k : Int) (nm : ByteArray) (ws : List ByteArray) (l : List Q) (htx : QTx 140737488351232 (.mk k nm ws l)) (ih : ∀ x ∈ l, NeedOk x) : NeedOk (.mk k nm ws l) := by
  intro w a0 a1 a2 a3 hQ hwq
  obtain ⟨WA, m, wc, CA, n, c2, e, _⟩ := hQ.is
  simp only [List.cons.injEq, and_true] at e
  obtain ⟨rfl, rfl, rfl, rfl⟩ := e
  have hb1 : Below w.heap.size w (w.alloc (.cells #[.int .i64 k, .string nm, .slice WA m wc, .slice CA n c2] 52)) := (Below.refl _ _).alloc (Nat.le_refl _) _
  have hb2 : Below w.heap.size w ((w.alloc (.cells #[.int .i64 k, .string nm, .slice WA m wc, .slice CA n c2] 52)).alloc (.cells #[.slice none 0 0] 49)) := hb1.alloc hb1.size _
  have z1 : (w.alloc (.cells #[.int .i64 k, .string nm, .slice WA m wc, .slice CA n c2] 52)).heap.size = w.heap.size + 1 := by simp
  have hB1 := (Blk.new w 52 #[.int .i64 k, .string nm, .slice WA m wc, .slice CA n c2]).alloc (.cells #[.slice none 0 0] 49)
  have hB2 := Blk.new (w.alloc (.cells #[.int .i64 k, .string nm, .slice WA m wc, .slice CA n c2] 52)) 49 #[.slice none 0 0]
  rw [z1] at hB2
  have hQ2 := hQ.lower hb2
  obtain ⟨WA', m', wc', CA', n', c2', e, hI⟩ := hQ2.is
  simp only [List.cons.injEq, Value.slice.injEq, and_true, true_and] at e
  obtain ⟨⟨rfl, rfl, rfl⟩, rfl, rfl, rfl⟩ := e
  have hN2 : Nd ((w.alloc (.cells #[.int .i64 k, .string nm, .slice WA m wc, .slice CA n c2] 52)).alloc (.cells #[.slice none 0 0] 49)) (w.heap.size + 1) (.slice none 0 0) [] := ⟨hB2, World.ownsRow_nil _ _ _ _⟩
  have hz2 : ((w.alloc (.cells #[.int .i64 k, .string nm, .slice WA m wc, .slice CA n c2] 52)).alloc (.cells #[.slice none 0 0] 49)).heap.size = w.heap.size + 1 + 1 := by simp
  rw [wq_eq] at hwq
  have hwl := wqs_pos l
  cases htx with
  | mk t1 t2 t3 =>
  have HB1 := Lib.hid hB1
  have Hb2 := Lib.hid hb2
  have HI := Lib.hid hI
  have HN2 := Lib.hid hN2
  have T2 := Lib.hid t2
  have IH := Lib.hid ih
  have close : ∀ (l' : List ByteArray) (v : Value) (w' : World), Nd w' (w.heap.size + 1) v l' → Below (w.heap.size + 1) ((w.alloc (.cells #[.int .i64 k, .string nm, .slice WA m wc, .slice CA n c2] 52)).alloc (.cells #[.slice none 0 0] 49)) w' → BsPost w l' (.returned v) w' := fun l' v w' h hb =>
    ⟨v, rfl, h.own.mono (by omega), Hb2.out.trans (hb.mono (by omega))⟩
  have Close := Lib.hid close
  clear hQ hb1 hb2 z1 hB1 hB2 hQ2 hI hN2 t2 t3 ih close
  have hbx := fun (w' : World) (v : Value) (l' : List ByteArray) (h : Nd w' (w.heap.size + 1) v l') => h.box.cell 0
  by_cases k24 : k = 4 ∨ (k = 2 ∧ ws.length = 1)
  · have Fin : Hid (needs (.mk k nm ws l) = addL [] (termsL nm ws)) := Lib.hid (by rw [needs_eq, if_pos k24])
    rw [Fin.out]
    clear hbx Fin
    rcases k24 with rfl | ⟨rfl, h1⟩
    · have hkk : (0:Nat) = 0 := rfl
      go_enter Tryz.func36, Tryz.ntmps36
      go_wp2_with fail
      generalize hw0 : ((w.alloc (.cells #[.int .i64 4, .string nm, .slice WA m wc, .slice CA n c2] 52)).alloc (.cells #[.slice none 0 0] 49)) = w0 at *
      clear hw0
      go_loopw [27] (fun i wr => ∃ (j : Nat) (v : Value), j ≤ m ∧ i = .int .i64 j ∧ Nd wr (w.heap.size + 1) v (addL [] (termsL nm (ws.take j))) ∧ Below (w.heap.size + 1) w0 wr) (fun i _ => m - (intOf i).toNat)
      case atStart => exact ⟨0, _, Nat.zero_le _, rfl, HN2.out, Below.refl _ _⟩
      case round =>
        obtain ⟨j, v, hj, rfl, hN, hb⟩ := hrel
        have HN := Lib.hid hN
        have Hb := Lib.hid hb
        by_cases hlt : j < m
        · have hjl : j < ws.length := by rw [HI.out.wn]; exact hlt
          have hts := termsL_take nm ws j hjl
          have hll : (addL [] (termsL nm (ws.take j))).length ≤ 1048576 := by
            have h1 := addL_len (termsL nm (ws.take j)) []
            have h2 := termsL_len nm (ws.take j)
            rw [List.length_take] at h2
            simp only [List.length_nil] at h1
            omega
          have hsx := T2.out _ (List.getElem_mem hjl)
          obtain ⟨tb, tq, rfl, htb, hc⟩ := HI.out.wds.2 (by omega)
          have hcj := hc j (.string ws[j]) (by rw [List.getElem?_map, List.getElem?_eq_getElem hjl]; rfl)
          have hd := (hb.cell (p := ⟨tb, tq + j, none⟩) (by show tb < _; omega)).trans hcj
          have hnm := (hb.cell (p := ⟨w.heap.size, 1, none⟩) (by show w.heap.size < _; omega)).trans (HB1.out.cell 1)
          have hbz := hb.size
          simp at hnm
          have Hts := Lib.hid (show addL [] (termsL nm (ws.take (j + 1))) = addL (addL [] (termsL nm (ws.take j))) (termL nm ws[j]) by rw [hts, addL_append])
          clear hts hN hb hc hcj
          generalize addL [] (termsL nm (ws.take j)) = l at *
          generalize ws[j] = x at *
          by_cases hok : termOk nm x = true
          · have c1 := term_yesB nm x wr t1 hsx hok
            have htl : termL nm x = [termV nm x] := by unfold termL; rw [if_pos hok]
            have hsz : (termV nm x).size ≤ 281474976710656 := by
              have e := congrArg List.length (str_data (term nm.data.toList x.data.toList))
              rw [bsize] at e
              show (str (term nm.data.toList x.data.toList)).size ≤ _
              rw [e]
              unfold term
              simp only [List.length_append, List.length_cons, List.length_nil, bsize]
              omega
            rw [htl] at Hts
            have c2 := fun wx => cloneS_any (termV nm x) wx hsz
            have C2 := Lib.hid c2
            clear htl hok hsz c2
            generalize termV nm x = t at *
            go_wp2_with (first | (go_at_call 69; refine c1.mono ?_; rintro e wa ⟨rfl, hba⟩) | (go_at_call 70; refine (C2.out _).mono ?_; rintro e wb ⟨rfl, hbb⟩))
            have hNb := (HN.out.below hba).below hbb
            have hM := mo_one hNb t
            have hNc := hNb.below ((Below.refl _ _).alloc (Nat.le_refl _) (.cells #[.string t] 9))
            have hbc : Below (w.heap.size + 1) w0 (wb.alloc (.cells #[.string t] 9)) := ((Hb.out.trans (hba.mono (by omega))).trans (hbb.mono (by have := hba.size; omega))).alloc (by have := hba.size; have := hbb.size; omega) _
            refine (add_any (w.heap.size + 1) v l _ 1 1 [t] _ hNc hM rfl (by omega)).mono ?_
            rintro e wd ⟨rfl, v', hN', hb'⟩
            rw [addL_one] at hN'
            have Fin2 := Lib.hid (Hts.out ▸ hN' : Nd wd (w.heap.size + 1) v' (addL [] (termsL nm (ws.take (j + 1)))))
            have Fin3 := Lib.hid (hbc.trans hb')
            clear hNb hM hNc hbc hN' hb' hba hbb c1 C2
            go_wp2
            go_roundw
            case rel => exact ⟨j + 1, v', by omega, by go_num, Fin2.out, Fin3.out⟩
            case measure => simp [intOf]; omega
          · have hok' : termOk nm x = false := by simpa using hok
            have c1 := term_noB nm x wr t1 hsx hok'
            have htl : termL nm x = [] := by unfold termL; rw [if_neg hok]
            rw [htl, addL_nil] at Hts
            clear htl hok hok'
            go_wp2_with (go_at_call 69; refine c1.mono ?_; rintro e wa ⟨rfl, hba⟩)
            have Fin2 := Lib.hid (HN.out.below hba)
            have Fin3 := Lib.hid (Hb.out.trans (hba.mono (by omega)))
            clear c1 hba
            go_roundw
            case rel => exact ⟨j + 1, v, by omega, by go_num, by rw [Hts.out]; exact Fin2.out, Fin3.out⟩
            case measure => simp [intOf]; omega
        · obtain rfl : j = m := by omega
          rw [List.take_of_length_le (by rw [HI.out.wn]; exact Nat.le_refl _)] at HN
          have h0 := HN.out.box.cell 0
          simp at h0
          clear hN hb
          go_wp2
          go_ret
          exact Close.out _ _ _ HN.out Hb.out
    · have hkk : (0:Nat) = 0 := rfl
      have hm : ((m : Int) != 1) = false := by
        rw [bne_eq_false_iff_eq]
        have := HI.out.wn
        omega
      go_enter Tryz.func36, Tryz.ntmps36
      go_wp2_with fail
      generalize hw0 : ((w.alloc (.cells #[.int .i64 2, .string nm, .slice WA m wc, .slice CA n c2] 52)).alloc (.cells #[.slice none 0 0] 49)) = w0 at *
      clear hw0
      go_loopw [27] (fun i wr => ∃ (j : Nat) (v : Value), j ≤ m ∧ i = .int .i64 j ∧ Nd wr (w.heap.size + 1) v (addL [] (termsL nm (ws.take j))) ∧ Below (w.heap.size + 1) w0 wr) (fun i _ => m - (intOf i).toNat)
      case atStart => exact ⟨0, _, Nat.zero_le _, rfl, HN2.out, Below.refl _ _⟩
      case round =>
        obtain ⟨j, v, hj, rfl, hN, hb⟩ := hrel
        have HN := Lib.hid hN
        have Hb := Lib.hid hb
        by_cases hlt : j < m
        · have hjl : j < ws.length := by rw [HI.out.wn]; exact hlt
          have hts := termsL_take nm ws j hjl
          have hll : (addL [] (termsL nm (ws.take j))).length ≤ 1048576 := by
            have h1 := addL_len (termsL nm (ws.take j)) []
            have h2 := termsL_len nm (ws.take j)
            rw [List.length_take] at h2
            simp only [List.length_nil] at h1
            omega
          have hsx := T2.out _ (List.getElem_mem hjl)
          obtain ⟨tb, tq, rfl, htb, hc⟩ := HI.out.wds.2 (by omega)
          have hcj := hc j (.string ws[j]) (by rw [List.getElem?_map, List.getElem?_eq_getElem hjl]; rfl)
          have hd := (hb.cell (p := ⟨tb, tq + j, none⟩) (by show tb < _; omega)).trans hcj
          have hnm := (hb.cell (p := ⟨w.heap.size, 1, none⟩) (by show w.heap.size < _; omega)).trans (HB1.out.cell 1)
          have hbz := hb.size
          simp at hnm
          have Hts := Lib.hid (show addL [] (termsL nm (ws.take (j + 1))) = addL (addL [] (termsL nm (ws.take j))) (termL nm ws[j]) by rw [hts, addL_append])
          clear hts hN hb hc hcj
          generalize addL [] (termsL nm (ws.take j)) = l at *
          generalize ws[j] = x at *
          by_cases hok : termOk nm x = true
          · have c1 := term_yesB nm x wr t1 hsx hok
            have htl : termL nm x = [termV nm x] := by unfold termL; rw [if_pos hok]
            have hsz : (termV nm x).size ≤ 281474976710656 := by
              have e := congrArg List.length (str_data (term nm.data.toList x.data.toList))
              rw [bsize] at e
              show (str (term nm.data.toList x.data.toList)).size ≤ _
              rw [e]
              unfold term
              simp only [List.length_append, List.length_cons, List.length_nil, bsize]
              omega
            rw [htl] at Hts
            have c2 := fun wx => cloneS_any (termV nm x) wx hsz
            have C2 := Lib.hid c2
            clear htl hok hsz c2
            generalize termV nm x = t at *
            go_wp2_with (first | (go_at_call 69; refine c1.mono ?_; rintro e wa ⟨rfl, hba⟩) | (go_at_call 70; refine (C2.out _).mono ?_; rintro e wb ⟨rfl, hbb⟩))
            have hNb := (HN.out.below hba).below hbb
            have hM := mo_one hNb t
            have hNc := hNb.below ((Below.refl _ _).alloc (Nat.le_refl _) (.cells #[.string t] 9))
            have hbc : Below (w.heap.size + 1) w0 (wb.alloc (.cells #[.string t] 9)) := ((Hb.out.trans (hba.mono (by omega))).trans (hbb.mono (by have := hba.size; omega))).alloc (by have := hba.size; have := hbb.size; omega) _
            refine (add_any (w.heap.size + 1) v l _ 1 1 [t] _ hNc hM rfl (by omega)).mono ?_
            rintro e wd ⟨rfl, v', hN', hb'⟩
            rw [addL_one] at hN'
            have Fin2 := Lib.hid (Hts.out ▸ hN' : Nd wd (w.heap.size + 1) v' (addL [] (termsL nm (ws.take (j + 1)))))
            have Fin3 := Lib.hid (hbc.trans hb')
            clear hNb hM hNc hbc hN' hb' hba hbb c1 C2
            go_wp2
            go_roundw
            case rel => exact ⟨j + 1, v', by omega, by go_num, Fin2.out, Fin3.out⟩
            case measure => simp [intOf]; omega
          · have hok' : termOk nm x = false := by simpa using hok
            have c1 := term_noB nm x wr t1 hsx hok'
            have htl : termL nm x = [] := by unfold termL; rw [if_neg hok]
            rw [htl, addL_nil] at Hts
            clear htl hok hok'
            go_wp2_with (go_at_call 69; refine c1.mono ?_; rintro e wa ⟨rfl, hba⟩)
            have Fin2 := Lib.hid (HN.out.below hba)
            have Fin3 := Lib.hid (Hb.out.trans (hba.mono (by omega)))
            clear c1 hba
            go_roundw
            case rel => exact ⟨j + 1, v, by omega, by go_num, by rw [Hts.out]; exact Fin2.out, Fin3.out⟩
            case measure => simp [intOf]; omega
        · obtain rfl : j = m := by omega
          rw [List.take_of_length_le (by rw [HI.out.wn]; exact Nat.le_refl _)] at HN
          have h0 := HN.out.box.cell 0
          simp at h0
          clear hN hb
          go_wp2
          go_ret
          exact Close.out _ _ _ HN.out Hb.out
  · by_cases k5 : k = 5
    · subst k5
      have Fin : Hid (needs (.mk 5 nm ws l) = needsIn [] l) := Lib.hid (by rw [needs_eq, if_neg k24, if_pos rfl])
      rw [Fin.out]
      clear hbx Fin k24
      go_enter Tryz.func36, Tryz.ntmps36
      go_wp2_with fail
      generalize hw0 : ((w.alloc (.cells #[.int .i64 5, .string nm, .slice WA m wc, .slice CA n c2] 52)).alloc (.cells #[.slice none 0 0] 49)) = w0 at *
      clear hw0
      go_loopw [49] (fun i wr => ∃ (j : Nat) (v : Value), j ≤ n ∧ i = .int .i64 j ∧ Nd wr (w.heap.size + 1) v (needsIn [] (l.take j)) ∧ Below (w.heap.size + 1) w0 wr) (fun i _ => n - (intOf i).toNat)
      case atStart => exact ⟨0, _, Nat.zero_le _, rfl, HN2.out, Below.refl _ _⟩
      case round =>
        obtain ⟨j, v, hj, rfl, hN, hb⟩ := hrel
        have HN := Lib.hid hN
        have Hb := Lib.hid hb
        by_cases hlt : j < n
        · have hjl : j < l.length := by rw [HI.out.lm]; exact hlt
          have hts := needsIn_take l [] j hjl
          have hll : (needsIn [] (l.take j)).length ≤ 1048576 := by
            have h1 := needsIn_len (l.take j) [] (fun q _ => needs_len q)
            have h2 := wqs_take_le l j
            simp only [List.length_nil] at h1
            omega
          have hwj := wqs_mem l _ (List.getElem_mem hjl)
          have hnj := needs_len l[j]
          have hbz := hb.size
          obtain ⟨tb, tq, A', n', c', C', m', d', rfl, htb, hq, hc0, hc1, hc2, hc3⟩ := HI.out.at_ hjl
          have htb' : tb < w.heap.size + 1 := by omega
          have hd0 := (hb.cell (p := ⟨tb, tq + j * 4, none⟩) htb').trans hc0
          have hd1 := (hb.cell (p := ⟨tb, tq + j * 4 + 1, none⟩) htb').trans hc1
          have hd2 := (hb.cell (p := ⟨tb, tq + j * 4 + 2, none⟩) htb').trans hc2
          have hd3 := (hb.cell (p := ⟨tb, tq + j * 4 + 3, none⟩) htb').trans hc3
          have hqr := (hq.keep fun b o hp => hb.cell (p := ⟨b, o, none⟩) (by show b < _; omega)).more (show w.heap.size ≤ wr.heap.size by omega)
          have hIj := IH.out _ (List.getElem_mem hjl)
          have Hts := Lib.hid hts
          have hx0 : (l[j]).kind = (l[j]).kind := rfl
          clear hts hN hb hc0 hc1 hc2 hc3 hq
          generalize needsIn [] (l.take j) = ol at *
          generalize l[j] = x at *
          generalize x.kind = x0 at *
          generalize x.name = x1 at *
          have hal : Below wr.heap.size wr (wr.alloc (.cells #[.int .i64 x0, .string x1, .slice A' n' c', .slice C' m' d'] 52)) := (Below.refl _ _).alloc (Nat.le_refl _) _
          have c1 := hIj _ _ _ _ _ (hqr.grow hal) (by omega)
          have HNa := Lib.hid (HN.out.below hal)
          have hbc := Lib.hid (Hb.out.alloc (by omega) (.cells #[.int .i64 x0, .string x1, .slice A' n' c', .slice C' m' d'] 52))
          clear hqr hal hx0 hIj
          go_wp2_with fail
          refine c1.mono ?_
          rintro e wa ⟨u, rfl, hown, hba⟩
          obtain ⟨A, c, rfl, hM⟩ := mo_made HNa.out hown
          have hNb := HNa.out.below hba
          have hbd := hbc.out.trans (hba.mono (by simp; omega))
          clear hown c1
          go_wp2_with fail
          refine (add_any (w.heap.size + 1) v ol A _ c (needs x) _ hNb hM rfl (by omega)).mono ?_
          rintro e wd ⟨rfl, v', hN', hb'⟩
          have Fin2 := Lib.hid (Hts.out ▸ hN' : Nd wd (w.heap.size + 1) v' (needsIn [] (l.take (j + 1))))
          have Fin3 := Lib.hid (hbd.trans hb')
          clear hNb hM hbd hN' hb' hba
          go_wp2
          go_roundw
          case rel => exact ⟨j + 1, v', by omega, by go_num, Fin2.out, Fin3.out⟩
          case measure => simp [intOf]; omega
        · obtain rfl : j = n := by omega
          rw [List.take_of_length_le (by rw [HI.out.lm]; exact Nat.le_refl _)] at HN
          have h0 := HN.out.box.cell 0
          simp at h0
          clear hN hb
          go_wp2
          go_ret
          exact Close.out _ _ _ HN.out Hb.out
    · have Fin : Hid (needs (.mk k nm ws l) = []) := Lib.hid (by rw [needs_eq, if_neg k24, if_neg k5])
      rw [Fin.out]
      have h0 := hbx _ _ _ HN2.out
      simp at h0
      have hk4 : k ≠ 4 := fun e => k24 (.inl e)
      have hk5 : (k == 5) = false := beq_eq_false_iff_ne.2 k5
      have hk4' : (k == 4) = false := beq_eq_false_iff_ne.2 hk4
      by_cases k2 : k = 2
      · subst k2
        have hm : ((m : Int) != 1) = true := by
          rw [bne_iff_ne]
          intro e
          have := HI.out.wn
          exact k24 (.inr ⟨rfl, by omega⟩)
        clear k24 hk4 k5 hbx
        go_enter Tryz.func36, Tryz.ntmps36
        go_wp2
        go_ret
        exact Close.out _ _ _ HN2.out (Below.refl _ _)
      · have hk2 : (k == 2) = false := beq_eq_false_iff_ne.2 k2
        clear k24 hk4 k5 hbx
        go_enter Tryz.func36, Tryz.ntmps36
        go_wp2
        go_ret
        exact Close.out _ _ _ HN2.out (Below.refl _ _)

theorem needs_any : ∀ q, QTx 140737488351232 q → NeedOk q := by
  refine Q.ind (p := fun q => QTx 140737488351232 q → NeedOk q) (fun k nm ws l ih h => ?_)
  refine needs_step k nm ws l h (fun x hx => ih x hx ?_)
  cases h with
  | mk h1 h2 h3 => exact h3 x hx
end Go.Proofs.YtlfpfkallgkjdaaGreat.Qy
end
