/- Rows of counts of the call's own; group.Top: the walk (printed by gen_grv.py). -/
import Derived.Laws.AppendOwnNone
import Derived.Deep.QuietTactic
import Derived.BigQuiet
import Derived.Maps.RangeWalk
import Derived.Maps.OwnSet
import Derived.Test.YtdloacfoegjnmaaGreatPkGroupIndexesRow29
import Derived.Test.YtdloacfoegjnmaaGreatGrEPk
import Derived.Test.YtdloacfoegjnmaaGreatPkGroupIndexesRow10
section
namespace Go.Proofs.YtdloacfoegjnmaaGreat.Gr
open Go.RowKit Go.Proofs.YtdloacfoegjnmaaGreat Go.Proofs.YtdloacfoegjnmaaGreat.Ut Go.Proofs.YtdloacfoegjnmaaGreat.Tk Go.Sort Go.Shelf Go.Lib
set_option maxRecDepth 20000
set_option linter.unusedSimpArgs false
set_option linter.unusedVariables false

theorem rd_grow {w1 w2 : World} {A : Option Addr} {k n : Nat} {xs : List Value} (hb : Below w1.heap.size w1 w2) (h : Reads w1 w1.heap.size k A n xs) : Reads w2 w2.heap.size k A n xs := (h.below hb).more hb.size
theorem own_shp {w : World} {base : Nat} {e : TypeId} {size n : Nat} {v : Value} {xs : List Value} (h : w.ownsRow base e size v n xs) :
    ∃ A c, v = .slice A n c ∧ Reads w w.heap.size size A n xs ∧ n ≤ c ∧ c ≤ maxLen ∧ (A = none → c = 0 ∧ n = 0) ∧ (∀ a, A = some a → ∃ g, a = ⟨g, 0, none⟩) := by
  obtain ⟨A, c, rfl, hR⟩ := own_shape h
  refine ⟨A, c, rfl, hR, ?_⟩
  rcases h.2 with ⟨hv, h0⟩ | ⟨g, cap, cur, hv, _, hg, hnc, hcm, _⟩
  · injection hv with hA _ hc
    exact ⟨by omega, by rw [hc]; unfold maxLen; omega, fun _ => ⟨hc, h0⟩, fun a e => by rw [hA] at e; cases e⟩
  · injection hv with hA _ hc
    exact ⟨by omega, by omega, fun e => (by rw [hA] at e; cases e), fun a e => by rw [hA] at e; injection e with e; exact ⟨g, e.symm⟩⟩
theorem ctC_take : ∀ (l : List Ct) (k : Nat), ctC (l.take k) = (ctC l).take (k * 2)
  | [], k => by simp [ctC]
  | c :: l, 0 => by simp [ctC]
  | c :: l, k + 1 => by
    have ih := ctC_take l k
    have e : (k + 1) * 2 = k * 2 + 1 + 1 := by omega
    rw [e]
    show _ :: _ :: ctC (l.take k) = _ :: _ :: (ctC l).take (k * 2)
    rw [ih]
theorem ctC_drop : ∀ (l : List Ct) (k : Nat), ctC (l.drop k) = (ctC l).drop (k * 2)
  | [], k => by simp [ctC]
  | c :: l, 0 => by simp [ctC]
  | c :: l, k + 1 => by
    have ih := ctC_drop l k
    have e : (k + 1) * 2 = k * 2 + 1 + 1 := by omega
    rw [e]
    exact ih
theorem rd_cell {w : World} {B size n : Nat} {b o : Nat} {xs : List Value} (h : Reads w B size (some ⟨b, o, none⟩) n xs) : ∀ j u, xs[j]? = some u → b < B ∧ w.cell? ⟨b, o + j, none⟩ = some u := by
  intro j u hu
  rcases Nat.eq_zero_or_pos n with rfl | hn
  · have h1 := h.1
    rw [Nat.zero_mul] at h1
    have := List.eq_nil_of_length_eq_zero h1
    subst this
    simp at hu
  · obtain ⟨b', o', e, hb, hc⟩ := h.2 hn
    cases e
    exact ⟨hb, hc j u hu⟩
theorem rd_take {w : World} {B n m : Nat} {A : Option Addr} {l : List Ct} (h : Reads w B 2 A n (ctC l)) (hm : m ≤ n) : Reads w B 2 A m (ctC (l.take m)) := by
  have hl := cts_len h
  refine ⟨by rw [ctC_len, List.length_take]; omega, fun h0 => ?_⟩
  obtain ⟨b, o, e, hb, hc⟩ := h.2 (by omega)
  refine ⟨b, o, e, hb, fun j u hj => hc j u ?_⟩
  rw [ctC_take, List.getElem?_take] at hj
  split at hj
  · exact hj
  · cases hj
/-- A row of the call's own, whose blocks are all behind B. -/
structure CRow (ty : TypeId) (B : Nat) (w wr : World) (v : Value) (l : List Ct) : Prop where
  own : wr.ownsRow B ty 2 v l.length (ctC l)
  bel : Below B w wr
theorem CRow.start (ty : TypeId) {w wr : World} {B : Nat} (hb : Below B w wr) : CRow ty B w wr (.slice none 0 0) [] := ⟨World.ownsRow_nil _ _ _ _, hb⟩
theorem CRow.below {ty : TypeId} {B : Nat} {w wr w' : World} {v : Value} {l : List Ct} (h : CRow ty B w wr v l) (hB : B ≤ wr.heap.size) (hb : Below wr.heap.size wr w') : CRow ty B w w' v l :=
  ⟨h.own.kept (grow_of_below hb none) (by cases v.ownBlock <;> simp), h.bel.trans (hb.mono hB)⟩
theorem CRow.more {ty : TypeId} {B : Nat} {w wr : World} {v : Value} {l : List Ct} (h : CRow ty B w wr v l) (hB : B ≤ wr.heap.size) (o : Obj) : CRow ty B w (wr.alloc o) v l := h.below hB ((Below.refl _ _).alloc (Nat.le_refl _) _)
theorem CRow.app {ty : TypeId} {B : Nat} {w wr w5 : World} {v v5 : Value} {l X : List Ct} {m : Nat} (h : CRow ty B w wr v l) (hB : B ≤ wr.heap.size) (hX : X.length = m) (ho : w5.ownsRow B ty 2 v5 (l.length + m) (ctC l ++ ctC X)) (hg : wr.grownBy w5 v.ownBlock) : CRow ty B w w5 v5 (l ++ X) := by
  subst hX
  refine ⟨?_, h.bel.grown hg hB (fun k hk => (h.own.lt k hk).1)⟩
  rw [List.length_append, ctC_app]
  exact ho
theorem CRow.empty (ty : TypeId) (w : World) : CRow ty w.heap.size w (w.alloc (.cells #[] ty)) (.slice (some ⟨w.heap.size, 0, none⟩) 0 0) [] :=
  ⟨World.ownsRow_lit (base := w.heap.size) (e := ty) (size := 2) w #[] 0 (by simp) (by unfold maxLen; omega) rfl, (Below.refl _ _).alloc (Nat.le_refl _) _⟩
/-- A greater ground, further below. -/
theorem own_base {w : World} {B B' n : Nat} {ty : TypeId} {v : Value} {xs : List Value} (h : w.ownsRow B ty 2 v n xs) (hB : B' ≤ B) : w.ownsRow B' ty 2 v n xs := by
  obtain ⟨h1, h2 | ⟨g, cap, cur, q1, q2, q3⟩⟩ := h
  · exact ⟨h1, .inl h2⟩
  · exact ⟨h1, .inr ⟨g, cap, cur, q1, by omega, q3⟩⟩
theorem CRow.over {ty : TypeId} {B : Nat} {w wr w2 : World} {v : Value} {l : List Ct} (hw : Below w.heap.size w wr) (hB : w.heap.size ≤ B) (h : CRow ty B wr w2 v l) : CRow ty w.heap.size w w2 v l :=
  ⟨own_base h.own hB, hw.trans (h.bel.mono hB)⟩
theorem ct_news {w : World} (ty : TypeId) (s : ByteArray) (n : Int) : ∀ j u, (ctC [(s, n)])[j]? = some u → (w.alloc (.cells #[.string s, .int .i64 n] ty)).cell? ((⟨w.heap.size, 0, none⟩ : Addr).add j) = some u := fun j u hj => by
  have hadd : (⟨w.heap.size, 0, none⟩ : Addr).add j = ⟨w.heap.size, j, none⟩ := by unfold Addr.add; split <;> simp_all
  rw [hadd, (Blk.new w ty #[.string s, .int .i64 n]).cell j]
  simpa [ctC] using hj

set_option maxHeartbeats 1600000 in
theorem top_bad (A : Option Addr) (n c : Nat) (l : List Ct) (most : Int) (w : World) (hR : Reads w w.heap.size 2 A n (ctC l)) (hn : n ≤ 1048576) (hs : ∀ x ∈ l, x.1.size ≤ 140737488351232) (hnil : A = none → c = 0) (hok : okR l = false) :
    Calls Tryz.prog 15 #[.slice A n c, .int .i64 most] w (RowPost w (topG l most) (errG l most)) := by
  have hl := cts_len hR
  have c1 := check_any A n c l w hR hn hs
  rw [errR_no hok] at c1
  have hno : ¬ (okR l = true ∧ 0 ≤ most) := fun h => by rw [hok] at h; exact absurd h.1 (by decide)
  have E1 := Lib.hid (errG_no hno)
  have E2 := Lib.hid (topG_no hno)
  clear hno
  have HR := Lib.hid hR
  have Hl := Lib.hid hl
  have Hnil := Lib.hid hnil
  unfold RowPost
  clear hR hs hl hnil
  go_enter Tryz.func15, Tryz.ntmps15
  go_wp2_with fail
  refine c1.mono ?_
  rintro e w1 ⟨rfl, hb1⟩
  have Hb1 := Lib.hid hb1
  clear hb1 c1
  go_wp2
  go_ret2
  exact ⟨none, 0, by rw [E1.out, E2.out]; rfl, by rw [E2.out]; exact ⟨rfl, fun h => absurd h (by decide)⟩, Hb1.out⟩

set_option maxHeartbeats 1600000 in
theorem top_less (A : Option Addr) (n c : Nat) (l : List Ct) (most : Int) (w : World) (hR : Reads w w.heap.size 2 A n (ctC l)) (hn : n ≤ 1048576) (hs : ∀ x ∈ l, x.1.size ≤ 140737488351232) (hnil : A = none → c = 0) (hok : okR l = true) (hm : ¬ 0 ≤ most) :
    Calls Tryz.prog 15 #[.slice A n c, .int .i64 most] w (RowPost w (topG l most) (errG l most)) := by
  have hl := cts_len hR
  have c1 := check_any A n c l w hR hn hs
  rw [errR_yes hok] at c1
  have hno : ¬ (okR l = true ∧ 0 ≤ most) := fun h => hm h.2
  have E1 := Lib.hid (errG_no hno)
  have E2 := Lib.hid (topG_no hno)
  have hlt : most < 0 := by omega
  clear hno hm
  have HR := Lib.hid hR
  have Hl := Lib.hid hl
  have Hnil := Lib.hid hnil
  unfold RowPost
  clear hR hs hl hnil
  go_enter Tryz.func15, Tryz.ntmps15
  go_wp2_with fail
  refine c1.mono ?_
  rintro e w1 ⟨rfl, hb1⟩
  have Hb1 := Lib.hid hb1
  clear hb1 c1
  go_wp2
  go_ret2
  exact ⟨none, 0, by rw [E1.out, E2.out]; rfl, by rw [E2.out]; exact ⟨rfl, fun h => absurd h (by decide)⟩, Hb1.out⟩

set_option maxHeartbeats 1600000 in
theorem top_good (A : Option Addr) (n c : Nat) (l : List Ct) (k : Nat) (w : World) (hR : Reads w w.heap.size 2 A n (ctC l)) (hn : n ≤ 1048576) (hs : ∀ x ∈ l, x.1.size ≤ 140737488351232) (hnil : A = none → c = 0) (hok : okR l = true) :
    Calls Tryz.prog 15 #[.slice A n c, .int .i64 k] w (RowPost w (topG l k) (errG l k)) := by
  have hl := cts_len hR
  have c1 := check_any A n c l w hR hn hs
  rw [errR_yes hok] at c1
  have hk0 : (0 : Int) ≤ (k : Int) := by omega
  have hyes : okR l = true ∧ (0 : Int) ≤ k := ⟨hok, hk0⟩
  have E1 := Lib.hid (errG_yes hyes)
  have e2 := topG_yes hyes
  rw [show ((k : Int)).toNat = k by omega] at e2
  have E2 := Lib.hid e2
  have ht := @top_sorted l
  have htl := topR_len l
  have Ht := Lib.hid (fun d' => ht (d' := d') hok)
  have HR := Lib.hid hR
  have Hl := Lib.hid hl
  have Hnil := Lib.hid hnil
  unfold RowPost
  clear hR hs hl hnil ht hok hyes e2
  generalize topR l = T at *
  go_enter Tryz.func15, Tryz.ntmps15
  go_wp2_with fail
  refine c1.mono ?_
  rintro e w1 ⟨rfl, hb1⟩
  have c2 := clone_any A n c l w1 (rd_grow hb1 HR.out) Hl.out hn Hnil.out
  have Hb1 := Lib.hid hb1
  clear hb1 c1
  go_wp2_with fail
  refine c2.mono ?_
  rintro e w2 ⟨v, rfl, hown, hb2⟩
  have c3 := orderedT_all w1.heap.size l v w2 hown (by rw [Hl.out]; exact hn)
  have Hown := Lib.hid hown
  have Hb2 := Lib.hid hb2
  clear hown hb2 c2
  go_wp2_with fail
  refine c3.mono ?_
  rintro e w3 ⟨rfl, d', hp, hso, hown3, o, o', hg⟩
  have hd := Ht.out d' hp hso
  rw [hd] at hown3
  have h12 := Hb1.out.trans (Hb2.out.mono Hb1.out.size)
  have hb3 : Below w.heap.size w w3 := ((h12.alloc h12.size o).alloc (by have := h12.size; simp; omega) o').grown hg (by have := h12.size; simp; omega) (fun j hj => by have := (Hown.out.lt j hj).1; have := Hb1.out.size; omega)
  obtain ⟨A3, c3', hv, hR3, hnc, hcm, hn0, hg0⟩ := own_shp hown3
  subst hv
  have HR3 := Lib.hid hR3
  have Hb3 := Lib.hid hb3
  have Hn0 := Lib.hid hn0
  have Hg0 := Lib.hid hg0
  have hln : l.length ≤ 1048576 := by rw [Hl.out]; exact hn
  unfold maxLen at hcm
  clear c3 hp hso hown3 hd h12 hg hb3 hR3 Hown Hb1 Hb2 Ht hn0 hg0
  have hmt : (min (l.length : Int) (k : Int)).toNat = min k l.length := by omega
  go_wp2
  go_ret2
  refine ⟨A3, c3', ?_, ?_, Hb3.out⟩
  · rw [E1.out, E2.out, List.length_take, htl, ← hmt]
    rfl
  · rw [E2.out, List.length_take, htl]
    by_cases hmin : k < l.length
    · rw [Nat.min_eq_left (by omega)]
      exact rd_take HR3.out (by omega)
    · rw [Nat.min_eq_right (by omega), List.take_of_length_le (by omega)]
      exact HR3.out
theorem top_any (A : Option Addr) (n c : Nat) (l : List Ct) (most : Int) (w : World) (hR : Reads w w.heap.size 2 A n (ctC l)) (hn : n ≤ 1048576) (hs : ∀ x ∈ l, x.1.size ≤ 140737488351232) (hnil : A = none → c = 0) :
    Calls Tryz.prog 15 #[.slice A n c, .int .i64 most] w (RowPost w (topG l most) (errG l most)) := by
  cases hok : okR l
  · exact top_bad A n c l most w hR hn hs hnil hok
  · by_cases hm : 0 ≤ most
    · obtain ⟨k, rfl⟩ := Int.eq_ofNat_of_zero_le hm
      exact top_good A n c l k w hR hn hs hnil hok
    · exact top_less A n c l most w hR hn hs hnil hok hm
end Go.Proofs.YtdloacfoegjnmaaGreat.Gr
end

section
/- SLICED by slice.py -/
/- group.Check; loggiaref30.Is, Check: the walks (printed by gen_gre.py). -/
namespace Go.Proofs.YtdloacfoegjnmaaGreat.Gr
open Go.RowKit Go.Proofs.YtdloacfoegjnmaaGreat Go.Proofs.YtdloacfoegjnmaaGreat.Ut Go.Proofs.YtdloacfoegjnmaaGreat.Tk
set_option maxRecDepth 20000
set_option linter.unusedSimpArgs false
set_option linter.unusedVariables false



end Go.Proofs.YtdloacfoegjnmaaGreat.Gr
end

section
/- SLICED by slice.py -/
/- loggiaref30.Top: the walk (printed by gen_grw.py). -/
namespace Go.Proofs.YtdloacfoegjnmaaGreat.Gr
open Go.RowKit Go.Proofs.YtdloacfoegjnmaaGreat Go.Proofs.YtdloacfoegjnmaaGreat.Ut Go.Proofs.YtdloacfoegjnmaaGreat.Tk Go.Sort Go.Shelf Go.Lib
set_option maxRecDepth 20000
set_option linter.unusedSimpArgs false
set_option linter.unusedVariables false

theorem add_lit (b o j : Nat) : (⟨b, o, none⟩ : Addr).add j = ⟨b, o + j, none⟩ := by unfold Addr.add; split <;> simp_all
/-- More counts behind a row of the call's own; the others may be nil. -/
theorem wpList_append_cts {w : World} {ops : Array Oper} {rest : List Oper} {o : Oper} {a : Act} {Q : Exit → Act → World → Prop} (hgd : o.guard = none) (s x : Operand) (t : TypeId)
    (ho : o.op = .call { callee := .builtin .append, args := #[s, x], argTypes := #[t, t] })
    (e : TypeId) (i : TypeInfo) (ht : Tryz.prog.underlying t = some (.slice e)) (hi : Tryz.prog.info? e = some i) (hz : i.zero = some (.agg #[.string ByteArray.empty, .int .i64 0])) (hsize : i.size = 2) (hby : i.bytes = 24)
    (base : Nat) (v : Value) (l X : List Ct) (hs : a.eval s = v) (hown : w.ownsRow base e 2 v l.length (ctC l)) (A : Option Addr) (m c : Nat) (hx : a.eval x = .slice A m c) (hR : Reads w w.heap.size 2 A m (ctC X)) (hnil : A = none → c = 0)
    (hb1 : l.length + m ≤ 4194304) (hbase : base ≤ w.heap.size)
    (h : ∀ v' w', w'.ownsRow base e 2 v' (l.length + m) (ctC l ++ ctC X) → w.grownBy w' v.ownBlock → wpList Tryz.prog ops Q rest (a.put o.dst v') w') : wpList Tryz.prog ops Q (o :: rest) a w := by
  have hXl := cts_len hR
  cases A with
  | none =>
    have hm0 : m = 0 := by
      by_cases h0 : 0 < m
      · obtain ⟨b, o, e, _⟩ := hR.2 h0; cases e
      · omega
    subst hm0
    obtain rfl : c = 0 := hnil rfl
    have hX : X = [] := List.length_eq_zero_iff.1 hXl
    subst hX
    refine wpList_append_own_none hgd s x t ho base e i 2 ht hi v l.length (ctC l) hs hown hx ?_
    exact h v w (by simpa [ctC] using hown) (grow_of_below (Below.refl _ _) _)
  | some ad =>
    refine wpList_append_own w hgd s x t ho base e i _ 2 24 ht hi hz hsize hby rfl (by decide) v l.length (ctC l) hs hown ad m c (ctC X) hx (by rw [ctC_len, hXl]) (fun j u hj => ?_) (ctC_one _) (by unfold maxLen; omega) (by omega) hbase (fun v' w' h1 h2 _ => h v' w' h1 h2)
    have hjl : j < m * 2 := by
      have := (List.getElem?_eq_some_iff.1 hj).1
      rw [ctC_len, hXl] at this
      exact this
    obtain ⟨b, o, e, hb, hc⟩ := hR.2 (by omega)
    injection e with e
    subst e
    rw [add_lit]
    exact hc j u hj
/-- The rest of a row, from a place on. -/
theorem rd_cut {w : World} {B n c p : Nat} {A : Option Addr} {l : List Ct} (h : Reads w B 2 A n (ctC l)) (hp : p ≤ n) (hc : n ≤ c) : Reads w B 2 (if c = p then A else A.map (·.add (p * 2))) (n - p) (ctC (l.drop p)) := by
  have hl := cts_len h
  refine ⟨by rw [ctC_len, List.length_drop]; omega, fun h0 => ?_⟩
  rw [if_neg (by omega)]
  obtain ⟨b, o, rfl, hb, hcl⟩ := h.2 (by omega)
  refine ⟨b, o + p * 2, ?_, hb, fun j u hj => ?_⟩
  · show some ((⟨b, o, none⟩ : Addr).add (p * 2)) = _
    rw [add_lit]
  · rw [ctC_drop, List.getElem?_drop] at hj
    have := hcl _ _ hj
    rwa [← Nat.add_assoc] at this

end Go.Proofs.YtdloacfoegjnmaaGreat.Gr
end

section
/- Tables of words, and the one row of each: plain. No program in sight. -/
namespace Go.Proofs.YtdloacfoegjnmaaGreat.Gr
open Go.RowKit Go.Proofs.YtdloacfoegjnmaaGreat Go.Proofs.YtdloacfoegjnmaaGreat.Ut Go.Proofs.YtdloacfoegjnmaaGreat.Tk Go.Sort Go.Shelf Go.Lib Go.Maps
set_option linter.unusedVariables false
set_option linter.unusedSimpArgs false

/-- A table of words. -/
abbrev Tb := ByteArray → Option Int
def litW (s : ByteArray) : Lit := .string s.data.toList
theorem litW_inj {a b : ByteArray} (h : litW a = litW b) : a = b := by
  unfold litW at h
  injection h with h
  rw [← of_str a, ← of_str b]
  simp only [h]
theorem litW_key (s : ByteArray) : WideAt.IsKeyLit (litW s) := by
  unfold litW
  simp [WideAt.IsKeyLit]
theorem litW_same (a b : ByteArray) : (litW a).sameKey (litW b) = decide (a = b) := by
  by_cases h : a = b
  · subst h
    rw [WideAt.sameKey_self (litW_key a)]
    simp
  · rw [Maps.sameKey_ne (fun e => h (litW_inj e)), decide_eq_false h]
/-- The map in memory holds the table. -/
structure TabD (D : DataW Unit) (f : Tb) : Prop where
  has : ∀ s, Maps.has D (litW s) = (f s).isSome
  val : ∀ s n, f s = some n → ∀ z, D.atKey (litW s) z = .lit (.int .i64 n)
  key : ∀ kl, Maps.has D kl = true → ∃ s, kl = litW s
def noT : Tb := fun _ => none
def putT (f : Tb) (s : ByteArray) (n : Int) : Tb := fun t => if t = s then some n else f t
theorem TabD.none : TabD (.map []) noT := ⟨fun s => rfl, fun s n h => (nomatch h), fun kl h => (nomatch h)⟩
theorem TabD.put {D : DataW Unit} {f : Tb} (h : TabD D f) (hm : IsMap D) (s : ByteArray) (n : Int) : TabD (D.put (litW s) (.lit (.int .i64 n))) (putT f s n) := by
  refine ⟨fun t => ?_, fun t m ht z => ?_, fun kl hk => ?_⟩
  · unfold putT
    by_cases e : t = s
    · subst e
      rw [has_put_same hm (litW_key t), if_pos rfl]; rfl
    · rw [has_put_other (fun e' => e (litW_inj e')), if_neg e]; exact h.has t
  · unfold putT at ht
    by_cases e : t = s
    · subst e
      rw [if_pos rfl] at ht
      injection ht with ht
      rw [atKey_put_same hm (litW_key t), ht]
    · rw [if_neg e] at ht
      rw [atKey_put_other (fun e' => e (litW_inj e'))]
      exact h.val t m ht z
  · by_cases e : kl = litW s
    · exact ⟨s, e⟩
    · rw [has_put_other e] at hk
      exact h.key kl hk
theorem TabD.at_ {D : DataW Unit} {f : Tb} (h : TabD D f) {s : ByteArray} {c : Int} (hc : D.atKey (litW s) (.lit (.int .i64 0)) = .lit (.int .i64 c)) : c = (f s).getD 0 := by
  cases e : f s with
  | none =>
    have : Maps.has D (litW s) = false := by rw [h.has, e]; rfl
    rw [atKey_of_not_has this] at hc
    injection hc with hc
    injection hc with _ hc
    exact hc.symm
  | some n =>
    rw [h.val s n e] at hc
    injection hc with hc
    injection hc with _ hc
    exact hc.symm

/-- The row of a table: by rising words. -/
def IsTab (f : Tb) (l : List Ct) : Prop := l.Pairwise (fun x y => ltS x.1 y.1 = true) ∧ ∀ x : Ct, x ∈ l ↔ f x.1 = some x.2
theorem mem_one {r : Ct → Ct → Prop} (hi : ∀ x, ¬ r x x) (ht : ∀ x y z, r x y → r y z → r x z) : ∀ {l m : List Ct}, (∀ x, x ∈ l ↔ x ∈ m) → l.Pairwise r → m.Pairwise r → l = m
  | [], [], _, _, _ => rfl
  | [], y :: m, h, _, _ => by have := (h y).2 (List.mem_cons_self ..); cases this
  | x :: l, [], h, _, _ => by have := (h x).1 (List.mem_cons_self ..); cases this
  | x :: l, y :: m, h, hl, hm => by
    obtain ⟨a1, a2⟩ := List.pairwise_cons.1 hl
    obtain ⟨b1, b2⟩ := List.pairwise_cons.1 hm
    have e : x = y := by
      rcases List.mem_cons.1 ((h x).1 (List.mem_cons_self ..)) with e | h1
      · exact e
      · rcases List.mem_cons.1 ((h y).2 (List.mem_cons_self ..)) with e | h2
        · exact e.symm
        · exact absurd (ht _ _ _ (a1 y h2) (b1 x h1)) (hi x)
    subst e
    have hne : ∀ z ∈ l, z ≠ x := fun z hz e => hi x (e ▸ a1 z hz)
    have hne2 : ∀ z ∈ m, z ≠ x := fun z hz e => hi x (e ▸ b1 z hz)
    rw [mem_one hi ht (fun z => ⟨fun hz => by
      rcases List.mem_cons.1 ((h z).1 (List.mem_cons_of_mem _ hz)) with e | h1
      · exact absurd e (hne z hz)
      · exact h1, fun hz => by
      rcases List.mem_cons.1 ((h z).2 (List.mem_cons_of_mem _ hz)) with e | h1
      · exact absurd e (hne2 z hz)
      · exact h1⟩) a2 b2]
theorem IsTab.one {f : Tb} {l m : List Ct} (h : IsTab f l) (g : IsTab f m) : l = m :=
  mem_one (r := fun x y => ltS x.1 y.1 = true) (fun x => by rw [ltS_irrefl]; decide) (fun _ _ _ => ltS_trans) (fun x => (h.2 x).trans (g.2 x).symm) h.1 g.1
theorem IsTab.none : IsTab noT [] := ⟨List.Pairwise.nil, fun x => ⟨fun h => (nomatch h), fun h => (nomatch h)⟩⟩
theorem IsTab.congr {f g : Tb} {l : List Ct} (h : IsTab f l) (e : ∀ s, f s = g s) : IsTab g l := ⟨h.1, fun x => by rw [← e]; exact h.2 x⟩

/-- On the way through a table. -/
structure Tway (D : DataW Unit) (f : Tb) (left : Lit → Bool) (l : List Ct) : Prop where
  got : ∀ x ∈ l, f x.1 = some x.2 ∧ left (litW x.1) = false
  rest : ∀ s n, f s = some n → left (litW s) = true ∨ (s, n) ∈ l
  ne : l.Pairwise (fun x y => x.1 ≠ y.1)
  ofD : ∀ kl, left kl = true → Maps.has D kl = true
theorem Tway.start {D : DataW Unit} {f : Tb} (h : TabD D f) : Tway D f (Maps.has D) [] :=
  ⟨fun x hx => (nomatch hx), fun s n e => .inl (by rw [h.has, e]; rfl), List.Pairwise.nil, fun _ h => h⟩
theorem Tway.step {D : DataW Unit} {f : Tb} {left : Lit → Bool} {l : List Ct} (h : Tway D f left l) (hD : TabD D f) {s : ByteArray} {c : Int} (hl : left (litW s) = true) (hc : ∀ z, D.atKey (litW s) z = .lit (.int .i64 c)) :
    Tway D f (fun z => left z && !z.sameKey (litW s)) (l ++ [(s, c)]) := by
  have hs : f s = some c := by
    have h1 := hD.has s
    rw [h.ofD _ hl] at h1
    cases e : f s with
    | none => rw [e] at h1; cases h1
    | some n =>
      have h2 := hD.val s n e (.map [])
      rw [hc] at h2
      injection h2 with h2
      injection h2 with _ h2
      rw [h2]
  refine ⟨fun x hx => ?_, fun t n ht => ?_, ?_, fun kl hk => h.ofD kl (by rw [Bool.and_eq_true] at hk; exact hk.1)⟩
  · rcases List.mem_append.1 hx with hx | hx
    · obtain ⟨h1, h2⟩ := h.got x hx
      exact ⟨h1, by rw [h2]; rfl⟩
    · rw [List.mem_singleton] at hx
      subst hx
      exact ⟨hs, by rw [litW_same]; simp⟩
  · rcases h.rest t n ht with h1 | h1
    · by_cases e : t = s
      · subst e
        rw [hs] at ht
        injection ht with ht
        exact .inr (by rw [ht]; simp)
      · exact .inl (by rw [h1, litW_same, decide_eq_false e]; rfl)
    · exact .inr (List.mem_append_left _ h1)
  · refine List.pairwise_append.2 ⟨h.ne, List.pairwise_singleton _ _, fun x hx y hy e => ?_⟩
    rw [List.mem_singleton] at hy
    subst hy
    have := (h.got x hx).2
    rw [e] at this
    rw [this] at hl
    cases hl
theorem Tway.fin {D : DataW Unit} {f : Tb} {left : Lit → Bool} {l : List Ct} (h : Tway D f left l) (h0 : ∀ kl, left kl = false) {d' : Array Ct} (hp : PermIn 0 l.toArray.size l.toArray d') (hs : SortedIn (ltOf cfR) 0 l.toArray.size d') : IsTab f d'.toList := by
  obtain ⟨h1, h2⟩ := row_sorted h.ne hp hs
  refine ⟨h2, fun x => ?_⟩
  rw [h1.mem_iff]
  constructor
  · exact fun hx => (h.got x hx).1
  · intro hx
    rcases h.rest x.1 x.2 hx with h3 | h3
    · rw [h0] at h3; cases h3
    · exact h3
theorem Tway.nil {D : DataW Unit} {f : Tb} {left : Lit → Bool} (h : Tway D f left []) (h0 : ∀ kl, left kl = false) : IsTab f [] := by
  refine ⟨List.Pairwise.nil, fun x => ⟨fun hx => (nomatch hx), fun hx => ?_⟩⟩
  rcases h.rest x.1 x.2 hx with h3 | h3
  · rw [h0] at h3; cases h3
  · exact h3
end Go.Proofs.YtdloacfoegjnmaaGreat.Gr
end
