/- Rows of counts of the call's own; group.Top: the walk (printed by gen_grv.py). -/
import Derived.Test.YtfegkchajkpgfaaPkGroupRowsRow29
namespace Go.Proofs.Ytfegkchajkpgfaa.Gr
open Go.RowKit Go.Proofs.Ytfegkchajkpgfaa Go.Proofs.Ytfegkchajkpgfaa.Ut Go.Proofs.Ytfegkchajkpgfaa.Tk Go.Sort Go.Shelf Go.Lib
set_option maxRecDepth 20000
set_option linter.unusedSimpArgs false
set_option linter.unusedVariables false

theorem rd_grow {w1 w2 : World} {A : Option Addr} {k n : Nat} {xs : List Value} (hb : Below w1.heap.size w1 w2) (h : Reads w1 w1.heap.size k A n xs) : Reads w2 w2.heap.size k A n xs := (h.below hb).more hb.size
theorem own_shp {w : World} {base : Nat} {e : TypeId} {size n : Nat} {v : Value} {xs : List Value} (h : w.ownsRow base e size v n xs) :
    ∃ A c, v = .slice A n c ∧ Reads w w.heap.size size A n xs ∧ n ≤ c ∧ c ≤ maxLen ∧ (A = none → c = 0 ∧ n = 0) ∧ (∀ a, A = some a → ∃ g, a = ⟨g, 0, none⟩) := by
  obtain ⟨A, c, rfl, hR⟩ := own_shape h
  refine ⟨A, c, rfl, hR, ?_⟩
  rcases h.2 with ⟨hv, h0⟩ | ⟨g, cap, cur, hv, _, hg, hnc, hcm, _⟩
  · injection hv with hA _ hc
    exact ⟨by omega, by rw [hc]; unfold maxLen; omega, fun _ => ⟨hc, h0⟩, fun a e => by rw [hA] at e; cases e⟩
  · injection hv with hA _ hc
    exact ⟨by omega, by omega, fun e => (by rw [hA] at e; cases e), fun a e => by rw [hA] at e; injection e with e; exact ⟨g, e.symm⟩⟩
theorem ctC_take : ∀ (l : List Ct) (k : Nat), ctC (l.take k) = (ctC l).take (k * 2)
  | [], k => by simp [ctC]
  | c :: l, 0 => by simp [ctC]
  | c :: l, k + 1 => by
    have ih := ctC_take l k
    have e : (k + 1) * 2 = k * 2 + 1 + 1 := by omega
    rw [e]
    show _ :: _ :: ctC (l.take k) = _ :: _ :: (ctC l).take (k * 2)
    rw [ih]
theorem ctC_drop : ∀ (l : List Ct) (k : Nat), ctC (l.drop k) = (ctC l).drop (k * 2)
  | [], k => by simp [ctC]
  | c :: l, 0 => by simp [ctC]
  | c :: l, k + 1 => by
    have ih := ctC_drop l k
    have e : (k + 1) * 2 = k * 2 + 1 + 1 := by omega
    rw [e]
    exact ih
theorem rd_cell {w : World} {B size n : Nat} {b o : Nat} {xs : List Value} (h : Reads w B size (some ⟨b, o, none⟩) n xs) : ∀ j u, xs[j]? = some u → b < B ∧ w.cell? ⟨b, o + j, none⟩ = some u := by
  intro j u hu
  rcases Nat.eq_zero_or_pos n with rfl | hn
  · have h1 := h.1
    rw [Nat.zero_mul] at h1
    have := List.eq_nil_of_length_eq_zero h1
    subst this
    simp at hu
  · obtain ⟨b', o', e, hb, hc⟩ := h.2 hn
    cases e
    exact ⟨hb, hc j u hu⟩
theorem rd_take {w : World} {B n m : Nat} {A : Option Addr} {l : List Ct} (h : Reads w B 2 A n (ctC l)) (hm : m ≤ n) : Reads w B 2 A m (ctC (l.take m)) := by
  have hl := cts_len h
  refine ⟨by rw [ctC_len, List.length_take]; omega, fun h0 => ?_⟩
  obtain ⟨b, o, e, hb, hc⟩ := h.2 (by omega)
  refine ⟨b, o, e, hb, fun j u hj => hc j u ?_⟩
  rw [ctC_take, List.getElem?_take] at hj
  split at hj
  · exact hj
  · cases hj
/-- A row of the call's own, whose blocks are all behind B. -/
structure CRow (ty : TypeId) (B : Nat) (w wr : World) (v : Value) (l : List Ct) : Prop where
  own : wr.ownsRow B ty 2 v l.length (ctC l)
  bel : Below B w wr
theorem CRow.start (ty : TypeId) {w wr : World} {B : Nat} (hb : Below B w wr) : CRow ty B w wr (.slice none 0 0) [] := ⟨World.ownsRow_nil _ _ _ _, hb⟩
theorem CRow.below {ty : TypeId} {B : Nat} {w wr w' : World} {v : Value} {l : List Ct} (h : CRow ty B w wr v l) (hB : B ≤ wr.heap.size) (hb : Below wr.heap.size wr w') : CRow ty B w w' v l :=
  ⟨h.own.kept (grow_of_below hb none) (by cases v.ownBlock <;> simp), h.bel.trans (hb.mono hB)⟩
theorem CRow.more {ty : TypeId} {B : Nat} {w wr : World} {v : Value} {l : List Ct} (h : CRow ty B w wr v l) (hB : B ≤ wr.heap.size) (o : Obj) : CRow ty B w (wr.alloc o) v l := h.below hB ((Below.refl _ _).alloc (Nat.le_refl _) _)
theorem CRow.app {ty : TypeId} {B : Nat} {w wr w5 : World} {v v5 : Value} {l X : List Ct} {m : Nat} (h : CRow ty B w wr v l) (hB : B ≤ wr.heap.size) (hX : X.length = m) (ho : w5.ownsRow B ty 2 v5 (l.length + m) (ctC l ++ ctC X)) (hg : wr.grownBy w5 v.ownBlock) : CRow ty B w w5 v5 (l ++ X) := by
  subst hX
  refine ⟨?_, h.bel.grown hg hB (fun k hk => (h.own.lt k hk).1)⟩
  rw [List.length_append, ctC_app]
  exact ho
theorem CRow.empty (ty : TypeId) (w : World) : CRow ty w.heap.size w (w.alloc (.cells #[] ty)) (.slice (some ⟨w.heap.size, 0, none⟩) 0 0) [] :=
  ⟨World.ownsRow_lit (base := w.heap.size) (e := ty) (size := 2) w #[] 0 (by simp) (by unfold maxLen; omega) rfl, (Below.refl _ _).alloc (Nat.le_refl _) _⟩
/-- A greater ground, further below. -/
theorem own_base {w : World} {B B' n : Nat} {ty : TypeId} {v : Value} {xs : List Value} (h : w.ownsRow B ty 2 v n xs) (hB : B' ≤ B) : w.ownsRow B' ty 2 v n xs := by
  obtain ⟨h1, h2 | ⟨g, cap, cur, q1, q2, q3⟩⟩ := h
  · exact ⟨h1, .inl h2⟩
  · exact ⟨h1, .inr ⟨g, cap, cur, q1, by omega, q3⟩⟩
theorem CRow.over {ty : TypeId} {B : Nat} {w wr w2 : World} {v : Value} {l : List Ct} (hw : Below w.heap.size w wr) (hB : w.heap.size ≤ B) (h : CRow ty B wr w2 v l) : CRow ty w.heap.size w w2 v l :=
  ⟨own_base h.own hB, hw.trans (h.bel.mono hB)⟩
theorem ct_news {w : World} (ty : TypeId) (s : ByteArray) (n : Int) : ∀ j u, (ctC [(s, n)])[j]? = some u → (w.alloc (.cells #[.string s, .int .i64 n] ty)).cell? ((⟨w.heap.size, 0, none⟩ : Addr).add j) = some u := fun j u hj => by
  have hadd : (⟨w.heap.size, 0, none⟩ : Addr).add j = ⟨w.heap.size, j, none⟩ := by unfold Addr.add; split <;> simp_all
  rw [hadd, (Blk.new w ty #[.string s, .int .i64 n]).cell j]
  simpa [ctC] using hj

set_option maxHeartbeats 1600000 in
theorem top_bad (A : Option Addr) (n c : Nat) (l : List Ct) (most : Int) (w : World) (hR : Reads w w.heap.size 2 A n (ctC l)) (hn : n ≤ 1048576) (hs : ∀ x ∈ l, x.1.size ≤ 140737488351232) (hnil : A = none → c = 0) (hok : okR l = false) :
    Calls Try.prog 23 #[.slice A n c, .int .i64 most] w (RowPost w (topG l most) (errG l most)) := by
  have hl := cts_len hR
  have c1 := check_any A n c l w hR hn hs
  rw [errR_no hok] at c1
  have hno : ¬ (okR l = true ∧ 0 ≤ most) := fun h => by rw [hok] at h; exact absurd h.1 (by decide)
  have E1 := Lib.hid (errG_no hno)
  have E2 := Lib.hid (topG_no hno)
  clear hno
  have HR := Lib.hid hR
  have Hl := Lib.hid hl
  have Hnil := Lib.hid hnil
  unfold RowPost
  clear hR hs hl hnil
  go_enter Try.func23, Try.ntmps23
  go_wp2_with fail
  refine c1.mono ?_
  rintro e w1 ⟨rfl, hb1⟩
  have Hb1 := Lib.hid hb1
  clear hb1 c1
  go_wp2
  go_ret2
  exact ⟨none, 0, by rw [E1.out, E2.out]; rfl, by rw [E2.out]; exact ⟨rfl, fun h => absurd h (by decide)⟩, Hb1.out⟩

set_option maxHeartbeats 1600000 in
theorem top_less (A : Option Addr) (n c : Nat) (l : List Ct) (most : Int) (w : World) (hR : Reads w w.heap.size 2 A n (ctC l)) (hn : n ≤ 1048576) (hs : ∀ x ∈ l, x.1.size ≤ 140737488351232) (hnil : A = none → c = 0) (hok : okR l = true) (hm : ¬ 0 ≤ most) :
    Calls Try.prog 23 #[.slice A n c, .int .i64 most] w (RowPost w (topG l most) (errG l most)) := by
  have hl := cts_len hR
  have c1 := check_any A n c l w hR hn hs
  rw [errR_yes hok] at c1
  have hno : ¬ (okR l = true ∧ 0 ≤ most) := fun h => hm h.2
  have E1 := Lib.hid (errG_no hno)
  have E2 := Lib.hid (topG_no hno)
  have hlt : most < 0 := by omega
  clear hno hm
  have HR := Lib.hid hR
  have Hl := Lib.hid hl
  have Hnil := Lib.hid hnil
  unfold RowPost
  clear hR hs hl hnil
  go_enter Try.func23, Try.ntmps23
  go_wp2_with fail
  refine c1.mono ?_
  rintro e w1 ⟨rfl, hb1⟩
  have Hb1 := Lib.hid hb1
  clear hb1 c1
  go_wp2
  go_ret2
  exact ⟨none, 0, by rw [E1.out, E2.out]; rfl, by rw [E2.out]; exact ⟨rfl, fun h => absurd h (by decide)⟩, Hb1.out⟩

set_option maxHeartbeats 1600000 in
theorem top_good (A : Option Addr) (n c : Nat) (l : List Ct) (k : Nat) (w : World) (hR : Reads w w.heap.size 2 A n (ctC l)) (hn : n ≤ 1048576) (hs : ∀ x ∈ l, x.1.size ≤ 140737488351232) (hnil : A = none → c = 0) (hok : okR l = true) :
    Calls Try.prog 23 #[.slice A n c, .int .i64 k] w (RowPost w (topG l k) (errG l k)) := by
  have hl := cts_len hR
  have c1 := check_any A n c l w hR hn hs
  rw [errR_yes hok] at c1
  have hk0 : (0 : Int) ≤ (k : Int) := by omega
  have hyes : okR l = true ∧ (0 : Int) ≤ k := ⟨hok, hk0⟩
  have E1 := Lib.hid (errG_yes hyes)
  have e2 := topG_yes hyes
  rw [show ((k : Int)).toNat = k by omega] at e2
  have E2 := Lib.hid e2
  have ht := @top_sorted l
  have htl := topR_len l
  have Ht := Lib.hid (fun d' => ht (d' := d') hok)
  have HR := Lib.hid hR
  have Hl := Lib.hid hl
  have Hnil := Lib.hid hnil
  unfold RowPost
  clear hR hs hl hnil ht hok hyes e2
  generalize topR l = T at *
  go_enter Try.func23, Try.ntmps23
  go_wp2_with fail
  refine c1.mono ?_
  rintro e w1 ⟨rfl, hb1⟩
  have c2 := clone_any A n c l w1 (rd_grow hb1 HR.out) Hl.out hn Hnil.out
  have Hb1 := Lib.hid hb1
  clear hb1 c1
  go_wp2_with fail
  refine c2.mono ?_
  rintro e w2 ⟨v, rfl, hown, hb2⟩
  have c3 := orderedT_all w1.heap.size l v w2 hown (by rw [Hl.out]; exact hn)
  have Hown := Lib.hid hown
  have Hb2 := Lib.hid hb2
  clear hown hb2 c2
  go_wp2_with fail
  refine c3.mono ?_
  rintro e w3 ⟨rfl, d', hp, hso, hown3, o, o', hg⟩
  have hd := Ht.out d' hp hso
  rw [hd] at hown3
  have h12 := Hb1.out.trans (Hb2.out.mono Hb1.out.size)
  have hb3 : Below w.heap.size w w3 := ((h12.alloc h12.size o).alloc (by have := h12.size; simp; omega) o').grown hg (by have := h12.size; simp; omega) (fun j hj => by have := (Hown.out.lt j hj).1; have := Hb1.out.size; omega)
  obtain ⟨A3, c3', hv, hR3, hnc, hcm, hn0, hg0⟩ := own_shp hown3
  subst hv
  have HR3 := Lib.hid hR3
  have Hb3 := Lib.hid hb3
  have Hn0 := Lib.hid hn0
  have Hg0 := Lib.hid hg0
  have hln : l.length ≤ 1048576 := by rw [Hl.out]; exact hn
  unfold maxLen at hcm
  clear c3 hp hso hown3 hd h12 hg hb3 hR3 Hown Hb1 Hb2 Ht hn0 hg0
  have hmt : (min (l.length : Int) (k : Int)).toNat = min k l.length := by omega
  go_wp2
  go_ret2
  refine ⟨A3, c3', ?_, ?_, Hb3.out⟩
  · rw [E1.out, E2.out, List.length_take, htl, ← hmt]
    rfl
  · rw [E2.out, List.length_take, htl]
    by_cases hmin : k < l.length
    · rw [Nat.min_eq_left (by omega)]
      exact rd_take HR3.out (by omega)
    · rw [Nat.min_eq_right (by omega), List.take_of_length_le (by omega)]
      exact HR3.out
theorem top_any (A : Option Addr) (n c : Nat) (l : List Ct) (most : Int) (w : World) (hR : Reads w w.heap.size 2 A n (ctC l)) (hn : n ≤ 1048576) (hs : ∀ x ∈ l, x.1.size ≤ 140737488351232) (hnil : A = none → c = 0) :
    Calls Try.prog 23 #[.slice A n c, .int .i64 most] w (RowPost w (topG l most) (errG l most)) := by
  cases hok : okR l
  · exact top_bad A n c l most w hR hn hs hnil hok
  · by_cases hm : 0 ≤ most
    · obtain ⟨k, rfl⟩ := Int.eq_ofNat_of_zero_le hm
      exact top_good A n c l k w hR hn hs hnil hok
    · exact top_less A n c l most w hR hn hs hnil hok hm
end Go.Proofs.Ytfegkchajkpgfaa.Gr
