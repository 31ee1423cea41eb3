/- loggiaref30.Top: the walk (printed by gen_grw.py). -/
import Derived.Laws.AppendOwnNone
import Derived.Deep.QuietTactic
import Derived.BigQuiet
import Derived.Test.YtfegkchajkpgfaaGrVPk
import Derived.Test.YtfegkchajkpgfaaGrFPk
namespace Go.Proofs.Ytfegkchajkpgfaa.Gr
open Go.RowKit Go.Proofs.Ytfegkchajkpgfaa Go.Proofs.Ytfegkchajkpgfaa.Ut Go.Proofs.Ytfegkchajkpgfaa.Tk Go.Sort Go.Shelf Go.Lib
set_option maxRecDepth 20000
set_option linter.unusedSimpArgs false
set_option linter.unusedVariables false

theorem add_lit (b o j : Nat) : (⟨b, o, none⟩ : Addr).add j = ⟨b, o + j, none⟩ := by unfold Addr.add; split <;> simp_all
/-- More counts behind a row of the call's own; the others may be nil. -/
theorem wpList_append_cts {w : World} {ops : Array Oper} {rest : List Oper} {o : Oper} {a : Act} {Q : Exit → Act → World → Prop} (hgd : o.guard = none) (s x : Operand) (t : TypeId)
    (ho : o.op = .call { callee := .builtin .append, args := #[s, x], argTypes := #[t, t] })
    (e : TypeId) (i : TypeInfo) (ht : Try.prog.underlying t = some (.slice e)) (hi : Try.prog.info? e = some i) (hz : i.zero = some (.agg #[.string ByteArray.empty, .int .i64 0])) (hsize : i.size = 2) (hby : i.bytes = 24)
    (base : Nat) (v : Value) (l X : List Ct) (hs : a.eval s = v) (hown : w.ownsRow base e 2 v l.length (ctC l)) (A : Option Addr) (m c : Nat) (hx : a.eval x = .slice A m c) (hR : Reads w w.heap.size 2 A m (ctC X)) (hnil : A = none → c = 0)
    (hb1 : l.length + m ≤ 4194304) (hbase : base ≤ w.heap.size)
    (h : ∀ v' w', w'.ownsRow base e 2 v' (l.length + m) (ctC l ++ ctC X) → w.grownBy w' v.ownBlock → wpList Try.prog ops Q rest (a.put o.dst v') w') : wpList Try.prog ops Q (o :: rest) a w := by
  have hXl := cts_len hR
  cases A with
  | none =>
    have hm0 : m = 0 := by
      by_cases h0 : 0 < m
      · obtain ⟨b, o, e, _⟩ := hR.2 h0; cases e
      · omega
    subst hm0
    obtain rfl : c = 0 := hnil rfl
    have hX : X = [] := List.length_eq_zero_iff.1 hXl
    subst hX
    refine wpList_append_own_none hgd s x t ho base e i 2 ht hi v l.length (ctC l) hs hown hx ?_
    exact h v w (by simpa [ctC] using hown) (grow_of_below (Below.refl _ _) _)
  | some ad =>
    refine wpList_append_own w hgd s x t ho base e i _ 2 24 ht hi hz hsize hby rfl (by decide) v l.length (ctC l) hs hown ad m c (ctC X) hx (by rw [ctC_len, hXl]) (fun j u hj => ?_) (ctC_one _) (by unfold maxLen; omega) (by omega) hbase (fun v' w' h1 h2 _ => h v' w' h1 h2)
    have hjl : j < m * 2 := by
      have := (List.getElem?_eq_some_iff.1 hj).1
      rw [ctC_len, hXl] at this
      exact this
    obtain ⟨b, o, e, hb, hc⟩ := hR.2 (by omega)
    injection e with e
    subst e
    rw [add_lit]
    exact hc j u hj
/-- The rest of a row, from a place on. -/
theorem rd_cut {w : World} {B n c p : Nat} {A : Option Addr} {l : List Ct} (h : Reads w B 2 A n (ctC l)) (hp : p ≤ n) (hc : n ≤ c) : Reads w B 2 (if c = p then A else A.map (·.add (p * 2))) (n - p) (ctC (l.drop p)) := by
  have hl := cts_len h
  refine ⟨by rw [ctC_len, List.length_drop]; omega, fun h0 => ?_⟩
  rw [if_neg (by omega)]
  obtain ⟨b, o, rfl, hb, hcl⟩ := h.2 (by omega)
  refine ⟨b, o + p * 2, ?_, hb, fun j u hj => ?_⟩
  · show some ((⟨b, o, none⟩ : Addr).add (p * 2)) = _
    rw [add_lit]
  · rw [ctC_drop, List.getElem?_drop] at hj
    have := hcl _ _ hj
    rwa [← Nat.add_assoc] at this

set_option maxHeartbeats 6400000 in
theorem rtop_good (A : Option Addr) (n c : Nat) (l : List Ct) (most : Nat) (w : World) (hR : Reads w w.heap.size 2 A n (ctC l)) (hn : n ≤ 1048576) (hs : ∀ x ∈ l, x.1.size ≤ 1048576) (hok : okR l = true) :
    Calls Try.prog 25 #[.slice A n c, .int .i64 most] w (RowPost w (topG l most) (errG l most)) := by
  obtain ⟨i0, hi0, hz0, hz1, hz2⟩ := info_parts rcount_info
  have hl := cts_len hR
  have c1 := is_any A n c l w hR hn hs
  rw [hok] at c1
  have hk0 : (0 : Int) ≤ (most : Int) := by omega
  have hyes : okR l = true ∧ (0 : Int) ≤ most := ⟨hok, hk0⟩
  have E1 := Lib.hid (errG_yes hyes)
  have e2 := topG_yes hyes
  rw [show ((most : Int)).toNat = most by omega] at e2
  have E2 := Lib.hid e2
  have HR := Lib.hid hR
  have Hl := Lib.hid hl
  unfold RowPost
  clear hR hs hl hok hyes e2
  go_enter Try.func25, Try.ntmps25
  go_wp2_with fail
  refine c1.mono ?_
  rintro e w1 ⟨rfl, hb1⟩
  have Hb1 := Lib.hid hb1
  clear hb1 c1
  go_wp2
  go_loopw [6, 7] (fun v i wr => ∃ k : Nat, k ≤ n ∧ i = .int .i64 (k : Nat) ∧ Hid (CRow 119 w.heap.size w wr v (topR (l.take k)))) (fun _ i _ => n - (intOf i).toNat)
  case atStart => exact ⟨0, Nat.zero_le _, rfl, Lib.hid (CRow.start _ Hb1.out)⟩
  case round =>
    obtain ⟨k, hk, rfl, hC⟩ := hrel
    have hTl := topR_len (l.take k)
    rw [List.length_take, Nat.min_eq_left (by rw [Hl.out]; exact hk)] at hTl
    obtain ⟨A2, c2, rfl, hR2, hnc, hcm, hn2, hg2⟩ := own_shp hC.out.own
    rw [hTl] at hR2 hnc hn2
    have HB := Lib.hid hC.out.bel
    have HR2 := Lib.hid hR2
    have Hn2 := Lib.hid (fun e => (hn2 e).1)
    rw [hTl]
    unfold maxLen at hcm
    clear hC hR2 hn2 hg2
    by_cases hlt : k < n
    · have hki : (k : Int) < (n : Int) := by omega
      have hkl : k < l.length := by rw [Hl.out]; exact hlt
      have hst := topR_snoc l k hkl
      obtain ⟨tb, tq, rfl, htb, hd1, hd2⟩ := cts_at HR.out hkl
      have g1 := (HB.out.cell (p := ⟨tb, tq + k * 2, none⟩) htb).trans hd1
      have g2 := (HB.out.cell (p := ⟨tb, tq + k * 2 + 1, none⟩) htb).trans hd2
      obtain ⟨wo, hwo⟩ : ∃ wo, wo = wr := ⟨_, rfl⟩
      subst hwo
      generalize topR (l.take k) = T at *
      generalize l[k] = x at *
      obtain ⟨xs, xn⟩ := x
      have hst' : topR (l.take (k + 1)) = T.take (posT T xn k) ++ [(xs, xn)] ++ T.drop (posT T xn k) := by rw [hst]; unfold insT; rw [hTl]
      have Hst := Lib.hid hst'
      have Hd := Lib.hid (And.intro hd1 hd2)
      clear hst hst' hd1 hd2
      go_wp2_with fail
      go_loopw [8] (fun j wx => ∃ m : Nat, m ≤ k ∧ j = .int .i64 (m : Nat) ∧ Hid (Below wo.heap.size wo wx) ∧ Hid (posT T xn k = posT T xn m)) (fun j _ => (intOf j).toNat)
      case atStart => exact ⟨k, Nat.le_refl _, rfl, Lib.hid (Below.refl _ _), Lib.hid rfl⟩
      case round =>
        obtain ⟨m, hm, rfl, hbq, hp⟩ := hrel
        have HBq := Lib.hid (HB.out.trans (hbq.out.mono HB.out.size))
        have HR2q := Lib.hid (rd_grow hbq.out HR2.out)
        have gq1 := (HBq.out.cell (p := ⟨tb, tq + k * 2, none⟩) htb).trans Hd.out.1
        have gq2 := (HBq.out.cell (p := ⟨tb, tq + k * 2 + 1, none⟩) htb).trans Hd.out.2
        have htbq : tb < wr.heap.size := by have := HBq.out.size; omega
        clear g1 g2
        by_cases hm0 : m = 0
        · subst hm0
          have Hp : Hid (posT T xn k = 0) := Lib.hid (hp.out.trans rfl)
          have hg0 : decide ((0 : Int) < ((0 : Nat) : Int)) = false := by decide
          clear hp
          go_wp2
          go_quiet (fail)

          have hbn : Below wr.heap.size wr (wr.drewN nq) := ⟨rfl, rfl, rfl, Nat.le_refl _, fun _ _ => rfl⟩
          have HBz := Lib.hid (HBq.out.trans (hbn.mono HBq.out.size))
          have HR2z := Lib.hid (rd_grow hbn HR2q.out)
          have htb2 : tb < (wr.drewN nq).heap.size := htbq
          have g1 : (wr.drewN nq).cell? ⟨tb, tq + k * 2, none⟩ = some (.string xs) := gq1
          have g2 : (wr.drewN nq).cell? ⟨tb, tq + k * 2 + 1, none⟩ = some (.int .i64 xn) := gq2
          clear hbn gq1 gq2 htbq HBq HR2q
          generalize wr.drewN nq = wz at *
          have R0 := Lib.hid (CRow.empty 119 wz)
          have hbA0 : ∀ o, Below wz.heap.size wz (wz.alloc o) := fun o => (Below.refl _ _).alloc (Nat.le_refl _) o
          have htl : (T.take 0).length = 0 := by rw [List.length_take]; omega
          go_wp2_with (at_builtin; (refine wpList_append_cts rfl _ _ 59 rfl 119 i0 Try.underlying59 hi0 hz0 hz1 hz2 wz.heap.size _ [] (T.take 0) rfl R0.out.own _ _ _ rfl ?r1 ?nl1 ?b11 ?bs1 ?_))
          case r1 => exact ⟨rfl, fun h => absurd h (by decide)⟩
          case nl1 => exact Hn2.out
          case b11 => decide
          case bs1 => rw [World.size_alloc]; omega
          intro v1 w1 ho1 hg1
          have R1 : Hid (CRow 119 wz.heap.size wz w1 v1 (T.take 0)) := Lib.hid (R0.out.app (by rw [World.size_alloc]; omega) htl (by first | exact ho1 | (rw [List.length_nil, Nat.zero_add]; exact ho1)) hg1)
          have hs1 := R1.out.bel.size
          have d1' := (R1.out.bel.cell (p := ⟨tb, tq + k * 2, none⟩) htb2).trans g1
          have d2' := (R1.out.bel.cell (p := ⟨tb, tq + k * 2 + 1, none⟩) htb2).trans g2
          have nw := Lib.hid (fun (W : World) => ct_news (w := W) 119 xs xn)
          clear ho1 hg1 hbA0
          go_wp2_with (at_builtin; (refine wpList_append_cts rfl _ _ 59 rfl 119 i0 Try.underlying59 hi0 hz0 hz1 hz2 wz.heap.size v1 (T.take 0) [(xs, xn)] rfl (R1.out.more hs1 _).own _ _ _ rfl ?r2 ?nl2 ?b12 ?bs2 ?_))
          case r2 => exact ⟨rfl, fun _ => ⟨_, 0, rfl, by rw [World.size_alloc]; omega, fun j u hj => by have h := nw.out w1 j u hj; rw [add_lit] at h; exact h⟩⟩
          case nl2 => intro e; cases e
          case b12 => omega
          case bs2 => rw [World.size_alloc]; omega
          intro v2 w2 ho2 hg2
          have R2 : Hid (CRow 119 wz.heap.size wz w2 v2 (T.take 0 ++ [(xs, xn)])) := Lib.hid ((R1.out.more hs1 _).app (by rw [World.size_alloc]; omega) rfl (by first | exact ho2 | (rw [htl]; exact ho2)) hg2)
          have hs2 := R2.out.bel.size
          have htl2 : (T.take 0 ++ [(xs, xn)]).length = 0 + 1 := by rw [List.length_append, htl]; rfl
          have HR3 := Lib.hid (rd_grow R2.out.bel HR2z.out)
          have hk3 : (0 : Int) ≤ (0 : Int) := by omega
          clear ho2 hg2 d1' d2' nw
          go_wp2_with (at_builtin; (refine wpList_append_cts rfl _ _ 59 rfl 119 i0 Try.underlying59 hi0 hz0 hz1 hz2 wz.heap.size v2 (T.take 0 ++ [(xs, xn)]) (T.drop 0) rfl R2.out.own _ _ _ rfl ?r3 ?nl3 ?b13 ?bs3 ?_))
          case r3 =>
            exact HR3.out
            
          case nl3 => exact Hn2.out
          case b13 => omega
          case bs3 => omega
          intro v3 w3 ho3 hg3
          have R3 : Hid (CRow 119 wz.heap.size wz w3 v3 (T.take 0 ++ [(xs, xn)] ++ T.drop 0)) := Lib.hid (R2.out.app hs2 (by rw [List.length_drop, hTl]) (by first | exact ho3 | (rw [htl2]; exact ho3) | (rw [htl2, show 0 + 1 + (k - 0) = k + 1 by omega]; exact ho3) | (rw [htl2, show k - 0 = 0 by omega]; exact ho3)) hg3)
          clear ho3 hg3 HR3
          go_wp2
          go_roundw
          case rel => exact ⟨k + 1, by omega, by go_num, Lib.hid (by rw [Hst.out, Hp.out]; exact CRow.over HBz.out HBz.out.size R3.out)⟩
          case measure => simp [intOf]; omega
        · obtain ⟨q, rfl⟩ : ∃ q, m = q + 1 := ⟨m - 1, by omega⟩
          have hql : q < T.length := by omega
          obtain ⟨g, o, rfl, hgb, y1, y2⟩ := cts_at HR2q.out hql
          have hpos : posT T xn (q + 1) = if T[q].2 < xn then posT T xn q else q + 1 := by
            rw [posT, List.getElem?_eq_getElem hql, Option.any_some]
            simp only [decide_eq_true_eq]
          have hw1 : IntKind.i64.wrap (((q + 1 : Nat) : Int) - 1) = (q : Int) := by rw [IntWalk.i64_in _ (by omega)]; omega
          have hq0 : (0 : Int) < ((q + 1 : Nat) : Int) := by omega
          have hq1 : ((q + 1 : Nat) : Int) - 1 = (q : Int) := by omega
          have hqk : (q : Int) < (k : Int) := by omega
          generalize T[q].1 = ys at *
          generalize T[q].2 = yn at *
          by_cases hlt2 : yn < xn
          · rw [if_pos hlt2] at hpos
            have Hq : Hid (posT T xn k = posT T xn q) := Lib.hid (hp.out.trans hpos)
            clear hp hpos
            go_wp2
            go_quiet (fail)
            go_wp2
            go_roundw
            case rel => exact ⟨q, by omega, by go_num, Lib.hid (hbq.out.trans ⟨rfl, rfl, rfl, Nat.le_of_eq rfl, fun _ _ => rfl⟩), Hq⟩
            case measure => simp [intOf]
          · rw [if_neg hlt2] at hpos
            have Hp : Hid (posT T xn k = q + 1) := Lib.hid (hp.out.trans hpos)
            have hlt3 : decide (yn < xn) = false := decide_eq_false hlt2
            clear hp hpos
            go_wp2
            go_quiet (fail)
            clear hw1 hq0 hq1 hqk hlt3 y1 y2
            by_cases hcp : c2 = q + 1
            · subst hcp

              have hbn : Below wr.heap.size wr (wr.drewN nq) := ⟨rfl, rfl, rfl, Nat.le_refl _, fun _ _ => rfl⟩
              have HBz := Lib.hid (HBq.out.trans (hbn.mono HBq.out.size))
              have HR2z := Lib.hid (rd_grow hbn HR2q.out)
              have htb2 : tb < (wr.drewN nq).heap.size := htbq
              have g1 : (wr.drewN nq).cell? ⟨tb, tq + k * 2, none⟩ = some (.string xs) := gq1
              have g2 : (wr.drewN nq).cell? ⟨tb, tq + k * 2 + 1, none⟩ = some (.int .i64 xn) := gq2
              clear hbn gq1 gq2 htbq HBq HR2q
              generalize wr.drewN nq = wz at *
              have R0 := Lib.hid (CRow.empty 119 wz)
              have hbA0 : ∀ o, Below wz.heap.size wz (wz.alloc o) := fun o => (Below.refl _ _).alloc (Nat.le_refl _) o
              have htl : (T.take (q + 1)).length = (q + 1) := by rw [List.length_take]; omega
              go_wp2_with (at_builtin; (refine wpList_append_cts rfl _ _ 59 rfl 119 i0 Try.underlying59 hi0 hz0 hz1 hz2 wz.heap.size _ [] (T.take (q + 1)) rfl R0.out.own _ _ _ rfl ?r4 ?nl4 ?b14 ?bs4 ?_))
              case r4 => exact rd_take (rd_grow (hbA0 _) HR2z.out) (by omega)
              case nl4 => intro e; cases e
              case b14 => simp only [List.length_nil]; omega
              case bs4 => rw [World.size_alloc]; omega
              intro v1 w1 ho1 hg1
              have R1 : Hid (CRow 119 wz.heap.size wz w1 v1 (T.take (q + 1))) := Lib.hid (R0.out.app (by rw [World.size_alloc]; omega) htl (by first | exact ho1 | (rw [List.length_nil, Nat.zero_add]; exact ho1)) hg1)
              have hs1 := R1.out.bel.size
              have d1' := (R1.out.bel.cell (p := ⟨tb, tq + k * 2, none⟩) htb2).trans g1
              have d2' := (R1.out.bel.cell (p := ⟨tb, tq + k * 2 + 1, none⟩) htb2).trans g2
              have nw := Lib.hid (fun (W : World) => ct_news (w := W) 119 xs xn)
              clear ho1 hg1 hbA0
              go_wp2_with (at_builtin; (refine wpList_append_cts rfl _ _ 59 rfl 119 i0 Try.underlying59 hi0 hz0 hz1 hz2 wz.heap.size v1 (T.take (q + 1)) [(xs, xn)] rfl (R1.out.more hs1 _).own _ _ _ rfl ?r5 ?nl5 ?b15 ?bs5 ?_))
              case r5 => exact ⟨rfl, fun _ => ⟨_, 0, rfl, by rw [World.size_alloc]; omega, fun j u hj => by have h := nw.out w1 j u hj; rw [add_lit] at h; exact h⟩⟩
              case nl5 => intro e; cases e
              case b15 => omega
              case bs5 => rw [World.size_alloc]; omega
              intro v2 w2 ho2 hg2
              have R2 : Hid (CRow 119 wz.heap.size wz w2 v2 (T.take (q + 1) ++ [(xs, xn)])) := Lib.hid ((R1.out.more hs1 _).app (by rw [World.size_alloc]; omega) rfl (by first | exact ho2 | (rw [htl]; exact ho2)) hg2)
              have hs2 := R2.out.bel.size
              have htl2 : (T.take (q + 1) ++ [(xs, xn)]).length = (q + 1) + 1 := by rw [List.length_append, htl]; rfl
              have HR3 := Lib.hid (rd_grow R2.out.bel HR2z.out)
              have hk3 : (0 : Int) ≤ ((q + 1) : Int) := by omega
              clear ho2 hg2 d1' d2' nw
              go_wp2_with (at_builtin; (refine wpList_append_cts rfl _ _ 59 rfl 119 i0 Try.underlying59 hi0 hz0 hz1 hz2 wz.heap.size v2 (T.take (q + 1) ++ [(xs, xn)]) (T.drop (q + 1)) rfl R2.out.own _ _ _ rfl ?r6 ?nl6 ?b16 ?bs6 ?_))
              case r6 =>
                exact ⟨by rw [ctC_len, List.length_drop]; omega, fun h => absurd h (by omega)⟩
                

              case b16 => omega
              case bs6 => omega
              intro v3 w3 ho3 hg3
              have R3 : Hid (CRow 119 wz.heap.size wz w3 v3 (T.take (q + 1) ++ [(xs, xn)] ++ T.drop (q + 1))) := Lib.hid (R2.out.app hs2 (by rw [List.length_drop, hTl]) (by first | exact ho3 | (rw [htl2]; exact ho3) | (rw [htl2, show (q + 1) + 1 + (k - (q + 1)) = k + 1 by omega]; exact ho3) | (rw [htl2, show k - (q + 1) = 0 by omega]; exact ho3)) hg3)
              clear ho3 hg3 HR3
              go_wp2
              go_roundw
              case rel => exact ⟨k + 1, by omega, by go_num, Lib.hid (by rw [Hst.out, Hp.out]; exact CRow.over HBz.out HBz.out.size R3.out)⟩
              case measure => simp [intOf]; omega
            · skip

              have hbn : Below wr.heap.size wr (wr.drewN nq) := ⟨rfl, rfl, rfl, Nat.le_refl _, fun _ _ => rfl⟩
              have HBz := Lib.hid (HBq.out.trans (hbn.mono HBq.out.size))
              have HR2z := Lib.hid (rd_grow hbn HR2q.out)
              have htb2 : tb < (wr.drewN nq).heap.size := htbq
              have g1 : (wr.drewN nq).cell? ⟨tb, tq + k * 2, none⟩ = some (.string xs) := gq1
              have g2 : (wr.drewN nq).cell? ⟨tb, tq + k * 2 + 1, none⟩ = some (.int .i64 xn) := gq2
              clear hbn gq1 gq2 htbq HBq HR2q
              generalize wr.drewN nq = wz at *
              have R0 := Lib.hid (CRow.empty 119 wz)
              have hbA0 : ∀ o, Below wz.heap.size wz (wz.alloc o) := fun o => (Below.refl _ _).alloc (Nat.le_refl _) o
              have htl : (T.take (q + 1)).length = (q + 1) := by rw [List.length_take]; omega
              go_wp2_with (at_builtin; (refine wpList_append_cts rfl _ _ 59 rfl 119 i0 Try.underlying59 hi0 hz0 hz1 hz2 wz.heap.size _ [] (T.take (q + 1)) rfl R0.out.own _ _ _ rfl ?r7 ?nl7 ?b17 ?bs7 ?_))
              case r7 => exact rd_take (rd_grow (hbA0 _) HR2z.out) (by omega)
              case nl7 => intro e; cases e
              case b17 => simp only [List.length_nil]; omega
              case bs7 => rw [World.size_alloc]; omega
              intro v1 w1 ho1 hg1
              have R1 : Hid (CRow 119 wz.heap.size wz w1 v1 (T.take (q + 1))) := Lib.hid (R0.out.app (by rw [World.size_alloc]; omega) htl (by first | exact ho1 | (rw [List.length_nil, Nat.zero_add]; exact ho1)) hg1)
              have hs1 := R1.out.bel.size
              have d1' := (R1.out.bel.cell (p := ⟨tb, tq + k * 2, none⟩) htb2).trans g1
              have d2' := (R1.out.bel.cell (p := ⟨tb, tq + k * 2 + 1, none⟩) htb2).trans g2
              have nw := Lib.hid (fun (W : World) => ct_news (w := W) 119 xs xn)
              clear ho1 hg1 hbA0
              go_wp2_with (at_builtin; (refine wpList_append_cts rfl _ _ 59 rfl 119 i0 Try.underlying59 hi0 hz0 hz1 hz2 wz.heap.size v1 (T.take (q + 1)) [(xs, xn)] rfl (R1.out.more hs1 _).own _ _ _ rfl ?r8 ?nl8 ?b18 ?bs8 ?_))
              case r8 => exact ⟨rfl, fun _ => ⟨_, 0, rfl, by rw [World.size_alloc]; omega, fun j u hj => by have h := nw.out w1 j u hj; rw [add_lit] at h; exact h⟩⟩
              case nl8 => intro e; cases e
              case b18 => omega
              case bs8 => rw [World.size_alloc]; omega
              intro v2 w2 ho2 hg2
              have R2 : Hid (CRow 119 wz.heap.size wz w2 v2 (T.take (q + 1) ++ [(xs, xn)])) := Lib.hid ((R1.out.more hs1 _).app (by rw [World.size_alloc]; omega) rfl (by first | exact ho2 | (rw [htl]; exact ho2)) hg2)
              have hs2 := R2.out.bel.size
              have htl2 : (T.take (q + 1) ++ [(xs, xn)]).length = (q + 1) + 1 := by rw [List.length_append, htl]; rfl
              have HR3 := Lib.hid (rd_grow R2.out.bel HR2z.out)
              have hk3 : (0 : Int) ≤ ((q + 1) : Int) := by omega
              clear ho2 hg2 d1' d2' nw
              go_wp2_with (at_builtin; (refine wpList_append_cts rfl _ _ 59 rfl 119 i0 Try.underlying59 hi0 hz0 hz1 hz2 wz.heap.size v2 (T.take (q + 1) ++ [(xs, xn)]) (T.drop (q + 1)) rfl R2.out.own _ _ _ rfl ?r9 ?nl9 ?b19 ?bs9 ?_))
              case r9 =>
                have hcut := rd_cut (p := (q + 1)) HR3.out (by omega) hnc
                rw [if_neg (by omega)] at hcut; first | exact hcut | simpa [add_lit] using hcut
              case nl9 => intro e; first | (cases e; done) | (simp at e; done) | omega
              case b19 => omega
              case bs9 => omega
              intro v3 w3 ho3 hg3
              have R3 : Hid (CRow 119 wz.heap.size wz w3 v3 (T.take (q + 1) ++ [(xs, xn)] ++ T.drop (q + 1))) := Lib.hid (R2.out.app hs2 (by rw [List.length_drop, hTl]) (by first | exact ho3 | (rw [htl2]; exact ho3) | (rw [htl2, show (q + 1) + 1 + (k - (q + 1)) = k + 1 by omega]; exact ho3) | (rw [htl2, show k - (q + 1) = 0 by omega]; exact ho3)) hg3)
              clear ho3 hg3 HR3
              go_wp2
              go_roundw
              case rel => exact ⟨k + 1, by omega, by go_num, Lib.hid (by rw [Hst.out, Hp.out]; exact CRow.over HBz.out HBz.out.size R3.out)⟩
              case measure => simp [intOf]; omega
    · obtain rfl : k = n := by omega
      have hall : l.take k = l := List.take_of_length_le (by rw [Hl.out]; exact Nat.le_refl _)
      rw [hall] at HR2 hTl
      have hmt : (min (k : Int) (most : Int)).toNat = min most k := by omega
      generalize topR l = T at *
      go_wp2
      go_ret2
      refine ⟨A2, c2, ?_, ?_, HB.out⟩
      · rw [E1.out, E2.out, List.length_take, hTl, ← hmt]
        rfl
      · rw [E2.out, List.length_take, hTl]
        by_cases hmin : most < k
        · rw [Nat.min_eq_left (by omega)]
          exact rd_take HR2.out (by omega)
        · rw [Nat.min_eq_right (by omega), List.take_of_length_le (by omega)]
          exact HR2.out

set_option maxHeartbeats 1600000 in
theorem rtop_bad (A : Option Addr) (n c : Nat) (l : List Ct) (most : Int) (w : World) (hR : Reads w w.heap.size 2 A n (ctC l)) (hn : n ≤ 1048576) (hs : ∀ x ∈ l, x.1.size ≤ 1048576) (hok : okR l = false) :
    Calls Try.prog 25 #[.slice A n c, .int .i64 most] w (RowPost w (topG l most) (errG l most)) := by
  have c1 := is_any A n c l w hR hn hs
  rw [hok] at c1
  have hno : ¬ (okR l = true ∧ 0 ≤ most) := fun h => by rw [hok] at h; exact absurd h.1 (by decide)
  have E1 := Lib.hid (errG_no hno)
  have E2 := Lib.hid (topG_no hno)
  unfold RowPost
  clear hR hs hok hno
  go_enter Try.func25, Try.ntmps25
  go_wp2_with fail
  refine c1.mono ?_
  rintro e w1 ⟨rfl, hb1⟩
  have Hb1 := Lib.hid hb1
  clear hb1 c1
  go_wp2
  go_ret2
  exact ⟨none, 0, by rw [E1.out, E2.out]; rfl, by rw [E2.out]; exact ⟨rfl, fun h => absurd h (by decide)⟩, Hb1.out⟩
set_option maxHeartbeats 1600000 in
theorem rtop_less (A : Option Addr) (n c : Nat) (l : List Ct) (most : Int) (w : World) (hR : Reads w w.heap.size 2 A n (ctC l)) (hn : n ≤ 1048576) (hs : ∀ x ∈ l, x.1.size ≤ 1048576) (hok : okR l = true) (hm : ¬ 0 ≤ most) :
    Calls Try.prog 25 #[.slice A n c, .int .i64 most] w (RowPost w (topG l most) (errG l most)) := by
  have c1 := is_any A n c l w hR hn hs
  rw [hok] at c1
  have hno : ¬ (okR l = true ∧ 0 ≤ most) := fun h => hm h.2
  have E1 := Lib.hid (errG_no hno)
  have E2 := Lib.hid (topG_no hno)
  have hlt : most < 0 := by omega
  unfold RowPost
  clear hR hs hok hno hm
  go_enter Try.func25, Try.ntmps25
  go_wp2_with fail
  refine c1.mono ?_
  rintro e w1 ⟨rfl, hb1⟩
  have Hb1 := Lib.hid hb1
  clear hb1 c1
  go_wp2
  go_ret2
  exact ⟨none, 0, by rw [E1.out, E2.out]; rfl, by rw [E2.out]; exact ⟨rfl, fun h => absurd h (by decide)⟩, Hb1.out⟩
theorem rtop_any (A : Option Addr) (n c : Nat) (l : List Ct) (most : Int) (w : World) (hR : Reads w w.heap.size 2 A n (ctC l)) (hn : n ≤ 1048576) (hs : ∀ x ∈ l, x.1.size ≤ 1048576) :
    Calls Try.prog 25 #[.slice A n c, .int .i64 most] w (RowPost w (topG l most) (errG l most)) := by
  cases hok : okR l
  · exact rtop_bad A n c l most w hR hn hs hok
  · by_cases hm : 0 ≤ most
    · obtain ⟨k, rfl⟩ := Int.eq_ofNat_of_zero_le hm
      exact rtop_good A n c l k w hR hn hs hok
    · exact rtop_less A n c l most w hR hn hs hok hm
end Go.Proofs.Ytfegkchajkpgfaa.Gr
