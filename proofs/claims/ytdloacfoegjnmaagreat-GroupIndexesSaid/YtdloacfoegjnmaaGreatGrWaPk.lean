/- loggiaref30.With: the walk (printed by gen_grwa.py). -/
import Derived.Test.YtdloacfoegjnmaaGreatPkGroupIndexesRow30
import Derived.Test.YtdloacfoegjnmaaGreatPkGroupIndexesRow31
import Derived.Test.YtdloacfoegjnmaaGreatPkGroupIndexesRow26
namespace Go.Proofs.YtdloacfoegjnmaaGreat.Gr
open Go.RowKit Go.Proofs.YtdloacfoegjnmaaGreat Go.Proofs.YtdloacfoegjnmaaGreat.Ut Go.Proofs.YtdloacfoegjnmaaGreat.Tk Go.Sort Go.Shelf Go.Lib
set_option maxRecDepth 20000
set_option linter.unusedSimpArgs false
set_option linter.unusedVariables false

theorem withR_end {l : List Ct} {s : ByteArray} (n : Int) (h : ¬ posW l s < l.length) : withR l s n = (l.take (posW l s) ++ [(s, n)] ++ l.drop (posW l s), true) := by
  rw [take_pos, drop_pos]
  have ht : tail' l s = [] := by rw [← drop_pos, List.drop_eq_nil_of_le (by omega)]
  unfold withR
  rw [ht, List.append_nil]
theorem withR_mid {l : List Ct} {s : ByteArray} (n : Int) (h : posW l s < l.length) (hne : ¬ l[posW l s].1 = s) : withR l s n = (l.take (posW l s) ++ [(s, n)] ++ l.drop (posW l s), true) := by
  have hd := List.drop_eq_getElem_cons h
  rw [drop_pos] at hd
  unfold withR
  rw [take_pos, drop_pos, hd]
  simp only [if_neg hne]
theorem withR_many {l : List Ct} {s : ByteArray} {n : Int} (h : posW l s < l.length) (he : l[posW l s].1 = s) (hb : 1099511627776 - n < l[posW l s].2) : withR l s n = ([], false) := by
  have hd := List.drop_eq_getElem_cons h
  rw [drop_pos] at hd
  unfold withR
  rw [hd]
  simp only [if_pos he, if_pos hb]
theorem withR_fit {l : List Ct} {s : ByteArray} {n : Int} (h : posW l s < l.length) (he : l[posW l s].1 = s) (hb : ¬ 1099511627776 - n < l[posW l s].2) : withR l s n = (l.take (posW l s) ++ [(s, l[posW l s].2 + n)] ++ l.drop (posW l s + 1), true) := by
  have hd := List.drop_eq_getElem_cons h
  rw [drop_pos] at hd
  unfold withR
  rw [take_pos, hd]
  simp only [if_pos he, if_neg hb]
def WithPost (w : World) (l : List Ct) (s : ByteArray) (n : Int) (e : Ending) (w' : World) : Prop := ∃ v, e = .returned (.tuple #[v, .bool (withR l s n).2]) ∧ CRow 87 w.heap.size w w' v (withR l s n).1

set_option maxHeartbeats 6400000 in
theorem with_any (A : Option Addr) (n c : Nat) (l : List Ct) (s : ByteArray) (x : Int) (w : World) (hR : Reads w w.heap.size 2 A n (ctC l)) (hn : n ≤ 1048576) (hnc : n ≤ c) (hnil : A = none → c = 0) (hs : ∀ y ∈ l, y.1.size ≤ 140737488351232 ∧ 0 ≤ y.2) (hss : s.size ≤ 140737488351232) (hx : 0 ≤ x ∧ x ≤ 1099511627776) :
    Calls Tryz.prog 33 #[.slice A n c, .string s, .int .i64 x] w (WithPost w l s x) := by
  obtain ⟨i0, hi0, hz0, hz1, hz2⟩ := info_parts rcount_info
  have hl := cts_len hR
  subst hl
  have hpl := posW_le l s
  have HR := Lib.hid hR
  have Hs := Lib.hid hs
  have Hnil := Lib.hid hnil
  have Hlt := Lib.hid (fun i (h : i < posW l s) (h2 : i < l.length) => posW_lt h h2)
  have Hat := Lib.hid (fun (h : posW l s < l.length) => posW_at h)
  have Fe := Lib.hid (fun h => withR_end (l := l) (s := s) x h)
  have Fm := Lib.hid (fun h hne => withR_mid (l := l) (s := s) x h hne)
  have Fb := Lib.hid (fun h he hb => withR_many (l := l) (s := s) (n := x) h he hb)
  have Ff := Lib.hid (fun h he hb => withR_fit (l := l) (s := s) (n := x) h he hb)
  have hw0 : IntKind.i64.wrap (1099511627776 - x) = 1099511627776 - x := IntWalk.i64_in _ (by omega)
  unfold WithPost
  clear hR hs hnil
  generalize posW l s = p at *
  go_enter Tryz.func33, Tryz.ntmps33
  go_wp2_with fail
  go_loopw [8] (fun i wr => ∃ j : Nat, j ≤ p ∧ i = .int .i64 (j : Nat) ∧ Hid (Below w.heap.size w wr)) (fun i _ => l.length - (intOf i).toNat)
  case atStart => exact ⟨0, Nat.zero_le _, rfl, Lib.hid (Below.refl _ _)⟩
  case round =>
    obtain ⟨j, hj, rfl, hbq⟩ := hrel
    by_cases hlt : j < p
    · have hjl : j < l.length := by omega
      have hji : (j : Int) < (l.length : Int) := by omega
      have hle := Hlt.out j hlt hjl
      obtain ⟨tb, tq, rfl, htb, hd1, _⟩ := cts_at HR.out hjl
      have g1 := (hbq.out.cell (p := ⟨tb, tq + j * 2, none⟩) htb).trans hd1
      have cl := fun wx => less_any l[j].1 s wx (Hs.out _ (List.getElem_mem hjl)).1 hss
      rw [hle] at cl
      generalize l[j].1 = y at *
      clear hle hd1
      go_wp2_with fail
      refine (cl _).mono ?_
      rintro e w2 ⟨rfl, hb2⟩
      have Hb2 := Lib.hid (hbq.out.trans (hb2.mono hbq.out.size))
      clear cl hb2 hbq g1
      go_wp2
      go_roundw
      case rel => exact ⟨j + 1, by omega, by go_num, Hb2⟩
      case measure => simp [intOf]; omega
    · obtain rfl : j = p := by omega
      by_cases hpn : j < l.length
      · have hji : (j : Int) < (l.length : Int) := by omega
        have hle := Hat.out hpn
        obtain ⟨tb, tq, rfl, htb, hd1, hd2⟩ := cts_at HR.out hpn
        have g1 := (hbq.out.cell (p := ⟨tb, tq + j * 2, none⟩) htb).trans hd1
        have cl := fun wx => less_any l[j].1 s wx (Hs.out _ (List.getElem_mem hpn)).1 hss
        rw [hle] at cl
        have hy0 := (Hs.out _ (List.getElem_mem hpn)).2
        have Fm2 := Lib.hid (Fm.out hpn)
        have Fb2 := Lib.hid (Fb.out hpn)
        have Ff2 := Lib.hid (Ff.out hpn)
        have Hd := Lib.hid (And.intro hd1 hd2)
        clear Fm Fb Ff hd1 hd2
        generalize l[j].1 = y at *
        generalize l[j].2 = yn at *
        clear hle
        go_wp2_with fail
        refine (cl _).mono ?_
        rintro e w2 ⟨rfl, hb2⟩
        have HBz := Lib.hid (hbq.out.trans (hb2.mono hbq.out.size))
        have HRz := Lib.hid (rd_grow HBz.out HR.out)
        clear cl hb2 hbq g1
        obtain ⟨wz, hwz⟩ : ∃ wz, wz = w2 := ⟨_, rfl⟩
        subst hwz
        have hcp : ¬ c = j := by omega
        have R0 := Lib.hid (CRow.empty 87 wz)
        have hbA0 : ∀ o, Below wz.heap.size wz (wz.alloc o) := fun o => (Below.refl _ _).alloc (Nat.le_refl _) o
        obtain ⟨lt, hlt0⟩ : ∃ lt, lt = l.take j := ⟨_, rfl⟩
        have HLT := Lib.hid hlt0
        have htl : lt.length = j := by rw [hlt0, List.length_take]; omega
        clear hlt0
        go_wp2_with (at_builtin; (refine wpList_append_cts rfl _ _ 41 rfl 87 i0 Tryz.underlying41 hi0 hz0 hz1 hz2 wz.heap.size _ [] lt rfl R0.out.own _ _ _ rfl ?r1 ?nl1 ?b11 ?bs1 ?_))
        any_goals (try (rw [HLT.out]; first
          | exact rd_take (rd_grow (hbA0 _) HRz.out) (by omega)
          | (have hq := rd_grow (hbA0 (.cells #[] 87)) HRz.out
             rw [World.size_alloc] at hq
             exact rd_take hq (by omega))))
        any_goals (try (intro e; first | exact Hnil.out e | (have := Hnil.out e; omega) | (cases e; done)))
        any_goals (try (first | omega | (simp only [List.length_nil]; omega) | (rw [World.size_alloc]; omega)))
        intro v1 w1 ho1 hg1
        have R1 : Hid (CRow 87 wz.heap.size wz w1 v1 lt) := Lib.hid (R0.out.app (by first | omega | (rw [World.size_alloc]; omega)) htl (by first | exact ho1 | (rw [List.length_nil, Nat.zero_add]; exact ho1)) hg1)
        have hs1 := R1.out.bel.size
        clear ho1 hg1 hbA0
        have g1 := ((R1.out.bel.cell (p := ⟨tb, tq + j * 2, none⟩) (by show tb < _; have := HBz.out.size; omega)).trans (HBz.out.cell (p := ⟨tb, tq + j * 2, none⟩) htb)).trans Hd.out.1
        have g2 := ((R1.out.bel.cell (p := ⟨tb, tq + j * 2 + 1, none⟩) (by show tb < _; have := HBz.out.size; omega)).trans (HBz.out.cell (p := ⟨tb, tq + j * 2 + 1, none⟩) htb)).trans Hd.out.2
        have hbq := list_beq y s
        by_cases hys : y = s
        · rw [decide_eq_true hys] at hbq
          by_cases hbig : 1099511627776 - x < yn
          · have F := Lib.hid (Fb2.out hys (by first | exact hbig | omega))
            clear hys
            go_wp2
            go_ret2
            exact ⟨.slice none 0 0, by rw [F.out]; rfl, by rw [F.out]; exact CRow.start _ (HBz.out.trans (R1.out.bel.mono HBz.out.size))⟩
          · have F := Lib.hid (Ff2.out hys (by first | exact hbig | omega))
            have hw1 : IntKind.i64.wrap (yn + x) = yn + x := IntWalk.i64_in _ (by omega)
            have hw3 : IntKind.i64.wrap ((j : Int) + 1) = (j : Int) + 1 := IntWalk.i64_in _ (by omega)
            have htn : ((j : Int) + 1).toNat = j + 1 := by omega
            have hb3 : (0 : Int) ≤ (j : Int) + 1 := by omega
            have hb4 : (j : Int) + 1 ≤ (l.length : Int) := by omega
            clear hys
            by_cases hcq : c = j + 1
            · have hjl : l.length = j + 1 := by omega
              have nw := Lib.hid (fun (W : World) => ct_news (w := W) 87 s (yn + x))
              go_wp2_with (at_builtin; (refine wpList_append_cts rfl _ _ 41 rfl 87 i0 Tryz.underlying41 hi0 hz0 hz1 hz2 wz.heap.size v1 lt [(s, yn + x)] rfl (R1.out.more hs1 _).own _ _ _ rfl ?r2 ?nl2 ?b12 ?bs2 ?_))
              case r2 => exact ⟨rfl, fun _ => ⟨_, 0, rfl, by first | omega | (rw [World.size_alloc]; omega), fun j u hj => by have h := nw.out w1 j u hj; rw [add_lit] at h; exact h⟩⟩
              any_goals (try (intro e; cases e; done))
              case b12 => omega
              case bs2 => first | omega | (rw [World.size_alloc]; omega)
              intro v2 w2 ho2 hg2
              have R2 : Hid (CRow 87 wz.heap.size wz w2 v2 (lt ++ [(s, yn + x)])) := Lib.hid ((R1.out.more hs1 _).app (by first | omega | (rw [World.size_alloc]; omega)) rfl (by first | exact ho2 | (rw [htl]; exact ho2)) hg2)
              have hs2 := R2.out.bel.size
              have htl2 : (lt ++ [(s, yn + x)]).length = j + 1 := by rw [List.length_append, htl]; rfl
              have HR3 := Lib.hid (rd_grow R2.out.bel HRz.out)
              obtain ⟨ld, hld0⟩ : ∃ ld, ld = l.drop (j + 1) := ⟨_, rfl⟩
              have HLD := Lib.hid hld0
              have hldl : ld.length = l.length - (j + 1) := by rw [hld0, List.length_drop]
              clear ho2 hg2 nw hld0
              go_wp2_with (at_builtin; (refine wpList_append_cts rfl _ _ 41 rfl 87 i0 Tryz.underlying41 hi0 hz0 hz1 hz2 wz.heap.size v2 (lt ++ [(s, yn + x)]) ld rfl R2.out.own _ _ _ rfl ?r3 ?nl3 ?b13 ?bs3 ?_))
              any_goals (try (first
                | exact ⟨(ctC_len ld).trans (by omega), fun h => absurd h (by omega)⟩
                | (have hcut := rd_cut (p := j + 1) HR3.out (by omega) hnc
                   rw [if_neg (by omega), ← HLD.out] at hcut
                   first | exact hcut | (simp [add_lit]; done) | (simpa [add_lit] using hcut))))
              any_goals (try (intro e; first | (cases e; done) | (have := Hnil.out e; omega) | (simp at e; done) | (simp at e; have := Hnil.out e; omega)))
              any_goals (try omega)
              intro v3 w3 ho3 hg3
              have R3 : Hid (CRow 87 wz.heap.size wz w3 v3 (lt ++ [(s, yn + x)] ++ ld)) := Lib.hid (R2.out.app hs2 hldl (by first | exact ho3 | (rw [htl2]; exact ho3) | (rw [htl2, show j + 1 + (l.length - (j + 1)) = l.length by omega]; exact ho3) | (rw [htl2, show l.length - (j + 1) = 0 by omega]; exact ho3)) hg3)
              clear ho3 hg3 HR3
              go_wp2
              go_ret2
              exact ⟨v3, by rw [F.out]; rfl, by rw [F.out]; rw [HLT.out, HLD.out] at R3; exact CRow.over HBz.out HBz.out.size R3.out⟩
            · skip
              have nw := Lib.hid (fun (W : World) => ct_news (w := W) 87 s (yn + x))
              go_wp2_with (at_builtin; (refine wpList_append_cts rfl _ _ 41 rfl 87 i0 Tryz.underlying41 hi0 hz0 hz1 hz2 wz.heap.size v1 lt [(s, yn + x)] rfl (R1.out.more hs1 _).own _ _ _ rfl ?r4 ?nl4 ?b14 ?bs4 ?_))
              case r4 => exact ⟨rfl, fun _ => ⟨_, 0, rfl, by first | omega | (rw [World.size_alloc]; omega), fun j u hj => by have h := nw.out w1 j u hj; rw [add_lit] at h; exact h⟩⟩
              any_goals (try (intro e; cases e; done))
              case b14 => omega
              case bs4 => first | omega | (rw [World.size_alloc]; omega)
              intro v2 w2 ho2 hg2
              have R2 : Hid (CRow 87 wz.heap.size wz w2 v2 (lt ++ [(s, yn + x)])) := Lib.hid ((R1.out.more hs1 _).app (by first | omega | (rw [World.size_alloc]; omega)) rfl (by first | exact ho2 | (rw [htl]; exact ho2)) hg2)
              have hs2 := R2.out.bel.size
              have htl2 : (lt ++ [(s, yn + x)]).length = j + 1 := by rw [List.length_append, htl]; rfl
              have HR3 := Lib.hid (rd_grow R2.out.bel HRz.out)
              obtain ⟨ld, hld0⟩ : ∃ ld, ld = l.drop (j + 1) := ⟨_, rfl⟩
              have HLD := Lib.hid hld0
              have hldl : ld.length = l.length - (j + 1) := by rw [hld0, List.length_drop]
              clear ho2 hg2 nw hld0
              go_wp2_with (at_builtin; (refine wpList_append_cts rfl _ _ 41 rfl 87 i0 Tryz.underlying41 hi0 hz0 hz1 hz2 wz.heap.size v2 (lt ++ [(s, yn + x)]) ld rfl R2.out.own _ _ _ rfl ?r5 ?nl5 ?b15 ?bs5 ?_))
              any_goals (try (first
                | exact ⟨(ctC_len ld).trans (by omega), fun h => absurd h (by omega)⟩
                | (have hcut := rd_cut (p := j + 1) HR3.out (by omega) hnc
                   rw [if_neg (by omega), ← HLD.out] at hcut
                   first | exact hcut | (simp [add_lit]; done) | (simpa [add_lit] using hcut))))
              any_goals (try (intro e; first | (cases e; done) | (have := Hnil.out e; omega) | (simp at e; done) | (simp at e; have := Hnil.out e; omega)))
              any_goals (try omega)
              intro v3 w3 ho3 hg3
              have R3 : Hid (CRow 87 wz.heap.size wz w3 v3 (lt ++ [(s, yn + x)] ++ ld)) := Lib.hid (R2.out.app hs2 hldl (by first | exact ho3 | (rw [htl2]; exact ho3) | (rw [htl2, show j + 1 + (l.length - (j + 1)) = l.length by omega]; exact ho3) | (rw [htl2, show l.length - (j + 1) = 0 by omega]; exact ho3)) hg3)
              clear ho3 hg3 HR3
              go_wp2
              go_ret2
              exact ⟨v3, by rw [F.out]; rfl, by rw [F.out]; rw [HLT.out, HLD.out] at R3; exact CRow.over HBz.out HBz.out.size R3.out⟩
        · rw [decide_eq_false hys] at hbq
          have F := Lib.hid (Fm2.out hys)
          have hb3 : (0 : Int) ≤ (j : Int) := by omega
          have hb4 : (j : Int) ≤ (l.length : Int) := by omega
          clear hys
          have nw := Lib.hid (fun (W : World) => ct_news (w := W) 87 s (x))
          go_wp2_with (at_builtin; (refine wpList_append_cts rfl _ _ 41 rfl 87 i0 Tryz.underlying41 hi0 hz0 hz1 hz2 wz.heap.size v1 lt [(s, x)] rfl (R1.out.more hs1 _).own _ _ _ rfl ?r6 ?nl6 ?b16 ?bs6 ?_))
          case r6 => exact ⟨rfl, fun _ => ⟨_, 0, rfl, by first | omega | (rw [World.size_alloc]; omega), fun j u hj => by have h := nw.out w1 j u hj; rw [add_lit] at h; exact h⟩⟩
          any_goals (try (intro e; cases e; done))
          case b16 => omega
          case bs6 => first | omega | (rw [World.size_alloc]; omega)
          intro v2 w2 ho2 hg2
          have R2 : Hid (CRow 87 wz.heap.size wz w2 v2 (lt ++ [(s, x)])) := Lib.hid ((R1.out.more hs1 _).app (by first | omega | (rw [World.size_alloc]; omega)) rfl (by first | exact ho2 | (rw [htl]; exact ho2)) hg2)
          have hs2 := R2.out.bel.size
          have htl2 : (lt ++ [(s, x)]).length = j + 1 := by rw [List.length_append, htl]; rfl
          have HR3 := Lib.hid (rd_grow R2.out.bel HRz.out)
          obtain ⟨ld, hld0⟩ : ∃ ld, ld = l.drop (j) := ⟨_, rfl⟩
          have HLD := Lib.hid hld0
          have hldl : ld.length = l.length - (j) := by rw [hld0, List.length_drop]
          clear ho2 hg2 nw hld0
          go_wp2_with (at_builtin; (refine wpList_append_cts rfl _ _ 41 rfl 87 i0 Tryz.underlying41 hi0 hz0 hz1 hz2 wz.heap.size v2 (lt ++ [(s, x)]) ld rfl R2.out.own _ _ _ rfl ?r7 ?nl7 ?b17 ?bs7 ?_))
          any_goals (try (first
            | exact ⟨(ctC_len ld).trans (by omega), fun h => absurd h (by omega)⟩
            | (have hcut := rd_cut (p := j) HR3.out (by omega) hnc
               rw [if_neg (by omega), ← HLD.out] at hcut
               first | exact hcut | (simp [add_lit]; done) | (simpa [add_lit] using hcut))))
          any_goals (try (intro e; first | (cases e; done) | (have := Hnil.out e; omega) | (simp at e; done) | (simp at e; have := Hnil.out e; omega)))
          any_goals (try omega)
          intro v3 w3 ho3 hg3
          have R3 : Hid (CRow 87 wz.heap.size wz w3 v3 (lt ++ [(s, x)] ++ ld)) := Lib.hid (R2.out.app hs2 hldl (by first | exact ho3 | (rw [htl2]; exact ho3) | (rw [htl2, show j + 1 + (l.length - (j)) = l.length + 1 by omega]; exact ho3) | (rw [htl2, show l.length - (j) = 0 by omega]; exact ho3)) hg3)
          clear ho3 hg3 HR3
          go_wp2
          go_ret2
          exact ⟨v3, by rw [F.out]; rfl, by rw [F.out]; rw [HLT.out, HLD.out] at R3; exact CRow.over HBz.out HBz.out.size R3.out⟩
      · have hji : ¬ (j : Int) < (l.length : Int) := by omega
        have F := Lib.hid (Fe.out hpn)
        have hb3 : (0 : Int) ≤ (j : Int) := by omega
        have hb4 : (j : Int) ≤ (l.length : Int) := by omega
        have HBz := Lib.hid hbq.out
        have HRz := Lib.hid (rd_grow hbq.out HR.out)
        obtain ⟨wz, hwz⟩ : ∃ wz, wz = wr := ⟨_, rfl⟩
        subst hwz
        clear hbq
        by_cases hcp : c = j
        · skip
          have R0 := Lib.hid (CRow.empty 87 wz)
          have hbA0 : ∀ o, Below wz.heap.size wz (wz.alloc o) := fun o => (Below.refl _ _).alloc (Nat.le_refl _) o
          obtain ⟨lt, hlt0⟩ : ∃ lt, lt = l.take j := ⟨_, rfl⟩
          have HLT := Lib.hid hlt0
          have htl : lt.length = j := by rw [hlt0, List.length_take]; omega
          clear hlt0
          go_wp2_with (at_builtin; (refine wpList_append_cts rfl _ _ 41 rfl 87 i0 Tryz.underlying41 hi0 hz0 hz1 hz2 wz.heap.size _ [] lt rfl R0.out.own _ _ _ rfl ?r8 ?nl8 ?b18 ?bs8 ?_))
          any_goals (try (rw [HLT.out]; first
            | exact rd_take (rd_grow (hbA0 _) HRz.out) (by omega)
            | (have hq := rd_grow (hbA0 (.cells #[] 87)) HRz.out
               rw [World.size_alloc] at hq
               exact rd_take hq (by omega))))
          any_goals (try (intro e; first | exact Hnil.out e | (have := Hnil.out e; omega) | (cases e; done)))
          any_goals (try (first | omega | (simp only [List.length_nil]; omega) | (rw [World.size_alloc]; omega)))
          intro v1 w1 ho1 hg1
          have R1 : Hid (CRow 87 wz.heap.size wz w1 v1 lt) := Lib.hid (R0.out.app (by first | omega | (rw [World.size_alloc]; omega)) htl (by first | exact ho1 | (rw [List.length_nil, Nat.zero_add]; exact ho1)) hg1)
          have hs1 := R1.out.bel.size
          clear ho1 hg1 hbA0
          have nw := Lib.hid (fun (W : World) => ct_news (w := W) 87 s (x))
          go_wp2_with (at_builtin; (refine wpList_append_cts rfl _ _ 41 rfl 87 i0 Tryz.underlying41 hi0 hz0 hz1 hz2 wz.heap.size v1 lt [(s, x)] rfl (R1.out.more hs1 _).own _ _ _ rfl ?r9 ?nl9 ?b19 ?bs9 ?_))
          case r9 => exact ⟨rfl, fun _ => ⟨_, 0, rfl, by first | omega | (rw [World.size_alloc]; omega), fun j u hj => by have h := nw.out w1 j u hj; rw [add_lit] at h; exact h⟩⟩
          any_goals (try (intro e; cases e; done))
          case b19 => omega
          case bs9 => first | omega | (rw [World.size_alloc]; omega)
          intro v2 w2 ho2 hg2
          have R2 : Hid (CRow 87 wz.heap.size wz w2 v2 (lt ++ [(s, x)])) := Lib.hid ((R1.out.more hs1 _).app (by first | omega | (rw [World.size_alloc]; omega)) rfl (by first | exact ho2 | (rw [htl]; exact ho2)) hg2)
          have hs2 := R2.out.bel.size
          have htl2 : (lt ++ [(s, x)]).length = j + 1 := by rw [List.length_append, htl]; rfl
          have HR3 := Lib.hid (rd_grow R2.out.bel HRz.out)
          obtain ⟨ld, hld0⟩ : ∃ ld, ld = l.drop (j) := ⟨_, rfl⟩
          have HLD := Lib.hid hld0
          have hldl : ld.length = l.length - (j) := by rw [hld0, List.length_drop]
          clear ho2 hg2 nw hld0
          go_wp2_with (at_builtin; (refine wpList_append_cts rfl _ _ 41 rfl 87 i0 Tryz.underlying41 hi0 hz0 hz1 hz2 wz.heap.size v2 (lt ++ [(s, x)]) ld rfl R2.out.own _ _ _ rfl ?r10 ?nl10 ?b110 ?bs10 ?_))
          any_goals (try (first
            | exact ⟨(ctC_len ld).trans (by omega), fun h => absurd h (by omega)⟩
            | (have hcut := rd_cut (p := j) HR3.out (by omega) hnc
               rw [if_neg (by omega), ← HLD.out] at hcut
               first | exact hcut | (simp [add_lit]; done) | (simpa [add_lit] using hcut))))
          any_goals (try (intro e; first | (cases e; done) | (have := Hnil.out e; omega) | (simp at e; done) | (simp at e; have := Hnil.out e; omega)))
          any_goals (try omega)
          intro v3 w3 ho3 hg3
          have R3 : Hid (CRow 87 wz.heap.size wz w3 v3 (lt ++ [(s, x)] ++ ld)) := Lib.hid (R2.out.app hs2 hldl (by first | exact ho3 | (rw [htl2]; exact ho3) | (rw [htl2, show j + 1 + (l.length - (j)) = l.length + 1 by omega]; exact ho3) | (rw [htl2, show l.length - (j) = 0 by omega]; exact ho3)) hg3)
          clear ho3 hg3 HR3
          go_wp2
          go_ret2
          exact ⟨v3, by rw [F.out]; rfl, by rw [F.out]; rw [HLT.out, HLD.out] at R3; exact CRow.over HBz.out HBz.out.size R3.out⟩
        · skip
          have R0 := Lib.hid (CRow.empty 87 wz)
          have hbA0 : ∀ o, Below wz.heap.size wz (wz.alloc o) := fun o => (Below.refl _ _).alloc (Nat.le_refl _) o
          obtain ⟨lt, hlt0⟩ : ∃ lt, lt = l.take j := ⟨_, rfl⟩
          have HLT := Lib.hid hlt0
          have htl : lt.length = j := by rw [hlt0, List.length_take]; omega
          clear hlt0
          go_wp2_with (at_builtin; (refine wpList_append_cts rfl _ _ 41 rfl 87 i0 Tryz.underlying41 hi0 hz0 hz1 hz2 wz.heap.size _ [] lt rfl R0.out.own _ _ _ rfl ?r11 ?nl11 ?b111 ?bs11 ?_))
          any_goals (try (rw [HLT.out]; first
            | exact rd_take (rd_grow (hbA0 _) HRz.out) (by omega)
            | (have hq := rd_grow (hbA0 (.cells #[] 87)) HRz.out
               rw [World.size_alloc] at hq
               exact rd_take hq (by omega))))
          any_goals (try (intro e; first | exact Hnil.out e | (have := Hnil.out e; omega) | (cases e; done)))
          any_goals (try (first | omega | (simp only [List.length_nil]; omega) | (rw [World.size_alloc]; omega)))
          intro v1 w1 ho1 hg1
          have R1 : Hid (CRow 87 wz.heap.size wz w1 v1 lt) := Lib.hid (R0.out.app (by first | omega | (rw [World.size_alloc]; omega)) htl (by first | exact ho1 | (rw [List.length_nil, Nat.zero_add]; exact ho1)) hg1)
          have hs1 := R1.out.bel.size
          clear ho1 hg1 hbA0
          have nw := Lib.hid (fun (W : World) => ct_news (w := W) 87 s (x))
          go_wp2_with (at_builtin; (refine wpList_append_cts rfl _ _ 41 rfl 87 i0 Tryz.underlying41 hi0 hz0 hz1 hz2 wz.heap.size v1 lt [(s, x)] rfl (R1.out.more hs1 _).own _ _ _ rfl ?r12 ?nl12 ?b112 ?bs12 ?_))
          case r12 => exact ⟨rfl, fun _ => ⟨_, 0, rfl, by first | omega | (rw [World.size_alloc]; omega), fun j u hj => by have h := nw.out w1 j u hj; rw [add_lit] at h; exact h⟩⟩
          any_goals (try (intro e; cases e; done))
          case b112 => omega
          case bs12 => first | omega | (rw [World.size_alloc]; omega)
          intro v2 w2 ho2 hg2
          have R2 : Hid (CRow 87 wz.heap.size wz w2 v2 (lt ++ [(s, x)])) := Lib.hid ((R1.out.more hs1 _).app (by first | omega | (rw [World.size_alloc]; omega)) rfl (by first | exact ho2 | (rw [htl]; exact ho2)) hg2)
          have hs2 := R2.out.bel.size
          have htl2 : (lt ++ [(s, x)]).length = j + 1 := by rw [List.length_append, htl]; rfl
          have HR3 := Lib.hid (rd_grow R2.out.bel HRz.out)
          obtain ⟨ld, hld0⟩ : ∃ ld, ld = l.drop (j) := ⟨_, rfl⟩
          have HLD := Lib.hid hld0
          have hldl : ld.length = l.length - (j) := by rw [hld0, List.length_drop]
          clear ho2 hg2 nw hld0
          go_wp2_with (at_builtin; (refine wpList_append_cts rfl _ _ 41 rfl 87 i0 Tryz.underlying41 hi0 hz0 hz1 hz2 wz.heap.size v2 (lt ++ [(s, x)]) ld rfl R2.out.own _ _ _ rfl ?r13 ?nl13 ?b113 ?bs13 ?_))
          any_goals (try (first
            | exact ⟨(ctC_len ld).trans (by omega), fun h => absurd h (by omega)⟩
            | (have hcut := rd_cut (p := j) HR3.out (by omega) hnc
               rw [if_neg (by omega), ← HLD.out] at hcut
               first | exact hcut | (simp [add_lit]; done) | (simpa [add_lit] using hcut))))
          any_goals (try (intro e; first | (cases e; done) | (have := Hnil.out e; omega) | (simp at e; done) | (simp at e; have := Hnil.out e; omega)))
          any_goals (try omega)
          intro v3 w3 ho3 hg3
          have R3 : Hid (CRow 87 wz.heap.size wz w3 v3 (lt ++ [(s, x)] ++ ld)) := Lib.hid (R2.out.app hs2 hldl (by first | exact ho3 | (rw [htl2]; exact ho3) | (rw [htl2, show j + 1 + (l.length - (j)) = l.length + 1 by omega]; exact ho3) | (rw [htl2, show l.length - (j) = 0 by omega]; exact ho3)) hg3)
          clear ho3 hg3 HR3
          go_wp2
          go_ret2
          exact ⟨v3, by rw [F.out]; rfl, by rw [F.out]; rw [HLT.out, HLD.out] at R3; exact CRow.over HBz.out HBz.out.size R3.out⟩
end Go.Proofs.YtdloacfoegjnmaaGreat.Gr
