/- loggialaw30.GroupFound: the walk (printed by gen_grlf.py). -/
import Derived.Test.YtfegkchajkpgfaaPkGroupPartsRow2
import Derived.Test.YtfegkchajkpgfaaPkGroupFoundRow0
import Derived.Test.YtfegkchajkpgfaaGrDoPk
namespace Go.Proofs.Ytfegkchajkpgfaa.Gr
open Go.RowKit Go.Proofs.Ytfegkchajkpgfaa Go.Proofs.Ytfegkchajkpgfaa.Ut Go.Proofs.Ytfegkchajkpgfaa.Tk Go.Proofs.Ytfegkchajkpgfaa.Qy Go.Sort Go.Shelf Go.Lib
set_option maxRecDepth 20000
set_option linter.unusedSimpArgs false
set_option linter.unusedVariables false

theorem q_two {w : World} (name s : ByteArray) (b : Nat) (h : Blk w b 9 #[.string s]) : QAt w w.heap.size (.mk 2 name [s] []) [.int .i64 2, .string name, .slice (some ⟨b, 0, none⟩) 1 1, .slice none 0 0] := by
  have hr := rd_blk h 1 1 rfl [.string s] rfl
  have hb := h.lt
  exact QAt.mk [] rfl (hr.more (by omega)) rfl rfl (fun v hv => by cases hv) Reads.none_ (fun i h => absurd h (by simp))
/-- How many docs the query of a word finds. -/
theorem count_two (name s : ByteArray) (A : Option Addr) (n c : Nat) (ds : List Dc) (w : World) (hD : DocsAt w w.heap.size A n ds) (hn : n ≤ 1048576) (hS : Small ds) (b : Nat) (h : Blk w b 9 #[.string s]) :
    Calls Try.prog 36 #[.agg #[.int .i64 2, .string name, .slice (some ⟨b, 0, none⟩) 1 1, .slice none 0 0], .slice A n c] w fun e w' => ∃ A' c', e = .returned (.slice A' (cntN name ds s) c') ∧ Below w.heap.size w w' := by
  refine (docs_two name [s] [] rfl _ _ _ _ A n c ds w (q_two name s b h) hD hn hS).mono ?_
  rintro e w' ⟨A', c', rfl, _, _, hb⟩
  rw [found_cnt]
  exact ⟨A', c', rfl, hb⟩
theorem sumC_snoc (l : List Ct) (k : Nat) (h : k < l.length) (s : ByteArray) : sumC (l.take (k + 1)) s = sumC (l.take k) s + (if l[k].1 = s then l[k].2 else 0) := by
  rw [List.take_succ_eq_append_getElem h, sumC_app]
  show _ = _ + (if l[k].1 = s then l[k].2 else 0)
  show _ + ((if l[k].1 = s then l[k].2 else 0) + 0) = _
  omega
theorem sumC_first {f : Tb} {l : List Ct} (h : IsTab f l) (k : Nat) (hk : k < l.length) : sumC (l.take k) l[k].1 = 0 := by
  refine sumC_none _ _ (fun c hc e => ?_)
  obtain ⟨i, hi, rfl⟩ := List.getElem_of_mem hc
  rw [List.length_take] at hi
  rw [List.getElem_take] at e
  exact List.pairwise_iff_getElem.1 (tab_ne h) i k (by omega) hk (by omega) e
theorem tab_at {name : ByteArray} {ds : List Dc} {l : List Ct} (h : IsTab (tabOf (cntN name ds)) l) (k : Nat) (hk : k < l.length) : l[k].2 = (cntN name ds l[k].1 : Int) := by
  have hm := (h.2 l[k]).1 (List.getElem_mem hk)
  unfold tabOf at hm
  split at hm
  · cases hm
  · injection hm with hm
    exact hm.symm

set_option maxHeartbeats 3200000 in
theorem groupFound_walk (name : ByteArray) (A : Option Addr) (n c : Nat) (ds : List Dc) (word : ByteArray) (w : World) (hD : DocsAt w w.heap.size A n ds) (hn : n ≤ 8796093021952) (hs : ∀ d ∈ ds, ∀ f ∈ d.fs, f.2.size ≤ 1048576) (hff : ∀ d ∈ ds, d.fs.length ≤ 8796093021952) (htot : totW name ds ≤ 1048576) (hname : name.size ≤ 140737488351232) (hword : word.size ≤ 140737488351232) :
    Calls Try.prog 6 #[.string name, .slice A n c, .string word] w fun e w' => e = .returned (.bool true) ∧ Below w.heap.size w w' := by
  have c1 := few_any A n c ds w hD hn
  clear hD
  go_enter Try.func6, Try.ntmps6
  go_wp2_with fail
  refine c1.mono ?_
  rintro e w1 (⟨⟨v, rfl⟩, hb1⟩ | ⟨v, rfl, hO⟩)
  · have c2 := awake_any w1
    have Hb1 := Lib.hid hb1
    clear c1 hb1
    go_wp2_with fail
    refine c2.mono ?_
    rintro e w2 ⟨rfl, hb2⟩
    have Hb2 := Lib.hid (Hb1.out.trans (hb2.mono Hb1.out.size))
    clear c2 hb2
    go_wp2
    go_ret
    exact ⟨rfl, Hb2.out⟩
  · have Hs : Hid (∀ d ∈ ds.take 25, ∀ f ∈ d.fs, f.2.size ≤ 1048576) := Lib.hid (fun d hd => hs d (List.mem_of_mem_take hd))
    have HSm : Hid (Small (ds.take 25)) := Lib.hid (fun d hd => ⟨hff d (List.mem_of_mem_take hd), hs d (List.mem_of_mem_take hd)⟩)
    have ht25 := Nat.le_trans (totW_le name ds 25) htot
    have hl25 : (ds.take 25).length ≤ 25 := by rw [List.length_take]; omega
    have Hb1 := Lib.hid hO.bel
    obtain ⟨A1, q1, rfl, hD1⟩ := hO.read
    have HD1 := Lib.hid hD1
    clear c1 hO hs htot hD1 hff
    generalize ds.take 25 = dx at *
    by_cases hw60 : 60 < word.size
    · have hwi : (60 : Int) < (word.size : Int) := by omega
      have hwz : (0 : Int) ≤ 60 := by omega
      obtain ⟨wd, hwd⟩ : ∃ wd, wd = word.extract 0 60 := ⟨_, rfl⟩
      have Hwd := Lib.hid hwd
      cases hN : isN name.data.toList with
      | false =>
        clear hwd
        go_wp2_with fail
        refine (of_bad name _ _ _ _ hname (by assumption)).mono ?_
        rintro e w2 ⟨rfl, hb2⟩
        have Hb2 := Lib.hid (Hb1.out.trans (hb2.mono Hb1.out.size))
        have c3 := awake_any w2
        clear hb2
        go_wp2_with fail
        refine c3.mono ?_
        rintro e w3 ⟨rfl, hb3⟩
        have Hb3 := Lib.hid (Hb2.out.trans (hb3.mono Hb2.out.size))
        clear hb3 c3
        go_wp2
        go_ret
        exact ⟨by first | rfl | simp, Hb3.out⟩
      | true =>
        clear hwd
        have c2 := groupOf_any name A1 dx.length q1 dx w1 HD1.out (by omega) Hs.out ht25 hname hN
        clear hN
        go_wp2_with fail
        refine c2.mono ?_
        rintro e w2 ⟨a, hTa, hla, va, rfl, hoa, hb2⟩
        obtain ⟨P, p, rfl, hP, _, _, _, _⟩ := own_shp hoa
        have HP := Lib.hid hP
        have HTa := Lib.hid hTa
        have HD2 := Lib.hid (HD1.out.grow hb2)
        have Hb2 := Lib.hid (Hb1.out.trans (hb2.mono Hb1.out.size))
        clear c2 hTa hoa hb2 hP HD1
        go_wp2_with fail
        go_loopw [10, 11] (fun v i wr => ∃ j : Nat, j ≤ a.length ∧ i = .int .i64 (j : Nat) ∧ v = .int .i64 (sumC (a.take j) wd) ∧ Hid (Below w2.heap.size w2 wr)) (fun _ i _ => a.length - (intOf i).toNat)
        case atStart => exact ⟨0, Nat.zero_le _, rfl, rfl, Lib.hid (Below.refl _ _)⟩
        case round =>
          obtain ⟨j, hj, rfl, rfl, hbr⟩ := hrel
          have HPr := Lib.hid (rd_grow hbr.out HP.out)
          have HDr := Lib.hid (HD2.out.grow hbr.out)
          by_cases hlt : j < a.length
          · have hji : (j : Int) < (a.length : Int) := by omega
            obtain ⟨tb, tq, rfl, htb, g1, g2⟩ := cts_at HPr.out hlt
            have hat := tab_at HTa.out j hlt
            have hsn := sumC_snoc a j hlt wd
            have hfi := sumC_first HTa.out j hlt
            have hbA : Below wr.heap.size wr (wr.alloc (.cells #[.string a[j].1] 9)) := (Below.refl _ _).alloc (Nat.le_refl _) _
            have c3 := count_two name a[j].1 A1 dx.length q1 dx _ (HDr.out.grow hbA) (by omega) HSm.out wr.heap.size (Blk.new wr 9 #[.string a[j].1])
            have Hsn := Lib.hid hsn
            have Hfi : Hid (a[j].1 = wd → sumC (a.take j) wd = 0) := Lib.hid (fun e => by rw [← e]; exact hfi)
            have HbA := Lib.hid (hbr.out.trans (hbA.mono hbr.out.size))
            clear hsn hfi
            generalize a[j].1 = s at *
            generalize a[j].2 = y at *
            subst hat
            have Hg := Lib.hid (And.intro g1 g2)
            have hzA : wr.heap.size < (wr.alloc (.cells #[.string s] 9)).heap.size := by simp
            generalize sumC (a.take j) wd = z at *
            go_wp2_with fail
            refine c3.mono ?_
            rintro e w4 ⟨A4, c4, rfl, hb4⟩
            have h1 := ((hbA.trans (hb4.mono hbA.size)).cell (p := ⟨tb, tq + j * 2, none⟩) htb).trans Hg.out.1
            have h2 := ((hbA.trans (hb4.mono hbA.size)).cell (p := ⟨tb, tq + j * 2 + 1, none⟩) htb).trans Hg.out.2
            have Hb4 := Lib.hid (HbA.out.trans (hb4.mono HbA.out.size))
            have hbq := list_beq s wd
            clear c3 hb4 hbA g1 g2
            by_cases hsw : s = wd
            · rw [decide_eq_true hsw] at hbq
              have Hn : Hid (sumC (a.take (j + 1)) wd = (cntN name dx s : Int)) := Lib.hid (by
                rw [Hsn.out, if_pos hsw]
                have := Hfi.out hsw
                omega)
              clear hsw
              rw [Hwd.out] at hbq
              go_wp2
              go_roundw
              case rel => exact ⟨j + 1, by omega, by go_num, by rw [Hn.out], Hb4⟩
              case measure => simp [intOf]; omega
            · rw [decide_eq_false hsw] at hbq
              have Hn : Hid (sumC (a.take (j + 1)) wd = z) := Lib.hid (by rw [Hsn.out, if_neg hsw]; omega)
              clear hsw
              rw [Hwd.out] at hbq
              go_wp2
              go_roundw
              case rel => exact ⟨j + 1, by omega, by go_num, by rw [Hn.out], Hb4⟩
              case measure => simp [intOf]; omega
          · have hja : ¬ (j : Int) < (a.length : Int) := by omega
            have hall : a.take j = a := List.take_of_length_le (by omega)
            have hfin : sumC (a.take j) wd = (cntN name dx wd : Int) := by rw [hall, sumC_tab HTa.out, tabOf_get]
            rw [hfin]
            have hbA : Below wr.heap.size wr (wr.alloc (.cells #[.string wd] 9)) := (Below.refl _ _).alloc (Nat.le_refl _) _
            have c3 := count_two name wd A1 dx.length q1 dx _ (HDr.out.grow hbA) (by omega) HSm.out wr.heap.size (Blk.new wr 9 #[.string wd])
            have HbA := Lib.hid (hbr.out.trans (hbA.mono hbr.out.size))
            clear hall hfin hbA
            generalize cntN name dx wd = z at *
            rw [Hwd.out] at c3 HbA
            go_wp2_with fail
            refine c3.mono ?_
            rintro e w4 ⟨A4, c4, rfl, hb4⟩
            have Hb4 := Lib.hid (HbA.out.trans (hb4.mono HbA.out.size))
            have c5 := awake_any w4
            clear c3 hb4
            go_wp2_with fail
            refine c5.mono ?_
            rintro e w5 ⟨rfl, hb5⟩
            have Hb5 := Lib.hid (Hb2.out.trans ((Hb4.out.trans (hb5.mono Hb4.out.size)).mono Hb2.out.size))
            clear c5 hb5
            go_wp2
            go_ret
            exact ⟨by first | rfl | simp, Hb5.out⟩
    · have hwi : ¬ (60 : Int) < (word.size : Int) := by omega
      obtain ⟨wd, hwd⟩ : ∃ wd, wd = word := ⟨_, rfl⟩
      have Hwd := Lib.hid hwd
      cases hN : isN name.data.toList with
      | false =>
        clear hwd
        go_wp2_with fail
        refine (of_bad name _ _ _ _ hname (by assumption)).mono ?_
        rintro e w2 ⟨rfl, hb2⟩
        have Hb2 := Lib.hid (Hb1.out.trans (hb2.mono Hb1.out.size))
        have c3 := awake_any w2
        clear hb2
        go_wp2_with fail
        refine c3.mono ?_
        rintro e w3 ⟨rfl, hb3⟩
        have Hb3 := Lib.hid (Hb2.out.trans (hb3.mono Hb2.out.size))
        clear hb3 c3
        go_wp2
        go_ret
        exact ⟨by first | rfl | simp, Hb3.out⟩
      | true =>
        clear hwd
        have c2 := groupOf_any name A1 dx.length q1 dx w1 HD1.out (by omega) Hs.out ht25 hname hN
        clear hN
        go_wp2_with fail
        refine c2.mono ?_
        rintro e w2 ⟨a, hTa, hla, va, rfl, hoa, hb2⟩
        obtain ⟨P, p, rfl, hP, _, _, _, _⟩ := own_shp hoa
        have HP := Lib.hid hP
        have HTa := Lib.hid hTa
        have HD2 := Lib.hid (HD1.out.grow hb2)
        have Hb2 := Lib.hid (Hb1.out.trans (hb2.mono Hb1.out.size))
        clear c2 hTa hoa hb2 hP HD1
        go_wp2_with fail
        go_loopw [10, 11] (fun v i wr => ∃ j : Nat, j ≤ a.length ∧ i = .int .i64 (j : Nat) ∧ v = .int .i64 (sumC (a.take j) wd) ∧ Hid (Below w2.heap.size w2 wr)) (fun _ i _ => a.length - (intOf i).toNat)
        case atStart => exact ⟨0, Nat.zero_le _, rfl, rfl, Lib.hid (Below.refl _ _)⟩
        case round =>
          obtain ⟨j, hj, rfl, rfl, hbr⟩ := hrel
          have HPr := Lib.hid (rd_grow hbr.out HP.out)
          have HDr := Lib.hid (HD2.out.grow hbr.out)
          by_cases hlt : j < a.length
          · have hji : (j : Int) < (a.length : Int) := by omega
            obtain ⟨tb, tq, rfl, htb, g1, g2⟩ := cts_at HPr.out hlt
            have hat := tab_at HTa.out j hlt
            have hsn := sumC_snoc a j hlt wd
            have hfi := sumC_first HTa.out j hlt
            have hbA : Below wr.heap.size wr (wr.alloc (.cells #[.string a[j].1] 9)) := (Below.refl _ _).alloc (Nat.le_refl _) _
            have c3 := count_two name a[j].1 A1 dx.length q1 dx _ (HDr.out.grow hbA) (by omega) HSm.out wr.heap.size (Blk.new wr 9 #[.string a[j].1])
            have Hsn := Lib.hid hsn
            have Hfi : Hid (a[j].1 = wd → sumC (a.take j) wd = 0) := Lib.hid (fun e => by rw [← e]; exact hfi)
            have HbA := Lib.hid (hbr.out.trans (hbA.mono hbr.out.size))
            clear hsn hfi
            generalize a[j].1 = s at *
            generalize a[j].2 = y at *
            subst hat
            have Hg := Lib.hid (And.intro g1 g2)
            have hzA : wr.heap.size < (wr.alloc (.cells #[.string s] 9)).heap.size := by simp
            generalize sumC (a.take j) wd = z at *
            go_wp2_with fail
            refine c3.mono ?_
            rintro e w4 ⟨A4, c4, rfl, hb4⟩
            have h1 := ((hbA.trans (hb4.mono hbA.size)).cell (p := ⟨tb, tq + j * 2, none⟩) htb).trans Hg.out.1
            have h2 := ((hbA.trans (hb4.mono hbA.size)).cell (p := ⟨tb, tq + j * 2 + 1, none⟩) htb).trans Hg.out.2
            have Hb4 := Lib.hid (HbA.out.trans (hb4.mono HbA.out.size))
            have hbq := list_beq s wd
            clear c3 hb4 hbA g1 g2
            by_cases hsw : s = wd
            · rw [decide_eq_true hsw] at hbq
              have Hn : Hid (sumC (a.take (j + 1)) wd = (cntN name dx s : Int)) := Lib.hid (by
                rw [Hsn.out, if_pos hsw]
                have := Hfi.out hsw
                omega)
              clear hsw
              rw [Hwd.out] at hbq
              go_wp2
              go_roundw
              case rel => exact ⟨j + 1, by omega, by go_num, by rw [Hn.out], Hb4⟩
              case measure => simp [intOf]; omega
            · rw [decide_eq_false hsw] at hbq
              have Hn : Hid (sumC (a.take (j + 1)) wd = z) := Lib.hid (by rw [Hsn.out, if_neg hsw]; omega)
              clear hsw
              rw [Hwd.out] at hbq
              go_wp2
              go_roundw
              case rel => exact ⟨j + 1, by omega, by go_num, by rw [Hn.out], Hb4⟩
              case measure => simp [intOf]; omega
          · have hja : ¬ (j : Int) < (a.length : Int) := by omega
            have hall : a.take j = a := List.take_of_length_le (by omega)
            have hfin : sumC (a.take j) wd = (cntN name dx wd : Int) := by rw [hall, sumC_tab HTa.out, tabOf_get]
            rw [hfin]
            have hbA : Below wr.heap.size wr (wr.alloc (.cells #[.string wd] 9)) := (Below.refl _ _).alloc (Nat.le_refl _) _
            have c3 := count_two name wd A1 dx.length q1 dx _ (HDr.out.grow hbA) (by omega) HSm.out wr.heap.size (Blk.new wr 9 #[.string wd])
            have HbA := Lib.hid (hbr.out.trans (hbA.mono hbr.out.size))
            clear hall hfin hbA
            generalize cntN name dx wd = z at *
            rw [Hwd.out] at c3 HbA
            go_wp2_with fail
            refine c3.mono ?_
            rintro e w4 ⟨A4, c4, rfl, hb4⟩
            have Hb4 := Lib.hid (HbA.out.trans (hb4.mono HbA.out.size))
            have c5 := awake_any w4
            clear c3 hb4
            go_wp2_with fail
            refine c5.mono ?_
            rintro e w5 ⟨rfl, hb5⟩
            have Hb5 := Lib.hid (Hb2.out.trans ((Hb4.out.trans (hb5.mono Hb4.out.size)).mono Hb2.out.size))
            clear c5 hb5
            go_wp2
            go_ret
            exact ⟨by first | rfl | simp, Hb5.out⟩
theorem docs_few {w : World} {B n : Nat} {A : Option Addr} {ds : List Dc} (h : DocsAt w B A n ds) : ∀ d ∈ ds, d.fs.length ≤ 8796093021952 := by
  intro d hd
  obtain ⟨i, hi, rfl⟩ := List.getElem_of_mem hd
  obtain ⟨b, o, F, fn, fc, _, _, _, _, _, _, h1, h2, _⟩ := h.at_ hi
  omega
end Go.Proofs.Ytfegkchajkpgfaa.Gr
