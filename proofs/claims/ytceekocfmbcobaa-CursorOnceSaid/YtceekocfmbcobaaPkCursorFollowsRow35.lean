/- The document's Follow: the walk (printed by gen_cut.py). -/
import Derived.Laws.Bits64b
import Derived.IntWalk
import Derived.Laws.BytesArg
import Derived.Test.YtceekocfmbcobaaPkCursorFollowsRow34
import Derived.Test.YtceekocfmbcobaaPkCursorFollowsRow26
import Derived.Test.YtceekocfmbcobaaPkCursorFollowsRow27
section
namespace Go.Proofs.Ytceekocfmbcobaa.Cu
open Go.RowKit Go.Proofs.Ytceekocfmbcobaa Go.Proofs.Ytceekocfmbcobaa.Qy Go.Proofs.Ytceekocfmbcobaa.Ph
set_option maxRecDepth 100000
set_option linter.unusedSimpArgs false

set_option maxHeartbeats 6400000 in
theorem rfollow_any (a k l : Int) (q : ByteArray) (A : Option Addr) (n c : Nat) (ds : List Dc) (w : World) (hD : DocsAt w w.heap.size A n ds) (hn : n ≤ 1048576) :
    Calls Try.prog 28 #[.agg #[.int .i64 a, .string q], .int .i64 k, .int .i64 l, .slice A n c] w (FolTo w (folP a k l ds) q) := by
  obtain ⟨i0, hi0, hz0, hz1, hz2⟩ := info_parts doc_info
  have HF0 := Lib.hid (fol_start w a q)
  have HD := Lib.hid hD
  have Hl := Lib.hid hD.ln
  clear hD
  by_cases hl : l < 1
  · have Hfin := Lib.hid (fol_none (a := a) (k := k) ds hl)
    go_enter Try.func28, Try.ntmps28
    go_upto_region 2 with (fail)
    generalize hw2 : (w.alloc (.cells #[.int .i64 a, .string q] 45)).alloc (.cells #[.int .i64 0, .string ⟨#[]⟩] 45) = w2 at *
    clear hw2
    have hb0 := HF0.out.box.cell 0
    have hb1 := HF0.out.box.cell 1
    have hr0 := HF0.out.res.cell 0
    have hr1 := HF0.out.res.cell 1
    have hf0 := HF0.out.res.frozen 0
    have hf1 := HF0.out.res.frozen 1
    simp at hb0 hb1 hr0 hr1
    have HD := Lib.hid HF0.out.done
    refine wp_region_ph_tail 2 (specOf []) (fun wx => wx = w2.drew) (fun _ => True) (by kernel_rfl) (by kernel_rfl) (turns_of (by kernel_rfl)) rfl trivial ?_
    refine ph_fix 1 ?_ rfl (by rfl) (by rfl) (fun wx hC => ?_) ?_
    rotate_left
    · subst hC
      go_simp
      all_goals with_reducible rfl
    try simp only [Act.put, List.setIfInBounds_toArray, List.set_cons_zero, List.set_cons_succ]
    refine ph_fix 2 ?_ rfl (by rfl) (by rfl) (fun wx hC => ?_) ?_
    rotate_left
    · subst hC
      go_simp
      all_goals with_reducible rfl
    try simp only [Act.put, List.setIfInBounds_toArray, List.set_cons_zero, List.set_cons_succ]
    refine ph_nil (fun w9 hC hI => ?_)
    subst hC
    clear hI
    go_wp2
    exact bodyPost_ret (fol_results rfl rfl rfl HD.out.1) rfl (by rw [Hfin.out]; exact ⟨_, rfl, HD.out.2⟩)
  have hl1 : 1 ≤ l := by omega
  go_enter Try.func28, Try.ntmps28
  go_wp2_with fail
  generalize hw2 : (w.alloc (.cells #[.int .i64 a, .string q] 45)).alloc (.cells #[.int .i64 0, .string ⟨#[]⟩] 45) = w2 at *
  clear hw2
  go_loopw [10, 11, 12] (fun v m i wr => ∃ j : Nat, j ≤ n ∧ i = .int .i64 (j : Int) ∧ m = .int .i64 (lastP a (sel a k (ds.take j))) ∧ ((sel a k (ds.take j)).length : Int) ≤ l ∧ Fol w wr a q v (sel a k (ds.take j))) (fun _ _ i _ => n - (intOf i).toNat)
  case atStart => exact ⟨0, Nat.zero_le _, rfl, rfl, by simp [sel]; omega, by simpa [sel] using HF0.out⟩
  case round =>
    obtain ⟨j, hj, rfl, rfl, hlen, hF⟩ := hrel
    have hsl : (sel a k (ds.take j)).length ≤ 1048576 := Nat.le_trans (sel_len ..) (by rw [List.length_take, Hl.out]; omega)
    have hb0 := hF.box.cell 0
    have hb1 := hF.box.cell 1
    have hbl := hF.box.lt
    simp at hb0 hb1
    obtain ⟨A6, c6, rfl, _⟩ := hF.own.read
    by_cases hlt : j < n
    · by_cases hll : ((sel a k (ds.take j)).length : Int) < l
      · have hjl : j < ds.length := by rw [Hl.out]; exact hlt
        obtain ⟨b, o, F, fn, fc, rfl, hbb, hc0, hc1, hc2, hR, hfl, hfn, hff, hfnil⟩ := HD.out.at_ hjl
        have hc0 := (hF.own.bel.cell (p := ⟨b, o + j * 3, none⟩) hbb).trans hc0
        have hc1 := (hF.own.bel.cell (p := ⟨b, o + j * 3 + 1, none⟩) hbb).trans hc1
        have hc2 := (hF.own.bel.cell (p := ⟨b, o + j * 3 + 2, none⟩) hbb).trans hc2
        have Hyes := Lib.hid (sel_yes a k ds j hjl)
        have Hno := Lib.hid (sel_no a k ds j hjl)
        have hDc : DcV w w.heap.size ds[j] [.int .i64 ds[j].seq, .int .i64 ds[j].at_, .slice F fn fc] := ⟨F, fn, fc, rfl, hR, hfl, hfn, hff, hfnil⟩
        have HDc := Lib.hid hDc
        clear hR hfl hDc
        generalize hdj : ds[j] = d at *
        clear hdj
        obtain ⟨s, at_, fs⟩ := d
        dsimp only at hc0 hc1 HDc Hyes Hno
        have HF := Lib.hid hF
        have hjx0 : (0 : Int) ≤ (j : Int) := by omega
        have hji : (j : Int) < (n : Int) := by omega
        have Hlen := Lib.hid hlen
        clear hF hlen
        by_cases h1 : a < s
        · have hd1 : decide (a < s) = true := by simpa using h1
          by_cases h2 : s ≤ k
          · have hd2 : decide (s ≤ k) = true := by simpa using h2
            have Hys : Hid (sel a k (ds.take (j + 1)) = sel a k (ds.take j) ++ [⟨s, at_, fs⟩]) := Lib.hid (Hyes.out h1 h2)
            have Hlst : Hid (lastP a (sel a k (ds.take (j + 1))) = max (lastP a (sel a k (ds.take j))) s) := Lib.hid (by rw [Hys.out, lastP_snoc])
            clear Hyes Hno
            generalize lastP a (sel a k (ds.take j)) = m at *
            generalize sel a k (ds.take j) = out at *
            go_wp2_with fail
            go_quiet (fail)
            have hc0 : (wr.drewN nq).cell? ⟨b, o + j * 3, none⟩ = some (.int .i64 s) := hc0
            have hc1 : (wr.drewN nq).cell? ⟨b, o + j * 3 + 1, none⟩ = some (.int .i64 at_) := hc1
            have hc2 : (wr.drewN nq).cell? ⟨b, o + j * 3 + 2, none⟩ = some (.slice F fn fc) := hc2
            have HFd : Hid (Fol w (wr.drewN nq) a q (.slice A6 out.length c6) out) := Lib.hid (HF.out.below (below_drewN (Below.refl _ _) nq))
            have hbw : b < (wr.drewN nq).heap.size := Nat.lt_of_lt_of_le hbb HFd.out.own.bel.size
            clear hb0 hb1 HF
            generalize wr.drewN nq = wd at *
            have HFx := Lib.hid (HFd.out.alloc (.cells #[.int .i64 s, .int .i64 at_, .slice F fn fc] 71))
            have hx0 := (World.cell?_alloc_lt wd (.cells #[.int .i64 s, .int .i64 at_, .slice F fn fc] 71) ⟨b, o + j * 3, none⟩ hbw).trans hc0
            have hDx : DcV (wd.alloc (.cells #[.int .i64 s, .int .i64 at_, .slice F fn fc] 71)) (wd.alloc (.cells #[.int .i64 s, .int .i64 at_, .slice F fn fc] 71)).heap.size ⟨s, at_, fs⟩ [.int .i64 s, .int .i64 at_, .slice F fn fc] := (HDc.out.keep fun _ _ hp => HFx.out.own.bel.cell hp).more HFx.out.own.bel.size
            have hFar : Far (wd.alloc (.cells #[.int .i64 s, .int .i64 at_, .slice F fn fc] 71)) w.heap.size [.int .i64 s, .int .i64 at_, .slice F fn fc] := by
              intro F' fn' fc' hv hn'
              simp only [List.getElem?_cons_succ, List.getElem?_cons_zero, Option.some.injEq, Value.slice.injEq] at hv
              obtain ⟨rfl, rfl, rfl⟩ := hv
              obtain ⟨F2, fn2, fc2, e2, hR2, _⟩ := HDc.out
              simp only [List.cons.injEq, Value.slice.injEq, and_true, true_and] at e2
              obtain ⟨rfl, rfl, rfl⟩ := e2
              obtain ⟨b', o', eF, hlt', _⟩ := hR2.2 hn'
              exact ⟨b', o', eF, .inl hlt'⟩
            have HDx := Lib.hid hDx
            have HFar := Lib.hid hFar
            obtain ⟨vss, g1, g2, g3⟩ := HFx.out.own.ex
            have HX := Lib.hid g3
            have Hg1 := Lib.hid g1
            have hblx := HFx.out.box.lt
            simp at hblx
            clear hDx hFar g1 g3
            go_wp2_with (at_builtin; refine wpList_append_own _ rfl _ _ 59 rfl w.heap.size 71 i0 _ 3 40 Try.underlying59 hi0 hz0 hz1 hz2 rfl (by decide) _ _ _ rfl g2 ⟨wd.heap.size, 0, none⟩ 1 1 [.int .i64 s, .int .i64 at_, .slice F fn fc] rfl rfl ?d1 ?d2 ?d3 ?d4 ?d5 ?_)
            case d1 => exact World.news_of_block (cs := #[.int .i64 s, .int .i64 at_, .slice F fn fc]) (t := 71) (fr := (0, 0)) (heap_alloc_new wd _)
            case d2 => intro u hu; simp at hu; rcases hu with rfl | rfl | rfl <;> rfl
            case d3 => unfold maxLen; omega
            case d4 => omega
            case d5 => simp; omega
            intro v9 w9 hown9 hg9 _
            have hF9 : Fol w w9 a q v9 (out ++ [⟨s, at_, fs⟩]) := HFx.out.put ⟨vss, Hg1.out, g2, HX.out, rfl⟩ hown9 hg9 HDx.out HFar.out
            have hz9 : b < w9.heap.size := Nat.lt_of_lt_of_le (by simp; omega) hg9.size
            have hc9 : w9.cell? ⟨b, o + j * 3, none⟩ = some (.int .i64 s) := (hF9.own.bel.cell (p := ⟨b, o + j * 3, none⟩) hbb).trans (by
              have h1 := (HFd.out.own.bel.cell (p := ⟨b, o + j * 3, none⟩) hbb)
              rw [← h1]; exact hc0)
            have HF9 := Lib.hid hF9
            have Hlen9 : Hid (((out ++ [(⟨s, at_, fs⟩ : Dc)]).length : Int) ≤ l) := Lib.hid (by rw [List.length_append]; simp; omega)
            clear hF9 hown9 hg9 g2 hc0 hc1 hc2 hx0
            go_wp2
            go_roundw
            case rel => exact ⟨j + 1, by omega, by go_num, by rw [Hlst.out], by rw [Hys.out]; exact Hlen9.out, by rw [Hys.out]; exact HF9.out⟩
            case measure => simp [intOf]; omega
          · have hd2 : decide (s ≤ k) = false := by simpa using h2
            have Hsn : Hid (sel a k (ds.take (j + 1)) = sel a k (ds.take j)) := Lib.hid (Hno.out (fun h => h2 h.2))
            clear Hyes Hno h2
            go_wp2_with fail
            go_quiet (fail)
            go_wp2
            go_roundw
            case rel => exact ⟨j + 1, by omega, by go_num, by rw [Hsn.out], by rw [Hsn.out]; exact Hlen.out, by rw [Hsn.out]; exact HF.out.below (below_drewN (Below.refl _ _) nq)⟩
            case measure => simp [intOf]; omega
        · have hd1 : decide (a < s) = false := by simpa using h1
          have Hsn : Hid (sel a k (ds.take (j + 1)) = sel a k (ds.take j)) := Lib.hid (Hno.out (fun h => h1 h.1))
          clear Hyes Hno h1
          go_wp2_with fail
          go_quiet (fail)
          go_wp2
          go_roundw
          case rel => exact ⟨j + 1, by omega, by go_num, by rw [Hsn.out], by rw [Hsn.out]; exact Hlen.out, by rw [Hsn.out]; exact HF.out.below (below_drewN (Below.refl _ _) nq)⟩
          case measure => simp [intOf]; omega
      · have he : ((sel a k (ds.take j)).length : Int) = l := by omega
        have Hfin : Hid (folP a k l ds = (sel a k (ds.take j), lastP a (sel a k (ds.take j)))) := Lib.hid (fol_stop j (by omega) he)
        have HF := Lib.hid hF
        have gf0 := hF.box.frozen 0
        have hji : (j : Int) < (n : Int) := by omega
        clear hF hlen he
        generalize lastP a (sel a k (ds.take j)) = m at *
        generalize sel a k (ds.take j) = out at *

        go_upto_region 14 with (fail)
        have H7 := Lib.hid (HF.out.after (m))
        clear HF
        generalize hw7 : wr.setCell ⟨w.heap.size, 0, none⟩ (.int .i64 (m)) = w7 at *
        clear hw7 hb0 hb1
        have hb0 := H7.out.box.cell 0
        have hb1 := H7.out.box.cell 1
        have hr0 := H7.out.res.cell 0
        have hr1 := H7.out.res.cell 1
        have hf0 := H7.out.res.frozen 0
        have hf1 := H7.out.res.frozen 1
        simp at hb0 hb1 hr0 hr1
        have HD := Lib.hid H7.out.done
        refine wp_region_ph_tail 3 (specOf []) (fun wx => wx = w7.drew) (fun _ => True) (by kernel_rfl) (by kernel_rfl) (turns_of (by kernel_rfl)) rfl trivial ?_
        refine ph_fix 1 ?_ rfl (by rfl) (by rfl) (fun wx hC => ?_) ?_
        rotate_left
        · subst hC
          go_simp
          all_goals with_reducible rfl
        try simp only [Act.put, List.setIfInBounds_toArray, List.set_cons_zero, List.set_cons_succ]
        refine ph_fix 2 ?_ rfl (by rfl) (by rfl) (fun wx hC => ?_) ?_
        rotate_left
        · subst hC
          go_simp
          all_goals with_reducible rfl
        try simp only [Act.put, List.setIfInBounds_toArray, List.set_cons_zero, List.set_cons_succ]
        refine ph_fix 3 ?_ rfl (by rfl) (by rfl) (fun wx hC => ?_) ?_
        rotate_left
        · subst hC
          go_simp
          all_goals with_reducible rfl
        try simp only [Act.put, List.setIfInBounds_toArray, List.set_cons_zero, List.set_cons_succ]
        refine ph_nil (fun w9 hC hI => ?_)
        subst hC
        clear hI
        go_wp2
        exact bodyPost_ret (fol_results rfl rfl rfl HD.out.1) rfl (by rw [Hfin.out]; exact ⟨_, rfl, HD.out.2⟩)
    · have hji : ¬ (j : Int) < (n : Int) := by omega
      by_cases hll : ((sel a k (ds.take j)).length : Int) < l
      · have Hfin : Hid (folP a k l ds = (sel a k (ds.take j), max a k)) := Lib.hid (fol_end j (by omega) (by rw [Hl.out]; omega) hll)
        have HF := Lib.hid hF
        have gf0 := hF.box.frozen 0
        clear hF hlen
        generalize lastP a (sel a k (ds.take j)) = m at *
        generalize sel a k (ds.take j) = out at *

        go_upto_region 14 with (fail)
        have H7 := Lib.hid (HF.out.after (max a k))
        clear HF
        generalize hw7 : wr.setCell ⟨w.heap.size, 0, none⟩ (.int .i64 (max a k)) = w7 at *
        clear hw7 hb0 hb1
        have hb0 := H7.out.box.cell 0
        have hb1 := H7.out.box.cell 1
        have hr0 := H7.out.res.cell 0
        have hr1 := H7.out.res.cell 1
        have hf0 := H7.out.res.frozen 0
        have hf1 := H7.out.res.frozen 1
        simp at hb0 hb1 hr0 hr1
        have HD := Lib.hid H7.out.done
        refine wp_region_ph_tail 3 (specOf []) (fun wx => wx = w7.drew) (fun _ => True) (by kernel_rfl) (by kernel_rfl) (turns_of (by kernel_rfl)) rfl trivial ?_
        refine ph_fix 1 ?_ rfl (by rfl) (by rfl) (fun wx hC => ?_) ?_
        rotate_left
        · subst hC
          go_simp
          all_goals with_reducible rfl
        try simp only [Act.put, List.setIfInBounds_toArray, List.set_cons_zero, List.set_cons_succ]
        refine ph_fix 2 ?_ rfl (by rfl) (by rfl) (fun wx hC => ?_) ?_
        rotate_left
        · subst hC
          go_simp
          all_goals with_reducible rfl
        try simp only [Act.put, List.setIfInBounds_toArray, List.set_cons_zero, List.set_cons_succ]
        refine ph_fix 3 ?_ rfl (by rfl) (by rfl) (fun wx hC => ?_) ?_
        rotate_left
        · subst hC
          go_simp
          all_goals with_reducible rfl
        try simp only [Act.put, List.setIfInBounds_toArray, List.set_cons_zero, List.set_cons_succ]
        refine ph_nil (fun w9 hC hI => ?_)
        subst hC
        clear hI
        go_wp2
        exact bodyPost_ret (fol_results rfl rfl rfl HD.out.1) rfl (by rw [Hfin.out]; exact ⟨_, rfl, HD.out.2⟩)
      · have he : ((sel a k (ds.take j)).length : Int) = l := by omega
        have Hfin : Hid (folP a k l ds = (sel a k (ds.take j), lastP a (sel a k (ds.take j)))) := Lib.hid (fol_stop j (by omega) he)
        have HF := Lib.hid hF
        have gf0 := hF.box.frozen 0
        clear hF hlen he
        generalize lastP a (sel a k (ds.take j)) = m at *
        generalize sel a k (ds.take j) = out at *

        go_upto_region 14 with (fail)
        have H7 := Lib.hid (HF.out.after (m))
        clear HF
        generalize hw7 : wr.setCell ⟨w.heap.size, 0, none⟩ (.int .i64 (m)) = w7 at *
        clear hw7 hb0 hb1
        have hb0 := H7.out.box.cell 0
        have hb1 := H7.out.box.cell 1
        have hr0 := H7.out.res.cell 0
        have hr1 := H7.out.res.cell 1
        have hf0 := H7.out.res.frozen 0
        have hf1 := H7.out.res.frozen 1
        simp at hb0 hb1 hr0 hr1
        have HD := Lib.hid H7.out.done
        refine wp_region_ph_tail 3 (specOf []) (fun wx => wx = w7.drew) (fun _ => True) (by kernel_rfl) (by kernel_rfl) (turns_of (by kernel_rfl)) rfl trivial ?_
        refine ph_fix 1 ?_ rfl (by rfl) (by rfl) (fun wx hC => ?_) ?_
        rotate_left
        · subst hC
          go_simp
          all_goals with_reducible rfl
        try simp only [Act.put, List.setIfInBounds_toArray, List.set_cons_zero, List.set_cons_succ]
        refine ph_fix 2 ?_ rfl (by rfl) (by rfl) (fun wx hC => ?_) ?_
        rotate_left
        · subst hC
          go_simp
          all_goals with_reducible rfl
        try simp only [Act.put, List.setIfInBounds_toArray, List.set_cons_zero, List.set_cons_succ]
        refine ph_fix 3 ?_ rfl (by rfl) (by rfl) (fun wx hC => ?_) ?_
        rotate_left
        · subst hC
          go_simp
          all_goals with_reducible rfl
        try simp only [Act.put, List.setIfInBounds_toArray, List.set_cons_zero, List.set_cons_succ]
        refine ph_nil (fun w9 hC hI => ?_)
        subst hC
        clear hI
        go_wp2
        exact bodyPost_ret (fol_results rfl rfl rfl HD.out.1) rfl (by rw [Hfin.out]; exact ⟨_, rfl, HD.out.2⟩)
end Go.Proofs.Ytceekocfmbcobaa.Cu
end

section
/- cursor: what is left of bytes: next, number: the walks. -/
namespace Go.Proofs.Ytceekocfmbcobaa.Cu
open Go.RowKit Go.Proofs.Ytceekocfmbcobaa Go.Proofs.Ytceekocfmbcobaa.Cr
set_option maxRecDepth 20000
set_option linter.unusedSimpArgs false

/-- What is left of bytes: they lie in blocks of a reader's own not. -/
structure Lf (w : World) (g : Nat) (A : Option Addr) (m c : Nat) (L : List UInt8) : Prop where
  cell : w.cell? ⟨g, 0, none⟩ = some (.slice A m c)
  fz : w.frozen? ⟨g, 0, none⟩ = false
  le : m ≤ c
  ln : L.length = m
  rd : 0 < m → ∃ b o, A = some ⟨b, o, none⟩ ∧ b < w.heap.size ∧ b ≠ g ∧ ∀ j u, (bv L)[j]? = some u → w.cell? ⟨b, o + j, none⟩ = some u
  nil : A = none → c = 0
theorem Lf.reads {w : World} {g : Nat} {A : Option Addr} {m c : Nat} {L : List UInt8} (h : Lf w g A m c L) : Reads w w.heap.size 1 A m (bv L) :=
  ⟨by rw [bv_len, h.ln]; omega, fun hm => by obtain ⟨b, o, e, hb, _, hc⟩ := h.rd hm; exact ⟨b, o, e, hb, hc⟩⟩
theorem bv_get (L : List UInt8) (j : Nat) : (bv L)[j]? = L[j]?.map fun c => Value.int .u8 (c.toNat : Int) := by unfold bv; rw [List.getElem?_map]
theorem setc (w : World) (g : Nat) (u : Value) {b : Nat} (o : Nat) (h : b ≠ g) : (w.setCell ⟨g, 0, none⟩ u).cell? ⟨b, o, none⟩ = w.cell? ⟨b, o, none⟩ :=
  World.cell?_of_block (w := w) (Below.heap_setCell w ⟨g, 0, none⟩ u b h)
/-- What is left behind k of them. -/
theorem Lf.go {w : World} {g : Nat} {A : Option Addr} {m c k : Nat} {L : List UInt8} (h : Lf w g A m c L) (hk : k ≤ m) (A' : Option Addr) (c' : Nat) (hc : m - k ≤ c') (hn : A' = none → c' = 0) (hA : ∀ b o, A = some ⟨b, o, none⟩ → k < m → A' = some ⟨b, o + k, none⟩) :
    Lf (w.setCell ⟨g, 0, none⟩ (.slice A' (m - k) c')) g A' (m - k) c' (L.drop k) := by
  refine ⟨World.cell?_setCell_same _ _ _ h.cell, by rw [World.frozen?_setCell]; exact h.fz, hc, by rw [List.length_drop, h.ln], fun hp => ?_, hn⟩
  obtain ⟨b, o, e, hb, hne, hcl⟩ := h.rd (by omega)
  refine ⟨b, o + k, hA b o e (by omega), by simpa [World.setCell] using hb, hne, fun j u hu => ?_⟩
  rw [setc w g _ _ hne]
  have := hcl (k + j) u (by rw [bv_get] at hu ⊢; rw [List.getElem?_drop] at hu; exact hu)
  rw [← this, Nat.add_assoc]
/-- What next hands back, and leaves. -/
structure NextTo (w : World) (g : Nat) (L : List UInt8) (k : Nat) (e : Ending) (w' : World) : Prop where
  ex : ∃ A m c A' c', e = .returned (.slice A (min k m) c) ∧ L.length = m ∧ w' = w.setCell ⟨g, 0, none⟩ (.slice A' (m - min k m) c') ∧ min k m ≤ c ∧ (A = none → c = 0) ∧
    Reads w' w'.heap.size 1 A (min k m) (bv (L.take k)) ∧ Lf w' g A' (m - min k m) c' (L.drop k)
theorem Lf.next {w : World} {g : Nat} {A : Option Addr} {m c : Nat} {L : List UInt8} (h : Lf w g A m c L) (k : Nat) (A' : Option Addr) (c' : Nat) (hc : m - min k m ≤ c') (hn : A' = none → c' = 0) (hA : ∀ b o, A = some ⟨b, o, none⟩ → min k m < m → A' = some ⟨b, o + min k m, none⟩) :
    NextTo w g L k (.returned (.slice A (min k m) c)) (w.setCell ⟨g, 0, none⟩ (.slice A' (m - min k m) c')) := by
  have hd : L.drop (min k m) = L.drop k := by
    rw [← h.ln]
    by_cases hk : k ≤ L.length
    · rw [Nat.min_eq_left hk]
    · rw [Nat.min_eq_right (by omega), List.drop_length, List.drop_of_length_le (by omega)]
  have hg := h.go (k := min k m) (by omega) A' c' hc hn hA
  rw [hd] at hg
  refine ⟨A, m, c, A', c', rfl, h.ln, rfl, by have := h.le; omega, h.nil, ⟨by rw [bv_len, List.length_take, h.ln]; omega, fun hp => ?_⟩, hg⟩
  obtain ⟨b, o, e, hb, hne, hcl⟩ := h.rd (by omega)
  refine ⟨b, o, e, by simpa [World.setCell] using hb, fun j u hu => ?_⟩
  rw [setc w g _ _ hne]
  refine hcl j u ?_
  rw [bv_get, List.getElem?_take] at hu
  rw [bv_get]
  split at hu
  · exact hu
  · cases hu

set_option maxHeartbeats 1600000 in
theorem next_any (w : World) (g : Nat) (A : Option Addr) (m c k : Nat) (L : List UInt8) (h : Lf w g A m c L) (hm : m ≤ 140737488351232) (hk : k ≤ 140737488351232) :
    Calls Try.prog 46 #[.pointer (some ⟨g, 0, none⟩), .int .i64 (k : Int)] w (NextTo w g L k) := by
  have hcell := h.cell
  have hfz := h.fz
  have hle := h.le
  have hnil := h.nil
  have HN := Lib.hid (h.next k)
  have hrd := h.rd
  clear h
  by_cases hkm : k < m
  · rw [Nat.min_eq_left (by omega)] at HN
    obtain ⟨b, o, rfl, hb, hne, _⟩ := hrd (by omega)
    have h1 : (k : Int) < (m : Int) := by omega
    have h2 : (k : Int) ≤ (c : Int) := by omega
    have h3 : ¬ (c = k) := by omega
    have h4 : ¬ (k = c) := by omega
    have hmn : min (k : Int) (m : Int) = (k : Int) := by omega
    go_enter Try.func46, Try.ntmps46
    go_wp2
    go_ret
    exact HN.out _ _ (by omega) (fun h => by cases h) (fun b' o' e _ => by injection e with e; injection e with e1 e2; subst e1 e2; rfl)
  · rw [Nat.min_eq_right (by omega)] at HN
    rw [Nat.sub_self] at HN
    have h1 : ¬ (k : Int) < (m : Int) := by omega
    by_cases hkm' : k = m
    · subst hkm'
      have hmn : min (k : Int) (k : Int) = (k : Int) := by omega
      by_cases hm0 : k = 0
      · subst hm0
        clear hrd
        cases A with
        | none =>
          obtain rfl := hnil rfl
          go_enter Try.func46, Try.ntmps46
          go_wp2
          go_ret
          exact HN.out _ _ (by omega) (fun h => rfl) (fun b' o' e _ => by omega)
        | some a =>
          clear hnil
          by_cases hc : c = 0
          · subst hc
            go_enter Try.func46, Try.ntmps46
            go_wp2
            go_ret
            exact HN.out _ _ (by omega) (fun h => rfl) (fun b' o' e _ => by omega)
          · go_enter Try.func46, Try.ntmps46
            go_wp2
            go_ret
            exact HN.out _ _ (by omega) (fun h => by cases h) (fun b' o' e _ => by omega)
      · obtain ⟨b, o, rfl, hb, hne, _⟩ := hrd (by omega)
        by_cases hc : c = k
        · subst hc
          go_enter Try.func46, Try.ntmps46
          go_wp2
          go_ret
          exact HN.out _ _ (by omega) (fun h => by cases h) (fun b' o' e _ => by omega)
        · have h2 : (k : Int) ≤ (c : Int) := by omega
          go_enter Try.func46, Try.ntmps46
          go_wp2
          go_ret
          exact HN.out _ _ (by omega) (fun h => by cases h) (fun b' o' e _ => by omega)
    · have h0 : (m : Int) < (k : Int) := by omega
      have hmn : min (k : Int) (m : Int) = (m : Int) := by omega
      by_cases hm0 : m = 0
      · subst hm0
        have hmn0 : min (k : Int) 0 = 0 := by omega
        clear hrd
        cases A with
        | none =>
          obtain rfl := hnil rfl
          go_enter Try.func46, Try.ntmps46
          go_wp2
          go_ret
          exact HN.out _ _ (by omega) (fun h => rfl) (fun b' o' e _ => by omega)
        | some a =>
          clear hnil
          by_cases hc : c = 0
          · subst hc
            go_enter Try.func46, Try.ntmps46
            go_wp2
            go_ret
            exact HN.out _ _ (by omega) (fun h => rfl) (fun b' o' e _ => by omega)
          · go_enter Try.func46, Try.ntmps46
            go_wp2
            go_ret
            exact HN.out _ _ (by omega) (fun h => by cases h) (fun b' o' e _ => by omega)
      · obtain ⟨b, o, rfl, hb, hne, _⟩ := hrd (by omega)
        by_cases hc : c = m
        · subst hc
          go_enter Try.func46, Try.ntmps46
          go_wp2
          go_ret
          exact HN.out _ _ (by omega) (fun h => by cases h) (fun b' o' e _ => by omega)
        · have h2 : (m : Int) ≤ (c : Int) := by omega
          go_enter Try.func46, Try.ntmps46
          go_wp2
          go_ret
          exact HN.out _ _ (by omega) (fun h => by cases h) (fun b' o' e _ => by omega)
/-- What number hands back, and leaves. -/
structure NumTo (w : World) (g : Nat) (L : List UInt8) (k : Nat) (e : Ending) (w' : World) : Prop where
  ret : e = .returned (.int .i64 (wrap64 (num (L.take k) : Nat)))
  ex : ∃ A m c, w' = w.setCell ⟨g, 0, none⟩ (.slice A m c) ∧ Lf w' g A m c (L.drop k)
theorem or_byte (u : Nat) (c : UInt8) (h : u < 72057594037927936) : bits .or .u64 ((u : Int) * 256) (c.toNat : Int) = ((u * 256 + c.toNat : Nat) : Int) := by
  have hc := c.toNat_lt
  have h1 := bits_or_u64_nat (u * 256) c.toNat (by omega) (by omega)
  have h2 : u * 256 ||| c.toNat = u * 256 + c.toNat := by
    have := Nat.two_pow_add_eq_or_of_lt (i := 8) hc u
    rw [show u * 256 = 2 ^ 8 * u by omega]
    exact this.symm
  rw [show (u : Int) * 256 = ((u * 256 : Nat) : Int) by omega, h1, h2]

set_option maxHeartbeats 1600000 in
theorem number_any (w : World) (g : Nat) (A : Option Addr) (m c k : Nat) (L : List UInt8) (h : Lf w g A m c L) (hm : m ≤ 140737488351232) (hk : k ≤ 8) :
    Calls Try.prog 47 #[.pointer (some ⟨g, 0, none⟩), .int .i64 (k : Int)] w (NumTo w g L k) := by
  have c1 := next_any w g A m c k L h hm (by omega)
  clear h
  go_enter Try.func47, Try.ntmps47
  go_wp2_with fail
  refine c1.mono ?_
  rintro e w1 ⟨A, m', cc, A', c', rfl, hln, hw, hle, hnil, hR, hL⟩
  have HR := Lib.hid hR
  have Fin : Hid (∃ A m c, w1 = w.setCell ⟨g, 0, none⟩ (.slice A m c) ∧ Lf w1 g A m c (L.drop k)) := Lib.hid ⟨_, _, _, hw, hL⟩
  have hl2 : (L.take k).length = min k m' := by rw [List.length_take, hln]
  have hl8 : min k m' ≤ 8 := by omega
  generalize min k m' = n at *
  generalize hM : L.take k = M at *
  have HM := Lib.hid hM
  clear hM
  have Hl := Lib.hid hl2
  clear c1 hw hR hL hln hl2 hm hnil
  go_wp2_with fail
  go_loop [5, 12] (fun u i => ∃ j : Nat, j ≤ n ∧ i = .int .i64 j ∧ u = .int .u64 (num (M.take j) : Nat)) (fun _ i => n - (intOf i).toNat)
  case atStart => exact ⟨0, Nat.zero_le _, rfl, rfl⟩
  case round =>
    obtain ⟨j, hj, rfl, rfl⟩ := hrel
    by_cases hlt : j < n
    · have hjl : j < M.length := by rw [Hl.out]; exact hlt
      obtain ⟨b, o, hl, rfl, hbl, hcell⟩ := HR.out.at_map hlt
      have hts : num (M.take (j + 1)) = num (M.take j) * 256 + M[j].toNat := by
        rw [List.take_succ_eq_append_getElem hjl, num_snoc]
      have hu := num_lt (M.take j)
      have hu2 : num (M.take j) < 72057594037927936 := by
        rw [List.length_take, Nat.min_eq_left (by omega)] at hu
        exact Nat.lt_of_lt_of_le hu (Nat.le_trans (Nat.pow_le_pow_right (by omega) (show j ≤ 7 by omega)) (by decide))
      have Hts := Lib.hid hts
      clear hts hu
      generalize num (M.take j) = u at *
      generalize M[j] = q at *
      have hq := q.toNat_lt
      have hor := or_byte u q hu2
      have hu0 : (0 : Int) ≤ (u : Int) := by omega
      have hu1 : (u : Int) < 72057594037927936 := by omega
      go_wp2
      go_round
      case rel => exact ⟨j + 1, by omega, by go_num, by rw [Hts.out]; go_num⟩
      case measure => simp [intOf]; omega
    · obtain rfl : j = n := by omega
      have ht : Hid (M.take j = M) := Lib.hid (List.take_of_length_le (by rw [Hl.out]; exact Nat.le_refl _))
      rw [ht.out]
      have hu := num_lt M
      have hu2 : num M < 18446744073709551616 := by
        rw [Hl.out] at hu
        exact Nat.lt_of_lt_of_le hu (Nat.le_trans (Nat.pow_le_pow_right (by omega) hl8) (by decide))
      clear hu
      generalize hxx : num M = u at *
      have Hx := Lib.hid hxx
      clear hxx
      have hu0 : (0 : Int) ≤ (u : Int) := by omega
      have hu1 : (u : Int) < 18446744073709551616 := by omega
      go_wp2
      go_ret
      exact ⟨by rw [HM.out, Hx.out]; rfl, Fin.out⟩
end Go.Proofs.Ytceekocfmbcobaa.Cu
end

section
/- What Decode says; bytes turned to text. -/
namespace Go.Proofs.Ytceekocfmbcobaa.Cu
open Go.RowKit Go.Proofs.Ytceekocfmbcobaa Go.Proofs.Ytceekocfmbcobaa.Cr Go.Proofs.Ytceekocfmbcobaa.Qp Go.Proofs.Ytceekocfmbcobaa.Qy
set_option linter.unusedSimpArgs false

/-- The cursor of bytes: that whose bytes they are, or none. -/
def DecR (L : List UInt8) (a : Int) (q : ByteArray) (E : Int) : Prop :=
  (∃ n : Nat, a = n ∧ IsC a q ∧ L = enc n q.data.toList ∧ E = 0) ∨ ((∀ (n : Nat) (q' : ByteArray), IsC n q' → L ≠ enc n q'.data.toList) ∧ a = 0 ∧ q = ⟨#[]⟩ ∧ E = 250)
theorem arr_eq {q q' : ByteArray} (h : q.data.toList = q'.data.toList) : q = q' := by
  cases q; cases q'
  congr 1
  exact Array.toList_inj.1 h
theorem IsC.enc_inj {n n' : Nat} {q q' : ByteArray} (h : IsC n q) (h' : IsC n' q') (e : enc n q.data.toList = enc n' q'.data.toList) : n = n' ∧ q = q' := by
  have h1 := h.short
  have h1' := h'.short
  obtain ⟨e1, e2⟩ := Cu.enc_inj (by have := h.2.1; omega) (by have := h'.2.1; omega) (by rw [bsize]; omega) (by rw [bsize]; omega) e
  exact ⟨e1, arr_eq e2⟩
theorem DecR.det {L : List UInt8} {a a' : Int} {q q' : ByteArray} {E E' : Int} (h : DecR L a q E) (h' : DecR L a' q' E') : a = a' ∧ q = q' ∧ E = E' := by
  rcases h with ⟨n, rfl, h1, h2, h3⟩ | ⟨h0, h1, h2, h3⟩ <;> rcases h' with ⟨n', rfl, g1, g2, g3⟩ | ⟨g0, g1, g2, g3⟩
  · obtain ⟨e1, e2⟩ := h1.enc_inj g1 (h2.symm.trans g2)
    exact ⟨by rw [e1], e2, h3.trans g3.symm⟩
  · exact absurd h2 (g0 n q h1)
  · exact absurd g2 (h0 n' q' g1)
  · exact ⟨h1.trans g1.symm, h2.trans g2.symm, h3.trans g3.symm⟩
/-- What Decode hands back. -/
def DecTo (w : World) (L : List UInt8) (e : Ending) (w' : World) : Prop := ∃ (a : Int) (q : ByteArray) (E : Int), DecR L a q E ∧ e = .returned (.tuple #[.agg #[.int .i64 a, .string q], .int .i64 E]) ∧ Below w.heap.size w w'
/-- What is read of bytes, put to the test. -/
theorem decR_of {L : List UInt8} {z : Int} {q : ByteArray} (hz : aOf L < 9223372036854775808 → z = aOf L) (hq : q.data.toList = qOf L ∨ q.data.toList = qRef L) : (∃ n : Nat, z = n ∧ IsC z q ∧ enc n q.data.toList = L) ∨ ∀ (n : Nat) (q' : ByteArray), IsC n q' → L ≠ enc n q'.data.toList := by
  by_cases h : ∃ (n : Nat) (q' : ByteArray), IsC n q' ∧ L = enc n q'.data.toList
  · obtain ⟨n, q', h1, rfl⟩ := h
    left
    have hs := h1.short
    have hn : n ≤ 1099511627776 := by have := h1.2.1; omega
    have ha := aOf_enc n q'.data.toList (by omega)
    rw [ha] at hz
    have e1 := hz (by omega)
    have e2 : q = q' := by
      rcases hq with hq | hq
      · rw [qOf_enc n q'.data.toList (by rw [bsize]; omega)] at hq
        exact arr_eq hq
      · rw [qRef_enc n q'.data.toList] at hq
        exact arr_eq hq
    subst e1 e2
    exact ⟨n, rfl, h1, rfl⟩
  · right
    intro n q' h1 h2
    exact h ⟨n, q', h1, h2⟩
theorem nums_bytes (L : List UInt8) : strOfNums (L.map fun x => (x.toNat : Int)) = ⟨L.toArray⟩ := by
  have h : (L.map fun x => (x.toNat : Int)).map (fun n => UInt8.ofNat n.toNat) = L := by
    rw [List.map_map]
    conv => rhs; rw [← List.map_id L]
    apply List.map_congr_left
    intro x _
    simp
  unfold strOfNums
  rw [h]
/-- Bytes turned to text. -/
theorem conv_str {w : World} {A : Option Addr} {n : Nat} (c : Nat) {L : List UInt8} {B : Nat} (hR : Reads w B 1 A n (bv L)) : (convert 41 9 (.slice A n c)).run Try.prog w = .ok (.string ⟨L.toArray⟩) w := by
  have hln : L.length = n := by have := hR.1; rw [bv_len] at this; omega
  by_cases h0 : n = 0
  · subst h0
    obtain rfl := List.eq_nil_of_length_eq_zero hln
    cases A with
    | none => exact run_convert_bytes_nil w 41 5 Try.underlying41 Try.underlying5 0 c 9 Try.underlying9
    | some a =>
      rw [run_convert_bytes_string w 41 9 5 _ 0 c Try.underlying41 Try.underlying5 Try.underlying9,
        run_bytesToString w a 0 c [] (by simp [loadCells, loadCellsFrom])]
      rfl
  · obtain ⟨b, o, rfl, _, hc⟩ := hR.2 (by omega)
    have := run_convert_bytes_arg w 41 5 Try.underlying41 Try.underlying5 b o n c (L.map fun x => (x.toNat : Int)) (by rw [List.length_map, hln]) (fun i hi => by
      rw [hc i (.int .u8 ((L[i]'(by omega)).toNat : Int)) (by unfold bv; rw [List.getElem?_map, List.getElem?_eq_getElem (by omega)]; rfl)]
      simp [List.getD, List.getElem?_map, List.getElem?_eq_getElem (show i < L.length by omega)]) 9 Try.underlying9
    rw [this, nums_bytes]
end Go.Proofs.Ytceekocfmbcobaa.Cu
end
