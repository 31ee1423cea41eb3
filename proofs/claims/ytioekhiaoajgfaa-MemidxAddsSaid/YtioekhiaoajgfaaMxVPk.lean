/- loggialaw14.same: the walk (printed by gen_mxv.py). -/
import Derived.Test.YtioekhiaoajgfaaMxAPk
import Derived.Test.YtioekhiaoajgfaaPkMemidxAddsRow29
import Derived.Test.YtioekhiaoajgfaaPkMemidxAddsRow35
import Derived.Test.YtioekhiaoajgfaaGrowPk
namespace Go.Proofs.Ytioekhiaoajgfaa.Mx
open Go.RowKit Go.Proofs.Ytioekhiaoajgfaa Go.Proofs.Ytioekhiaoajgfaa.Ut Go.Proofs.Ytioekhiaoajgfaa.Tk Go.Proofs.Ytioekhiaoajgfaa.Qy Go.Proofs.Ytioekhiaoajgfaa.Ev Go.Proofs.Ytioekhiaoajgfaa.Qp Go.Proofs.Ytioekhiaoajgfaa.Mv
set_option linter.unusedVariables false
set_option linter.unusedSimpArgs false
set_option maxRecDepth 40000

theorem RIx.docs {w : World} {Rr : Nat → Prop} {B : Nat} {A : Option Addr} {n c : Nat} {ds : List Dc} (h : RIx w Rr B A n c ds) : DocRd w A n ds :=
  DocRd.of h.rd h.lt (fun b hb => hb.elim (h.lt b) (fun q => Nat.lt_of_lt_of_le q h.bw))
theorem RIx.fl {w : World} {Rr : Nat → Prop} {B : Nat} {A : Option Addr} {n c : Nat} {ds : List Dc} (h : RIx w Rr B A n c ds) (hok : Dok ds) {i : Nat} (hi : i < ds.length) (Fa : Option Addr) (fn fc : Nat) (hc : ∃ b o, A = some ⟨b, o, none⟩ ∧ w.cell? ⟨b, o + i * 3 + 2, none⟩ = some (.slice Fa fn fc)) : FlAt w w.heap.size Fa fn fc ds[i].fs := by
  obtain ⟨b, o, F', fn', fc', e, hb, c0, c1, c2, r, q1, q2, q3, q4⟩ := h.rd.at_ hi
  obtain ⟨b', o', e', hc⟩ := hc
  rw [e] at e'
  injection e' with e'
  injection e' with e1 e2
  subst e1 e2
  rw [hc] at c2
  injection c2 with c2
  injection c2 with a1 a2 a3
  subst a1 a2 a3
  have hk := chkE_ok (hok _ (List.getElem_mem hi)).1
  exact ⟨r.reads (fun b hb => hb.elim (h.lt b) (fun q => Nat.lt_of_lt_of_le q h.bw)), q1, q2, q3, fun f hf => ⟨by have := (hk.2 f hf).2.1; omega, by have := (hk.2 f hf).2.2; omega⟩, q4⟩
theorem docAt_some {ds : List Dc} {i : Int} {d : Dc} (h : docAt ds i = some d) : ∃ j : Nat, i = (j : Int) ∧ ∃ hj : j < ds.length, ds[j] = d := by
  unfold docAt at h
  split at h
  · rename_i h0
    obtain ⟨h1, h2⟩ := List.getElem?_eq_some_iff.1 h
    exact ⟨i.toNat, by omega, h1, h2⟩
  · cases h
theorem docAt_none {ds : List Dc} {i : Int} (h : docAt ds i = none) : i < 0 ∨ (0 ≤ i ∧ (ds.length : Int) ≤ i) := by
  unfold docAt at h
  split at h
  · rename_i h0
    have := List.getElem?_eq_none_iff.1 h
    exact .inr ⟨h0, by omega⟩
  · exact .inl (by omega)
set_option maxHeartbeats 6400000 in
theorem same_any (i : Int) {w : World} {n0 X : Nat} {O : Nat → Prop} {ds : List Dc} {Rr : Nat → Prop} {B : Nat} {A : Option Addr} {n c : Nat} (hI : IxD w n0 X O ds) (hR : RIx w Rr B A n c ds) :
    Calls Try.prog 16 #[.pointer (some ⟨X, 0, none⟩), .agg #[.slice A n c], .int .i64 i] w fun e w' => e = .returned (.bool true) ∧ Below w.heap.size w w' := by
  obtain ⟨M, cn, v, F, hIx, _⟩ := hI.ex
  have OK := Lib.hid hI.ok
  have hfew := hI.few
  have hn : n = ds.length := hR.rd.ln.symm
  subst hn
  have hB1 : Below w.heap.size w (w.alloc (.cells #[.slice A ds.length c] 30)) := (Below.refl _ _).alloc (Nat.le_refl _) _
  have hX1 := Blk.new w 30 #[.slice A ds.length c]
  generalize hw1 : w.alloc (.cells #[.slice A ds.length c] 30) = w1 at *
  have HIX : Hid (∀ wx, Below w1.heap.size w1 wx → Idx wx n0 X M cn v F (fun b => n0 ≤ b ∧ b < wx.heap.size) ds (szD ds) (loD ds) (hiD ds) (postsT (ds.map (·.fs)))) := Lib.hid (fun wx hb => hIx.later (hB1.trans (hb.mono hB1.size)))
  have HRX : Hid (∀ wx, Below w1.heap.size w1 wx → RIx wx (fun b => b < wx.heap.size) B A ds.length c ds) := Lib.hid (fun wx hb => hR.below (hB1.trans (hb.mono hB1.size)) (fun b hb' => Nat.lt_of_lt_of_le (hR.lt b hb') (hB1.trans (hb.mono hB1.size)).size) (fun b hb => hb))
  have HX : Hid (∀ wx, Below w1.heap.size w1 wx → wx.cell? ⟨w.heap.size, 0, none⟩ = some (.slice A ds.length c)) := Lib.hid (fun wx hb => by
    have := (hX1.below hb hX1.lt).cell 0
    simpa using this)
  have HB1 := Lib.hid hB1
  obtain ⟨ta, tb, tc, ht⟩ : ∃ ta tb tc, timesV ds (loD ds) (hiD ds) = .tuple #[.int .i64 ta, .int .i64 tb, .bool tc] := ⟨_, _, _, rfl⟩
  obtain ⟨sa, sb, hs⟩ : ∃ sa sb, seqsV ds = .tuple #[.int .i64 sa, .int .i64 sb] := ⟨_, _, rfl⟩
  have HT := Lib.hid ht
  have HS := Lib.hid hs
  clear hIx hR hI hB1 hX1 ht hs
  go_enter Try.func16, Try.ntmps16
  go_upto_region 1 with fail
  try rw [hw1]
  clear hw1
  go_wp2_with fail
  refine (times_any (HIX.out w1 (Below.refl _ _))).mono ?_
  rintro e w2 ⟨rfl, hb2⟩
  rw [HT.out]
  have x0 := HX.out w2 hb2
  have H2 := Lib.hid hb2
  clear hb2
  go_wp2_with fail
  refine (rtimes_any A ds.length c ds w2 (HRX.out w2 H2.out).docs hfew).mono ?_
  rintro e w3 ⟨rfl, hb3⟩
  rw [HT.out]
  have H3 := Lib.hid (H2.out.trans (hb3.mono H2.out.size))
  clear hb3 H2 x0
  go_wp2_with fail
  refine (seqs_any (HIX.out w3 H3.out) hfew).mono ?_
  rintro e w4 ⟨rfl, hb4⟩
  rw [HS.out]
  have H4 := Lib.hid (H3.out.trans (hb4.mono H3.out.size))
  have x0 := HX.out w4 H4.out
  clear hb4 H3
  go_wp2_with fail
  refine (rseqs_any A ds.length c ds w4 (HRX.out w4 H4.out).docs hfew).mono ?_
  rintro e w5 ⟨rfl, hb5⟩
  rw [HS.out]
  have H5 := Lib.hid (H4.out.trans (hb5.mono H4.out.size))
  clear hb5 H4 x0
  go_wp2_with fail
  refine (docI_any i (HIX.out w5 H5.out) OK.out hfew).mono ?_
  intro e w6 hdp
  unfold DocPost at hdp
  cases hda : docAt ds i with
  | none =>
    simp only [hda] at hdp
    obtain ⟨rfl, hb6⟩ := hdp
    have hb7 : Below w6.heap.size w6 (w6.alloc (.cells #[.int .i64 0, .int .i64 0, .slice none 0 0] 43)) := (Below.refl _ _).alloc (Nat.le_refl _) _
    have hP := Blk.new w6 43 #[.int .i64 0, .int .i64 0, .slice none 0 0]
    have H7 := Lib.hid ((H5.out.trans (hb6.mono H5.out.size)).trans (hb7.mono (H5.out.trans (hb6.mono H5.out.size)).size))
    have hi := docAt_none hda
    clear hb6 hda H5 hb7
    go_upto_region 6 with fail
    generalize hw7 : (w6.alloc (.cells #[.int .i64 0, .int .i64 0, .slice none 0 0] 43)) = w7 at *
    clear hw7
    have x0 := HX.out w7 H7.out
    have p0 := hP.cell 0
    have p1 := hP.cell 1
    have p2 := hP.cell 2
    simp only [List.getElem?_toArray, List.getElem?_cons_zero, List.getElem?_cons_succ] at p0 p1 p2
    have C8 := Lib.hid (sameE_eq 0 none none 0 0 0 [] w7 ⟨rfl, fun h => by omega⟩ ⟨rfl, fun h => by omega⟩ rfl (by omega))
    clear hP
    rcases hi with hi | ⟨hi0, hi1⟩
    · have hd1 : decide (i < 0) = true := decide_eq_true hi
      go_wp2_with fail
      refine C8.out.mono ?_
      rintro e w8 ⟨rfl, hb8⟩
      have H8 := Lib.hid (H7.out.trans (hb8.mono H7.out.size))
      clear hb8 C8 x0 p0 p1 p2 H7
      have HC8 : Hid (∀ wx, Below w8.heap.size w8 wx → wx.cell? ⟨w.heap.size, 0, none⟩ = some (.slice A ds.length c)) := Lib.hid (fun wx hb => HX.out wx (H8.out.trans (hb.mono H8.out.size)))
      go_upto_region 11 with (fail)
      refine wp_region_grow (specOf [(25, ⟨Unit, fun _ => .int .i64 (ds.length : Nat), fun _ _ => True⟩), (33, ⟨Unit, fun _ => .int .i64 (szD ds : Nat), fun _ _ => True⟩), (35, ⟨Unit, fun _ => .int .i64 (szD ds : Nat), fun _ _ => True⟩)]) (fun wx => Below (World.heap w8).size w8 wx) (fun w1 w2 => Below w1.heap.size w1 w2) (by kernel_rfl) (by kernel_rfl) (stab_cons (fun _ _ _ _ _ => trivial) (stab_cons (fun _ _ _ _ _ => trivial) (stab_cons (fun _ _ _ _ _ => trivial) (stab_nil)))) (Below.refl _ _).drew ?_
      refine grow_fix 1 ?_ rfl (by rfl) (by rfl) (fun wx hC hD => ?_) ?_
      rotate_left
      · have hSw := HC8.out wx hC
        go_simp
        all_goals with_reducible rfl
      try simp only [Act.put, List.setIfInBounds_toArray, List.set_cons_zero, List.set_cons_succ]
      refine grow_fix 2 ?_ rfl (by rfl) (by rfl) (fun wx hC hD => ?_) ?_
      rotate_left
      · have hSw := HC8.out wx hC
        go_simp
        all_goals with_reducible rfl
      try simp only [Act.put, List.setIfInBounds_toArray, List.set_cons_zero, List.set_cons_succ]
      refine grow_fix 3 ?_ rfl (by rfl) (by rfl) (fun wx hC hD => ?_) ?_
      rotate_left
      · have hSw := HC8.out wx hC
        go_simp
        all_goals with_reducible rfl
      try simp only [Act.put, List.setIfInBounds_toArray, List.set_cons_zero, List.set_cons_succ]
      refine grow_fix 4 ?_ rfl (by rfl) (by rfl) (fun wx hC hD => ?_) ?_
      rotate_left
      · have hSw := HC8.out wx hC
        go_simp
        all_goals with_reducible rfl
      try simp only [Act.put, List.setIfInBounds_toArray, List.set_cons_zero, List.set_cons_succ]
      refine grow_fix 5 ?_ rfl (by rfl) (by rfl) (fun wx hC hD => ?_) ?_
      rotate_left
      · have hSw := HC8.out wx hC
        go_simp
        all_goals with_reducible rfl
      try simp only [Act.put, List.setIfInBounds_toArray, List.set_cons_zero, List.set_cons_succ]
      refine grow_fix 6 ?_ rfl (by rfl) (by rfl) (fun wx hC hD => ?_) ?_
      rotate_left
      · have hSw := HC8.out wx hC
        go_simp
        all_goals with_reducible rfl
      try simp only [Act.put, List.setIfInBounds_toArray, List.set_cons_zero, List.set_cons_succ]
      refine grow_fix 7 ?_ rfl (by rfl) (by rfl) (fun wx hC hD => ?_) ?_
      rotate_left
      · have hSw := HC8.out wx hC
        go_simp
        all_goals with_reducible rfl
      try simp only [Act.put, List.setIfInBounds_toArray, List.set_cons_zero, List.set_cons_succ]
      refine grow_fix 8 ?_ rfl (by rfl) (by rfl) (fun wx hC hD => ?_) ?_
      rotate_left
      · have hSw := HC8.out wx hC
        go_simp
        all_goals with_reducible rfl
      try simp only [Act.put, List.setIfInBounds_toArray, List.set_cons_zero, List.set_cons_succ]
      refine grow_fix 9 ?_ rfl (by rfl) (by rfl) (fun wx hC hD => ?_) ?_
      rotate_left
      · have hSw := HC8.out wx hC
        go_simp
        all_goals with_reducible rfl
      try simp only [Act.put, List.setIfInBounds_toArray, List.set_cons_zero, List.set_cons_succ]
      refine grow_fix 10 ?_ rfl (by rfl) (by rfl) (fun wx hC hD => ?_) ?_
      rotate_left
      · have hSw := HC8.out wx hC
        go_simp
        all_goals with_reducible rfl
      try simp only [Act.put, List.setIfInBounds_toArray, List.set_cons_zero, List.set_cons_succ]
      refine grow_fix 11 ?_ rfl (by rfl) (by rfl) (fun wx hC hD => ?_) ?_
      rotate_left
      · have hSw := HC8.out wx hC
        go_simp
        all_goals with_reducible rfl
      try simp only [Act.put, List.setIfInBounds_toArray, List.set_cons_zero, List.set_cons_succ]
      refine grow_fix 12 ?_ rfl (by rfl) (by rfl) (fun wx hC hD => ?_) ?_
      rotate_left
      · have hSw := HC8.out wx hC
        go_simp
        all_goals with_reducible rfl
      try simp only [Act.put, List.setIfInBounds_toArray, List.set_cons_zero, List.set_cons_succ]
      refine grow_fix 13 ?_ rfl (by rfl) (by rfl) (fun wx hC hD => ?_) ?_
      rotate_left
      · have hSw := HC8.out wx hC
        go_simp
        all_goals with_reducible rfl
      try simp only [Act.put, List.setIfInBounds_toArray, List.set_cons_zero, List.set_cons_succ]
      refine grow_fix 14 ?_ rfl (by rfl) (by rfl) (fun wx hC hD => ?_) ?_
      rotate_left
      · have hSw := HC8.out wx hC
        go_simp
        all_goals with_reducible rfl
      try simp only [Act.put, List.setIfInBounds_toArray, List.set_cons_zero, List.set_cons_succ]
      refine grow_fix 15 ?_ rfl (by rfl) (by rfl) (fun wx hC hD => ?_) ?_
      rotate_left
      · have hSw := HC8.out wx hC
        go_simp
        all_goals with_reducible rfl
      try simp only [Act.put, List.setIfInBounds_toArray, List.set_cons_zero, List.set_cons_succ]
      refine grow_fix 16 ?_ rfl (by rfl) (by rfl) (fun wx hC hD => ?_) ?_
      rotate_left
      · have hSw := HC8.out wx hC
        go_simp
        all_goals with_reducible rfl
      try simp only [Act.put, List.setIfInBounds_toArray, List.set_cons_zero, List.set_cons_succ]
      refine grow_fix 17 ?_ rfl (by rfl) (by rfl) (fun wx hC hD => ?_) ?_
      rotate_left
      · have hSw := HC8.out wx hC
        go_simp
        all_goals with_reducible rfl
      try simp only [Act.put, List.setIfInBounds_toArray, List.set_cons_zero, List.set_cons_succ]
      refine grow_fix 18 ?_ rfl (by rfl) (by rfl) (fun wx hC hD => ?_) ?_
      rotate_left
      · have hSw := HC8.out wx hC
        go_simp
        all_goals with_reducible rfl
      try simp only [Act.put, List.setIfInBounds_toArray, List.set_cons_zero, List.set_cons_succ]
      refine grow_fix 19 ?_ rfl (by rfl) (by rfl) (fun wx hC hD => ?_) ?_
      rotate_left
      · have hSw := HC8.out wx hC
        go_simp
        all_goals with_reducible rfl
      try simp only [Act.put, List.setIfInBounds_toArray, List.set_cons_zero, List.set_cons_succ]
      refine grow_fix 20 ?_ rfl (by rfl) (by rfl) (fun wx hC hD => ?_) ?_
      rotate_left
      · have hSw := HC8.out wx hC
        go_simp
        all_goals with_reducible rfl
      try simp only [Act.put, List.setIfInBounds_toArray, List.set_cons_zero, List.set_cons_succ]
      refine grow_fix 21 ?_ rfl (by rfl) (by rfl) (fun wx hC hD => ?_) ?_
      rotate_left
      · have hSw := HC8.out wx hC
        go_simp
        all_goals with_reducible rfl
      try simp only [Act.put, List.setIfInBounds_toArray, List.set_cons_zero, List.set_cons_succ]
      refine grow_fix 22 ?_ rfl (by rfl) (by rfl) (fun wx hC hD => ?_) ?_
      rotate_left
      · have hSw := HC8.out wx hC
        go_simp
        all_goals with_reducible rfl
      try simp only [Act.put, List.setIfInBounds_toArray, List.set_cons_zero, List.set_cons_succ]
      refine grow_fix 23 ?_ rfl (by rfl) (by rfl) (fun wx hC hD => ?_) ?_
      rotate_left
      · have hSw := HC8.out wx hC
        go_simp
        all_goals with_reducible rfl
      try simp only [Act.put, List.setIfInBounds_toArray, List.set_cons_zero, List.set_cons_succ]
      refine grow_fix 24 ?_ rfl (by rfl) (by rfl) (fun wx hC hD => ?_) ?_
      rotate_left
      · have hSw := HC8.out wx hC
        go_simp
        all_goals with_reducible rfl
      try simp only [Act.put, List.setIfInBounds_toArray, List.set_cons_zero, List.set_cons_succ]
      refine grow_fix 25 ?_ rfl (by rfl) (by rfl) (fun wx hC hD => ?_) ?_
      rotate_left
      · have hSw := HC8.out wx hC
        go_simp
        all_goals with_reducible rfl
      try simp only [Act.put, List.setIfInBounds_toArray, List.set_cons_zero, List.set_cons_succ]
      refine grow_give 26 _ rfl (by rfl) (by rfl) (fun wx hC hD => ?_) (fun x => ?_)
      · refine give_enter (f := ?_) (args := ?_) ?_ ?_
        rotate_left 2
        · have hSw := HC8.out wx hC
          go_simp
          all_goals first | with_reducible rfl | (refine ⟨?_, ?_⟩ <;> with_reducible rfl)
        refine (len_any (HIX.out wx (H8.out.trans (hC.mono H8.out.size)))).mono ?_
        rintro e w9 ⟨rfl, rfl⟩
        exact ⟨_, rfl, Below.refl _ _, hC, (), rfl, trivial⟩
      obtain _ := x
      try simp only [Act.put, List.setIfInBounds_toArray, List.set_cons_zero, List.set_cons_succ]
      refine grow_fix 27 ?_ rfl (by rfl) (by rfl) (fun wx hC hD => ?_) ?_
      rotate_left
      · have hSw := HC8.out wx hC
        go_simp
        all_goals with_reducible rfl
      try simp only [Act.put, List.setIfInBounds_toArray, List.set_cons_zero, List.set_cons_succ]
      refine grow_fix 28 ?_ rfl (by rfl) (by rfl) (fun wx hC hD => ?_) ?_
      rotate_left
      · have hSw := HC8.out wx hC
        go_simp
        all_goals with_reducible rfl
      try simp only [Act.put, List.setIfInBounds_toArray, List.set_cons_zero, List.set_cons_succ]
      refine grow_fix 29 ?_ rfl (by rfl) (by rfl) (fun wx hC hD => ?_) ?_
      rotate_left
      · have hSw := HC8.out wx hC
        go_simp
        all_goals with_reducible rfl
      try simp only [Act.put, List.setIfInBounds_toArray, List.set_cons_zero, List.set_cons_succ]
      refine grow_fix 30 ?_ rfl (by rfl) (by rfl) (fun wx hC hD => ?_) ?_
      rotate_left
      · have hSw := HC8.out wx hC
        go_simp
        all_goals with_reducible rfl
      try simp only [Act.put, List.setIfInBounds_toArray, List.set_cons_zero, List.set_cons_succ]
      refine grow_fix 31 ?_ rfl (by rfl) (by rfl) (fun wx hC hD => ?_) ?_
      rotate_left
      · have hSw := HC8.out wx hC
        go_simp
        all_goals with_reducible rfl
      try simp only [Act.put, List.setIfInBounds_toArray, List.set_cons_zero, List.set_cons_succ]
      refine grow_fix 32 ?_ rfl (by rfl) (by rfl) (fun wx hC hD => ?_) ?_
      rotate_left
      · have hSw := HC8.out wx hC
        go_simp
        all_goals with_reducible rfl
      try simp only [Act.put, List.setIfInBounds_toArray, List.set_cons_zero, List.set_cons_succ]
      refine grow_fix 33 ?_ rfl (by rfl) (by rfl) (fun wx hC hD => ?_) ?_
      rotate_left
      · have hSw := HC8.out wx hC
        go_simp
        all_goals with_reducible rfl
      try simp only [Act.put, List.setIfInBounds_toArray, List.set_cons_zero, List.set_cons_succ]
      refine grow_give 34 _ rfl (by rfl) (by rfl) (fun wx hC hD => ?_) (fun x => ?_)
      · refine give_enter (f := ?_) (args := ?_) ?_ ?_
        rotate_left 2
        · have hSw := HC8.out wx hC
          go_simp
          all_goals first | with_reducible rfl | (refine ⟨?_, ?_⟩ <;> with_reducible rfl)
        refine (sizeX_any (HIX.out wx (H8.out.trans (hC.mono H8.out.size)))).mono ?_
        rintro e w9 ⟨rfl, rfl⟩
        exact ⟨_, rfl, Below.refl _ _, hC, (), rfl, trivial⟩
      obtain _ := x
      try simp only [Act.put, List.setIfInBounds_toArray, List.set_cons_zero, List.set_cons_succ]
      refine grow_fix 35 ?_ rfl (by rfl) (by rfl) (fun wx hC hD => ?_) ?_
      rotate_left
      · have hSw := HC8.out wx hC
        go_simp
        all_goals with_reducible rfl
      try simp only [Act.put, List.setIfInBounds_toArray, List.set_cons_zero, List.set_cons_succ]
      refine grow_give 36 _ rfl (by rfl) (by rfl) (fun wx hC hD => ?_) (fun x => ?_)
      · refine give_enter (f := ?_) (args := ?_) ?_ ?_
        rotate_left 2
        · have hSw := HC8.out wx hC
          go_simp
          all_goals first | with_reducible rfl | (refine ⟨?_, ?_⟩ <;> with_reducible rfl)
        refine (rsizeX_any A ds.length c ds wx (HRX.out wx (H8.out.trans (hC.mono H8.out.size))).docs (fun hi Fa fn fc h => (HRX.out wx (H8.out.trans (hC.mono H8.out.size))).fl OK.out hi Fa fn fc h) OK.out hfew).mono ?_
        rintro e w9 ⟨rfl, hb9⟩
        exact ⟨_, rfl, hb9, hC.trans (hb9.mono hC.size), (), rfl, trivial⟩
      obtain _ := x
      try simp only [Act.put, List.setIfInBounds_toArray, List.set_cons_zero, List.set_cons_succ]
      refine grow_fix 37 ?_ rfl (by rfl) (by rfl) (fun wx hC hD => ?_) ?_
      rotate_left
      · have hSw := HC8.out wx hC
        go_simp
        all_goals with_reducible rfl
      try simp only [Act.put, List.setIfInBounds_toArray, List.set_cons_zero, List.set_cons_succ]
      refine grow_fix 38 ?_ rfl (by rfl) (by rfl) (fun wx hC hD => ?_) ?_
      rotate_left
      · have hSw := HC8.out wx hC
        go_simp
        all_goals with_reducible rfl
      try simp only [Act.put, List.setIfInBounds_toArray, List.set_cons_zero, List.set_cons_succ]
      refine grow_fix 39 ?_ rfl (by rfl) (by rfl) (fun wx hC hD => ?_) ?_
      rotate_left
      · have hSw := HC8.out wx hC
        go_simp
        all_goals with_reducible rfl
      try simp only [Act.put, List.setIfInBounds_toArray, List.set_cons_zero, List.set_cons_succ]
      refine grow_nil (fun wF hC hF => ?_)
      go_wp2
      go_ret
      exact ⟨rfl, HB1.out.trans ((H8.out.trans (hC.mono H8.out.size)).mono HB1.out.size)⟩
    · have hd1 : ¬ i < 0 := by omega
      go_wp2_with fail
      refine C8.out.mono ?_
      rintro e w8 ⟨rfl, hb8⟩
      have H8 := Lib.hid (H7.out.trans (hb8.mono H7.out.size))
      clear hb8 C8 x0 p0 p1 p2 H7
      have HC8 : Hid (∀ wx, Below w8.heap.size w8 wx → wx.cell? ⟨w.heap.size, 0, none⟩ = some (.slice A ds.length c)) := Lib.hid (fun wx hb => HX.out wx (H8.out.trans (hb.mono H8.out.size)))
      go_upto_region 11 with (fail)
      refine wp_region_grow (specOf [(25, ⟨Unit, fun _ => .int .i64 (ds.length : Nat), fun _ _ => True⟩), (33, ⟨Unit, fun _ => .int .i64 (szD ds : Nat), fun _ _ => True⟩), (35, ⟨Unit, fun _ => .int .i64 (szD ds : Nat), fun _ _ => True⟩)]) (fun wx => Below (World.heap w8).size w8 wx) (fun w1 w2 => Below w1.heap.size w1 w2) (by kernel_rfl) (by kernel_rfl) (stab_cons (fun _ _ _ _ _ => trivial) (stab_cons (fun _ _ _ _ _ => trivial) (stab_cons (fun _ _ _ _ _ => trivial) (stab_nil)))) (Below.refl _ _).drew ?_
      refine grow_fix 1 ?_ rfl (by rfl) (by rfl) (fun wx hC hD => ?_) ?_
      rotate_left
      · have hSw := HC8.out wx hC
        go_simp
        all_goals with_reducible rfl
      try simp only [Act.put, List.setIfInBounds_toArray, List.set_cons_zero, List.set_cons_succ]
      refine grow_fix 2 ?_ rfl (by rfl) (by rfl) (fun wx hC hD => ?_) ?_
      rotate_left
      · have hSw := HC8.out wx hC
        go_simp
        all_goals with_reducible rfl
      try simp only [Act.put, List.setIfInBounds_toArray, List.set_cons_zero, List.set_cons_succ]
      refine grow_fix 3 ?_ rfl (by rfl) (by rfl) (fun wx hC hD => ?_) ?_
      rotate_left
      · have hSw := HC8.out wx hC
        go_simp
        all_goals with_reducible rfl
      try simp only [Act.put, List.setIfInBounds_toArray, List.set_cons_zero, List.set_cons_succ]
      refine grow_fix 4 ?_ rfl (by rfl) (by rfl) (fun wx hC hD => ?_) ?_
      rotate_left
      · have hSw := HC8.out wx hC
        go_simp
        all_goals with_reducible rfl
      try simp only [Act.put, List.setIfInBounds_toArray, List.set_cons_zero, List.set_cons_succ]
      refine grow_fix 5 ?_ rfl (by rfl) (by rfl) (fun wx hC hD => ?_) ?_
      rotate_left
      · have hSw := HC8.out wx hC
        go_simp
        all_goals with_reducible rfl
      try simp only [Act.put, List.setIfInBounds_toArray, List.set_cons_zero, List.set_cons_succ]
      refine grow_fix 6 ?_ rfl (by rfl) (by rfl) (fun wx hC hD => ?_) ?_
      rotate_left
      · have hSw := HC8.out wx hC
        go_simp
        all_goals with_reducible rfl
      try simp only [Act.put, List.setIfInBounds_toArray, List.set_cons_zero, List.set_cons_succ]
      refine grow_fix 7 ?_ rfl (by rfl) (by rfl) (fun wx hC hD => ?_) ?_
      rotate_left
      · have hSw := HC8.out wx hC
        go_simp
        all_goals with_reducible rfl
      try simp only [Act.put, List.setIfInBounds_toArray, List.set_cons_zero, List.set_cons_succ]
      refine grow_fix 8 ?_ rfl (by rfl) (by rfl) (fun wx hC hD => ?_) ?_
      rotate_left
      · have hSw := HC8.out wx hC
        go_simp
        all_goals with_reducible rfl
      try simp only [Act.put, List.setIfInBounds_toArray, List.set_cons_zero, List.set_cons_succ]
      refine grow_fix 9 ?_ rfl (by rfl) (by rfl) (fun wx hC hD => ?_) ?_
      rotate_left
      · have hSw := HC8.out wx hC
        go_simp
        all_goals with_reducible rfl
      try simp only [Act.put, List.setIfInBounds_toArray, List.set_cons_zero, List.set_cons_succ]
      refine grow_fix 10 ?_ rfl (by rfl) (by rfl) (fun wx hC hD => ?_) ?_
      rotate_left
      · have hSw := HC8.out wx hC
        go_simp
        all_goals with_reducible rfl
      try simp only [Act.put, List.setIfInBounds_toArray, List.set_cons_zero, List.set_cons_succ]
      refine grow_fix 11 ?_ rfl (by rfl) (by rfl) (fun wx hC hD => ?_) ?_
      rotate_left
      · have hSw := HC8.out wx hC
        go_simp
        all_goals with_reducible rfl
      try simp only [Act.put, List.setIfInBounds_toArray, List.set_cons_zero, List.set_cons_succ]
      refine grow_fix 12 ?_ rfl (by rfl) (by rfl) (fun wx hC hD => ?_) ?_
      rotate_left
      · have hSw := HC8.out wx hC
        go_simp
        all_goals with_reducible rfl
      try simp only [Act.put, List.setIfInBounds_toArray, List.set_cons_zero, List.set_cons_succ]
      refine grow_fix 13 ?_ rfl (by rfl) (by rfl) (fun wx hC hD => ?_) ?_
      rotate_left
      · have hSw := HC8.out wx hC
        go_simp
        all_goals with_reducible rfl
      try simp only [Act.put, List.setIfInBounds_toArray, List.set_cons_zero, List.set_cons_succ]
      refine grow_fix 14 ?_ rfl (by rfl) (by rfl) (fun wx hC hD => ?_) ?_
      rotate_left
      · have hSw := HC8.out wx hC
        go_simp
        all_goals with_reducible rfl
      try simp only [Act.put, List.setIfInBounds_toArray, List.set_cons_zero, List.set_cons_succ]
      refine grow_fix 15 ?_ rfl (by rfl) (by rfl) (fun wx hC hD => ?_) ?_
      rotate_left
      · have hSw := HC8.out wx hC
        go_simp
        all_goals with_reducible rfl
      try simp only [Act.put, List.setIfInBounds_toArray, List.set_cons_zero, List.set_cons_succ]
      refine grow_fix 16 ?_ rfl (by rfl) (by rfl) (fun wx hC hD => ?_) ?_
      rotate_left
      · have hSw := HC8.out wx hC
        go_simp
        all_goals with_reducible rfl
      try simp only [Act.put, List.setIfInBounds_toArray, List.set_cons_zero, List.set_cons_succ]
      refine grow_fix 17 ?_ rfl (by rfl) (by rfl) (fun wx hC hD => ?_) ?_
      rotate_left
      · have hSw := HC8.out wx hC
        go_simp
        all_goals with_reducible rfl
      try simp only [Act.put, List.setIfInBounds_toArray, List.set_cons_zero, List.set_cons_succ]
      refine grow_fix 18 ?_ rfl (by rfl) (by rfl) (fun wx hC hD => ?_) ?_
      rotate_left
      · have hSw := HC8.out wx hC
        go_simp
        all_goals with_reducible rfl
      try simp only [Act.put, List.setIfInBounds_toArray, List.set_cons_zero, List.set_cons_succ]
      refine grow_fix 19 ?_ rfl (by rfl) (by rfl) (fun wx hC hD => ?_) ?_
      rotate_left
      · have hSw := HC8.out wx hC
        go_simp
        all_goals with_reducible rfl
      try simp only [Act.put, List.setIfInBounds_toArray, List.set_cons_zero, List.set_cons_succ]
      refine grow_fix 20 ?_ rfl (by rfl) (by rfl) (fun wx hC hD => ?_) ?_
      rotate_left
      · have hSw := HC8.out wx hC
        go_simp
        all_goals with_reducible rfl
      try simp only [Act.put, List.setIfInBounds_toArray, List.set_cons_zero, List.set_cons_succ]
      refine grow_fix 21 ?_ rfl (by rfl) (by rfl) (fun wx hC hD => ?_) ?_
      rotate_left
      · have hSw := HC8.out wx hC
        go_simp
        all_goals with_reducible rfl
      try simp only [Act.put, List.setIfInBounds_toArray, List.set_cons_zero, List.set_cons_succ]
      refine grow_fix 22 ?_ rfl (by rfl) (by rfl) (fun wx hC hD => ?_) ?_
      rotate_left
      · have hSw := HC8.out wx hC
        go_simp
        all_goals with_reducible rfl
      try simp only [Act.put, List.setIfInBounds_toArray, List.set_cons_zero, List.set_cons_succ]
      refine grow_fix 23 ?_ rfl (by rfl) (by rfl) (fun wx hC hD => ?_) ?_
      rotate_left
      · have hSw := HC8.out wx hC
        go_simp
        all_goals with_reducible rfl
      try simp only [Act.put, List.setIfInBounds_toArray, List.set_cons_zero, List.set_cons_succ]
      refine grow_fix 24 ?_ rfl (by rfl) (by rfl) (fun wx hC hD => ?_) ?_
      rotate_left
      · have hSw := HC8.out wx hC
        go_simp
        all_goals with_reducible rfl
      try simp only [Act.put, List.setIfInBounds_toArray, List.set_cons_zero, List.set_cons_succ]
      refine grow_fix 25 ?_ rfl (by rfl) (by rfl) (fun wx hC hD => ?_) ?_
      rotate_left
      · have hSw := HC8.out wx hC
        go_simp
        all_goals with_reducible rfl
      try simp only [Act.put, List.setIfInBounds_toArray, List.set_cons_zero, List.set_cons_succ]
      refine grow_give 26 _ rfl (by rfl) (by rfl) (fun wx hC hD => ?_) (fun x => ?_)
      · refine give_enter (f := ?_) (args := ?_) ?_ ?_
        rotate_left 2
        · have hSw := HC8.out wx hC
          go_simp
          all_goals first | with_reducible rfl | (refine ⟨?_, ?_⟩ <;> with_reducible rfl)
        refine (len_any (HIX.out wx (H8.out.trans (hC.mono H8.out.size)))).mono ?_
        rintro e w9 ⟨rfl, rfl⟩
        exact ⟨_, rfl, Below.refl _ _, hC, (), rfl, trivial⟩
      obtain _ := x
      try simp only [Act.put, List.setIfInBounds_toArray, List.set_cons_zero, List.set_cons_succ]
      refine grow_fix 27 ?_ rfl (by rfl) (by rfl) (fun wx hC hD => ?_) ?_
      rotate_left
      · have hSw := HC8.out wx hC
        go_simp
        all_goals with_reducible rfl
      try simp only [Act.put, List.setIfInBounds_toArray, List.set_cons_zero, List.set_cons_succ]
      refine grow_fix 28 ?_ rfl (by rfl) (by rfl) (fun wx hC hD => ?_) ?_
      rotate_left
      · have hSw := HC8.out wx hC
        go_simp
        all_goals with_reducible rfl
      try simp only [Act.put, List.setIfInBounds_toArray, List.set_cons_zero, List.set_cons_succ]
      refine grow_fix 29 ?_ rfl (by rfl) (by rfl) (fun wx hC hD => ?_) ?_
      rotate_left
      · have hSw := HC8.out wx hC
        go_simp
        all_goals with_reducible rfl
      try simp only [Act.put, List.setIfInBounds_toArray, List.set_cons_zero, List.set_cons_succ]
      refine grow_fix 30 ?_ rfl (by rfl) (by rfl) (fun wx hC hD => ?_) ?_
      rotate_left
      · have hSw := HC8.out wx hC
        go_simp
        all_goals with_reducible rfl
      try simp only [Act.put, List.setIfInBounds_toArray, List.set_cons_zero, List.set_cons_succ]
      refine grow_fix 31 ?_ rfl (by rfl) (by rfl) (fun wx hC hD => ?_) ?_
      rotate_left
      · have hSw := HC8.out wx hC
        go_simp
        all_goals with_reducible rfl
      try simp only [Act.put, List.setIfInBounds_toArray, List.set_cons_zero, List.set_cons_succ]
      refine grow_fix 32 ?_ rfl (by rfl) (by rfl) (fun wx hC hD => ?_) ?_
      rotate_left
      · have hSw := HC8.out wx hC
        go_simp
        all_goals with_reducible rfl
      try simp only [Act.put, List.setIfInBounds_toArray, List.set_cons_zero, List.set_cons_succ]
      refine grow_fix 33 ?_ rfl (by rfl) (by rfl) (fun wx hC hD => ?_) ?_
      rotate_left
      · have hSw := HC8.out wx hC
        go_simp
        all_goals with_reducible rfl
      try simp only [Act.put, List.setIfInBounds_toArray, List.set_cons_zero, List.set_cons_succ]
      refine grow_give 34 _ rfl (by rfl) (by rfl) (fun wx hC hD => ?_) (fun x => ?_)
      · refine give_enter (f := ?_) (args := ?_) ?_ ?_
        rotate_left 2
        · have hSw := HC8.out wx hC
          go_simp
          all_goals first | with_reducible rfl | (refine ⟨?_, ?_⟩ <;> with_reducible rfl)
        refine (sizeX_any (HIX.out wx (H8.out.trans (hC.mono H8.out.size)))).mono ?_
        rintro e w9 ⟨rfl, rfl⟩
        exact ⟨_, rfl, Below.refl _ _, hC, (), rfl, trivial⟩
      obtain _ := x
      try simp only [Act.put, List.setIfInBounds_toArray, List.set_cons_zero, List.set_cons_succ]
      refine grow_fix 35 ?_ rfl (by rfl) (by rfl) (fun wx hC hD => ?_) ?_
      rotate_left
      · have hSw := HC8.out wx hC
        go_simp
        all_goals with_reducible rfl
      try simp only [Act.put, List.setIfInBounds_toArray, List.set_cons_zero, List.set_cons_succ]
      refine grow_give 36 _ rfl (by rfl) (by rfl) (fun wx hC hD => ?_) (fun x => ?_)
      · refine give_enter (f := ?_) (args := ?_) ?_ ?_
        rotate_left 2
        · have hSw := HC8.out wx hC
          go_simp
          all_goals first | with_reducible rfl | (refine ⟨?_, ?_⟩ <;> with_reducible rfl)
        refine (rsizeX_any A ds.length c ds wx (HRX.out wx (H8.out.trans (hC.mono H8.out.size))).docs (fun hi Fa fn fc h => (HRX.out wx (H8.out.trans (hC.mono H8.out.size))).fl OK.out hi Fa fn fc h) OK.out hfew).mono ?_
        rintro e w9 ⟨rfl, hb9⟩
        exact ⟨_, rfl, hb9, hC.trans (hb9.mono hC.size), (), rfl, trivial⟩
      obtain _ := x
      try simp only [Act.put, List.setIfInBounds_toArray, List.set_cons_zero, List.set_cons_succ]
      refine grow_fix 37 ?_ rfl (by rfl) (by rfl) (fun wx hC hD => ?_) ?_
      rotate_left
      · have hSw := HC8.out wx hC
        go_simp
        all_goals with_reducible rfl
      try simp only [Act.put, List.setIfInBounds_toArray, List.set_cons_zero, List.set_cons_succ]
      refine grow_fix 38 ?_ rfl (by rfl) (by rfl) (fun wx hC hD => ?_) ?_
      rotate_left
      · have hSw := HC8.out wx hC
        go_simp
        all_goals with_reducible rfl
      try simp only [Act.put, List.setIfInBounds_toArray, List.set_cons_zero, List.set_cons_succ]
      refine grow_fix 39 ?_ rfl (by rfl) (by rfl) (fun wx hC hD => ?_) ?_
      rotate_left
      · have hSw := HC8.out wx hC
        go_simp
        all_goals with_reducible rfl
      try simp only [Act.put, List.setIfInBounds_toArray, List.set_cons_zero, List.set_cons_succ]
      refine grow_nil (fun wF hC hF => ?_)
      go_wp2
      go_ret
      exact ⟨rfl, HB1.out.trans ((H8.out.trans (hC.mono H8.out.size)).mono HB1.out.size)⟩
  | some d =>
    simp only [hda] at hdp
    obtain ⟨A6, c6, rfl, hc6, hn6, hr6, hb6⟩ := hdp
    obtain ⟨j, rfl, hj, hdj⟩ := docAt_some hda
    have hb7 : Below w6.heap.size w6 (w6.alloc (.cells #[.int .i64 d.seq, .int .i64 d.at_, .slice A6 d.fs.length c6] 43)) := (Below.refl _ _).alloc (Nat.le_refl _) _
    have hP := Blk.new w6 43 #[.int .i64 d.seq, .int .i64 d.at_, .slice A6 d.fs.length c6]
    have H7 := Lib.hid ((H5.out.trans (hb6.mono H5.out.size)).trans (hb7.mono (H5.out.trans (hb6.mono H5.out.size)).size))
    have hr7 := (hr6.below hb7).more hb7.size
    have HR7 := Lib.hid hr7
    clear hb6 hda H5 hb7 hr6 hr7
    have hj0 : (0 : Int) ≤ (j : Int) := by omega
    have hj1 : ¬ ((j : Int) < 0) := by omega
    have hj2 : ¬ ((ds.length : Int) ≤ (j : Int)) := by omega
    have hj3 : (j : Int) < (ds.length : Int) := by omega
    go_upto_region 6 with fail
    generalize hw7 : (w6.alloc (.cells #[.int .i64 d.seq, .int .i64 d.at_, .slice A6 d.fs.length c6] 43)) = w7 at *
    clear hw7
    have x0 := HX.out w7 H7.out
    have hfn := (chkE_ok (OK.out _ (List.getElem_mem hj)).1).1
    rw [hdj] at hfn
    have HCs : Hid (∀ wx, Below w7.heap.size w7 wx → wx.cell? ⟨w6.heap.size, 0, none⟩ = some (.int .i64 d.seq) ∧ wx.cell? ⟨w6.heap.size, 1, none⟩ = some (.int .i64 d.at_) ∧ wx.cell? ⟨w6.heap.size, 2, none⟩ = some (.slice A6 d.fs.length c6) ∧ wx.cell? ⟨w.heap.size, 0, none⟩ = some (.slice A ds.length c) ∧ ∃ b o F2 f2, A = some ⟨b, o, none⟩ ∧ wx.cell? ⟨b, o + j * 3, none⟩ = some (.int .i64 d.seq) ∧ wx.cell? ⟨b, o + j * 3 + 1, none⟩ = some (.int .i64 d.at_) ∧ wx.cell? ⟨b, o + j * 3 + 2, none⟩ = some (.slice F2 d.fs.length f2) ∧ Reads wx wx.heap.size 2 F2 d.fs.length (fldC d.fs)) := Lib.hid (fun wx hb => by
      have hP' := hP.below hb hP.lt
      have p0 := hP'.cell 0
      have p1 := hP'.cell 1
      have p2 := hP'.cell 2
      simp only [List.getElem?_toArray, List.getElem?_cons_zero, List.getElem?_cons_succ] at p0 p1 p2
      have h1 := H7.out.trans (hb.mono H7.out.size)
      obtain ⟨b, o, F2, fn, f2, e, hb8, c0, c1, c2, r, q1, q2⟩ := (HRX.out wx h1).docs.at_ hj
      rw [hdj] at c0 c1 r q1
      subst q1
      exact ⟨p0, p1, p2, HX.out wx h1, b, o, F2, f2, e, c0, c1, c2, r⟩)
    clear hP
    obtain ⟨_, _, _, _, b, o, F2, f2, rfl, z0, z1, z2, r2⟩ := HCs.out w7 (Below.refl _ _)
    have HR2 := Lib.hid r2
    have HSw : Hid (∀ wx, Below w7.heap.size w7 wx → wx.cell? ⟨w6.heap.size, 0, none⟩ = some (.int .i64 d.seq) ∧ wx.cell? ⟨w6.heap.size, 1, none⟩ = some (.int .i64 d.at_) ∧ wx.cell? ⟨w6.heap.size, 2, none⟩ = some (.slice A6 d.fs.length c6) ∧ wx.cell? ⟨w.heap.size, 0, none⟩ = some (.slice (some ⟨b, o, none⟩) ds.length c) ∧ wx.cell? ⟨b, o + j * 3, none⟩ = some (.int .i64 d.seq) ∧ wx.cell? ⟨b, o + j * 3 + 1, none⟩ = some (.int .i64 d.at_) ∧ wx.cell? ⟨b, o + j * 3 + 2, none⟩ = some (.slice F2 d.fs.length f2)) := Lib.hid (fun wx hb => by
      obtain ⟨p0, p1, p2, p3, b', o', F', f', e, c0, c1, c2, r⟩ := HCs.out wx hb
      injection e with e
      injection e with e1 e2
      subst e1 e2
      have g := (hb.cell (p := ⟨b, o + j * 3 + 2, none⟩) (by
        obtain ⟨b9, o9, _, _, _, e9, hb9, _⟩ := (HRX.out w7 H7.out).docs.at_ hj
        injection e9 with e9
        injection e9 with e9 _
        subst e9
        exact hb9)).trans z2
      exact ⟨p0, p1, p2, p3, c0, c1, g⟩)
    clear z0 z1 z2 r2 HCs hdj
    generalize d.seq = dq at *
    generalize d.at_ = da at *
    go_upto_region 9 with (fail)
    refine wp_region_grow (specOf [(22, ⟨Unit, fun _ => .bool true, fun _ _ => True⟩)]) (fun wx => Below (World.heap w7).size w7 wx) (fun w1 w2 => Below w1.heap.size w1 w2) (by kernel_rfl) (by kernel_rfl) (stab_cons (fun _ _ _ _ _ => trivial) (stab_nil)) (Below.refl _ _).drew ?_
    refine grow_fix 1 ?_ rfl (by rfl) (by rfl) (fun wx hC hD => ?_) ?_
    rotate_left
    · have hSw := HSw.out wx hC
      go_simp
      all_goals with_reducible rfl
    try simp only [Act.put, List.setIfInBounds_toArray, List.set_cons_zero, List.set_cons_succ]
    refine grow_fix 2 ?_ rfl (by rfl) (by rfl) (fun wx hC hD => ?_) ?_
    rotate_left
    · have hSw := HSw.out wx hC
      go_simp
      all_goals with_reducible rfl
    try simp only [Act.put, List.setIfInBounds_toArray, List.set_cons_zero, List.set_cons_succ]
    refine grow_fix 3 ?_ rfl (by rfl) (by rfl) (fun wx hC hD => ?_) ?_
    rotate_left
    · have hSw := HSw.out wx hC
      go_simp
      all_goals with_reducible rfl
    try simp only [Act.put, List.setIfInBounds_toArray, List.set_cons_zero, List.set_cons_succ]
    refine grow_fix 4 ?_ rfl (by rfl) (by rfl) (fun wx hC hD => ?_) ?_
    rotate_left
    · have hSw := HSw.out wx hC
      go_simp
      all_goals with_reducible rfl
    try simp only [Act.put, List.setIfInBounds_toArray, List.set_cons_zero, List.set_cons_succ]
    refine grow_fix 5 ?_ rfl (by rfl) (by rfl) (fun wx hC hD => ?_) ?_
    rotate_left
    · have hSw := HSw.out wx hC
      go_simp
      all_goals with_reducible rfl
    try simp only [Act.put, List.setIfInBounds_toArray, List.set_cons_zero, List.set_cons_succ]
    refine grow_fix 6 ?_ rfl (by rfl) (by rfl) (fun wx hC hD => ?_) ?_
    rotate_left
    · have hSw := HSw.out wx hC
      go_simp
      all_goals with_reducible rfl
    try simp only [Act.put, List.setIfInBounds_toArray, List.set_cons_zero, List.set_cons_succ]
    refine grow_fix 7 ?_ rfl (by rfl) (by rfl) (fun wx hC hD => ?_) ?_
    rotate_left
    · have hSw := HSw.out wx hC
      go_simp
      all_goals with_reducible rfl
    try simp only [Act.put, List.setIfInBounds_toArray, List.set_cons_zero, List.set_cons_succ]
    refine grow_fix 8 ?_ rfl (by rfl) (by rfl) (fun wx hC hD => ?_) ?_
    rotate_left
    · have hSw := HSw.out wx hC
      go_simp
      all_goals with_reducible rfl
    try simp only [Act.put, List.setIfInBounds_toArray, List.set_cons_zero, List.set_cons_succ]
    refine grow_fix 9 ?_ rfl (by rfl) (by rfl) (fun wx hC hD => ?_) ?_
    rotate_left
    · have hSw := HSw.out wx hC
      go_simp
      all_goals with_reducible rfl
    try simp only [Act.put, List.setIfInBounds_toArray, List.set_cons_zero, List.set_cons_succ]
    refine grow_fix 10 ?_ rfl (by rfl) (by rfl) (fun wx hC hD => ?_) ?_
    rotate_left
    · have hSw := HSw.out wx hC
      go_simp
      all_goals with_reducible rfl
    try simp only [Act.put, List.setIfInBounds_toArray, List.set_cons_zero, List.set_cons_succ]
    refine grow_fix 11 ?_ rfl (by rfl) (by rfl) (fun wx hC hD => ?_) ?_
    rotate_left
    · have hSw := HSw.out wx hC
      go_simp
      all_goals with_reducible rfl
    try simp only [Act.put, List.setIfInBounds_toArray, List.set_cons_zero, List.set_cons_succ]
    refine grow_fix 12 ?_ rfl (by rfl) (by rfl) (fun wx hC hD => ?_) ?_
    rotate_left
    · have hSw := HSw.out wx hC
      go_simp
      all_goals with_reducible rfl
    try simp only [Act.put, List.setIfInBounds_toArray, List.set_cons_zero, List.set_cons_succ]
    refine grow_fix 13 ?_ rfl (by rfl) (by rfl) (fun wx hC hD => ?_) ?_
    rotate_left
    · have hSw := HSw.out wx hC
      go_simp
      all_goals with_reducible rfl
    try simp only [Act.put, List.setIfInBounds_toArray, List.set_cons_zero, List.set_cons_succ]
    refine grow_fix 14 ?_ rfl (by rfl) (by rfl) (fun wx hC hD => ?_) ?_
    rotate_left
    · have hSw := HSw.out wx hC
      go_simp
      all_goals with_reducible rfl
    try simp only [Act.put, List.setIfInBounds_toArray, List.set_cons_zero, List.set_cons_succ]
    refine grow_fix 15 ?_ rfl (by rfl) (by rfl) (fun wx hC hD => ?_) ?_
    rotate_left
    · have hSw := HSw.out wx hC
      go_simp
      all_goals with_reducible rfl
    try simp only [Act.put, List.setIfInBounds_toArray, List.set_cons_zero, List.set_cons_succ]
    refine grow_fix 16 ?_ rfl (by rfl) (by rfl) (fun wx hC hD => ?_) ?_
    rotate_left
    · have hSw := HSw.out wx hC
      go_simp
      all_goals with_reducible rfl
    try simp only [Act.put, List.setIfInBounds_toArray, List.set_cons_zero, List.set_cons_succ]
    refine grow_fix 17 ?_ rfl (by rfl) (by rfl) (fun wx hC hD => ?_) ?_
    rotate_left
    · have hSw := HSw.out wx hC
      go_simp
      all_goals with_reducible rfl
    try simp only [Act.put, List.setIfInBounds_toArray, List.set_cons_zero, List.set_cons_succ]
    refine grow_fix 18 ?_ rfl (by rfl) (by rfl) (fun wx hC hD => ?_) ?_
    rotate_left
    · have hSw := HSw.out wx hC
      go_simp
      all_goals with_reducible rfl
    try simp only [Act.put, List.setIfInBounds_toArray, List.set_cons_zero, List.set_cons_succ]
    refine grow_fix 19 ?_ rfl (by rfl) (by rfl) (fun wx hC hD => ?_) ?_
    rotate_left
    · have hSw := HSw.out wx hC
      go_simp
      all_goals with_reducible rfl
    try simp only [Act.put, List.setIfInBounds_toArray, List.set_cons_zero, List.set_cons_succ]
    refine grow_fix 20 ?_ rfl (by rfl) (by rfl) (fun wx hC hD => ?_) ?_
    rotate_left
    · have hSw := HSw.out wx hC
      go_simp
      all_goals with_reducible rfl
    try simp only [Act.put, List.setIfInBounds_toArray, List.set_cons_zero, List.set_cons_succ]
    refine grow_fix 21 ?_ rfl (by rfl) (by rfl) (fun wx hC hD => ?_) ?_
    rotate_left
    · have hSw := HSw.out wx hC
      go_simp
      all_goals with_reducible rfl
    try simp only [Act.put, List.setIfInBounds_toArray, List.set_cons_zero, List.set_cons_succ]
    refine grow_fix 22 ?_ rfl (by rfl) (by rfl) (fun wx hC hD => ?_) ?_
    rotate_left
    · have hSw := HSw.out wx hC
      go_simp
      all_goals with_reducible rfl
    try simp only [Act.put, List.setIfInBounds_toArray, List.set_cons_zero, List.set_cons_succ]
    refine grow_give 23 _ rfl (by rfl) (by rfl) (fun wx hC hD => ?_) (fun x => ?_)
    · refine give_enter (f := ?_) (args := ?_) ?_ ?_
      rotate_left 2
      · have hSw := HSw.out wx hC
        go_simp
        all_goals first | with_reducible rfl | (refine ⟨?_, ?_⟩ <;> with_reducible rfl)
      refine (sameE_eq da A6 F2 d.fs.length c6 f2 d.fs wx (reads_gr hC HR7.out) (reads_gr hC HR2.out) rfl (by omega)).mono ?_
      rintro e w9 ⟨rfl, hb9⟩
      exact ⟨_, rfl, hb9, hC.trans (hb9.mono hC.size), (), rfl, trivial⟩
    obtain _ := x
    try simp only [Act.put, List.setIfInBounds_toArray, List.set_cons_zero, List.set_cons_succ]
    refine grow_fix 24 ?_ rfl (by rfl) (by rfl) (fun wx hC hD => ?_) ?_
    rotate_left
    · have hSw := HSw.out wx hC
      go_simp
      all_goals with_reducible rfl
    try simp only [Act.put, List.setIfInBounds_toArray, List.set_cons_zero, List.set_cons_succ]
    refine grow_fix 25 ?_ rfl (by rfl) (by rfl) (fun wx hC hD => ?_) ?_
    rotate_left
    · have hSw := HSw.out wx hC
      go_simp
      all_goals with_reducible rfl
    try simp only [Act.put, List.setIfInBounds_toArray, List.set_cons_zero, List.set_cons_succ]
    refine grow_nil (fun w8 hC hF => ?_)
    have H8 := Lib.hid (H7.out.trans (hC.mono H7.out.size))
    clear hF hC H7 HR7 HR2 HSw x0
    have HC8 : Hid (∀ wx, Below w8.heap.size w8 wx → wx.cell? ⟨w.heap.size, 0, none⟩ = some (.slice (some ⟨b, o, none⟩) ds.length c)) := Lib.hid (fun wx hb => HX.out wx (H8.out.trans (hb.mono H8.out.size)))
    go_upto_region 11 with (fail)
    refine wp_region_grow (specOf [(25, ⟨Unit, fun _ => .int .i64 (ds.length : Nat), fun _ _ => True⟩), (33, ⟨Unit, fun _ => .int .i64 (szD ds : Nat), fun _ _ => True⟩), (35, ⟨Unit, fun _ => .int .i64 (szD ds : Nat), fun _ _ => True⟩)]) (fun wx => Below (World.heap w8).size w8 wx) (fun w1 w2 => Below w1.heap.size w1 w2) (by kernel_rfl) (by kernel_rfl) (stab_cons (fun _ _ _ _ _ => trivial) (stab_cons (fun _ _ _ _ _ => trivial) (stab_cons (fun _ _ _ _ _ => trivial) (stab_nil)))) (Below.refl _ _).drew ?_
    refine grow_fix 1 ?_ rfl (by rfl) (by rfl) (fun wx hC hD => ?_) ?_
    rotate_left
    · have hSw := HC8.out wx hC
      go_simp
      all_goals with_reducible rfl
    try simp only [Act.put, List.setIfInBounds_toArray, List.set_cons_zero, List.set_cons_succ]
    refine grow_fix 2 ?_ rfl (by rfl) (by rfl) (fun wx hC hD => ?_) ?_
    rotate_left
    · have hSw := HC8.out wx hC
      go_simp
      all_goals with_reducible rfl
    try simp only [Act.put, List.setIfInBounds_toArray, List.set_cons_zero, List.set_cons_succ]
    refine grow_fix 3 ?_ rfl (by rfl) (by rfl) (fun wx hC hD => ?_) ?_
    rotate_left
    · have hSw := HC8.out wx hC
      go_simp
      all_goals with_reducible rfl
    try simp only [Act.put, List.setIfInBounds_toArray, List.set_cons_zero, List.set_cons_succ]
    refine grow_fix 4 ?_ rfl (by rfl) (by rfl) (fun wx hC hD => ?_) ?_
    rotate_left
    · have hSw := HC8.out wx hC
      go_simp
      all_goals with_reducible rfl
    try simp only [Act.put, List.setIfInBounds_toArray, List.set_cons_zero, List.set_cons_succ]
    refine grow_fix 5 ?_ rfl (by rfl) (by rfl) (fun wx hC hD => ?_) ?_
    rotate_left
    · have hSw := HC8.out wx hC
      go_simp
      all_goals with_reducible rfl
    try simp only [Act.put, List.setIfInBounds_toArray, List.set_cons_zero, List.set_cons_succ]
    refine grow_fix 6 ?_ rfl (by rfl) (by rfl) (fun wx hC hD => ?_) ?_
    rotate_left
    · have hSw := HC8.out wx hC
      go_simp
      all_goals with_reducible rfl
    try simp only [Act.put, List.setIfInBounds_toArray, List.set_cons_zero, List.set_cons_succ]
    refine grow_fix 7 ?_ rfl (by rfl) (by rfl) (fun wx hC hD => ?_) ?_
    rotate_left
    · have hSw := HC8.out wx hC
      go_simp
      all_goals with_reducible rfl
    try simp only [Act.put, List.setIfInBounds_toArray, List.set_cons_zero, List.set_cons_succ]
    refine grow_fix 8 ?_ rfl (by rfl) (by rfl) (fun wx hC hD => ?_) ?_
    rotate_left
    · have hSw := HC8.out wx hC
      go_simp
      all_goals with_reducible rfl
    try simp only [Act.put, List.setIfInBounds_toArray, List.set_cons_zero, List.set_cons_succ]
    refine grow_fix 9 ?_ rfl (by rfl) (by rfl) (fun wx hC hD => ?_) ?_
    rotate_left
    · have hSw := HC8.out wx hC
      go_simp
      all_goals with_reducible rfl
    try simp only [Act.put, List.setIfInBounds_toArray, List.set_cons_zero, List.set_cons_succ]
    refine grow_fix 10 ?_ rfl (by rfl) (by rfl) (fun wx hC hD => ?_) ?_
    rotate_left
    · have hSw := HC8.out wx hC
      go_simp
      all_goals with_reducible rfl
    try simp only [Act.put, List.setIfInBounds_toArray, List.set_cons_zero, List.set_cons_succ]
    refine grow_fix 11 ?_ rfl (by rfl) (by rfl) (fun wx hC hD => ?_) ?_
    rotate_left
    · have hSw := HC8.out wx hC
      go_simp
      all_goals with_reducible rfl
    try simp only [Act.put, List.setIfInBounds_toArray, List.set_cons_zero, List.set_cons_succ]
    refine grow_fix 12 ?_ rfl (by rfl) (by rfl) (fun wx hC hD => ?_) ?_
    rotate_left
    · have hSw := HC8.out wx hC
      go_simp
      all_goals with_reducible rfl
    try simp only [Act.put, List.setIfInBounds_toArray, List.set_cons_zero, List.set_cons_succ]
    refine grow_fix 13 ?_ rfl (by rfl) (by rfl) (fun wx hC hD => ?_) ?_
    rotate_left
    · have hSw := HC8.out wx hC
      go_simp
      all_goals with_reducible rfl
    try simp only [Act.put, List.setIfInBounds_toArray, List.set_cons_zero, List.set_cons_succ]
    refine grow_fix 14 ?_ rfl (by rfl) (by rfl) (fun wx hC hD => ?_) ?_
    rotate_left
    · have hSw := HC8.out wx hC
      go_simp
      all_goals with_reducible rfl
    try simp only [Act.put, List.setIfInBounds_toArray, List.set_cons_zero, List.set_cons_succ]
    refine grow_fix 15 ?_ rfl (by rfl) (by rfl) (fun wx hC hD => ?_) ?_
    rotate_left
    · have hSw := HC8.out wx hC
      go_simp
      all_goals with_reducible rfl
    try simp only [Act.put, List.setIfInBounds_toArray, List.set_cons_zero, List.set_cons_succ]
    refine grow_fix 16 ?_ rfl (by rfl) (by rfl) (fun wx hC hD => ?_) ?_
    rotate_left
    · have hSw := HC8.out wx hC
      go_simp
      all_goals with_reducible rfl
    try simp only [Act.put, List.setIfInBounds_toArray, List.set_cons_zero, List.set_cons_succ]
    refine grow_fix 17 ?_ rfl (by rfl) (by rfl) (fun wx hC hD => ?_) ?_
    rotate_left
    · have hSw := HC8.out wx hC
      go_simp
      all_goals with_reducible rfl
    try simp only [Act.put, List.setIfInBounds_toArray, List.set_cons_zero, List.set_cons_succ]
    refine grow_fix 18 ?_ rfl (by rfl) (by rfl) (fun wx hC hD => ?_) ?_
    rotate_left
    · have hSw := HC8.out wx hC
      go_simp
      all_goals with_reducible rfl
    try simp only [Act.put, List.setIfInBounds_toArray, List.set_cons_zero, List.set_cons_succ]
    refine grow_fix 19 ?_ rfl (by rfl) (by rfl) (fun wx hC hD => ?_) ?_
    rotate_left
    · have hSw := HC8.out wx hC
      go_simp
      all_goals with_reducible rfl
    try simp only [Act.put, List.setIfInBounds_toArray, List.set_cons_zero, List.set_cons_succ]
    refine grow_fix 20 ?_ rfl (by rfl) (by rfl) (fun wx hC hD => ?_) ?_
    rotate_left
    · have hSw := HC8.out wx hC
      go_simp
      all_goals with_reducible rfl
    try simp only [Act.put, List.setIfInBounds_toArray, List.set_cons_zero, List.set_cons_succ]
    refine grow_fix 21 ?_ rfl (by rfl) (by rfl) (fun wx hC hD => ?_) ?_
    rotate_left
    · have hSw := HC8.out wx hC
      go_simp
      all_goals with_reducible rfl
    try simp only [Act.put, List.setIfInBounds_toArray, List.set_cons_zero, List.set_cons_succ]
    refine grow_fix 22 ?_ rfl (by rfl) (by rfl) (fun wx hC hD => ?_) ?_
    rotate_left
    · have hSw := HC8.out wx hC
      go_simp
      all_goals with_reducible rfl
    try simp only [Act.put, List.setIfInBounds_toArray, List.set_cons_zero, List.set_cons_succ]
    refine grow_fix 23 ?_ rfl (by rfl) (by rfl) (fun wx hC hD => ?_) ?_
    rotate_left
    · have hSw := HC8.out wx hC
      go_simp
      all_goals with_reducible rfl
    try simp only [Act.put, List.setIfInBounds_toArray, List.set_cons_zero, List.set_cons_succ]
    refine grow_fix 24 ?_ rfl (by rfl) (by rfl) (fun wx hC hD => ?_) ?_
    rotate_left
    · have hSw := HC8.out wx hC
      go_simp
      all_goals with_reducible rfl
    try simp only [Act.put, List.setIfInBounds_toArray, List.set_cons_zero, List.set_cons_succ]
    refine grow_fix 25 ?_ rfl (by rfl) (by rfl) (fun wx hC hD => ?_) ?_
    rotate_left
    · have hSw := HC8.out wx hC
      go_simp
      all_goals with_reducible rfl
    try simp only [Act.put, List.setIfInBounds_toArray, List.set_cons_zero, List.set_cons_succ]
    refine grow_give 26 _ rfl (by rfl) (by rfl) (fun wx hC hD => ?_) (fun x => ?_)
    · refine give_enter (f := ?_) (args := ?_) ?_ ?_
      rotate_left 2
      · have hSw := HC8.out wx hC
        go_simp
        all_goals first | with_reducible rfl | (refine ⟨?_, ?_⟩ <;> with_reducible rfl)
      refine (len_any (HIX.out wx (H8.out.trans (hC.mono H8.out.size)))).mono ?_
      rintro e w9 ⟨rfl, rfl⟩
      exact ⟨_, rfl, Below.refl _ _, hC, (), rfl, trivial⟩
    obtain _ := x
    try simp only [Act.put, List.setIfInBounds_toArray, List.set_cons_zero, List.set_cons_succ]
    refine grow_fix 27 ?_ rfl (by rfl) (by rfl) (fun wx hC hD => ?_) ?_
    rotate_left
    · have hSw := HC8.out wx hC
      go_simp
      all_goals with_reducible rfl
    try simp only [Act.put, List.setIfInBounds_toArray, List.set_cons_zero, List.set_cons_succ]
    refine grow_fix 28 ?_ rfl (by rfl) (by rfl) (fun wx hC hD => ?_) ?_
    rotate_left
    · have hSw := HC8.out wx hC
      go_simp
      all_goals with_reducible rfl
    try simp only [Act.put, List.setIfInBounds_toArray, List.set_cons_zero, List.set_cons_succ]
    refine grow_fix 29 ?_ rfl (by rfl) (by rfl) (fun wx hC hD => ?_) ?_
    rotate_left
    · have hSw := HC8.out wx hC
      go_simp
      all_goals with_reducible rfl
    try simp only [Act.put, List.setIfInBounds_toArray, List.set_cons_zero, List.set_cons_succ]
    refine grow_fix 30 ?_ rfl (by rfl) (by rfl) (fun wx hC hD => ?_) ?_
    rotate_left
    · have hSw := HC8.out wx hC
      go_simp
      all_goals with_reducible rfl
    try simp only [Act.put, List.setIfInBounds_toArray, List.set_cons_zero, List.set_cons_succ]
    refine grow_fix 31 ?_ rfl (by rfl) (by rfl) (fun wx hC hD => ?_) ?_
    rotate_left
    · have hSw := HC8.out wx hC
      go_simp
      all_goals with_reducible rfl
    try simp only [Act.put, List.setIfInBounds_toArray, List.set_cons_zero, List.set_cons_succ]
    refine grow_fix 32 ?_ rfl (by rfl) (by rfl) (fun wx hC hD => ?_) ?_
    rotate_left
    · have hSw := HC8.out wx hC
      go_simp
      all_goals with_reducible rfl
    try simp only [Act.put, List.setIfInBounds_toArray, List.set_cons_zero, List.set_cons_succ]
    refine grow_fix 33 ?_ rfl (by rfl) (by rfl) (fun wx hC hD => ?_) ?_
    rotate_left
    · have hSw := HC8.out wx hC
      go_simp
      all_goals with_reducible rfl
    try simp only [Act.put, List.setIfInBounds_toArray, List.set_cons_zero, List.set_cons_succ]
    refine grow_give 34 _ rfl (by rfl) (by rfl) (fun wx hC hD => ?_) (fun x => ?_)
    · refine give_enter (f := ?_) (args := ?_) ?_ ?_
      rotate_left 2
      · have hSw := HC8.out wx hC
        go_simp
        all_goals first | with_reducible rfl | (refine ⟨?_, ?_⟩ <;> with_reducible rfl)
      refine (sizeX_any (HIX.out wx (H8.out.trans (hC.mono H8.out.size)))).mono ?_
      rintro e w9 ⟨rfl, rfl⟩
      exact ⟨_, rfl, Below.refl _ _, hC, (), rfl, trivial⟩
    obtain _ := x
    try simp only [Act.put, List.setIfInBounds_toArray, List.set_cons_zero, List.set_cons_succ]
    refine grow_fix 35 ?_ rfl (by rfl) (by rfl) (fun wx hC hD => ?_) ?_
    rotate_left
    · have hSw := HC8.out wx hC
      go_simp
      all_goals with_reducible rfl
    try simp only [Act.put, List.setIfInBounds_toArray, List.set_cons_zero, List.set_cons_succ]
    refine grow_give 36 _ rfl (by rfl) (by rfl) (fun wx hC hD => ?_) (fun x => ?_)
    · refine give_enter (f := ?_) (args := ?_) ?_ ?_
      rotate_left 2
      · have hSw := HC8.out wx hC
        go_simp
        all_goals first | with_reducible rfl | (refine ⟨?_, ?_⟩ <;> with_reducible rfl)
      refine (rsizeX_any (some ⟨b, o, none⟩) ds.length c ds wx (HRX.out wx (H8.out.trans (hC.mono H8.out.size))).docs (fun hi Fa fn fc h => (HRX.out wx (H8.out.trans (hC.mono H8.out.size))).fl OK.out hi Fa fn fc h) OK.out hfew).mono ?_
      rintro e w9 ⟨rfl, hb9⟩
      exact ⟨_, rfl, hb9, hC.trans (hb9.mono hC.size), (), rfl, trivial⟩
    obtain _ := x
    try simp only [Act.put, List.setIfInBounds_toArray, List.set_cons_zero, List.set_cons_succ]
    refine grow_fix 37 ?_ rfl (by rfl) (by rfl) (fun wx hC hD => ?_) ?_
    rotate_left
    · have hSw := HC8.out wx hC
      go_simp
      all_goals with_reducible rfl
    try simp only [Act.put, List.setIfInBounds_toArray, List.set_cons_zero, List.set_cons_succ]
    refine grow_fix 38 ?_ rfl (by rfl) (by rfl) (fun wx hC hD => ?_) ?_
    rotate_left
    · have hSw := HC8.out wx hC
      go_simp
      all_goals with_reducible rfl
    try simp only [Act.put, List.setIfInBounds_toArray, List.set_cons_zero, List.set_cons_succ]
    refine grow_fix 39 ?_ rfl (by rfl) (by rfl) (fun wx hC hD => ?_) ?_
    rotate_left
    · have hSw := HC8.out wx hC
      go_simp
      all_goals with_reducible rfl
    try simp only [Act.put, List.setIfInBounds_toArray, List.set_cons_zero, List.set_cons_succ]
    refine grow_nil (fun wF hC hF => ?_)
    go_wp2
    go_ret
    exact ⟨rfl, HB1.out.trans ((H8.out.trans (hC.mono H8.out.size)).mono HB1.out.size)⟩
end Go.Proofs.Ytioekhiaoajgfaa.Mx
