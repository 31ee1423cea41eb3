/- HistParts. -/
import Derived.Test.YthhklbjhlfejfaaHistCb
namespace Go.Proofs.Ythhklbjhlfejfaa.Hi
open Go.RowKit
set_option maxRecDepth 20000
theorem inB_later {w w' : World} {A : Option Addr} {c : Nat} {l : List Bk} (h : InB w w.heap.size A c l) (hb : Below w.heap.size w w') : InB w' w'.heap.size A c l := ⟨(h.rd.below hb).more hb.size, h.cap, h.nil⟩
theorem below_grownI {w w' : World} {base B n : Nat} {v : Value} {xs : List Value} (h : w.ownsRow base 3 1 v n xs) (hg : w.grownBy w' v.ownBlock) (hB : B ≤ base) (hw : B ≤ w.heap.size) : Below B w w' :=
  ⟨hg.os, hg.tape, hg.output, hg.size, fun i hi => hg.block i (by omega) fun e => by have := (World.ownsRow.lt h i e.symm).1; omega⟩
set_option maxHeartbeats 6400000 in
theorem parts_walk0 (d : Int) (A1 : Option Addr) (c1 : Nat) (t1 : List Int) (A2 : Option Addr) (c2 : Nat) (t2 : List Int) (w : World) (hd0 : (Lit.int .i64 d).wf = true)
    (C1 : t1.length ≤ c1) (R1 : Reads w w.heap.size 1 A1 t1.length (t1.map (Value.int .i64))) (W1 : ∀ t ∈ t1, (Lit.int .i64 t).wf = true) (N1 : A1 = none → c1 = 0)
    (C2 : t2.length ≤ c2) (R2 : Reads w w.heap.size 1 A2 t2.length (t2.map (Value.int .i64))) (W2 : ∀ t ∈ t2, (Lit.int .i64 t).wf = true) (N2 : A2 = none → c2 = 0) :
    Calls Try.prog 7 #[.int .i64 d, .slice A1 t1.length c1, .slice A2 t2.length c2] w fun e w' => e = .returned (.bool true) ∧ Below w.heap.size w w' := by
  obtain ⟨inf, hi0, hz0, hz1, hz2⟩ := info_parts int_info
  have hd := in64_wf hd0
  have k1 := short_any A1 c1 w.heap.size t1 w C1 R1
  have k2 := short_any A2 c2 w.heap.size t2 w C2 R2
  have g1 : (t1.take 60).length ≤ 60 := by rw [List.length_take]; omega
  have g2 : (t2.take 60).length ≤ 60 := by rw [List.length_take]; omega
  have n1 : ∀ t ∈ t1.take 60, In64 t := fun t ht => in64_wf (W1 t (List.mem_of_mem_take ht))
  have n2 : ∀ t ∈ t2.take 60, In64 t := fun t ht => in64_wf (W2 t (List.mem_of_mem_take ht))
  clear R1 R2 C1 C2 W1 W2 hd0
  generalize t1.take 60 = ta at *
  generalize t2.take 60 = tb at *
  have n3 : ∀ t ∈ ta ++ tb, In64 t := fun t ht => by
    rcases List.mem_append.1 ht with h | h
    · exact n1 t h
    · exact n2 t h
  have hap : (ta ++ tb).length = ta.length + tb.length := List.length_append
  have q1 := fun (h : Reads w w.heap.size 1 A1 ta.length (ta.map (Value.int .i64))) => of_any A1 c1 w.heap.size d ta w h (Nat.le_refl _) (by omega) hd.2 n1
  have q2 := fun wi (hb : Below w.heap.size w wi) (h : Reads w w.heap.size 1 A2 tb.length (tb.map (Value.int .i64))) => of_any A2 c2 w.heap.size d tb wi (h.below hb) hb.size (by omega) hd.2 n2
  have q3 := fun wi A c (h : Reads wi wi.heap.size 1 A (ta ++ tb).length ((ta ++ tb).map (Value.int .i64))) => of_any A c wi.heap.size d (ta ++ tb) wi h (Nat.le_refl _) (by omega) hd.2 n3
  have PF := parts_F d ta tb
  have PT := (parts_merge d ta tb g1 g2).2
  have Ga := ofF_good d ta ta.length (Nat.le_refl _)
  have Gb := ofF_good d tb tb.length (Nat.le_refl _)
  have Gab := ofF_good d (ta ++ tb) (ta ++ tb).length (Nat.le_refl _)
  rw [List.take_length] at Ga Gb Gab
  have TF : totF (ofF d (ta ++ tb)) = (ta.length : Int) + (tb.length : Int) := by rw [totF_few Gab.1.one (by omega), PT]
  have H64 : ∀ b ∈ ofF d ta ++ (ofF d tb ++ []), b.2 ≤ 9223372036854775807 := by
    have ca := ofF_cnt d ta ta.length (Nat.le_refl _) (by omega)
    have cb := ofF_cnt d tb tb.length (Nat.le_refl _) (by omega)
    rw [List.take_length] at ca cb
    intro b hb
    rw [List.append_nil] at hb
    rcases List.mem_append.1 hb with h | h
    · have := tot_ge Ga.1.one b h; omega
    · have := tot_ge Gb.1.one b h; omega
  unfold OfPost at q1 q2 q3
  clear n1 n2 n3 PT
  by_cases hd1 : d < 1
  · simp only [if_pos hd1] at q1 q2 q3
    clear PF TF H64 Ga Gb Gab
    go_enter Try.func7, Try.ntmps7
    go_wp2_with fail
    refine k1.mono ?_
    rintro e w0 ⟨⟨rfl, r1⟩, rfl⟩
    have p1 := q1 r1
    have HR1 := Lib.hid r1
    clear k1 q1 r1
    go_wp2_with fail
    refine k2.mono ?_
    rintro e w0 ⟨⟨rfl, r2⟩, rfl⟩
    have HR2 := Lib.hid r2
    have p2 := fun wi hb => q2 wi hb r2
    clear k2 q2 r2
    go_wp2_with fail
    refine p1.mono ?_
    rintro e w1 ⟨vx, rfl, hv⟩
    have Hb1 := Lib.hid hv.bel
    have p3 := p2 w1 Hb1.out
    clear hv p1 p2
    go_wp2_with fail
    refine p3.mono ?_
    rintro e w2 ⟨vy, rfl, hv⟩
    have Hb2 := Lib.hid (Hb1.out.trans (hv.bel.mono Hb1.out.size))
    clear hv p3
    have hal : Hid (Below w.heap.size w (w2.alloc (.cells #[] 3))) := Lib.hid (Hb2.out.trans ((Below.refl _ _).alloc Hb2.out.size _))
    go_wp2_with (at_builtin; refine wpList_append_any rfl _ _ 28 rfl w2.heap.size 3 inf _ 1 8 Try.underlying28 hi0 hz0 hz1 hz2 rfl (by decide) (.slice (some ⟨w2.heap.size, 0, none⟩) 0 0) 0 [] rfl ?hown A1 ta.length c1 w.heap.size (iV ta) rfl (HR1.out.below hal.out) N1 (iV_one ta) ?d3 ?d4 ?d5 ?_)
    case hown => exact World.ownsRow_lit (base := w2.heap.size) (e := 3) (size := 1) w2 #[] 0 (Nat.le_refl _) (by unfold maxLen; omega) rfl
    case d3 => unfold maxLen; omega
    case d4 => omega
    case d5 => simp
    intro v3 w3 ho3 hg3
    have ho3' : w3.ownsRow w2.heap.size 3 1 v3 ta.length (iV ta) := by simpa using ho3
    have Hb3 : Hid (Below w.heap.size w w3) := Lib.hid (hal.out.trans (below_grownI (World.ownsRow_lit (base := w2.heap.size) (e := 3) (size := 1) w2 #[] 0 (Nat.le_refl _) (by unfold maxLen; omega) rfl) hg3 Hb2.out.size hal.out.size))
    have hs3 : w2.heap.size ≤ w3.heap.size := Nat.le_trans (by rw [World.size_alloc]; omega) hg3.size
    have hb23 : Hid (Below w2.heap.size w2 w3) := Lib.hid (((Below.refl _ _).alloc (Nat.le_refl _) _).trans (below_grownI (World.ownsRow_lit (base := w2.heap.size) (e := 3) (size := 1) w2 #[] 0 (Nat.le_refl _) (by unfold maxLen; omega) rfl) hg3 (Nat.le_refl _) (by rw [World.size_alloc]; omega)))
    clear ho3 hg3
    go_wp2_with (at_builtin; refine wpList_append_any rfl _ _ 28 rfl w2.heap.size 3 inf _ 1 8 Try.underlying28 hi0 hz0 hz1 hz2 rfl (by decide) v3 ta.length (iV ta) rfl ho3' A2 tb.length c2 w.heap.size (iV tb) rfl (HR2.out.below Hb3.out) N2 (iV_one tb) ?d3 ?d4 hs3 ?_)
    case d3 => unfold maxLen; omega
    case d4 => omega
    intro v4 w4 ho4 hg4
    obtain ⟨A4, c4, rfl, r4⟩ := own_shape ho4
    have Hb4 : Hid (Below w.heap.size w w4) := Lib.hid (Hb3.out.trans (below_grownI ho3' hg4 Hb2.out.size Hb3.out.size))
    have b24 : Hid (Below w2.heap.size w2 w4) := Lib.hid (hb23.out.trans (below_grownI ho3' hg4 (Nat.le_refl _) hs3))
    have p5 := q3 w4 A4 c4 (by rw [hap, List.map_append]; exact r4)
    rw [hap] at p5
    clear ho4 hg4 ho3' r4 q3
    generalize ta.length = na at *
    generalize tb.length = nb at *
    go_wp2_with fail
    refine p5.mono ?_
    rintro e w5 ⟨vz, rfl, hv⟩
    have Hb5 := Lib.hid (Hb4.out.trans (hv.bel.mono Hb4.out.size))
    clear hv p5 b24
    have p6 := awake_any w5
    go_wp2_with fail
    refine p6.mono ?_
    rintro e w6 ⟨rfl, hb6⟩
    have Hb6 := Lib.hid (Hb5.out.trans (hb6.mono Hb5.out.size))
    clear hb6 p6
    go_wp2
    go_ret
    exact ⟨rfl, Hb6.out⟩
  · simp only [if_neg hd1] at q1 q2 q3
    go_enter Try.func7, Try.ntmps7
    go_wp2_with fail
    refine k1.mono ?_
    rintro e w0 ⟨⟨rfl, r1⟩, rfl⟩
    have p1 := q1 r1
    have HR1 := Lib.hid r1
    clear k1 q1 r1
    go_wp2_with fail
    refine k2.mono ?_
    rintro e w0 ⟨⟨rfl, r2⟩, rfl⟩
    have HR2 := Lib.hid r2
    have p2 := fun wi hb => q2 wi hb r2
    clear k2 q2 r2
    go_wp2_with fail
    refine p1.mono ?_
    rintro e w1 ⟨vx, rfl, hv⟩
    obtain ⟨Ax, cx, rfl, ix⟩ := own_in hv.own
    have Hb1 := Lib.hid hv.bel
    have p3 := p2 w1 Hb1.out
    clear hv p1 p2
    go_wp2_with fail
    refine p3.mono ?_
    rintro e w2 ⟨vy, rfl, hv⟩
    obtain ⟨Ay, cy, rfl, iy⟩ := own_in hv.own
    have IX := Lib.hid (inB_later ix hv.bel)
    have IY := Lib.hid iy
    clear ix iy
    have Hb2 := Lib.hid (Hb1.out.trans (hv.bel.mono Hb1.out.size))
    clear hv p3
    have hal : Hid (Below w.heap.size w (w2.alloc (.cells #[] 3))) := Lib.hid (Hb2.out.trans ((Below.refl _ _).alloc Hb2.out.size _))
    go_wp2_with (at_builtin; refine wpList_append_any rfl _ _ 28 rfl w2.heap.size 3 inf _ 1 8 Try.underlying28 hi0 hz0 hz1 hz2 rfl (by decide) (.slice (some ⟨w2.heap.size, 0, none⟩) 0 0) 0 [] rfl ?hown A1 ta.length c1 w.heap.size (iV ta) rfl (HR1.out.below hal.out) N1 (iV_one ta) ?d3 ?d4 ?d5 ?_)
    case hown => exact World.ownsRow_lit (base := w2.heap.size) (e := 3) (size := 1) w2 #[] 0 (Nat.le_refl _) (by unfold maxLen; omega) rfl
    case d3 => unfold maxLen; omega
    case d4 => omega
    case d5 => simp
    intro v3 w3 ho3 hg3
    have ho3' : w3.ownsRow w2.heap.size 3 1 v3 ta.length (iV ta) := by simpa using ho3
    have Hb3 : Hid (Below w.heap.size w w3) := Lib.hid (hal.out.trans (below_grownI (World.ownsRow_lit (base := w2.heap.size) (e := 3) (size := 1) w2 #[] 0 (Nat.le_refl _) (by unfold maxLen; omega) rfl) hg3 Hb2.out.size hal.out.size))
    have hs3 : w2.heap.size ≤ w3.heap.size := Nat.le_trans (by rw [World.size_alloc]; omega) hg3.size
    have hb23 : Hid (Below w2.heap.size w2 w3) := Lib.hid (((Below.refl _ _).alloc (Nat.le_refl _) _).trans (below_grownI (World.ownsRow_lit (base := w2.heap.size) (e := 3) (size := 1) w2 #[] 0 (Nat.le_refl _) (by unfold maxLen; omega) rfl) hg3 (Nat.le_refl _) (by rw [World.size_alloc]; omega)))
    clear ho3 hg3
    go_wp2_with (at_builtin; refine wpList_append_any rfl _ _ 28 rfl w2.heap.size 3 inf _ 1 8 Try.underlying28 hi0 hz0 hz1 hz2 rfl (by decide) v3 ta.length (iV ta) rfl ho3' A2 tb.length c2 w.heap.size (iV tb) rfl (HR2.out.below Hb3.out) N2 (iV_one tb) ?d3 ?d4 hs3 ?_)
    case d3 => unfold maxLen; omega
    case d4 => omega
    intro v4 w4 ho4 hg4
    obtain ⟨A4, c4, rfl, r4⟩ := own_shape ho4
    have Hb4 : Hid (Below w.heap.size w w4) := Lib.hid (Hb3.out.trans (below_grownI ho3' hg4 Hb2.out.size Hb3.out.size))
    have b24 : Hid (Below w2.heap.size w2 w4) := Lib.hid (hb23.out.trans (below_grownI ho3' hg4 (Nat.le_refl _) hs3))
    have p5 := q3 w4 A4 c4 (by rw [hap, List.map_append]; exact r4)
    rw [hap] at p5
    clear ho4 hg4 ho3' r4 q3
    go_wp2_with fail
    refine p5.mono ?_
    rintro e w5 ⟨vz, rfl, hv⟩
    obtain ⟨Az, cz, rfl, rz⟩ := own_reads hv.own
    have Hb5 := Lib.hid (Hb4.out.trans (hv.bel.mono Hb4.out.size))
    have b25 := b24.out.trans (hv.bel.mono b24.out.size)
    have J := rows_two w5 ⟨Ax, cx, ofF d ta⟩ ⟨Ay, cy, ofF d tb⟩ (inB_later IX.out b25) (inB_later IY.out b25) (by have := Ga.2; show (ofF d ta).length ≤ 60; omega) (by have := Gb.2; show (ofF d tb).length ≤ 60; omega) 29
    have p6 := merge_any 200 (some ⟨w5.heap.size, 0, none⟩) 2 _ _ J (by simp) H64
    rw [PF _ _ _ _ g1 g2] at p6
    unfold AddPost Rw.val at p6
    have RZ := Lib.hid (rz.below ((Below.refl _ _).alloc (Nat.le_refl _) (.cells #[.slice Ax (ofF d ta).length cx, .slice Ay (ofF d tb).length cy] 29)))
    have Hb5' : Hid (Below w.heap.size w (w5.alloc (.cells #[.slice Ax (ofF d ta).length cx, .slice Ay (ofF d tb).length cy] 29))) := Lib.hid (Hb5.out.trans ((Below.refl _ _).alloc Hb5.out.size _))
    clear hv p5 b24 rz b25 J PF H64 IX IY
    have hzl : (ofF d (ta ++ tb)).length ≤ 200 := by have := Gab.2; omega
    generalize ofF d (ta ++ tb) = lz at *
    generalize (ofF d ta).length = nx at *
    generalize (ofF d tb).length = ny at *
    generalize ta.length = na at *
    generalize tb.length = nb at *
    go_wp2_with fail
    refine p6.mono ?_
    rintro e w6 ⟨vm, rfl, hb6, hm⟩
    obtain ⟨Am, cm, rfl, rm⟩ := hm.reads
    have Hb6 := Lib.hid (Hb5'.out.trans (hb6.mono Hb5'.out.size))
    have p7 := rsame_any Am Az cm cz w6.heap.size w5.heap.size lz lz w6 rm (RZ.out.below (hb6.mono (by rw [World.size_alloc]; omega))) (by omega) (by omega)
    rw [decide_eq_true rfl] at p7
    have p8 := fun wi (h : Below w6.heap.size w6 wi) => total_any Am cm w6.heap.size lz wi (rm.below h) h.size (by omega)
    rw [TF] at p8
    clear hm p6 hb6 RZ
    generalize lz.length = nz at *
    go_wp2_with fail
    refine p7.mono ?_
    rintro e w7 ⟨rfl, hb7⟩
    have Hb7 := Lib.hid (Hb6.out.trans (hb7.mono Hb6.out.size))
    have p9 := p8 w7 hb7
    clear p7 p8 hb7 rm
    go_wp2_with fail
    refine p9.mono ?_
    rintro e w8 ⟨rfl, hb8⟩
    have Hb8 := Lib.hid (Hb7.out.trans (hb8.mono Hb7.out.size))
    have pa := awake_any w8
    clear p9 hb8
    have hwn : IntKind.i64.wrap ((na : Int) + (nb : Int)) = (na : Int) + (nb : Int) := IntWalk.i64_in _ (by omega)
    have hwn2 : wrap64 ((na : Int) + (nb : Int)) = (na : Int) + (nb : Int) := IntWalk.wrap64_in _ (by omega)
    go_wp2_with fail
    refine pa.mono ?_
    rintro e w9 ⟨rfl, hb9⟩
    have Hb9 := Lib.hid (Hb8.out.trans (hb9.mono Hb8.out.size))
    clear hb9 pa
    go_wp2
    go_ret
    exact ⟨rfl, Hb9.out⟩
theorem parts_walk (d : Int) (A1 : Option Addr) (l1 c1 : Nat) (t1 : List Int) (A2 : Option Addr) (l2 c2 : Nat) (t2 : List Int) (w : World) (hd0 : (Lit.int .i64 d).wf = true)
    (E1 : t1.length = l1) (C1 : l1 ≤ c1) (R1 : Reads w w.heap.size 1 A1 l1 (t1.map (Value.int .i64))) (W1 : ∀ t ∈ t1, (Lit.int .i64 t).wf = true) (N1 : A1 = none → c1 = 0)
    (E2 : t2.length = l2) (C2 : l2 ≤ c2) (R2 : Reads w w.heap.size 1 A2 l2 (t2.map (Value.int .i64))) (W2 : ∀ t ∈ t2, (Lit.int .i64 t).wf = true) (N2 : A2 = none → c2 = 0) :
    Calls Try.prog 7 #[.int .i64 d, .slice A1 l1 c1, .slice A2 l2 c2] w fun e w' => e = .returned (.bool true) ∧ Below w.heap.size w w' := by
  subst E1 E2
  exact parts_walk0 d A1 c1 t1 A2 c2 t2 w hd0 C1 R1 W1 N1 C2 R2 W2 N2
end Go.Proofs.Ythhklbjhlfejfaa.Hi
