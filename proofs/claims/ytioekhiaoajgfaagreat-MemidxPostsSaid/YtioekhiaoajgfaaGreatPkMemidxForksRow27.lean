/- (*memidx.Index).Posts: the walk (printed by gen_mxf.py). -/
import Derived.Sort.OwnSorted
import Derived.Maps.RangeWalk
import Derived.Test.YtioekhiaoajgfaaGreatPkMemidxForksRow26
import Derived.Test.YtioekhiaoajgfaaGreatShelfPk
import Derived.Test.YtioekhiaoajgfaaGreatPkMemidxForksRow21
import Derived.Test.YtioekhiaoajgfaaGreatPkMemidxForksRow24
section
namespace Go.Proofs.YtioekhiaoajgfaaGreat.Mx
open Go.RowKit Go.Maps Go.Proofs.YtioekhiaoajgfaaGreat Go.Proofs.YtioekhiaoajgfaaGreat.Ut Go.Proofs.YtioekhiaoajgfaaGreat.Tk Go.Proofs.YtioekhiaoajgfaaGreat.Qy Go.Proofs.YtioekhiaoajgfaaGreat.Ev Go.Proofs.YtioekhiaoajgfaaGreat.Qp Go.Proofs.YtioekhiaoajgfaaGreat.Mv Go.Proofs.YtioekhiaoajgfaaGreat.Ph
set_option linter.unusedVariables false
set_option linter.unusedSimpArgs false
set_option maxRecDepth 20000

def IntsP (w : World) (ps : List Nat) (e : Ending) (w' : World) : Prop := ∃ A c, e = .returned (.slice A ps.length c) ∧ w'.ownsRow w.heap.size 3 1 (.slice A ps.length c) ps.length (nC ps) ∧ ps.length ≤ c ∧ (A = none → c = 0) ∧ Below w.heap.size w w'
theorem cloneN_any (P : Option Addr) (pc : Nat) (ps : List Nat) (w : World) (h : Reads w w.heap.size 1 P ps.length (nC ps)) (hne : ps ≠ []) (hsz : ps.length ≤ 65536) :
    Calls Tryz.prog 32 #[.slice P ps.length pc] w (IntsP w ps) := by
  have hp := List.length_pos_iff.2 hne
  obtain ⟨b, o, rfl, hb, hc⟩ := h.2 hp
  refine (Tryz.slices_Clone_int b o ps.length pc (ps.map (fun n => ((n : Nat) : Int))) w (by simp) (by omega) (fun j hj => ?_)).mono ?_
  · rw [List.length_map] at hj
    refine hc j _ ?_
    unfold nC
    rw [List.getElem?_map, List.getElem?_eq_getElem hj]
    simp [List.getD_eq_getElem?_getD, List.getElem?_map, hj]
  · rintro e w' ⟨v', rfl, ho, _, hbw⟩
    obtain ⟨A, c, e2, _, q1, q2, _⟩ := own_shape2 ho
    subst e2
    refine ⟨A, c, rfl, ?_, q1, q2, hbw⟩
    have : (List.map (fun n => ((n : Nat) : Int)) ps).take ps.length = List.map (fun n => ((n : Nat) : Int)) ps := List.take_of_length_le (by simp)
    rw [this, List.map_map] at ho
    exact ho
theorem PRow.put {w w5 : World} {base n : Nat} {u v' : Value} {l : List Po} {xs : List Pr} {x : Pr} (h : w.ownsRow base 74 2 u n (xs.flatMap encP)) (hn : l.length = n) (hxs : xs.map prP = l) (hxp : ∀ y ∈ xs, PosV w y) (hx : PosV w x) (hg : w.grownBy w5 u.ownBlock) (ho : w5.ownsRow base 74 2 v' (n + 1) (xs.flatMap encP ++ encP x)) : PRow w5 base v' (l ++ [prP x]) := by
  have kt : ∀ b, Tg w 3 b → w5.heap[b]? = w.heap[b]? := fun b hb => hg.block b hb.lt (fun e => absurd ((tg_own h e.symm).one hb) (by decide))
  refine ⟨xs ++ [x], by simp [hxs], ?_, fun y hy => ?_⟩
  · rw [List.flatMap_append, List.length_append, hn]
    simpa using ho
  · rcases List.mem_append.1 hy with hy | hy
    · exact (hxp y hy).same kt
    · rw [List.mem_singleton] at hy; subst hy
      exact hx.same kt
theorem PRow.below {w w' : World} {n0 : Nat} {u : Value} {l : List Po} (h : PRow w n0 u l) (hb : Below w.heap.size w w') : PRow w' n0 u l :=
  h.same (fun b ht => hb.block b ht.lt) (fun b e => hb.block b (h.tag b e).1.lt)
/-- What Posts hands back. -/
def PostsP (w : World) (l : List Po) (e : Ending) (w' : World) : Prop := ∃ v, e = .returned v ∧ PRow w' w.heap.size v l ∧ Below w.heap.size w w'
/-- The k-th post. -/
theorem post_at {w : World} {n0 : Nat} {A : Option Addr} {n c : Nat} {xs : List Pr} (h : w.ownsRow n0 74 2 (.slice A n c) n (xs.flatMap encP)) (hl : xs.length = n) (hp : ∀ y ∈ xs, PosV w y) {i : Nat} (hi : i < xs.length) :
    ∃ g P pc, A = some ⟨g, 0, none⟩ ∧ g < w.heap.size ∧ w.cell? ⟨g, i * 2, none⟩ = some (.int .i64 (xs[i].1 : Nat)) ∧ w.cell? ⟨g, i * 2 + 1, none⟩ = some (.slice P xs[i].2.2.length pc) ∧ xs[i].2.1 = .slice P xs[i].2.2.length pc ∧ Reads w w.heap.size 1 P xs[i].2.2.length (nC xs[i].2.2) ∧ xs[i].2.2 ≠ [] ∧ xs[i].2.2.length ≤ 65536 := by
  have hr := ReadsS.of_own h
  obtain ⟨b, o, e, hb, hc⟩ := hr.2 (by omega)
  have hb2 := hb.2.2
  rw [e] at hb2
  rcases h.2 with ⟨hv, _⟩ | ⟨g, cap, cur, hv, hg, hh, _⟩
  · rw [e] at hv; cases hv
  · injection hv with hv _ _
    rw [hv] at e
    injection e with e
    injection e with e1 e2
    subst e1 e2
    have f0 := Ss.encs_get (enc := encP) (k := 2) (fun _ => rfl) xs i 0 hi (by omega)
    have f1 := Ss.encs_get (enc := encP) (k := 2) (fun _ => rfl) xs i 1 hi (by omega)
    have c0 := hc _ _ (f0.trans rfl)
    have c1 := hc _ _ (f1.trans rfl)
    rw [Nat.zero_add] at c0 c1
    have hx := hp _ (List.getElem_mem hi)
    obtain ⟨P, pc, e2, _, e4⟩ := hx.ex
    refine ⟨g, P, pc, hv, hb.2.1, ?_, ?_, e2, e4.reads (fun b hb => hb.lt), hx.ne, hx.sz⟩
    · simpa using c0
    · rw [← e2]; exact c1

set_option maxHeartbeats 3200000 in
theorem posts_any {w : World} {n0 X M cn : Nat} {v : Value} {F : ByteArray → Option Value} {O : Nat → Prop} {ds : List Dc} {sz lo hi : Int} {f : ByteArray → List Po} (s : ByteArray) (hs : s.size ≤ maxLen) (h : Idx w n0 X M cn v F O ds sz lo hi f) (hfew : (f s).length ≤ 131072) :
    Calls Tryz.prog 9 #[.pointer (some ⟨X, 0, none⟩), .string s] w (PostsP w (f s)) := by
  obtain ⟨j0, hj0, hy0, hy1, hy2⟩ := info_parts post_info
  have c1 := Lib.hid (none_no h)
  have k4 := h.blk.cell 4
  simp only [List.getElem?_toArray, List.getElem?_cons_zero, List.getElem?_cons_succ] at k4
  obtain ⟨u, xs, hgu, _, hxs, hown, hxp⟩ := h.row_at s
  obtain ⟨A4, q4, rfl, _, hq4, hn4, _⟩ := own_shape2 hown
  have hkey := keyS hs
  have HM := Lib.hid h.mp
  have hxl : xs.length = (f s).length := by rw [← hxs, List.length_map]
  have HG : Hid (∀ wx, Below w.heap.size w wx → ∀ i (hi : i < xs.length), ∃ g P pc, A4 = some ⟨g, 0, none⟩ ∧ g < wx.heap.size ∧ wx.cell? ⟨g, i * 2, none⟩ = some (.int .i64 (xs[i].1 : Nat)) ∧ wx.cell? ⟨g, i * 2 + 1, none⟩ = some (.slice P xs[i].2.2.length pc) ∧ xs[i].2.1 = .slice P xs[i].2.2.length pc ∧ Reads wx wx.heap.size 1 P xs[i].2.2.length (nC xs[i].2.2) ∧ xs[i].2.2 ≠ [] ∧ xs[i].2.2.length ≤ 65536) := Lib.hid (fun wx hb i hi => by
    obtain ⟨g, P, pc, e, hg, q0, q1, q2, hr, hnl⟩ := post_at hown hxl hxp hi
    exact ⟨g, P, pc, e, Nat.lt_of_lt_of_le hg hb.size, (hb.cell hg).trans q0, (hb.cell hg).trans q1, q2, (hr.below hb).more hb.size, hnl⟩)
  generalize hfs : f s = l at *
  have HXS := Lib.hid hxs
  have HGU := Lib.hid hgu
  have hl1 : xs.length ≤ l.length := by omega
  have hl2 : l.length ≤ xs.length := by omega
  clear h hgu hxs hown hxp hxl hfs
  go_enter Tryz.func9, Tryz.ntmps9
  go_wp2_with fail
  refine c1.out.mono ?_
  rintro e w' ⟨rfl, rfl⟩
  go_wp2_with (at_lookup; refine wpList_look_v rfl (.tmp 13) (.tmp 14) 57 33 rfl lawS Tryz.underlying57 (Tryz.zeroValue33 _) M cn F rfl HM.out s rfl hkey (.slice A4 l.length q4) HGU.out ?_)
  go_loopw [5, 17] (fun v i wr => ∃ k : Nat, k ≤ l.length ∧ i = .int .i64 (k : Nat) ∧ Hid (PRow wr w.heap.size v (l.take k)) ∧ Hid (Below w.heap.size w wr)) (fun _ i _ => l.length - (intOf i).toNat)
  case atStart => exact ⟨0, Nat.zero_le _, rfl, Lib.hid ⟨[], rfl, World.ownsRow_nil _ _ _ _, fun x hx => by cases hx⟩, Lib.hid (Below.refl _ _)⟩
  case round =>
    obtain ⟨k, hk, rfl, hO, hB⟩ := hrel
    by_cases hlt : k < l.length
    · have hkz : (k : Int) < (l.length : Int) := by omega
      have hk0 : (0 : Int) ≤ (k : Int) := by omega
      have hkx : k < xs.length := by omega
      obtain ⟨g, P, pc, rfl, hg, q0, q1, q2, hr, hnl, hsz⟩ := HG.out wr hB.out k hkx
      have htk : l.take (k + 1) = l.take k ++ [prP xs[k]] := by
        rw [List.take_succ_eq_append_getElem hlt]
        congr 2
        have h1 : l[k]? = (xs.map prP)[k]? := by rw [HXS.out]
        rw [List.getElem?_eq_getElem hlt, List.getElem?_map, List.getElem?_eq_getElem hkx] at h1
        injection h1
      have hlnk : (l.take k).length = k := by rw [List.length_take]; omega
      have HTK := Lib.hid htk
      have HLK := Lib.hid hlnk
      clear htk hlnk
      generalize xs[k] = x at *
      obtain ⟨d, pv, ps⟩ := x
      simp only at q0 q1 q2 hr hnl hsz
      subst q2
      have hBx : Below wr.heap.size wr (wr.alloc (.cells #[.int .i64 (d : Nat), .slice P ps.length pc] 74)) := (Below.refl _ _).alloc (Nat.le_refl _) _
      have hbx := Blk.new wr 74 #[.int .i64 (d : Nat), .slice P ps.length pc]
      have HBX := Lib.hid hbx
      have HO := Lib.hid (hO.out.below hBx)
      have HR := Lib.hid ((hr.below hBx).more hBx.size)
      have HBW := Lib.hid (hB.out.trans (hBx.mono hB.out.size))
      have hw := hBx.size
      have hw2 := hB.out.size
      go_upto_region 7 with fail
      clear hr hbx hBx q0 q1 hO hB
      generalize hbz : wr.heap.size = bz at *
      have hbz' : bz < (wr.alloc (.cells #[.int .i64 (d : Nat), .slice P ps.length pc] 74)).heap.size := by rw [World.size_alloc]; omega
      clear hbz
      generalize (wr.alloc (.cells #[.int .i64 (d : Nat), .slice P ps.length pc] 74)) = wE at *
      have Hcells : Hid (∀ wx, Below wE.heap.size wE wx → wx.cell? ⟨bz, 0, none⟩ = some (.int .i64 (d : Nat)) ∧ wx.cell? ⟨bz, 1, none⟩ = some (.slice P ps.length pc)) := Lib.hid (fun wx hb => by
        have k0 := (HBX.out.below hb HBX.out.lt).cell 0
        have k1 := (HBX.out.below hb HBX.out.lt).cell 1
        simp only [List.getElem?_toArray, List.getElem?_cons_zero, List.getElem?_cons_succ] at k0 k1
        exact ⟨k0, k1⟩)
      refine wp_region_ph_tail 8 (specOf [(5, ⟨Option Addr × Nat, fun x => .slice x.1 ps.length x.2, fun x wx => wx.ownsRow wE.heap.size 3 1 (.slice x.1 ps.length x.2) ps.length (nC ps) ∧ ps.length ≤ x.2⟩),
          (7, ⟨Option Addr × Nat × Nat, fun x => .slice (some ⟨x.2.2, 0, none⟩) 1 1, fun x wx => wx.ownsRow wE.heap.size 3 1 (.slice x.1 ps.length x.2.1) ps.length (nC ps) ∧ ps.length ≤ x.2.1 ∧ Blk wx x.2.2 74 #[.int .i64 (d : Nat), .slice x.1 ps.length x.2.1] ∧ wE.heap.size ≤ x.2.2⟩)]) (fun wx => Below wE.heap.size wE wx) (fun _ => True) (by kernel_rfl) (by kernel_rfl) (turns_of (by kernel_rfl)) (Below.refl _ _).drew trivial ?_
      refine ph_fix 1 ?_ rfl (by rfl) (by rfl) (fun wx hC => ?_) ?_
      rotate_left
      · obtain ⟨g0, g1⟩ := Hcells.out wx hC
        go_simp
        all_goals with_reducible rfl
      try simp only [Act.put, List.setIfInBounds_toArray, List.set_cons_zero, List.set_cons_succ]
      refine ph_fix 2 ?_ rfl (by rfl) (by rfl) (fun wx hC => ?_) ?_
      rotate_left
      · obtain ⟨g0, g1⟩ := Hcells.out wx hC
        go_simp
        all_goals with_reducible rfl
      try simp only [Act.put, List.setIfInBounds_toArray, List.set_cons_zero, List.set_cons_succ]
      refine ph_fix 3 ?_ rfl (by rfl) (by rfl) (fun wx hC => ?_) ?_
      rotate_left
      · obtain ⟨g0, g1⟩ := Hcells.out wx hC
        go_simp
        all_goals with_reducible rfl
      try simp only [Act.put, List.setIfInBounds_toArray, List.set_cons_zero, List.set_cons_succ]
      refine ph_fix 4 ?_ rfl (by rfl) (by rfl) (fun wx hC => ?_) ?_
      rotate_left
      · obtain ⟨g0, g1⟩ := Hcells.out wx hC
        go_simp
        all_goals with_reducible rfl
      try simp only [Act.put, List.setIfInBounds_toArray, List.set_cons_zero, List.set_cons_succ]
      refine ph_fix 5 ?_ rfl (by rfl) (by rfl) (fun wx hC => ?_) ?_
      rotate_left
      · obtain ⟨g0, g1⟩ := Hcells.out wx hC
        go_simp
        all_goals with_reducible rfl
      try simp only [Act.put, List.setIfInBounds_toArray, List.set_cons_zero, List.set_cons_succ]
      refine ph_give 6 _ rfl (by rfl) (by rfl) (fun wx hC hI => ?_) (fun x => ?_)
      · refine give_enter (f := ?_) (args := ?_) ?_ ?_
        rotate_left 2
        · obtain ⟨g0, g1⟩ := Hcells.out wx hC
          go_simp
          all_goals first | with_reducible rfl | (refine ⟨?_, ?_⟩ <;> with_reducible rfl)
        refine (cloneN_any P pc ps wx ((HR.out.below hC).more hC.size) hnl hsz).mono ?_
        rintro e w9 ⟨A9, c9, rfl, ho9, hp9, _, hb9⟩
        exact ⟨_, rfl, trivial, hC.trans (hb9.mono hC.size), (A9, c9), rfl, own_mono ho9 hC.size, hp9⟩
      obtain ⟨A5, c5⟩ := x
      try simp only [Act.put, List.setIfInBounds_toArray, List.set_cons_zero, List.set_cons_succ]
      refine ph_fix 7 ?_ rfl (by rfl) (by rfl) (fun wx hC => ?_) ?_
      rotate_left
      · obtain ⟨g0, g1⟩ := Hcells.out wx hC
        go_simp
        all_goals with_reducible rfl
      try simp only [Act.put, List.setIfInBounds_toArray, List.set_cons_zero, List.set_cons_succ]
      refine ph_give 8 _ rfl (by rfl) (by rfl) (fun wx hC hI => ?_) (fun x => ?_)
      · refine give_value (u := ?_) (w' := ?_) ?_ trivial ?_
        rotate_left 2
        · go_simp
          all_goals first | with_reducible rfl | (refine ⟨?_, ?_⟩ <;> with_reducible rfl)
        · exact ⟨hC.alloc hC.size _, (A5, c5, wx.heap.size), rfl, hI.1.alloc _, hI.2, Blk.new _ _ _, hC.size⟩
      obtain ⟨A7, c7, x7⟩ := x
      try simp only [Act.put, List.setIfInBounds_toArray, List.set_cons_zero, List.set_cons_succ]
      refine ph_nil (fun w7 hC hI => ?_)
      obtain ⟨ho7, hp7, hb7, hle7⟩ := hI
      have hO7 := HO.out.below hC
      obtain ⟨ys, y1, y2, y3⟩ := hO7.ex
      rw [HLK.out] at y2
      have Put : Hid (∀ v' w5, w5.ownsRow w.heap.size 74 2 v' (k + 1) (ys.flatMap encP ++ [.int .i64 (d : Nat), .slice A7 ps.length c7]) → _ → PRow w5 w.heap.size v' (l.take (k + 1))) := Lib.hid (fun v' w5 p1 p2 => by
        rw [HTK.out]
        exact PRow.put (x := (d, .slice A7 ps.length c7, ps)) y2 HLK.out y1 y3 ⟨⟨A7, c7, rfl, hp7, (ReadsS.of_own ho7).mono (fun b hb => tg_own ho7 hb.2.2)⟩, hnl, hsz⟩ p2 p1)
      have Y2 := Lib.hid y2
      have HC7 := Lib.hid hC
      have HB7 := Lib.hid hb7
      have hs7 := hC.size
      clear ho7 hp7 hb7 hO7 y1 y2 y3 hC
      simp only [List.drop_succ_cons, List.drop_zero]
      refine wpList_append_own _ rfl _ _ 33 rfl w.heap.size 74 j0 _ 2 32 Tryz.underlying33 hj0 hy0 hy1 hy2 rfl (by decide) _ _ _ rfl Y2.out ⟨x7, 0, none⟩ 1 1 [.int .i64 (d : Nat), .slice A7 ps.length c7] rfl rfl (World.news_of_block (cs := #[.int .i64 (d : Nat), .slice A7 ps.length c7]) (t := 74) (fr := (0, 0)) HB7.out) (by simp [Value.oneCell']) (by unfold maxLen; omega) (by omega) (by omega) ?_
      intro v' w5 hown5 hg5 _
      have Fin := Lib.hid (Put.out v' w5 hown5 hg5)
      have hbF : Hid (Below w.heap.size w w5) := Lib.hid ((HBW.out.trans (HC7.out.mono HBW.out.size)).grown hg5 (by omega) (fun j hj => (Y2.out.lt j hj).1))
      clear hown5 hg5
      go_wp2
      go_roundw
      case rel => exact ⟨k + 1, by omega, by go_num, Fin, hbF⟩
      case measure => simp [intOf]; omega
    · obtain rfl : k = l.length := by omega
      rw [List.take_length] at hO
      go_wp2
      go_ret
      exact ⟨_, rfl, hO.out, hB.out⟩
end Go.Proofs.YtioekhiaoajgfaaGreat.Mx
end

section
/- The index in a later world. (No walk.) -/
namespace Go.Proofs.YtioekhiaoajgfaaGreat.Mx
open Go.RowKit Go.Proofs.YtioekhiaoajgfaaGreat Go.Proofs.YtioekhiaoajgfaaGreat.Ut Go.Proofs.YtioekhiaoajgfaaGreat.Tk Go.Proofs.YtioekhiaoajgfaaGreat.Qy Go.Proofs.YtioekhiaoajgfaaGreat.Ev Go.Proofs.YtioekhiaoajgfaaGreat.Qp Go.Proofs.YtioekhiaoajgfaaGreat.Mv
set_option linter.unusedVariables false
theorem Idx.later {w w' : World} {n0 X M cn : Nat} {v : Value} {F : ByteArray → Option Value} {O : Nat → Prop} {ds : List Dc} {sz lo hi : Int} {f : ByteArray → List Po} (h : Idx w n0 X M cn v F O ds sz lo hi f) (hb : Below w.heap.size w w') : Idx w' n0 X M cn v F (fun b => n0 ≤ b ∧ b < w'.heap.size) ds sz lo hi f :=
  h.below hb (fun b hO => ⟨(h.lt b hO).1, Nat.lt_of_lt_of_le (h.lt b hO).2 hb.size⟩) (fun b hb => hb)
end Go.Proofs.YtioekhiaoajgfaaGreat.Mx
end

section
/- (*memidx.Index).Terms: the walk (seat k). -/
namespace Go.Proofs.YtioekhiaoajgfaaGreat.Mx
open Go.RowKit Go.Maps Go.Sort Go.Proofs.YtioekhiaoajgfaaGreat Go.Proofs.YtioekhiaoajgfaaGreat.Ut Go.Proofs.YtioekhiaoajgfaaGreat.Tk Go.Proofs.YtioekhiaoajgfaaGreat.Qy Go.Proofs.YtioekhiaoajgfaaGreat.Ev Go.Proofs.YtioekhiaoajgfaaGreat.Qp Go.Proofs.YtioekhiaoajgfaaGreat.Mv
set_option linter.unusedVariables false
set_option linter.unusedSimpArgs false
set_option maxRecDepth 20000

theorem insNil (w : World) : Calls Tryz.prog 79 #[.slice none 0 0, .int .i64 0, .int .i64 0] w fun e w' => e = .returned (.tuple #[]) ∧ w' = w := by
  go_enter Tryz.func79, Tryz.ntmps79
  go_wp2_with fail
  go_loopw [6] (fun i wr => i = .int .i64 1 ∧ wr = w) (fun _ _ => 0)
  case atStart => exact ⟨rfl, rfl⟩
  case round =>
    obtain ⟨rfl, rfl⟩ := hrel
    go_wp2
    go_end0
    exact ⟨rfl, rfl⟩
theorem pdqNil (lim : Int) (w : World) : Calls Tryz.prog 53 #[.slice none 0 0, .int .i64 0, .int .i64 0, .int .i64 lim] w fun e w' => e = .returned (.tuple #[]) ∧ w' = w := by
  have ci := insNil
  go_enter Tryz.func53, Tryz.ntmps53
  go_wp2_with fail
  go_loopw [1, 2, 3] (fun a b m wr => a = .int .i64 0 ∧ b = .int .i64 0 ∧ wr = w) (fun _ _ _ _ => 0)
  case atStart => exact ⟨rfl, rfl, rfl⟩
  case round =>
    obtain ⟨rfl, rfl, rfl⟩ := hrel
    go_wp2_with fail
    refine (ci _).mono ?_
    rintro e w2 ⟨rfl, rfl⟩
    go_wp2
    refine bodyPost_ret (results_none rfl _ _ _) rfl ?_
    exact ⟨rfl, rfl⟩
theorem sortNil (w : World) : Calls Tryz.prog 35 #[.slice none 0 0] w fun e w' => e = .returned (.tuple #[]) ∧ w' = w := by
  have cp := pdqNil
  have cl := fun wx => Tryz.bits_Len 0 wx (by omega) (by omega)
  go_enter Tryz.func35, Tryz.ntmps35
  go_wp2_with fail
  refine (cl _).mono ?_
  rintro e w2 ⟨rfl, rfl⟩
  go_wp2_with fail
  refine (cp _ _).mono ?_
  rintro e w2 ⟨rfl, rfl⟩
  go_wp2
  go_end0
  exact ⟨rfl, rfl⟩
theorem keyS_inv {key : Value} {kl : Lit} (h : keyOf Tryz.prog 9 key = some kl) : ∃ s : ByteArray, key = .string s ∧ kl = litS.lit s ∧ s.size ≤ maxLen := by
  have hk := Tryz.underlying9
  cases key <;> simp [keyOf, hk, mapKey] at h
  exact ⟨_, rfl, h.2.symm, h.1⟩
/-- The way through a map: what has come, what is still to come. -/
structure Way (D : DataW Value) (F : ByteArray → Option Value) (left : Lit → Bool) (l : List ByteArray) : Prop where
  got : ∀ s ∈ l, (F s).isSome = true ∧ left (litS.lit s) = false
  rest : ∀ s, (F s).isSome = true → left (litS.lit s) = true ∨ s ∈ l
  nd : l.Nodup
  ofD : ∀ kl, left kl = true → Maps.has D kl = true
theorem Way.start {D : DataW Value} {F : ByteArray → Option Value} (h : TabV litS D F) : Way D F (Maps.has D) [] :=
  ⟨fun x hx => (nomatch hx), fun s e => .inl (by rw [h.has, e]), List.nodup_nil, fun _ h => h⟩
theorem Way.step {D : DataW Value} {F : ByteArray → Option Value} {left : Lit → Bool} {l : List ByteArray} (h : Way D F left l) (hD : TabV litS D F) {s : ByteArray} (hl : left (litS.lit s) = true) :
    (F s).isSome = true ∧ s ∉ l ∧ Way D F (fun z => left z && !z.sameKey (litS.lit s)) (l ++ [s]) := by
  have hs : (F s).isSome = true := by
    have h1 := hD.has s
    rw [h.ofD _ hl] at h1
    exact h1.symm
  have hn : s ∉ l := fun hm => by
    have := (h.got s hm).2
    rw [hl] at this
    cases this
  refine ⟨hs, hn, fun x hx => ?_, fun t ht => ?_, ?_, fun kl hk => h.ofD kl (by rw [Bool.and_eq_true] at hk; exact hk.1)⟩
  · rcases List.mem_append.1 hx with hx | hx
    · exact ⟨(h.got x hx).1, by rw [(h.got x hx).2]; rfl⟩
    · rw [List.mem_singleton] at hx
      subst hx
      exact ⟨hs, by rw [same_dec litS]; simp⟩
  · rcases h.rest t ht with h1 | h1
    · by_cases e : t = s
      · exact .inr (by rw [e]; simp)
      · left
        rw [h1, same_dec litS, decide_eq_false e]
        rfl
    · exact .inr (List.mem_append_left _ h1)
  · rw [List.nodup_append]
    exact ⟨h.nd, by simp, fun a ha b hb e => by rw [List.mem_singleton] at hb; rw [e, hb] at ha; exact hn ha⟩
theorem Way.fin {D : DataW Value} {F : ByteArray → Option Value} {left : Lit → Bool} {l : List ByteArray} (h : Way D F left l) (h0 : ∀ kl, left kl = false) : ∀ s, s ∈ l ↔ (F s).isSome = true := fun s =>
  ⟨fun hs => (h.got s hs).1, fun hs => by
    rcases h.rest s hs with h1 | h1
    · rw [h0] at h1; cases h1
    · exact h1⟩
theorem strI : (Tryz.prog.info? 9).map (fun i => (i.zero, i.size, i.bytes)) = some (some (.string ByteArray.empty), 1, 16) := by kernel_rfl
def bts (l : List ByteArray) : List (List UInt8) := l.map (·.data.toList)
/-- What Terms hands back. -/
def TermsP (w : World) (F : ByteArray → Option Value) (e : Ending) (w' : World) : Prop :=
  ∃ (l : List ByteArray) (v : Value), (∀ s, s ∈ l ↔ (F s).isSome = true) ∧ l.Nodup ∧ e = .returned v ∧ w'.ownsRow w.heap.size 9 1 v l.length (((bts l).mergeSort fun x y => decide (x ≤ y)).map encStr) ∧ Below w.heap.size w w'
set_option maxHeartbeats 1600000 in
theorem termsX_any {w : World} {n0 X M cn : Nat} {v : Value} {F : ByteArray → Option Value} {O : Nat → Prop} {ds : List Dc} {sz lo hi : Int} {f : ByteArray → List Po} (h : Idx w n0 X M cn v F O ds sz lo hi f) (hcn : cn ≤ 4294967296) :
    Calls Tryz.prog 12 #[.pointer (some ⟨X, 0, none⟩)] w (TermsP w F) := by
  obtain ⟨i0, hi0, hz0, hz1, hz2⟩ := info_parts strI
  obtain ⟨D, hown, hT⟩ := h.mp.ex
  have c1 := Lib.hid (none_no h)
  have k4 := h.blk.cell 4
  simp only [List.getElem?_toArray, List.getElem?_cons_zero, List.getElem?_cons_succ] at k4
  have hbl := hown.lt
  have hszD := hown.size_le
  have HT := Lib.hid hT
  clear h hT
  go_enter Tryz.func12, Tryz.ntmps12
  go_wp2_with fail
  refine c1.out.mono ?_
  rintro e w' ⟨rfl, rfl⟩
  clear c1
  go_wp2_with (first
    | (at_range; refine wpList_range_own _ rfl _ 57 rfl 9 33 lawS Tryz.underlying57 rawR M cn D rfl hown ?_; intro w0 hrg0 hg0 hs0)
    | go_in)
  go_frame
  have Hb0 := Lib.hid ((Below.refl w.heap.size w).grown hg0 (Nat.le_refl _) (fun j hj => by cases hj))
  clear hg0 hown k4
  go_loopw [3] (fun v wr => ∃ (left : Lit → Bool) (cnt : Nat) (l : List ByteArray), wr.ranges Tryz.prog 9 rawR M w.heap.size cn D left cnt ∧ l.length + cnt ≤ cn ∧ Hid (Way D F left l) ∧ Hid (wr.ownsRow (w.heap.size + 1) 9 1 v l.length ((bts l).map encStr)) ∧ Hid (Below w.heap.size w wr) ∧ w.heap.size < wr.heap.size)
    (fun _ wr => wr.rangeLeft M w.heap.size)
  case atStart => exact ⟨_, _, [], hrg0, by simpa using hszD, Lib.hid (Way.start HT.out), Lib.hid (World.ownsRow_nil _ _ _ _), Hb0, by omega⟩
  case round =>
    obtain ⟨left, cnt, l, hrg, hcs, hW, hO, hB, hzr⟩ := hrel
    go_wp2_with (first
      | (at_next; refine wpList_next_ranges _ rfl _ rfl 9 lawS rawR Value.string (fun v : Value => v) (fun key kl hkey => by obtain ⟨x, rfl, _⟩ := keyS_inv hkey; exact ⟨x, rfl⟩) (fun v y hv => ⟨v, rfl⟩) M w.heap.size _ _ _ _ rfl hrg ?_ ?_)
      | go_in)
    · intro hc0 hl0
      have hfin := Lib.hid (hW.out.fin hl0)
      have HND := Lib.hid hW.out.nd
      clear hrg hl0 hW
      rcases hO.out.2 with ⟨hnil, h0⟩ | ⟨g, cap, cur, hv, hbase, hb, h1, h2, h3, h4⟩
      · have hl : l = [] := List.length_eq_zero_iff.1 h0
        subst hnil hl
        have HOf : Hid (wr.ownsRow w.heap.size 9 1 (.slice none 0 0) ([] : List ByteArray).length (((bts []).mergeSort fun x y => decide (x ≤ y)).map encStr)) := Lib.hid (by
          have e1 : ((bts []).mergeSort fun x y => decide (x ≤ y)) = [] := by simp [bts]
          rw [e1]
          exact World.ownsRow_nil _ _ _ _)
        clear h0 hO
        go_wp2_with fail
        refine (sortNil _).mono ?_
        rintro e w2 ⟨rfl, rfl⟩
        go_wp2
        go_ret
        exact ⟨[], _, hfin.out, HND.out, rfl, HOf.out, hB.out⟩
      · subst hv
        have hbl2 : (bts l).length = l.length := by simp [bts]
        have hgl : g < wr.heap.size := (Array.getElem?_eq_some_iff.1 hb).1
        have hH : Holds encStr wr g 0 (bts l).toArray := holds_of_block hb (by rw [hbl2]; simpa using h4)
        have CS := Tryz.slices_Sort_string g 0 cap (bts l) wr hH hgl (by rw [hbl2]; omega)
        rw [hbl2] at CS
        have CSH := Lib.hid CS
        have HS : Hid (∀ n os, (grow (putRow encStr (Sort.ahead wr n) g 0 ((bts l).mergeSort fun x y => decide (x ≤ y)).toArray) os).ownsRow w.heap.size 9 1 (.slice (some ⟨g, 0, none⟩) l.length cap) l.length (((bts l).mergeSort fun x y => decide (x ≤ y)).map encStr)) := Lib.hid (fun n os => by
          have h := ownsRow_sorted (w := wr) (base := w.heap.size) (g := g) (cap := cap) (n := n) (e := 9) (os := os) (cur := cur) (ss := bts l) (ts := (bts l).mergeSort fun x y => decide (x ≤ y)) (by simp) (by omega) hb (by rw [hbl2]; exact h1) h2 h3
          rw [hbl2] at h
          exact h)
        have HG : Hid (∀ n os, Below w.heap.size w (grow (putRow encStr (Sort.ahead wr n) g 0 ((bts l).mergeSort fun x y => decide (x ≤ y)).toArray) os)) := Lib.hid (fun n os => hB.out.grown (grownBy_sorted _) hB.out.size (fun j hj => by injection hj with hj; omega))
        clear CS hH hbl2 hO h4 hb h3 hbase h1 h2
        go_wp2_with fail
        refine CSH.out.mono ?_
        rintro e w2 ⟨rfl, n, os, rfl⟩
        have HS2 := Lib.hid (HS.out n os)
        have HG2 := Lib.hid (HG.out n os)
        clear HS HG CSH
        generalize grow (putRow encStr (Sort.ahead wr n) g 0 ((bts l).mergeSort fun x y => decide (x ≤ y)).toArray) os = w2 at *
        go_wp2
        go_ret
        exact ⟨l, _, hfin.out, HND.out, rfl, HS2.out, HG2.out⟩
    · intro x c klx ya yb w3 cnt1 hkey hlx hv hat hrg1 hlt1 hg1 hs1 hen
      obtain ⟨x', ex, rfl, hxs⟩ := keyS_inv hkey
      injection ex with ex
      subst ex
      obtain ⟨_, _, hW1⟩ := hW.out.step HT.out hlx
      have hO1 := hO.out.kept hg1 (by cases hv' : Value.ownBlock _ with | none => exact .inl rfl | some g => exact .inr (fun e => by injection e with e; have := (hO.out.lt g hv').1; omega))
      have hB1 := hB.out.grown hg1 hB.out.size (fun j hj => by injection hj with hj; omega)
      have HW1 := Lib.hid hW1
      have HO1 := Lib.hid hO1
      have HB1 := Lib.hid hB1
      have hb3 := hB1.size
      have hzw : w.heap.size < w3.heap.size := by omega
      have hex : encStr x.data.toList = .string x := rfl
      clear hW hW1 hO hO1 hB hB1 hg1 hat hkey hv hlx hs1
      go_wp2_with (first
        | (at_builtin; refine wpList_append_own _ rfl _ _ 36 rfl (w.heap.size + 1) 9 i0 _ 1 16 Tryz.underlying36 hi0 hz0 hz1 hz2 rfl (by decide) _ l.length ((bts l).map encStr) rfl (HO1.out.alloc _) ⟨w3.heap.size, 0, none⟩ 1 1 [.string x] rfl rfl (World.news_of_block (cs := #[.string x]) (t := 9) (fr := (0, 0)) (heap_alloc_new w3 _)) (by simp [Value.oneCell']) ?c1 ?c2 ?c3 ?_)
        | go_in)
      case c1 => unfold maxLen; omega
      case c2 => omega
      intro v4 w4 ho4 hg4 _
      have hne : ∀ k : Nat, k ≤ w.heap.size → some k ≠ Value.ownBlock _ := fun k hk e => by have := (HO1.out.lt k e.symm).1; omega
      have hrg4 := (hrg1.kept (World.grownBy_alloc _ _ none) (by simp) (by simp)).kept hg4 (hne M (by omega)) (hne w.heap.size (Nat.le_refl _))
      have hb4 := (HB1.out.alloc HB1.out.size _).grown hg4 (by rw [World.size_alloc]; omega) (fun j hj => by have := (HO1.out.lt j hj).1; omega)
      have hz5 := hg4.size
      rw [World.size_alloc] at hz5
      have hm4 := hrg4.left_eq
      have hm0 := hrg.left_eq
      have Ho4 : Hid (w4.ownsRow (w.heap.size + 1) 9 1 v4 (l ++ [x]).length ((bts (l ++ [x])).map encStr)) := Lib.hid (by
        have e1 : (bts (l ++ [x])).map encStr = (bts l).map encStr ++ [.string x] := by simp [bts, hex]
        rw [e1, List.length_append]
        exact ho4)
      have Hrg4 := Lib.hid hrg4
      have Hb4 := Lib.hid hb4
      clear ho4 hg4 hrg4 hb4 hne hrg1 hen
      go_wp2
      go_roundw
      case rel => exact ⟨_, cnt1, l ++ [x], Hrg4.out, by rw [List.length_append, List.length_singleton]; omega, HW1, Ho4, Hb4, by omega⟩
      case measure => rw [hm4, hm0]; exact hlt1
end Go.Proofs.YtioekhiaoajgfaaGreat.Mx
end
