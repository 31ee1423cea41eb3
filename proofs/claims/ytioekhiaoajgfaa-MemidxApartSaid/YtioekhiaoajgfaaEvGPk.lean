/- loggiaref10.Docs: the walk (printed by gen_evg.py). -/
import Derived.Test.YtioekhiaoajgfaaPkMemidxAddsRow12
import Derived.Test.YtioekhiaoajgfaaGrowTPk
namespace Go.Proofs.Ytioekhiaoajgfaa.Ev
open Go.RowKit Go.Proofs.Ytioekhiaoajgfaa Go.Proofs.Ytioekhiaoajgfaa.Ut Go.Proofs.Ytioekhiaoajgfaa.Tk Go.Proofs.Ytioekhiaoajgfaa.Qy Go.Proofs.Ytioekhiaoajgfaa.Qp
set_option maxRecDepth 20000
set_option linter.unusedVariables false
set_option linter.unusedSimpArgs false

/-- Docs of the call's own whose fields lie below B. -/
structure DOwnB (w : World) (base B : Nat) (v : Value) (ds : List Dc) : Prop where
  ex : ∃ vss : List (List Value), vss.length = ds.length ∧ w.ownsRow base 43 3 v ds.length vss.flatten ∧ ∀ i (h : i < ds.length) (h' : i < vss.length), DcS w (· < B) ds[i] vss[i]
theorem DOwnB.start (w : World) (base B : Nat) : DOwnB w base B (.slice none 0 0) [] := ⟨[], rfl, World.ownsRow_nil _ _ _ _, fun i h => absurd h (by simp)⟩
theorem DOwnB.below {w w' : World} {base B : Nat} {v : Value} {ds : List Dc} (h : DOwnB w base B v ds) (hb : Below w.heap.size w w') (hB : B ≤ w.heap.size) : DOwnB w' base B v ds := by
  obtain ⟨vss, h1, h2, h3⟩ := h.ex
  exact ⟨vss, h1, h2.kept (grow_of_below hb none) (by cases hv : v.ownBlock <;> simp), fun i a b => (h3 i a b).same (fun b hS => ⟨hS, hb.block b (Nat.lt_of_lt_of_le hS hB)⟩)⟩
theorem DOwnB.put {w w5 : World} {base B : Nat} {v v' : Value} {ds : List Dc} {d : Dc} {u : List Value} {xs : List Value} (hx : ∃ vss : List (List Value), vss.length = ds.length ∧ w.ownsRow base 43 3 v ds.length vss.flatten ∧ (∀ i (h : i < ds.length) (h' : i < vss.length), DcS w (· < B) ds[i] vss[i]) ∧ xs = vss.flatten)
    (hp : w5.ownsRow base 43 3 v' (ds.length + 1) (xs ++ u)) (hg : w.grownBy w5 v.ownBlock) (hd : DcS w (· < B) d u) (hB : B ≤ base) (hw : base ≤ w.heap.size) : DOwnB w5 base B v' (ds ++ [d]) := by
  obtain ⟨vss, h1, h2, h3, rfl⟩ := hx
  have keep : ∀ b, b < B → b < B ∧ w5.heap[b]? = w.heap[b]? := fun b hS => ⟨hS, hg.block b (by omega) (fun e => by
    have := (h2.lt b e.symm).1
    omega)⟩
  refine ⟨vss ++ [u], by simp [h1], ?_, fun i a b => ?_⟩
  · rw [List.flatten_append, List.length_append]
    simpa using hp
  · by_cases hi : i < ds.length
    · rw [List.getElem_append_left hi, List.getElem_append_left (by omega)]
      exact (h3 i hi (by omega)).same keep
    · have hi' : i = ds.length := by simp at a; omega
      subst hi'
      rw [List.getElem_append_right (by omega), List.getElem_append_right (by omega)]
      simp only [Nat.sub_self, h1, List.getElem_cons_zero]
      exact hd.same keep
theorem DOwnB.mono {w : World} {base base' B : Nat} {v : Value} {ds : List Dc} (h : DOwnB w base B v ds) (hb : base' ≤ base) : DOwnB w base' B v ds := by
  obtain ⟨vss, h1, h2, h3⟩ := h.ex
  exact ⟨vss, h1, own_mono h2 hb, h3⟩
theorem DOwnB.read {w : World} {base B : Nat} {v : Value} {ds : List Dc} (h : DOwnB w base B v ds) : ∃ A c, v = .slice A ds.length c ∧ DocsS w (fun b => base ≤ b ∧ b < w.heap.size) (· < B) A ds.length ds ∧ ds.length ≤ c ∧ (A = none → c = 0) := by
  obtain ⟨vss, h1, h2, h3⟩ := h.ex
  obtain ⟨A, c, rfl, _, hc, hn, _⟩ := own_shape2 h2
  exact ⟨A, c, rfl, ⟨rfl, vss, h1, (ReadsS.of_own h2).mono (fun b hb => ⟨hb.1, hb.2.1⟩), fun i a b => h3 i a b⟩, hc, hn⟩
/-- Docs of the call's own, handed back: their fields lie below B. -/
def RDocsPost (w : World) (B : Nat) (ds : List Dc) (e : Ending) (w' : World) : Prop := ∃ v, e = .returned v ∧ DOwnB w' w.heap.size B v ds ∧ Below w.heap.size w w'

set_option maxHeartbeats 6400000 in
theorem rdocs_any (seq : Int) (A : Option Addr) (n c B : Nat) (l : List Evn) (w : World) (hBw : B ≤ w.heap.size) (h : EvsAt w B A n c l) (hok : chkB seq l = 0) :
    Calls Try.prog 31 #[.agg #[.int .i64 seq, .slice A n c]] w (RDocsPost w B (mkD seq l)) := by
  obtain ⟨i0, hi0, hz0, hz1, hz2⟩ := info_parts doc_info
  have hl := h.ln
  have hl1 : l.length ≤ n := by omega
  have hl2 : n ≤ l.length := by omega
  have hcap := h.cap
  have hok' := chkB_ok hok
  have hn64 : n ≤ 64 := by have := hok'.2.1; omega
  have hs1 : 1 ≤ seq := hok'.2.2.2.2.1
  have hs2 : seq ≤ 1099511627777 := by have := hok'.2.2.2.2.2; omega
  have hB1 : Below w.heap.size w (w.alloc (.cells #[.int .i64 seq, .slice A n c] 46)) := (Below.refl _ _).alloc (Nat.le_refl _) _
  have hX := (Blk.new w 46 #[.int .i64 seq, .slice A n c])
  have c1 := rcheckBatch_any seq A n c l _ ((h.more hBw).grow hB1)
  rw [hok] at c1
  have C1 := Lib.hid c1
  have OK := Lib.hid hok'.2.2.1
  have HE : Hid (∀ wx, Below w.heap.size w wx → EvsAt wx B A n c l) := Lib.hid (fun wx hb => h.keep (fun b o hp => hb.cell (p := ⟨b, o, none⟩) (Nat.lt_of_lt_of_le hp hBw)))
  have H := Lib.hid (And.intro hX hB1)
  clear hl h hX hB1 c1 hok hok'
  go_enter Try.func31, Try.ntmps31
  go_wp2_with fail
  refine C1.out.mono ?_
  rintro e W0 ⟨rfl, hb0⟩
  have H0 : Hid (Blk W0 w.heap.size 46 #[.int .i64 seq, .slice A n c] ∧ Below w.heap.size w W0) := Lib.hid ⟨H.out.1.below hb0 H.out.1.lt, H.out.2.trans (hb0.mono H.out.2.size)⟩
  clear hb0 H C1
  go_wp2_with fail
  go_loopw [3, 4] (fun v i wr => ∃ k : Nat, k ≤ l.length ∧ i = .int .i64 (k : Nat) ∧ Hid (DOwnB wr W0.heap.size B v (mkD seq (l.take k))) ∧ Hid (Below W0.heap.size W0 wr)) (fun _ i _ => l.length - (intOf i).toNat)
  case atStart => exact ⟨0, Nat.zero_le _, rfl, Lib.hid (DOwnB.start _ _ _), Lib.hid (Below.refl _ _)⟩
  case round =>
    obtain ⟨k, hk, rfl, hO, hB⟩ := hrel
    have hBlk := H0.out.1.below hB.out H0.out.1.lt
    have d0 := hBlk.cell 0
    have d1 := hBlk.cell 1
    simp only [List.getElem?_toArray, List.getElem?_cons_zero, List.getElem?_cons_succ] at d0 d1
    have hBw2 : Hid (Below w.heap.size w wr) := Lib.hid (H0.out.2.trans (hB.out.mono H0.out.2.size))
    by_cases hlt : k < l.length
    · have hkz : (k : Int) < (n : Int) := by omega
      have hk0 : (0 : Int) ≤ (k : Int) := by omega
      obtain ⟨b, o, F, fn, fc, rfl, hbb, ca, cf, hFl⟩ := (HE.out wr hBw2.out).at_ hlt
      have hmk := mkD_take seq l k hlt
      have hlnk : (mkD seq (l.take k)).length = k := by rw [mkD_len, List.length_take]; omega
      have hbw : b < wr.heap.size := by have := hBw2.out.size; omega
      have hcells : ∀ wx, Below wr.heap.size wr wx → wx.cell? ⟨b, o + k * 2, none⟩ = some (.int .i64 l[k].1) ∧ wx.cell? ⟨b, o + k * 2 + 1, none⟩ = some (.slice F fn fc) ∧ wx.cell? ⟨w.heap.size, 0, none⟩ = some (.int .i64 seq) ∧ wx.cell? ⟨w.heap.size, 1, none⟩ = some (.slice (some ⟨b, o, none⟩) n c) := fun wx hC =>
        ⟨(hC.cell (p := ⟨b, o + k * 2, none⟩) hbw).trans ca, (hC.cell (p := ⟨b, o + k * 2 + 1, none⟩) hbw).trans cf, (hC.cell (p := ⟨w.heap.size, 0, none⟩) hBlk.lt).trans d0, (hC.cell (p := ⟨w.heap.size, 1, none⟩) hBlk.lt).trans d1⟩
      have hdc : DcS wr (· < B) ⟨seq + (k : Int), l[k].1, l[k].2⟩ [.int .i64 (seq + (k : Int)), .int .i64 l[k].1, .slice F fn fc] := ⟨F, fn, fc, rfl, hFl.rd, hFl.len, hFl.few, hFl.cap, hFl.nl⟩
      have HDC := Lib.hid hdc
      have HMK := Lib.hid hmk
      have HLK := Lib.hid hlnk
      have Hcells := Lib.hid hcells
      have hBsz : W0.heap.size ≤ wr.heap.size := hB.out.size
      have hBsz2 : B ≤ W0.heap.size := by have := H0.out.2.size; omega
      clear hmk hlnk hcells hFl hdc hBlk
      generalize hev : l[k] = ev at *
      clear hev ca cf
      obtain ⟨ta, fs⟩ := ev
      simp only at Hcells HDC HMK
      have hwr : IntKind.i64.wrap (seq + (k : Int)) = seq + (k : Int) := by rw [IntKind.wrap_i64]; omega
      go_upto_region 7 with (fail)
      clear d0 d1

      refine wp_region_grow_tail 12 (specOf [(11, ⟨Nat, fun x => .slice (some ⟨x, 0, none⟩) 1 1, fun g wx => Blk wx g 43 #[.int .i64 (seq + (k : Int)), .int .i64 ta, .slice F fn fc] ∧ wr.heap.size ≤ g⟩)]) (fun wx => Below wr.heap.size wr wx) (fun w1 w2 => Below w1.heap.size w1 w2) (by kernel_rfl) (by kernel_rfl) (stab_cons (fun x w1 w2 hg h => ⟨h.1.below hg h.1.lt, h.2⟩) (stab_nil)) ((Below.refl _ _).drew) ?_
      simp only [List.take_succ_cons, List.take_zero, List.drop_succ_cons, List.drop_zero]
      refine grow_fix 1 ?_ rfl (by rfl) (by rfl) (fun wx hC hD => ?_) ?_
      rotate_left
      · have hSw := Hcells.out wx hC
        go_simp
        all_goals with_reducible rfl
      try simp only [Act.put, List.setIfInBounds_toArray, List.set_cons_zero, List.set_cons_succ]
      refine grow_fix 2 ?_ rfl (by rfl) (by rfl) (fun wx hC hD => ?_) ?_
      rotate_left
      · have hSw := Hcells.out wx hC
        go_simp
        all_goals with_reducible rfl
      try simp only [Act.put, List.setIfInBounds_toArray, List.set_cons_zero, List.set_cons_succ]
      refine grow_fix 3 ?_ rfl (by rfl) (by rfl) (fun wx hC hD => ?_) ?_
      rotate_left
      · have hSw := Hcells.out wx hC
        go_simp
        all_goals with_reducible rfl
      try simp only [Act.put, List.setIfInBounds_toArray, List.set_cons_zero, List.set_cons_succ]
      refine grow_fix 4 ?_ rfl (by rfl) (by rfl) (fun wx hC hD => ?_) ?_
      rotate_left
      · have hSw := Hcells.out wx hC
        go_simp
        all_goals with_reducible rfl
      try simp only [Act.put, List.setIfInBounds_toArray, List.set_cons_zero, List.set_cons_succ]
      refine grow_fix 5 ?_ rfl (by rfl) (by rfl) (fun wx hC hD => ?_) ?_
      rotate_left
      · have hSw := Hcells.out wx hC
        go_simp
        all_goals with_reducible rfl
      try simp only [Act.put, List.setIfInBounds_toArray, List.set_cons_zero, List.set_cons_succ]
      refine grow_fix 6 ?_ rfl (by rfl) (by rfl) (fun wx hC hD => ?_) ?_
      rotate_left
      · have hSw := Hcells.out wx hC
        go_simp
        all_goals with_reducible rfl
      try simp only [Act.put, List.setIfInBounds_toArray, List.set_cons_zero, List.set_cons_succ]
      refine grow_fix 7 ?_ rfl (by rfl) (by rfl) (fun wx hC hD => ?_) ?_
      rotate_left
      · have hSw := Hcells.out wx hC
        go_simp
        all_goals with_reducible rfl
      try simp only [Act.put, List.setIfInBounds_toArray, List.set_cons_zero, List.set_cons_succ]
      refine grow_fix 8 ?_ rfl (by rfl) (by rfl) (fun wx hC hD => ?_) ?_
      rotate_left
      · have hSw := Hcells.out wx hC
        go_simp
        all_goals with_reducible rfl
      try simp only [Act.put, List.setIfInBounds_toArray, List.set_cons_zero, List.set_cons_succ]
      refine grow_fix 9 ?_ rfl (by rfl) (by rfl) (fun wx hC hD => ?_) ?_
      rotate_left
      · have hSw := Hcells.out wx hC
        go_simp
        all_goals with_reducible rfl
      try simp only [Act.put, List.setIfInBounds_toArray, List.set_cons_zero, List.set_cons_succ]
      refine grow_fix 10 ?_ rfl (by rfl) (by rfl) (fun wx hC hD => ?_) ?_
      rotate_left
      · have hSw := Hcells.out wx hC
        go_simp
        all_goals with_reducible rfl
      try simp only [Act.put, List.setIfInBounds_toArray, List.set_cons_zero, List.set_cons_succ]
      refine grow_fix 11 ?_ rfl (by rfl) (by rfl) (fun wx hC hD => ?_) ?_
      rotate_left
      · have hSw := Hcells.out wx hC
        go_simp
        all_goals with_reducible rfl
      try simp only [Act.put, List.setIfInBounds_toArray, List.set_cons_zero, List.set_cons_succ]
      refine grow_give 12 _ rfl (by rfl) (by rfl) (fun wx hC hD => ?_) (fun x => ?_)
      · refine give_value (u := ?_) (w' := ?_) ?_ ?_ ?_
        rotate_left 2
        · have hSw := Hcells.out wx hC
          go_simp
          all_goals first | with_reducible rfl | (refine ⟨?_, ?_⟩ <;> with_reducible rfl)
        · exact ((Below.refl _ _).alloc (Nat.le_refl _) _)
        · exact ⟨hC.alloc hC.size _, wx.heap.size, rfl, Blk.new _ _ _, hC.size⟩
      rename Nat => x9
      try simp only [Act.put, List.setIfInBounds_toArray, List.set_cons_zero, List.set_cons_succ]
      refine grow_nil (fun w6 hC hF => ?_)
      have hblk := upd_hit (hF 11) (by decide)
      have hO6 := hO.out.below hC (by omega)
      obtain ⟨vss, g1, g2, g3⟩ := hO6.ex
      have hd6 := HDC.out.same (S' := (· < B)) (w' := w6) (fun b hb => ⟨hb, hC.block b (by omega)⟩)
      have hsz6 := hC.size
      have Put : Hid (∀ v' w5, w5.ownsRow W0.heap.size 43 3 v' (k + 1) (vss.flatten ++ [.int .i64 (seq + (k : Int)), .int .i64 ta, .slice F fn fc]) → _ → DOwnB w5 W0.heap.size B v' (mkD seq (l.take (k + 1)))) := Lib.hid (fun v' w5 p1 p2 => by
        rw [HMK.out]
        exact DOwnB.put ⟨vss, g1, g2, g3, rfl⟩ (by rw [HLK.out]; exact p1) p2 hd6 hBsz2 (by omega))
      rw [HLK.out] at g2
      have G2 := Lib.hid g2
      have Hblk := Lib.hid hblk
      have HB6 := Lib.hid (hB.out.trans (hC.mono hB.out.size))
      clear hF hC hblk hO6 g1 g2 g3 hd6 hwr
      go_wp2_with (at_builtin; refine wpList_append_own _ rfl _ _ 28 rfl W0.heap.size 43 i0 _ 3 40 Try.underlying28 hi0 hz0 hz1 hz2 rfl (by decide) _ _ _ rfl G2.out ⟨x9, 0, none⟩ 1 1 [.int .i64 (seq + (k : Int)), .int .i64 ta, .slice F fn fc] rfl rfl ?d1 ?d2 ?d3 ?d4 ?d5 ?_)
      case d1 => exact World.news_of_block (cs := #[.int .i64 (seq + (k : Int)), .int .i64 ta, .slice F fn fc]) (t := 43) (fr := (0, 0)) Hblk.out.1
      case d2 => simp [Value.oneCell']
      case d3 => unfold maxLen; omega
      case d4 => omega
      case d5 => first | omega | (simp; omega)
      intro v' w5 hown5 hg5 _
      have Fin := Lib.hid (Put.out v' w5 hown5 hg5)
      have hbF : Hid (Below W0.heap.size W0 w5) := Lib.hid (HB6.out.grown hg5 (by omega) (fun j hj => (G2.out.lt j hj).1))
      clear hown5 hg5
      go_wp2
      go_roundw
      case rel => exact ⟨k + 1, by omega, by go_num, Fin, hbF⟩
      case measure => simp [intOf]; omega
    · obtain rfl : k = l.length := by omega
      have hkz : ¬ (l.length : Int) < (n : Int) := by omega
      rw [List.take_length] at hO
      go_wp2
      go_ret
      exact ⟨_, rfl, hO.out.mono H0.out.2.size, hBw2.out⟩
end Go.Proofs.Ytioekhiaoajgfaa.Ev
