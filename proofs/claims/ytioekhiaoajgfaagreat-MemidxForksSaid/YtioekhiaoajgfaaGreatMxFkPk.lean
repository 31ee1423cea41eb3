/- (*memidx.Index).Fork: the walk (seat k; printed by gen_mxfk.py). -/
import Derived.Test.YtioekhiaoajgfaaGreatPkMemidxForksRow27
import Derived.Test.YtioekhiaoajgfaaGreatPkMemidxForksRow25
import Derived.Test.YtioekhiaoajgfaaGreatPkMemidxForksRow24
import Derived.Test.YtioekhiaoajgfaaGreatPkMemidxForksRow21
namespace Go.Proofs.YtioekhiaoajgfaaGreat.Mx
open Go.RowKit Go.Maps Go.Proofs.YtioekhiaoajgfaaGreat Go.Proofs.YtioekhiaoajgfaaGreat.Ut Go.Proofs.YtioekhiaoajgfaaGreat.Tk Go.Proofs.YtioekhiaoajgfaaGreat.Qy Go.Proofs.YtioekhiaoajgfaaGreat.Ev Go.Proofs.YtioekhiaoajgfaaGreat.Qp Go.Proofs.YtioekhiaoajgfaaGreat.Mv
set_option linter.unusedVariables false
set_option linter.unusedSimpArgs false
set_option maxRecDepth 40000

theorem PRow.base {w : World} {n0 n1 : Nat} {u : Value} {l : List Po} (h : PRow w n0 u l) (hb : n1 ≤ n0) : PRow w n1 u l := by
  obtain ⟨xs, h1, h2, h3⟩ := h.ex
  exact ⟨xs, h1, own_mono h2 hb, h3⟩
/-- A new row is put at a key that was not there. -/
theorem Idx.store {w w' : World} {n0 X M cn : Nat} {v : Value} {F : ByteArray → Option Value} {O O' : Nat → Prop} {ds : List Dc} {sz lo hi : Int} {f : ByteArray → List Po} (h : Idx w n0 X M cn v F O ds sz lo hi f) {s : ByteArray} {u : Value} {l : List Po} (hs : F s = none) (hr : PRow w n0 u l) (hne : l ≠ [])
    (hap : ∀ t r b, F t = some r → r.ownBlock = some b → u.ownBlock ≠ some b) (hg : w.grownBy w' (some M)) (hm : MapV Tryz.prog 9 litS w' M (cn + 1) (putV F s u)) (hO : ∀ b, O b → O' b) (hU : ∀ b, u.ownBlock = some b → O' b) (hL : ∀ b, O' b → n0 ≤ b ∧ b < w'.heap.size) :
    Idx w' n0 X M (cn + 1) v (putV F s u) O' ds sz lo hi (fun t => if t = s then l else f t) := by
  obtain ⟨vss, o1, o2, o3⟩ := h.own
  have kt : ∀ {T : TypeId} (b : Nat), Tg w T b → w'.heap[b]? = w.heap[b]? := fun {T} b ht => hg.block b ht.lt (fun e => by
    injection e with e
    exact h.notM ht e)
  refine ⟨(kt X h.tgX).trans h.blk, hm, ⟨vss, o1, own_same o2 (fun b hb => kt b (tg_own o2 hb)), fun i a b => (o3 i a b).same (fun b hb => ⟨hb.same (kt b hb), kt b hb⟩)⟩, fun t r ht => ?_, fun t ht => ?_, fun t t' r r' b hne' ht ht' hb => ?_, hO _ h.oX, hO _ h.oM, fun b hb => hO _ (h.oV b hb), fun t r b ht hb => ?_, hL⟩
  · unfold putV at ht
    by_cases e : t = s
    · rw [if_pos e] at ht
      injection ht with ht
      subst ht
      simp only [e, if_true]
      exact ⟨hr.same (fun b hb => kt b hb) (fun b hb => kt b (hr.tag b hb).1), hne⟩
    · rw [if_neg e] at ht
      simp only [e, if_false]
      have hq := h.rows t r ht
      exact ⟨hq.1.same (fun b hb => kt b hb) (fun b hb => kt b (hq.1.tag b hb).1), hq.2⟩
  · unfold putV at ht
    by_cases e : t = s
    · rw [if_pos e] at ht; cases ht
    · rw [if_neg e] at ht
      simp only [e, if_false]
      exact h.nof t ht
  · unfold putV at ht ht'
    by_cases e : t = s
    · rw [if_pos e] at ht
      injection ht with ht
      subst ht
      have e' : t' ≠ s := fun e2 => hne' (by rw [e, e2])
      rw [if_neg e'] at ht'
      exact fun hb' => hap t' r' b ht' hb' hb
    · rw [if_neg e] at ht
      by_cases e' : t' = s
      · rw [if_pos e'] at ht'
        injection ht' with ht'
        subst ht'
        exact hap t r b ht hb
      · rw [if_neg e'] at ht'
        exact h.apart t t' r r' b hne' ht ht' hb
  · unfold putV at ht
    by_cases e : t = s
    · rw [if_pos e] at ht
      injection ht with ht
      subst ht
      exact hU b hb
    · rw [if_neg e] at ht
      exact hO _ (h.oF t r b ht hb)
/-- The rows of the keys that have come. -/
def inL (l : List ByteArray) (f : ByteArray → List Po) : ByteArray → List Po := fun s => if l.any (fun t => decide (t = s)) = true then f s else []
theorem inL_yes {l : List ByteArray} {f : ByteArray → List Po} {s : ByteArray} (h : s ∈ l) : inL l f s = f s := if_pos (List.any_eq_true.2 ⟨s, h, decide_eq_true rfl⟩)
theorem inL_no {l : List ByteArray} {f : ByteArray → List Po} {s : ByteArray} (h : s ∉ l) : inL l f s = [] := if_neg (fun e => by
  obtain ⟨t, ht, e⟩ := List.any_eq_true.1 e
  have := of_decide_eq_true e
  subst this
  exact h ht)
/-- What Fork hands back. -/
def ForkP (w : World) (ds : List Dc) (e : Ending) (w' : World) : Prop := ∃ Y, e = .returned (.pointer (some ⟨Y, 0, none⟩)) ∧ IxD w' w.heap.size Y (fun b => w.heap.size ≤ b ∧ b < w'.heap.size) ds ∧ Below w.heap.size w w'
/-- The new index ahead of its terms. -/
def FkBox (w : World) (ds : List Dc) (sz lo hi : Int) (x : Nat) (wz : World) : Prop :=
  ∃ v M, Blk wz x 59 #[.int .i64 sz, .int .i64 lo, .int .i64 hi, v, .map (some M)] ∧ DOwn wz w.heap.size v ds ∧ MapV Tryz.prog 9 litS wz M 0 noV ∧ w.heap.size ≤ x ∧ w.heap.size ≤ M
theorem FkBox.below {w wa wb : World} {ds : List Dc} {sz lo hi : Int} {x : Nat} (h : FkBox w ds sz lo hi x wa) (hb : Below wa.heap.size wa wb) : FkBox w ds sz lo hi x wb := by
  obtain ⟨v, M, h1, h2, h3, h4⟩ := h
  exact ⟨v, M, h1.below hb h1.lt, h2.below hb, h3.below hb, h4⟩
theorem FkBox.idx {w wz : World} {ds : List Dc} {sz lo hi : Int} {x : Nat} (h : FkBox w ds sz lo hi x wz) : ∃ v M, w.heap.size ≤ M ∧ Idx wz w.heap.size x M 0 v noV (fun b => w.heap.size ≤ b ∧ b < wz.heap.size) ds sz lo hi (fun _ => []) := by
  obtain ⟨v, M, h1, h2, h3, h4, h5⟩ := h
  obtain ⟨vss, o1, o2, o3⟩ := h2.ex
  exact ⟨v, M, h5, h1, h3, ⟨vss, o1, o2, fun i a b => (o3 i a b).same (fun b hb => ⟨hb.2, rfl⟩)⟩, fun s u h => (nomatch h), fun s _ => rfl, fun s t u u' b _ h => (nomatch h), ⟨h4, h1.lt⟩, ⟨h5, h3.lt⟩, fun b hb => o2.lt b hb, fun s u b h => (nomatch h), fun b h => h⟩
set_option maxHeartbeats 3200000 in
theorem fork_any {w : World} {n0 X : Nat} {O : Nat → Prop} {ds : List Dc} (hI : IxD w n0 X O ds) : Calls Tryz.prog 17 #[.pointer (some ⟨X, 0, none⟩)] w (ForkP w ds) := by
  obtain ⟨M, cn, v, F, h, hcn⟩ := hI.ex
  have OK := Lib.hid hI.ok
  have hfew := hI.few
  have hcn2 : cn ≤ 4294967296 := by
    have : ds.length * 65536 ≤ 65536 * 65536 := Nat.mul_le_mul_right _ hfew
    exact Nat.le_trans hcn this
  have HCN := Lib.hid hcn
  generalize hsz : (szD ds : Int) = sz at h
  generalize hlo : loD ds = lo at h
  generalize hhi : hiD ds = hi at h
  generalize hf : postsT (ds.map (·.fs)) = f at h
  have HE := Lib.hid (And.intro hsz (And.intro hlo (And.intro hhi hf)))
  have hpl : ∀ s, (f s).length ≤ 131072 := fun s => by
    rw [← hf]
    have := postsT_len (ds.map (·.fs)) s
    rw [List.length_map] at this
    omega
  have HPL := Lib.hid hpl
  obtain ⟨D, hown, hT⟩ := h.mp.ex
  have hbl := hown.lt
  have hszD := hown.size_le
  have HT := Lib.hid hT
  have HOWN := Lib.hid hown
  have HX := Lib.hid h
  have c1 := Lib.hid (none_no h)
  have Hcells : Hid (∀ wx, Below w.heap.size w wx → wx.cell? ⟨X, 0, none⟩ = some (.int .i64 sz) ∧ wx.cell? ⟨X, 1, none⟩ = some (.int .i64 lo) ∧ wx.cell? ⟨X, 2, none⟩ = some (.int .i64 hi) ∧ wx.cell? ⟨X, 4, none⟩ = some (.map (some M))) := Lib.hid (fun wx hb => by
    have k := (h.blk.below hb h.blk.lt)
    have k0 := k.cell 0
    have k1 := k.cell 1
    have k2 := k.cell 2
    have k4 := k.cell 4
    simp only [List.getElem?_toArray, List.getElem?_cons_zero, List.getElem?_cons_succ] at k0 k1 k2 k4
    exact ⟨k0, k1, k2, k4⟩)
  clear h hT hown hpl hI hsz hlo hhi hf hcn
  go_enter Tryz.func17, Tryz.ntmps17
  go_wp2_with fail
  refine c1.out.mono ?_
  rintro e w' ⟨rfl, rfl⟩
  clear c1
  have hmk := mk_map
  go_upto_region 3 with (fail)
  refine wp_region_grow (specOf [(5, ⟨Option Addr × Nat, fun x => .slice x.1 ds.length x.2, fun x wz => DOwn wz w.heap.size (.slice x.1 ds.length x.2) ds⟩), (6, ⟨Nat, fun m => .map (some m), fun m wz => MapV Tryz.prog 9 litS wz m 0 noV ∧ w.heap.size ≤ m⟩), (7, ⟨(Option Addr × Nat) × Nat, fun x => .agg #[.int .i64 sz, .int .i64 lo, .int .i64 hi, .slice x.1.1 ds.length x.1.2, .map (some x.2)], fun x wz => DOwn wz w.heap.size (.slice x.1.1 ds.length x.1.2) ds ∧ MapV Tryz.prog 9 litS wz x.2 0 noV ∧ w.heap.size ≤ x.2⟩), (8, ⟨Nat, fun x => .pointer (some ⟨x, 0, none⟩), fun x wz => FkBox w ds sz lo hi x wz⟩)]) (fun wx => Below (World.heap w).size w wx) (fun w1 w2 => Below w1.heap.size w1 w2) (by kernel_rfl) (by kernel_rfl) (stab_cons (fun x wa wb hg h => h.below hg) (stab_cons (fun x wa wb hg h => ⟨h.1.below hg, h.2⟩) (stab_cons (fun x wa wb hg h => ⟨h.1.below hg, h.2.1.below hg, h.2.2⟩) (stab_cons (fun x wa wb hg h => h.below hg) (stab_nil))))) (Below.refl _ _).drew ?_
  refine grow_fix 1 ?_ rfl (by rfl) (by rfl) (fun wx hC hD => ?_) ?_
  rotate_left
  · have hSw := Hcells.out wx hC
    go_simp
    all_goals with_reducible rfl
  try simp only [Act.put, List.setIfInBounds_toArray, List.set_cons_zero, List.set_cons_succ]
  refine grow_fix 2 ?_ rfl (by rfl) (by rfl) (fun wx hC hD => ?_) ?_
  rotate_left
  · have hSw := Hcells.out wx hC
    go_simp
    all_goals with_reducible rfl
  try simp only [Act.put, List.setIfInBounds_toArray, List.set_cons_zero, List.set_cons_succ]
  refine grow_fix 3 ?_ rfl (by rfl) (by rfl) (fun wx hC hD => ?_) ?_
  rotate_left
  · have hSw := Hcells.out wx hC
    go_simp
    all_goals with_reducible rfl
  try simp only [Act.put, List.setIfInBounds_toArray, List.set_cons_zero, List.set_cons_succ]
  refine grow_fix 4 ?_ rfl (by rfl) (by rfl) (fun wx hC hD => ?_) ?_
  rotate_left
  · have hSw := Hcells.out wx hC
    go_simp
    all_goals with_reducible rfl
  try simp only [Act.put, List.setIfInBounds_toArray, List.set_cons_zero, List.set_cons_succ]
  refine grow_fix 5 ?_ rfl (by rfl) (by rfl) (fun wx hC hD => ?_) ?_
  rotate_left
  · have hSw := Hcells.out wx hC
    go_simp
    all_goals with_reducible rfl
  try simp only [Act.put, List.setIfInBounds_toArray, List.set_cons_zero, List.set_cons_succ]
  refine grow_give 6 _ rfl (by rfl) (by rfl) (fun wx hC hD => ?_) (fun x => ?_)
  · refine give_enter (f := ?_) (args := ?_) ?_ ?_
    rotate_left 2
    · have hSw := Hcells.out wx hC
      go_simp
      all_goals first | with_reducible rfl | (refine ⟨?_, ?_⟩ <;> with_reducible rfl)
    refine (docsX_any (HX.out.later hC) OK.out hfew).mono ?_
    rintro e w9 ⟨v9, rfl, ho9, hb9⟩
    obtain ⟨A9, c9, rfl, _⟩ := ho9.read
    exact ⟨_, rfl, hb9, hC.trans (hb9.mono hC.size), (A9, c9), rfl, ho9.mono hC.size⟩
  obtain ⟨A5, c5⟩ := x
  try simp only [Act.put, List.setIfInBounds_toArray, List.set_cons_zero, List.set_cons_succ]
  refine grow_give 7 _ rfl (by rfl) (by rfl) (fun wx hC hD => ?_) (fun x => ?_)
  · refine give_value (u := ?_) (w' := ?_) ?_ ?_ ?_
    rotate_left 2
    · have hSw := Hcells.out wx hC
      go_simp
      all_goals first | with_reducible rfl | (refine ⟨?_, ?_⟩ <;> with_reducible rfl)
    · exact (Below.refl _ _).alloc (Nat.le_refl _) _
    · exact ⟨hC.alloc hC.size _, wx.heap.size, rfl, MapV.made _ _ _ _, hC.size⟩
  rename Nat => x6
  try simp only [Act.put, List.setIfInBounds_toArray, List.set_cons_zero, List.set_cons_succ]
  refine grow_give 8 _ rfl (by rfl) (by rfl) (fun wx hC hD => ?_) (fun x => ?_)
  · refine give_value (u := ?_) (w' := ?_) ?_ ?_ ?_
    rotate_left 2
    · have hSw := Hcells.out wx hC
      go_simp
      all_goals first | with_reducible rfl | (refine ⟨?_, ?_⟩ <;> with_reducible rfl)
    · exact Below.refl _ _
    · exact ⟨hC, ((A5, c5), x6), rfl, upd_hit (upd_miss (deps_get hD 5 (by kernel_rfl)) (by decide)) (by decide), upd_hit (deps_get hD 6 (by kernel_rfl)) (by decide)⟩
  obtain ⟨⟨A7, c7⟩, x7⟩ := x
  try simp only [Act.put, List.setIfInBounds_toArray, List.set_cons_zero, List.set_cons_succ]
  refine grow_give 9 _ rfl (by rfl) (by rfl) (fun wx hC hD => ?_) (fun x => ?_)
  · refine give_value (u := ?_) (w' := ?_) ?_ ?_ ?_
    rotate_left 2
    · have hSw := Hcells.out wx hC
      go_simp
      all_goals first | with_reducible rfl | (refine ⟨?_, ?_⟩ <;> with_reducible rfl)
    · exact (Below.refl _ _).alloc (Nat.le_refl _) _
    · have hd7 := upd_hit (deps_get hD 7 (by kernel_rfl)) (by decide)
      have hba : Below wx.heap.size wx (wx.alloc (.cells #[.int .i64 sz, .int .i64 lo, .int .i64 hi, .slice A7 ds.length c7, .map (some x7)] 59)) := (Below.refl _ _).alloc (Nat.le_refl _) _
      exact ⟨hC.alloc hC.size _, wx.heap.size, rfl, .slice A7 ds.length c7, x7, Blk.new _ _ _, hd7.1.below hba, hd7.2.1.below hba, hC.size, hd7.2.2⟩
  rename Nat => x8
  try simp only [Act.put, List.setIfInBounds_toArray, List.set_cons_zero, List.set_cons_succ]
  refine grow_fix 10 ?_ rfl (by rfl) (by rfl) (fun wx hC hD => ?_) ?_
  rotate_left
  · have hSw := Hcells.out wx hC
    go_simp
    all_goals with_reducible rfl
  try simp only [Act.put, List.setIfInBounds_toArray, List.set_cons_zero, List.set_cons_succ]
  refine grow_nil (fun w4 hC hF => ?_)
  have hbox := upd_hit (hF 8) (by decide)
  have hb4 : Below w.heap.size w w4 := hC
  obtain ⟨vY, My, hMy, hIy⟩ := hbox.idx
  have HIY := Lib.hid hIy
  have HB4 := Lib.hid hb4
  have hs4 := hb4.size
  have hown4 := HOWN.out.kept (grow_of_below hb4 none) (by simp)
  have k4 := (Hcells.out w4 hb4).2.2.2
  have hMl : My < w4.heap.size := hIy.mp.lt
  have hYl := hIy.blk.lt
  clear hF hC hbox hIy hb4
  go_wp2_with (first
    | (at_range; refine wpList_range_own _ rfl _ 57 rfl 9 33 lawS Tryz.underlying57 rawR M cn D rfl hown4 ?_; intro w0 hrg0 hg0 hs0)
    | go_in)
  go_frame
  have hb0 : Below w4.heap.size w4 w0 := (Below.refl _ _).grown hg0 (Nat.le_refl _) (fun j hj => by cases hj)
  have Hb0 := Lib.hid (HB4.out.trans (hb0.mono hs4))
  have HIY0 := Lib.hid (HIY.out.later hb0)
  clear hg0 hown4 k4 hb0 HIY
  go_loopw [4] (fun _ wr => ∃ (left : Lit → Bool) (cnt : Nat) (l : List ByteArray) (Fy : ByteArray → Option Value), wr.ranges Tryz.prog 9 rawR M w4.heap.size cn D left cnt ∧ l.length + cnt ≤ cn ∧ Hid (Way D F left l) ∧ Hid (∀ s, (Fy s).isSome = true ↔ s ∈ l) ∧ Hid (Idx wr w.heap.size x8 My l.length vY Fy (fun b => w.heap.size ≤ b ∧ b < wr.heap.size) ds sz lo hi (inL l f)) ∧ Hid (Below w.heap.size w wr) ∧ w4.heap.size < wr.heap.size)
    (fun _ wr => wr.rangeLeft M w4.heap.size)
  case atStart => exact ⟨_, _, [], noV, hrg0, by simpa using hszD, Lib.hid (Way.start HT.out), Lib.hid (fun s => by simp [noV]), Lib.hid (HIY0.out.congr (fun s => (inL_no (by simp)).symm)), Hb0, by omega⟩
  case round =>
    obtain ⟨left, cnt, l, Fy, hrg, hcs, hW, hFy, hIy, hB, hzr⟩ := hrel
    go_wp2_with (first
      | (at_next; refine wpList_next_ranges _ rfl _ rfl 9 lawS rawR Value.string (fun v : Value => v) (fun key kl hkey => by obtain ⟨x, rfl, _⟩ := keyS_inv hkey; exact ⟨x, rfl⟩) (fun v y hv => ⟨v, rfl⟩) M w4.heap.size _ _ _ _ rfl hrg ?_ ?_)
      | go_in)
    · intro hc0 hl0
      have hfin := hW.out.fin hl0
      have hcov : ∀ s, inL l f s = f s := fun s => by
        by_cases hs : s ∈ l
        · rw [inL_yes hs]
        · rw [inL_no hs]
          cases hF : F s with
          | none => exact (HX.out.nof s hF).symm
          | some u => exact absurd ((hfin s).2 (by rw [hF]; rfl)) hs
      have HF : Hid (IxD wr w.heap.size x8 (fun b => w.heap.size ≤ b ∧ b < wr.heap.size) ds) := Lib.hid ⟨⟨My, l.length, vY, Fy, by rw [HE.out.1, HE.out.2.1, HE.out.2.2.1, HE.out.2.2.2]; exact hIy.out.congr hcov, by have := HCN.out; omega⟩, OK.out, hfew⟩
      clear hrg hl0 hW hfin hcov hIy hFy
      go_wp2
      go_ret
      exact ⟨x8, rfl, HF.out, hB.out⟩
    · intro x c klx ya yb w3 cnt1 hkey hlx hv hat hrg1 hlt1 hg1 hs1 hen
      obtain ⟨x', ex, rfl, hxs⟩ := keyS_inv hkey
      injection ex with ex
      subst ex
      obtain ⟨hsome, hnl, hW1⟩ := hW.out.step HT.out hlx
      have hgr4 : w4.heap.size < wr.heap.size := hzr
      have hbw : Below w4.heap.size wr w3 := (Below.refl w4.heap.size wr).grown hg1 (by omega) (fun j hj => by injection hj with hj; omega)
      have hB1 : Below w.heap.size w w3 := hB.out.grown hg1 hB.out.size (fun j hj => by injection hj with hj; omega)
      have hne : f x ≠ [] := by
        cases hF : F x with
        | none => rw [hF] at hsome; cases hsome
        | some u => exact (HX.out.rows x u hF).2
      have HNE := Lib.hid hne
      have HW1 := Lib.hid hW1
      have HB1 := Lib.hid hB1
      have HNL := Lib.hid hnl
      have hb3 := hB1.size
      have hit : ∃ m s seen c, wr.heap[w4.heap.size]? = some (.mapIter m s seen c) := by
        obtain ⟨_, _, _, _, _, _, _, _, _, hit, _⟩ := hrg
        exact ⟨_, _, _, _, hit⟩
      have hnt : ∀ T, ¬ Tg wr T w4.heap.size := fun T ⟨cs, fr, h2⟩ => by
        obtain ⟨m, s, seen, c, h1⟩ := hit
        rw [h1] at h2
        injection h2 with h2
        cases h2
      have hnm : ¬ ∃ es ck, wr.heap[w4.heap.size]? = some (.map es ck) := fun ⟨es, ck, h2⟩ => by
        obtain ⟨m, s, seen, c, h1⟩ := hit
        rw [h1] at h2
        injection h2 with h2
        cases h2
      have hI3 : Idx w3 w.heap.size x8 My l.length vY Fy (fun b => w.heap.size ≤ b ∧ b < w3.heap.size) ds sz lo hi (inL l f) :=
        hIy.out.turn (r := w4.heap.size) (O' := fun b => w.heap.size ≤ b ∧ b < w3.heap.size) hg1 (fun b hb => ⟨hb.1, by omega⟩) (fun b hb => hb) (fun e => hnt _ (e ▸ hIy.out.tgX)) (fun e => hnm (e ▸ hIy.out.mp.obj)) (fun b hb e => hnt _ (e ▸ hIy.out.tgV b hb)) (hnt _) (hnt _) (fun s u b hs hb e => hnt _ (e ▸ ((hIy.out.rows s u hs).1.tag b hb).1))
      have HI3 := Lib.hid hI3
      have y4 : Hid (∀ wx, Below w3.heap.size w3 wx → wx.cell? ⟨x8, 4, none⟩ = some (.map (some My))) := Lib.hid (fun wx hb => by
        have k4 := (HI3.out.blk.below hb HI3.out.blk.lt).cell 4
        simpa using k4)
      have CP : Hid (∀ wx, Below w3.heap.size w3 wx → Calls Tryz.prog 9 #[.pointer (some ⟨X, 0, none⟩), .string x] wx (PostsP wx (f x))) := Lib.hid (fun wx hb => posts_any x hxs (HX.out.later (HB1.out.trans (hb.mono hb3))) (HPL.out x))
      have hkS := keyS hxs
      have hrgF := hrg1
      have hm0 := hrg.left_eq
      clear hW hW1 hB hB1 hat hkey hv hlx hne hnl hsome hI3 hIy hbw
      go_upto_region 7 with (fail)
      refine wp_region_grow_tail 8 (specOf [(7, ⟨Value, fun v => v, fun v wz => PRow wz w3.heap.size v (f x)⟩)]) (fun wx => Below w3.heap.size w3 wx) (fun w1 w2 => Below w1.heap.size w1 w2) (by kernel_rfl) (by kernel_rfl) (stab_cons (fun x wa wb hg h => h.below hg) (stab_nil)) ((Below.refl _ _).drew) ?_
      simp only [List.take_succ_cons, List.take_zero, List.drop_succ_cons, List.drop_zero]
      refine grow_fix 1 ?_ rfl (by rfl) (by rfl) (fun wx hC hD => ?_) ?_
      rotate_left
      · have hSw := y4.out wx hC
        go_simp
        all_goals with_reducible rfl
      try simp only [Act.put, List.setIfInBounds_toArray, List.set_cons_zero, List.set_cons_succ]
      refine grow_fix 2 ?_ rfl (by rfl) (by rfl) (fun wx hC hD => ?_) ?_
      rotate_left
      · have hSw := y4.out wx hC
        go_simp
        all_goals with_reducible rfl
      try simp only [Act.put, List.setIfInBounds_toArray, List.set_cons_zero, List.set_cons_succ]
      refine grow_fix 3 ?_ rfl (by rfl) (by rfl) (fun wx hC hD => ?_) ?_
      rotate_left
      · have hSw := y4.out wx hC
        go_simp
        all_goals with_reducible rfl
      try simp only [Act.put, List.setIfInBounds_toArray, List.set_cons_zero, List.set_cons_succ]
      refine grow_fix 4 ?_ rfl (by rfl) (by rfl) (fun wx hC hD => ?_) ?_
      rotate_left
      · have hSw := y4.out wx hC
        go_simp
        all_goals with_reducible rfl
      try simp only [Act.put, List.setIfInBounds_toArray, List.set_cons_zero, List.set_cons_succ]
      refine grow_fix 5 ?_ rfl (by rfl) (by rfl) (fun wx hC hD => ?_) ?_
      rotate_left
      · have hSw := y4.out wx hC
        go_simp
        all_goals with_reducible rfl
      try simp only [Act.put, List.setIfInBounds_toArray, List.set_cons_zero, List.set_cons_succ]
      refine grow_fix 6 ?_ rfl (by rfl) (by rfl) (fun wx hC hD => ?_) ?_
      rotate_left
      · have hSw := y4.out wx hC
        go_simp
        all_goals with_reducible rfl
      try simp only [Act.put, List.setIfInBounds_toArray, List.set_cons_zero, List.set_cons_succ]
      refine grow_fix 7 ?_ rfl (by rfl) (by rfl) (fun wx hC hD => ?_) ?_
      rotate_left
      · have hSw := y4.out wx hC
        go_simp
        all_goals with_reducible rfl
      try simp only [Act.put, List.setIfInBounds_toArray, List.set_cons_zero, List.set_cons_succ]
      refine grow_give 8 _ rfl (by rfl) (by rfl) (fun wx hC hD => ?_) (fun x => ?_)
      · refine give_enter (f := ?_) (args := ?_) ?_ ?_
        rotate_left 2
        · have hSw := y4.out wx hC
          go_simp
          all_goals first | with_reducible rfl | (refine ⟨?_, ?_⟩ <;> with_reducible rfl)
        refine (CP.out wx hC).mono ?_
        rintro e w9 ⟨v9, rfl, ho9, hb9⟩
        exact ⟨_, rfl, hb9, hC.trans (hb9.mono hC.size), v9, rfl, ho9.base hC.size⟩
      rename Value => x7
      try simp only [Act.put, List.setIfInBounds_toArray, List.set_cons_zero, List.set_cons_succ]
      refine grow_nil (fun w6 hC hF => ?_)
      have hpr := upd_hit (hF 7) (by decide)
      have hI6 := HI3.out.later hC
      have HI6 := Lib.hid hI6
      have HC6 := Lib.hid hC
      have HPR := Lib.hid hpr
      have hs6 := hC.size
      clear hF hC hpr hI6
      try simp only [List.drop_succ_cons, List.drop_zero]
      refine wpList_set_v rfl (.tmp 28) (.tmp 29) (.tmp 32) 57 33 rfl lawS Tryz.underlying57 My l.length Fy rfl HI6.out.mp (by unfold maxLen; omega) x x7 rfl rfl hkS (fun w8 hm8 hg8 => ?_)
      have hn8 : Fy x = none := by
        cases hF : Fy x with
        | none => rfl
        | some u => exact absurd ((hFy.out x).1 (by rw [hF]; rfl)) HNL.out
      have hs8 := hg8.size
      have hI8 := HI6.out.store (O' := fun b => w.heap.size ≤ b ∧ b < w8.heap.size) (s := x) (u := x7) (l := f x) hn8 (HPR.out.base (by omega)) HNE.out (fun t r b ht hb hu => by
        have h1 := (HPR.out.tag b hu).2
        have h2 := (HI3.out.rows t r ht).1.tag b hb
        have := h2.1.lt
        omega) hg8 hm8 (fun b hb => ⟨hb.1, by omega⟩) (fun b hb => by
        have h1 := HPR.out.tag b hb
        exact ⟨by omega, by have := h1.1.lt; omega⟩) (fun b hb => hb)
      have HI8 : Hid (Idx w8 w.heap.size x8 My (l ++ [x]).length vY (putV Fy x x7) (fun b => w.heap.size ≤ b ∧ b < w8.heap.size) ds sz lo hi (inL (l ++ [x]) f)) := Lib.hid (by
        rw [List.length_append, List.length_singleton]
        refine hI8.congr (fun s => ?_)
        by_cases e : s = x
        · subst e
          rw [if_pos rfl, inL_yes (by simp)]
        · rw [if_neg e]
          by_cases hs : s ∈ l
          · rw [inL_yes hs, inL_yes (List.mem_append_left _ hs)]
          · rw [inL_no hs, inL_no (by simp [hs, e])])
      have HFy8 : Hid (∀ s, (putV Fy x x7 s).isSome = true ↔ s ∈ l ++ [x]) := Lib.hid (fun s => by
        unfold putV
        by_cases e : s = x
        · subst e; simp
        · rw [if_neg e, hFy.out s]; simp [e])
      have HB8 : Hid (Below w.heap.size w w8) := Lib.hid ((HB1.out.trans (HC6.out.mono hb3)).grown hg8 (by omega) (fun j hj => by injection hj with hj; omega))
      have hrg6 := hrgF.kept (grow_of_below HC6.out none) (by simp) (by simp)
      have hrg8 := hrg6.kept hg8 (fun e => by injection e with e; omega) (fun e => by injection e with e; omega)
      have hm8' := hrg8.left_eq
      have HRG := Lib.hid hrg8
      clear hI8 hm8 hg8 hrg6 hrg8 hrgF hrg1 hen
      try simp only [Act.put]
      go_wp2
      go_roundw
      case rel => exact ⟨_, cnt1, l ++ [x], putV Fy x x7, HRG.out, by rw [List.length_append, List.length_singleton]; omega, HW1, HFy8, HI8, HB8, by omega⟩
      case measure => rw [hm8', hm0]; exact hlt1
end Go.Proofs.YtioekhiaoajgfaaGreat.Mx
