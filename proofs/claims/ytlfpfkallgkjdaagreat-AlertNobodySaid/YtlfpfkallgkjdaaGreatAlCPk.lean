/- alert.put: the walk (printed by gen_alc.py). -/
import Derived.Test.YtlfpfkallgkjdaaGreatPkAlertManyRow25
namespace Go.Proofs.YtlfpfkallgkjdaaGreat.Al
open Go.RowKit Go.Maps Go.Proofs.YtlfpfkallgkjdaaGreat Go.Proofs.YtlfpfkallgkjdaaGreat.Ut Go.Proofs.YtlfpfkallgkjdaaGreat.Tk Go.Proofs.YtlfpfkallgkjdaaGreat.Qy Go.Proofs.YtlfpfkallgkjdaaGreat.Qp Go.Proofs.YtlfpfkallgkjdaaGreat.Ev Go.Proofs.YtlfpfkallgkjdaaGreat.Mv
set_option linter.unusedVariables false
set_option linter.unusedSimpArgs false
set_option maxRecDepth 20000

theorem put_dropped {l : List (Int × Kp)} (hu : UpI l) (i : Int) (k : Kp) : put (drop l i) i k = put l i k := get_one (put_up (drop_up hu i) i k) (put_up hu i k) (fun j => put_drop hu i k j)
theorem get_dropped {l : List (Int × Kp)} (hu : UpI l) (i : Int) : get (drop l i) i = none := by rw [get_drop hu]; simp
theorem drop_le {l : List (Int × Kp)} (hu : UpI l) (i : Int) : (drop l i).length ≤ l.length := by
  rw [drop_len hu]
  split <;> omega
/-- What put leaves. -/
def PutP (w : World) (X cn M1 M2 : Nat) (F2 : ByteArray → Option Nat) (l : List (Int × Kp)) (i : Int) (k : Kp) (e : Ending) (w' : World) : Prop :=
  e = .returned (.tuple #[]) ∧ ∃ F1' F2', AlX w' X (cn + 1) M1 M2 F1' F2' (put l i k) ∧ Chg (Own M1 M2 F2) w w' ∧ ∀ b, Own M1 M2 F2' b → Own M1 M2 F2 b ∨ w.heap.size ≤ b
/-- Ahead of the last store. -/
structure Mid (w0 w : World) (X cn M1 M2 : Nat) (F1 : Int → Option Value) (F2 : ByteArray → Option Nat) (l : List (Int × Kp)) (i : Int) (k : Kp) (v : Value) (m : Nat) : Prop where
  chg : Chg (Own M1 M2 F2) w0 w
  m1 : MapZ Tryz.prog 3 litI w M1 (l.length + 1) (putV F1 i v)
  m2 : MapV Tryz.prog 9 litS w M2 (cn + 1) (F2v (putF F2 (first k) m))
  s : SetM w m cn (Und l (first k))
  oth : ∀ s m', s ≠ first k → F2 s = some m' → w.heap[m']? = w0.heap[m']?
  hm : F2 (first k) = some m ∨ w0.heap.size ≤ m
  ne : m ≠ M1 ∧ m ≠ M2
section
variable {w0 w w' : World} {X cn M1 M2 : Nat} {F1 : Int → Option Value} {F2 : ByteArray → Option Nat} {l : List (Int × Kp)} {i : Int} {k : Kp} {v : Value} {m : Nat}
theorem Mid.below (h : Mid w0 w X cn M1 M2 F1 F2 l i k v m) (hA : AlM w0 cn M1 M2 F1 F2 l) (hb : Below w.heap.size w w') : Mid w0 w' X cn M1 M2 F1 F2 l i k v m :=
  ⟨h.chg.then_new hb, h.m1.below hb, h.m2.below hb, h.s.same (hb.block m (h.s.mo).lt), fun s m' hs hs' => (hb.block m' (by have := ((hA.sub s m' hs').mo).lt; have := h.chg.size; omega)).trans (h.oth s m' hs hs'), h.hm, h.ne⟩
/-- Behind it. -/
theorem Mid.fin (h : Mid w0 w X cn M1 M2 F1 F2 l i k v m) (hA : AlX w0 X cn M1 M2 F1 F2 l) (hi : 0 ≤ i ∧ i ≤ 999999) (hko : KOk k) (hk : get l i = none) (hv : KpV w0 k v) {f : Int → Option Value} (hf : ∀ j, (f j).isSome = true ↔ Und l (first k) j) {u : Value}
    (hm' : MapV Tryz.prog 3 litI w' m (cn + 1) (putV f i u)) (hg : w.grownBy w' (some m)) : ∃ F1' F2', AlX w' X (cn + 1) M1 M2 F1' F2' (put l i k) ∧ Chg (Own M1 M2 F2) w0 w' ∧ ∀ b, Own M1 M2 F2' b → Own M1 M2 F2 b ∨ w0.heap.size ≤ b := by
  have hc : Chg (Own M1 M2 F2) w0 w' := h.chg.trans (O' := fun b => b = m) (Chg.of_grown hg (fun b hb => by injection hb with hb; exact hb.symm)) (fun x hx => by
    rcases h.hm with h1 | h1
    · exact .inl (.inr (.inr ⟨first k, by rw [h1, hx]⟩))
    · exact .inr (by rw [hx]; exact h1))
  refine ⟨putV F1 i v, putF F2 (first k) m, ⟨blk_chg hA.blk hc hA.al.noSc, ?_⟩, hc, fun b hb => ?_⟩
  · refine hA.al.ins hi hko hk hv hc (h.m1.kept hg (fun e => by injection e with e; exact h.ne.1 e.symm)) (h.m2.kept hg (fun e => by injection e with e; exact h.ne.2 e.symm)) ⟨_, hm', fun j => ?_⟩ (fun s m' hs hs' => ?_) h.hm
    · show (putV f i u j).isSome = true ↔ j = i ∨ Und l (first k) j
      rw [← hf j]
      unfold putV
      by_cases e : j = i
      · simp [e]
      · simp [e]
    · refine (hg.block m' (by have := ((hA.al.sub s m' hs').mo).lt; have := h.chg.size; omega) (fun e => ?_)).trans (h.oth s m' hs hs')
      injection e with e
      subst e
      rcases h.hm with h1 | h1
      · exact hs (hA.al.apart s _ _ hs' h1)
      · have := ((hA.al.sub s _ hs').mo).lt
        omega
  · rcases hb with rfl | rfl | ⟨s, hs⟩
    · exact .inl (.inl rfl)
    · exact .inl (.inr (.inl rfl))
    · unfold putF at hs
      split at hs
      · injection hs with hs
        subst hs
        rcases h.hm with h1 | h1
        · exact .inl (.inr (.inr ⟨_, h1⟩))
        · exact .inr h1
      · exact .inl (.inr (.inr ⟨s, hs⟩))
end
set_option maxHeartbeats 6400000 in
theorem put_any {w : World} {X cn M1 M2 : Nat} {F1 : Int → Option Value} {F2 : ByteArray → Option Nat} {l : List (Int × Kp)} (i : Int) (k : Kp) (v : Value) (hi : 0 ≤ i ∧ i ≤ 999999) (hko : KOk k) (hkv : KpV w k v) (h : AlX w X cn M1 M2 F1 F2 l) (hll : l.length ≤ 4294967296) (hcn : cn ≤ 4294967296) :
    Calls Tryz.prog 35 #[.pointer (some ⟨X, 0, none⟩), .int .i64 i, v] w (PutP w X cn M1 M2 F2 l i k) := by
  have hI64 := I64.of hi
  have HI := Lib.hid hi
  have HKI := Lib.hid (keyI hI64)
  have HKO := Lib.hid hko
  have hks : keyOf Tryz.prog 9 (litS.val (first k)) = some (litS.lit (first k)) := keyS (by have : (first k).size ≤ 65 := hko.first; unfold maxLen; omega)
  have HKS := Lib.hid hks
  obtain ⟨A1, n1, c1, A2, n2, c2, A, c, rfl, _, _⟩ := hkv.parts
  have hmk := mk3
  generalize hfk : first k = fk at *
  have HFK := Lib.hid hfk
  have HKV := Lib.hid hkv
  clear hko hkv hks hfk hi
  generalize hnn : k.needs.length = nn at *
  generalize htx : k.text = tx at *
  generalize hqk : k.q.kind = qk at *
  generalize hqn : k.q.name = qn at *
  clear hnn htx hqk hqn
  have hb := (Below.refl w.heap.size w).alloc (Nat.le_refl _) (.cells #[.string tx, .int .i64 qk, .string qn, .slice A1 n1 c1, .slice A2 n2 c2, .slice A nn c] 92)
  have HBX := Lib.hid (Blk.new w 92 #[.string tx, .int .i64 qk, .string qn, .slice A1 n1 c1, .slice A2 n2 c2, .slice A nn c])
  have H1 := Lib.hid (h.below hb)
  have HB := Lib.hid hb
  have H := Lib.hid h
  have hz : w.heap.size < (w.alloc (.cells #[.string tx, .int .i64 qk, .string qn, .slice A1 n1 c1, .slice A2 n2 c2, .slice A nn c] 92)).heap.size := by simp
  clear hb h
  go_enter Tryz.func35, Tryz.ntmps35
  go_upto_region 1 with (fail)
  generalize w.alloc (.cells #[.string tx, .int .i64 qk, .string qn, .slice A1 n1 c1, .slice A2 n2 c2, .slice A nn c] 92) = w1 at *
  go_wp2_with fail
  refine (drop_any i hI64 H1.out).mono ?_
  rintro e w2 ⟨rfl, F1', hX2, hc2⟩
  have hu := H.out.al.up
  have hl2 := drop_le hu i
  have hgn := get_dropped hu i
  have hpd := put_dropped hu i k
  have C02 : Chg (Own M1 M2 F2) w w2 := (Chg.of_new HB.out).trans (O' := Own M1 M2 F2) hc2 (fun x hx => .inl hx)
  have HKV2 := Lib.hid (HKV.out.chg C02 H.out.al.noSc)
  have HB2 := Lib.hid (blk_chg HBX.out hc2 H1.out.al.noSc)
  have HX2 := Lib.hid hX2
  have HC02 := Lib.hid C02
  have HGN := Lib.hid hgn
  have HPD := Lib.hid hpd
  have hgs : w.heap.size < w2.heap.size := by have := hc2.size; omega
  clear hX2 hc2 C02 hgn hpd hu H1 HKV HBX
  generalize hdl : drop l i = l2 at *
  clear hdl
  have Hc2 : Hid (∀ wx, Below w2.heap.size w2 wx → wx.cell? ⟨X, 0, none⟩ = some (.map (some M1)) ∧ wx.cell? ⟨w.heap.size, 0, none⟩ = some (.string tx) ∧ wx.cell? ⟨w.heap.size, 1, none⟩ = some (.int .i64 qk) ∧ wx.cell? ⟨w.heap.size, 2, none⟩ = some (.string qn) ∧ wx.cell? ⟨w.heap.size, 3, none⟩ = some (.slice A1 n1 c1) ∧ wx.cell? ⟨w.heap.size, 4, none⟩ = some (.slice A2 n2 c2) ∧ wx.cell? ⟨w.heap.size, 5, none⟩ = some (.slice A nn c)) := Lib.hid (fun wx hb => by
    have k1 := (HX2.out.blk.below hb HX2.out.blk.lt).cell 0
    have r := HB2.out.below hb HB2.out.lt
    have r0 := r.cell 0
    have r1 := r.cell 1
    have r2 := r.cell 2
    have r3 := r.cell 3
    have r4 := r.cell 4
    have r5 := r.cell 5
    simp only [List.getElem?_toArray, List.getElem?_cons_zero, List.getElem?_cons_succ] at k1 r0 r1 r2 r3 r4 r5
    exact ⟨k1, r0, r1, r2, r3, r4, r5⟩)
  go_upto_region 2 with (fail)
  refine wp_region_grow_tail 6 (specOf []) (fun wx => Below w2.heap.size w2 wx) (fun w1 w2 => Below w1.heap.size w1 w2) (by kernel_rfl) (by kernel_rfl) (stab_nil) ((Below.refl _ _).drew) ?_
  simp only [List.take_succ_cons, List.take_zero, List.drop_succ_cons, List.drop_zero]
  refine grow_fix 1 ?_ rfl (by rfl) (by rfl) (fun wx hC hD => ?_) ?_
  rotate_left
  · have hSw := Hc2.out wx hC
    go_simp
    all_goals with_reducible rfl
  try simp only [Act.put, List.setIfInBounds_toArray, List.set_cons_zero, List.set_cons_succ]
  refine grow_fix 2 ?_ rfl (by rfl) (by rfl) (fun wx hC hD => ?_) ?_
  rotate_left
  · have hSw := Hc2.out wx hC
    go_simp
    all_goals with_reducible rfl
  try simp only [Act.put, List.setIfInBounds_toArray, List.set_cons_zero, List.set_cons_succ]
  refine grow_fix 3 ?_ rfl (by rfl) (by rfl) (fun wx hC hD => ?_) ?_
  rotate_left
  · have hSw := Hc2.out wx hC
    go_simp
    all_goals with_reducible rfl
  try simp only [Act.put, List.setIfInBounds_toArray, List.set_cons_zero, List.set_cons_succ]
  refine grow_fix 4 ?_ rfl (by rfl) (by rfl) (fun wx hC hD => ?_) ?_
  rotate_left
  · have hSw := Hc2.out wx hC
    go_simp
    all_goals with_reducible rfl
  try simp only [Act.put, List.setIfInBounds_toArray, List.set_cons_zero, List.set_cons_succ]
  refine grow_fix 5 ?_ rfl (by rfl) (by rfl) (fun wx hC hD => ?_) ?_
  rotate_left
  · have hSw := Hc2.out wx hC
    go_simp
    all_goals with_reducible rfl
  try simp only [Act.put, List.setIfInBounds_toArray, List.set_cons_zero, List.set_cons_succ]
  refine grow_fix 6 ?_ rfl (by rfl) (by rfl) (fun wx hC hD => ?_) ?_
  rotate_left
  · have hSw := Hc2.out wx hC
    go_simp
    all_goals with_reducible rfl
  try simp only [Act.put, List.setIfInBounds_toArray, List.set_cons_zero, List.set_cons_succ]
  refine grow_nil (fun w3 hC hF => ?_)
  try simp only [List.drop_succ_cons, List.drop_zero]
  have hm1a := HX2.out.al.m1.below hC
  refine wpList_set_z rfl (.tmp 12) (.tmp 13) (.tmp 14) 83 92 rfl lawI Tryz.underlying83 M1 l2.length F1' rfl hm1a (by unfold maxLen; omega) i (.agg #[.string tx, .int .i64 qk, .string qn, .slice A1 n1 c1, .slice A2 n2 c2, .slice A nn c]) rfl rfl HKI.out (fun w4 hm4 hg4 => ?_)
  have hFn : F1' i = none := HX2.out.al.kn i HGN.out
  rw [hFn] at hm4
  simp only [Option.isSome_none, Bool.false_eq_true, if_false] at hm4
  have hC4 : Chg (Own M1 M2 F2) w2 w4 := (Chg.of_new hC).trans (O' := Own M1 M2 F2) (Chg.of_grown hg4 (fun b hb => by injection hb with hb; exact .inl hb.symm)) (fun x hx => .inl hx)
  have k4 : ∀ b, b < w2.heap.size → b ≠ M1 → w4.heap[b]? = w2.heap[b]? := fun b hb hne => (hg4.block b (by have := hC.size; omega) (fun e => by injection e with e; exact hne e)).trans (hC.block b hb)
  have hX4 := blk_chg HX2.out.blk hC4 HX2.out.al.noSc
  have hB4 := blk_chg HB2.out hC4 HX2.out.al.noSc
  have hKV4 := HKV2.out.chg hC4 HX2.out.al.noSc
  have hm24 := HX2.out.al.m2.same (k4 M2 (mo_v HX2.out.al.m2).lt (fun e => HX2.out.al.n12 e.symm))
  have HM4 := Lib.hid hm4
  have HC4 := Lib.hid hC4
  have K4 := Lib.hid k4
  have HM24 := Lib.hid hm24
  have hs4 := hC4.size
  have Hc4 : Hid (∀ wx, Below w4.heap.size w4 wx → wx.cell? ⟨X, 1, none⟩ = some (.map (some M2)) ∧ wx.cell? ⟨w.heap.size, 0, none⟩ = some (.string tx) ∧ wx.cell? ⟨w.heap.size, 1, none⟩ = some (.int .i64 qk) ∧ wx.cell? ⟨w.heap.size, 2, none⟩ = some (.string qn) ∧ wx.cell? ⟨w.heap.size, 3, none⟩ = some (.slice A1 n1 c1) ∧ wx.cell? ⟨w.heap.size, 4, none⟩ = some (.slice A2 n2 c2) ∧ wx.cell? ⟨w.heap.size, 5, none⟩ = some (.slice A nn c)) := Lib.hid (fun wx hb => by
    have k1 := (hX4.below hb hX4.lt).cell 1
    have r := hB4.below hb hB4.lt
    have r0 := r.cell 0
    have r1 := r.cell 1
    have r2 := r.cell 2
    have r3 := r.cell 3
    have r4 := r.cell 4
    have r5 := r.cell 5
    simp only [List.getElem?_toArray, List.getElem?_cons_zero, List.getElem?_cons_succ] at k1 r0 r1 r2 r3 r4 r5
    exact ⟨k1, r0, r1, r2, r3, r4, r5⟩)
  have CF : Hid (∀ wx, Below w4.heap.size w4 wx → Calls Tryz.prog 66 #[.agg #[.string tx, .int .i64 qk, .string qn, .slice A1 n1 c1, .slice A2 n2 c2, .slice A nn c]] wx fun e w' => e = .returned (.string fk) ∧ Below wx.heap.size wx w') := Lib.hid (fun wx hb => by
    have := first_any (hKV4.chg (O := fun _ => False) (Chg.of_new hb) (fun _ h => h.elim))
    rwa [HFK.out] at this)
  clear hF hC hm1a hm4 hC4 k4 hX4 hB4 hKV4 hm24 hg4 hFn
  try simp only [Act.put, List.setIfInBounds_toArray, List.set_cons_zero, List.set_cons_succ]
  have he3s := eq3_some
  have he3n := eq3_none
  by_cases hF2 : ∃ m, F2 fk = some m
  · obtain ⟨m, hF2⟩ := hF2
    have HLK := Lib.hid (looksS HM24.out lawS Tryz.underlying84 Tryz.zeroValue106 fk HKS.out (u := .map (some m)) (by unfold F2v; rw [hF2]; rfl))
    have HF2 := Lib.hid hF2
    clear hF2
    go_upto_region 3 with (fail)
    refine wp_region_grow (specOf [(5, ⟨Unit, fun _ => .string fk, fun _ _ => True⟩)]) (fun wx => Below (World.heap w4).size w4 wx) (fun w1 w2 => Below w1.heap.size w1 w2) (by kernel_rfl) (by kernel_rfl) (stab_cons (fun x wa wb hg h => trivial) (stab_nil)) (Below.refl _ _).drew ?_
    refine grow_fix 1 ?_ rfl (by rfl) (by rfl) (fun wx hC hD => ?_) ?_
    rotate_left
    · have hSw := Hc4.out wx hC
      go_simp
      all_goals with_reducible rfl
    try simp only [Act.put, List.setIfInBounds_toArray, List.set_cons_zero, List.set_cons_succ]
    refine grow_fix 2 ?_ rfl (by rfl) (by rfl) (fun wx hC hD => ?_) ?_
    rotate_left
    · have hSw := Hc4.out wx hC
      go_simp
      all_goals with_reducible rfl
    try simp only [Act.put, List.setIfInBounds_toArray, List.set_cons_zero, List.set_cons_succ]
    refine grow_fix 3 ?_ rfl (by rfl) (by rfl) (fun wx hC hD => ?_) ?_
    rotate_left
    · have hSw := Hc4.out wx hC
      go_simp
      all_goals with_reducible rfl
    try simp only [Act.put, List.setIfInBounds_toArray, List.set_cons_zero, List.set_cons_succ]
    refine grow_fix 4 ?_ rfl (by rfl) (by rfl) (fun wx hC hD => ?_) ?_
    rotate_left
    · have hSw := Hc4.out wx hC
      go_simp
      all_goals with_reducible rfl
    try simp only [Act.put, List.setIfInBounds_toArray, List.set_cons_zero, List.set_cons_succ]
    refine grow_fix 5 ?_ rfl (by rfl) (by rfl) (fun wx hC hD => ?_) ?_
    rotate_left
    · have hSw := Hc4.out wx hC
      go_simp
      all_goals with_reducible rfl
    try simp only [Act.put, List.setIfInBounds_toArray, List.set_cons_zero, List.set_cons_succ]
    refine grow_give 6 _ rfl (by rfl) (by rfl) (fun wx hC hD => ?_) (fun x => ?_)
    · refine give_enter (f := ?_) (args := ?_) ?_ ?_
      rotate_left 2
      · have hSw := Hc4.out wx hC
        go_simp
        all_goals first | with_reducible rfl | (refine ⟨?_, ?_⟩ <;> with_reducible rfl)
      refine (CF.out wx hC).mono ?_
      rintro e w9 ⟨rfl, hb9⟩
      exact ⟨_, rfl, hb9, hC.trans (hb9.mono hC.size), (), rfl, trivial⟩
    obtain ⟨⟩ := x
    try simp only [Act.put, List.setIfInBounds_toArray, List.set_cons_zero, List.set_cons_succ]
    refine grow_fix 7 ?_ rfl (by rfl) (by rfl) (fun wx hC hD => ?_) ?_
    rotate_left
    · have hlk := HLK.out wx hC
      have hSw := Hc4.out wx hC
      go_simp
      all_goals with_reducible rfl
    try simp only [Act.put, List.setIfInBounds_toArray, List.set_cons_zero, List.set_cons_succ]
    refine grow_fix 8 ?_ rfl (by rfl) (by rfl) (fun wx hC hD => ?_) ?_
    rotate_left
    · have hSw := Hc4.out wx hC
      go_simp
      all_goals with_reducible rfl
    try simp only [Act.put, List.setIfInBounds_toArray, List.set_cons_zero, List.set_cons_succ]
    refine grow_nil (fun w5 hC hF => ?_)
    have hm5 : Mid w2 w5 X cn M1 M2 F1' F2 l2 i k (.agg #[.string tx, .int .i64 qk, .string qn, .slice A1 n1 c1, .slice A2 n2 c2, .slice A nn c]) m := by
      have hmn := HX2.out.al.n1 fk m HF2.out
      refine ⟨HC4.out.then_new hC, HM4.out.below hC, ?_, ?_, fun s m' hs hs' => ?_, by rw [HFK.out]; exact .inl HF2.out, hmn⟩
      · refine ((HM24.out.below hC).more (Nat.le_succ _)).congr (fun s => ?_)
        unfold F2v putF
        rw [HFK.out]
        by_cases e : s = fk
        · rw [if_pos e, e, HF2.out]
        · rw [if_neg e]
      · rw [HFK.out]
        exact ((HX2.out.al.sub fk m HF2.out).same (K4.out m ((HX2.out.al.sub fk m HF2.out).mo).lt hmn.1)).same (hC.block m (by have := ((HX2.out.al.sub fk m HF2.out).mo).lt; omega))
      · exact (hC.block m' (by have := ((HX2.out.al.sub s m' hs').mo).lt; omega)).trans (K4.out m' ((HX2.out.al.sub s m' hs').mo).lt (HX2.out.al.n1 s m' hs').1)
    have HMID := Lib.hid hm5
    have Hc5 : Hid (∀ wx, Below w5.heap.size w5 wx → wx.cell? ⟨X, 1, none⟩ = some (.map (some M2)) ∧ wx.cell? ⟨w.heap.size, 0, none⟩ = some (.string tx) ∧ wx.cell? ⟨w.heap.size, 1, none⟩ = some (.int .i64 qk) ∧ wx.cell? ⟨w.heap.size, 2, none⟩ = some (.string qn) ∧ wx.cell? ⟨w.heap.size, 3, none⟩ = some (.slice A1 n1 c1) ∧ wx.cell? ⟨w.heap.size, 4, none⟩ = some (.slice A2 n2 c2) ∧ wx.cell? ⟨w.heap.size, 5, none⟩ = some (.slice A nn c)) := Lib.hid (fun wx hb => Hc4.out wx (hC.trans (hb.mono hC.size)))
    have CF5 : Hid (∀ wx, Below w5.heap.size w5 wx → Calls Tryz.prog 66 #[.agg #[.string tx, .int .i64 qk, .string qn, .slice A1 n1 c1, .slice A2 n2 c2, .slice A nn c]] wx fun e w' => e = .returned (.string fk) ∧ Below wx.heap.size wx w') := Lib.hid (fun wx hb => CF.out wx (hC.trans (hb.mono hC.size)))
    clear hF hC hm5 HLK CF Hc4
    have HLK2 := Lib.hid (looksS HMID.out.m2 lawS Tryz.underlying84 Tryz.zeroValue106 fk HKS.out (u := .map (some m)) (by unfold F2v putF; rw [HFK.out]; simp))
    go_upto_region 5 with (fail)
    refine wp_region_grow_tail 9 (specOf [(5, ⟨Unit, fun _ => .string fk, fun _ _ => True⟩)]) (fun wx => Below w5.heap.size w5 wx) (fun w1 w2 => Below w1.heap.size w1 w2) (by kernel_rfl) (by kernel_rfl) (stab_cons (fun x wa wb hg h => trivial) (stab_nil)) ((Below.refl _ _).drew) ?_
    simp only [List.take_succ_cons, List.take_zero, List.drop_succ_cons, List.drop_zero]
    refine grow_fix 1 ?_ rfl (by rfl) (by rfl) (fun wx hC hD => ?_) ?_
    rotate_left
    · have hSw := Hc5.out wx hC
      go_simp
      all_goals with_reducible rfl
    try simp only [Act.put, List.setIfInBounds_toArray, List.set_cons_zero, List.set_cons_succ]
    refine grow_fix 2 ?_ rfl (by rfl) (by rfl) (fun wx hC hD => ?_) ?_
    rotate_left
    · have hSw := Hc5.out wx hC
      go_simp
      all_goals with_reducible rfl
    try simp only [Act.put, List.setIfInBounds_toArray, List.set_cons_zero, List.set_cons_succ]
    refine grow_fix 3 ?_ rfl (by rfl) (by rfl) (fun wx hC hD => ?_) ?_
    rotate_left
    · have hSw := Hc5.out wx hC
      go_simp
      all_goals with_reducible rfl
    try simp only [Act.put, List.setIfInBounds_toArray, List.set_cons_zero, List.set_cons_succ]
    refine grow_fix 4 ?_ rfl (by rfl) (by rfl) (fun wx hC hD => ?_) ?_
    rotate_left
    · have hSw := Hc5.out wx hC
      go_simp
      all_goals with_reducible rfl
    try simp only [Act.put, List.setIfInBounds_toArray, List.set_cons_zero, List.set_cons_succ]
    refine grow_fix 5 ?_ rfl (by rfl) (by rfl) (fun wx hC hD => ?_) ?_
    rotate_left
    · have hSw := Hc5.out wx hC
      go_simp
      all_goals with_reducible rfl
    try simp only [Act.put, List.setIfInBounds_toArray, List.set_cons_zero, List.set_cons_succ]
    refine grow_give 6 _ rfl (by rfl) (by rfl) (fun wx hC hD => ?_) (fun x => ?_)
    · refine give_enter (f := ?_) (args := ?_) ?_ ?_
      rotate_left 2
      · have hSw := Hc5.out wx hC
        go_simp
        all_goals first | with_reducible rfl | (refine ⟨?_, ?_⟩ <;> with_reducible rfl)
      refine (CF5.out wx hC).mono ?_
      rintro e w9 ⟨rfl, hb9⟩
      exact ⟨_, rfl, hb9, hC.trans (hb9.mono hC.size), (), rfl, trivial⟩
    obtain ⟨⟩ := x
    try simp only [Act.put, List.setIfInBounds_toArray, List.set_cons_zero, List.set_cons_succ]
    refine grow_fix 7 ?_ rfl (by rfl) (by rfl) (fun wx hC hD => ?_) ?_
    rotate_left
    · have hlk := HLK2.out wx hC
      have hSw := Hc5.out wx hC
      go_simp
      all_goals with_reducible rfl
    try simp only [Act.put, List.setIfInBounds_toArray, List.set_cons_zero, List.set_cons_succ]
    refine grow_fix 8 ?_ rfl (by rfl) (by rfl) (fun wx hC hD => ?_) ?_
    rotate_left
    · have hSw := Hc5.out wx hC
      go_simp
      all_goals with_reducible rfl
    try simp only [Act.put, List.setIfInBounds_toArray, List.set_cons_zero, List.set_cons_succ]
    refine grow_fix 9 ?_ rfl (by rfl) (by rfl) (fun wx hC hD => ?_) ?_
    rotate_left
    · have hSw := Hc5.out wx hC
      go_simp
      all_goals with_reducible rfl
    try simp only [Act.put, List.setIfInBounds_toArray, List.set_cons_zero, List.set_cons_succ]
    refine grow_nil (fun w9 hC hF => ?_)
    have hM9 := HMID.out.below HX2.out.al hC
    obtain ⟨f, hf, hfi⟩ := hM9.s
    try simp only [List.drop_succ_cons, List.drop_zero]
    refine wpList_set_v rfl (.tmp 36) (.tmp 37) (.tmp 38) 106 100 rfl lawI Tryz.underlying106 m cn f rfl hf (by unfold maxLen; omega) i (.agg #[]) rfl rfl HKI.out (fun w10 hm10 hg10 => ?_)
    have FIN : Hid (PutP w X cn M1 M2 F2 l i k (.returned (.tuple #[])) w10) := Lib.hid (by
      obtain ⟨F1o, F2o, g1, g2, g3⟩ := hM9.fin HX2.out HI.out HKO.out HGN.out HKV2.out hfi hm10 hg10
      rw [HPD.out] at g1
      exact ⟨rfl, F1o, F2o, g1, HC02.out.trans g2 (fun x hx => .inl hx), fun b hb => (g3 b hb).imp id (fun h => by omega)⟩)
    clear hF hC hM9 hf hfi hm10 hg10
    try simp only [Act.put, List.setIfInBounds_toArray, List.set_cons_zero, List.set_cons_succ]
    go_wp2
    go_end0
    exact FIN.out
  · have hF2n : F2 fk = none := by
      cases e : F2 fk with
      | none => rfl
      | some m => exact absurd ⟨m, e⟩ hF2
    have HLK := Lib.hid (looksS HM24.out lawS Tryz.underlying84 Tryz.zeroValue106 fk HKS.out (u := .map none) (by unfold F2v; rw [hF2n]; rfl))
    have HF2 := Lib.hid hF2n
    clear hF2 hF2n
    go_upto_region 3 with (fail)
    refine wp_region_grow (specOf [(5, ⟨Unit, fun _ => .string fk, fun _ _ => True⟩)]) (fun wx => Below (World.heap w4).size w4 wx) (fun w1 w2 => Below w1.heap.size w1 w2) (by kernel_rfl) (by kernel_rfl) (stab_cons (fun x wa wb hg h => trivial) (stab_nil)) (Below.refl _ _).drew ?_
    refine grow_fix 1 ?_ rfl (by rfl) (by rfl) (fun wx hC hD => ?_) ?_
    rotate_left
    · have hSw := Hc4.out wx hC
      go_simp
      all_goals with_reducible rfl
    try simp only [Act.put, List.setIfInBounds_toArray, List.set_cons_zero, List.set_cons_succ]
    refine grow_fix 2 ?_ rfl (by rfl) (by rfl) (fun wx hC hD => ?_) ?_
    rotate_left
    · have hSw := Hc4.out wx hC
      go_simp
      all_goals with_reducible rfl
    try simp only [Act.put, List.setIfInBounds_toArray, List.set_cons_zero, List.set_cons_succ]
    refine grow_fix 3 ?_ rfl (by rfl) (by rfl) (fun wx hC hD => ?_) ?_
    rotate_left
    · have hSw := Hc4.out wx hC
      go_simp
      all_goals with_reducible rfl
    try simp only [Act.put, List.setIfInBounds_toArray, List.set_cons_zero, List.set_cons_succ]
    refine grow_fix 4 ?_ rfl (by rfl) (by rfl) (fun wx hC hD => ?_) ?_
    rotate_left
    · have hSw := Hc4.out wx hC
      go_simp
      all_goals with_reducible rfl
    try simp only [Act.put, List.setIfInBounds_toArray, List.set_cons_zero, List.set_cons_succ]
    refine grow_fix 5 ?_ rfl (by rfl) (by rfl) (fun wx hC hD => ?_) ?_
    rotate_left
    · have hSw := Hc4.out wx hC
      go_simp
      all_goals with_reducible rfl
    try simp only [Act.put, List.setIfInBounds_toArray, List.set_cons_zero, List.set_cons_succ]
    refine grow_give 6 _ rfl (by rfl) (by rfl) (fun wx hC hD => ?_) (fun x => ?_)
    · refine give_enter (f := ?_) (args := ?_) ?_ ?_
      rotate_left 2
      · have hSw := Hc4.out wx hC
        go_simp
        all_goals first | with_reducible rfl | (refine ⟨?_, ?_⟩ <;> with_reducible rfl)
      refine (CF.out wx hC).mono ?_
      rintro e w9 ⟨rfl, hb9⟩
      exact ⟨_, rfl, hb9, hC.trans (hb9.mono hC.size), (), rfl, trivial⟩
    obtain ⟨⟩ := x
    try simp only [Act.put, List.setIfInBounds_toArray, List.set_cons_zero, List.set_cons_succ]
    refine grow_fix 7 ?_ rfl (by rfl) (by rfl) (fun wx hC hD => ?_) ?_
    rotate_left
    · have hlk := HLK.out wx hC
      have hSw := Hc4.out wx hC
      go_simp
      all_goals with_reducible rfl
    try simp only [Act.put, List.setIfInBounds_toArray, List.set_cons_zero, List.set_cons_succ]
    refine grow_fix 8 ?_ rfl (by rfl) (by rfl) (fun wx hC hD => ?_) ?_
    rotate_left
    · have hSw := Hc4.out wx hC
      go_simp
      all_goals with_reducible rfl
    try simp only [Act.put, List.setIfInBounds_toArray, List.set_cons_zero, List.set_cons_succ]
    refine grow_nil (fun w5 hC hF => ?_)
    have HC5 := Lib.hid hC
    have Hc5 : Hid (∀ wx, Below w5.heap.size w5 wx → wx.cell? ⟨X, 1, none⟩ = some (.map (some M2)) ∧ wx.cell? ⟨w.heap.size, 0, none⟩ = some (.string tx) ∧ wx.cell? ⟨w.heap.size, 1, none⟩ = some (.int .i64 qk) ∧ wx.cell? ⟨w.heap.size, 2, none⟩ = some (.string qn) ∧ wx.cell? ⟨w.heap.size, 3, none⟩ = some (.slice A1 n1 c1) ∧ wx.cell? ⟨w.heap.size, 4, none⟩ = some (.slice A2 n2 c2) ∧ wx.cell? ⟨w.heap.size, 5, none⟩ = some (.slice A nn c)) := Lib.hid (fun wx hb => Hc4.out wx (hC.trans (hb.mono hC.size)))
    have CF5 : Hid (∀ wx, Below w5.heap.size w5 wx → Calls Tryz.prog 66 #[.agg #[.string tx, .int .i64 qk, .string qn, .slice A1 n1 c1, .slice A2 n2 c2, .slice A nn c]] wx fun e w' => e = .returned (.string fk) ∧ Below wx.heap.size wx w') := Lib.hid (fun wx hb => CF.out wx (hC.trans (hb.mono hC.size)))
    clear hF hC HLK CF Hc4
    go_upto_region 4 with (fail)
    refine wp_region_grow_tail 7 (specOf [(5, ⟨Unit, fun _ => .string fk, fun _ _ => True⟩), (6, ⟨Nat, fun m => .map (some m), fun m wz => MapV Tryz.prog 3 litI wz m 0 noV ∧ w5.heap.size ≤ m⟩)]) (fun wx => Below w5.heap.size w5 wx) (fun w1 w2 => Below w1.heap.size w1 w2) (by kernel_rfl) (by kernel_rfl) (stab_cons (fun x wa wb hg h => trivial) (stab_cons (fun x wa wb hg h => ⟨h.1.below hg, h.2⟩) (stab_nil))) ((Below.refl _ _).drew) ?_
    simp only [List.take_succ_cons, List.take_zero, List.drop_succ_cons, List.drop_zero]
    refine grow_fix 1 ?_ rfl (by rfl) (by rfl) (fun wx hC hD => ?_) ?_
    rotate_left
    · have hSw := Hc5.out wx hC
      go_simp
      all_goals with_reducible rfl
    try simp only [Act.put, List.setIfInBounds_toArray, List.set_cons_zero, List.set_cons_succ]
    refine grow_fix 2 ?_ rfl (by rfl) (by rfl) (fun wx hC hD => ?_) ?_
    rotate_left
    · have hSw := Hc5.out wx hC
      go_simp
      all_goals with_reducible rfl
    try simp only [Act.put, List.setIfInBounds_toArray, List.set_cons_zero, List.set_cons_succ]
    refine grow_fix 3 ?_ rfl (by rfl) (by rfl) (fun wx hC hD => ?_) ?_
    rotate_left
    · have hSw := Hc5.out wx hC
      go_simp
      all_goals with_reducible rfl
    try simp only [Act.put, List.setIfInBounds_toArray, List.set_cons_zero, List.set_cons_succ]
    refine grow_fix 4 ?_ rfl (by rfl) (by rfl) (fun wx hC hD => ?_) ?_
    rotate_left
    · have hSw := Hc5.out wx hC
      go_simp
      all_goals with_reducible rfl
    try simp only [Act.put, List.setIfInBounds_toArray, List.set_cons_zero, List.set_cons_succ]
    refine grow_fix 5 ?_ rfl (by rfl) (by rfl) (fun wx hC hD => ?_) ?_
    rotate_left
    · have hSw := Hc5.out wx hC
      go_simp
      all_goals with_reducible rfl
    try simp only [Act.put, List.setIfInBounds_toArray, List.set_cons_zero, List.set_cons_succ]
    refine grow_give 6 _ rfl (by rfl) (by rfl) (fun wx hC hD => ?_) (fun x => ?_)
    · refine give_enter (f := ?_) (args := ?_) ?_ ?_
      rotate_left 2
      · have hSw := Hc5.out wx hC
        go_simp
        all_goals first | with_reducible rfl | (refine ⟨?_, ?_⟩ <;> with_reducible rfl)
      refine (CF5.out wx hC).mono ?_
      rintro e w9 ⟨rfl, hb9⟩
      exact ⟨_, rfl, hb9, hC.trans (hb9.mono hC.size), (), rfl, trivial⟩
    obtain ⟨⟩ := x
    try simp only [Act.put, List.setIfInBounds_toArray, List.set_cons_zero, List.set_cons_succ]
    refine grow_give 7 _ rfl (by rfl) (by rfl) (fun wx hC hD => ?_) (fun x => ?_)
    · refine give_value (u := ?_) (w' := ?_) ?_ ?_ ?_
      rotate_left 2
      · have hSw := Hc5.out wx hC
        go_simp
        all_goals first | with_reducible rfl | (refine ⟨?_, ?_⟩ <;> with_reducible rfl)
      · exact (Below.refl _ _).alloc (Nat.le_refl _) _
      · exact ⟨hC.alloc hC.size _, wx.heap.size, rfl, MapV.made _ _ _ _, hC.size⟩
    rename Nat => x6
    try simp only [Act.put, List.setIfInBounds_toArray, List.set_cons_zero, List.set_cons_succ]
    refine grow_nil (fun w6 hC hF => ?_)
    have hmv := upd_hit (hF 6) (by decide)
    have hC6 := HC5.out.trans (hC.mono HC5.out.size)
    have hm26 := HM24.out.below hC6
    try simp only [List.drop_succ_cons, List.drop_zero]
    refine wpList_set_v rfl (.tmp 26) (.tmp 28) (.tmp 29) 84 106 rfl lawS Tryz.underlying84 M2 cn (F2v F2) rfl hm26 (by unfold maxLen; omega) fk (.map (some x6)) rfl rfl HKS.out (fun w7 hm7 hg7 => ?_)
    rw [F2v_put] at hm7
    have hxM : @Ne Nat x6 M1 ∧ @Ne Nat x6 M2 := by
      have h1 := (mo_v HX2.out.al.m1.v).lt
      have h2 := (mo_v HX2.out.al.m2).lt
      have h3 := hmv.2
      have h4 := HC5.out.size
      exact ⟨fun e => by omega, fun e => by omega⟩
    have hs7 := hg7.size
    have hs6 := hC6.size
    have hM2l : M2 < w2.heap.size := (mo_v HX2.out.al.m2).lt
    have hm7' : Mid w2 w7 X cn M1 M2 F1' F2 l2 i k (.agg #[.string tx, .int .i64 qk, .string qn, .slice A1 n1 c1, .slice A2 n2 c2, .slice A nn c]) x6 := by
      refine ⟨(HC4.out.then_new hC6).trans (O' := Own M1 M2 F2) (Chg.of_grown hg7 (fun b hb => by injection hb with hb; exact .inr (.inl hb.symm))) (fun x hx => .inl hx), (HM4.out.below hC6).kept hg7 (fun e => by injection e with e; exact HX2.out.al.n12 e), by rw [HFK.out]; exact hm7, ⟨noV, ?_, fun j => ?_⟩, fun s m' hs hs' => ?_, .inr (by have := hmv.2; have := HC5.out.size; omega), hxM⟩
      · exact (hmv.1.kept hg7 (fun e => by injection e with e; exact hxM.2 e)).more (Nat.zero_le _)
      · rw [HFK.out]
        exact ⟨fun h => (nomatch h), fun h => absurd h (HX2.out.al.nos fk HF2.out j)⟩
      · have hlt := ((HX2.out.al.sub s m' hs').mo).lt
        have hn := HX2.out.al.n1 s m' hs'
        exact ((hg7.block m' (by omega) (fun e => by injection e with e; exact hn.2 e)).trans (hC6.block m' (by omega))).trans (K4.out m' hlt hn.1)
    have HMID := Lib.hid hm7'
    have Hc7 : Hid (∀ wx, Below w7.heap.size w7 wx → wx.cell? ⟨X, 1, none⟩ = some (.map (some M2)) ∧ wx.cell? ⟨w.heap.size, 0, none⟩ = some (.string tx) ∧ wx.cell? ⟨w.heap.size, 1, none⟩ = some (.int .i64 qk) ∧ wx.cell? ⟨w.heap.size, 2, none⟩ = some (.string qn) ∧ wx.cell? ⟨w.heap.size, 3, none⟩ = some (.slice A1 n1 c1) ∧ wx.cell? ⟨w.heap.size, 4, none⟩ = some (.slice A2 n2 c2) ∧ wx.cell? ⟨w.heap.size, 5, none⟩ = some (.slice A nn c)) := Lib.hid (fun wx hb => by
      have hC7 : Chg (Own M1 M2 F2) w2 wx := hm7'.chg.then_new hb
      have k1 := (blk_chg HX2.out.blk hC7 HX2.out.al.noSc).cell 1
      have r := blk_chg HB2.out hC7 HX2.out.al.noSc
      have r0 := r.cell 0
      have r1 := r.cell 1
      have r2 := r.cell 2
      have r3 := r.cell 3
      have r4 := r.cell 4
      have r5 := r.cell 5
      simp only [List.getElem?_toArray, List.getElem?_cons_zero, List.getElem?_cons_succ] at k1 r0 r1 r2 r3 r4 r5
      exact ⟨k1, r0, r1, r2, r3, r4, r5⟩)
    have CF7 : Hid (∀ wx, Below w7.heap.size w7 wx → Calls Tryz.prog 66 #[.agg #[.string tx, .int .i64 qk, .string qn, .slice A1 n1 c1, .slice A2 n2 c2, .slice A nn c]] wx fun e w' => e = .returned (.string fk) ∧ Below wx.heap.size wx w') := Lib.hid (fun wx hb => by
      have hC7 : Chg (Own M1 M2 F2) w2 wx := hm7'.chg.then_new hb
      have := first_any (HKV2.out.chg hC7 HX2.out.al.noSc)
      rwa [HFK.out] at this)
    clear hF hC hm7' hmv hC6 hm26 hm7 hg7 hs7 hs6 HC5 Hc5 CF5
    try simp only [Act.put, List.setIfInBounds_toArray, List.set_cons_zero, List.set_cons_succ]
    have HLK2 := Lib.hid (looksS HMID.out.m2 lawS Tryz.underlying84 Tryz.zeroValue106 fk HKS.out (u := .map (some x6)) (by unfold F2v putF; rw [HFK.out]; simp))
    go_upto_region 5 with (fail)
    refine wp_region_grow_tail 9 (specOf [(5, ⟨Unit, fun _ => .string fk, fun _ _ => True⟩)]) (fun wx => Below w7.heap.size w7 wx) (fun w1 w2 => Below w1.heap.size w1 w2) (by kernel_rfl) (by kernel_rfl) (stab_cons (fun x wa wb hg h => trivial) (stab_nil)) ((Below.refl _ _).drew) ?_
    simp only [List.take_succ_cons, List.take_zero, List.drop_succ_cons, List.drop_zero]
    refine grow_fix 1 ?_ rfl (by rfl) (by rfl) (fun wx hC hD => ?_) ?_
    rotate_left
    · have hSw := Hc7.out wx hC
      go_simp
      all_goals with_reducible rfl
    try simp only [Act.put, List.setIfInBounds_toArray, List.set_cons_zero, List.set_cons_succ]
    refine grow_fix 2 ?_ rfl (by rfl) (by rfl) (fun wx hC hD => ?_) ?_
    rotate_left
    · have hSw := Hc7.out wx hC
      go_simp
      all_goals with_reducible rfl
    try simp only [Act.put, List.setIfInBounds_toArray, List.set_cons_zero, List.set_cons_succ]
    refine grow_fix 3 ?_ rfl (by rfl) (by rfl) (fun wx hC hD => ?_) ?_
    rotate_left
    · have hSw := Hc7.out wx hC
      go_simp
      all_goals with_reducible rfl
    try simp only [Act.put, List.setIfInBounds_toArray, List.set_cons_zero, List.set_cons_succ]
    refine grow_fix 4 ?_ rfl (by rfl) (by rfl) (fun wx hC hD => ?_) ?_
    rotate_left
    · have hSw := Hc7.out wx hC
      go_simp
      all_goals with_reducible rfl
    try simp only [Act.put, List.setIfInBounds_toArray, List.set_cons_zero, List.set_cons_succ]
    refine grow_fix 5 ?_ rfl (by rfl) (by rfl) (fun wx hC hD => ?_) ?_
    rotate_left
    · have hSw := Hc7.out wx hC
      go_simp
      all_goals with_reducible rfl
    try simp only [Act.put, List.setIfInBounds_toArray, List.set_cons_zero, List.set_cons_succ]
    refine grow_give 6 _ rfl (by rfl) (by rfl) (fun wx hC hD => ?_) (fun x => ?_)
    · refine give_enter (f := ?_) (args := ?_) ?_ ?_
      rotate_left 2
      · have hSw := Hc7.out wx hC
        go_simp
        all_goals first | with_reducible rfl | (refine ⟨?_, ?_⟩ <;> with_reducible rfl)
      refine (CF7.out wx hC).mono ?_
      rintro e w9 ⟨rfl, hb9⟩
      exact ⟨_, rfl, hb9, hC.trans (hb9.mono hC.size), (), rfl, trivial⟩
    obtain ⟨⟩ := x
    try simp only [Act.put, List.setIfInBounds_toArray, List.set_cons_zero, List.set_cons_succ]
    refine grow_fix 7 ?_ rfl (by rfl) (by rfl) (fun wx hC hD => ?_) ?_
    rotate_left
    · have hlk := HLK2.out wx hC
      have hSw := Hc7.out wx hC
      go_simp
      all_goals with_reducible rfl
    try simp only [Act.put, List.setIfInBounds_toArray, List.set_cons_zero, List.set_cons_succ]
    refine grow_fix 8 ?_ rfl (by rfl) (by rfl) (fun wx hC hD => ?_) ?_
    rotate_left
    · have hSw := Hc7.out wx hC
      go_simp
      all_goals with_reducible rfl
    try simp only [Act.put, List.setIfInBounds_toArray, List.set_cons_zero, List.set_cons_succ]
    refine grow_fix 9 ?_ rfl (by rfl) (by rfl) (fun wx hC hD => ?_) ?_
    rotate_left
    · have hSw := Hc7.out wx hC
      go_simp
      all_goals with_reducible rfl
    try simp only [Act.put, List.setIfInBounds_toArray, List.set_cons_zero, List.set_cons_succ]
    refine grow_nil (fun w9 hC hF => ?_)
    have hM9 := HMID.out.below HX2.out.al hC
    obtain ⟨f, hf, hfi⟩ := hM9.s
    try simp only [List.drop_succ_cons, List.drop_zero]
    refine wpList_set_v rfl (.tmp 36) (.tmp 37) (.tmp 38) 106 100 rfl lawI Tryz.underlying106 x6 cn f rfl hf (by unfold maxLen; omega) i (.agg #[]) rfl rfl HKI.out (fun w10 hm10 hg10 => ?_)
    have FIN : Hid (PutP w X cn M1 M2 F2 l i k (.returned (.tuple #[])) w10) := Lib.hid (by
      obtain ⟨F1o, F2o, g1, g2, g3⟩ := hM9.fin HX2.out HI.out HKO.out HGN.out HKV2.out hfi hm10 hg10
      rw [HPD.out] at g1
      exact ⟨rfl, F1o, F2o, g1, HC02.out.trans g2 (fun x hx => .inl hx), fun b hb => (g3 b hb).imp id (fun h => by omega)⟩)
    clear hF hC hM9 hf hfi hm10 hg10
    try simp only [Act.put, List.setIfInBounds_toArray, List.set_cons_zero, List.set_cons_succ]
    go_wp2
    go_end0
    exact FIN.out
end Go.Proofs.YtlfpfkallgkjdaaGreat.Al
