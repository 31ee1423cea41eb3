/- alert.Put, Drop: the walks (printed by gen_ale.py). -/
import Derived.Test.YtlfpfkallgkjdaaGreatProg
import Derived.Shelf.SlSortCmp.KitK
import Derived.Sort.LotA
import Derived.Sort.WalkB2
import Derived.Sort.WalkB12
import Derived.Deep.LoopGhost
import Derived.Lib.Hide
import Derived.Test.YtlfpfkallgkjdaaGreatAlCPk
import Derived.Test.YtlfpfkallgkjdaaGreatPkAlertManyRow27
import Derived.Test.YtlfpfkallgkjdaaGreatPkAlertManyRow0
section
namespace Go.Proofs.YtlfpfkallgkjdaaGreat.Al
open Go.RowKit Go.Maps Go.Proofs.YtlfpfkallgkjdaaGreat Go.Proofs.YtlfpfkallgkjdaaGreat.Ut Go.Proofs.YtlfpfkallgkjdaaGreat.Tk Go.Proofs.YtlfpfkallgkjdaaGreat.Qy Go.Proofs.YtlfpfkallgkjdaaGreat.Qp Go.Proofs.YtlfpfkallgkjdaaGreat.Ev Go.Proofs.YtlfpfkallgkjdaaGreat.Mv
set_option linter.unusedVariables false
set_option linter.unusedSimpArgs false
set_option maxRecDepth 20000

/-- What Put tells and leaves. -/
inductive PutR : List (Int × Kp) → Int → ByteArray → Int → List (Int × Kp) → Prop
  | arg {l : List (Int × Kp)} {i : Int} {s : ByteArray} (h : i < 0 ∨ 999999 < i) : PutR l i s 1 l
  | bad {l : List (Int × Kp)} {i : Int} {s : ByteArray} {E : Int} (h : 0 ≤ i ∧ i ≤ 999999) (hp : PrsR s.data.toList E none) : PutR l i s E l
  | many {l : List (Int × Kp)} {i : Int} {s : ByteArray} {q : Q} (h : 0 ≤ i ∧ i ≤ 999999) (hp : PrsR s.data.toList 0 (some q)) (hg : get l i = none) (hm : 1000 ≤ l.length) : PutR l i s 3 l
  | ok {l : List (Int × Kp)} {i : Int} {s : ByteArray} {q : Q} (h : 0 ≤ i ∧ i ≤ 999999) (hp : PrsR s.data.toList 0 (some q)) (hm : (get l i).isSome = true ∨ l.length < 1000) : PutR l i s 0 (put l i ⟨s, q, needs q⟩)
theorem PutR.det {l l' l'' : List (Int × Kp)} {i : Int} {s : ByteArray} {E E' : Int} (h : PutR l i s E l') (h' : PutR l i s E' l'') : E = E' ∧ l' = l'' := by
  cases h with
  | arg h =>
    cases h' with
    | arg _ => exact ⟨rfl, rfl⟩
    | bad g _ => omega
    | many g _ _ _ => omega
    | ok g _ _ => omega
  | bad h hp =>
    cases h' with
    | arg g => omega
    | bad _ hp' => exact ⟨(hp.det hp').1, rfl⟩
    | many _ hp' _ _ => cases (hp.det hp').2
    | ok _ hp' _ => cases (hp.det hp').2
  | many h hp hg hm =>
    cases h' with
    | arg g => omega
    | bad _ hp' => cases (hp.det hp').2
    | many _ _ _ _ => exact ⟨rfl, rfl⟩
    | ok _ _ hm' =>
      rw [hg] at hm'
      rcases hm' with hm' | hm'
      · cases hm'
      · omega
  | ok h hp hm =>
    cases h' with
    | arg g => omega
    | bad _ hp' => cases (hp.det hp').2
    | many _ _ hg' hm' =>
      rw [hg'] at hm
      rcases hm with hm | hm
      · cases hm
      · omega
    | ok _ hp' _ =>
      have := (hp.det hp').2
      injection this with this
      subst this
      exact ⟨rfl, rfl⟩
theorem PutR.few {l l' : List (Int × Kp)} {i : Int} {s : ByteArray} {E : Int} (h : PutR l i s E l') (hu : UpI l) (hl : l.length ≤ 1000) : l'.length ≤ 1000 := by
  cases h with
  | arg h => exact hl
  | bad h hp => exact hl
  | many h hp hg hm => exact hl
  | ok h hp hm =>
    rw [put_len hu]
    split
    · exact hl
    · rename_i hs
      rcases hm with hm | hm
      · exact absurd hm hs
      · omega
/-- What Put hands back, and leaves. -/
def PutsP (w : World) (X cn M1 M2 : Nat) (F2 : ByteArray → Option Nat) (l : List (Int × Kp)) (i : Int) (s : ByteArray) (e : Ending) (w' : World) : Prop :=
  ∃ E l' F1' F2', PutR l i s E l' ∧ e = .returned (.int .i64 E) ∧ AlX w' X (cn + 1) M1 M2 F1' F2' l' ∧ Chg (Own M1 M2 F2) w w' ∧ ∀ b, Own M1 M2 F2' b → Own M1 M2 F2 b ∨ w.heap.size ≤ b
section
variable {w : World} {X cn M1 M2 : Nat} {F1 : Int → Option Value} {F2 : ByteArray → Option Nat} {l : List (Int × Kp)}
theorem PutsP.stay {i : Int} {s : ByteArray} {E : Int} {w' : World} (h : AlX w X cn M1 M2 F1 F2 l) (hp : PutR l i s E l) (hb : Below w.heap.size w w') : PutsP w X cn M1 M2 F2 l i s (.returned (.int .i64 E)) w' :=
  ⟨E, l, F1, F2, hp, rfl, ⟨(h.below hb).blk, (h.below hb).al.more (Nat.le_succ _)⟩, Chg.of_new hb, fun b hb => .inl hb⟩
set_option maxHeartbeats 6400000 in
theorem puts_any (i : Int) (hi : I64 i) (s : ByteArray) (h : AlX w X cn M1 M2 F1 F2 l) (hll : l.length ≤ 1000) (hcn : cn ≤ 4294967296) :
    Calls Tryz.prog 10 #[.pointer (some ⟨X, 0, none⟩), .int .i64 i, .string s] w (PutsP w X cn M1 M2 F2 l i s) := by
  have q0 := h.c0
  have c1 := none_no q0
  have HKI := Lib.hid (keyI hi)
  have H := Lib.hid h
  by_cases h1 : i < 0
  · have FIN := Lib.hid (PutsP.stay h (PutR.arg (s := s) (.inl h1)) (Below.refl _ _))
    clear h
    go_enter Tryz.func10, Tryz.ntmps10
    go_wp2_with fail
    refine c1.mono ?_
    rintro e w2 ⟨rfl, rfl⟩
    clear c1
    go_wp2
    go_ret
    exact FIN.out
  by_cases h2 : 999999 < i
  · have FIN := Lib.hid (PutsP.stay h (PutR.arg (s := s) (.inr h2)) (Below.refl _ _))
    clear h
    go_enter Tryz.func10, Tryz.ntmps10
    go_wp2_with fail
    refine c1.mono ?_
    rintro e w2 ⟨rfl, rfl⟩
    clear c1
    go_wp2
    go_ret
    exact FIN.out
  have hr : 0 ≤ i ∧ i ≤ 999999 := ⟨by omega, by omega⟩
  have HR := Lib.hid hr
  clear h hr
  go_enter Tryz.func10, Tryz.ntmps10
  go_wp2_with fail
  refine c1.mono ?_
  rintro e w2 ⟨rfl, rfl⟩
  clear c1
  go_wp2_with fail
  refine (parse_any s _).mono ?_
  rintro e w2 ⟨E, o, a0, a1, a2, a3, hp, rfl, hF, hb2⟩
  obtain ⟨A1, n1, c1, A2, n2, c2, e4⟩ := hF.four
  simp only [List.cons.injEq, and_true] at e4
  obtain ⟨rfl, rfl, rfl, rfl⟩ := e4
  cases o with
  | none =>
    have hE := prs_none hp
    have hb3 : Below w.heap.size w (w2.alloc (.cells #[.int .i64 ((none : Option Q).getD noQ).kind, .string ((none : Option Q).getD noQ).name, .slice A1 n1 c1, .slice A2 n2 c2] 52)) := hb2.trans (((Below.refl _ _).alloc (Nat.le_refl _) _).mono hb2.size)
    have FIN := Lib.hid (PutsP.stay H.out (PutR.bad HR.out hp) hb3)
    have hE2 : (E != 0) = true := by simpa using hE
    clear hp hF hb2 hb3 q0
    generalize ((none : Option Q).getD noQ).kind = z1 at *
    generalize ((none : Option Q).getD noQ).name = z2 at *
    go_wp2
    go_ret
    exact FIN.out
  | some q =>
    obtain ⟨rfl, _, hq⟩ := prs_ok hp
    have hF' : QF w2 (Sc w2) q [.int .i64 q.kind, .string q.name, .slice A1 n1 c1, .slice A2 n2 c2] := qf_sc hF
    have HF := Lib.hid hF'
    have HP := Lib.hid hp
    have HQ := Lib.hid hq
    have hk1 : ((some q : Option Q).getD noQ).kind = q.kind := rfl
    have hk2 : ((some q : Option Q).getD noQ).name = q.name := rfl
    rw [hk1, hk2]
    clear hp hF hF' hq hk1 hk2 q0
    have hqat : QAt w2 w2.heap.size q [.int .i64 q.kind, .string q.name, .slice A1 n1 c1, .slice A2 n2 c2] := HF.out.at_ (fun b hb => hb.lt)
    have HQA := Lib.hid hqat
    clear hqat
    generalize hqk : q.kind = qk at *
    generalize hqn : q.name = qn at *
    have HKK := Lib.hid (And.intro hqk hqn)
    clear hqk hqn
    have hba := (Below.refl w2.heap.size w2).alloc (Nat.le_refl _) (.cells #[.int .i64 qk, .string qn, .slice A1 n1 c1, .slice A2 n2 c2] 52)
    have HBQ := Lib.hid (Blk.new w2 52 #[.int .i64 qk, .string qn, .slice A1 n1 c1, .slice A2 n2 c2])
    have HB3 := Lib.hid (hb2.trans (hba.mono hb2.size))
    have HBA := Lib.hid hba
    have hz3 : w2.heap.size < (w2.alloc (.cells #[.int .i64 qk, .string qn, .slice A1 n1 c1, .slice A2 n2 c2] 52)).heap.size := by simp
    have Hb2 := Lib.hid hb2
    clear hba hb2
    go_upto_region 8 with (fail)
    generalize w2.alloc (.cells #[.int .i64 qk, .string qn, .slice A1 n1 c1, .slice A2 n2 c2] 52) = w3 at *
    have H3 := Lib.hid (H.out.below HB3.out)
    have q0 := H3.out.c0
    have hs23 := HBA.out.size
    obtain ⟨z, hz⟩ : ∃ z : Value, z = ((F1 i).getD (.agg #[.string ⟨#[]⟩, .int .i64 0, .string ⟨#[]⟩, .slice none 0 0, .slice none 0 0, .slice none 0 0])) := ⟨_, rfl⟩
    obtain ⟨u0, u1, u2, u3, u4, u5, hzz⟩ : ∃ (u0 u2 : ByteArray) (u1 : Int) (u3 u4 u5 : Option Addr × Nat × Nat), z = .agg #[.string u0, .int .i64 u1, .string u2, .slice u3.1 u3.2.1 u3.2.2, .slice u4.1 u4.2.1 u4.2.2, .slice u5.1 u5.2.1 u5.2.2] := by
      cases hg : get l i with
      | none =>
        rw [H.out.al.kn i hg] at hz
        exact ⟨⟨#[]⟩, ⟨#[]⟩, 0, (none, 0, 0), (none, 0, 0), (none, 0, 0), hz⟩
      | some k =>
        obtain ⟨v, hv1, hv2⟩ := H.out.al.kv i k hg
        rw [hv1] at hz
        obtain ⟨B1, m1, d1, B2, m2, d2, B, d, rfl, _, _⟩ := hv2.parts
        exact ⟨k.text, k.q.name, k.q.kind, (B1, m1, d1), (B2, m2, d2), (B, k.needs.length, d), hz⟩
    subst hzz
    have HZ := Lib.hid hz.symm
    have hiff := H.out.al.iff i
    have HIF := Lib.hid hiff
    clear hz hiff
    obtain ⟨ok, hok⟩ : ∃ ok, (get l i).isSome = ok := ⟨_, rfl⟩
    have HOK := Lib.hid hok
    clear hok
    have hbk := (Below.refl w3.heap.size w3).alloc (Nat.le_refl _) (.cells #[.string u0, .int .i64 u2, .string u1, .slice u3.1 u3.2.1 u3.2.2, .slice u4.1 u4.2.1 u4.2.2, .slice u5.1 u5.2.1 u5.2.2] 92)
    have HB4 := Lib.hid (HB3.out.trans (hbk.mono HB3.out.size))
    have HBK := Lib.hid hbk
    clear hbk
    go_upto_region 9 with (first
      | (at_lookup; refine wpList_look2_v rfl (.tmp 33) (.tmp 34) 83 92 rfl lawI Tryz.underlying83 (Tryz.zeroValue92 _) M1 l.length F1 rfl H3.out.al.m1.v i rfl HKI.out (.agg #[.string u0, .int .i64 u2, .string u1, .slice u3.1 u3.2.1 u3.2.2, .slice u4.1 u4.2.1 u4.2.2, .slice u5.1 u5.2.1 u5.2.2]) ok HZ.out (by rw [HIF.out]; exact HOK.out) ?_)
      | go_in)
    generalize w3.alloc (.cells #[.string u0, .int .i64 u2, .string u1, .slice u3.1 u3.2.1 u3.2.2, .slice u4.1 u4.2.1 u4.2.2, .slice u5.1 u5.2.1 u5.2.2] 92) = w4 at *
    have H4 := Lib.hid (H.out.below HB4.out)
    clear q0
    have q0 := H4.out.c0
    have hlen := fun ty => mapz_len H4.out.al.m1 Tryz.underlying83 ty
    have hs34 := HBK.out.size
    have hs4 := HB4.out.size
    by_cases hmany : ok = false ∧ 1000 ≤ l.length
    · obtain ⟨rfl, hm⟩ := hmany
      have FIN := Lib.hid (PutsP.stay H.out (PutR.many HR.out HP.out (by cases hg : get l i with | none => rfl | some k => have := HOK.out; rw [hg] at this; cases this) hm) HB4.out)
      have hm' : (1000 : Int) ≤ (l.length : Int) := by omega
      go_wp2
      go_ret
      exact FIN.out
    · have hput : PutR l i s 0 (put l i ⟨s, q, needs q⟩) := PutR.ok HR.out HP.out (by
        rw [HOK.out]
        cases ok with
        | true => exact .inl rfl
        | false => exact .inr (by have : ¬ 1000 ≤ l.length := fun h => hmany ⟨rfl, h⟩; omega))
      have HPUT := Lib.hid hput
      have hlt : ok = true ∨ ¬ (1000 : Int) ≤ (l.length : Int) := by
        cases ok with
        | true => exact .inl rfl
        | false => exact .inr (by have : ¬ 1000 ≤ l.length := fun h => hmany ⟨rfl, h⟩; omega)
      clear hmany hput
      have Hcells : Hid (∀ wx, Below w4.heap.size w4 wx → wx.cell? ⟨w2.heap.size, 0, none⟩ = some (.int .i64 qk) ∧ wx.cell? ⟨w2.heap.size, 1, none⟩ = some (.string qn) ∧ wx.cell? ⟨w2.heap.size, 2, none⟩ = some (.slice A1 n1 c1) ∧ wx.cell? ⟨w2.heap.size, 3, none⟩ = some (.slice A2 n2 c2)) := Lib.hid (fun wx hb => by
        have hbb : Blk w4 w2.heap.size 52 #[.int .i64 qk, .string qn, .slice A1 n1 c1, .slice A2 n2 c2] := HBQ.out.below HBK.out (by omega)
        have r := hbb.below hb hbb.lt
        have r0 := r.cell 0
        have r1 := r.cell 1
        have r2 := r.cell 2
        have r3 := r.cell 3
        simp only [List.getElem?_toArray, List.getElem?_cons_zero, List.getElem?_cons_succ] at r0 r1 r2 r3
        exact ⟨r0, r1, r2, r3⟩)
      have hb24 : Below w2.heap.size w2 w4 := HBA.out.trans (HBK.out.mono HBA.out.size)
      have NE : Hid (∀ wx, Below w4.heap.size w4 wx → Calls Tryz.prog 36 #[.agg #[.int .i64 qk, .string qn, .slice A1 n1 c1, .slice A2 n2 c2]] wx (BsPost wx (needs q))) := Lib.hid (fun wx hb => needs_any q (QTx.more HQ.out.tx (by decide)) wx _ _ _ _ ((HQA.out.grow hb24).grow hb) HQ.out.wq)
      have HB24 := Lib.hid hb24
      clear hb24
      cases ok with
      | true =>
        go_upto_region 11 with (fail)
        refine wp_region_grow_tail 7 (specOf [(5, ⟨Option Addr × Nat, fun x => .slice x.1 (needs q).length x.2, fun x wz => wz.ownsRow w4.heap.size 9 1 (.slice x.1 (needs q).length x.2) (needs q).length (bsv (needs q))⟩)]) (fun wx => Below w4.heap.size w4 wx) (fun w1 w2 => Below w1.heap.size w1 w2) (by kernel_rfl) (by kernel_rfl) (stab_cons (fun x wa wb hg h => h.kept (grow_of_below hg none) (by cases hv : Value.ownBlock _ <;> simp)) (stab_nil)) ((Below.refl _ _).drew) ?_
        simp only [List.take_succ_cons, List.take_zero, List.drop_succ_cons, List.drop_zero]
        refine grow_fix 1 ?_ rfl (by rfl) (by rfl) (fun wx hC hD => ?_) ?_
        rotate_left
        · have hSw := Hcells.out wx hC
          go_simp
          all_goals with_reducible rfl
        try simp only [Act.put, List.setIfInBounds_toArray, List.set_cons_zero, List.set_cons_succ]
        refine grow_fix 2 ?_ rfl (by rfl) (by rfl) (fun wx hC hD => ?_) ?_
        rotate_left
        · have hSw := Hcells.out wx hC
          go_simp
          all_goals with_reducible rfl
        try simp only [Act.put, List.setIfInBounds_toArray, List.set_cons_zero, List.set_cons_succ]
        refine grow_fix 3 ?_ rfl (by rfl) (by rfl) (fun wx hC hD => ?_) ?_
        rotate_left
        · have hSw := Hcells.out wx hC
          go_simp
          all_goals with_reducible rfl
        try simp only [Act.put, List.setIfInBounds_toArray, List.set_cons_zero, List.set_cons_succ]
        refine grow_fix 4 ?_ rfl (by rfl) (by rfl) (fun wx hC hD => ?_) ?_
        rotate_left
        · have hSw := Hcells.out wx hC
          go_simp
          all_goals with_reducible rfl
        try simp only [Act.put, List.setIfInBounds_toArray, List.set_cons_zero, List.set_cons_succ]
        refine grow_fix 5 ?_ rfl (by rfl) (by rfl) (fun wx hC hD => ?_) ?_
        rotate_left
        · have hSw := Hcells.out wx hC
          go_simp
          all_goals with_reducible rfl
        try simp only [Act.put, List.setIfInBounds_toArray, List.set_cons_zero, List.set_cons_succ]
        refine grow_give 6 _ rfl (by rfl) (by rfl) (fun wx hC hD => ?_) (fun x => ?_)
        · refine give_enter (f := ?_) (args := ?_) ?_ ?_
          rotate_left 2
          · have hSw := Hcells.out wx hC
            go_simp
            all_goals first | with_reducible rfl | (refine ⟨?_, ?_⟩ <;> with_reducible rfl)
          refine (NE.out wx hC).mono ?_
          rintro e w9 ⟨v9, rfl, ho9, hb9⟩
          obtain ⟨A9, c9, rfl, _⟩ := own_shape ho9
          exact ⟨_, rfl, hb9, hC.trans (hb9.mono hC.size), (A9, c9), rfl, own_mono ho9 hC.size⟩
        obtain ⟨A5, c5⟩ := x
        try simp only [Act.put, List.setIfInBounds_toArray, List.set_cons_zero, List.set_cons_succ]
        refine grow_fix 7 ?_ rfl (by rfl) (by rfl) (fun wx hC hD => ?_) ?_
        rotate_left
        · have hSw := Hcells.out wx hC
          go_simp
          all_goals with_reducible rfl
        try simp only [Act.put, List.setIfInBounds_toArray, List.set_cons_zero, List.set_cons_succ]
        refine grow_nil (fun w6 hC hF => ?_)
        have hrow := upd_hit (hF 5) (by decide)
        have hC6 : Below w.heap.size w w6 := HB4.out.trans (hC.mono hs4)
        have hX6 := H.out.below hC6
        have hkq := HKK.out
        have hkv6 : KpV w6 ⟨s, q, needs q⟩ (.agg #[.string s, .int .i64 qk, .string qn, .slice A1 n1 c1, .slice A2 n2 c2, .slice A5 (needs q).length c5]) := by
          refine ⟨_, _, _, _, A5, c5, rfl, ?_, reads_sc (ReadsS.of_own hrow) (by decide)⟩
          exact qf_chg HF.out (O := fun _ => False) (Chg.of_new (HB24.out.trans (hC.mono HB24.out.size))) (fun _ h => h.elim)
        have CP := Lib.hid (put_any i ⟨s, q, needs q⟩ _ HR.out ⟨HP.out, rfl⟩ hkv6 hX6 (by omega) hcn)
        have HC6 := Lib.hid hC6
        clear hF hC hrow hC6 hX6 hkq hkv6
        try simp only [List.drop_succ_cons, List.drop_zero]
        go_wp2_with fail
        refine CP.out.mono ?_
        rintro e w7 ⟨rfl, F1b, F2b, hX7, hC7, hO7⟩
        have FIN : Hid (PutsP w X cn M1 M2 F2 l i s (.returned (.int .i64 0)) w7) := Lib.hid ⟨0, _, F1b, F2b, HPUT.out, rfl, hX7, (Chg.of_new HC6.out).trans hC7 (fun x hx => .inl hx), fun b hb => (hO7 b hb).imp id (fun h => by have := HC6.out.size; omega)⟩
        clear hX7 hC7 hO7 CP
        go_wp2
        go_ret
        exact FIN.out
      | false =>
        have hlt2 : ¬ (1000 : Int) ≤ (l.length : Int) := by
          rcases hlt with h | h
          · cases h
          · exact h
        clear hlt
        go_upto_region 11 with (fail)
        refine wp_region_grow_tail 7 (specOf [(5, ⟨Option Addr × Nat, fun x => .slice x.1 (needs q).length x.2, fun x wz => wz.ownsRow w4.heap.size 9 1 (.slice x.1 (needs q).length x.2) (needs q).length (bsv (needs q))⟩)]) (fun wx => Below w4.heap.size w4 wx) (fun w1 w2 => Below w1.heap.size w1 w2) (by kernel_rfl) (by kernel_rfl) (stab_cons (fun x wa wb hg h => h.kept (grow_of_below hg none) (by cases hv : Value.ownBlock _ <;> simp)) (stab_nil)) ((Below.refl _ _).drew) ?_
        simp only [List.take_succ_cons, List.take_zero, List.drop_succ_cons, List.drop_zero]
        refine grow_fix 1 ?_ rfl (by rfl) (by rfl) (fun wx hC hD => ?_) ?_
        rotate_left
        · have hSw := Hcells.out wx hC
          go_simp
          all_goals with_reducible rfl
        try simp only [Act.put, List.setIfInBounds_toArray, List.set_cons_zero, List.set_cons_succ]
        refine grow_fix 2 ?_ rfl (by rfl) (by rfl) (fun wx hC hD => ?_) ?_
        rotate_left
        · have hSw := Hcells.out wx hC
          go_simp
          all_goals with_reducible rfl
        try simp only [Act.put, List.setIfInBounds_toArray, List.set_cons_zero, List.set_cons_succ]
        refine grow_fix 3 ?_ rfl (by rfl) (by rfl) (fun wx hC hD => ?_) ?_
        rotate_left
        · have hSw := Hcells.out wx hC
          go_simp
          all_goals with_reducible rfl
        try simp only [Act.put, List.setIfInBounds_toArray, List.set_cons_zero, List.set_cons_succ]
        refine grow_fix 4 ?_ rfl (by rfl) (by rfl) (fun wx hC hD => ?_) ?_
        rotate_left
        · have hSw := Hcells.out wx hC
          go_simp
          all_goals with_reducible rfl
        try simp only [Act.put, List.setIfInBounds_toArray, List.set_cons_zero, List.set_cons_succ]
        refine grow_fix 5 ?_ rfl (by rfl) (by rfl) (fun wx hC hD => ?_) ?_
        rotate_left
        · have hSw := Hcells.out wx hC
          go_simp
          all_goals with_reducible rfl
        try simp only [Act.put, List.setIfInBounds_toArray, List.set_cons_zero, List.set_cons_succ]
        refine grow_give 6 _ rfl (by rfl) (by rfl) (fun wx hC hD => ?_) (fun x => ?_)
        · refine give_enter (f := ?_) (args := ?_) ?_ ?_
          rotate_left 2
          · have hSw := Hcells.out wx hC
            go_simp
            all_goals first | with_reducible rfl | (refine ⟨?_, ?_⟩ <;> with_reducible rfl)
          refine (NE.out wx hC).mono ?_
          rintro e w9 ⟨v9, rfl, ho9, hb9⟩
          obtain ⟨A9, c9, rfl, _⟩ := own_shape ho9
          exact ⟨_, rfl, hb9, hC.trans (hb9.mono hC.size), (A9, c9), rfl, own_mono ho9 hC.size⟩
        obtain ⟨A5, c5⟩ := x
        try simp only [Act.put, List.setIfInBounds_toArray, List.set_cons_zero, List.set_cons_succ]
        refine grow_fix 7 ?_ rfl (by rfl) (by rfl) (fun wx hC hD => ?_) ?_
        rotate_left
        · have hSw := Hcells.out wx hC
          go_simp
          all_goals with_reducible rfl
        try simp only [Act.put, List.setIfInBounds_toArray, List.set_cons_zero, List.set_cons_succ]
        refine grow_nil (fun w6 hC hF => ?_)
        have hrow := upd_hit (hF 5) (by decide)
        have hC6 : Below w.heap.size w w6 := HB4.out.trans (hC.mono hs4)
        have hX6 := H.out.below hC6
        have hkq := HKK.out
        have hkv6 : KpV w6 ⟨s, q, needs q⟩ (.agg #[.string s, .int .i64 qk, .string qn, .slice A1 n1 c1, .slice A2 n2 c2, .slice A5 (needs q).length c5]) := by
          refine ⟨_, _, _, _, A5, c5, rfl, ?_, reads_sc (ReadsS.of_own hrow) (by decide)⟩
          exact qf_chg HF.out (O := fun _ => False) (Chg.of_new (HB24.out.trans (hC.mono HB24.out.size))) (fun _ h => h.elim)
        have CP := Lib.hid (put_any i ⟨s, q, needs q⟩ _ HR.out ⟨HP.out, rfl⟩ hkv6 hX6 (by omega) hcn)
        have HC6 := Lib.hid hC6
        clear hF hC hrow hC6 hX6 hkq hkv6
        try simp only [List.drop_succ_cons, List.drop_zero]
        go_wp2_with fail
        refine CP.out.mono ?_
        rintro e w7 ⟨rfl, F1b, F2b, hX7, hC7, hO7⟩
        have FIN : Hid (PutsP w X cn M1 M2 F2 l i s (.returned (.int .i64 0)) w7) := Lib.hid ⟨0, _, F1b, F2b, HPUT.out, rfl, hX7, (Chg.of_new HC6.out).trans hC7 (fun x hx => .inl hx), fun b hb => (hO7 b hb).imp id (fun h => by have := HC6.out.size; omega)⟩
        clear hX7 hC7 hO7 CP
        go_wp2
        go_ret
        exact FIN.out
end
/-- More than one drop. -/
def dropsL (l : List (Int × Kp)) (ids : List Int) : List (Int × Kp) := ids.foldl drop l
def cntD (l : List (Int × Kp)) : List Int → Nat
  | [] => 0
  | i :: ids => (if (get l i).isSome = true then 1 else 0) + cntD (drop l i) ids
theorem dropsL_snoc (l : List (Int × Kp)) (ids : List Int) (i : Int) : dropsL l (ids ++ [i]) = drop (dropsL l ids) i := by simp [dropsL]
theorem cntD_snoc : ∀ (ids : List Int) (l : List (Int × Kp)) (i : Int), cntD l (ids ++ [i]) = cntD l ids + (if (get (dropsL l ids) i).isSome = true then 1 else 0)
  | [], l, i => by cases h : (get l i).isSome <;> simp [cntD, dropsL, h]
  | j :: ids, l, i => by
    have ih := cntD_snoc ids (drop l j) i
    rw [List.cons_append, cntD, cntD, ih]
    have e : dropsL l (j :: ids) = dropsL (drop l j) ids := rfl
    rw [e]
    omega
theorem cntD_le : ∀ (ids : List Int) (l : List (Int × Kp)), cntD l ids ≤ ids.length
  | [], l => Nat.le_refl _
  | i :: ids, l => by
    have ih := cntD_le ids (drop l i)
    rw [cntD, List.length_cons]
    split <;> omega
theorem dropsL_few : ∀ (ids : List Int) (l : List (Int × Kp)), UpI l → (dropsL l ids).length ≤ l.length ∧ UpI (dropsL l ids)
  | [], l, hu => ⟨Nat.le_refl _, hu⟩
  | i :: ids, l, hu => by
    have ih := dropsL_few ids (drop l i) (drop_up hu i)
    have := drop_le hu i
    exact ⟨by have := ih.1; have e : dropsL l (i :: ids) = dropsL (drop l i) ids := rfl; rw [e]; omega, ih.2⟩
/-- What Drop hands back, and leaves. -/
def DropsP (w : World) (X cn M1 M2 : Nat) (F2 : ByteArray → Option Nat) (l : List (Int × Kp)) (ids : List Int) (e : Ending) (w' : World) : Prop :=
  ∃ F1', e = .returned (.int .i64 (cntD l ids : Nat)) ∧ AlX w' X cn M1 M2 F1' F2 (dropsL l ids) ∧ Chg (Own M1 M2 F2) w w'
set_option maxHeartbeats 1600000 in
theorem drops_any {w : World} {X cn M1 M2 : Nat} {F1 : Int → Option Value} {F2 : ByteArray → Option Nat} {l : List (Int × Kp)} (A : Option Addr) (n c : Nat) (ids : List Int) (hR : ReadsS w (Sc w) 1 A n (itv ids)) (hn : ids.length = n) (hn2 : n ≤ 4294967296) (hw : ∀ i ∈ ids, I64 i) (h : AlX w X cn M1 M2 F1 F2 l) :
    Calls Tryz.prog 12 #[.pointer (some ⟨X, 0, none⟩), .slice A n c] w (DropsP w X cn M1 M2 F2 l ids) := by
  have HRd := Lib.hid hR
  have H := Lib.hid h
  have HW := Lib.hid hw
  have HN := Lib.hid hn
  clear hR h hw hn
  go_enter Tryz.func12, Tryz.ntmps12
  go_wp2
  go_loopw [5, 10] (fun m i wr => ∃ (k : Nat) (F1' : Int → Option Value), k ≤ n ∧ i = .int .i64 k ∧ m = .int .i64 (cntD l (ids.take k) : Nat) ∧ Hid (AlX wr X cn M1 M2 F1' F2 (dropsL l (ids.take k))) ∧ Hid (Chg (Own M1 M2 F2) w wr)) (fun _ i _ => n - (intOf i).toNat)
  case atStart => exact ⟨0, F1, Nat.zero_le _, rfl, rfl, Lib.hid (by simpa [dropsL] using H.out), Lib.hid (Chg.refl _ _)⟩
  case round =>
    obtain ⟨k, F1', hk, rfl, rfl, hX, hC⟩ := hrel
    by_cases hlt : k < n
    · have hkl : k < ids.length := by rw [HN.out]; exact hlt
      have hrd := reads_chg HRd.out hC.out H.out.al.noSc
      obtain ⟨b, o, rfl, hbS, hcl⟩ := hrd.2 (by omega)
      have hc1 := hcl k _ (itv_get ids k hkl)
      have hts : ids.take (k + 1) = ids.take k ++ [ids[k]] := List.take_succ_eq_append_getElem hkl
      have hds := dropsL_snoc l (ids.take k) ids[k]
      have hcs := cntD_snoc (ids.take k) l ids[k]
      rw [← hts] at hds hcs
      have hwx := HW.out ids[k] (List.getElem_mem hkl)
      have hcl2 := cntD_le (ids.take k) l
      rw [List.length_take] at hcl2
      have hcb : cntD l (ids.take k) ≤ k := by omega
      have HDS := Lib.hid hds
      have HCS := Lib.hid hcs
      have c1 := none_no hX.out.c0
      have CD := Lib.hid (drop_any ids[k] hwx hX.out)
      clear hrd hbS hcl hts hds hcs hwx hcl2
      generalize dropsL l (ids.take k) = m1 at *
      generalize cntD l (ids.take k) = t1 at *
      generalize ids[k] = x at *
      cases hs : (get m1 x).isSome with
      | true =>
        rw [hs] at HCS
        have hsF : Hid ((get m1 x).isSome = true) := Lib.hid hs
        clear hs
        go_wp2_with (first | (go_at_call 33; refine c1.mono ?_; rintro e w2 ⟨rfl, rfl⟩) | (go_at_call 37; refine CD.out.mono ?_; rintro e w3 ⟨rfl, F1b, hX3, hC3⟩; rw [hsF.out]; have HX3 := Lib.hid hX3; have HC3 := Lib.hid hC3; clear hX3 hC3))
        go_roundw
        case rel => exact ⟨k + 1, F1b, by omega, by go_num, by rw [HCS.out]; simp, by rw [HDS.out]; exact HX3, Lib.hid (hC.out.trans HC3.out (fun x hx => .inl hx))⟩
        case measure => simp [intOf]; omega
      | false =>
        rw [hs] at HCS
        have hsF : Hid ((get m1 x).isSome = false) := Lib.hid hs
        clear hs
        go_wp2_with (first | (go_at_call 33; refine c1.mono ?_; rintro e w2 ⟨rfl, rfl⟩) | (go_at_call 37; refine CD.out.mono ?_; rintro e w3 ⟨rfl, F1b, hX3, hC3⟩; rw [hsF.out]; have HX3 := Lib.hid hX3; have HC3 := Lib.hid hC3; clear hX3 hC3))
        go_roundw
        case rel => exact ⟨k + 1, F1b, by omega, by go_num, by rw [HCS.out]; simp, by rw [HDS.out]; exact HX3, Lib.hid (hC.out.trans HC3.out (fun x hx => .inl hx))⟩
        case measure => simp [intOf]; omega
    · obtain rfl : k = n := by omega
      have e1 : ids.take k = ids := by rw [← HN.out]; exact List.take_length
      rw [e1] at hX
      rw [e1]
      have FIN : Hid (DropsP w X cn M1 M2 F2 l ids (.returned (.int .i64 (cntD l ids : Nat))) wr) := Lib.hid ⟨F1', rfl, hX.out, hC.out⟩
      clear hX hC
      go_wp2
      go_ret
      exact FIN.out
end Go.Proofs.YtlfpfkallgkjdaaGreat.Al
end

section
/- Kept queries whose maps lie above a base: Put, Drop. (No walk.) -/
namespace Go.Proofs.YtlfpfkallgkjdaaGreat.Al
open Go.RowKit Go.Maps Go.Proofs.YtlfpfkallgkjdaaGreat Go.Proofs.YtlfpfkallgkjdaaGreat.Ut Go.Proofs.YtlfpfkallgkjdaaGreat.Tk Go.Proofs.YtlfpfkallgkjdaaGreat.Qy Go.Proofs.YtlfpfkallgkjdaaGreat.Qp Go.Proofs.YtlfpfkallgkjdaaGreat.Ev Go.Proofs.YtlfpfkallgkjdaaGreat.Mv
set_option linter.unusedVariables false
set_option linter.unusedSimpArgs false
set_option maxRecDepth 20000

/-- Of what was there, maps above the base alone may be touched. -/
def Frm (n0 : Nat) (w w' : World) : Prop := Chg (fun b => n0 ≤ b ∧ Mo w b) w w'
theorem Frm.refl (n0 : Nat) (w : World) : Frm n0 w w := Chg.refl _ _
theorem Frm.new {n0 : Nat} {w w' : World} (h : Below w.heap.size w w') : Frm n0 w w' := Chg.of_new h
theorem Frm.mo {n0 : Nat} {w w' : World} (h : Frm n0 w w') {b : Nat} (hb : b < w.heap.size) (hm : Mo w' b) : Mo w b := by
  refine Classical.byContradiction fun hn => hn (hm.same (h.block b hb (fun e => hn e.2)).symm)
theorem Frm.trans {n0 : Nat} {w w1 w2 : World} (h : Frm n0 w w1) (k : Frm n0 w1 w2) : Frm n0 w w2 := Chg.trans h k (fun b hb => by
  by_cases hl : b < w.heap.size
  · exact .inl ⟨hb.1, h.mo hl hb.2⟩
  · exact .inr (by omega))
theorem Frm.size {n0 : Nat} {w w' : World} (h : Frm n0 w w') : w.heap.size ≤ w'.heap.size := Chg.size h
theorem Frm.noSc {n0 : Nat} {w : World} : ∀ b, (n0 ≤ b ∧ Mo w b) → ¬ Sc w b := fun b hb => hb.2.not
theorem Frm.blk {n0 : Nat} {w w' : World} {b : Nat} {T : TypeId} {cs : Array Value} (h : Frm n0 w w') (k : Blk w b T cs) : Blk w' b T cs := blk_chg k h Frm.noSc
theorem Frm.reads {n0 : Nat} {w w' : World} {k n : Nat} {A : Option Addr} {xs : List Value} (h : Frm n0 w w') (r : ReadsS w (Sc w) k A n xs) : ReadsS w' (Sc w') k A n xs := reads_chg r h Frm.noSc
theorem Frm.below {n0 : Nat} {w w' : World} (h : Frm n0 w w') (hn : n0 ≤ w.heap.size) : Below n0 w w' := Chg.below h hn (fun b hb => hb.1)
theorem Frm.more {n0 n1 : Nat} {w w' : World} (h : Frm n1 w w') (hn : n0 ≤ n1) : Frm n0 w w' := Chg.mono h (fun b _ hb => ⟨by omega, hb.2⟩)
theorem frm_own {n0 : Nat} {w w' : World} {X cn M1 M2 : Nat} {F1 : Int → Option Value} {F2 : ByteArray → Option Nat} {l : List (Int × Kp)} (h : AlX w X cn M1 M2 F1 F2 l) (ho : ∀ b, Own M1 M2 F2 b → n0 ≤ b) (hc : Chg (Own M1 M2 F2) w w') : Frm n0 w w' :=
  hc.mono (fun b _ hb => ⟨ho b hb, h.al.mo b hb⟩)
/-- Kept queries whose maps lie above a base. -/
structure AlN (n0 : Nat) (w : World) (X K : Nat) (l : List (Int × Kp)) : Prop where
  ex : ∃ cn M1 M2 F1 F2, cn ≤ K ∧ AlX w X cn M1 M2 F1 F2 l ∧ ∀ b, Own M1 M2 F2 b → n0 ≤ b
section
variable {n0 : Nat} {w w' : World} {X K : Nat} {l : List (Int × Kp)}
theorem AlN.new_below (h : AlN n0 w X K l) (hb : Below w.heap.size w w') : AlN n0 w' X K l := by
  obtain ⟨cn, M1, M2, F1, F2, h1, h2, h3⟩ := h.ex
  exact ⟨cn, M1, M2, F1, F2, h1, h2.below hb, h3⟩
theorem AlN.base {n1 : Nat} (h : AlN n0 w X K l) (hn : n1 ≤ n0) : AlN n1 w X K l := by
  obtain ⟨cn, M1, M2, F1, F2, h1, h2, h3⟩ := h.ex
  exact ⟨cn, M1, M2, F1, F2, h1, h2, fun b hb => by have := h3 b hb; omega⟩
theorem AlN.up (h : AlN n0 w X K l) : UpI l := by
  obtain ⟨cn, M1, M2, F1, F2, h1, h2, h3⟩ := h.ex
  exact h2.al.up
theorem AlN.ok (h : AlN n0 w X K l) : ∀ x ∈ l, KOk x.2 := by
  obtain ⟨cn, M1, M2, F1, F2, h1, h2, h3⟩ := h.ex
  exact h2.al.ok
theorem AlN.rng (h : AlN n0 w X K l) : ∀ x ∈ l, 0 ≤ x.1 ∧ x.1 ≤ 999999 := by
  obtain ⟨cn, M1, M2, F1, F2, h1, h2, h3⟩ := h.ex
  exact h2.al.rng
/-- What Put hands back. -/
def PutN (n0 : Nat) (w : World) (X K : Nat) (l : List (Int × Kp)) (i : Int) (s : ByteArray) (e : Ending) (w' : World) : Prop := ∃ E l', PutR l i s E l' ∧ e = .returned (.int .i64 E) ∧ AlN n0 w' X (K + 1) l' ∧ Frm n0 w w'
theorem put_n (h : AlN n0 w X K l) (hn : n0 ≤ w.heap.size) (i : Int) (hi : I64 i) (s : ByteArray) (hll : l.length ≤ 1000) (hK : K ≤ 4294967296) :
    Calls Tryz.prog 10 #[.pointer (some ⟨X, 0, none⟩), .int .i64 i, .string s] w (PutN n0 w X K l i s) := by
  obtain ⟨cn, M1, M2, F1, F2, h1, h2, h3⟩ := h.ex
  refine (puts_any i hi s h2 hll (by omega)).mono ?_
  rintro e w' ⟨E, l', F1', F2', hp, rfl, hX, hc, ho⟩
  exact ⟨E, l', hp, rfl, ⟨cn + 1, M1, M2, F1', F2', by omega, hX, fun b hb => by
    rcases ho b hb with h | h
    · exact h3 b h
    · omega⟩, frm_own h2 h3 hc⟩
/-- What Drop hands back. -/
def DropN (n0 : Nat) (w : World) (X K : Nat) (l : List (Int × Kp)) (ids : List Int) (e : Ending) (w' : World) : Prop := e = .returned (.int .i64 (cntD l ids : Nat)) ∧ AlN n0 w' X K (dropsL l ids) ∧ Frm n0 w w'
theorem drop_n (h : AlN n0 w X K l) (A : Option Addr) (n c : Nat) (ids : List Int) (hR : ReadsS w (Sc w) 1 A n (itv ids)) (hn : ids.length = n) (hn2 : n ≤ 4294967296) (hw : ∀ i ∈ ids, I64 i) :
    Calls Tryz.prog 12 #[.pointer (some ⟨X, 0, none⟩), .slice A n c] w (DropN n0 w X K l ids) := by
  obtain ⟨cn, M1, M2, F1, F2, h1, h2, h3⟩ := h.ex
  refine (drops_any A n c ids hR hn hn2 hw h2).mono ?_
  rintro e w' ⟨F1', rfl, hX, hc⟩
  exact ⟨rfl, ⟨cn, M1, M2, F1', F2, h1, hX, h3⟩, frm_own h2 h3 hc⟩
theorem len_n (h : AlN n0 w X K l) : Calls Tryz.prog 11 #[.pointer (some ⟨X, 0, none⟩)] w fun e w' => e = .returned (.int .i64 (l.length : Nat)) ∧ w' = w := by
  obtain ⟨cn, M1, M2, F1, F2, h1, h2, h3⟩ := h.ex
  exact len_any h2
theorem query_n (h : AlN n0 w X K l) (i : Int) (hi : I64 i) : Calls Tryz.prog 25 #[.pointer (some ⟨X, 0, none⟩), .int .i64 i] w fun e w' => e = .returned (.tuple #[.string (textOf (get l i)), .bool (get l i).isSome]) ∧ Below w.heap.size w w' := by
  obtain ⟨cn, M1, M2, F1, F2, h1, h2, h3⟩ := h.ex
  exact query_any i hi h2
theorem ids_n (h : AlN n0 w X K l) (hll : l.length ≤ 1000) : Calls Tryz.prog 27 #[.pointer (some ⟨X, 0, none⟩)] w (NumsP w (l.map (·.1))) := by
  obtain ⟨cn, M1, M2, F1, F2, h1, h2, h3⟩ := h.ex
  exact ids_any h2 (by omega)
end
/-- What New hands back. -/
def NewN (w : World) (e : Ending) (w' : World) : Prop := ∃ X, e = .returned (.pointer (some ⟨X, 0, none⟩)) ∧ AlN w.heap.size w' X 0 [] ∧ Below w.heap.size w w' ∧ w.heap.size ≤ X
theorem new_n (w : World) : Calls Tryz.prog 9 #[] w (NewN w) := by
  refine (new_any w).mono ?_
  rintro e w' ⟨X, M1, M2, rfl, hX, hb, h1, h2, h3⟩
  exact ⟨X, rfl, ⟨0, M1, M2, _, _, Nat.le_refl _, hX, fun b hb => by
    rcases hb with rfl | rfl | ⟨s, hs⟩
    · exact h1
    · exact h2
    · cases hs⟩, hb, h3⟩
end Go.Proofs.YtlfpfkallgkjdaaGreat.Al
end

section
/- A stable sort: plain. (No program in sight.) -/
namespace Go.Proofs.YtlfpfkallgkjdaaGreat.Ss
open Go.Sort
variable {α : Type} [Inhabited α]

/-- Two stretches of n, exchanged. -/
def swpR (d : Array α) (a b n x : Nat) : α := if a ≤ x ∧ x < a + n then d[x + (b - a)]! else if b ≤ x ∧ x < b + n then d[x - (b - a)]! else d[x]!
theorem swpR_zero (d : Array α) (a b x : Nat) : swpR d a b 0 x = d[x]! := by
  unfold swpR
  rw [if_neg (by omega), if_neg (by omega)]
theorem swp_get (d : Array α) (i j x : Nat) (hi : i < d.size) (hj : j < d.size) : (swp d i j)[x]! = if x = j then d[i]! else if x = i then d[j]! else d[x]! := by
  by_cases e1 : x = j
  · subst e1
    rw [if_pos rfl, swp_right d i x hj]
  · rw [if_neg e1]
    by_cases e2 : x = i
    · subst e2
      rw [if_pos rfl, swp_left d x j hi e1]
    · rw [if_neg e2, swp_other d i j x e2 e1]
theorem swpR_step (d dk : Array α) (a b k : Nat) (hab : a + k < b) (hs : dk.size = d.size) (hb : b + k < d.size) (h : ∀ x, dk[x]! = swpR d a b k x) : ∀ x, (swp dk (a + k) (b + k))[x]! = swpR d a b (k + 1) x := by
  intro x
  rw [swp_get dk (a + k) (b + k) x (by omega) (by omega), h, h, h]
  unfold swpR
  by_cases e1 : x = b + k
  · subst e1
    rw [if_pos rfl, if_neg (by omega), if_neg (by omega), if_neg (by omega), if_pos (by omega)]
    congr 1
    omega
  · rw [if_neg e1]
    by_cases e2 : x = a + k
    · subst e2
      rw [if_pos rfl, if_neg (by omega), if_neg (by omega), if_pos (by omega)]
      congr 1
      omega
    · rw [if_neg e2]
      by_cases c1 : a ≤ x ∧ x < a + k
      · rw [if_pos c1, if_pos (by omega)]
      · rw [if_neg c1]
        by_cases c2 : b ≤ x ∧ x < b + k
        · rw [if_pos c2, if_neg (by omega), if_pos (by omega)]
        · rw [if_neg c2, if_neg (by omega), if_neg (by omega)]
/-- Two stretches that lie side by side, changed about. -/
def rotR (d : Array α) (a m b x : Nat) : α := if a ≤ x ∧ x < a + (b - m) then d[x + (m - a)]! else if a + (b - m) ≤ x ∧ x < b then d[x - (b - m)]! else d[x]!
theorem rot_gt (d d' : Array α) (m i j : Nat) (hji : j < i) (him : i ≤ m) (h : ∀ x, d'[x]! = swpR d (m - i) m j x) (x : Nat) : rotR d' (m - (i - j)) m (m + j) x = rotR d (m - i) m (m + j) x := by
  unfold rotR
  simp only [h]
  unfold swpR
  repeat' split
  all_goals first | (exfalso; omega) | rfl | (congr 1; omega)
theorem rot_lt (d d' : Array α) (m i j : Nat) (hij : i < j) (him : i ≤ m) (h : ∀ x, d'[x]! = swpR d (m - i) (m + j - i) i x) (x : Nat) : rotR d' (m - i) m (m + (j - i)) x = rotR d (m - i) m (m + j) x := by
  unfold rotR
  simp only [h]
  unfold swpR
  repeat' split
  all_goals first | (exfalso; omega) | rfl | (congr 1; omega)
theorem rot_eq (d : Array α) (m i : Nat) (him : i ≤ m) (x : Nat) : swpR d (m - i) m i x = rotR d (m - i) m (m + i) x := by
  unfold rotR swpR
  repeat' split
  all_goals first | (exfalso; omega) | rfl | (congr 1; omega)
end Go.Proofs.YtlfpfkallgkjdaaGreat.Ss
end

section
/- slices.swapRangeCmpFunc at elements of two cells: the walk. -/
namespace Go.Proofs.YtlfpfkallgkjdaaGreat.Ss
open Go.Shelf Go.RowKit Go.Lib Go.Sort
set_option maxRecDepth 20000
set_option linter.unusedVariables false
set_option linter.unusedSimpArgs false
variable {α : Type} [Inhabited α] {enc : α → List Value}

set_option maxHeartbeats 400000 in
theorem swapRange_any (k : Nat) (hk2 : k = 2) (fv : Value) (blk off cap a b n : Nat) (d0 d : Array α) (w0 w : World) (R : RowK enc k w0 blk off d0) (hs : d.size = d0.size) (S : SWK enc k w0 blk off d w) (hab : a + n ≤ b) (hb : b + n ≤ d.size) (hsz : d.size < 1099511627776) :
    Calls Tryz.prog 193 #[.slice (some ⟨blk, off, none⟩) d.size cap, .int .i64 a, .int .i64 b, .int .i64 n, fv] w fun e w' =>
      e = .returned (.tuple #[]) ∧ ∃ d', SWK enc k w0 blk off d' w' ∧ d'.size = d.size ∧ PermIn a (b + n) d d' ∧ ∀ x, d'[x]! = swpR d a b n x := by
  have zE : ∀ w, (Go.sizeOf 105).run Tryz.prog w = .ok k w := by rw [hk2]; exact Tryz.sizeOf105
  have mixed : Tryz.prog.follows Departure.mixedOrders = true := by kernel_rfl
  have S0 : Aside (SWK enc k w0 blk off d w) := S
  clear S hk2
  go_enter Tryz.func193, Tryz.ntmps193
  go_wp2
  go_loopw [10] (fun i wr => ∃ (j : Nat) (dk : Array α), j ≤ n ∧ i = .int .i64 (j : Nat) ∧ Aside (SWK enc k w0 blk off dk wr) ∧ dk.size = d.size ∧ Hid (PermIn a (b + n) d dk) ∧ Hid (∀ x, dk[x]! = swpR d a b j x)) (fun i _ => n - (intOf i).toNat)
  case atStart => exact ⟨0, d, Nat.zero_le _, rfl, S0, rfl, Lib.hid (permIn_refl _ _ _), Lib.hid (fun x => (swpR_zero d a b x).symm)⟩
  case round =>
    clear S0
    obtain ⟨j, dk, hj, rfl, S1, hds, HP, HX⟩ := hrel
    by_cases hlt : j < n
    · have hji : (j : Int) < (n : Int) := by omega
      have S2 : Aside (SWK enc k w0 blk off (swp dk (a + j) (b + j)) ((wr.drew.setCells blk (off + (a + j) * k) (enc dk[b + j]!)).setCells blk (off + (b + j) * k) (enc dk[a + j]!))) := S1.out.swapped R (a + j) (b + j) (by omega) (by omega)
      have l44a := S1.out.ld1 R (by omega) Tryz.prog (a + j) (by omega)
      have l44b := S1.out.ld1 R (by omega) Tryz.prog (b + j) (by omega)
      have s44a := S1.out.st1 R (by omega) Tryz.prog (a + j) (by omega) dk[b + j]!
      have s44b := S1.out.st2 R (by omega) Tryz.prog (a + j) (b + j) (by omega) (by omega) dk[b + j]! dk[a + j]!
      have n44a : (enc dk[a + j]!).length = k := R.hk _
      have n44b : (enc dk[b + j]!).length = k := R.hk _
      have HP2 : Hid (PermIn a (b + n) d (swp dk (a + j) (b + j))) := Lib.hid (permIn_trans _ _ _ _ _ HP.out (swp_permIn dk a (b + n) (a + j) (b + j) (by omega) (by omega) (by omega) (by omega) (by omega)))
      have HX2 := Lib.hid (swpR_step d dk a b j (by omega) hds (by omega) HX.out)
      generalize enc dk[a + j]! = cI44 at S2 l44a s44b n44a
      generalize enc dk[b + j]! = cJ44 at S2 l44b s44a s44b n44b
      have ea44 : (((a : Int) + (j : Int))).toNat = a + j := by omega
      have ra44 : IntKind.i64.wrap ((a : Int) + (j : Int)) = (a : Int) + (j : Int) := by rw [IntKind.wrap_i64]; omega
      have rb44 : IntKind.i64.wrap ((b : Int) + (j : Int)) = (b : Int) + (j : Int) := by rw [IntKind.wrap_i64]; omega
      have pa44 : (0 : Int) ≤ (a : Int) + (j : Int) := by omega
      have pb44 : (0 : Int) ≤ (b : Int) + (j : Int) := by omega
      have ba44 : (a : Int) + (j : Int) < (d.size : Int) := by omega
      have bb44 : (b : Int) + (j : Int) < (d.size : Int) := by omega
      have eb44 : (((b : Int) + (j : Int))).toNat = b + j := by omega
      clear S1 HP HX
      go_wp2_with fail
      go_big_region_o
      clear l44a l44b s44a s44b
      generalize (wr.drew.setCells blk (off + (a + j) * k) cJ44).setCells blk (off + (b + j) * k) cI44 = w2 at S2 ⊢
      go_wp2
      go_roundw
      case rel => exact ⟨j + 1, swp dk (a + j) (b + j), by omega, by go_num, S2, by rw [size_swp]; exact hds, HP2, HX2⟩
      case measure => simp [intOf]; omega
    · obtain rfl : j = n := by omega
      go_wp2
      go_end0
      exact ⟨rfl, dk, S1.out, hds, HP.out, HX.out⟩
end Go.Proofs.YtlfpfkallgkjdaaGreat.Ss
end

section
/- slices.rotateCmpFunc at elements of two cells: the walk. -/
namespace Go.Proofs.YtlfpfkallgkjdaaGreat.Ss
open Go.Shelf Go.RowKit Go.Lib Go.Sort
set_option maxRecDepth 20000
set_option linter.unusedVariables false
set_option linter.unusedSimpArgs false
variable {α : Type} [Inhabited α] {enc : α → List Value}

set_option maxHeartbeats 400000 in
theorem rotate_any (k : Nat) (hk2 : k = 2) (fv : Value) (blk off cap a m b : Nat) (d0 d : Array α) (w0 w : World) (R : RowK enc k w0 blk off d0) (hs : d.size = d0.size) (S : SWK enc k w0 blk off d w) (ham : a < m) (hmb : m < b) (hb : b ≤ d.size) (hsz : d.size < 1099511627776) :
    Calls Tryz.prog 177 #[.slice (some ⟨blk, off, none⟩) d.size cap, .int .i64 a, .int .i64 m, .int .i64 b, fv] w fun e w' =>
      e = .returned (.tuple #[]) ∧ ∃ d', SWK enc k w0 blk off d' w' ∧ d'.size = d.size ∧ PermIn a b d d' ∧ ∀ x, d'[x]! = rotR d a m b x := by
  have S0 : Aside (SWK enc k w0 blk off d w) := S
  have HK := Lib.hid hk2
  have HS := Lib.hid hs
  clear S hk2 hs
  go_enter Tryz.func177, Tryz.ntmps177
  go_wp2
  go_loopw [10, 11] (fun v10 v11 wr => ∃ (i j : Nat) (dk : Array α), 0 < i ∧ 0 < j ∧ a + i ≤ m ∧ m + j ≤ b ∧ v10 = .int .i64 (i : Nat) ∧ v11 = .int .i64 (j : Nat) ∧ Aside (SWK enc k w0 blk off dk wr) ∧ dk.size = d.size ∧ Hid (PermIn a b d dk) ∧ Hid (∀ x, rotR dk (m - i) m (m + j) x = rotR d a m b x)) (fun v10 v11 _ => (intOf v10).toNat + (intOf v11).toNat)
  case atStart => exact ⟨m - a, b - m, d, by omega, by omega, by omega, by omega, by go_num, by go_num, S0, rfl, Lib.hid (permIn_refl _ _ _), Lib.hid (fun x => by rw [show m - (m - a) = a by omega, show m + (b - m) = b by omega])⟩
  case round =>
    clear S0
    obtain ⟨i, j, dk, hi0, hj0, him, hjb, rfl, rfl, S1, hds, HP, HX⟩ := hrel
    by_cases hij : i = j
    · subst hij
      have hnn : ¬ ((i : Int) ≠ (i : Int)) := by omega
      have e1 : IntKind.i64.wrap ((m : Int) - (i : Int)) = ((m - i : Nat) : Int) := by rw [IntKind.wrap_i64]; omega
      have e2 : (m : Int) - (i : Int) = ((m - i : Nat) : Int) := by omega
      have c1 := swapRange_any k HK.out fv blk off cap (m - i) m i d0 dk w0 wr R (hds.trans HS.out) S1.out (by omega) (by omega) (by omega)
      rw [hds] at c1
      have C1 := Lib.hid c1
      clear c1 S1
      go_wp2_with fail
      try rw [e2]
      refine C1.out.mono ?_
      rintro e w2 ⟨rfl, d', S2, h1, h2, h3⟩
      have Fin : Hid (SWK enc k w0 blk off d' w2 ∧ d'.size = d.size ∧ PermIn a b d d' ∧ ∀ x, d'[x]! = rotR d a m b x) := Lib.hid ⟨S2, by omega, permIn_trans _ _ _ _ _ HP.out (permIn_mono _ _ _ _ _ _ (by omega) (by omega) (by omega) h2), fun x => by rw [h3, rot_eq _ _ _ (by omega), HX.out]⟩
      clear C1 S2 h1 h2 h3 HP HX
      go_wp2
      go_end0
      exact ⟨rfl, d', Fin.out⟩
    · have hnn : (i : Int) ≠ (j : Int) := by omega
      by_cases hgt : j < i
      · have hgi : (j : Int) < (i : Int) := by omega
        have e2 : (m : Int) - (i : Int) = ((m - i : Nat) : Int) := by omega
        have c1 := swapRange_any k HK.out fv blk off cap (m - i) m j d0 dk w0 wr R (hds.trans HS.out) S1.out (by omega) (by omega) (by omega)
        rw [hds] at c1
        have C1 := Lib.hid c1
        clear c1 S1
        go_wp2_with fail
        try rw [e2]
        refine C1.out.mono ?_
        rintro e w2 ⟨rfl, d', S2, h1, h2, h3⟩
        have S3 : Aside (SWK enc k w0 blk off d' w2) := S2
        have P3 : Hid (PermIn a b d d') := Lib.hid (permIn_trans _ _ _ _ _ HP.out (permIn_mono _ _ _ _ _ _ (by omega) (by omega) (by omega) h2))
        have X3 : Hid (∀ x, rotR d' (m - (i - j)) m (m + j) x = rotR d a m b x) := Lib.hid (fun x => by rw [rot_gt dk d' m i j hgt (by omega) h3, HX.out])
        clear C1 S2 h2 h3 HP HX
        go_wp2
        go_roundw
        case rel => exact ⟨i - j, j, d', by omega, by omega, by omega, by omega, by go_num, by go_num, S3, by omega, P3, X3⟩
        case measure => simp [intOf]; omega
      · have hgi : ¬ (j : Int) < (i : Int) := by omega
        have e2 : (m : Int) - (i : Int) = ((m - i : Nat) : Int) := by omega
        have e3 : (m : Int) + (j : Int) - (i : Int) = ((m + j - i : Nat) : Int) := by omega
        have c1 := swapRange_any k HK.out fv blk off cap (m - i) (m + j - i) i d0 dk w0 wr R (hds.trans HS.out) S1.out (by omega) (by omega) (by omega)
        rw [hds] at c1
        have C1 := Lib.hid c1
        clear c1 S1
        go_wp2_with fail
        try rw [e2]
        try rw [e3]
        refine C1.out.mono ?_
        rintro e w2 ⟨rfl, d', S2, h1, h2, h3⟩
        have S3 : Aside (SWK enc k w0 blk off d' w2) := S2
        have P3 : Hid (PermIn a b d d') := Lib.hid (permIn_trans _ _ _ _ _ HP.out (permIn_mono _ _ _ _ _ _ (by omega) (by omega) (by omega) h2))
        have X3 : Hid (∀ x, rotR d' (m - i) m (m + (j - i)) x = rotR d a m b x) := Lib.hid (fun x => by rw [rot_lt dk d' m i j (by omega) (by omega) h3, HX.out])
        clear C1 S2 h2 h3 HP HX
        go_wp2
        go_roundw
        case rel => exact ⟨i, j - i, d', by omega, by omega, by omega, by omega, by go_num, by go_num, S3, by omega, P3, X3⟩
        case measure => simp [intOf]; omega
end Go.Proofs.YtlfpfkallgkjdaaGreat.Ss
end
