/- slices.DeleteFunc at numbers, over a test that makes memory: the walk (printed by gen_alh.py). -/
import Derived.Lib.SliceRun
import Derived.Test.YtlfpfkallgkjdaaGreatPkAlertManyRow27
import Derived.Test.YtlfpfkallgkjdaaGreatAlGPk
import Derived.Test.YtlfpfkallgkjdaaGreatPkAlertManyRow21
section
namespace Go.Proofs.YtlfpfkallgkjdaaGreat.Al
open Go.RowKit Go.Maps Go.Proofs.YtlfpfkallgkjdaaGreat Go.Proofs.YtlfpfkallgkjdaaGreat.Ut Go.Proofs.YtlfpfkallgkjdaaGreat.Tk Go.Proofs.YtlfpfkallgkjdaaGreat.Qy Go.Proofs.YtlfpfkallgkjdaaGreat.Qp Go.Proofs.YtlfpfkallgkjdaaGreat.Ev Go.Proofs.YtlfpfkallgkjdaaGreat.Mv
set_option linter.unusedVariables false
set_option linter.unusedSimpArgs false
set_option maxRecDepth 20000

theorem blk_setCells {T : TypeId} {g : Nat} : ∀ (vs : List Value) (o : Nat) (w : World) (cs : Array Value), Blk w g T cs → ∃ cs', Blk (w.setCells g o vs) g T cs' ∧ cs'.size = cs.size ∧ (∀ k, k < o → cs'[k]? = cs[k]?) ∧ w.grownBy (w.setCells g o vs) (some g)
  | [], o, w, cs, h => ⟨cs, h, rfl, fun _ _ => rfl, grownBy_refl _ _⟩
  | v :: vs, o, w, cs, h => by
    obtain ⟨cs', h1, h2, h3, h4⟩ := blk_setCells vs (o + 1) (w.setCell ⟨g, o, none⟩ v) _ (h.set_ o v)
    refine ⟨cs', h1, by rw [h2]; simp, fun k hk => ?_, grownBy_trans (grownBy_set w g o v) h4⟩
    rw [h3 k (by omega), Array.getElem?_setIfInBounds]
    rw [if_neg (by omega)]
/-- Stages of a row of numbers: what is kept stands ahead, what is still to come where it was. -/
structure Stg (w wr : World) (g cap : Nat) (L K : List Int) (j : Nat) : Prop where
  ex : ∃ cs, Blk wr g 3 cs ∧ cs.size = cap ∧ (∀ k (h : k < K.length), cs[k]? = some (.int .i64 K[k])) ∧ ∀ k (h : k < L.length), j ≤ k → cs[k]? = some (.int .i64 L[k])
  gr : w.grownBy wr (some g)
theorem Stg.below {w wr w2 : World} {g cap j : Nat} {L K : List Int} (h : Stg w wr g cap L K j) (hb : Below wr.heap.size wr w2) : Stg w w2 g cap L K j := by
  obtain ⟨cs, h1, h2⟩ := h.ex
  exact ⟨⟨cs, h1.below hb h1.lt, h2⟩, grownBy_below h.gr hb⟩
theorem Stg.next {w wr : World} {g cap j : Nat} {L K : List Int} (h : Stg w wr g cap L K j) : Stg w wr g cap L K (j + 1) := by
  obtain ⟨cs, h1, h2, h3, h4⟩ := h.ex
  exact ⟨⟨cs, h1, h2, h3, fun k hk hj => h4 k hk (by omega)⟩, h.gr⟩
theorem Stg.put {w wr : World} {g cap j : Nat} {L K : List Int} (h : Stg w wr g cap L K j) (hK : K.length ≤ j) (hj : j < L.length) (hcap : L.length ≤ cap) (x : Int) : Stg w (wr.setCell ⟨g, K.length, none⟩ (.int .i64 x)) g cap L (K ++ [x]) (j + 1) := by
  obtain ⟨cs, h1, h2, h3, h4⟩ := h.ex
  refine ⟨⟨_, h1.set_ K.length _, by simpa using h2, fun k hk => ?_, fun k hk hj2 => ?_⟩, grownBy_trans h.gr (grownBy_set wr g _ _)⟩
  · rw [Array.getElem?_setIfInBounds]
    by_cases e : K.length = k
    · subst e
      rw [if_pos rfl, if_pos (by omega)]
      simp
    · rw [if_neg e]
      have hk2 : k < K.length := by simp at hk; omega
      rw [h3 k hk2, List.getElem_append_left hk2]
  · rw [Array.getElem?_setIfInBounds, if_neg (by omega)]
    exact h4 k hk (by omega)
theorem Stg.own {w wr : World} {base g cap j : Nat} {L K : List Int} (h : Stg w wr g cap L K j) (hbase : base ≤ g) (hK : K.length ≤ cap) (hm : cap ≤ maxLen) : wr.ownsRow base 3 1 (.slice (some ⟨g, 0, none⟩) K.length cap) K.length (itv K) := by
  obtain ⟨cs, h1, h2, h3, h4⟩ := h.ex
  refine ⟨by rw [itv_len, Nat.mul_one], .inr ⟨g, cap, cs, rfl, hbase, h1, hK, hm, by rw [h2, Nat.mul_one], ?_⟩⟩
  apply List.ext_getElem?
  intro k
  rw [Nat.mul_one]
  by_cases hk : k < K.length
  · rw [List.getElem?_take_of_lt hk, Array.getElem?_toList, h3 k hk, itv_get K k hk]
  · rw [List.getElem?_take_eq_none (by omega), List.getElem?_eq_none (by rw [itv_len]; omega)]
/-- What is kept. -/
def keepL (d : Int → Bool) (L : List Int) : List Int := L.filter (fun x => !d x)
theorem keepL_snoc (d : Int → Bool) (L : List Int) (x : Int) : keepL d (L ++ [x]) = keepL d L ++ (if d x then [] else [x]) := by
  unfold keepL
  rw [List.filter_append]
  cases h : d x <;> simp [h]
theorem keepL_le (d : Int → Bool) (L : List Int) : (keepL d L).length ≤ L.length := List.length_filter_le _ _
theorem keepL_all {d : Int → Bool} {L : List Int} (h : ∀ x ∈ L, d x = false) : keepL d L = L := List.filter_eq_self.2 (fun x hx => by rw [h x hx]; rfl)
def DelP (w : World) (base : Nat) (v : Value) (K : List Int) (e : Ending) (w' : World) : Prop := ∃ v', e = .returned v' ∧ w'.ownsRow base 3 1 v' K.length (itv K) ∧ w.grownBy w' v.ownBlock ∧ v'.ownBlock = v.ownBlock
theorem idxF_is (p : Nat → Bool) (n : Nat) : (idxF p n = -1 ∧ ∀ j, j < n → p j = false) ∨ ∃ k, k < n ∧ idxF p n = (k : Int) ∧ p k = true ∧ ∀ j, j < k → p j = false := by
  by_cases h : ∃ k, k < n ∧ p k = true
  · right
    have h2 : ∃ k, k < n ∧ p k = true ∧ ∀ j, j < k → p j = false := by
      obtain ⟨k, hk⟩ := h
      induction k using Nat.strongRecOn with
      | ind k ih =>
        by_cases c : ∃ j, j < k ∧ p j = true
        · obtain ⟨j, hj, hp⟩ := c
          exact ih j hj ⟨by omega, hp⟩
        · refine ⟨k, hk.1, hk.2, fun j hj => ?_⟩
          cases e : p j with
          | false => rfl
          | true => exact absurd ⟨j, hj, e⟩ c
    obtain ⟨k, h1, h2, h3⟩ := h2
    exact ⟨k, h1, idxF_hit p n k h1 h3 h2, h2, h3⟩
  · left
    have h2 : ∀ j, j < n → p j = false := fun j hj => by
      cases e : p j with
      | false => rfl
      | true => exact absurd ⟨j, hj, e⟩ h
    exact ⟨idxF_no p n h2, h2⟩
set_option maxHeartbeats 3200000 in
theorem del_any {w : World} {base : Nat} {v : Value} {L : List Int} (hown : w.ownsRow base 3 1 v L.length (itv L)) (hll : L.length ≤ 4294967296) (f : Nat) (lb : Array Value) (d : Int → Bool) (hcf : ∀ args wx, (callFunc f args).run Tryz.prog wx = .ok (.enter f args) wx)
    (hf : ∀ x ∈ L, ∀ wx, w.grownBy wx v.ownBlock → Calls Tryz.prog f (#[.int .i64 x] ++ lb) wx fun e w' => e = .returned (.bool (d x)) ∧ Below wx.heap.size wx w') :
    Calls Tryz.prog 44 #[v, .func (.func f) #[] lb] w (DelP w base v (keepL d L)) := by
  obtain ⟨A0, c0, rfl, hrd, _⟩ := Ev.own_shape2 hown
  have c1 := indexInt A0 L.length c0 L f lb (fun i => d (L.getD i 0)) w hcf hrd rfl (by omega) (fun i hi wx hb => by
    rw [List.getD_eq_getElem?_getD, List.getElem?_eq_getElem hi]
    exact hf _ (List.getElem_mem hi) wx (grow_of_below hb _))
  rcases idxF_is (fun i => d (L.getD i 0)) L.length with ⟨hz, hno⟩ | ⟨k, hk, hz, hyes, hno⟩
  · rw [hz] at c1
    have hkp : keepL d L = L := keepL_all (fun x hx => by
      obtain ⟨i, hi, rfl⟩ := List.mem_iff_getElem.1 hx
      have := hno i hi
      rw [List.getD_eq_getElem?_getD, List.getElem?_eq_getElem hi] at this
      exact this)
    rw [hkp]
    have FIN : Hid (∀ w2, Below w.heap.size w w2 → DelP w base (.slice A0 L.length c0) L (.returned (.slice A0 L.length c0)) w2) := Lib.hid (fun w2 hb => ⟨_, rfl, hown.kept (grow_of_below hb none) (by cases Value.ownBlock _ <;> simp), grow_of_below hb _, rfl⟩)
    clear hown hrd hno hkp hf hz
    go_enter Tryz.func44, Tryz.ntmps44
    go_wp2_with fail
    refine c1.mono ?_
    rintro e w2 ⟨rfl, hb2⟩
    go_wp2
    go_ret
    exact FIN.out _ hb2
  · rw [hz] at c1
    obtain ⟨m0, hm0⟩ : ∃ m0, L.length = m0 + 1 := ⟨L.length - 1, by omega⟩
    rcases hown.2 with ⟨hnil, h0⟩ | ⟨g, cap, cur, hv, hbase, hb, h1, h2, h3, h4⟩
    · omega
    injection hv with hA hn hc
    subst hA hc
    have hstart : Stg w w g c0 L (L.take k) k := by
      refine ⟨⟨cur, hb, by rw [h3, Nat.mul_one], fun q hq => ?_, fun q hq hj => ?_⟩, grownBy_refl _ _⟩
      · have hq2 : q < L.length := by rw [List.length_take] at hq; omega
        have e := congrArg (fun (l : List Value) => l[q]?) h4
        simp only [Nat.mul_one] at e
        rw [List.getElem?_take_of_lt hq2, Array.getElem?_toList, itv_get L q hq2] at e
        rw [e, List.getElem_take]
      · have e := congrArg (fun (l : List Value) => l[q]?) h4
        simp only [Nat.mul_one] at e
        rw [List.getElem?_take_of_lt hq, Array.getElem?_toList, itv_get L q hq] at e
        exact e
    have hkk : keepL d (L.take (k + 1)) = L.take k := by
      rw [List.take_succ_eq_append_getElem hk, keepL_snoc]
      have h5 : d L[k] = true := by
        rw [List.getD_eq_getElem?_getD, List.getElem?_eq_getElem hk] at hyes
        exact hyes
      rw [h5, if_pos rfl, List.append_nil]
      exact keepL_all (fun x hx => by
        obtain ⟨i, hi, rfl⟩ := List.mem_iff_getElem.1 hx
        rw [List.length_take] at hi
        rw [List.getElem_take]
        have := hno i (by omega)
        rw [List.getD_eq_getElem?_getD, List.getElem?_eq_getElem (by omega)] at this
        exact this)
    have HST := Lib.hid hstart.next
    have HKK := Lib.hid hkk
    have HF := Lib.hid hf
    have hob : (Value.slice (some ⟨g, 0, none⟩) L.length c0).ownBlock = some g := rfl
    have HOB := Lib.hid hob
    have h2' := h2
    clear hown hrd hno hyes hz hf hstart hkk h4 hb h3 hn hob hm0 h2
    go_enter Tryz.func44, Tryz.ntmps44
    go_wp2_with fail
    refine c1.mono ?_
    rintro e w2 ⟨rfl, hb2⟩
    have HST2 := Lib.hid (HST.out.below hb2)
    clear c1 hb2 HST
    go_wp2_with fail
    go_loopw [5, 6] (fun a b wr => ∃ j : Nat, k + 1 ≤ j ∧ j ≤ L.length ∧ a = .int .i64 ((keepL d (L.take j)).length : Nat) ∧ b = .int .i64 j ∧ Hid (Stg w wr g c0 L (keepL d (L.take j)) j)) (fun _ b _ => L.length - (intOf b).toNat)
    case atStart =>
      refine ⟨k + 1, Nat.le_refl _, by omega, ?_, by go_num, ?_⟩
      · rw [HKK.out, List.length_take, Nat.min_eq_left (by omega)]
      · rw [HKK.out]; exact HST2
    case round =>
      obtain ⟨j, hkj, hjl, rfl, rfl, hS⟩ := hrel
      have hkle : (keepL d (L.take j)).length ≤ j := Nat.le_trans (keepL_le d _) (by rw [List.length_take]; omega)
      by_cases hlt : j < L.length
      · obtain ⟨cs, q1, q2, q3, q4⟩ := hS.out.ex
        have hcj := q1.cell j
        rw [q4 j hlt (Nat.le_refl _)] at hcj
        have hts : L.take (j + 1) = L.take j ++ [L[j]] := List.take_succ_eq_append_getElem hlt
        have hsn := keepL_snoc d (L.take j) L[j]
        rw [← hts] at hsn
        have HSN := Lib.hid hsn
        have CF := Lib.hid (HF.out L[j] (List.getElem_mem hlt) _ (by rw [HOB.out]; exact hS.out.gr))
        have HSP := Lib.hid (hS.out.next)
        have HPUT : Hid (∀ wz, Below wr.heap.size wr wz → Stg w (wz.setCell ⟨g, (keepL d (L.take j)).length, none⟩ (.int .i64 L[j])) g c0 L (keepL d (L.take j) ++ [L[j]]) (j + 1)) := Lib.hid (fun wz hb => (hS.out.below hb).put hkle hlt h1 L[j])
        have HBK : Hid (∀ wz, Below wr.heap.size wr wz → (wz.cell? ⟨g, (keepL d (L.take j)).length, none⟩).isSome = true ∧ wz.frozen? ⟨g, (keepL d (L.take j)).length, none⟩ = false) := Lib.hid (fun wz hb => by
          have r := q1.below hb q1.lt
          refine ⟨?_, r.frozen _⟩
          rw [r.cell, Array.getElem?_eq_getElem (by omega)]; rfl)
        have hlt' : (j : Int) < (L.length : Int) := by omega
        clear q1 q2 q3 q4 hts hsn
        generalize hkl : keepL d (L.take j) = K at *
        clear hkl
        generalize L[j] = x at *
        cases hd : d x with
        | true =>
          rw [hd] at CF
          have e1 : keepL d (L.take (j + 1)) = K := by rw [HSN.out, hd]; simp
          have HE := Lib.hid e1
          clear hd e1 HSN
          go_wp2_with fail
          refine CF.out.mono ?_
          rintro e w5 ⟨rfl, hb5⟩
          have HS5 := Lib.hid (HSP.out.below hb5)
          clear hb5 CF HPUT HBK hcj
          go_wp2
          refine ⟨?_, ?measure⟩
          (repeat apply Exists.intro)
          refine ⟨?rel, rfl⟩
          case rel => exact ⟨j + 1, by omega, by omega, by rw [HE.out], by go_num, by rw [HE.out]; exact HS5⟩
          case measure => simp [intOf]; omega
        | false =>
          rw [hd] at CF
          have e1 : keepL d (L.take (j + 1)) = K ++ [x] := by rw [HSN.out, hd]; simp
          have HE := Lib.hid e1
          clear hd e1 HSN
          go_wp2_with fail
          refine CF.out.mono ?_
          rintro e w5 ⟨rfl, hb5⟩
          have HS5 := Lib.hid (HPUT.out w5 hb5)
          obtain ⟨hk1, hk2⟩ := HBK.out w5 hb5
          obtain ⟨u9, hk1⟩ := Option.isSome_iff_exists.1 hk1
          have hKlt : (K.length : Int) < (L.length : Int) := by omega
          clear hb5 CF HPUT HBK hcj
          go_wp2
          refine ⟨?_, ?measure⟩
          (repeat apply Exists.intro)
          refine ⟨?rel, rfl⟩
          case rel => exact ⟨j + 1, by omega, by omega, by rw [HE.out, List.length_append]; go_num, by go_num, by rw [HE.out]; exact HS5⟩
          case measure => simp [intOf]; omega
      · obtain rfl : j = L.length := by omega
        rw [List.take_length] at hS hkle
        simp only [List.take_length]
        obtain ⟨cs, q1, q2, q3, q4⟩ := hS.out.ex
        have hKle : (keepL d L).length ≤ c0 := by omega
        have hlast : (keepL d L).length < L.length := by
          have e1 : keepL d L = keepL d (L.take (k + 1)) ++ keepL d (L.drop (k + 1)) := by
            unfold keepL
            rw [← List.filter_append, List.take_append_drop]
          have e2 := keepL_le d (L.drop (k + 1))
          rw [e1, HKK.out, List.length_append, List.length_take]
          rw [List.length_drop] at e2
          omega
        · have hcl := fun ty => Lib.run_clear_slice (P := Tryz.prog) wr 38 3 ty (.int .i64 0) Tryz.underlying38 Tryz.zeroValue3 rfl rfl g (keepL d L).length (L.length - (keepL d L).length) (c0 - (keepL d L).length) (by omega)
            (fun t ht => by rw [q1.cell, Array.getElem?_eq_getElem (by omega)]; rfl) (fun t ht => q1.frozen _)
          obtain ⟨cs', r1, r2, r3, r4⟩ := blk_setCells (List.replicate (L.length - (keepL d L).length) (.int .i64 0)) (keepL d L).length wr cs q1
          have hSF : Stg w (wr.setCells g (keepL d L).length (List.replicate (L.length - (keepL d L).length) (.int .i64 0))) g c0 L (keepL d L) L.length := ⟨⟨cs', r1, by omega, fun q hq => by rw [r3 q hq]; exact q3 q hq, fun q hq hj => by omega⟩, grownBy_trans hS.out.gr r4⟩
          have FIN : Hid (DelP w base (.slice (some ⟨g, 0, none⟩) L.length c0) (keepL d L) (.returned (.slice (some ⟨g, 0, none⟩) (keepL d L).length c0)) (wr.setCells g (keepL d L).length (List.replicate (L.length - (keepL d L).length) (.int .i64 0)))) := Lib.hid ⟨_, rfl, hSF.own hbase hKle h2', hSF.gr, rfl⟩
          have hlast' : ((keepL d L).length : Int) < (L.length : Int) := by omega
          clear q1 q2 q3 q4 r1 r2 r3 r4 hSF hS
          generalize (keepL d L).length = kn at *
          go_wp2
          go_ret
          exact FIN.out
end Go.Proofs.YtlfpfkallgkjdaaGreat.Al
end

section
/- alert.Ask: the walk (printed by gen_ali.py). -/
namespace Go.Proofs.YtlfpfkallgkjdaaGreat.Al
open Go.RowKit Go.Maps Go.Proofs.YtlfpfkallgkjdaaGreat Go.Proofs.YtlfpfkallgkjdaaGreat.Ut Go.Proofs.YtlfpfkallgkjdaaGreat.Tk Go.Proofs.YtlfpfkallgkjdaaGreat.Qy Go.Proofs.YtlfpfkallgkjdaaGreat.Qp Go.Proofs.YtlfpfkallgkjdaaGreat.Ev Go.Proofs.YtlfpfkallgkjdaaGreat.Mv
set_option linter.unusedVariables false
set_option linter.unusedSimpArgs false
set_option maxRecDepth 20000

/-- Is a number's query one that the event does not match? -/
def missB (fs : List Fl) (l : List (Int × Kp)) (i : Int) : Bool := match get l i with
  | some k => !matchB fs k.q
  | none => true
theorem flEvt {w : World} {F : Option Addr} {fn fc : Nat} {fs : List Fl} (h : FlAt w w.heap.size F fn fc fs) (hck : chkE fs = 0) : EvAt w F fn fs := ⟨h.rd, h.len, h.few, fun f hf => by have := ((chkE_ok hck).2 f hf).2.2; omega⟩
theorem flgrow {w w' : World} {F : Option Addr} {fn fc : Nat} {fs : List Fl} (h : FlAt w w.heap.size F fn fc fs) (hb : Below w.heap.size w w') : FlAt w' w'.heap.size F fn fc fs := (h.keep (fun b o hl => hb.cell (p := ⟨b, o, none⟩) hl)).more hb.size
section
variable {w : World} {X cn M1 M2 : Nat} {F1 : Int → Option Value} {F2 : ByteArray → Option Nat} {l : List (Int × Kp)}
set_option maxHeartbeats 1600000 in
theorem ask1_any {B1 B2 : Nat} (i : Int) (hi : I64 i) (k : Kp) (t : Int) (F : Option Addr) (fn fc : Nat) (fs : List Fl) (hk : get l i = some k) (h : AlX w X cn M1 M2 F1 F2 l) (hF : EvAt w F fn fs)
    (g1 : w.cell? ⟨B1, 0, none⟩ = some (.pointer (some ⟨X, 0, none⟩))) (g2 : w.cell? ⟨B2, 0, none⟩ = some (.int .i64 t)) (g3 : w.cell? ⟨B2, 1, none⟩ = some (.slice F fn fc)) (hB1 : B1 < w.heap.size) (hB2 : B2 < w.heap.size) :
    Calls Tryz.prog 45 #[.int .i64 i, .pointer (some ⟨B1, 0, none⟩), .pointer (some ⟨B2, 0, none⟩)] w fun e w' => e = .returned (.bool (!matchB fs k.q)) ∧ Below w.heap.size w w' := by
  obtain ⟨v, hv1, hv2⟩ := h.al.kv i k hk
  have hko := h.al.ok _ (get_mem hk)
  obtain ⟨A1, n1, c1, A2, n2, c2, A, c, rfl, hq, _⟩ := hv2.parts
  have hqat : QAt w w.heap.size k.q [.int .i64 k.q.kind, .string k.q.name, .slice A1 n1 c1, .slice A2 n2 c2] := hq.at_ (fun b hb => hb.lt)
  have HMT : Hid (∀ wx, Below w.heap.size w wx → Calls Tryz.prog 46 #[.agg #[.int .i64 k.q.kind, .string k.q.name, .slice A1 n1 c1, .slice A2 n2 c2], .agg #[.int .i64 t, .slice F fn fc]] wx fun e w' => e = .returned (.bool (matchB fs k.q)) ∧ Below wx.heap.size wx w') :=
    Lib.hid (fun wx hb => match_any fs k.q hko.q.sz wx _ _ _ _ t F fn fc (hqat.grow hb) (hF.grow hb))
  have HLK := Lib.hid (looksI h.al.m1.v lawI Tryz.underlying83 Tryz.zeroValue92 i (keyI hi) (u := .agg #[.string k.text, .int .i64 k.q.kind, .string k.q.name, .slice A1 n1 c1, .slice A2 n2 c2, .slice A k.needs.length c]) (by rw [hv1]; rfl))
  have hX := h.blk
  have Hcells : Hid (∀ wx, Below w.heap.size w wx → wx.cell? ⟨X, 0, none⟩ = some (.map (some M1)) ∧ wx.cell? ⟨B1, 0, none⟩ = some (.pointer (some ⟨X, 0, none⟩)) ∧ wx.cell? ⟨B2, 0, none⟩ = some (.int .i64 t) ∧ wx.cell? ⟨B2, 1, none⟩ = some (.slice F fn fc)) := Lib.hid (fun wx hb => by
    have k1 := (hX.below hb hX.lt).cell 0
    simp only [List.getElem?_toArray, List.getElem?_cons_zero] at k1
    exact ⟨k1, (hb.cell (p := ⟨B1, 0, none⟩) hB1).trans g1, (hb.cell (p := ⟨B2, 0, none⟩) hB2).trans g2, (hb.cell (p := ⟨B2, 1, none⟩) hB2).trans g3⟩)
  have hfq := field_q
  clear hv1 hv2 hko hq hqat hX h hF hk
  generalize k.needs.length = nn at *
  generalize k.text = tx at *
  generalize k.q.kind = qk at *
  generalize k.q.name = qn at *
  generalize matchB fs k.q = mb at *
  go_enter Tryz.func45, Tryz.ntmps45
  go_upto_region 1 with (fail)
  refine wp_region_grow (specOf [(8, ⟨Unit, fun _ => .bool mb, fun _ _ => True⟩)]) (fun wx => Below (World.heap w).size w wx) (fun w1 w2 => Below w1.heap.size w1 w2) (by kernel_rfl) (by kernel_rfl) (stab_cons (fun x wa wb hg h => trivial) (stab_nil)) (Below.refl _ _).drew ?_
  refine grow_fix 1 ?_ rfl (by rfl) (by rfl) (fun wx hC hD => ?_) ?_
  rotate_left
  · have hSw := Hcells.out wx hC
    go_simp
    all_goals with_reducible rfl
  try simp only [Act.put, List.setIfInBounds_toArray, List.set_cons_zero, List.set_cons_succ]
  refine grow_fix 2 ?_ rfl (by rfl) (by rfl) (fun wx hC hD => ?_) ?_
  rotate_left
  · have hSw := Hcells.out wx hC
    go_simp
    all_goals with_reducible rfl
  try simp only [Act.put, List.setIfInBounds_toArray, List.set_cons_zero, List.set_cons_succ]
  refine grow_fix 3 ?_ rfl (by rfl) (by rfl) (fun wx hC hD => ?_) ?_
  rotate_left
  · have hSw := Hcells.out wx hC
    go_simp
    all_goals with_reducible rfl
  try simp only [Act.put, List.setIfInBounds_toArray, List.set_cons_zero, List.set_cons_succ]
  refine grow_fix 4 ?_ rfl (by rfl) (by rfl) (fun wx hC hD => ?_) ?_
  rotate_left
  · have hSw := Hcells.out wx hC
    go_simp
    all_goals with_reducible rfl
  try simp only [Act.put, List.setIfInBounds_toArray, List.set_cons_zero, List.set_cons_succ]
  refine grow_fix 5 ?_ rfl (by rfl) (by rfl) (fun wx hC hD => ?_) ?_
  rotate_left
  · have hSw := Hcells.out wx hC
    go_simp
    all_goals with_reducible rfl
  try simp only [Act.put, List.setIfInBounds_toArray, List.set_cons_zero, List.set_cons_succ]
  refine grow_fix 6 ?_ rfl (by rfl) (by rfl) (fun wx hC hD => ?_) ?_
  rotate_left
  · have hlk := HLK.out wx hC
    have hSw := Hcells.out wx hC
    go_simp
    all_goals with_reducible rfl
  try simp only [Act.put, List.setIfInBounds_toArray, List.set_cons_zero, List.set_cons_succ]
  refine grow_fix 7 ?_ rfl (by rfl) (by rfl) (fun wx hC hD => ?_) ?_
  rotate_left
  · have hfq2 := field_q tx qn qk A1 A2 A n1 c1 n2 c2 nn c wx
    have hSw := Hcells.out wx hC
    go_simp
    all_goals with_reducible rfl
  try simp only [Act.put, List.setIfInBounds_toArray, List.set_cons_zero, List.set_cons_succ]
  refine grow_fix 8 ?_ rfl (by rfl) (by rfl) (fun wx hC hD => ?_) ?_
  rotate_left
  · have hSw := Hcells.out wx hC
    go_simp
    all_goals with_reducible rfl
  try simp only [Act.put, List.setIfInBounds_toArray, List.set_cons_zero, List.set_cons_succ]
  refine grow_give 9 _ rfl (by rfl) (by rfl) (fun wx hC hD => ?_) (fun x => ?_)
  · refine give_enter (f := ?_) (args := ?_) ?_ ?_
    rotate_left 2
    · have hSw := Hcells.out wx hC
      go_simp
      all_goals first | with_reducible rfl | (refine ⟨?_, ?_⟩ <;> with_reducible rfl)
    refine (HMT.out wx hC).mono ?_
    rintro e w9 ⟨rfl, hb9⟩
    exact ⟨_, rfl, hb9, hC.trans (hb9.mono hC.size), (), rfl, trivial⟩
  obtain ⟨⟩ := x
  try simp only [Act.put, List.setIfInBounds_toArray, List.set_cons_zero, List.set_cons_succ]
  refine grow_fix 10 ?_ rfl (by rfl) (by rfl) (fun wx hC hD => ?_) ?_
  rotate_left
  · have hSw := Hcells.out wx hC
    go_simp
    all_goals with_reducible rfl
  try simp only [Act.put, List.setIfInBounds_toArray, List.set_cons_zero, List.set_cons_succ]
  refine grow_fix 11 ?_ rfl (by rfl) (by rfl) (fun wx hC hD => ?_) ?_
  rotate_left
  · have hSw := Hcells.out wx hC
    go_simp
    all_goals with_reducible rfl
  try simp only [Act.put, List.setIfInBounds_toArray, List.set_cons_zero, List.set_cons_succ]
  refine grow_nil (fun w5 hC hF => ?_)
  have FIN := Lib.hid hC
  clear hF hC
  go_wp2
  go_ret
  exact ⟨rfl, FIN.out⟩
set_option maxHeartbeats 1600000 in
theorem ask_any (t : Int) (F : Option Addr) (fn fc : Nat) (fs : List Fl) (hF : FlAt w w.heap.size F fn fc fs) (h : AlX w X cn M1 M2 F1 F2 l) (hll : l.length ≤ 1000) :
    Calls Tryz.prog 17 #[.pointer (some ⟨X, 0, none⟩), .agg #[.int .i64 t, .slice F fn fc]] w (NumsP w (if chkE fs = 0 then (l.filter (fun x => matchB fs x.2.q)).map (·.1) else [])) := by
  have hb1 : Below w.heap.size w (w.alloc (.cells #[.pointer (some ⟨X, 0, none⟩)] 22)) := (Below.refl _ _).alloc (Nat.le_refl _) _
  have hb2 : Below (w.alloc (.cells #[.pointer (some ⟨X, 0, none⟩)] 22)).heap.size (w.alloc (.cells #[.pointer (some ⟨X, 0, none⟩)] 22)) ((w.alloc (.cells #[.pointer (some ⟨X, 0, none⟩)] 22)).alloc (.cells #[.int .i64 t, .slice F fn fc] 33)) := (Below.refl _ _).alloc (Nat.le_refl _) _
  have hx1 := (Blk.new w 22 #[.pointer (some ⟨X, 0, none⟩)]).below hb2 (by simp)
  have hx2 := Blk.new (w.alloc (.cells #[.pointer (some ⟨X, 0, none⟩)] 22)) 33 #[.int .i64 t, .slice F fn fc]
  have hsz : (w.alloc (.cells #[.pointer (some ⟨X, 0, none⟩)] 22)).heap.size = w.heap.size + 1 := by simp
  rw [hsz] at hx2
  have hb := hb1.trans (hb2.mono (by omega))
  have HX1 := Lib.hid hx1
  have HX2 := Lib.hid hx2
  have HB := Lib.hid hb
  have H := Lib.hid h
  have HF := Lib.hid hF
  clear hb1 hb2 hx1 hx2 hb h hF hsz
  obtain ⟨RR, hRR⟩ : ∃ RR, (if chkE fs = 0 then (l.filter (fun x => matchB fs x.2.q)).map (·.1) else []) = RR := ⟨_, rfl⟩
  rw [hRR]
  have HRR := Lib.hid hRR
  clear hRR
  go_enter Tryz.func17, Tryz.ntmps17
  go_upto_region 1 with (fail)
  generalize ((w.alloc (.cells #[.pointer (some ⟨X, 0, none⟩)] 22)).alloc (.cells #[.int .i64 t, .slice F fn fc] 33)) = w1 at *
  have g1 := HX1.out.cell 0
  have g2 := HX2.out.cell 0
  have g3 := HX2.out.cell 1
  simp only [List.getElem?_toArray, List.getElem?_cons_zero, List.getElem?_cons_succ] at g1 g2 g3
  have c1 := near_any t F fn fc fs (flgrow HF.out HB.out) (H.out.below HB.out) hll
  go_wp2_with fail
  refine c1.mono ?_
  rintro e w2 ⟨v, rfl, hown, hbw⟩
  have hXl := HX1.out.lt
  have hXl2 := HX2.out.lt
  have hsz := HB.out.size
  clear c1 g1 g2 g3
  obtain ⟨L, hL⟩ : ∃ L, (if chkE fs = 0 then nearL (hasT fs) l else []) = L := ⟨_, rfl⟩
  rw [hL] at hown
  have hll2 : L.length ≤ 4294967296 := by
    rw [← hL]
    split
    · unfold nearL
      rw [List.length_map]
      exact Nat.le_trans (List.length_filter_le _ _) (by omega)
    · simp
  have hkeep : keepL (missB fs l) L = RR := by
    rw [← HRR.out, ← hL]
    by_cases hck : chkE fs = 0
    · rw [if_pos hck, if_pos hck]
      have hu := H.out.al.up
      unfold nearL keepL
      rw [← ask_near (hasT fs) (fun k => matchB fs k.q) l (fun x hx hm => by
        unfold nearB
        rw [(H.out.al.ok x hx).nd]
        exact near_match fs x.2.q hm)]
      rw [List.filter_map]
      congr 1
      refine List.filter_congr (fun x hx => ?_)
      have := mem_get hu (List.mem_filter.1 hx).1
      show (!missB fs l x.1) = _
      unfold missB
      rw [this]
      simp
    · rw [if_neg hck, if_neg hck]; rfl
  have CD := del_any (w := w2) hown hll2 45 #[.pointer (some ⟨w.heap.size, 0, none⟩), .pointer (some ⟨w.heap.size + 1, 0, none⟩)] (missB fs l) (callFunc_enter Tryz.func45 (by kernel_rfl) rfl) (fun x hx wx hg => by
    have hck : chkE fs = 0 := by
      refine Classical.byContradiction fun hc => ?_
      rw [← hL, if_neg hc] at hx
      cases hx
    rw [← hL, if_pos hck, nearL_mem H.out.al.up] at hx
    obtain ⟨k, hk, _⟩ := hx
    have hbx : Below w1.heap.size w1 wx := hbw.grown hg hbw.size (fun b hb => (hown.lt b hb).1)
    have r1 := HX1.out.below hbx hXl
    have r2 := HX2.out.below hbx hXl2
    have g1 := r1.cell 0
    have g2 := r2.cell 0
    have g3 := r2.cell 1
    simp only [List.getElem?_toArray, List.getElem?_cons_zero, List.getElem?_cons_succ] at g1 g2 g3
    have hr := H.out.al.rng _ (get_mem hk)
    have e1 : missB fs l x = !matchB fs k.q := by unfold missB; rw [hk]
    rw [e1]
    exact ask1_any x (I64.of hr) k t F fn fc fs hk (H.out.below (HB.out.trans (hbx.mono hsz))) (flEvt (flgrow HF.out (HB.out.trans (hbx.mono hsz))) hck) g1 g2 g3 r1.lt r2.lt)
  rw [hkeep] at CD
  have HCD := Lib.hid CD
  have HBW := Lib.hid hbw
  have HON : Hid (∀ b, v.ownBlock = some b → w1.heap.size ≤ b) := Lib.hid (fun b hb => (hown.lt b hb).1)
  clear CD hbw hown hkeep hL hll2
  go_wp2_with fail
  refine HCD.out.mono ?_
  rintro e w3 ⟨v3, rfl, ho3, hg3, hob3⟩
  have FIN : Hid (NumsP w RR (.returned v3) w3) := Lib.hid ⟨v3, rfl, own_mono ho3 hsz, (HB.out.trans (HBW.out.mono hsz)).grown hg3 (by have := HBW.out.size; omega) (fun b hb => by have := HON.out b hb; omega)⟩
  clear ho3 hg3 hob3
  go_wp2
  go_ret
  exact FIN.out
end
end Go.Proofs.YtlfpfkallgkjdaaGreat.Al
end
