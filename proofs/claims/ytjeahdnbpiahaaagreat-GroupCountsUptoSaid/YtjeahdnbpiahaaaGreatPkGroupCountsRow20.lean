/- Regions that draw their order and end in a forced tail (a store): one walk of the lexical order, calls that make memory let in ahead of the tail. -/
import Derived.StillTail
import Derived.Laws.StructEq
import Derived.BigRegion
import Derived.RegionTactic
import Derived.ChangeAlike
import Derived.Test.YtjeahdnbpiahaaaGreatGrowPk
import Derived.Test.YtjeahdnbpiahaaaGreatPkGroupCountsRow19
section
namespace Go.Proofs.YtjeahdnbpiahaaaGreat
open Go Go.RowKit

section
variable {P : Program} {ops : Array Oper} {md : Region.Mode} {C : World → Prop} {G : World → World → Prop} {Q : Act → World → Prop} {S : Nat → Option RSpec} {n g : Nat} {K : Array Bool → Act → (Nat → World → Prop) → Prop}

def TAnyL (P : Program) (md : Region.Mode) (ops : Array Oper) (C : World → Prop) (G : World → World → Prop) (S : Nat → Option RSpec) (n : Nat) (K : Array Bool → Act → (Nat → World → Prop) → Prop) : Nat → Array Bool → Act → (Nat → World → Prop) → Prop
  | 0, listed, a, F => SatT C F → K listed a F
  | fuel + 1, listed, a, F => SatT C F → (Region.ready md ops listed ≠ [] ∧
    ∀ i ∈ Region.ready md ops listed, i < n ∧ ∀ o, ops[i]? = some o → stepT P ops C G md S i o (TAnyL P md ops C G S n K fuel (listed.setIfInBounds i true)) a F)

theorem wpAny_of_TL (hS : ∀ i s, S i = some s → ∀ x w w', G w w' → s.Φ x w → s.Φ x w') {Q' : Exit → Act → World → Prop} (hK : ∀ listed a F w, K listed a F → C w → (∀ j, F j w) → wpAny P md ops Q' g listed a w) :
    ∀ (fuel : Nat) (listed : Array Bool) (a : Act) (F : Nat → World → Prop) (w : World), C w → (∀ j, F j w) → Lasts G F → TAnyL P md ops C G S n K fuel listed a F → wpAny P md ops Q' (fuel + g) listed a w
  | 0, _, a, F, w, hC, hF, _, h => by rw [Nat.zero_add]; exact hK _ _ _ _ (h ⟨w, hC, hF⟩) hC hF
  | fuel + 1, listed, a, F, w, hC, hF, hL, h => by
    rw [show fuel + 1 + g = (fuel + g) + 1 by omega]
    have h := h ⟨w, hC, hF⟩
    refine ⟨fun h0 => absurd h0 h.1, fun i hi => ?_⟩
    unfold wpOp
    obtain ⟨_, o, ho, _⟩ := mem_ready.1 hi
    simp only [ho]
    have hs := (h.2 i hi).2 o ho
    unfold stepT at hs
    split
    · rename_i hw
      rw [if_pos hw] at hs
      left
      split at hs
      · rename_i hSi
        obtain ⟨c, h1, h2⟩ := hs
        rcases h1 w hC (fun e _ _ => hF e.on) with hr | ⟨hr, rfl⟩
        · unfold Oper.wp; rw [hr]
          exact wpAny_of_TL hS hK fuel _ _ F w hC hF hL h2
        · unfold Oper.wp; rw [hr]
          exact wpAny_of_TL hS hK fuel _ _ F w hC hF hL h2
      · rename_i s hSi
        refine wp_of_gives ?_ (hs.1 w hC (fun e _ _ => hF e.on))
        rintro v w' hg ⟨hC', x, rfl, hx⟩
        refine wpAny_of_TL hS hK fuel _ _ _ w' hC' ?_ (hL.upd i (hS i s hSi x)) (hs.2 x)
        intro j
        unfold upd
        split
        · exact ⟨hL j _ _ hg (hF j), hx⟩
        · exact hL j _ _ hg (hF j)
    · rename_i hw
      rw [if_neg hw] at hs
      exact wpAny_of_TL hS hK fuel _ _ F w hC hF hL hs

theorem TAnyL_first (hS : ∀ i s, S i = some s → ∀ x w w', G w w' → s.Φ x w → s.Φ x w') {i : Nat} {oi : Oper} (hi : ops[i]? = some oi) (hsel : ∀ (j : Nat) (o : Oper) cs b, ops[j]? = some o → o.op ≠ .select cs b)
    (hs : Region.sinkB md ops n = true) (hc : Region.chainB md ops n = true) (hn : n < ops.size) (hin : i < n) (hdone : ∀ listed a F, K listed a F → ∀ j ∈ Region.ready md ops listed, n ≤ j)
    {V : Type} {f : V → Value} {p : V → Option (World → Prop)} :
    ∀ (fuel : Nat) (listed : Array Bool) (a : Act) (F : Nat → World → Prop), HeadInv md ops n listed → Lasts G F →
      (∀ j oj, ops[j]? = some oj → j ≠ i → listed.getD j true = false → (∀ e ∈ oj.after, Region.binds md e = true → e.on ≠ i) → oi.apart ops oj = true) →
      i ∈ Region.ready md ops listed → Head P ops C G md S i oi a F V f p →
      (∀ x, TAnyL P md ops C G S n K fuel (listed.setIfInBounds i true) (a.put oi.dst (f x)) (updO F i (p x))) → TAnyL P md ops C G S n K (fuel + 1) listed a F := by
  intro fuel
  induction fuel with
  | zero =>
    intro listed a F inv hL _ hr hy H hsat
    have hun := (mem_ready.1 hr).1
    refine ⟨fun h => (by rw [h] at hr; cases hr), fun j hj => ?_⟩
    have hjn : j < n := by
      rcases Nat.lt_or_ge j n with h | h
      · exact h
      · exact absurd hj (tail_waits hs hc hn inv _ i rfl hin hun j h)
    refine ⟨hjn, fun oj hoj => ?_⟩
    by_cases hji : j = i
    · subst hji
      rw [hi] at hoj
      injection hoj with hoj
      subst hoj
      exact hy.step H
    · obtain ⟨x, hx⟩ := hy.sat hL hsat
      have := hdone _ _ _ (H x hx) j (ready_mono hj hji)
      omega
  | succ fuel ih =>
    intro listed a F inv hL hfree hr hy H hsat
    have hun0 := (mem_ready.1 hr).1
    refine ⟨fun h => (by rw [h] at hr; cases hr), fun j hj => ?_⟩
    have hjn : j < n := by
      rcases Nat.lt_or_ge j n with h | h
      · exact h
      · exact absurd hj (tail_waits hs hc hn inv _ i rfl hin hun0 j h)
    refine ⟨hjn, fun oj hoj => ?_⟩
    by_cases hji : j = i
    · subst hji
      rw [hi] at hoj
      injection hoj with hoj
      subst hoj
      exact hy.step H
    · obtain ⟨hjun, oj', hoj', hall⟩ := mem_ready.1 hj
      rw [hoj] at hoj'
      injection hoj' with hoj'
      subst hoj'
      have hnot : ∀ e ∈ oj.after, Region.binds md e = true → e.on ≠ i := fun e he hb heq => by
        have h1 := hall e he hb
        have h0 := (mem_ready.1 hr).1
        rw [heq] at h1
        rcases Nat.lt_or_ge i listed.size with h' | h'
        · simp [h'] at h0 h1; rw [h0] at h1; cases h1
        · simp [Array.getElem?_eq_none h'] at h1
      have hnot2 : ∀ e ∈ oi.after, Region.binds md e = true → e.on ≠ j := fun e he hb heq => by
        obtain ⟨h0, o2, ho2, hall2⟩ := mem_ready.1 hr
        rw [hi] at ho2
        injection ho2 with ho2
        subst ho2
        have h1 := hall2 e he hb
        rw [heq] at h1
        rcases Nat.lt_or_ge j listed.size with h' | h'
        · simp [h'] at hjun h1; rw [hjun] at h1; cases h1
        · simp [Array.getElem?_eq_none h'] at h1
      have hap := hfree j oj hoj hji hjun hnot
      obtain ⟨a1, a2, a3⟩ := Oper.apart_spec hap
      have hsi : ∀ cs b, oi.op ≠ .select cs b := fun cs b => hsel i oi cs b hi
      have hsj : ∀ cs b, oj.op ≠ .select cs b := fun cs b => hsel j oj cs b hoj
      obtain ⟨x0, hx0⟩ := hy.sat hL hsat
      obtain ⟨Vj, fj, pj, hj0, _⟩ := head_of_step (((H x0 hx0).2 j (ready_mono hj hji)).2 oj hoj)
      have hjH : ∀ x, Head P ops C G md S j oj (a.put oi.dst (f x)) (updO F i (p x)) Vj fj pj := fun x =>
        hj0.same ((execOp_put oj hsj a oi.dst _ a1).trans (execOp_put oj hsj a oi.dst _ a1).symm) ((wanted_put oj a oi.dst _ a1).trans (wanted_put oj a oi.dst _ a1).symm) (fun w => (deps_updO hnot w).trans (deps_updO hnot w).symm)
      have hja : Head P ops C G md S j oj a F Vj fj pj := hj0.same (execOp_put oj hsj a oi.dst _ a1).symm (wanted_put oj a oi.dst _ a1).symm (fun w => (deps_updO hnot w).symm)
      refine hja.step fun y => ?_
      refine ih (listed.setIfInBounds j true) (a.put oj.dst (fj y)) (updO F j (pj y)) (inv.set hj hjn) (hja.lasts hS hL y) ?_ (ready_mono hr (Ne.symm hji)) ?_ ?_
      · intro k ok hk hki hun hno
        refine hfree k ok hk hki ?_ hno
        by_cases hjk : j = k
        · subst hjk; exact hjun
        · rw [getD_set_ne true hjk] at hun; exact hun
      · exact hy.same (execOp_put oi hsi a oj.dst _ a3) (wanted_put oi a oj.dst _ a3) (fun w => deps_updO hnot2 w)
      · intro x
        rw [← updO_comm (Ne.symm hji), ← Act.put_comm a (f x) (fj y) a2, Array.setIfInBounds_comm _ _ hji]
        have hb : SatT C (updO F i (p x)) → TAnyL P md ops C G S n K fuel ((listed.setIfInBounds i true).setIfInBounds j true) ((a.put oi.dst (f x)).put oj.dst (fj y)) (updO (updO F i (p x)) j (pj y)) := by
          intro hsx
          obtain ⟨V', f', p', h', hk'⟩ := head_of_step (((H x hsx).2 j (ready_mono hj hji)).2 oj hoj)
          obtain ⟨y', e1, e2⟩ := (hjH x).one h' hsx y
          rw [← e1, ← e2]
          exact hk' y'
        cases fuel with
        | zero => exact fun hs => hb (sat_updO hs) hs
        | succ fuel => exact fun hs => hb (sat_updO hs) hs

theorem TAnyL_lex (hS : ∀ i s, S i = some s → ∀ x w w', G w w' → s.Φ x w → s.Φ x w') (hsel : Region.noSelect ops = true) (hs : Region.sinkB md ops n = true) (hc : Region.chainB md ops n = true) (hn : n < ops.size) :
    ∀ (l : List Oper) (k : Nat) (listed : Array Bool) (a : Act) (F : Nat → World → Prop), HeadInv md ops n listed → Lasts G F → (∀ j, j < l.length → l[j]? = ops[k + j]?) → k + l.length = n →
    Region.lexHead md ops g l.length k listed = true → wpGrow P ops C G md S Q l k a F →
    TAnyL P md ops C G S n (fun listed' a' F' => Region.seqB md ops g n listed' = true ∧ FinT C Q a' F') l.length listed a F
  | [], k, listed, a, F, _, _, _, hk, hB, h => fun _ => by
    have : k = n := by simpa using hk
    subst this
    exact ⟨by simpa [Region.lexHead] using hB, h⟩
  | o :: l, k, listed, a, F, inv, hL, hl, hk, hB, h => by
    have h0 : ops[k]? = some o := by simpa using (hl 0 (by simp)).symm
    simp only [List.length_cons, Region.lexHead, Bool.and_eq_true] at hB
    obtain ⟨⟨hr, hf⟩, hB'⟩ := hB
    have hkn : k < n := by simp only [List.length_cons] at hk; omega
    have hr' : k ∈ Region.ready md ops listed := by simpa using hr
    obtain ⟨V, f, p, hh, hk'⟩ := head_of_step (show stepT P ops C G md S k o (wpGrow P ops C G md S Q l (k + 1)) a F from h)
    exact TAnyL_first hS h0 (Region.noSelect_spec hsel) hs hc hn hkn (fun listed' a' F' hL => seqB_ready hL.1) l.length listed a F inv hL (Region.free_spec h0 hf) hr' hh
      (fun x => TAnyL_lex hS hsel hs hc hn l (k + 1) _ _ _ (inv.set hr' hkn) (hh.lasts hS hL x) (fun j hj => by have := hl (j + 1) (by simp; omega); simpa [Nat.add_assoc, Nat.add_comm 1 j] using this) (by simp only [List.length_cons] at hk; omega) hB' (hk' x))

/-- **One walk of the lexical order serves every order**, calls that make memory let in, a forced tail behind. -/
theorem wp_region_grow_tail {id : Nat} {Q' : Exit → Act → World → Prop} {a : Act} {w : World} {l : List Oper} (n : Nat) (S : Nat → Option RSpec) (C : World → Prop) (G : World → World → Prop)
    (hm : P.follows .mixedOrders = true) (hB : Region.lexTailB .any l.toArray n = true) (hS : ∀ i s, S i = some s → ∀ x w w', G w w' → s.Φ x w → s.Φ x w') (hC : C { w with drawn := w.drawn + 1 })
    (h : GrowAt P l.toArray C G .any S (fun a w => wpList P l.toArray Q' (l.drop n) a w) (l.take n) 0 a (fun _ _ => True)) : (Code.region id l.toArray true).wp P Q' a w := by
  simp only [Region.lexTailB, Bool.and_eq_true, decide_eq_true_eq] at hB
  obtain ⟨⟨⟨⟨hsel, hn⟩, hs⟩, hc⟩, hlex⟩ := hB
  have hn' : n < l.length := by simpa using hn
  have htl : (l.take n).length = n := by simp; omega
  have hdl : (l.drop n).length = l.toArray.size - n := by simp
  have inv0 : HeadInv .any l.toArray n (Array.replicate l.toArray.size false) :=
    ⟨by simp, fun j oj _ hl => (by rw [getD_replicate_false] at hl; cases hl), fun t _ ht => getD_in (by simpa using ht) (getD_replicate_false _ _)⟩
  have H := TAnyL_lex (C := C) (G := G) (md := .any) (g := l.toArray.size - n) hS hsel hs hc hn (l.take n) 0 _ a (fun _ _ => True) inv0 (fun _ _ _ _ _ => trivial) (fun j hj => by
    have hj' : j < n := by rw [htl] at hj; exact hj
    simp [hj']) (by simpa using htl) (by rw [htl]; exact hlex) h.out
  refine wp_region_any hm ?_
  have := wpAny_of_TL (Q' := Q') (g := l.toArray.size - n) hS (fun listed a' F' w' hL hC' hF' => by
    have := wpAny_of_seq (md := .any) (Q' := Q') (l.drop n) n listed a' w' (fun j => by simp [List.getElem?_drop]) (by rw [hdl]; exact hL.1) (hL.2 w' hC' hF')
    rwa [hdl] at this) _ _ _ _ _ hC (fun _ => trivial) (fun _ _ _ _ _ => trivial) H
  rw [htl, show n + (l.toArray.size - n) = l.toArray.size by omega] at this
  exact this
theorem give_value {o : Oper} {a : Act} {w : World} {R : Value → World → Prop} {u : Value} {w' : World} (hr : (execOp a.eval o).run P w = .ok (.value u) w') (hg : G w w') (h : R u w') : growUpon P G w R ((execOp a.eval o).run P w) := by
  rw [hr]; exact ⟨hg, h⟩
end
end Go.Proofs.YtjeahdnbpiahaaaGreat
end

section
/- loggialaw30.of; Total, twice: the walks (printed by gen_grb.py). -/
namespace Go.Proofs.YtjeahdnbpiahaaaGreat.Gr
open Go.RowKit Go.Proofs.YtjeahdnbpiahaaaGreat Go.Proofs.YtjeahdnbpiahaaaGreat.Ut Go.Proofs.YtjeahdnbpiahaaaGreat.Tk
set_option maxRecDepth 20000
set_option linter.unusedSimpArgs false
set_option linter.unusedVariables false

set_option maxHeartbeats 1600000 in
theorem total_any (A : Option Addr) (n c : Nat) (l : List Ct) (w : World) (hR : Reads w w.heap.size 2 A n (ctC l)) (hn : n ≤ 8796093021952) :
    Calls Tryz.prog 17 #[.slice A n c] w fun e w' => e = .returned (.int .i64 (totR l)) ∧ Below w.heap.size w w' := by
  have hl := cts_len hR
  have HR := Lib.hid hR
  have Hl := Lib.hid hl
  clear hR hl
  go_enter Tryz.func17, Tryz.ntmps17
  go_wp2_with fail
  go_loopw [3, 8] (fun v i wr => ∃ k : Nat, k ≤ n ∧ i = .int .i64 (k : Nat) ∧ v = .int .i64 (totR (l.take k)) ∧ Below w.heap.size w wr) (fun _ i _ => n - (intOf i).toNat)
  case atStart => exact ⟨0, Nat.zero_le _, rfl, rfl, Below.refl _ _⟩
  case round =>
    obtain ⟨k, hk, rfl, rfl, hb⟩ := hrel
    by_cases hlt : k < n
    · have hki : (k : Int) < (n : Int) := by omega
      have hki0 : (0 : Int) ≤ (k : Int) := by omega
      have hkl : k < l.length := by rw [Hl.out]; exact hlt
      obtain ⟨tb, tq, rfl, htb, hd1, hd2⟩ := cts_at HR.out hkl
      have hc1 := (hb.cell (p := ⟨tb, tq + k * 2, none⟩) htb).trans hd1
      have hc2 := (hb.cell (p := ⟨tb, tq + k * 2 + 1, none⟩) htb).trans hd2
      have hts := totR_snoc l k hkl
      have Hts := Lib.hid hts
      have Hb := Lib.hid hb
      clear hd1 hd2 hts
      generalize l[k] = xx at *
      obtain ⟨x, y⟩ := xx
      generalize totR (l.take k) = T at *
      have hsum : IntKind.i64.wrap (T + y) = totR (l.take (k + 1)) := Hts.out.symm
      simp only at hc1 hc2
      generalize hT1 : totR (l.take (k + 1)) = T1 at *
      have HT1 := Lib.hid hT1
      clear Hts hT1
      go_wp2
      go_roundw
      case rel => exact ⟨k + 1, by omega, by go_num, by rw [HT1.out], Hb.out.alloc Hb.out.size _⟩
      case measure => simp [intOf]; omega
    · have h1 : (n : Int) ≤ (k : Int) := by omega
      have hall : l.take k = l := List.take_of_length_le (by rw [Hl.out]; omega)
      have Hb := Lib.hid hb
      rw [hall]
      clear hb hall
      go_wp2
      go_ret
      exact ⟨rfl, Hb.out⟩

end Go.Proofs.YtjeahdnbpiahaaaGreat.Gr
end

section
/- slices.Equal on counts, group.Same; loggiaref30.Same; loggialaw30.same (printed by gen_grc.py). -/
namespace Go.Proofs.YtjeahdnbpiahaaaGreat.Gr
open Go.RowKit Go.Proofs.YtjeahdnbpiahaaaGreat Go.Proofs.YtjeahdnbpiahaaaGreat.Ut Go.Proofs.YtjeahdnbpiahaaaGreat.Tk
set_option maxRecDepth 20000
set_option linter.unusedSimpArgs false
set_option linter.unusedVariables false

theorem list_beq (s t : ByteArray) : (s.toList == t.toList) = decide (s = t) := by
  rw [tl, tl]
  by_cases h : s = t
  · subst h; simp
  · have : ¬ s.data.toList = t.data.toList := fun e => h (by rw [← of_str s, ← of_str t, e])
    rw [decide_eq_false h, beq_eq_false_iff_ne]
    exact this
theorem take_same {l m : List Ct} {k : Nat} (h : l.take k = m.take k) (h1 : k < l.length) (h2 : k < m.length) (e : l[k] = m[k]) : l.take (k + 1) = m.take (k + 1) := by
  rw [List.take_succ_eq_append_getElem h1, List.take_succ_eq_append_getElem h2, h, e]

theorem gneq (s t : ByteArray) (n m : Int) (w : World) : (binOp .neq 54 (.agg #[.string s, .int .i64 n]) (.agg #[.string t, .int .i64 m])).run Tryz.prog w = .ok (.bool (!decide ((s, n) = (t, m)))) w := by
  have u1 := Tryz.underlying9
  have u3 := Tryz.underlying3
  have a1 := Tryz.isAgg9
  have z1 := Tryz.sizeOf9
  have a3 := Tryz.isAgg3
  have z3 := Tryz.sizeOf3
  have hS : Tryz.prog.underlying 54 = some (.struct (Tryz.prog.fieldsOf 54)) := by kernel_rfl
  have hp : Tryz.prog.stoodInHeld 54 = false := by kernel_rfl
  have hl := list_beq s t
  rw [run_neq_struct, show (10000 : Nat) = 9999 + 1 from rfl, run_equalIn_agg w 9999 54 _ _ hS hp]
  simp only [Program.fieldsOf, Tryz.underlying54]
  by_cases e1 : s = t
  · by_cases e2 : n = m
    · have hd : decide ((s, n) = (t, m)) = true := decide_eq_true (by rw [e1, e2])
      rw [hd]
      subst e1 e2
      go_simp
    · have hd : decide ((s, n) = (t, m)) = false := decide_eq_false (fun e => e2 (Prod.ext_iff.1 e).2)
      rw [hd]
      subst e1
      have e3 : (n == m) = false := by rw [beq_eq_false_iff_ne]; exact e2
      go_simp
  · have hd : decide ((s, n) = (t, m)) = false := decide_eq_false (fun e => e1 (Prod.ext_iff.1 e).1)
    rw [decide_eq_false e1] at hl
    rw [hd]
    go_simp

theorem rneq (s t : ByteArray) (n m : Int) (w : World) : (binOp .neq 71 (.agg #[.string s, .int .i64 n]) (.agg #[.string t, .int .i64 m])).run Tryz.prog w = .ok (.bool (!decide ((s, n) = (t, m)))) w := by
  have u1 := Tryz.underlying9
  have u3 := Tryz.underlying3
  have a1 := Tryz.isAgg9
  have z1 := Tryz.sizeOf9
  have a3 := Tryz.isAgg3
  have z3 := Tryz.sizeOf3
  have hS : Tryz.prog.underlying 71 = some (.struct (Tryz.prog.fieldsOf 71)) := by kernel_rfl
  have hp : Tryz.prog.stoodInHeld 71 = false := by kernel_rfl
  have hl := list_beq s t
  rw [run_neq_struct, show (10000 : Nat) = 9999 + 1 from rfl, run_equalIn_agg w 9999 71 _ _ hS hp]
  simp only [Program.fieldsOf, Tryz.underlying71]
  by_cases e1 : s = t
  · by_cases e2 : n = m
    · have hd : decide ((s, n) = (t, m)) = true := decide_eq_true (by rw [e1, e2])
      rw [hd]
      subst e1 e2
      go_simp
    · have hd : decide ((s, n) = (t, m)) = false := decide_eq_false (fun e => e2 (Prod.ext_iff.1 e).2)
      rw [hd]
      subst e1
      have e3 : (n == m) = false := by rw [beq_eq_false_iff_ne]; exact e2
      go_simp
  · have hd : decide ((s, n) = (t, m)) = false := decide_eq_false (fun e => e1 (Prod.ext_iff.1 e).1)
    rw [decide_eq_false e1] at hl
    rw [hd]
    go_simp


set_option maxHeartbeats 3200000 in
theorem equal_any (A A' : Option Addr) (c c' B B' : Nat) (l m : List Ct) (w : World) (hR : Reads w B 2 A l.length (ctC l)) (hR' : Reads w B' 2 A' m.length (ctC m)) (hl : l.length ≤ 1048576) (hm : m.length ≤ 1048576) :
    Calls Tryz.prog 32 #[.slice A l.length c, .slice A' m.length c'] w fun e w' => e = .returned (.bool (decide (l = m))) ∧ Below w.heap.size w w' := by
  have HR := Lib.hid hR
  have HR' := Lib.hid hR'
  clear hR hR'
  by_cases hlen : l.length = m.length
  · have hlen' : (l.length : Int) = (m.length : Int) := by omega
    go_enter Tryz.func32, Tryz.ntmps32
    go_wp2
    go_loopw [13] (fun i wr => ∃ k : Nat, k ≤ l.length ∧ i = .int .i64 (k : Nat) ∧ Hid (l.take k = m.take k) ∧ Below w.heap.size w wr ∧ (∀ p, wr.cell? p = w.cell? p)) (fun i _ => l.length - (intOf i).toNat)
    case atStart => exact ⟨0, Nat.zero_le _, rfl, Lib.hid rfl, Below.refl _ _, fun _ => rfl⟩
    case round =>
      obtain ⟨k, hk, rfl, hT, hb, hcells⟩ := hrel
      by_cases hlt : k < l.length
      · have hltm : k < m.length := by omega
        obtain ⟨bb, o, rfl, hbb, d1, d2⟩ := cts_at HR.out hlt
        obtain ⟨bb', o', rfl, hbb', d1', d2'⟩ := cts_at HR'.out hltm
        rw [← hcells] at d1 d2 d1' d2'
        have T := Lib.hid (take_same hT.out hlt hltm)
        have hb' := Lib.hid hb
        have Hc := Lib.hid hcells
        have Nk : Hid (¬ (l[k] = m[k]) → ¬ l = m) := Lib.hid (fun h e => h (by subst e; rfl))
        have hki : (k : Int) < (l.length : Int) := by omega
        have hki' : (k : Int) < (m.length : Int) := by omega
        have hki0 : (0 : Int) ≤ (k : Int) := by omega
        clear hb hcells hT
        generalize hx : l[k] = xx at *
        generalize hy : m[k] = yy at *
        clear hx hy
        obtain ⟨x, y⟩ := xx
        obtain ⟨x', y'⟩ := yy
        simp only at d1 d2 d1' d2'
        have hne := fun W => gneq x x' y y' W
        by_cases e : ((x, y) : Ct) = (x', y')
        · rw [decide_eq_true e] at hne
          have T2 := Lib.hid (T.out e)
          clear T Nk e
          go_wp2
          go_region
          go_wp2
          go_roundw
          case rel => exact ⟨k + 1, by omega, by go_num, T2, hb'.out.drew, Hc.out⟩
          case measure => simp [intOf]; omega
        · rw [decide_eq_false e] at hne
          have N2 := Lib.hid (Nk.out e)
          clear T Nk e
          go_wp2
          go_region
          go_wp2
          go_ret
          exact ⟨by rw [decide_eq_false N2.out]; rfl, hb'.out.drew⟩
      · have hall : l = m := by
          have h1 : l.take k = l := List.take_of_length_le (by omega)
          have h2 : m.take k = m := List.take_of_length_le (by omega)
          rw [← h1, ← h2, hT.out]
        have hb' := Lib.hid hb
        have hki : (l.length : Int) ≤ (k : Int) := by omega
        clear hb hcells hT
        go_wp2
        go_ret
        exact ⟨by rw [decide_eq_true hall]; rfl, hb'.out⟩
  · have : ¬ l = m := fun e => hlen (by rw [e])
    have hlen' : ((l.length : Int) == (m.length : Int)) = false := by rw [beq_eq_false_iff_ne]; omega
    rw [decide_eq_false this]
    go_enter Tryz.func32, Tryz.ntmps32
    go_wp2
    go_ret
    exact ⟨rfl, Below.refl _ _⟩

theorem gsame_any (A A' : Option Addr) (c c' B B' : Nat) (l m : List Ct) (w : World) (hR : Reads w B 2 A l.length (ctC l)) (hR' : Reads w B' 2 A' m.length (ctC m)) (hl : l.length ≤ 1048576) (hm : m.length ≤ 1048576) :
    Calls Tryz.prog 16 #[.slice A l.length c, .slice A' m.length c'] w fun e w' => e = .returned (.bool (decide (l = m))) ∧ Below w.heap.size w w' := by
  have c0 := equal_any A A' c c' B B' l m w hR hR' hl hm
  clear hR hR'
  go_enter Tryz.func16, Tryz.ntmps16
  go_wp2_with fail
  refine c0.mono ?_
  rintro e w2 ⟨rfl, hb2⟩
  go_wp2
  go_ret
  exact ⟨rfl, hb2⟩

set_option maxHeartbeats 3200000 in
theorem lsame_any (A A' : Option Addr) (c c' B B' : Nat) (l m : List Ct) (w : World) (hR : Reads w B 2 A l.length (ctC l)) (hR' : Reads w B' 2 A' m.length (ctC m)) (hl : l.length ≤ 1048576) (hm : m.length ≤ 1048576) :
    Calls Tryz.prog 11 #[.slice A l.length c, .slice A' m.length c'] w fun e w' => e = .returned (.bool (decide (l = m))) ∧ Below w.heap.size w w' := by
  have HR := Lib.hid hR
  have HR' := Lib.hid hR'
  clear hR hR'
  by_cases hlen : l.length = m.length
  · have hlen' : (l.length : Int) = (m.length : Int) := by omega
    go_enter Tryz.func11, Tryz.ntmps11
    go_wp2
    go_loopw [5] (fun i wr => ∃ k : Nat, k ≤ l.length ∧ i = .int .i64 (k : Nat) ∧ Hid (l.take k = m.take k) ∧ Below w.heap.size w wr ∧ (∀ p, wr.cell? p = w.cell? p)) (fun i _ => l.length - (intOf i).toNat)
    case atStart => exact ⟨0, Nat.zero_le _, rfl, Lib.hid rfl, Below.refl _ _, fun _ => rfl⟩
    case round =>
      obtain ⟨k, hk, rfl, hT, hb, hcells⟩ := hrel
      by_cases hlt : k < l.length
      · have hltm : k < m.length := by omega
        obtain ⟨bb, o, rfl, hbb, d1, d2⟩ := cts_at HR.out hlt
        obtain ⟨bb', o', rfl, hbb', d1', d2'⟩ := cts_at HR'.out hltm
        rw [← hcells] at d1 d2 d1' d2'
        have T := Lib.hid (take_same hT.out hlt hltm)
        have hb' := Lib.hid hb
        have Hc := Lib.hid hcells
        have Nk : Hid (¬ (l[k] = m[k]) → ¬ l = m) := Lib.hid (fun h e => h (by subst e; rfl))
        have hki : (k : Int) < (l.length : Int) := by omega
        have hki' : (k : Int) < (m.length : Int) := by omega
        have hki0 : (0 : Int) ≤ (k : Int) := by omega
        clear hb hcells hT
        generalize hx : l[k] = xx at *
        generalize hy : m[k] = yy at *
        clear hx hy
        obtain ⟨x, y⟩ := xx
        obtain ⟨x', y'⟩ := yy
        simp only at d1 d2 d1' d2'
        have hl := list_beq x x'
        by_cases e1 : x = x'
        · rw [decide_eq_true e1] at hl
          by_cases e2 : y = y'
          · have T2 := Lib.hid (T.out (by rw [e1, e2]))
            have hy : (y == y') = true := by rw [beq_iff_eq]; exact e2
            clear T Nk e1
            subst e2
            go_wp2
            go_quiet (fail)
            go_wp2
            go_roundw
            case rel => exact ⟨k + 1, by omega, by go_num, T2, hb'.out.trans ⟨rfl, rfl, rfl, Nat.le_refl _, fun _ _ => rfl⟩, Hc.out⟩
            case measure => simp [intOf]; omega
          · have N2 := Lib.hid (Nk.out (fun h => e2 (Prod.ext_iff.1 h).2))
            have hy : (y == y') = false := by rw [beq_eq_false_iff_ne]; exact e2
            clear T Nk e1
            go_wp2
            go_quiet (fail)
            go_wp2
            go_ret
            exact ⟨by rw [decide_eq_false N2.out]; rfl, hb'.out.trans ⟨rfl, rfl, rfl, Nat.le_refl _, fun _ _ => rfl⟩⟩
        · rw [decide_eq_false e1] at hl
          have N2 := Lib.hid (Nk.out (fun h => e1 (Prod.ext_iff.1 h).1))
          clear T Nk e1
          go_wp2
          go_quiet (fail)
          go_wp2
          go_ret
          exact ⟨by rw [decide_eq_false N2.out]; rfl, hb'.out.trans ⟨rfl, rfl, rfl, Nat.le_refl _, fun _ _ => rfl⟩⟩
      · have hall : l = m := by
          have h1 : l.take k = l := List.take_of_length_le (by omega)
          have h2 : m.take k = m := List.take_of_length_le (by omega)
          rw [← h1, ← h2, hT.out]
        have hb' := Lib.hid hb
        have hki : (l.length : Int) ≤ (k : Int) := by omega
        clear hb hcells hT
        go_wp2
        go_ret
        exact ⟨by rw [decide_eq_true hall]; rfl, hb'.out⟩
  · have : ¬ l = m := fun e => hlen (by rw [e])
    have hlen' : ((l.length : Int) == (m.length : Int)) = false := by rw [beq_eq_false_iff_ne]; omega
    rw [decide_eq_false this]
    go_enter Tryz.func11, Tryz.ntmps11
    go_wp2
    go_ret
    exact ⟨rfl, Below.refl _ _⟩
end Go.Proofs.YtjeahdnbpiahaaaGreat.Gr
end
