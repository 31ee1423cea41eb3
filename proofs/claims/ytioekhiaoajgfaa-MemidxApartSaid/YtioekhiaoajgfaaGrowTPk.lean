/- Regions that draw their order and end in a forced tail (a store): one walk of the lexical order, calls that make memory let in ahead of the tail. -/
import Derived.StillTail
import Derived.Test.YtioekhiaoajgfaaGrowPk
namespace Go.Proofs.Ytioekhiaoajgfaa
open Go Go.RowKit

section
variable {P : Program} {ops : Array Oper} {md : Region.Mode} {C : World → Prop} {G : World → World → Prop} {Q : Act → World → Prop} {S : Nat → Option RSpec} {n g : Nat} {K : Array Bool → Act → (Nat → World → Prop) → Prop}

def TAnyL (P : Program) (md : Region.Mode) (ops : Array Oper) (C : World → Prop) (G : World → World → Prop) (S : Nat → Option RSpec) (n : Nat) (K : Array Bool → Act → (Nat → World → Prop) → Prop) : Nat → Array Bool → Act → (Nat → World → Prop) → Prop
  | 0, listed, a, F => SatT C F → K listed a F
  | fuel + 1, listed, a, F => SatT C F → (Region.ready md ops listed ≠ [] ∧
    ∀ i ∈ Region.ready md ops listed, i < n ∧ ∀ o, ops[i]? = some o → stepT P ops C G md S i o (TAnyL P md ops C G S n K fuel (listed.setIfInBounds i true)) a F)

theorem wpAny_of_TL (hS : ∀ i s, S i = some s → ∀ x w w', G w w' → s.Φ x w → s.Φ x w') {Q' : Exit → Act → World → Prop} (hK : ∀ listed a F w, K listed a F → C w → (∀ j, F j w) → wpAny P md ops Q' g listed a w) :
    ∀ (fuel : Nat) (listed : Array Bool) (a : Act) (F : Nat → World → Prop) (w : World), C w → (∀ j, F j w) → Lasts G F → TAnyL P md ops C G S n K fuel listed a F → wpAny P md ops Q' (fuel + g) listed a w
  | 0, _, a, F, w, hC, hF, _, h => by rw [Nat.zero_add]; exact hK _ _ _ _ (h ⟨w, hC, hF⟩) hC hF
  | fuel + 1, listed, a, F, w, hC, hF, hL, h => by
    rw [show fuel + 1 + g = (fuel + g) + 1 by omega]
    have h := h ⟨w, hC, hF⟩
    refine ⟨fun h0 => absurd h0 h.1, fun i hi => ?_⟩
    unfold wpOp
    obtain ⟨_, o, ho, _⟩ := mem_ready.1 hi
    simp only [ho]
    have hs := (h.2 i hi).2 o ho
    unfold stepT at hs
    split
    · rename_i hw
      rw [if_pos hw] at hs
      left
      split at hs
      · rename_i hSi
        obtain ⟨c, h1, h2⟩ := hs
        rcases h1 w hC (fun e _ _ => hF e.on) with hr | ⟨hr, rfl⟩
        · unfold Oper.wp; rw [hr]
          exact wpAny_of_TL hS hK fuel _ _ F w hC hF hL h2
        · unfold Oper.wp; rw [hr]
          exact wpAny_of_TL hS hK fuel _ _ F w hC hF hL h2
      · rename_i s hSi
        refine wp_of_gives ?_ (hs.1 w hC (fun e _ _ => hF e.on))
        rintro v w' hg ⟨hC', x, rfl, hx⟩
        refine wpAny_of_TL hS hK fuel _ _ _ w' hC' ?_ (hL.upd i (hS i s hSi x)) (hs.2 x)
        intro j
        unfold upd
        split
        · exact ⟨hL j _ _ hg (hF j), hx⟩
        · exact hL j _ _ hg (hF j)
    · rename_i hw
      rw [if_neg hw] at hs
      exact wpAny_of_TL hS hK fuel _ _ F w hC hF hL hs

theorem TAnyL_first (hS : ∀ i s, S i = some s → ∀ x w w', G w w' → s.Φ x w → s.Φ x w') {i : Nat} {oi : Oper} (hi : ops[i]? = some oi) (hsel : ∀ (j : Nat) (o : Oper) cs b, ops[j]? = some o → o.op ≠ .select cs b)
    (hs : Region.sinkB md ops n = true) (hc : Region.chainB md ops n = true) (hn : n < ops.size) (hin : i < n) (hdone : ∀ listed a F, K listed a F → ∀ j ∈ Region.ready md ops listed, n ≤ j)
    {V : Type} {f : V → Value} {p : V → Option (World → Prop)} :
    ∀ (fuel : Nat) (listed : Array Bool) (a : Act) (F : Nat → World → Prop), HeadInv md ops n listed → Lasts G F →
      (∀ j oj, ops[j]? = some oj → j ≠ i → listed.getD j true = false → (∀ e ∈ oj.after, Region.binds md e = true → e.on ≠ i) → oi.apart ops oj = true) →
      i ∈ Region.ready md ops listed → Head P ops C G md S i oi a F V f p →
      (∀ x, TAnyL P md ops C G S n K fuel (listed.setIfInBounds i true) (a.put oi.dst (f x)) (updO F i (p x))) → TAnyL P md ops C G S n K (fuel + 1) listed a F := by
  intro fuel
  induction fuel with
  | zero =>
    intro listed a F inv hL _ hr hy H hsat
    have hun := (mem_ready.1 hr).1
    refine ⟨fun h => (by rw [h] at hr; cases hr), fun j hj => ?_⟩
    have hjn : j < n := by
      rcases Nat.lt_or_ge j n with h | h
      · exact h
      · exact absurd hj (tail_waits hs hc hn inv _ i rfl hin hun j h)
    refine ⟨hjn, fun oj hoj => ?_⟩
    by_cases hji : j = i
    · subst hji
      rw [hi] at hoj
      injection hoj with hoj
      subst hoj
      exact hy.step H
    · obtain ⟨x, hx⟩ := hy.sat hL hsat
      have := hdone _ _ _ (H x hx) j (ready_mono hj hji)
      omega
  | succ fuel ih =>
    intro listed a F inv hL hfree hr hy H hsat
    have hun0 := (mem_ready.1 hr).1
    refine ⟨fun h => (by rw [h] at hr; cases hr), fun j hj => ?_⟩
    have hjn : j < n := by
      rcases Nat.lt_or_ge j n with h | h
      · exact h
      · exact absurd hj (tail_waits hs hc hn inv _ i rfl hin hun0 j h)
    refine ⟨hjn, fun oj hoj => ?_⟩
    by_cases hji : j = i
    · subst hji
      rw [hi] at hoj
      injection hoj with hoj
      subst hoj
      exact hy.step H
    · obtain ⟨hjun, oj', hoj', hall⟩ := mem_ready.1 hj
      rw [hoj] at hoj'
      injection hoj' with hoj'
      subst hoj'
      have hnot : ∀ e ∈ oj.after, Region.binds md e = true → e.on ≠ i := fun e he hb heq => by
        have h1 := hall e he hb
        have h0 := (mem_ready.1 hr).1
        rw [heq] at h1
        rcases Nat.lt_or_ge i listed.size with h' | h'
        · simp [h'] at h0 h1; rw [h0] at h1; cases h1
        · simp [Array.getElem?_eq_none h'] at h1
      have hnot2 : ∀ e ∈ oi.after, Region.binds md e = true → e.on ≠ j := fun e he hb heq => by
        obtain ⟨h0, o2, ho2, hall2⟩ := mem_ready.1 hr
        rw [hi] at ho2
        injection ho2 with ho2
        subst ho2
        have h1 := hall2 e he hb
        rw [heq] at h1
        rcases Nat.lt_or_ge j listed.size with h' | h'
        · simp [h'] at hjun h1; rw [hjun] at h1; cases h1
        · simp [Array.getElem?_eq_none h'] at h1
      have hap := hfree j oj hoj hji hjun hnot
      obtain ⟨a1, a2, a3⟩ := Oper.apart_spec hap
      have hsi : ∀ cs b, oi.op ≠ .select cs b := fun cs b => hsel i oi cs b hi
      have hsj : ∀ cs b, oj.op ≠ .select cs b := fun cs b => hsel j oj cs b hoj
      obtain ⟨x0, hx0⟩ := hy.sat hL hsat
      obtain ⟨Vj, fj, pj, hj0, _⟩ := head_of_step (((H x0 hx0).2 j (ready_mono hj hji)).2 oj hoj)
      have hjH : ∀ x, Head P ops C G md S j oj (a.put oi.dst (f x)) (updO F i (p x)) Vj fj pj := fun x =>
        hj0.same ((execOp_put oj hsj a oi.dst _ a1).trans (execOp_put oj hsj a oi.dst _ a1).symm) ((wanted_put oj a oi.dst _ a1).trans (wanted_put oj a oi.dst _ a1).symm) (fun w => (deps_updO hnot w).trans (deps_updO hnot w).symm)
      have hja : Head P ops C G md S j oj a F Vj fj pj := hj0.same (execOp_put oj hsj a oi.dst _ a1).symm (wanted_put oj a oi.dst _ a1).symm (fun w => (deps_updO hnot w).symm)
      refine hja.step fun y => ?_
      refine ih (listed.setIfInBounds j true) (a.put oj.dst (fj y)) (updO F j (pj y)) (inv.set hj hjn) (hja.lasts hS hL y) ?_ (ready_mono hr (Ne.symm hji)) ?_ ?_
      · intro k ok hk hki hun hno
        refine hfree k ok hk hki ?_ hno
        by_cases hjk : j = k
        · subst hjk; exact hjun
        · rw [getD_set_ne true hjk] at hun; exact hun
      · exact hy.same (execOp_put oi hsi a oj.dst _ a3) (wanted_put oi a oj.dst _ a3) (fun w => deps_updO hnot2 w)
      · intro x
        rw [← updO_comm (Ne.symm hji), ← Act.put_comm a (f x) (fj y) a2, Array.setIfInBounds_comm _ _ hji]
        have hb : SatT C (updO F i (p x)) → TAnyL P md ops C G S n K fuel ((listed.setIfInBounds i true).setIfInBounds j true) ((a.put oi.dst (f x)).put oj.dst (fj y)) (updO (updO F i (p x)) j (pj y)) := by
          intro hsx
          obtain ⟨V', f', p', h', hk'⟩ := head_of_step (((H x hsx).2 j (ready_mono hj hji)).2 oj hoj)
          obtain ⟨y', e1, e2⟩ := (hjH x).one h' hsx y
          rw [← e1, ← e2]
          exact hk' y'
        cases fuel with
        | zero => exact fun hs => hb (sat_updO hs) hs
        | succ fuel => exact fun hs => hb (sat_updO hs) hs

theorem TAnyL_lex (hS : ∀ i s, S i = some s → ∀ x w w', G w w' → s.Φ x w → s.Φ x w') (hsel : Region.noSelect ops = true) (hs : Region.sinkB md ops n = true) (hc : Region.chainB md ops n = true) (hn : n < ops.size) :
    ∀ (l : List Oper) (k : Nat) (listed : Array Bool) (a : Act) (F : Nat → World → Prop), HeadInv md ops n listed → Lasts G F → (∀ j, j < l.length → l[j]? = ops[k + j]?) → k + l.length = n →
    Region.lexHead md ops g l.length k listed = true → wpGrow P ops C G md S Q l k a F →
    TAnyL P md ops C G S n (fun listed' a' F' => Region.seqB md ops g n listed' = true ∧ FinT C Q a' F') l.length listed a F
  | [], k, listed, a, F, _, _, _, hk, hB, h => fun _ => by
    have : k = n := by simpa using hk
    subst this
    exact ⟨by simpa [Region.lexHead] using hB, h⟩
  | o :: l, k, listed, a, F, inv, hL, hl, hk, hB, h => by
    have h0 : ops[k]? = some o := by simpa using (hl 0 (by simp)).symm
    simp only [List.length_cons, Region.lexHead, Bool.and_eq_true] at hB
    obtain ⟨⟨hr, hf⟩, hB'⟩ := hB
    have hkn : k < n := by simp only [List.length_cons] at hk; omega
    have hr' : k ∈ Region.ready md ops listed := by simpa using hr
    obtain ⟨V, f, p, hh, hk'⟩ := head_of_step (show stepT P ops C G md S k o (wpGrow P ops C G md S Q l (k + 1)) a F from h)
    exact TAnyL_first hS h0 (Region.noSelect_spec hsel) hs hc hn hkn (fun listed' a' F' hL => seqB_ready hL.1) l.length listed a F inv hL (Region.free_spec h0 hf) hr' hh
      (fun x => TAnyL_lex hS hsel hs hc hn l (k + 1) _ _ _ (inv.set hr' hkn) (hh.lasts hS hL x) (fun j hj => by have := hl (j + 1) (by simp; omega); simpa [Nat.add_assoc, Nat.add_comm 1 j] using this) (by simp only [List.length_cons] at hk; omega) hB' (hk' x))

/-- **One walk of the lexical order serves every order**, calls that make memory let in, a forced tail behind. -/
theorem wp_region_grow_tail {id : Nat} {Q' : Exit → Act → World → Prop} {a : Act} {w : World} {l : List Oper} (n : Nat) (S : Nat → Option RSpec) (C : World → Prop) (G : World → World → Prop)
    (hm : P.follows .mixedOrders = true) (hB : Region.lexTailB .any l.toArray n = true) (hS : ∀ i s, S i = some s → ∀ x w w', G w w' → s.Φ x w → s.Φ x w') (hC : C { w with drawn := w.drawn + 1 })
    (h : GrowAt P l.toArray C G .any S (fun a w => wpList P l.toArray Q' (l.drop n) a w) (l.take n) 0 a (fun _ _ => True)) : (Code.region id l.toArray true).wp P Q' a w := by
  simp only [Region.lexTailB, Bool.and_eq_true, decide_eq_true_eq] at hB
  obtain ⟨⟨⟨⟨hsel, hn⟩, hs⟩, hc⟩, hlex⟩ := hB
  have hn' : n < l.length := by simpa using hn
  have htl : (l.take n).length = n := by simp; omega
  have hdl : (l.drop n).length = l.toArray.size - n := by simp
  have inv0 : HeadInv .any l.toArray n (Array.replicate l.toArray.size false) :=
    ⟨by simp, fun j oj _ hl => (by rw [getD_replicate_false] at hl; cases hl), fun t _ ht => getD_in (by simpa using ht) (getD_replicate_false _ _)⟩
  have H := TAnyL_lex (C := C) (G := G) (md := .any) (g := l.toArray.size - n) hS hsel hs hc hn (l.take n) 0 _ a (fun _ _ => True) inv0 (fun _ _ _ _ _ => trivial) (fun j hj => by
    have hj' : j < n := by rw [htl] at hj; exact hj
    simp [hj']) (by simpa using htl) (by rw [htl]; exact hlex) h.out
  refine wp_region_any hm ?_
  have := wpAny_of_TL (Q' := Q') (g := l.toArray.size - n) hS (fun listed a' F' w' hL hC' hF' => by
    have := wpAny_of_seq (md := .any) (Q' := Q') (l.drop n) n listed a' w' (fun j => by simp [List.getElem?_drop]) (by rw [hdl]; exact hL.1) (hL.2 w' hC' hF')
    rwa [hdl] at this) _ _ _ _ _ hC (fun _ => trivial) (fun _ _ _ _ _ => trivial) H
  rw [htl, show n + (l.toArray.size - n) = l.toArray.size by omega] at this
  exact this
theorem give_value {o : Oper} {a : Act} {w : World} {R : Value → World → Prop} {u : Value} {w' : World} (hr : (execOp a.eval o).run P w = .ok (.value u) w') (hg : G w w') (h : R u w') : growUpon P G w R ((execOp a.eval o).run P w) := by
  rw [hr]; exact ⟨hg, h⟩
end
end Go.Proofs.Ytioekhiaoajgfaa
