/- Regions that draw their order and hold calls that make memory: one walk of the lexical order, what a call hands back known by a fact that lasts. -/
import Derived.Still
import Derived.Below
import Derived.Deep.Draws
import Derived.StillTail
section
namespace Go.Proofs.YtlfpfkallgkjdaaGreat
open Go Go.RowKit

/-- What a call hands back: a value of some shape, and a fact on it that lasts. -/
structure RSpec where
  α : Type
  f : α → Value
  Φ : α → World → Prop

section
variable {P : Program} {ops : Array Oper} {md : Region.Mode} {C : World → Prop} {G : World → World → Prop} {Q : Act → World → Prop} {S : Nat → Option RSpec}

def growUpon (P : Program) (G : World → World → Prop) (w : World) (R : Value → World → Prop) : Result Next → Prop
  | .ok (.value u) w' => G w w' ∧ R u w'
  | .ok .skip w' => G w w' ∧ R undef w'
  | .ok (.enter f args) w' => Calls P f args w' (fun e w'' => ∃ v, e = .returned v ∧ G w w'' ∧ R v w'')
  | _ => False
/-- What holds of the operations that an operation waits for. -/
def Deps (md : Region.Mode) (o : Oper) (F : Nat → World → Prop) (w : World) : Prop := ∀ e ∈ o.after, Region.binds md e = true → F e.on w
def upd (F : Nat → World → Prop) (i : Nat) (p : World → Prop) : Nat → World → Prop := fun j w => if j = i then F j w ∧ p w else F j w
def Fixed (P : Program) (C : World → Prop) (md : Region.Mode) (F : Nat → World → Prop) (o : Oper) (a : Act) (c : Value) : Prop :=
  ∀ w, C w → Deps md o F w → (execOp a.eval o).run P w = .ok (.value c) w ∨ ((execOp a.eval o).run P w = .ok .skip w ∧ c = undef)
def Gives (P : Program) (C : World → Prop) (G : World → World → Prop) (md : Region.Mode) (F : Nat → World → Prop) (o : Oper) (a : Act) (s : RSpec) : Prop :=
  ∀ w, C w → Deps md o F w → growUpon P G w (fun v w' => C w' ∧ ∃ x, v = s.f x ∧ s.Φ x w') ((execOp a.eval o).run P w)
def stepT (P : Program) (ops : Array Oper) (C : World → Prop) (G : World → World → Prop) (md : Region.Mode) (S : Nat → Option RSpec) (i : Nat) (o : Oper) (K : Act → (Nat → World → Prop) → Prop) (a : Act) (F : Nat → World → Prop) : Prop :=
  if Region.wanted o (yielded ops a.tmps) = true then
    match S i with
    | none => ∃ c, Fixed P C md F o a c ∧ K (a.put o.dst c) F
    | some s => Gives P C G md F o a s ∧ ∀ x, K (a.put o.dst (s.f x)) (upd F i (s.Φ x))
  else K (a.put o.dst undef) F
def FinT (C : World → Prop) (Q : Act → World → Prop) (a : Act) (F : Nat → World → Prop) : Prop := ∀ w, C w → (∀ j, F j w) → Q a w
def SatT (C : World → Prop) (F : Nat → World → Prop) : Prop := ∃ w, C w ∧ ∀ j, F j w
def TAny (P : Program) (md : Region.Mode) (ops : Array Oper) (C : World → Prop) (G : World → World → Prop) (S : Nat → Option RSpec) (Q : Act → World → Prop) : Nat → Array Bool → Act → (Nat → World → Prop) → Prop
  | 0, listed, a, F => SatT C F → (Region.ready md ops listed = [] ∧ FinT C Q a F)
  | fuel + 1, listed, a, F => SatT C F → ((Region.ready md ops listed = [] → FinT C Q a F) ∧
    ∀ i ∈ Region.ready md ops listed, ∀ o, ops[i]? = some o → stepT P ops C G md S i o (TAny P md ops C G S Q fuel (listed.setIfInBounds i true)) a F)
/-- The walk of the lexical order. -/
def wpGrow (P : Program) (ops : Array Oper) (C : World → Prop) (G : World → World → Prop) (md : Region.Mode) (S : Nat → Option RSpec) (Q : Act → World → Prop) : List Oper → Nat → Act → (Nat → World → Prop) → Prop
  | [], _, a, F => FinT C Q a F
  | o :: rest, k, a, F => stepT P ops C G md S k o (wpGrow P ops C G md S Q rest (k + 1)) a F

theorem stepT_mono {i : Nat} {o : Oper} {K K' : Act → (Nat → World → Prop) → Prop} {a : Act} {F : Nat → World → Prop} (h : ∀ a F, K a F → K' a F) (hh : stepT P ops C G md S i o K a F) : stepT P ops C G md S i o K' a F := by
  unfold stepT at *
  split
  · rename_i hw
    rw [if_pos hw] at hh
    split
    · rename_i hs
      simp only [hs] at hh
      obtain ⟨c, h1, h2⟩ := hh
      exact ⟨c, h1, h _ _ h2⟩
    · rename_i s hs
      simp only [hs] at hh
      exact ⟨hh.1, fun x => h _ _ (hh.2 x)⟩
  · rename_i hw
    rw [if_neg hw] at hh
    exact h _ _ hh

/-- Facts last. -/
def Lasts (G : World → World → Prop) (F : Nat → World → Prop) : Prop := ∀ j w w', G w w' → F j w → F j w'
theorem Lasts.upd {F : Nat → World → Prop} (h : Lasts G F) (i : Nat) {p : World → Prop} (hp : ∀ w w', G w w' → p w → p w') : Lasts G (upd F i p) := by
  intro j w w' hg hf
  unfold Proofs.YtlfpfkallgkjdaaGreat.upd at *
  split
  · rename_i e; rw [if_pos e] at hf; exact ⟨h j _ _ hg hf.1, hp _ _ hg hf.2⟩
  · rename_i e; rw [if_neg e] at hf; exact h j _ _ hg hf

theorem wp_of_gives {o : Oper} {a : Act} {K' : Act → World → Prop} {Q' : Exit → Act → World → Prop} {w : World} {R : Value → World → Prop} (h : ∀ v w', G w w' → R v w' → K' (a.put o.dst v) w')
    (hh : growUpon P G w R ((execOp a.eval o).run P w)) : o.wp P a w K' Q' := by
  unfold Oper.wp
  generalize (execOp a.eval o).run P w = r at *
  cases r with
  | ok n w' =>
    cases n <;> simp only [growUpon] at hh <;> simp only [Oper.upon]
    case value u => exact h _ _ hh.1 hh.2
    case skip => exact h _ _ hh.1 hh.2
    case enter f args => exact hh.mono fun e w'' ⟨v, he, hg, hr⟩ => by subst he; exact h _ _ hg hr
  | halt x w' => simp only [growUpon] at hh

theorem wpAny_of_T (hS : ∀ i s, S i = some s → ∀ x w w', G w w' → s.Φ x w → s.Φ x w') {Q' : Exit → Act → World → Prop} (hQ : ∀ a w, Q a w → Q' .normal a w) :
    ∀ (fuel : Nat) (listed : Array Bool) (a : Act) (F : Nat → World → Prop) (w : World), C w → (∀ j, F j w) → Lasts G F → TAny P md ops C G S Q fuel listed a F → wpAny P md ops Q' fuel listed a w
  | 0, _, a, F, w, hC, hF, _, h => ⟨(h ⟨w, hC, hF⟩).1, hQ _ _ ((h ⟨w, hC, hF⟩).2 w hC hF)⟩
  | fuel + 1, listed, a, F, w, hC, hF, hL, h => by
    have h := h ⟨w, hC, hF⟩
    refine ⟨fun h0 => hQ _ _ (h.1 h0 w hC hF), fun i hi => ?_⟩
    unfold wpOp
    obtain ⟨_, o, ho, _⟩ := mem_ready.1 hi
    simp only [ho]
    have hs := h.2 i hi o ho
    unfold stepT at hs
    split
    · rename_i hw
      rw [if_pos hw] at hs
      left
      split at hs
      · rename_i hSi
        obtain ⟨c, h1, h2⟩ := hs
        rcases h1 w hC (fun e _ _ => hF e.on) with hr | ⟨hr, rfl⟩
        · unfold Oper.wp; rw [hr]
          exact wpAny_of_T hS hQ fuel _ _ F w hC hF hL h2
        · unfold Oper.wp; rw [hr]
          exact wpAny_of_T hS hQ fuel _ _ F w hC hF hL h2
      · rename_i s hSi
        refine wp_of_gives ?_ (hs.1 w hC (fun e _ _ => hF e.on))
        rintro v w' hg ⟨hC', x, rfl, hx⟩
        refine wpAny_of_T hS hQ fuel _ _ _ w' hC' ?_ (hL.upd i (hS i s hSi x)) (hs.2 x)
        intro j
        unfold upd
        split
        · exact ⟨hL j _ _ hg (hF j), hx⟩
        · exact hL j _ _ hg (hF j)
    · rename_i hw
      rw [if_neg hw] at hs
      exact wpAny_of_T hS hQ fuel _ _ F w hC hF hL hs

/-- What holds more, behind an operation: nothing, or a fact. -/
def updO (F : Nat → World → Prop) (i : Nat) : Option (World → Prop) → Nat → World → Prop
  | none => F
  | some p => upd F i p
theorem upd_comm {F : Nat → World → Prop} {i j : Nat} (h : i ≠ j) (p q : World → Prop) : upd (upd F i p) j q = upd (upd F j q) i p := by
  funext k w
  unfold upd
  by_cases h1 : k = j <;> by_cases h2 : k = i
  · omega
  · subst h1; simp [h2]
  · subst h2; simp [h1]
  · simp [h1, h2]
theorem updO_comm {F : Nat → World → Prop} {i j : Nat} (h : i ≠ j) (p q : Option (World → Prop)) : updO (updO F i p) j q = updO (updO F j q) i p := by
  cases p <;> cases q <;> simp only [updO]
  exact upd_comm h _ _
theorem updO_imp {F : Nat → World → Prop} {i : Nat} {p : Option (World → Prop)} {j : Nat} {w : World} (h : updO F i p j w) : F j w := by
  cases p with
  | none => exact h
  | some p =>
    simp only [updO, upd] at h
    split at h
    · exact h.1
    · exact h
theorem sat_updO {F : Nat → World → Prop} {i : Nat} {p : Option (World → Prop)} (h : SatT C (updO F i p)) : SatT C F := by
  obtain ⟨w, hC, hw⟩ := h
  exact ⟨w, hC, fun j => updO_imp (hw j)⟩
theorem deps_updO {o : Oper} {F : Nat → World → Prop} {i : Nat} {p : Option (World → Prop)} (hn : ∀ e ∈ o.after, Region.binds md e = true → e.on ≠ i) (w : World) : Deps md o (updO F i p) w ↔ Deps md o F w := by
  refine ⟨fun h e he hb => updO_imp (h e he hb), fun h e he hb => ?_⟩
  cases p with
  | none => exact h e he hb
  | some p =>
    simp only [updO, upd]
    rw [if_neg (hn e he hb)]
    exact h e he hb

/-- What an operation does, one of three ways. -/
inductive Head (P : Program) (ops : Array Oper) (C : World → Prop) (G : World → World → Prop) (md : Region.Mode) (S : Nat → Option RSpec) (i : Nat) (o : Oper) (a : Act) (F : Nat → World → Prop) : (V : Type) → (V → Value) → (V → Option (World → Prop)) → Prop
  | skip (h : Region.wanted o (yielded ops a.tmps) = false) : Head P ops C G md S i o a F Unit (fun _ => undef) (fun _ => none)
  | fixed (h : Region.wanted o (yielded ops a.tmps) = true) (hs : S i = none) (c : Value) (hf : Fixed P C md F o a c) : Head P ops C G md S i o a F Unit (fun _ => c) (fun _ => none)
  | gives (h : Region.wanted o (yielded ops a.tmps) = true) (s : RSpec) (hs : S i = some s) (hg : Gives P C G md F o a s) : Head P ops C G md S i o a F s.α s.f (fun x => some (s.Φ x))
theorem Head.step {i : Nat} {o : Oper} {a : Act} {F : Nat → World → Prop} {V : Type} {f : V → Value} {p : V → Option (World → Prop)} (h : Head P ops C G md S i o a F V f p) {K : Act → (Nat → World → Prop) → Prop}
    (hk : ∀ x, K (a.put o.dst (f x)) (updO F i (p x))) : stepT P ops C G md S i o K a F := by
  cases h with
  | skip h => unfold stepT; rw [if_neg (by rw [h]; decide)]; exact hk ()
  | fixed h hs c hf => unfold stepT; rw [if_pos h]; simp only [hs]; exact ⟨c, hf, hk ()⟩
  | gives h s hs hg => unfold stepT; rw [if_pos h]; simp only [hs]; exact ⟨hg, hk⟩
theorem head_of_step {i : Nat} {o : Oper} {a : Act} {F : Nat → World → Prop} {K : Act → (Nat → World → Prop) → Prop} (h : stepT P ops C G md S i o K a F) :
    ∃ (V : Type) (f : V → Value) (p : V → Option (World → Prop)), Head P ops C G md S i o a F V f p ∧ ∀ x, K (a.put o.dst (f x)) (updO F i (p x)) := by
  unfold stepT at h
  by_cases hw : Region.wanted o (yielded ops a.tmps) = true
  · rw [if_pos hw] at h
    split at h
    · rename_i hs
      obtain ⟨c, h1, h2⟩ := h
      exact ⟨_, _, _, .fixed hw hs c h1, fun _ => h2⟩
    · rename_i s hs
      exact ⟨_, _, _, .gives hw s hs h.1, h.2⟩
  · rw [if_neg hw] at h
    exact ⟨_, _, _, .skip (by simpa using hw), fun _ => h⟩
theorem Head.same {i : Nat} {o : Oper} {a a' : Act} {F F' : Nat → World → Prop} {V : Type} {f : V → Value} {p : V → Option (World → Prop)} (h : Head P ops C G md S i o a F V f p)
    (he : execOp a'.eval o = execOp a.eval o) (hw : Region.wanted o (yielded ops a'.tmps) = Region.wanted o (yielded ops a.tmps)) (hd : ∀ w, Deps md o F' w ↔ Deps md o F w) : Head P ops C G md S i o a' F' V f p := by
  cases h with
  | skip h => exact .skip (by rw [hw]; exact h)
  | fixed h hs c hf => exact .fixed (by rw [hw]; exact h) hs c (fun w hC hD => by rw [he]; exact hf w hC ((hd w).1 hD))
  | gives h s hs hg => exact .gives (by rw [hw]; exact h) s hs (fun w hC hD => by rw [he]; exact hg w hC ((hd w).1 hD))
theorem Head.one {i : Nat} {o : Oper} {a : Act} {F : Nat → World → Prop} {V V' : Type} {f : V → Value} {p : V → Option (World → Prop)} {f' : V' → Value} {p' : V' → Option (World → Prop)}
    (h : Head P ops C G md S i o a F V f p) (h' : Head P ops C G md S i o a F V' f' p') (hs : SatT C F) (x : V) : ∃ x', f' x' = f x ∧ p' x' = p x := by
  obtain ⟨w, hC, hF⟩ := hs
  have hD : Deps md o F w := fun e _ _ => hF e.on
  cases h with
  | skip h =>
    cases h' with
    | skip h' => exact ⟨(), rfl, rfl⟩
    | fixed h' _ _ _ => rw [h] at h'; cases h'
    | gives h' _ _ _ => rw [h] at h'; cases h'
  | fixed h hs c hf =>
    cases h' with
    | skip h' => rw [h] at h'; cases h'
    | fixed h' hs' c' hf' =>
      refine ⟨(), ?_, rfl⟩
      show c' = c
      rcases hf w hC hD with h1 | ⟨h1, rfl⟩ <;> rcases hf' w hC hD with h2 | ⟨h2, rfl⟩
      · rw [h1] at h2; injection h2 with h2; injection h2 with h2; exact h2.symm
      · rw [h1] at h2; injection h2 with h2; cases h2
      · rw [h1] at h2; injection h2 with h2; cases h2
      · rfl
    | gives h' s hs' hg' => rw [hs] at hs'; cases hs'
  | gives h s hs hg =>
    cases h' with
    | skip h' => rw [h] at h'; cases h'
    | fixed h' hs' c' hf' => rw [hs] at hs'; cases hs'
    | gives h' s' hs' hg' =>
      rw [hs] at hs'
      injection hs' with hs'
      subst hs'
      exact ⟨x, rfl, rfl⟩
theorem Head.sat {i : Nat} {o : Oper} {a : Act} {F : Nat → World → Prop} {V : Type} {f : V → Value} {p : V → Option (World → Prop)} (h : Head P ops C G md S i o a F V f p) (hL : Lasts G F) (hs : SatT C F) : ∃ x, SatT C (updO F i (p x)) := by
  cases h with
  | skip h => exact ⟨(), hs⟩
  | fixed h _ c hf => exact ⟨(), hs⟩
  | gives h s hsi hg =>
    obtain ⟨w, hC, hF⟩ := hs
    have h1 := hg w hC (fun e _ _ => hF e.on)
    have key : ∀ v w', G w w' → (C w' ∧ ∃ x, v = s.f x ∧ s.Φ x w') → ∃ x, SatT C (updO F i (some (s.Φ x))) := by
      rintro v w' hg ⟨hC', x, _, hx⟩
      refine ⟨x, w', hC', fun j => ?_⟩
      simp only [updO, upd]
      split
      · exact ⟨hL j _ _ hg (hF j), hx⟩
      · exact hL j _ _ hg (hF j)
    generalize (execOp a.eval o).run P w = r at h1
    cases r with
    | ok n w' =>
      cases n <;> simp only [growUpon] at h1
      case value u => exact key _ _ h1.1 h1.2
      case skip => exact key _ _ h1.1 h1.2
      case enter f args =>
        obtain ⟨e, w'', _, ⟨v, _, hg', hr⟩, _⟩ := h1 []
        exact key v w'' hg' hr
    | halt x w' => simp only [growUpon] at h1
theorem Head.lasts {i : Nat} {o : Oper} {a : Act} {F : Nat → World → Prop} {V : Type} {f : V → Value} {p : V → Option (World → Prop)} (hS : ∀ i s, S i = some s → ∀ x w w', G w w' → s.Φ x w → s.Φ x w') (h : Head P ops C G md S i o a F V f p) (hL : Lasts G F) (x : V) : Lasts G (updO F i (p x)) := by
  cases h with
  | skip h => exact hL
  | fixed h _ c hf => exact hL
  | gives h s hs hg => exact hL.upd i (hS i s hs x)

/-- An operation that may come up now may be taken first. -/
theorem TAny_first (hS : ∀ i s, S i = some s → ∀ x w w', G w w' → s.Φ x w → s.Φ x w') {i : Nat} {oi : Oper} (hi : ops[i]? = some oi) (hsel : ∀ (j : Nat) (o : Oper) cs b, ops[j]? = some o → o.op ≠ .select cs b)
    {V : Type} {f : V → Value} {p : V → Option (World → Prop)} :
    ∀ (fuel : Nat) (listed : Array Bool) (a : Act) (F : Nat → World → Prop), Lasts G F →
      (∀ j oj, ops[j]? = some oj → j ≠ i → listed.getD j true = false → (∀ e ∈ oj.after, Region.binds md e = true → e.on ≠ i) → oi.apart ops oj = true) →
      i ∈ Region.ready md ops listed → Head P ops C G md S i oi a F V f p →
      (∀ x, TAny P md ops C G S Q fuel (listed.setIfInBounds i true) (a.put oi.dst (f x)) (updO F i (p x))) → TAny P md ops C G S Q (fuel + 1) listed a F := by
  intro fuel
  induction fuel with
  | zero =>
    intro listed a F hL _ hr hy H hsat
    refine ⟨fun h => (by rw [h] at hr; cases hr), fun j hj oj hoj => ?_⟩
    by_cases hji : j = i
    · subst hji
      rw [hi] at hoj
      injection hoj with hoj
      subst hoj
      exact hy.step H
    · obtain ⟨x, hx⟩ := hy.sat hL hsat
      have := ready_mono hj hji
      rw [(H x hx).1] at this
      cases this
  | succ fuel ih =>
    intro listed a F hL hfree hr hy H hsat
    refine ⟨fun h => (by rw [h] at hr; cases hr), fun j hj oj hoj => ?_⟩
    by_cases hji : j = i
    · subst hji
      rw [hi] at hoj
      injection hoj with hoj
      subst hoj
      exact hy.step H
    · obtain ⟨hjun, oj', hoj', hall⟩ := mem_ready.1 hj
      rw [hoj] at hoj'
      injection hoj' with hoj'
      subst hoj'
      have hnot : ∀ e ∈ oj.after, Region.binds md e = true → e.on ≠ i := fun e he hb heq => by
        have h1 := hall e he hb
        have h0 := (mem_ready.1 hr).1
        rw [heq] at h1
        rcases Nat.lt_or_ge i listed.size with h' | h'
        · simp [h'] at h0 h1; rw [h0] at h1; cases h1
        · simp [Array.getElem?_eq_none h'] at h1
      have hnot2 : ∀ e ∈ oi.after, Region.binds md e = true → e.on ≠ j := fun e he hb heq => by
        obtain ⟨h0, o2, ho2, hall2⟩ := mem_ready.1 hr
        rw [hi] at ho2
        injection ho2 with ho2
        subst ho2
        have h1 := hall2 e he hb
        rw [heq] at h1
        rcases Nat.lt_or_ge j listed.size with h' | h'
        · simp [h'] at hjun h1; rw [hjun] at h1; cases h1
        · simp [Array.getElem?_eq_none h'] at h1
      have hap := hfree j oj hoj hji hjun hnot
      obtain ⟨a1, a2, a3⟩ := Oper.apart_spec hap
      have hsi : ∀ cs b, oi.op ≠ .select cs b := fun cs b => hsel i oi cs b hi
      have hsj : ∀ cs b, oj.op ≠ .select cs b := fun cs b => hsel j oj cs b hoj
      obtain ⟨x0, hx0⟩ := hy.sat hL hsat
      obtain ⟨Vj, fj, pj, hj0, _⟩ := head_of_step ((H x0 hx0).2 j (ready_mono hj hji) oj hoj)
      have hjH : ∀ x, Head P ops C G md S j oj (a.put oi.dst (f x)) (updO F i (p x)) Vj fj pj := fun x =>
        hj0.same ((execOp_put oj hsj a oi.dst _ a1).trans (execOp_put oj hsj a oi.dst _ a1).symm) ((wanted_put oj a oi.dst _ a1).trans (wanted_put oj a oi.dst _ a1).symm) (fun w => (deps_updO hnot w).trans (deps_updO hnot w).symm)
      have hja : Head P ops C G md S j oj a F Vj fj pj := hj0.same (execOp_put oj hsj a oi.dst _ a1).symm (wanted_put oj a oi.dst _ a1).symm (fun w => (deps_updO hnot w).symm)
      refine hja.step fun y => ?_
      refine ih (listed.setIfInBounds j true) (a.put oj.dst (fj y)) (updO F j (pj y)) (hja.lasts hS hL y) ?_ (ready_mono hr (Ne.symm hji)) ?_ ?_
      · intro k ok hk hki hun hno
        refine hfree k ok hk hki ?_ hno
        by_cases hjk : j = k
        · subst hjk; exact hjun
        · rw [getD_set_ne true hjk] at hun; exact hun
      · exact hy.same (execOp_put oi hsi a oj.dst _ a3) (wanted_put oi a oj.dst _ a3) (fun w => deps_updO hnot2 w)
      · intro x
        rw [← updO_comm (Ne.symm hji), ← Act.put_comm a (f x) (fj y) a2, Array.setIfInBounds_comm _ _ hji]
        have hb : SatT C (updO F i (p x)) → TAny P md ops C G S Q fuel ((listed.setIfInBounds i true).setIfInBounds j true) ((a.put oi.dst (f x)).put oj.dst (fj y)) (updO (updO F i (p x)) j (pj y)) := by
          intro hsx
          obtain ⟨V', f', p', h', hk'⟩ := head_of_step ((H x hsx).2 j (ready_mono hj hji) oj hoj)
          obtain ⟨y', e1, e2⟩ := (hjH x).one h' hsx y
          rw [← e1, ← e2]
          exact hk' y'
        cases fuel with
        | zero => exact fun hs => hb (sat_updO hs) hs
        | succ fuel => exact fun hs => hb (sat_updO hs) hs

theorem TAny_lex (hS : ∀ i s, S i = some s → ∀ x w w', G w w' → s.Φ x w → s.Φ x w') (hs : Region.noSelect ops = true) : ∀ (l : List Oper) (k : Nat) (listed : Array Bool) (a : Act) (F : Nat → World → Prop), Lasts G F → (∀ j, l[j]? = ops[k + j]?) →
    Region.lexFrom md ops l.length k listed = true → wpGrow P ops C G md S Q l k a F → TAny P md ops C G S Q l.length listed a F
  | [], _, _, _, _, _, _, hB, h => fun _ => ⟨by simpa [Region.lexFrom] using hB, h⟩
  | o :: l, k, listed, a, F, hL, hl, hB, h => by
    have h0 : ops[k]? = some o := by simpa using (hl 0).symm
    simp only [List.length_cons, Region.lexFrom, Bool.and_eq_true] at hB
    obtain ⟨⟨hr, hf⟩, hB'⟩ := hB
    obtain ⟨V, f, p, hh, hk⟩ := head_of_step (show stepT P ops C G md S k o (wpGrow P ops C G md S Q l (k + 1)) a F from h)
    exact TAny_first hS h0 (Region.noSelect_spec hs) l.length listed a F hL (Region.free_spec h0 hf) (by simpa using hr) hh
      (fun x => TAny_lex hS hs l (k + 1) _ _ _ (hh.lasts hS hL x) (fun j => by have := hl (j + 1); simpa [Nat.add_assoc, Nat.add_comm 1 j] using this) hB' (hk x))

/-- The same, shut: a goal that Lean does not run by itself. -/
structure GrowAt (P : Program) (ops : Array Oper) (C : World → Prop) (G : World → World → Prop) (md : Region.Mode) (S : Nat → Option RSpec) (Q : Act → World → Prop) (l : List Oper) (k : Nat) (a : Act) (F : Nat → World → Prop) : Prop where
  out : wpGrow P ops C G md S Q l k a F
/-- **One walk of the lexical order serves every order**, calls that make memory let in. -/
theorem wp_region_grow {id : Nat} {Q' : Exit → Act → World → Prop} {a : Act} {w : World} {l : List Oper} (S : Nat → Option RSpec) (C : World → Prop) (G : World → World → Prop)
    (hm : P.follows .mixedOrders = true) (hB : Region.lexB .any l.toArray = true) (hS : ∀ i s, S i = some s → ∀ x w w', G w w' → s.Φ x w → s.Φ x w') (hC : C { w with drawn := w.drawn + 1 })
    (h : GrowAt P l.toArray C G .any S (fun a w => Q' .normal a w) l 0 a (fun _ _ => True)) : (Code.region id l.toArray true).wp P Q' a w := by
  simp only [Region.lexB, Bool.and_eq_true] at hB
  refine wp_region_any hm (wpAny_of_T hS (fun _ _ h => h) _ _ _ _ _ hC (fun _ => trivial) (fun _ _ _ _ _ => trivial) ?_)
  have := TAny_lex (C := C) (G := G) (md := .any) hS hB.1 l 0 (Array.replicate l.toArray.size false) a (fun _ _ => True) (fun _ _ _ _ _ => trivial) (by simp) (by simpa using hB.2) h.out
  simpa using this

theorem grow_skip (k' : Nat) (r : Option Bool) (b : Bool) {j : Nat} {o : Oper} {rest : List Oper} {k : Nat} {a : Act} {F : Nat → World → Prop} (hk : k + 1 = k') (hg : o.guard = some (j, b)) (hy : yielded ops a.tmps j = r) (hr : (r == some b) = false)
    (h : GrowAt P ops C G md S Q rest k' (a.put o.dst undef) F) : GrowAt P ops C G md S Q (o :: rest) k a F := by
  have hw : Region.wanted o (yielded ops a.tmps) = false := by
    unfold Region.wanted
    rw [hg]
    simp only [hy]
    exact hr
  subst hk
  refine ⟨?_⟩
  show stepT P ops C G md S k o _ a F
  unfold stepT
  rw [if_neg (by rw [hw]; decide)]
  exact h.out
theorem grow_fix (k' : Nat) (c : Value) {o : Oper} {rest : List Oper} {k : Nat} {a : Act} {F : Nat → World → Prop} (hk : k + 1 = k') (hs : S k = none) (hw : Region.wanted o (yielded ops a.tmps) = true)
    (hf : ∀ w, C w → Deps md o F w → (execOp a.eval o).run P w = .ok (.value c) w) (h : GrowAt P ops C G md S Q rest k' (a.put o.dst c) F) : GrowAt P ops C G md S Q (o :: rest) k a F := by
  subst hk
  refine ⟨?_⟩
  show stepT P ops C G md S k o _ a F
  unfold stepT
  rw [if_pos hw]
  simp only [hs]
  exact ⟨c, fun w hC hD => .inl (hf w hC hD), h.out⟩
theorem grow_give (k' : Nat) (s : RSpec) {o : Oper} {rest : List Oper} {k : Nat} {a : Act} {F : Nat → World → Prop} (hk : k + 1 = k') (hs : S k = some s) (hw : Region.wanted o (yielded ops a.tmps) = true)
    (hg : ∀ w, C w → Deps md o F w → growUpon P G w (fun v w' => C w' ∧ ∃ x, v = s.f x ∧ s.Φ x w') ((execOp a.eval o).run P w)) (h : ∀ x, GrowAt P ops C G md S Q rest k' (a.put o.dst (s.f x)) (upd F k (s.Φ x))) : GrowAt P ops C G md S Q (o :: rest) k a F := by
  subst hk
  refine ⟨?_⟩
  show stepT P ops C G md S k o _ a F
  unfold stepT
  rw [if_pos hw]
  simp only [hs]
  exact ⟨hg, fun x => (h x).out⟩
theorem grow_nil {k : Nat} {a : Act} {F : Nat → World → Prop} (h : ∀ w, C w → (∀ j, F j w) → Q a w) : GrowAt P ops C G md S Q [] k a F := ⟨h⟩
/-- The fact on an operation that this one waits for. -/
theorem deps_get {o : Oper} {F : Nat → World → Prop} {w : World} (h : Deps md o F w) (j : Nat) (hj : (o.after.any fun e => Region.binds md e && e.on == j) = true) : F j w := by
  obtain ⟨e, he, hb⟩ := Array.any_eq_true'.1 hj
  simp only [Bool.and_eq_true, beq_iff_eq] at hb
  have := h e he hb.1
  rwa [hb.2] at this
theorem upd_hit {F : Nat → World → Prop} {i j : Nat} {p : World → Prop} {w : World} (h : upd F i p j w) (e : j = i) : p w := by
  unfold upd at h
  rw [if_pos e] at h
  exact h.2
theorem upd_miss {F : Nat → World → Prop} {i j : Nat} {p : World → Prop} {w : World} (h : upd F i p j w) (e : j ≠ i) : F j w := by
  unfold upd at h
  rwa [if_neg e] at h
theorem give_enter {o : Oper} {a : Act} {w : World} {R : Value → World → Prop} {f : FuncId} {args : Array Value} (hr : (execOp a.eval o).run P w = .ok (.enter f args) w)
    (hc : Calls P f args w (fun e w'' => ∃ v, e = .returned v ∧ G w w'' ∧ R v w'')) : growUpon P G w R ((execOp a.eval o).run P w) := by
  rw [hr]; exact hc
/-- What each call gives, by its number. -/
def specOf : List (Nat × RSpec) → Nat → Option RSpec
  | [], _ => none
  | (i, s) :: l, k => if k = i then some s else specOf l k
def Stab (G : World → World → Prop) (l : List (Nat × RSpec)) : Prop := ∀ i s, specOf l i = some s → ∀ x w w', G w w' → s.Φ x w → s.Φ x w'
theorem stab_nil : Stab G [] := fun _ _ h => by cases h
theorem stab_cons {i : Nat} {s : RSpec} {l : List (Nat × RSpec)} (h : ∀ x w w', G w w' → s.Φ x w → s.Φ x w') (hl : Stab G l) : Stab G ((i, s) :: l) := by
  intro k t ht
  unfold specOf at ht
  split at ht
  · injection ht with ht
    subst ht
    exact h
  · exact hl k t ht
/-- A call that hands back one value. -/
theorem calls_cst {W w : World} {f : FuncId} {args : Array Value} {c : Value} (hC : Below W.heap.size W w) (h : Calls P f args w fun e w' => e = .returned c ∧ Below w.heap.size w w') :
    Calls P f args w (fun e w'' => ∃ v, e = .returned v ∧ Below w.heap.size w w'' ∧ (Below W.heap.size W w'' ∧ ∃ _x : Unit, v = c ∧ True)) :=
  h.mono fun _ _ ⟨he, hb⟩ => ⟨c, he, hb, hC.trans (hb.mono hC.size), (), rfl, trivial⟩
end
end Go.Proofs.YtlfpfkallgkjdaaGreat
end

section
/- Regions that draw their order and end in a forced tail (a store): one walk of the lexical order, calls that make memory let in ahead of the tail. -/
namespace Go.Proofs.YtlfpfkallgkjdaaGreat
open Go Go.RowKit

section
variable {P : Program} {ops : Array Oper} {md : Region.Mode} {C : World → Prop} {G : World → World → Prop} {Q : Act → World → Prop} {S : Nat → Option RSpec} {n g : Nat} {K : Array Bool → Act → (Nat → World → Prop) → Prop}

def TAnyL (P : Program) (md : Region.Mode) (ops : Array Oper) (C : World → Prop) (G : World → World → Prop) (S : Nat → Option RSpec) (n : Nat) (K : Array Bool → Act → (Nat → World → Prop) → Prop) : Nat → Array Bool → Act → (Nat → World → Prop) → Prop
  | 0, listed, a, F => SatT C F → K listed a F
  | fuel + 1, listed, a, F => SatT C F → (Region.ready md ops listed ≠ [] ∧
    ∀ i ∈ Region.ready md ops listed, i < n ∧ ∀ o, ops[i]? = some o → stepT P ops C G md S i o (TAnyL P md ops C G S n K fuel (listed.setIfInBounds i true)) a F)

theorem wpAny_of_TL (hS : ∀ i s, S i = some s → ∀ x w w', G w w' → s.Φ x w → s.Φ x w') {Q' : Exit → Act → World → Prop} (hK : ∀ listed a F w, K listed a F → C w → (∀ j, F j w) → wpAny P md ops Q' g listed a w) :
    ∀ (fuel : Nat) (listed : Array Bool) (a : Act) (F : Nat → World → Prop) (w : World), C w → (∀ j, F j w) → Lasts G F → TAnyL P md ops C G S n K fuel listed a F → wpAny P md ops Q' (fuel + g) listed a w
  | 0, _, a, F, w, hC, hF, _, h => by rw [Nat.zero_add]; exact hK _ _ _ _ (h ⟨w, hC, hF⟩) hC hF
  | fuel + 1, listed, a, F, w, hC, hF, hL, h => by
    rw [show fuel + 1 + g = (fuel + g) + 1 by omega]
    have h := h ⟨w, hC, hF⟩
    refine ⟨fun h0 => absurd h0 h.1, fun i hi => ?_⟩
    unfold wpOp
    obtain ⟨_, o, ho, _⟩ := mem_ready.1 hi
    simp only [ho]
    have hs := (h.2 i hi).2 o ho
    unfold stepT at hs
    split
    · rename_i hw
      rw [if_pos hw] at hs
      left
      split at hs
      · rename_i hSi
        obtain ⟨c, h1, h2⟩ := hs
        rcases h1 w hC (fun e _ _ => hF e.on) with hr | ⟨hr, rfl⟩
        · unfold Oper.wp; rw [hr]
          exact wpAny_of_TL hS hK fuel _ _ F w hC hF hL h2
        · unfold Oper.wp; rw [hr]
          exact wpAny_of_TL hS hK fuel _ _ F w hC hF hL h2
      · rename_i s hSi
        refine wp_of_gives ?_ (hs.1 w hC (fun e _ _ => hF e.on))
        rintro v w' hg ⟨hC', x, rfl, hx⟩
        refine wpAny_of_TL hS hK fuel _ _ _ w' hC' ?_ (hL.upd i (hS i s hSi x)) (hs.2 x)
        intro j
        unfold upd
        split
        · exact ⟨hL j _ _ hg (hF j), hx⟩
        · exact hL j _ _ hg (hF j)
    · rename_i hw
      rw [if_neg hw] at hs
      exact wpAny_of_TL hS hK fuel _ _ F w hC hF hL hs

theorem TAnyL_first (hS : ∀ i s, S i = some s → ∀ x w w', G w w' → s.Φ x w → s.Φ x w') {i : Nat} {oi : Oper} (hi : ops[i]? = some oi) (hsel : ∀ (j : Nat) (o : Oper) cs b, ops[j]? = some o → o.op ≠ .select cs b)
    (hs : Region.sinkB md ops n = true) (hc : Region.chainB md ops n = true) (hn : n < ops.size) (hin : i < n) (hdone : ∀ listed a F, K listed a F → ∀ j ∈ Region.ready md ops listed, n ≤ j)
    {V : Type} {f : V → Value} {p : V → Option (World → Prop)} :
    ∀ (fuel : Nat) (listed : Array Bool) (a : Act) (F : Nat → World → Prop), HeadInv md ops n listed → Lasts G F →
      (∀ j oj, ops[j]? = some oj → j ≠ i → listed.getD j true = false → (∀ e ∈ oj.after, Region.binds md e = true → e.on ≠ i) → oi.apart ops oj = true) →
      i ∈ Region.ready md ops listed → Head P ops C G md S i oi a F V f p →
      (∀ x, TAnyL P md ops C G S n K fuel (listed.setIfInBounds i true) (a.put oi.dst (f x)) (updO F i (p x))) → TAnyL P md ops C G S n K (fuel + 1) listed a F := by
  intro fuel
  induction fuel with
  | zero =>
    intro listed a F inv hL _ hr hy H hsat
    have hun := (mem_ready.1 hr).1
    refine ⟨fun h => (by rw [h] at hr; cases hr), fun j hj => ?_⟩
    have hjn : j < n := by
      rcases Nat.lt_or_ge j n with h | h
      · exact h
      · exact absurd hj (tail_waits hs hc hn inv _ i rfl hin hun j h)
    refine ⟨hjn, fun oj hoj => ?_⟩
    by_cases hji : j = i
    · subst hji
      rw [hi] at hoj
      injection hoj with hoj
      subst hoj
      exact hy.step H
    · obtain ⟨x, hx⟩ := hy.sat hL hsat
      have := hdone _ _ _ (H x hx) j (ready_mono hj hji)
      omega
  | succ fuel ih =>
    intro listed a F inv hL hfree hr hy H hsat
    have hun0 := (mem_ready.1 hr).1
    refine ⟨fun h => (by rw [h] at hr; cases hr), fun j hj => ?_⟩
    have hjn : j < n := by
      rcases Nat.lt_or_ge j n with h | h
      · exact h
      · exact absurd hj (tail_waits hs hc hn inv _ i rfl hin hun0 j h)
    refine ⟨hjn, fun oj hoj => ?_⟩
    by_cases hji : j = i
    · subst hji
      rw [hi] at hoj
      injection hoj with hoj
      subst hoj
      exact hy.step H
    · obtain ⟨hjun, oj', hoj', hall⟩ := mem_ready.1 hj
      rw [hoj] at hoj'
      injection hoj' with hoj'
      subst hoj'
      have hnot : ∀ e ∈ oj.after, Region.binds md e = true → e.on ≠ i := fun e he hb heq => by
        have h1 := hall e he hb
        have h0 := (mem_ready.1 hr).1
        rw [heq] at h1
        rcases Nat.lt_or_ge i listed.size with h' | h'
        · simp [h'] at h0 h1; rw [h0] at h1; cases h1
        · simp [Array.getElem?_eq_none h'] at h1
      have hnot2 : ∀ e ∈ oi.after, Region.binds md e = true → e.on ≠ j := fun e he hb heq => by
        obtain ⟨h0, o2, ho2, hall2⟩ := mem_ready.1 hr
        rw [hi] at ho2
        injection ho2 with ho2
        subst ho2
        have h1 := hall2 e he hb
        rw [heq] at h1
        rcases Nat.lt_or_ge j listed.size with h' | h'
        · simp [h'] at hjun h1; rw [hjun] at h1; cases h1
        · simp [Array.getElem?_eq_none h'] at h1
      have hap := hfree j oj hoj hji hjun hnot
      obtain ⟨a1, a2, a3⟩ := Oper.apart_spec hap
      have hsi : ∀ cs b, oi.op ≠ .select cs b := fun cs b => hsel i oi cs b hi
      have hsj : ∀ cs b, oj.op ≠ .select cs b := fun cs b => hsel j oj cs b hoj
      obtain ⟨x0, hx0⟩ := hy.sat hL hsat
      obtain ⟨Vj, fj, pj, hj0, _⟩ := head_of_step (((H x0 hx0).2 j (ready_mono hj hji)).2 oj hoj)
      have hjH : ∀ x, Head P ops C G md S j oj (a.put oi.dst (f x)) (updO F i (p x)) Vj fj pj := fun x =>
        hj0.same ((execOp_put oj hsj a oi.dst _ a1).trans (execOp_put oj hsj a oi.dst _ a1).symm) ((wanted_put oj a oi.dst _ a1).trans (wanted_put oj a oi.dst _ a1).symm) (fun w => (deps_updO hnot w).trans (deps_updO hnot w).symm)
      have hja : Head P ops C G md S j oj a F Vj fj pj := hj0.same (execOp_put oj hsj a oi.dst _ a1).symm (wanted_put oj a oi.dst _ a1).symm (fun w => (deps_updO hnot w).symm)
      refine hja.step fun y => ?_
      refine ih (listed.setIfInBounds j true) (a.put oj.dst (fj y)) (updO F j (pj y)) (inv.set hj hjn) (hja.lasts hS hL y) ?_ (ready_mono hr (Ne.symm hji)) ?_ ?_
      · intro k ok hk hki hun hno
        refine hfree k ok hk hki ?_ hno
        by_cases hjk : j = k
        · subst hjk; exact hjun
        · rw [getD_set_ne true hjk] at hun; exact hun
      · exact hy.same (execOp_put oi hsi a oj.dst _ a3) (wanted_put oi a oj.dst _ a3) (fun w => deps_updO hnot2 w)
      · intro x
        rw [← updO_comm (Ne.symm hji), ← Act.put_comm a (f x) (fj y) a2, Array.setIfInBounds_comm _ _ hji]
        have hb : SatT C (updO F i (p x)) → TAnyL P md ops C G S n K fuel ((listed.setIfInBounds i true).setIfInBounds j true) ((a.put oi.dst (f x)).put oj.dst (fj y)) (updO (updO F i (p x)) j (pj y)) := by
          intro hsx
          obtain ⟨V', f', p', h', hk'⟩ := head_of_step (((H x hsx).2 j (ready_mono hj hji)).2 oj hoj)
          obtain ⟨y', e1, e2⟩ := (hjH x).one h' hsx y
          rw [← e1, ← e2]
          exact hk' y'
        cases fuel with
        | zero => exact fun hs => hb (sat_updO hs) hs
        | succ fuel => exact fun hs => hb (sat_updO hs) hs

theorem TAnyL_lex (hS : ∀ i s, S i = some s → ∀ x w w', G w w' → s.Φ x w → s.Φ x w') (hsel : Region.noSelect ops = true) (hs : Region.sinkB md ops n = true) (hc : Region.chainB md ops n = true) (hn : n < ops.size) :
    ∀ (l : List Oper) (k : Nat) (listed : Array Bool) (a : Act) (F : Nat → World → Prop), HeadInv md ops n listed → Lasts G F → (∀ j, j < l.length → l[j]? = ops[k + j]?) → k + l.length = n →
    Region.lexHead md ops g l.length k listed = true → wpGrow P ops C G md S Q l k a F →
    TAnyL P md ops C G S n (fun listed' a' F' => Region.seqB md ops g n listed' = true ∧ FinT C Q a' F') l.length listed a F
  | [], k, listed, a, F, _, _, _, hk, hB, h => fun _ => by
    have : k = n := by simpa using hk
    subst this
    exact ⟨by simpa [Region.lexHead] using hB, h⟩
  | o :: l, k, listed, a, F, inv, hL, hl, hk, hB, h => by
    have h0 : ops[k]? = some o := by simpa using (hl 0 (by simp)).symm
    simp only [List.length_cons, Region.lexHead, Bool.and_eq_true] at hB
    obtain ⟨⟨hr, hf⟩, hB'⟩ := hB
    have hkn : k < n := by simp only [List.length_cons] at hk; omega
    have hr' : k ∈ Region.ready md ops listed := by simpa using hr
    obtain ⟨V, f, p, hh, hk'⟩ := head_of_step (show stepT P ops C G md S k o (wpGrow P ops C G md S Q l (k + 1)) a F from h)
    exact TAnyL_first hS h0 (Region.noSelect_spec hsel) hs hc hn hkn (fun listed' a' F' hL => seqB_ready hL.1) l.length listed a F inv hL (Region.free_spec h0 hf) hr' hh
      (fun x => TAnyL_lex hS hsel hs hc hn l (k + 1) _ _ _ (inv.set hr' hkn) (hh.lasts hS hL x) (fun j hj => by have := hl (j + 1) (by simp; omega); simpa [Nat.add_assoc, Nat.add_comm 1 j] using this) (by simp only [List.length_cons] at hk; omega) hB' (hk' x))

/-- **One walk of the lexical order serves every order**, calls that make memory let in, a forced tail behind. -/
theorem wp_region_grow_tail {id : Nat} {Q' : Exit → Act → World → Prop} {a : Act} {w : World} {l : List Oper} (n : Nat) (S : Nat → Option RSpec) (C : World → Prop) (G : World → World → Prop)
    (hm : P.follows .mixedOrders = true) (hB : Region.lexTailB .any l.toArray n = true) (hS : ∀ i s, S i = some s → ∀ x w w', G w w' → s.Φ x w → s.Φ x w') (hC : C { w with drawn := w.drawn + 1 })
    (h : GrowAt P l.toArray C G .any S (fun a w => wpList P l.toArray Q' (l.drop n) a w) (l.take n) 0 a (fun _ _ => True)) : (Code.region id l.toArray true).wp P Q' a w := by
  simp only [Region.lexTailB, Bool.and_eq_true, decide_eq_true_eq] at hB
  obtain ⟨⟨⟨⟨hsel, hn⟩, hs⟩, hc⟩, hlex⟩ := hB
  have hn' : n < l.length := by simpa using hn
  have htl : (l.take n).length = n := by simp; omega
  have hdl : (l.drop n).length = l.toArray.size - n := by simp
  have inv0 : HeadInv .any l.toArray n (Array.replicate l.toArray.size false) :=
    ⟨by simp, fun j oj _ hl => (by rw [getD_replicate_false] at hl; cases hl), fun t _ ht => getD_in (by simpa using ht) (getD_replicate_false _ _)⟩
  have H := TAnyL_lex (C := C) (G := G) (md := .any) (g := l.toArray.size - n) hS hsel hs hc hn (l.take n) 0 _ a (fun _ _ => True) inv0 (fun _ _ _ _ _ => trivial) (fun j hj => by
    have hj' : j < n := by rw [htl] at hj; exact hj
    simp [hj']) (by simpa using htl) (by rw [htl]; exact hlex) h.out
  refine wp_region_any hm ?_
  have := wpAny_of_TL (Q' := Q') (g := l.toArray.size - n) hS (fun listed a' F' w' hL hC' hF' => by
    have := wpAny_of_seq (md := .any) (Q' := Q') (l.drop n) n listed a' w' (fun j => by simp [List.getElem?_drop]) (by rw [hdl]; exact hL.1) (hL.2 w' hC' hF')
    rwa [hdl] at this) _ _ _ _ _ hC (fun _ => trivial) (fun _ _ _ _ _ => trivial) H
  rw [htl, show n + (l.toArray.size - n) = l.toArray.size by omega] at this
  exact this
theorem give_value {o : Oper} {a : Act} {w : World} {R : Value → World → Prop} {u : Value} {w' : World} (hr : (execOp a.eval o).run P w = .ok (.value u) w') (hg : G w w') (h : R u w') : growUpon P G w R ((execOp a.eval o).run P w) := by
  rw [hr]; exact ⟨hg, h⟩
end
end Go.Proofs.YtlfpfkallgkjdaaGreat
end
