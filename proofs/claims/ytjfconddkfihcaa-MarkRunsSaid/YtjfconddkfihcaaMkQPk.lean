/- What a query marks: plain. No program. -/
import Derived.Maps.Views
import Derived.Test.YtjfconddkfihcaaMkPPk
import Derived.Test.YtjfconddkfihcaaPkMatchTellsRow3
import Derived.Test.YtjfconddkfihcaaPkMatchTellsRow25
namespace Go.Proofs.Ytjfconddkfihcaa.Mk
open Go.RowKit Go.Proofs.Ytjfconddkfihcaa Go.Proofs.Ytjfconddkfihcaa.Ut Go.Proofs.Ytjfconddkfihcaa.Qy Go.Maps

/-- Does a leaf mark the i-th word? -/
def leafM (k : Int) (ws : List ByteArray) (T : List (List UInt8)) (i : Nat) : Bool :=
  if k = 3 then (match ws with | [p] => (T[i]?).any (begins · p) | _ => false)
  else if k = 2 ∧ ws.length ≠ 1 then false else (phr T ws).any fun f => decide (f ≤ i) && decide (i < f + ws.length)
mutual
/-- Does a query mark the i-th word? -/
def markB (name : ByteArray) (T : List (List UInt8)) (i : Nat) : Q → Bool
  | .mk k nm ws l => if k = 2 ∨ k = 3 ∨ k = 4 then nm.data.toList == name.data.toList && leafM k ws T i else if k = 5 ∨ k = 6 then markSome name T i l else false
def markSome (name : ByteArray) (T : List (List UInt8)) (i : Nat) : List Q → Bool
  | [] => false
  | q :: l => markB name T i q || markSome name T i l
end
theorem markSome_eq (name : ByteArray) (T : List (List UInt8)) (i : Nat) : ∀ l, markSome name T i l = l.any (markB name T i)
  | [] => by simp [markSome]
  | q :: l => by simp [markSome, markSome_eq name T i l]
theorem markB_eq (name : ByteArray) (T : List (List UInt8)) (i : Nat) (k : Int) (nm : ByteArray) (ws : List ByteArray) (l : List Q) :
    markB name T i (.mk k nm ws l) = if k = 2 ∨ k = 3 ∨ k = 4 then nm.data.toList == name.data.toList && leafM k ws T i else if k = 5 ∨ k = 6 then l.any (markB name T i) else false := by
  rw [markB, markSome_eq]
/-- A set of places. -/
def Holds {H : Type} (D : DataW H) (f : Nat → Bool) : Prop := (∀ i : Nat, Maps.has D (.int .i64 (i : Nat)) = f i) ∧ ∀ kl, Maps.has D kl = true → ∃ i : Nat, kl = .int .i64 (i : Nat)
theorem Holds.none {H : Type} : Holds (H := H) (.map []) (fun _ => false) := ⟨fun i => by simp [Maps.has], fun kl h => by simp [Maps.has] at h⟩
theorem Holds.put {H : Type} {D : DataW H} {f : Nat → Bool} (h : Holds D f) (hm : IsMap D) (k : Nat) (d : DataW H) : Holds (D.put (.int .i64 (k : Nat)) d) (fun i => f i || i == k) := by
  refine ⟨fun i => ?_, fun kl hk => ?_⟩
  · by_cases e : i = k
    · subst e
      rw [has_put_same hm (by simp [WideAt.IsKeyLit])]
      simp
    · rw [has_put_other (fun h => by injection h with _ h; omega), h.1 i]
      simp [e]
  · by_cases e : kl = .int .i64 (k : Nat)
    · exact ⟨k, e⟩
    · rw [has_put_other e] at hk
      exact h.2 kl hk
theorem Holds.congr {H : Type} {D : DataW H} {f g : Nat → Bool} (h : Holds D f) (e : ∀ i, f i = g i) : Holds D g := ⟨fun i => (h.1 i).trans (e i), h.2⟩
end Go.Proofs.Ytjfconddkfihcaa.Mk
