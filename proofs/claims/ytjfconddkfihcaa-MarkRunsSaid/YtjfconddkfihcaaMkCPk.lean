/- mark.marked: a leaf of a beginning. -/
import Derived.Maps.RangeWalk
import Derived.Maps.OwnSet
import Derived.Test.YtjfconddkfihcaaMkQPk
import Derived.Test.YtjfconddkfihcaaMatchBPk
namespace Go.Proofs.Ytjfconddkfihcaa.Mk
open Go.RowKit Go.Proofs.Ytjfconddkfihcaa Go.Proofs.Ytjfconddkfihcaa.Ut Go.Proofs.Ytjfconddkfihcaa.Tk Go.Proofs.Ytjfconddkfihcaa.Qy Go.Maps
set_option maxRecDepth 20000
set_option linter.unusedSimpArgs false

/-- What comes back: a set of places, of the call's own. -/
def MpPost (w : World) (f : Nat → Bool) (N : Nat) (e : Ending) (w' : World) : Prop := ∃ (b : Nat) (D : DataW Unit), e = .returned (.map (some b)) ∧ w'.ownsMap Try.prog 3 unitElem b N D ∧ Holds D f ∧ Below w.heap.size w w' ∧ w.heap.size ≤ b
def MarkOk (name : ByteArray) (T : List (List UInt8)) (q : Q) : Prop := ∀ (w : World) (a0 a1 a2 a3 : Value) (A : Option Addr) (c : Nat), QAt w w.heap.size q [a0, a1, a2, a3] → Reads w w.heap.size 2 A T.length (tokC (placed T)) →
  Calls Try.prog 67 #[.agg #[a0, a1, a2, a3], .string name, .slice A T.length c] w (MpPost w (fun i => markB name T i q) (T.length * wq q))
theorem law3 : Keyed Try.prog 3 := Maps.int_keyed Try.underlying3

theorem beq_toList (a b : ByteArray) : (a.toList == b.toList) = (a.data.toList == b.data.toList) := by rw [tl, tl]
theorem no_mark (name : ByteArray) (T : List (List UInt8)) (k : Int) (nm : ByteArray) (ws : List ByteArray) (l : List Q) (hk : k = 2 ∨ k = 3 ∨ k = 4) (hno : (nm.toList == name.toList) = false ∨ ws = [] ∨ (k ≠ 4 ∧ ws.length ≠ 1)) (i : Nat) : markB name T i (.mk k nm ws l) = false := by
  rw [markB_eq, if_pos hk]
  rcases hno with h | h | ⟨h1, h2⟩
  · rw [beq_toList] at h
    rw [h, Bool.false_and]
  · subst h
    rw [Bool.and_eq_false_iff]
    right
    unfold leafM
    split
    · rfl
    · simp [phr]
  · rw [Bool.and_eq_false_iff]
    right
    unfold leafM
    split
    · match ws, h2 with
      | [], _ => rfl
      | [p], h2 => simp at h2
      | _ :: _ :: _, _ => rfl
    · rw [if_pos ⟨by omega, h2⟩]
theorem made_map (w : World) (o : Obj) : ((w.alloc o).alloc (.map #[] 0)).ownsMap (H := Unit) Try.prog 3 unitElem (w.heap.size + 1) 0 (.map []) := by
  have := World.ownsMap_made (H := Unit) (w.alloc o) Try.prog 3 unitElem
  rw [World.size_alloc] at this
  exact this
theorem made_below (w : World) (o : Obj) : Below w.heap.size w ((w.alloc o).alloc (.map #[] 0)) := ((Below.refl _ _).alloc (Nat.le_refl _) _).alloc (by simp) _

set_option maxHeartbeats 1600000 in
theorem marked_no (name : ByteArray) (T : List (List UInt8)) (k : Int) (nm : ByteArray) (ws : List ByteArray) (l : List Q) (hk : k = 2 ∨ k = 3 ∨ k = 4) (hno : (nm.toList == name.toList) = false ∨ ws = [] ∨ (k ≠ 4 ∧ ws.length ≠ 1)) : MarkOk name T (.mk k nm ws l) := by
  intro w a0 a1 a2 a3 A c hQ hT
  obtain ⟨WA, m, wc, CA, n1, c2, e, hI⟩ := hQ.is
  simp only [List.cons.injEq, and_true] at e
  obtain ⟨rfl, rfl, rfl, rfl⟩ := e
  have hwn := hI.wn
  have hmm := @run_makeMap Try.prog
  have hf := no_mark name T k nm ws l hk hno
  have fin : MpPost w (fun i => markB name T i (.mk k nm ws l)) (T.length * wq (.mk k nm ws l)) (.returned (.map (some (w.heap.size + 1)))) ((w.alloc (.cells #[.int .i64 k, .string nm, .slice WA m wc, .slice CA n1 c2] 37)).alloc (.map #[] 0)) :=
    ⟨_, .map [], rfl, (made_map _ _).mono (Nat.zero_le _), Holds.none.congr (fun i => (hf i).symm), made_below _ _, Nat.le_succ _⟩
  have Fin := Lib.hid fin
  have hm0 : ws = [] → m = 0 := fun e => by rw [← hwn, e]; rfl
  rw [hwn] at hno
  clear hQ hT hI hwn hf fin
  go_enter Try.func67, Try.ntmps67
  by_cases hxy : (nm.toList == name.toList) = true
  · have hxn : (nm.toList != name.toList) = false := by rw [bne, hxy]; rfl
    by_cases h0 : m = 0
    · subst h0
      clear hm0 hno
      rcases hk with rfl | rfl | rfl <;> go_wp2 <;> go_ret <;> exact Fin.out
    · have h1 : k ≠ 4 ∧ m ≠ 1 := by
        rcases hno with h | h | h
        · rw [h] at hxy; cases hxy
        · exact absurd (hm0 h) h0
        · exact h
      have hz0 : ((m : Int) == 0) = false := by simp; omega
      have hz1 : ((m : Int) != 1) = true := by simp; omega
      clear hm0 hno
      rcases hk with rfl | rfl | rfl
      · go_wp2
        go_ret
        exact Fin.out
      · go_wp2
        go_ret
        exact Fin.out
      · exact absurd rfl h1.1
  · have hxf : (nm.toList == name.toList) = false := Bool.eq_false_iff.2 hxy
    have hxn : (nm.toList != name.toList) = true := by rw [bne, hxf]; rfl
    clear hm0 hno
    rcases hk with rfl | rfl | rfl <;> go_wp2 <;> go_ret <;> exact Fin.out
end Go.Proofs.Ytjfconddkfihcaa.Mk
