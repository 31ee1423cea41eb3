/- BloomNobody: a filter that nobody made has nothing, and lets all be: the law's walk. -/
import Derived.Test.YtambdddahbgelaaBloomY
namespace Go.Proofs.Ytambdddahbgelaa.Bl
open Go.RowKit

/-- Nobody made what this pointer leads to. -/
def Nob (p : Option Addr) (w : World) : Prop := p = none ∨ ∃ g, p = some ⟨g, 0, none⟩ ∧ w.cell? ⟨g, 0, none⟩ = some (.slice none 0 0)

set_option maxHeartbeats 400000 in
theorem nob_none (p : Option Addr) (w : World) (h : Nob p w) : Calls Try.prog 44 #[.pointer p] w fun e w' => e = .returned (.bool true) ∧ w = w' := by
  rcases h with rfl | ⟨g, rfl, hc⟩
  · go_enter Try.func44, Try.ntmps44
    go_wp2
    go_ret
    exact ⟨rfl, rfl⟩
  · go_enter Try.func44, Try.ntmps44
    go_wp2
    go_ret
    exact ⟨rfl, rfl⟩
theorem nob_add (p : Option Addr) (v : Value) (w : World) (h : Nob p w) : Calls Try.prog 14 #[.pointer p, v] w fun e w' => e = .returned (.int .i64 0) ∧ w = w' := by
  have c := nob_none p w h
  go_enter Try.func14, Try.ntmps14
  go_wp2_with (go_at_call 44; refine c.mono ?_; rintro e w' ⟨rfl, rfl⟩)
  go_ret
  exact ⟨rfl, rfl⟩
theorem nob_may (p : Option Addr) (v : Value) (w : World) (h : Nob p w) : Calls Try.prog 15 #[.pointer p, v] w fun e w' => e = .returned (.bool true) ∧ w = w' := by
  have c := nob_none p w h
  go_enter Try.func15, Try.ntmps15
  go_wp2_with (go_at_call 44; refine c.mono ?_; rintro e w' ⟨rfl, rfl⟩)
  go_ret
  exact ⟨rfl, rfl⟩
theorem nob_bits (p : Option Addr) (w : World) (h : Nob p w) : Calls Try.prog 20 #[.pointer p] w fun e w' => e = .returned (.int .i64 0) ∧ w = w' := by
  have c := nob_none p w h
  go_enter Try.func20, Try.ntmps20
  go_wp2_with (go_at_call 44; refine c.mono ?_; rintro e w' ⟨rfl, rfl⟩)
  go_ret
  exact ⟨rfl, rfl⟩
theorem nob_bytes (p : Option Addr) (w : World) (h : Nob p w) : Calls Try.prog 19 #[.pointer p] w fun e w' => e = .returned (.slice none 0 0) ∧ w = w' := by
  have c := nob_none p w h
  go_enter Try.func19, Try.ntmps19
  go_wp2_with (go_at_call 44; refine c.mono ?_; rintro e w' ⟨rfl, rfl⟩)
  go_ret
  exact ⟨rfl, rfl⟩
theorem nob_count (p : Option Addr) (w : World) (h : Nob p w) : Calls Try.prog 21 #[.pointer p] w fun e w' => e = .returned (.int .i64 0) ∧ w = w' := by
  have c := nob_bits p w h
  go_enter Try.func21, Try.ntmps21
  go_wp2_with (go_at_call 20; refine c.mono ?_; rintro e w' ⟨rfl, rfl⟩)
  go_rounds 1
  go_ret
  exact ⟨rfl, rfl⟩

set_option maxHeartbeats 1600000 in
theorem nobody_walk (s : ByteArray) (v : Value) (w : World) :
    Calls Try.prog 5 #[.string s, v] w fun e w' => e = .returned (.bool true) ∧ Below w.heap.size w w' := by
  go_enter Try.func5, Try.ntmps5
  go_wp2_with fail
  refine wp_loop_rounds 3 ?_
  rw [rounds_succ]
  go_wp2_with (first
    | (go_at_call 14; refine (nob_add none _ _ (.inl rfl)).mono ?_; rintro e w' ⟨rfl, rfl⟩)
    | (go_at_call 15; refine (nob_may none _ _ (.inl rfl)).mono ?_; rintro e w' ⟨rfl, rfl⟩)
    | (go_at_call 20; refine (nob_bits none _ (.inl rfl)).mono ?_; rintro e w' ⟨rfl, rfl⟩)
    | (go_at_call 21; refine (nob_count none _ (.inl rfl)).mono ?_; rintro e w' ⟨rfl, rfl⟩)
    | (go_at_call 19; refine (nob_bytes none _ (.inl rfl)).mono ?_; rintro e w' ⟨rfl, rfl⟩))
  rw [rounds_succ]
  go_wp2_with (first
    | (go_at_call 14; refine (nob_add (some ⟨w.heap.size, 0, none⟩) _ _ (.inr ⟨_, rfl, ((((Blk.new w 46 #[.slice none 0 0]).alloc _).alloc _).alloc _).cell 0⟩)).mono ?_; rintro e w' ⟨rfl, rfl⟩)
    | (go_at_call 15; refine (nob_may (some ⟨w.heap.size, 0, none⟩) _ _ (.inr ⟨_, rfl, ((((Blk.new w 46 #[.slice none 0 0]).alloc _).alloc _).alloc _).cell 0⟩)).mono ?_; rintro e w' ⟨rfl, rfl⟩)
    | (go_at_call 20; refine (nob_bits (some ⟨w.heap.size, 0, none⟩) _ (.inr ⟨_, rfl, ((((Blk.new w 46 #[.slice none 0 0]).alloc _).alloc _).alloc _).cell 0⟩)).mono ?_; rintro e w' ⟨rfl, rfl⟩)
    | (go_at_call 21; refine (nob_count (some ⟨w.heap.size, 0, none⟩) _ (.inr ⟨_, rfl, ((((Blk.new w 46 #[.slice none 0 0]).alloc _).alloc _).alloc _).cell 0⟩)).mono ?_; rintro e w' ⟨rfl, rfl⟩)
    | (go_at_call 19; refine (nob_bytes (some ⟨w.heap.size, 0, none⟩) _ (.inr ⟨_, rfl, ((((Blk.new w 46 #[.slice none 0 0]).alloc _).alloc _).alloc _).cell 0⟩)).mono ?_; rintro e w' ⟨rfl, rfl⟩))
  rw [rounds_succ]
  go_wp2_with (go_at_call 13; refine (awake_any _).mono ?_; rintro e w5 ⟨rfl, hb5⟩)
  go_ret
  exact ⟨rfl, (((((Below.refl _ _).alloc (Nat.le_refl _) _).alloc (by simp) _).alloc (by simp; omega) _).alloc (by simp; omega) _).trans (hb5.mono (by simp; omega))⟩
end Go.Proofs.Ytambdddahbgelaa.Bl
