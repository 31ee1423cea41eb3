/- More walks of the filter's functions. -/
import Derived.Test.YtambdddahbgelaaBloomW
namespace Go.Proofs.Ytambdddahbgelaa.Bl
open Go.RowKit

theorem u8_info : (Try.prog.info? 5).map (fun i => (i.zero, i.size, i.bytes)) = some (some (.int .u8 0), 1, 1) := by kernel_rfl

def zs (n : Nat) : List Nat := List.replicate n 0
theorem zs_len (n : Nat) : (zs n).length = n := List.length_replicate
theorem made_zero (n : Nat) : madeCells (Value.int .u8 0).cells n = bcs (List.replicate n 0) := by
  apply Array.ext
  · simp [size_madeCells, bcs]
  · intro i h1 h2
    simp [madeCells, bcs, bc, Value.cells, Nat.mod_one]
theorem run_mk (n : Nat) (hn : n ≤ 131072) (w : World) : (Instr.makeSlice 32 (.int .i64 (n : Int)) (.int .i64 (n : Int))).run Try.prog w =
    .ok (.slice (some ⟨w.heap.size, 0, none⟩) n n) (w.alloc (.cells (bcs (zs n)) 5)) := by
  obtain ⟨i0, hi, hz0, hz1, hz2⟩ := info_parts u8_info
  have h := run_make (P := Try.prog) w 32 5 i0 _ Try.underlying32 hi hz0 .i64 .i64 n n (by omega) (by omega) (by rw [hz2]; omega) (by omega)
  rw [h, hz1]
  simp [made_zero, zs]
theorem run_mkI (z : Int) (n : Nat) (hz : z = n) (hn : n ≤ 131072) (w : World) : (Instr.makeSlice 32 (.int .i64 z) (.int .i64 z)).run Try.prog w =
    .ok (.slice (some ⟨w.heap.size, 0, none⟩) n n) (w.alloc (.cells (bcs (zs n)) 5)) := by
  subst hz; exact run_mk n hn w
def nby (n : Nat) : Nat := (min (max (10 * n) 64) 1048576 + 7) / 8
theorem nby_bd (n : Nat) : 8 ≤ nby n ∧ nby n ≤ 131072 := by unfold nby; omega
theorem FAt.made (w : World) (n : Nat) (h : 8 ≤ n) (h2 : n ≤ 131072) : FAt ((w.alloc (.cells (bcs (zs n)) 5)).alloc (.cells #[.slice (some ⟨w.heap.size, 0, none⟩) n n] 46)) (w.heap.size + 1) w.heap.size (zs n) := by
  have e : (w.alloc (.cells (bcs (zs n)) 5)).heap.size = w.heap.size + 1 := by simp
  refine ⟨⟨n, ?_⟩, ⟨#[], by simpa using (Blk.new w _ _).alloc _⟩, ?_, by rw [zs_len]; exact h, by rw [zs_len]; exact h2⟩
  · have h1 := Blk.new (w.alloc (.cells (bcs (zs n)) 5)) 46 #[.slice (some ⟨w.heap.size, 0, none⟩) n n]
    rw [e] at h1
    rw [zs_len]
    exact h1
  · intro b hb
    rw [List.eq_of_mem_replicate hb]
    decide

set_option maxHeartbeats 400000 in
theorem new_bad (n : Int) (w : World) (h : n < 0 ∨ 262144 < n) :
    Calls Try.prog 12 #[.int .i64 n] w fun e w' => e = .returned (.tuple #[.pointer none, .int .i64 90]) ∧ w = w' := by
  rcases h with h | h
  · go_enter Try.func12, Try.ntmps12
    go_wp2
    go_ret2
    exact ⟨rfl, rfl⟩
  · have h' : ¬ n < 0 := by omega
    go_enter Try.func12, Try.ntmps12
    go_wp2
    go_ret2
    exact ⟨rfl, rfl⟩

/-- A new filter and no error. -/
def NewOk (w : World) (bs : List Nat) (e : Ending) (w' : World) : Prop :=
  ∃ g hh, e = .returned (.tuple #[.pointer (some ⟨g, 0, none⟩), .int .i64 0]) ∧ FAt w' g hh bs ∧ Below w.heap.size w w' ∧ w.heap.size ≤ g ∧ w.heap.size ≤ hh

set_option maxHeartbeats 400000 in
theorem new_ok (n : Nat) (w : World) (h : n ≤ 262144) :
    Calls Try.prog 12 #[.int .i64 (n : Int)] w (NewOk w (zs (nby n))) := by
  have hbd := nby_bd n
  have fin := Lib.hid (FAt.made w (nby n) hbd.1 hbd.2)
  have hbel : Below w.heap.size w ((w.alloc (.cells (bcs (zs (nby n))) 5)).alloc (.cells #[.slice (some ⟨w.heap.size, 0, none⟩) (nby n) (nby n)] 46)) :=
    ((Below.refl _ _).alloc (Nat.le_refl _) _).alloc (by simp) _
  have Bel := Lib.hid hbel
  clear hbel
  have h0 : ¬ (n : Int) < 0 := by omega
  have h00 : ¬ (262144 : Int) < n := by omega
  by_cases ha : 10 * n < 64
  · have e : nby n = 8 := by unfold nby; omega
    have ha' : (10 : Int) * n < 64 := by omega
    have hmk := run_mkI 8 8 rfl (by omega)
    rw [e] at fin Bel
    rw [e]
    clear e
    go_enter Try.func12, Try.ntmps12
    go_wp2
    go_ret2
    exact ⟨_, _, rfl, fin.out, Bel.out, by omega, by omega⟩
  · by_cases hb : 10 * n ≤ 1048576
    · have ha' : (64 : Int) ≤ 10 * n := by omega
      have hb' : (10 : Int) * n ≤ 1048576 := by omega
      have hmk := run_mkI ((10 * (n : Int) + 7) / 8) (nby n) (by unfold nby; omega) hbd.2
      go_enter Try.func12, Try.ntmps12
      go_wp2
      go_ret2
      exact ⟨_, _, rfl, fin.out, Bel.out, by omega, by omega⟩
    · have e : nby n = 131072 := by unfold nby; omega
      have ha' : (64 : Int) ≤ 10 * n := by omega
      have hb' : (1048576 : Int) < 10 * n := by omega
      have hmk := run_mkI 131072 131072 rfl (by omega)
      rw [e] at fin Bel
      rw [e]
      clear e
      go_enter Try.func12, Try.ntmps12
      go_wp2
      go_ret2
      exact ⟨_, _, rfl, fin.out, Bel.out, by omega, by omega⟩

set_option maxHeartbeats 400000 in
theorem may_yes (g h : Nat) (bs : List Nat) (s : ByteArray) (w : World) (hF : FAt w g h bs) (hs : s.size ≤ 140737488351232) :
    Calls Try.prog 15 #[.pointer (some ⟨g, 0, none⟩), .string s] w fun e w' => e = .returned (.bool (may bs s.data.toList)) ∧ Below w.heap.size w w' := by
  have c0 := none_any g h bs w hF
  have c1 := size_any g h bs w hF
  have hlo := hF.lo
  have hhi := hF.hi
  have c2 := places_any s (8 * bs.length) (by omega) (by omega) hs w
  have hpl := Lib.hid (pls_lt s.data.toList (8 * bs.length) (by omega))
  go_enter Try.func15, Try.ntmps15
  go_wp2_with (first
    | (go_at_call 44; refine c0.mono ?_; rintro e w' ⟨rfl, rfl⟩)
    | (go_at_call 46; refine c1.mono ?_; rintro e w' ⟨rfl, rfl⟩)
    | (go_at_call 45; refine c2.mono ?_; rintro e w2 ⟨rfl, hb2⟩))
  have hF2 := Lib.hid (hF.keep hb2)
  have Hb2 := Lib.hid hb2
  clear hb2
  go_loopw [15] (fun i wi => ∃ j : Nat, j ≤ 4 ∧ i = .int .i64 j ∧ wi = w2 ∧ ((pls s.data.toList (8 * bs.length)).take j).all (gb bs) = true)
        (fun i _ => 4 - (intOf i).toNat)
  case atStart => exact ⟨0, Nat.zero_le _, rfl, rfl, rfl⟩
  case round =>
    obtain ⟨j, hj, rfl, rfl, hall⟩ := hrel
    by_cases hj4 : j < 4
    · have hix := idx4 s.data.toList (8 * bs.length) j hj4
      have htk := pls_take s.data.toList (8 * bs.length) j hj4
      have hpj : pl s.data.toList (8 * bs.length) j < 8 * bs.length := pl_lt _ _ _ (by omega)
      have hmem : pl s.data.toList (8 * bs.length) j ∈ pls s.data.toList (8 * bs.length) := List.mem_of_mem_take (i := j + 1) (by rw [htk]; simp)
      have Htk := Lib.hid htk
      have Hall := Lib.hid hall
      have Hmem := Lib.hid hmem
      have c3 := has_any g h _ bs wr hF2.out hpj
      clear htk hall hmem hpj
      generalize pl s.data.toList (8 * bs.length) j = p at *
      by_cases hgb : gb bs p = true
      · have Hgb := Lib.hid hgb
        rw [hgb] at c3
        clear hgb
        go_wp2_with (go_at_call 48; refine c3.mono ?_; rintro e w' ⟨rfl, rfl⟩)
        go_roundw
        case rel => exact ⟨j + 1, by omega, by go_num, trivial, by rw [Htk.out, List.all_append, Hall.out]; simp [Hgb.out]⟩
        case measure => simp [intOf]; omega
      · have Hgb := Lib.hid hgb
        have hgf : gb bs p = false := by simpa using hgb
        rw [hgf] at c3
        clear hgb hgf
        have Fin : Hid (may bs s.data.toList = false) := by
          show may bs s.data.toList = false
          unfold may
          rw [List.all_eq_false]
          exact ⟨p, Hmem.out, Hgb.out⟩
        go_wp2_with (go_at_call 48; refine c3.mono ?_; rintro e w' ⟨rfl, rfl⟩)
        go_ret
        exact ⟨by rw [Fin.out]; rfl, Hb2.out⟩
    · obtain rfl : j = 4 := by omega
      have Fin : Hid (may bs s.data.toList = true) := hall
      clear hall
      go_wp2
      go_ret
      exact ⟨by rw [Fin.out]; rfl, Hb2.out⟩
end Go.Proofs.Ytambdddahbgelaa.Bl
