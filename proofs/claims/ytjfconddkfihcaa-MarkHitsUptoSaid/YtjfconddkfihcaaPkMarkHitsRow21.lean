/- mark.runs: the iterator's contract. -/
import Derived.RangeFuncNested
import Derived.RangeFuncBox
import Derived.RangeFuncBound
import Derived.RangeFuncCalls
import Derived.RangeFuncLeaves
import Derived.Shelf.Abstract
import Derived.WalkKit
import Derived.OwnWalkIn
import Derived.TacticsInMore
import Derived.LoopNIn
import Derived.LoopIn
import Derived.Maps.AppendAt
import Derived.Lib.Hide
import Derived.Test.YtjfconddkfihcaaPkMarkHitsRow18
import Derived.Test.YtjfconddkfihcaaPkMarkHitsRow4
import Derived.Test.YtjfconddkfihcaaPkMarkHitsRow1
import Derived.Test.YtjfconddkfihcaaMkFPk
section
namespace Go.Proofs.Ytjfconddkfihcaa.Mk
open Go.RowKit Go.Shelf Go.Proofs.Ytjfconddkfihcaa Go.Proofs.Ytjfconddkfihcaa.Ut
attribute [local go_sem] Oper.semAt_some
set_option linter.unusedSimpArgs false

/-- A round keeps what lay below n₀, and the text's box. -/
def KR (n₀ tb : Nat) (W W' : World) : Prop := Below n₀ W W' ∧ W'.heap[tb]? = W.heap[tb]?
theorem KR.trans {n₀ tb : Nat} {A B C : World} (h : KR n₀ tb A B) (k : KR n₀ tb B C) : KR n₀ tb A C := ⟨h.1.trans k.1, k.2.trans h.2⟩
/-- The place where a run began, as the program has it. -/
def fv : Option Nat → Int
  | none => -1
  | some a => a
theorem decAt_in (s : ByteArray) (k : Nat) : decAt s (k : Int) = dec (s.data.toList.drop k) := by
  unfold decAt
  rw [if_neg (by omega)]
  simp
theorem drop_ne (s : ByteArray) (k : Nat) (h : k < s.size) : s.data.toList.drop k ≠ [] := by
  intro e
  have := congrArg List.length e
  rw [List.length_drop, bsize] at this
  simp at this
  omega

/-- **The iterator: all spans, in order, for every loop body that keeps what lay below n₀, and the text's box.** -/
structure RunsIn (l tb : Nat) (s : ByteArray) (J : List (Nat × Nat) → World → Prop) (wr : World) (k : Nat) (fo : Option Nat) (pre : List (Nat × Nat)) : Prop where
  le : k ≤ s.size
  all : pre ++ sp (s.data.toList.drop k) k fo = sp s.data.toList 0 none
  lt : ∀ x, fo = some x → x < k
  j : J pre wr
  bx : Blk wr tb 9 #[.string s]
set_option maxRecDepth 100000 in
set_option maxHeartbeats 4000000 in
theorem runs1_in (m : Nat) (hn : 1 ≤ m) (l tb n₀ B : Nat) (s : ByteArray) (hs : s.size ≤ 140737488351232) (J Jx : List (Nat × Nat) → World → Prop) (hJ : AbidesFrom B J)
    (hY : ∀ pre (x : Nat × Nat) W, J pre W → pre.length < (sp s.data.toList 0 none).length → YieldAt Fence.wide (m - 1) Try.prog l #[.agg #[.int .i64 (x.1 : Nat), .int .i64 (x.2 : Nat)]] W fun e W' =>
      (e = .returned (.bool true) ∧ J (pre ++ [x]) W' ∧ KR n₀ tb W W') ∨ (e = .returned (.bool false) ∧ Jx (pre ++ [x]) W'))
    (W : World) (hb : Blk W tb 9 #[.string s]) (h0 : J [] W) :
    CallsIn Fence.wide m Try.prog 92 #[.func (.yield l) #[] #[], .pointer (some ⟨tb, 0, none⟩)] W fun e W' => (∃ v, e = .returned v) ∧
      ((∃ ys, ys = sp s.data.toList 0 none ∧ J ys W') ∨ (∃ pre, pre <+: sp s.data.toList 0 none ∧ Jx pre W')) := by
  have st : RunsIn l tb s J W 0 none [] := ⟨Nat.zero_le _, by simp, fun x h => (by cases h), h0, hb⟩
  have St := Lib.hid st
  have HJ := Lib.hid hJ
  have HY := Lib.hid hY
  clear st h0 hb hJ hY
  refine callsIn_of_wp Try.func92 rfl trivial ?_ rfl
  simp only [Try.ntmps92, List.size_toArray, List.length_cons, List.length_nil, Nat.reduceAdd, Nat.reduceSub, Array.replicate_succ, Array.replicate_zero, List.push_toArray, List.append_toArray, List.nil_append, List.cons_append]
  gi_wp2
  gi_loopw [3, 4] (fun f a wr => ∃ (k : Nat) (fo : Option Nat) (pre : List (Nat × Nat)), a = .int .i64 k ∧ f = .int .i64 (fv fo) ∧ RunsIn l tb s J wr k fo pre)
    (fun f a wr => s.size - (intOf a).toNat)
  case atStart => exact ⟨0, none, [], rfl, rfl, St.out⟩
  case round =>
    obtain ⟨k, fo, pre, rfl, rfl, hR⟩ := hrel
    have hk := hR.le
    have hcell := hR.bx.cell 0
    simp only [List.getElem?_toArray, List.getElem?_cons_zero] at hcell
    by_cases hlt : k < s.size
    · have hne := drop_ne s k hlt
      have hds := dec_size _ hne
      have c1 := decode_any s (k : Int) wr hs
      rw [decAt_in s k] at c1
      have hdl : (s.data.toList.drop k).drop (dec (s.data.toList.drop k)).2 = s.data.toList.drop (k + (dec (s.data.toList.drop k)).2) := by rw [List.drop_drop]
      have hw1 := sp_word (s.data.toList.drop k) k fo hne
      have hw2 := sp_gap (s.data.toList.drop k) k fo hne
      rw [hdl] at hw1 hw2
      have hln : (s.data.toList.drop k).length = s.size - k := by rw [List.length_drop, bsize]
      rw [hln] at hds
      generalize dec (s.data.toList.drop k) = d at *
      obtain ⟨r, nn⟩ := d
      simp only at c1 hds hw1 hw2
      have hkn : k + nn ≤ s.size := by omega
      have HR := Lib.hid hR
      have Hw1 := Lib.hid hw1
      have Hw2 := Lib.hid hw2
      clear hR hw1 hw2 hdl hne
      have keep : ∀ w2, Below wr.heap.size wr w2 → J pre w2 ∧ Blk w2 tb 9 #[.string s] := fun w2 h2 => ⟨HJ.out pre wr w2 none HR.out.j (grow_of_below h2 none) (fun r e => by cases e), HR.out.bx.below h2 HR.out.bx.lt⟩
      have Kp := Lib.hid keep
      clear keep
      have hwc : isWord (r : Int) = true ∨ isWord (r : Int) = false := by cases isWord (r : Int) <;> simp
      have cw := fun w2 => word_any (r : Int) w2
      have Cw := Lib.hid cw
      clear cw
      rcases hwc with hw | hw
      · -- a word's rune
        have hnext : RunsIn l tb s J wr k fo pre → ∀ w3, Below wr.heap.size wr w3 → RunsIn l tb s J w3 (k + nn) (some (fo.getD k)) pre := fun h w3 h3 =>
          ⟨hkn, by rw [← Hw1.out hw]; exact h.all, fun x e => by
            injection e with e
            subst e
            cases fo with
            | none => simp; omega
            | some a => have := h.lt a rfl; simp; omega, (Kp.out w3 h3).1, (Kp.out w3 h3).2⟩
        have Hn := Lib.hid (hnext HR.out)
        clear hnext
        cases fo with
        | none =>
          gi_wp2_with fail
          refine ⟨trivial, (callsIn_wide.2 c1).mono ?_⟩
          rintro e w2 ⟨rfl, hb2⟩
          have hc2 := (hb2.cell (p := ⟨tb, 0, none⟩) (World.block_lt_of_cell? wr _ hcell)).trans hcell
          have c2 := Cw.out w2
          rw [hw] at c2
          gi_wp2_with fail
          refine ⟨trivial, (callsIn_wide.2 c2).mono ?_⟩
          rintro e w3 ⟨rfl, hb3⟩
          have h3 := Lib.hid (hb2.trans (hb3.mono hb2.size))
          clear hb2 hb3 c1 c2 hcell hc2
          gi_wp2
          go_roundw
          case rel => exact ⟨k + nn, some k, pre, by go_num, rfl, Hn.out w3 h3.out⟩
          case measure => simp [intOf]; omega
        | some a =>
          have ha : (0 : Int) ≤ (a : Int) := by omega
          gi_wp2_with fail
          refine ⟨trivial, (callsIn_wide.2 c1).mono ?_⟩
          rintro e w2 ⟨rfl, hb2⟩
          have hc2 := (hb2.cell (p := ⟨tb, 0, none⟩) (World.block_lt_of_cell? wr _ hcell)).trans hcell
          have c2 := Cw.out w2
          rw [hw] at c2
          gi_wp2_with fail
          refine ⟨trivial, (callsIn_wide.2 c2).mono ?_⟩
          rintro e w3 ⟨rfl, hb3⟩
          have h3 := Lib.hid (hb2.trans (hb3.mono hb2.size))
          clear hb2 hb3 c1 c2 hcell hc2
          have hfv : fv (some a) = (a : Int) := rfl
          simp only [hfv]
          gi_wp2
          go_roundw
          case rel => exact ⟨k + nn, some a, pre, by go_num, rfl, Hn.out w3 h3.out⟩
          case measure => simp [intOf]; omega
      · -- none
        cases fo with
        | none =>
          have hnext : RunsIn l tb s J wr k none pre → ∀ w3, Below wr.heap.size wr w3 → RunsIn l tb s J w3 (k + nn) none pre := fun h w3 h3 =>
            ⟨hkn, by have := h.all; rw [Hw2.out hw] at this; exact this, fun x e => (by cases e), (Kp.out w3 h3).1, (Kp.out w3 h3).2⟩
          have Hn := Lib.hid (hnext HR.out)
          clear hnext
          gi_wp2_with fail
          refine ⟨trivial, (callsIn_wide.2 c1).mono ?_⟩
          rintro e w2 ⟨rfl, hb2⟩
          have hc2 := (hb2.cell (p := ⟨tb, 0, none⟩) (World.block_lt_of_cell? wr _ hcell)).trans hcell
          have c2 := Cw.out w2
          rw [hw] at c2
          gi_wp2_with fail
          refine ⟨trivial, (callsIn_wide.2 c2).mono ?_⟩
          rintro e w3 ⟨rfl, hb3⟩
          have h3 := Lib.hid (hb2.trans (hb3.mono hb2.size))
          clear hb2 hb3 c1 c2 hcell hc2
          gi_wp2
          go_roundw
          case rel => exact ⟨k + nn, none, pre, by go_num, rfl, Hn.out w3 h3.out⟩
          case measure => simp [intOf]; omega
        | some a =>
          have ha : (0 : Int) ≤ (a : Int) := by omega
          have hal := HR.out.all
          rw [Hw2.out hw] at hal
          have hpl : pre.length < (sp s.data.toList 0 none).length := by rw [← hal]; simp [tailS]
          have hal2 : (pre ++ [(a, k)]) ++ sp (s.data.toList.drop (k + nn)) (k + nn) none = sp s.data.toList 0 none := by rw [← hal]; simp [tailS]
          have Hal := Lib.hid hal2
          clear hal hal2
          gi_wp2_with fail
          refine ⟨trivial, (callsIn_wide.2 c1).mono ?_⟩
          rintro e w2 ⟨rfl, hb2⟩
          have hc2 := (hb2.cell (p := ⟨tb, 0, none⟩) (World.block_lt_of_cell? wr _ hcell)).trans hcell
          have c2 := Cw.out w2
          rw [hw] at c2
          gi_wp2_with fail
          refine ⟨trivial, (callsIn_wide.2 c2).mono ?_⟩
          rintro e w3 ⟨rfl, hb3⟩
          have h3 := Lib.hid (hb2.trans (hb3.mono hb2.size))
          obtain ⟨fn, tmps, assign, body, hy, hRd⟩ := HY.out pre (a, k) w3 (Kp.out w3 h3.out).1 hpl
          dsimp only at hy
          clear hb2 hb3 c1 c2 hcell hc2
          have hfv : fv (some a) = (a : Int) := rfl
          simp only [hfv]
          gi_wp2
          refine hRd.mono ?_
          rintro e W3 (⟨rfl, hJ3, hk3⟩ | ⟨rfl, hJx3⟩)
          · have hbx : Blk W3 tb 9 #[.string s] := hk3.2.trans (Kp.out w3 h3.out).2
            have Hn : Hid (RunsIn l tb s J W3 (k + nn) none (pre ++ [(a, k)])) := Lib.hid ⟨hkn, Hal.out, fun x e => (by cases e), hJ3, hbx⟩
            clear hJ3 hk3 hy hbx
            gi_wp2
            go_roundw
            case rel => exact ⟨k + nn, none, pre ++ [(a, k)], by go_num, rfl, Hn.out⟩
            case measure => simp [intOf]; omega
          · have hpx : pre ++ [(a, k)] <+: sp s.data.toList 0 none := ⟨_, Hal.out⟩
            have Hpx := Lib.hid hpx
            have Hjx := Lib.hid hJx3
            clear hpx hJx3 hy
            gi_wp2
            refine bodyPost_ret (results_none rfl _ _ _) rfl ?_
            exact ⟨⟨_, rfl⟩, .inr ⟨_, Hpx.out, Hjx.out⟩⟩
    · obtain rfl : k = s.size := by omega
      have hal := hR.all
      have hdn : s.data.toList.drop s.size = [] := List.drop_of_length_le (by rw [bsize]; omega)
      rw [hdn, sp_nil] at hal
      have hJr := hR.j
      cases fo with
      | none =>
        simp only [tailS, List.append_nil] at hal
        have Hal := Lib.hid hal
        have Hjr := Lib.hid hJr
        clear hal hR hJr
        gi_wp2
        go_end0
        exact ⟨⟨_, rfl⟩, .inl ⟨pre, Hal.out, Hjr.out⟩⟩
      | some a =>
        have ha : (0 : Int) ≤ (a : Int) := by omega
        have hpl : pre.length < (sp s.data.toList 0 none).length := by rw [← hal]; simp [tailS]
        obtain ⟨fn, tmps, assign, body, hy, hRd⟩ := HY.out pre (a, s.size) wr hJr hpl
        dsimp only at hy
        have hfv : fv (some a) = (a : Int) := rfl
        simp only [hfv]
        have Hal := Lib.hid hal
        clear hal hR hJr
        gi_wp2
        refine hRd.mono ?_
        rintro e W3 (⟨rfl, hJ3, hk3⟩ | ⟨rfl, hJx3⟩)
        · have Hj3 := Lib.hid hJ3
          clear hJ3 hk3 hy
          gi_wp2
          go_end0
          exact ⟨⟨_, rfl⟩, .inl ⟨_, Hal.out, Hj3.out⟩⟩
        · have Hj3 := Lib.hid hJx3
          clear hJx3 hy
          gi_wp2
          go_end0
          exact ⟨⟨_, rfl⟩, .inr ⟨_, ⟨[], by simpa [tailS] using Hal.out⟩, Hj3.out⟩⟩
end Go.Proofs.Ytjfconddkfihcaa.Mk
end

section
/- mark.runs, mark.Runs: the walk. -/
namespace Go.Proofs.Ytjfconddkfihcaa.Mk
open Go.RowKit Go.Shelf Go.Proofs.Ytjfconddkfihcaa Go.Proofs.Ytjfconddkfihcaa.Ut
attribute [local go_sem] Oper.semAt_some
set_option linter.unusedSimpArgs false

set_option maxHeartbeats 1048576 in
theorem runs_in (n : Nat) (s : ByteArray) (w : World) :
    CallsIn Fence.wide n Try.prog 62 #[.string s] w fun e w' => e = .returned (.func (.func 92) #[] #[.pointer (some ⟨w.heap.size, 0, none⟩)]) ∧ w' = w.alloc (.cells #[.string s] 9) := by
  refine callsIn_of_wp Try.func62 rfl trivial ?_ rfl
  simp only [Try.ntmps62, List.size_toArray, List.length_cons, List.length_nil, Nat.reduceAdd, Nat.reduceSub, Array.replicate_succ, Array.replicate_zero, List.push_toArray, List.append_toArray, List.nil_append, List.cons_append]
  gi_wp2
  go_ret
  exact ⟨rfl, rfl⟩

theorem runs_stops (m : Nat) (hn : 1 ≤ m) (tb n₀ : Nat) (s : ByteArray) (hs : s.size ≤ 140737488351232) (w : World) (hb : Blk w tb 9 #[.string s]) :
    SeqStopsK Fence.wide m Try.prog 92 #[.pointer (some ⟨tb, 0, none⟩)] (fun x : Nat × Nat => #[.agg #[.int .i64 (x.1 : Nat), .int .i64 (x.2 : Nat)]]) (KR n₀ tb) (fun ys => ys = sp s.data.toList 0 none) (fun pre => pre <+: sp s.data.toList 0 none) (sp s.data.toList 0 none).length w :=
  fun l J Jx W hW hJ _ hY h0 => runs1_in m hn l tb n₀ W.heap.size s hs J Jx hJ hY W (hb.below hW hb.lt) h0

theorem span_info : (Try.prog.info? 45).map (fun i => (i.zero, i.size, i.bytes)) = some (some (.agg #[.int .i64 0, .int .i64 0]), 2, 16) := by kernel_rfl

/-- What comes back: spans of the call's own. -/
def SpPost (w : World) (l : List (Nat × Nat)) (e : Ending) (w' : World) : Prop := ∃ v, e = .returned v ∧ w'.ownsRow w.heap.size 45 2 v l.length (spC l) ∧ Below w.heap.size w w'

theorem kr_b {w : World} {n₀ tb : Nat} (h : n₀ ≤ w.heap.size) (ht : tb < w.heap.size) (W : World) (l : Nat) (o o' : Obj) (hl : w.heap.size ≤ l) (ho : W.heap[l]? = some o) (h1 : o.isCells = false) (h2 : o.isWalk = false) : KR n₀ tb W (W.putObj l o') :=
  ⟨belowK_b h W l o o' hl ho h1 h2, World.putObj_heap_other (by omega)⟩
theorem blk_own {W W' : World} {row : Option Nat} {g : Nat} {t : TypeId} {cs : Array Value} (h : Blk W g t cs) (hg : W.grownBy W' row) (hr : ∀ r, row = some r → ∃ o : Obj, W.heap[r]? = some o ∧ o.isCells = false) : Blk W' g t cs :=
  h.grown hg (fun e => by
    obtain ⟨o, h1, h2⟩ := hr g e.symm
    have : some o = some _ := h1.symm.trans h
    injection this with this
    subst this
    cases h2)

set_option maxRecDepth 100000 in
set_option maxHeartbeats 4000000 in
theorem runsW_in (s : ByteArray) (w : World) (hs : s.size ≤ 1048576) : CallsIn Fence.wide 3 Try.prog 15 #[.string s] w (SpPost w (sp s.data.toList 0 none)) := by
  obtain ⟨i0, hi, hz0, hz1, hz2⟩ := info_parts span_info
  have hct := sp_count s.data.toList
  rw [bsize] at hct
  refine callsIn_of_wp_marks Try.func15 rfl trivial ?_ rfl
  simp only [Try.ntmps15, List.size_toArray, List.length_cons, List.length_nil, Nat.reduceAdd, Nat.reduceSub, Array.replicate_succ, Array.replicate_zero, List.push_toArray, List.append_toArray, List.nil_append, List.cons_append]
  gi_wp2_with fail
  refine ⟨trivial, (runs_in _ s _).mono ?_⟩
  rintro e w' ⟨rfl, rfl⟩
  gi_wp2_with fail
  have bO := (Boxed.new w 23 (.slice none 0 0)).alloc (.cells #[.string s] 9)
  have bN := Blk.new (w.alloc (.cells #[.slice none 0 0] 23)) 9 #[.string s]
  rw [World.size_alloc] at bN
  have hB0 : Below w.heap.size w ((w.alloc (.cells #[.slice none 0 0] 23)).alloc (.cells #[.string s] 9)) := ((Below.refl _ w).alloc (Nat.le_refl _) _).alloc (by simp) _
  have hsz : ((w.alloc (.cells #[.slice none 0 0] 23)).alloc (.cells #[.string s] 9)).heap.size = w.heap.size + 2 := by simp
  generalize ((w.alloc (.cells #[.slice none 0 0] 23)).alloc (.cells #[.string s] 9)) = W0 at *
  refine wpIn_rangeFunc_ownH rfl (by omega) (gf := 92) (lb := #[.pointer (some ⟨w.heap.size + 1, 0, none⟩)]) rfl trivial (enters_of Try.func92 (by kernel_rfl) rfl)
    (runs_stops 2 (by omega) (w.heap.size + 1) w.heap.size s (by omega) W0 bN) (fun h k => h.trans k) (kr_b (by omega) (by omega)) (Below.refl _ _) (fun _ => rfl)
    (fun pre W => (∃ v, Boxed W w.heap.size 23 v ∧ W.ownsRow w.heap.size 45 2 v pre.length (spC pre) ∧ True) ∧ Blk W (w.heap.size + 1) 9 #[.string s] ∧ Below w.heap.size w W)
    (fun _ _ _ => False)
    (OwnFrom.and (Own.from (holdsRow_own w.heap.size w.heap.size 23 45 2 (fun pre => pre.length) (fun pre => spC pre) (fun _ _ => True)) _) (OwnFrom.and (fun _ A B row hs hg hr => blk_own hs hg (fun r e => (hr r e).2)) (ownFrom_below (Nat.le_refl _) (by omega))))
    (fun _ _ _ _ _ hs _ _ => hs)
    ⟨⟨_, bO, World.ownsRow_nil _ _ _ _, trivial⟩, bN, hB0⟩
    (fun x a' W => ∃ Bx, w.heap.size + 1 < Bx ∧ Blk W Bx 45 #[.int .i64 (x.1 : Nat), .int .i64 (x.2 : Nat)] ∧ a' = { tmps := #[.string s, undef, .slice none 0 0, .pointer (some ⟨w.heap.size, 0, none⟩), .pointer (some ⟨Bx, 0, none⟩), .string s, .func (.func 92) #[] #[.pointer (some ⟨w.heap.size + 1, 0, none⟩)], .agg #[.int .i64 (x.1 : Nat), .int .i64 (x.2 : Nat)], undef, undef, undef, undef, undef], defers := [] })
    (fun x a' _ X Y row hs hg hr => by obtain ⟨Bx, h1, h2, h3⟩ := hs; exact ⟨Bx, h1, blk_own h2 hg (fun r e => (hr r e).2), h3⟩)
    ?assign ?body ?done ?stop
  case assign =>
    rintro l pre x W K ⟨⟨v, bV, hrow, _⟩, bT, hB1⟩ hK
    gi_wp2
    exact hK _ _ ((KeepsOthers.alloc _ _).from _) ⟨(Below.refl _ W).alloc hB1.size _, (Below.heap_alloc W _ _ bT.lt)⟩ ⟨⟨v, bV.alloc _, hrow.alloc _, trivial⟩, bT.alloc _, hB1.alloc hB1.size _⟩ ⟨W.heap.size, bT.lt, Blk.new W _ _, rfl⟩
  case body =>
    rintro l pre x a' W hl ⟨r, hr⟩ ⟨⟨v, hv, hrow, _⟩, bT, hB⟩ ⟨Bx, hBx, bX, rfl⟩ hlt
    have hc := hv.cell
    have x0 := bX.cell 0
    have x1 := bX.cell 1
    simp only [List.getElem?_toArray, List.getElem?_cons_zero, List.getElem?_cons_succ] at x0 x1
    have hbt := bT.lt
    gi_wp2_with (gi_at_builtin; refine wpListIn_append_own _ rfl _ _ 23 rfl w.heap.size 45 i0 _ 2 16 Try.underlying23 hi hz0 hz1 hz2 rfl (by decide) _ _ _ rfl (hrow.alloc _) ⟨W.heap.size, 0, none⟩ 1 1 [.int .i64 (x.1 : Nat), .int .i64 (x.2 : Nat)] rfl rfl (World.news_of_block (cs := #[.int .i64 (x.1 : Nat), .int .i64 (x.2 : Nat)]) (t := 45) (fr := (0, 0)) (heap_alloc_new W _)) (by simp [Value.oneCell']) (by unfold maxLen; omega) (by omega) (by have := hB.size; simp; omega) ?_; intro v' w1 hown' hgrow _; obtain ⟨g', cap', rfl⟩ := ownsRow_succ hown'; obtain ⟨hv1, hv2, hr2, hk2, hb2⟩ := hv.appended (by decide) hrow hB.size (Nat.le_refl _) hown' hgrow; have hc1 := hv1.cell; have hf1 := hv1.frozen)
    have hn : some (w.heap.size + 1) ≠ v.ownBlock := Boxed.not_row (t := 9) (u := .string s) bT (by decide) hrow
    have bT1 : Boxed w1 (w.heap.size + 1) 9 (.string s) := (Boxed.alloc (t := 9) (v := .string s) bT _).kept hgrow hn
    have bT2 := bT1.other (B' := w.heap.size) (by omega) (.slice (some ⟨g', 0, none⟩) (pre.length + 1) cap')
    exact ⟨hk2.from _, ⟨hb2, Eq.trans bT2 (Eq.symm bT)⟩, ⟨⟨_, hv2, by rw [spC_snoc, List.length_append]; exact hr2, trivial⟩, bT2, hB.trans hb2⟩⟩
  case done =>
    rintro D ys W hD rfl ⟨⟨v, hv, hrow, _⟩, _, hB⟩ hK
    have hc := hv.cell
    gi_wp2
    refine ⟨by simp, .inl ⟨_, _, rfl, run_takeDeferred hK, ?_⟩⟩
    exact ⟨_, results_tmp rfl _ _ _, v, rfl, ownsRow_putObj hrow _ hK rfl, hB.trans (belowK_b (w := w) (Nat.le_refl _) W D _ _ (by omega) hK rfl rfl)⟩
  case stop =>
    rintro D c pre W _ _ h _
    exact h.elim
theorem runsM_any (s : ByteArray) (w : World) (hs : s.size ≤ 1048576) : Calls Try.prog 15 #[.string s] w (SpPost w (sp s.data.toList 0 none)) := callsIn_wide.1 (runsW_in s w hs)
end Go.Proofs.Ytjfconddkfihcaa.Mk
end

section
/- mark.marked at every query; mark.Spans (printed by gen_mkg.py). -/
namespace Go.Proofs.Ytjfconddkfihcaa.Mk
open Go.RowKit Go.Proofs.Ytjfconddkfihcaa Go.Proofs.Ytjfconddkfihcaa.Ut Go.Proofs.Ytjfconddkfihcaa.Tk Go.Proofs.Ytjfconddkfihcaa.Qy Go.Maps
set_option maxRecDepth 20000
set_option linter.unusedSimpArgs false

set_option maxHeartbeats 1600000 in
theorem marked_other (name : ByteArray) (T : List (List UInt8)) (k : Int) (nm : ByteArray) (ws : List ByteArray) (l : List Q) (h2 : k ≠ 2) (h3 : k ≠ 3) (h4 : k ≠ 4) (h5 : k ≠ 5) (h6 : k ≠ 6) : MarkOk name T (.mk k nm ws l) := by
  intro w a0 a1 a2 a3 A c hQ hT
  obtain ⟨WA, m, wc, CA, n1, c2, e, hI⟩ := hQ.is
  simp only [List.cons.injEq, and_true] at e
  obtain ⟨rfl, rfl, rfl, rfl⟩ := e
  have hmm := @run_makeMap Try.prog
  have hf : ∀ i, markB name T i (.mk k nm ws l) = false := fun i => by rw [markB_eq, if_neg (by omega), if_neg (by omega)]
  have fin : MpPost w (fun i => markB name T i (.mk k nm ws l)) (T.length * wq (.mk k nm ws l)) (.returned (.map (some (w.heap.size + 1)))) ((w.alloc (.cells #[.int .i64 k, .string nm, .slice WA m wc, .slice CA n1 c2] 37)).alloc (.map #[] 0)) :=
    ⟨_, .map [], rfl, (made_map _ _).mono (Nat.zero_le _), Holds.none.congr (fun i => (hf i).symm), made_below _ _, Nat.le_succ _⟩
  have Fin := Lib.hid fin
  have g2 : (k == 2) = false := by simpa using h2
  have g3 : (k == 3) = false := by simpa using h3
  have g4 : (k == 4) = false := by simpa using h4
  have g5 : (k == 5) = false := by simpa using h5
  have g6 : (k == 6) = false := by simpa using h6
  clear hQ hT hI hf fin h2 h3 h4 h5 h6
  go_enter Try.func67, Try.ntmps67
  go_wp2
  go_ret
  exact Fin.out

theorem marked_any (name : ByteArray) (T : List (List UInt8)) (hT6 : T.length ≤ 1048576) : ∀ q, wq q ≤ 1048576 → MarkOk name T q := by
  refine Q.ind (fun k nm ws l ih hw => ?_)
  by_cases hk : k = 2 ∨ k = 3 ∨ k = 4
  · by_cases hno : (nm.toList == name.toList) = false ∨ ws = [] ∨ (k ≠ 4 ∧ ws.length ≠ 1)
    · exact marked_no name T k nm ws l hk hno
    · have h1 : (nm.toList == name.toList) = true := by
        cases h : (nm.toList == name.toList)
        · exact absurd (.inl h) hno
        · rfl
      have h2 : ws ≠ [] := fun e => hno (.inr (.inl e))
      rcases hk with rfl | rfl | rfl
      · exact marked_term name T hT6 nm ws l h1 (Classical.byContradiction fun e => hno (.inr (.inr ⟨by decide, e⟩)))
      · have h3 : ws.length = 1 := Classical.byContradiction fun e => hno (.inr (.inr ⟨by decide, e⟩))
        match ws, h3 with
        | [p], _ => exact marked_begin name T hT6 nm p l h1
      · exact marked_phrase name T hT6 nm ws l h1 hw h2
  · have hkid : ∀ x ∈ l, MarkOk name T x := fun x hx => ih x hx (by
      have := wqs_mem l x hx
      rw [wq_eq] at hw
      omega)
    by_cases h5 : k = 5
    · subst h5; exact marked_and name T hT6 nm ws l hw hkid
    · by_cases h6 : k = 6
      · subst h6; exact marked_or name T hT6 nm ws l hw hkid
      · exact marked_other name T k nm ws l (fun e => hk (.inl e)) (fun e => hk (.inr (.inl e))) (fun e => hk (.inr (.inr e))) h5 h6

theorem row_base {w : World} {base base' : Nat} {e : TypeId} {size n : Nat} {v : Value} {xs : List Value} (h : w.ownsRow base e size v n xs) (hle : base' ≤ base) : w.ownsRow base' e size v n xs :=
  ⟨h.1, h.2.imp id fun ⟨g, cap, cur, e, h1, r⟩ => ⟨g, cap, cur, e, Nat.le_trans hle h1, r⟩⟩
/-- The spans that are marked, of the first k. -/
def sel (l : List (Nat × Nat)) (f : Nat → Bool) (k : Nat) : List (Nat × Nat) := (List.range k).filterMap fun i => if f i then l[i]? else none
theorem sel_succ (l : List (Nat × Nat)) (f : Nat → Bool) (k : Nat) (h : k < l.length) : sel l f (k + 1) = sel l f k ++ if f k then [l[k]] else [] := by
  unfold sel
  rw [List.range_succ, List.filterMap_append]
  cases hf : f k <;> simp [hf, List.getElem?_eq_getElem h]
theorem sel_len (l : List (Nat × Nat)) (f : Nat → Bool) (k : Nat) : (sel l f k).length ≤ k := by
  have := List.length_filterMap_le (fun i => if f i then l[i]? else none) (List.range k)
  rwa [List.length_range] at this
/-- What a query marks in a text. -/
def spansQ (q : Q) (name s : ByteArray) : List (Nat × Nat) := sel (sp s.data.toList 0 none) (fun i => markB name (Tk.words s.data.toList) i q) (sp s.data.toList 0 none).length
theorem spans_at {w : World} {B n : Nat} {A : Option Addr} {l : List (Nat × Nat)} (h : Reads w B 2 A n (spC l)) {k : Nat} (hk : k < l.length) :
    ∃ b o, A = some ⟨b, o, none⟩ ∧ b < B ∧ w.cell? ⟨b, o + k * 2, none⟩ = some (.int .i64 (l[k].1 : Nat)) ∧ w.cell? ⟨b, o + k * 2 + 1, none⟩ = some (.int .i64 (l[k].2 : Nat)) := by
  have hl := h.1
  rw [spC_len] at hl
  obtain ⟨b, o, e, hb, hc⟩ := h.2 (by omega)
  have g := spC_get l k hk
  refine ⟨b, o, e, hb, hc _ _ g.1, ?_⟩
  have := hc _ _ g.2
  rwa [← Nat.add_assoc] at this

set_option maxHeartbeats 3200000 in
theorem spans_any (q : Q) (hq : wq q ≤ 1048576) (a0 a1 a2 a3 : Value) (name s : ByteArray) (hs : s.size ≤ 1048576) (w : World) (hQ : QAt w w.heap.size q [a0, a1, a2, a3]) :
    Calls Try.prog 22 #[.agg #[a0, a1, a2, a3], .string name, .string s] w (SpPost w (spansQ q name s)) := by
  obtain ⟨i0, hi0, hz0, hz1, hz2⟩ := info_parts span_info
  have ct := fun wx => tokens_any s wx hs
  have hwl := Nat.le_trans (words_len s) hs
  have hcnt := sp_count s.data.toList
  rw [bsize] at hcnt
  have cr := fun wx => runsM_any s wx hs
  have cm := marked_any name (Tk.words s.data.toList) hwl q hq
  have Fin : Hid (spansQ q name s = sel (sp s.data.toList 0 none) (fun i => markB name (Tk.words s.data.toList) i q) (sp s.data.toList 0 none).length) := rfl
  generalize spansQ q name s = res at *
  generalize sp s.data.toList 0 none = sps at *
  generalize Tk.words s.data.toList = T at *
  have HQ := Lib.hid hQ
  obtain ⟨k0, nm, WA, m, wc, CA, n1, c2, e⟩ := (show ∃ k nm A n c C m d, [a0, a1, a2, a3] = [.int .i64 k, .string nm, .slice A n c, .slice C m d] by cases hQ; exact ⟨_, _, _, _, _, _, _, _, rfl⟩)
  simp only [List.cons.injEq, and_true] at e
  obtain ⟨rfl, rfl, rfl, rfl⟩ := e
  have hb1 : Below w.heap.size w (w.alloc (.cells #[.int .i64 k0, .string nm, .slice WA m wc, .slice CA n1 c2] 37)) := (Below.refl _ _).alloc (Nat.le_refl _) _
  have hB1 := Blk.new w 37 #[.int .i64 k0, .string nm, .slice WA m wc, .slice CA n1 c2]
  have hz1' : w.heap.size < (w.alloc (.cells #[.int .i64 k0, .string nm, .slice WA m wc, .slice CA n1 c2] 37)).heap.size := by simp
  have HQ1 := Lib.hid (hQ.grow hb1)
  have Hb1 := Lib.hid hb1
  have HB1 := Lib.hid hB1
  have CT := Lib.hid ct
  have CR := Lib.hid cr
  have CM := Lib.hid cm
  clear hQ HQ hb1 hB1 ct cr cm hq
  generalize hff : (fun i => markB name T i q) = f at *
  have Hff := Lib.hid hff
  clear hff
  generalize hNN : T.length * wq q = NN at *
  have HNN := Lib.hid hNN
  clear hNN
  go_enter Try.func22, Try.ntmps22
  go_wp2_with fail
  generalize hw1 : (w.alloc (.cells #[.int .i64 k0, .string nm, .slice WA m wc, .slice CA n1 c2] 37)) = w1 at *
  clear hw1
  have hcells : ∀ wx, Below w1.heap.size w1 wx → wx.cell? ⟨w.heap.size, 0, none⟩ = some (.int .i64 k0) ∧ wx.cell? ⟨w.heap.size, 1, none⟩ = some (.string nm) ∧ wx.cell? ⟨w.heap.size, 2, none⟩ = some (.slice WA m wc) ∧ wx.cell? ⟨w.heap.size, 3, none⟩ = some (.slice CA n1 c2) := fun wx hC =>
    have hB := HB1.out.below hC hz1'
    ⟨hB.cell 0, hB.cell 1, hB.cell 2, hB.cell 3⟩
  have Hcells := Lib.hid hcells
  clear hcells
  refine wp_region_grow (specOf [(3, ⟨Option Addr × Nat, fun x => .slice x.1 T.length x.2, fun x w' => Reads w' w'.heap.size 2 x.1 T.length (tokC (placed T))⟩), (4, ⟨Nat × DataW Unit, fun x => .map (some x.1), fun x w' => w'.ownsMap Try.prog 3 unitElem x.1 NN x.2 ∧ Holds x.2 f ∧ w1.heap.size ≤ x.1⟩)]) (fun wx => Below (World.heap w1).size w1 wx) (fun w1 w2 => Below w1.heap.size w1 w2) (by kernel_rfl) (by kernel_rfl) (stab_cons (fun x w1 w2 hg h => reads_grow hg h) (stab_cons (fun x w1 w2 hg h => ⟨h.1.kept (grow_of_below hg none) (by simp), h.2⟩) (stab_nil))) (Below.refl _ _).drew ?_
  refine grow_fix 1 ?_ rfl (by rfl) (by rfl) (fun wx hC hD => ?_) ?_
  rotate_left
  · have hSw := Hcells.out wx hC
    go_simp
    all_goals with_reducible rfl
  try simp only [Act.put, List.setIfInBounds_toArray, List.set_cons_zero, List.set_cons_succ]
  refine grow_fix 2 ?_ rfl (by rfl) (by rfl) (fun wx hC hD => ?_) ?_
  rotate_left
  · have hSw := Hcells.out wx hC
    go_simp
    all_goals with_reducible rfl
  try simp only [Act.put, List.setIfInBounds_toArray, List.set_cons_zero, List.set_cons_succ]
  refine grow_fix 3 ?_ rfl (by rfl) (by rfl) (fun wx hC hD => ?_) ?_
  rotate_left
  · have hSw := Hcells.out wx hC
    go_simp
    all_goals with_reducible rfl
  try simp only [Act.put, List.setIfInBounds_toArray, List.set_cons_zero, List.set_cons_succ]
  refine grow_give 4 _ rfl (by rfl) (by rfl) (fun wx hC hD => ?_) (fun x => ?_)
  · refine give_enter (f := ?_) (args := ?_) ?_ ?_
    rotate_left 2
    · have hSw := Hcells.out wx hC
      go_simp
      all_goals first | with_reducible rfl | (refine ⟨?_, ?_⟩ <;> with_reducible rfl)
    refine (CT.out wx).mono ?_
    rintro e w2 ⟨v2, rfl, hown2, hb2⟩
    obtain ⟨A2, d2, rfl, hR2⟩ := own_shape hown2
    exact ⟨_, rfl, hb2, hC.trans (hb2.mono hC.size), (A2, d2), rfl, hR2⟩
  obtain ⟨X, x⟩ := x
  try simp only [Act.put, List.setIfInBounds_toArray, List.set_cons_zero, List.set_cons_succ]
  refine grow_give 5 _ rfl (by rfl) (by rfl) (fun wx hC hD => ?_) (fun x => ?_)
  · refine give_enter (f := ?_) (args := ?_) ?_ ?_
    rotate_left 2
    · have hSw := Hcells.out wx hC
      go_simp
      all_goals first | with_reducible rfl | (refine ⟨?_, ?_⟩ <;> with_reducible rfl)
    refine (CM.out wx _ _ _ _ X x (HQ1.out.grow hC) (upd_hit (deps_get hD 3 (by kernel_rfl)) (by decide))).mono ?_
    rintro e w2 ⟨b2, D2, rfl, hown2, hD2, hb2, hge⟩
    exact ⟨_, rfl, hb2, hC.trans (hb2.mono hC.size), (b2, D2), rfl, by rw [← HNN.out]; exact hown2, by rw [← Hff.out]; exact hD2, Nat.le_trans hC.size hge⟩
  obtain ⟨bm, D⟩ := x
  try simp only [Act.put, List.setIfInBounds_toArray, List.set_cons_zero, List.set_cons_succ]
  refine grow_fix 6 ?_ rfl (by rfl) (by rfl) (fun wx hC hD => ?_) ?_
  rotate_left
  · have hSw := Hcells.out wx hC
    go_simp
    all_goals with_reducible rfl
  try simp only [Act.put, List.setIfInBounds_toArray, List.set_cons_zero, List.set_cons_succ]
  refine grow_nil (fun w2 hC hF => ?_)
  obtain ⟨hown, hD, hge⟩ := upd_hit (hF 4) (by decide)
  have Hown := Lib.hid hown
  have HD := Lib.hid hD
  have Hb2 := Lib.hid (Hb1.out.trans (hC.mono Hb1.out.size))
  clear hF hC Hcells HB1 HQ1 Hb1 hown hD CT CM
  go_wp2_with fail
  refine (CR.out w2).mono ?_
  rintro e w3 ⟨v3, rfl, hown3, hb3⟩
  obtain ⟨A3, d3, rfl, hR3⟩ := own_shape hown3
  have HR3 := Lib.hid hR3
  have Hown3 := Lib.hid (Hown.out.kept (grow_of_below hb3 none) (by simp))
  have Hb3 := Lib.hid (Hb2.out.trans (hb3.mono Hb2.out.size))
  have hbl : bm < w3.heap.size := Nat.lt_of_lt_of_le Hown.out.lt hb3.size
  clear hown3 hR3 hb3 Hown Hb2 CR
  go_wp2_with fail
  go_loopw [8, 21] (fun v i wr => ∃ k : Nat, k ≤ sps.length ∧ i = .int .i64 k ∧ wr.ownsRow w3.heap.size 45 2 v (sel sps f k).length (spC (sel sps f k)) ∧ Below w3.heap.size w3 wr) (fun _ i _ => sps.length - (intOf i).toNat)
  case atStart => exact ⟨0, Nat.zero_le _, rfl, World.ownsRow_nil _ _ _ _, Below.refl _ _⟩
  case round =>
    obtain ⟨k, hk, rfl, hrow, hb⟩ := hrel
    by_cases hlt : k < sps.length
    · obtain ⟨b, o, rfl, hbb, y0, y1⟩ := spans_at HR3.out hlt
      have g0 := (hb.cell (p := ⟨b, o + k * 2, none⟩) hbb).trans y0
      have g1 := (hb.cell (p := ⟨b, o + k * 2 + 1, none⟩) hbb).trans y1
      have hk1 : (k : Int) < (sps.length : Int) := by omega
      have hss := sel_succ sps f k hlt
      have hsl := sel_len sps f k
      have hml : ∀ wx, Below wr.heap.size wr wx → wx.ownsMap Try.prog 3 unitElem bm NN D := fun wx h => Hown3.out.kept (grow_of_below (hb.trans (h.mono hb.size)) none) (by simp)
      have hasK := HD.out.1 k
      clear y0 y1
      generalize sps[k] = x at *
      generalize hfk : f k = r at *
      clear hfk
      have HM1 := hml (wr.alloc (.cells #[.int .i64 (x.1 : Nat), .int .i64 (x.2 : Nat)] 45)) ((Below.refl _ _).alloc (Nat.le_refl _) _)
      have Hss := Lib.hid hss
      have Hrow := Lib.hid hrow
      have Hb := Lib.hid hb
      clear hss hrow hb hml
      cases r
      case false =>
        go_wp2_with (first
          | (at_lookup; refine wpList_lookup_own_unit _ rfl _ _ 96 rfl 3 98 law3 Try.underlying96 (Try.zeroValue98 _) bm NN D rfl HM1 _ _ rfl (keyOf_int_mk Try.underlying3 (wf_nat k (by omega))) ?_; rw [hasK])
          | go_in)
        have hss := Hss.out
        rw [if_neg (by decide), List.append_nil] at hss
        refine ⟨⟨k + 1, by omega, by go_num, ?_, ?_⟩, by simp [intOf]; omega⟩
        · rw [hss]; exact (Hrow.out.alloc _).alloc _
        · exact (Hb.out.alloc Hb.out.size _).alloc (by have := Hb.out.size; simp; omega) _
      case true =>
        have hbz := Hb.out.size
        go_wp2_with (first
          | (at_lookup; refine wpList_lookup_own_unit _ rfl _ _ 96 rfl 3 98 law3 Try.underlying96 (Try.zeroValue98 _) bm NN D rfl HM1 _ _ rfl (keyOf_int_mk Try.underlying3 (wf_nat k (by omega))) ?_; rw [hasK])
          | (at_builtin; refine wpList_append_own _ rfl _ _ 23 rfl w3.heap.size 45 i0 _ 2 16 Try.underlying23 hi0 hz0 hz1 hz2 rfl (by decide) _ _ _ rfl (((Hrow.out.alloc _).alloc _).alloc _) ⟨wr.heap.size + 1 + 1, 0, none⟩ 1 1 [.int .i64 (x.1 : Nat), .int .i64 (x.2 : Nat)] rfl rfl ?d1 ?d2 ?d3 ?d4 ?d5 ?_)
          | go_in)
        case d2 => exact ⟨rfl, rfl⟩
        case d3 => unfold maxLen; omega
        case d4 => omega
        case d5 => first | omega | (simp; omega)
        intro v' w4 hown4 hgrow _
        have hb4 := (((Hb.out.alloc Hb.out.size (.cells #[.int .i64 (x.1 : Nat), .int .i64 (x.2 : Nat)] 45)).alloc (by simp; omega) (.cells #[] 98)).alloc (by simp; omega) (.cells #[.int .i64 (x.1 : Nat), .int .i64 (x.2 : Nat)] 45)).grown hgrow (by simp; omega) (fun j hj => (Hrow.out.lt j hj).1)
        have hrow4 : w4.ownsRow w3.heap.size 45 2 v' (sel sps f (k + 1)).length (spC (sel sps f (k + 1))) := by
          have hss := Hss.out
          simp only [↓reduceIte] at hss
          rw [hss, spC_snoc, List.length_append]
          exact hown4
        have Hrow4 := Lib.hid hrow4
        have Hb4 := Lib.hid hb4
        clear hown4 hgrow hb4 hrow4
        go_wp2
        go_roundw
        case rel => exact ⟨k + 1, by omega, by go_num, Hrow4.out, Hb4.out⟩
        case measure => simp [intOf]; omega
    · obtain rfl : k = sps.length := by omega
      have Hrow := Lib.hid hrow
      have Hb := Lib.hid (Hb3.out.trans (hb.mono Hb3.out.size))
      have Hle := Lib.hid Hb3.out.size
      clear hrow hb
      go_wp2
      go_ret
      have hbase : wr.ownsRow w.heap.size 45 2 u8 (sel sps f sps.length).length (spC (sel sps f sps.length)) := row_base Hrow.out Hle.out
      exact ⟨_, rfl, by rw [Fin.out]; exact hbase, Hb.out⟩
end Go.Proofs.Ytjfconddkfihcaa.Mk
end

section
/- What matches is marked somewhere: plain. No program. -/
namespace Go.Proofs.Ytjfconddkfihcaa.Mk
open Go.RowKit Go.Proofs.Ytjfconddkfihcaa Go.Proofs.Ytjfconddkfihcaa.Ut Go.Proofs.Ytjfconddkfihcaa.Tk Go.Proofs.Ytjfconddkfihcaa.Qy

/-- Neither all nor not anywhere in it. -/
inductive PlainQ : Q → Prop
  | mk {k : Int} {nm : ByteArray} {ws : List ByteArray} {l : List Q} (h7 : k ≠ 7) (h1 : k ≠ 1) (hk : ∀ x ∈ l, PlainQ x) : PlainQ (.mk k nm ws l)
/-- An and of something. -/
inductive AndQ : Q → Prop
  | mk {k : Int} {nm : ByteArray} {ws : List ByteArray} {l : List Q} (h5 : k = 5 → l ≠ []) (hk : ∀ x ∈ l, AndQ x) : AndQ (.mk k nm ws l)
theorem leaf_marks (k : Int) (hk : k = 2 ∨ k = 3 ∨ k = 4) (ws : List ByteArray) (T : List (List UInt8)) (h : leafT k ws T = true) : ∃ i, i < T.length ∧ leafM k ws T i = true := by
  have phrase : 0 < (phr T ws).length → ∃ i, i < T.length ∧ (phr T ws).any (fun f => decide (f ≤ i) && decide (i < f + ws.length)) = true := fun hp => by
    obtain ⟨f, hf⟩ : ∃ f, f ∈ phr T ws := List.exists_mem_of_length_pos hp
    have h1 := phr_in T ws f hf
    have h2 : ws.length ≠ 0 := fun e => by
      have : ws = [] := List.length_eq_zero_iff.1 e
      unfold phr at hf
      rw [if_pos this] at hf
      cases hf
    refine ⟨f, by omega, List.any_eq_true.2 ⟨f, hf, ?_⟩⟩
    simp only [Bool.and_eq_true, decide_eq_true_eq]
    omega
  rcases hk with rfl | rfl | rfl
  · unfold leafT at h
    rw [if_neg (by decide), if_pos rfl] at h
    simp only [Bool.and_eq_true, decide_eq_true_eq] at h
    obtain ⟨i, hi, h2⟩ := phrase h.2
    refine ⟨i, hi, ?_⟩
    unfold leafM
    rw [if_neg (by decide), if_neg (fun e => e.2 h.1)]
    exact h2
  · unfold leafT at h
    rw [if_pos rfl] at h
    match ws, h with
    | [p], h =>
      obtain ⟨x, hx, hb⟩ := List.any_eq_true.1 h
      obtain ⟨i, hi, rfl⟩ := List.getElem_of_mem hx
      refine ⟨i, hi, ?_⟩
      unfold leafM
      rw [if_pos rfl]
      simp only [List.getElem?_eq_getElem hi, Option.any_some]
      exact hb
  · unfold leafT at h
    rw [if_neg (by decide), if_neg (by decide)] at h
    obtain ⟨i, hi, h2⟩ := phrase (of_decide_eq_true h)
    refine ⟨i, hi, ?_⟩
    unfold leafM
    rw [if_neg (by decide), if_neg (fun e => absurd e.1 (by decide))]
    exact h2
theorem match_marks (fs : List (ByteArray × ByteArray)) : ∀ q, PlainQ q → AndQ q → matchB fs q = true → ∃ f ∈ fs, ∃ i, i < (Tk.words f.2.data.toList).length ∧ markB f.1 (Tk.words f.2.data.toList) i q = true := by
  refine Q.ind (p := fun q => PlainQ q → AndQ q → matchB fs q = true → ∃ f ∈ fs, ∃ i, i < (Tk.words f.2.data.toList).length ∧ markB f.1 (Tk.words f.2.data.toList) i q = true) (fun k nm ws l ih hp ha hm => ?_)
  cases hp with
  | mk h7 h1 hpk =>
    cases ha with
    | mk h5 hak =>
      rw [matchB_eq, if_neg h1] at hm
      by_cases hk : k = 2 ∨ k = 3 ∨ k = 4
      · rw [if_pos hk] at hm
        unfold leafB at hm
        obtain ⟨f, hf, h⟩ := List.any_eq_true.1 hm
        simp only [Bool.and_eq_true] at h
        obtain ⟨i, hi, hl⟩ := leaf_marks k hk ws _ h.2
        refine ⟨f, hf, i, hi, ?_⟩
        rw [markB_eq, if_pos hk, Bool.and_eq_true]
        refine ⟨?_, hl⟩
        have := h.1
        rw [beq_iff_eq] at this ⊢
        exact this.symm
      · rw [if_neg hk] at hm
        have go : ∀ x ∈ l, matchB fs x = true → (k = 5 ∨ k = 6) → ∃ f ∈ fs, ∃ i, i < (Tk.words f.2.data.toList).length ∧ markB f.1 (Tk.words f.2.data.toList) i (.mk k nm ws l) = true := fun x hx h56 hk56 => by
          obtain ⟨f, hf, i, hi, h⟩ := ih x hx (hpk x hx) (hak x hx) h56
          refine ⟨f, hf, i, hi, ?_⟩
          rw [markB_eq, if_neg hk, if_pos hk56]
          exact List.any_eq_true.2 ⟨x, hx, h⟩
        by_cases e5 : k = 5
        · rw [if_pos e5] at hm
          obtain ⟨x, hx⟩ := List.exists_mem_of_ne_nil l (h5 e5)
          exact go x hx (List.all_eq_true.1 hm x hx) (.inl e5)
        · rw [if_neg e5] at hm
          by_cases e6 : k = 6
          · rw [if_pos e6] at hm
            obtain ⟨x, hx, h⟩ := List.any_eq_true.1 hm
            exact go x hx h (.inr e6)
          · rw [if_neg e6, if_neg h7] at hm
            cases hm
theorem spans_pos (q : Q) (name s : ByteArray) (i : Nat) (hi : i < (Tk.words s.data.toList).length) (h : markB name (Tk.words s.data.toList) i q = true) : 0 < (spansQ q name s).length := by
  have hw := sp_words s.data.toList
  have hi2 : i < (sp s.data.toList 0 none).length := by omega
  refine List.length_pos_of_mem (a := (sp s.data.toList 0 none)[i]) ?_
  unfold spansQ sel
  rw [List.mem_filterMap]
  exact ⟨i, List.mem_range.2 hi2, by rw [if_pos h, List.getElem?_eq_getElem hi2]⟩
end Go.Proofs.Ytjfconddkfihcaa.Mk
end
