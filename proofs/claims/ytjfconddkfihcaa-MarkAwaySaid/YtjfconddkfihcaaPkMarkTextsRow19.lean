/- mark.runs: the iterator's contract. -/
import Derived.RangeFuncNested
import Derived.RangeFuncBox
import Derived.RangeFuncBound
import Derived.RangeFuncCalls
import Derived.RangeFuncLeaves
import Derived.Shelf.Abstract
import Derived.WalkKit
import Derived.OwnWalkIn
import Derived.TacticsInMore
import Derived.LoopNIn
import Derived.LoopIn
import Derived.Maps.AppendAt
import Derived.Lib.Hide
import Derived.Test.YtjfconddkfihcaaPkMarkTextsRow2
import Derived.Test.YtjfconddkfihcaaPkMarkTextsRow6
import Derived.Test.YtjfconddkfihcaaUtfWPk
section
namespace Go.Proofs.Ytjfconddkfihcaa.Mk
open Go.RowKit Go.Shelf Go.Proofs.Ytjfconddkfihcaa Go.Proofs.Ytjfconddkfihcaa.Ut
attribute [local go_sem] Oper.semAt_some
set_option linter.unusedSimpArgs false

/-- A round keeps what lay below n₀, and the text's box. -/
def KR (n₀ tb : Nat) (W W' : World) : Prop := Below n₀ W W' ∧ W'.heap[tb]? = W.heap[tb]?
theorem KR.trans {n₀ tb : Nat} {A B C : World} (h : KR n₀ tb A B) (k : KR n₀ tb B C) : KR n₀ tb A C := ⟨h.1.trans k.1, k.2.trans h.2⟩
/-- The place where a run began, as the program has it. -/
def fv : Option Nat → Int
  | none => -1
  | some a => a
theorem decAt_in (s : ByteArray) (k : Nat) : decAt s (k : Int) = dec (s.data.toList.drop k) := by
  unfold decAt
  rw [if_neg (by omega)]
  simp
theorem drop_ne (s : ByteArray) (k : Nat) (h : k < s.size) : s.data.toList.drop k ≠ [] := by
  intro e
  have := congrArg List.length e
  rw [List.length_drop, bsize] at this
  simp at this
  omega

/-- **The iterator: all spans, in order, for every loop body that keeps what lay below n₀, and the text's box.** -/
structure RunsIn (l tb : Nat) (s : ByteArray) (J : List (Nat × Nat) → World → Prop) (wr : World) (k : Nat) (fo : Option Nat) (pre : List (Nat × Nat)) : Prop where
  le : k ≤ s.size
  all : pre ++ sp (s.data.toList.drop k) k fo = sp s.data.toList 0 none
  lt : ∀ x, fo = some x → x < k
  j : J pre wr
  bx : Blk wr tb 9 #[.string s]
set_option maxRecDepth 100000 in
set_option maxHeartbeats 4000000 in
theorem runs1_in (m : Nat) (hn : 1 ≤ m) (l tb n₀ B : Nat) (s : ByteArray) (hs : s.size ≤ 140737488351232) (J Jx : List (Nat × Nat) → World → Prop) (hJ : AbidesFrom B J)
    (hY : ∀ pre (x : Nat × Nat) W, J pre W → pre.length < (sp s.data.toList 0 none).length → YieldAt Fence.wide (m - 1) Try.prog l #[.agg #[.int .i64 (x.1 : Nat), .int .i64 (x.2 : Nat)]] W fun e W' =>
      (e = .returned (.bool true) ∧ J (pre ++ [x]) W' ∧ KR n₀ tb W W') ∨ (e = .returned (.bool false) ∧ Jx (pre ++ [x]) W'))
    (W : World) (hb : Blk W tb 9 #[.string s]) (h0 : J [] W) :
    CallsIn Fence.wide m Try.prog 92 #[.func (.yield l) #[] #[], .pointer (some ⟨tb, 0, none⟩)] W fun e W' => (∃ v, e = .returned v) ∧
      ((∃ ys, ys = sp s.data.toList 0 none ∧ J ys W') ∨ (∃ pre, pre <+: sp s.data.toList 0 none ∧ Jx pre W')) := by
  have st : RunsIn l tb s J W 0 none [] := ⟨Nat.zero_le _, by simp, fun x h => (by cases h), h0, hb⟩
  have St := Lib.hid st
  have HJ := Lib.hid hJ
  have HY := Lib.hid hY
  clear st h0 hb hJ hY
  refine callsIn_of_wp Try.func92 rfl trivial ?_ rfl
  simp only [Try.ntmps92, List.size_toArray, List.length_cons, List.length_nil, Nat.reduceAdd, Nat.reduceSub, Array.replicate_succ, Array.replicate_zero, List.push_toArray, List.append_toArray, List.nil_append, List.cons_append]
  gi_wp2
  gi_loopw [3, 4] (fun f a wr => ∃ (k : Nat) (fo : Option Nat) (pre : List (Nat × Nat)), a = .int .i64 k ∧ f = .int .i64 (fv fo) ∧ RunsIn l tb s J wr k fo pre)
    (fun f a wr => s.size - (intOf a).toNat)
  case atStart => exact ⟨0, none, [], rfl, rfl, St.out⟩
  case round =>
    obtain ⟨k, fo, pre, rfl, rfl, hR⟩ := hrel
    have hk := hR.le
    have hcell := hR.bx.cell 0
    simp only [List.getElem?_toArray, List.getElem?_cons_zero] at hcell
    by_cases hlt : k < s.size
    · have hne := drop_ne s k hlt
      have hds := dec_size _ hne
      have c1 := decode_any s (k : Int) wr hs
      rw [decAt_in s k] at c1
      have hdl : (s.data.toList.drop k).drop (dec (s.data.toList.drop k)).2 = s.data.toList.drop (k + (dec (s.data.toList.drop k)).2) := by rw [List.drop_drop]
      have hw1 := sp_word (s.data.toList.drop k) k fo hne
      have hw2 := sp_gap (s.data.toList.drop k) k fo hne
      rw [hdl] at hw1 hw2
      have hln : (s.data.toList.drop k).length = s.size - k := by rw [List.length_drop, bsize]
      rw [hln] at hds
      generalize dec (s.data.toList.drop k) = d at *
      obtain ⟨r, nn⟩ := d
      simp only at c1 hds hw1 hw2
      have hkn : k + nn ≤ s.size := by omega
      have HR := Lib.hid hR
      have Hw1 := Lib.hid hw1
      have Hw2 := Lib.hid hw2
      clear hR hw1 hw2 hdl hne
      have keep : ∀ w2, Below wr.heap.size wr w2 → J pre w2 ∧ Blk w2 tb 9 #[.string s] := fun w2 h2 => ⟨HJ.out pre wr w2 none HR.out.j (grow_of_below h2 none) (fun r e => by cases e), HR.out.bx.below h2 HR.out.bx.lt⟩
      have Kp := Lib.hid keep
      clear keep
      have hwc : isWord (r : Int) = true ∨ isWord (r : Int) = false := by cases isWord (r : Int) <;> simp
      have cw := fun w2 => word_any (r : Int) w2
      have Cw := Lib.hid cw
      clear cw
      rcases hwc with hw | hw
      · -- a word's rune
        have hnext : RunsIn l tb s J wr k fo pre → ∀ w3, Below wr.heap.size wr w3 → RunsIn l tb s J w3 (k + nn) (some (fo.getD k)) pre := fun h w3 h3 =>
          ⟨hkn, by rw [← Hw1.out hw]; exact h.all, fun x e => by
            injection e with e
            subst e
            cases fo with
            | none => simp; omega
            | some a => have := h.lt a rfl; simp; omega, (Kp.out w3 h3).1, (Kp.out w3 h3).2⟩
        have Hn := Lib.hid (hnext HR.out)
        clear hnext
        cases fo with
        | none =>
          gi_wp2_with fail
          refine ⟨trivial, (callsIn_wide.2 c1).mono ?_⟩
          rintro e w2 ⟨rfl, hb2⟩
          have hc2 := (hb2.cell (p := ⟨tb, 0, none⟩) (World.block_lt_of_cell? wr _ hcell)).trans hcell
          have c2 := Cw.out w2
          rw [hw] at c2
          gi_wp2_with fail
          refine ⟨trivial, (callsIn_wide.2 c2).mono ?_⟩
          rintro e w3 ⟨rfl, hb3⟩
          have h3 := Lib.hid (hb2.trans (hb3.mono hb2.size))
          clear hb2 hb3 c1 c2 hcell hc2
          gi_wp2
          go_roundw
          case rel => exact ⟨k + nn, some k, pre, by go_num, rfl, Hn.out w3 h3.out⟩
          case measure => simp [intOf]; omega
        | some a =>
          have ha : (0 : Int) ≤ (a : Int) := by omega
          gi_wp2_with fail
          refine ⟨trivial, (callsIn_wide.2 c1).mono ?_⟩
          rintro e w2 ⟨rfl, hb2⟩
          have hc2 := (hb2.cell (p := ⟨tb, 0, none⟩) (World.block_lt_of_cell? wr _ hcell)).trans hcell
          have c2 := Cw.out w2
          rw [hw] at c2
          gi_wp2_with fail
          refine ⟨trivial, (callsIn_wide.2 c2).mono ?_⟩
          rintro e w3 ⟨rfl, hb3⟩
          have h3 := Lib.hid (hb2.trans (hb3.mono hb2.size))
          clear hb2 hb3 c1 c2 hcell hc2
          have hfv : fv (some a) = (a : Int) := rfl
          simp only [hfv]
          gi_wp2
          go_roundw
          case rel => exact ⟨k + nn, some a, pre, by go_num, rfl, Hn.out w3 h3.out⟩
          case measure => simp [intOf]; omega
      · -- none
        cases fo with
        | none =>
          have hnext : RunsIn l tb s J wr k none pre → ∀ w3, Below wr.heap.size wr w3 → RunsIn l tb s J w3 (k + nn) none pre := fun h w3 h3 =>
            ⟨hkn, by have := h.all; rw [Hw2.out hw] at this; exact this, fun x e => (by cases e), (Kp.out w3 h3).1, (Kp.out w3 h3).2⟩
          have Hn := Lib.hid (hnext HR.out)
          clear hnext
          gi_wp2_with fail
          refine ⟨trivial, (callsIn_wide.2 c1).mono ?_⟩
          rintro e w2 ⟨rfl, hb2⟩
          have hc2 := (hb2.cell (p := ⟨tb, 0, none⟩) (World.block_lt_of_cell? wr _ hcell)).trans hcell
          have c2 := Cw.out w2
          rw [hw] at c2
          gi_wp2_with fail
          refine ⟨trivial, (callsIn_wide.2 c2).mono ?_⟩
          rintro e w3 ⟨rfl, hb3⟩
          have h3 := Lib.hid (hb2.trans (hb3.mono hb2.size))
          clear hb2 hb3 c1 c2 hcell hc2
          gi_wp2
          go_roundw
          case rel => exact ⟨k + nn, none, pre, by go_num, rfl, Hn.out w3 h3.out⟩
          case measure => simp [intOf]; omega
        | some a =>
          have ha : (0 : Int) ≤ (a : Int) := by omega
          have hal := HR.out.all
          rw [Hw2.out hw] at hal
          have hpl : pre.length < (sp s.data.toList 0 none).length := by rw [← hal]; simp [tailS]
          have hal2 : (pre ++ [(a, k)]) ++ sp (s.data.toList.drop (k + nn)) (k + nn) none = sp s.data.toList 0 none := by rw [← hal]; simp [tailS]
          have Hal := Lib.hid hal2
          clear hal hal2
          gi_wp2_with fail
          refine ⟨trivial, (callsIn_wide.2 c1).mono ?_⟩
          rintro e w2 ⟨rfl, hb2⟩
          have hc2 := (hb2.cell (p := ⟨tb, 0, none⟩) (World.block_lt_of_cell? wr _ hcell)).trans hcell
          have c2 := Cw.out w2
          rw [hw] at c2
          gi_wp2_with fail
          refine ⟨trivial, (callsIn_wide.2 c2).mono ?_⟩
          rintro e w3 ⟨rfl, hb3⟩
          have h3 := Lib.hid (hb2.trans (hb3.mono hb2.size))
          obtain ⟨fn, tmps, assign, body, hy, hRd⟩ := HY.out pre (a, k) w3 (Kp.out w3 h3.out).1 hpl
          dsimp only at hy
          clear hb2 hb3 c1 c2 hcell hc2
          have hfv : fv (some a) = (a : Int) := rfl
          simp only [hfv]
          gi_wp2
          refine hRd.mono ?_
          rintro e W3 (⟨rfl, hJ3, hk3⟩ | ⟨rfl, hJx3⟩)
          · have hbx : Blk W3 tb 9 #[.string s] := hk3.2.trans (Kp.out w3 h3.out).2
            have Hn : Hid (RunsIn l tb s J W3 (k + nn) none (pre ++ [(a, k)])) := Lib.hid ⟨hkn, Hal.out, fun x e => (by cases e), hJ3, hbx⟩
            clear hJ3 hk3 hy hbx
            gi_wp2
            go_roundw
            case rel => exact ⟨k + nn, none, pre ++ [(a, k)], by go_num, rfl, Hn.out⟩
            case measure => simp [intOf]; omega
          · have hpx : pre ++ [(a, k)] <+: sp s.data.toList 0 none := ⟨_, Hal.out⟩
            have Hpx := Lib.hid hpx
            have Hjx := Lib.hid hJx3
            clear hpx hJx3 hy
            gi_wp2
            refine bodyPost_ret (results_none rfl _ _ _) rfl ?_
            exact ⟨⟨_, rfl⟩, .inr ⟨_, Hpx.out, Hjx.out⟩⟩
    · obtain rfl : k = s.size := by omega
      have hal := hR.all
      have hdn : s.data.toList.drop s.size = [] := List.drop_of_length_le (by rw [bsize]; omega)
      rw [hdn, sp_nil] at hal
      have hJr := hR.j
      cases fo with
      | none =>
        simp only [tailS, List.append_nil] at hal
        have Hal := Lib.hid hal
        have Hjr := Lib.hid hJr
        clear hal hR hJr
        gi_wp2
        go_end0
        exact ⟨⟨_, rfl⟩, .inl ⟨pre, Hal.out, Hjr.out⟩⟩
      | some a =>
        have ha : (0 : Int) ≤ (a : Int) := by omega
        have hpl : pre.length < (sp s.data.toList 0 none).length := by rw [← hal]; simp [tailS]
        obtain ⟨fn, tmps, assign, body, hy, hRd⟩ := HY.out pre (a, s.size) wr hJr hpl
        dsimp only at hy
        have hfv : fv (some a) = (a : Int) := rfl
        simp only [hfv]
        have Hal := Lib.hid hal
        clear hal hR hJr
        gi_wp2
        refine hRd.mono ?_
        rintro e W3 (⟨rfl, hJ3, hk3⟩ | ⟨rfl, hJx3⟩)
        · have Hj3 := Lib.hid hJ3
          clear hJ3 hk3 hy
          gi_wp2
          go_end0
          exact ⟨⟨_, rfl⟩, .inl ⟨_, Hal.out, Hj3.out⟩⟩
        · have Hj3 := Lib.hid hJx3
          clear hJx3 hy
          gi_wp2
          go_end0
          exact ⟨⟨_, rfl⟩, .inr ⟨_, ⟨[], by simpa [tailS] using Hal.out⟩, Hj3.out⟩⟩
end Go.Proofs.Ytjfconddkfihcaa.Mk
end

section
/- mark.runs, mark.Runs: the walk. -/
namespace Go.Proofs.Ytjfconddkfihcaa.Mk
open Go.RowKit Go.Shelf Go.Proofs.Ytjfconddkfihcaa Go.Proofs.Ytjfconddkfihcaa.Ut
attribute [local go_sem] Oper.semAt_some
set_option linter.unusedSimpArgs false

set_option maxHeartbeats 1000000 in
theorem runs_in (n : Nat) (s : ByteArray) (w : World) :
    CallsIn Fence.wide n Try.prog 62 #[.string s] w fun e w' => e = .returned (.func (.func 92) #[] #[.pointer (some ⟨w.heap.size, 0, none⟩)]) ∧ w' = w.alloc (.cells #[.string s] 9) := by
  refine callsIn_of_wp Try.func62 rfl trivial ?_ rfl
  simp only [Try.ntmps62, List.size_toArray, List.length_cons, List.length_nil, Nat.reduceAdd, Nat.reduceSub, Array.replicate_succ, Array.replicate_zero, List.push_toArray, List.append_toArray, List.nil_append, List.cons_append]
  gi_wp2
  go_ret
  exact ⟨rfl, rfl⟩

theorem runs_stops (m : Nat) (hn : 1 ≤ m) (tb n₀ : Nat) (s : ByteArray) (hs : s.size ≤ 140737488351232) (w : World) (hb : Blk w tb 9 #[.string s]) :
    SeqStopsK Fence.wide m Try.prog 92 #[.pointer (some ⟨tb, 0, none⟩)] (fun x : Nat × Nat => #[.agg #[.int .i64 (x.1 : Nat), .int .i64 (x.2 : Nat)]]) (KR n₀ tb) (fun ys => ys = sp s.data.toList 0 none) (fun pre => pre <+: sp s.data.toList 0 none) (sp s.data.toList 0 none).length w :=
  fun l J Jx W hW hJ _ hY h0 => runs1_in m hn l tb n₀ W.heap.size s hs J Jx hJ hY W (hb.below hW hb.lt) h0

theorem span_info : (Try.prog.info? 45).map (fun i => (i.zero, i.size, i.bytes)) = some (some (.agg #[.int .i64 0, .int .i64 0]), 2, 16) := by kernel_rfl

/-- What comes back: spans of the call's own. -/
def SpPost (w : World) (l : List (Nat × Nat)) (e : Ending) (w' : World) : Prop := ∃ v, e = .returned v ∧ w'.ownsRow w.heap.size 45 2 v l.length (spC l) ∧ Below w.heap.size w w'

theorem kr_b {w : World} {n₀ tb : Nat} (h : n₀ ≤ w.heap.size) (ht : tb < w.heap.size) (W : World) (l : Nat) (o o' : Obj) (hl : w.heap.size ≤ l) (ho : W.heap[l]? = some o) (h1 : o.isCells = false) (h2 : o.isWalk = false) : KR n₀ tb W (W.putObj l o') :=
  ⟨belowK_b h W l o o' hl ho h1 h2, World.putObj_heap_other (by omega)⟩
theorem blk_own {W W' : World} {row : Option Nat} {g : Nat} {t : TypeId} {cs : Array Value} (h : Blk W g t cs) (hg : W.grownBy W' row) (hr : ∀ r, row = some r → ∃ o : Obj, W.heap[r]? = some o ∧ o.isCells = false) : Blk W' g t cs :=
  h.grown hg (fun e => by
    obtain ⟨o, h1, h2⟩ := hr g e.symm
    have : some o = some _ := h1.symm.trans h
    injection this with this
    subst this
    cases h2)

set_option maxRecDepth 100000 in
set_option maxHeartbeats 4000000 in
theorem runsW_in (s : ByteArray) (w : World) (hs : s.size ≤ 1000000) : CallsIn Fence.wide 3 Try.prog 15 #[.string s] w (SpPost w (sp s.data.toList 0 none)) := by
  obtain ⟨i0, hi, hz0, hz1, hz2⟩ := info_parts span_info
  have hct := sp_count s.data.toList
  rw [bsize] at hct
  refine callsIn_of_wp_marks Try.func15 rfl trivial ?_ rfl
  simp only [Try.ntmps15, List.size_toArray, List.length_cons, List.length_nil, Nat.reduceAdd, Nat.reduceSub, Array.replicate_succ, Array.replicate_zero, List.push_toArray, List.append_toArray, List.nil_append, List.cons_append]
  gi_wp2_with fail
  refine ⟨trivial, (runs_in _ s _).mono ?_⟩
  rintro e w' ⟨rfl, rfl⟩
  gi_wp2_with fail
  have bO := (Boxed.new w 23 (.slice none 0 0)).alloc (.cells #[.string s] 9)
  have bN := Blk.new (w.alloc (.cells #[.slice none 0 0] 23)) 9 #[.string s]
  rw [World.size_alloc] at bN
  have hB0 : Below w.heap.size w ((w.alloc (.cells #[.slice none 0 0] 23)).alloc (.cells #[.string s] 9)) := ((Below.refl _ w).alloc (Nat.le_refl _) _).alloc (by simp) _
  have hsz : ((w.alloc (.cells #[.slice none 0 0] 23)).alloc (.cells #[.string s] 9)).heap.size = w.heap.size + 2 := by simp
  generalize ((w.alloc (.cells #[.slice none 0 0] 23)).alloc (.cells #[.string s] 9)) = W0 at *
  refine wpIn_rangeFunc_ownH rfl (by omega) (gf := 92) (lb := #[.pointer (some ⟨w.heap.size + 1, 0, none⟩)]) rfl trivial (enters_of Try.func92 (by kernel_rfl) rfl)
    (runs_stops 2 (by omega) (w.heap.size + 1) w.heap.size s (by omega) W0 bN) (fun h k => h.trans k) (kr_b (by omega) (by omega)) (Below.refl _ _) (fun _ => rfl)
    (fun pre W => (∃ v, Boxed W w.heap.size 23 v ∧ W.ownsRow w.heap.size 45 2 v pre.length (spC pre) ∧ True) ∧ Blk W (w.heap.size + 1) 9 #[.string s] ∧ Below w.heap.size w W)
    (fun _ _ _ => False)
    (OwnFrom.and (Own.from (holdsRow_own w.heap.size w.heap.size 23 45 2 (fun pre => pre.length) (fun pre => spC pre) (fun _ _ => True)) _) (OwnFrom.and (fun _ A B row hs hg hr => blk_own hs hg (fun r e => (hr r e).2)) (ownFrom_below (Nat.le_refl _) (by omega))))
    (fun _ _ _ _ _ hs _ _ => hs)
    ⟨⟨_, bO, World.ownsRow_nil _ _ _ _, trivial⟩, bN, hB0⟩
    (fun x a' W => ∃ Bx, w.heap.size + 1 < Bx ∧ Blk W Bx 45 #[.int .i64 (x.1 : Nat), .int .i64 (x.2 : Nat)] ∧ a' = { tmps := #[.string s, undef, .slice none 0 0, .pointer (some ⟨w.heap.size, 0, none⟩), .pointer (some ⟨Bx, 0, none⟩), .string s, .func (.func 92) #[] #[.pointer (some ⟨w.heap.size + 1, 0, none⟩)], .agg #[.int .i64 (x.1 : Nat), .int .i64 (x.2 : Nat)], undef, undef, undef, undef, undef], defers := [] })
    (fun x a' _ X Y row hs hg hr => by obtain ⟨Bx, h1, h2, h3⟩ := hs; exact ⟨Bx, h1, blk_own h2 hg (fun r e => (hr r e).2), h3⟩)
    ?assign ?body ?done ?stop
  case assign =>
    rintro l pre x W K ⟨⟨v, bV, hrow, _⟩, bT, hB1⟩ hK
    gi_wp2
    exact hK _ _ ((KeepsOthers.alloc _ _).from _) ⟨(Below.refl _ W).alloc hB1.size _, (Below.heap_alloc W _ _ bT.lt)⟩ ⟨⟨v, bV.alloc _, hrow.alloc _, trivial⟩, bT.alloc _, hB1.alloc hB1.size _⟩ ⟨W.heap.size, bT.lt, Blk.new W _ _, rfl⟩
  case body =>
    rintro l pre x a' W hl ⟨r, hr⟩ ⟨⟨v, hv, hrow, _⟩, bT, hB⟩ ⟨Bx, hBx, bX, rfl⟩ hlt
    have hc := hv.cell
    have x0 := bX.cell 0
    have x1 := bX.cell 1
    simp only [List.getElem?_toArray, List.getElem?_cons_zero, List.getElem?_cons_succ] at x0 x1
    have hbt := bT.lt
    gi_wp2_with (gi_at_builtin; refine wpListIn_append_own _ rfl _ _ 23 rfl w.heap.size 45 i0 _ 2 16 Try.underlying23 hi hz0 hz1 hz2 rfl (by decide) _ _ _ rfl (hrow.alloc _) ⟨W.heap.size, 0, none⟩ 1 1 [.int .i64 (x.1 : Nat), .int .i64 (x.2 : Nat)] rfl rfl (World.news_of_block (cs := #[.int .i64 (x.1 : Nat), .int .i64 (x.2 : Nat)]) (t := 45) (fr := (0, 0)) (heap_alloc_new W _)) (by simp [Value.oneCell']) (by unfold maxLen; omega) (by omega) (by have := hB.size; simp; omega) ?_; intro v' w1 hown' hgrow _; obtain ⟨g', cap', rfl⟩ := ownsRow_succ hown'; obtain ⟨hv1, hv2, hr2, hk2, hb2⟩ := hv.appended (by decide) hrow hB.size (Nat.le_refl _) hown' hgrow; have hc1 := hv1.cell; have hf1 := hv1.frozen)
    have hn : some (w.heap.size + 1) ≠ v.ownBlock := Boxed.not_row (t := 9) (u := .string s) bT (by decide) hrow
    have bT1 : Boxed w1 (w.heap.size + 1) 9 (.string s) := (Boxed.alloc (t := 9) (v := .string s) bT _).kept hgrow hn
    have bT2 := bT1.other (B' := w.heap.size) (by omega) (.slice (some ⟨g', 0, none⟩) (pre.length + 1) cap')
    exact ⟨hk2.from _, ⟨hb2, Eq.trans bT2 (Eq.symm bT)⟩, ⟨⟨_, hv2, by rw [spC_snoc, List.length_append]; exact hr2, trivial⟩, bT2, hB.trans hb2⟩⟩
  case done =>
    rintro D ys W hD rfl ⟨⟨v, hv, hrow, _⟩, _, hB⟩ hK
    have hc := hv.cell
    gi_wp2
    refine ⟨by simp, .inl ⟨_, _, rfl, run_takeDeferred hK, ?_⟩⟩
    exact ⟨_, results_tmp rfl _ _ _, v, rfl, ownsRow_putObj hrow _ hK rfl, hB.trans (belowK_b (w := w) (Nat.le_refl _) W D _ _ (by omega) hK rfl rfl)⟩
  case stop =>
    rintro D c pre W _ _ h _
    exact h.elim
theorem runsM_any (s : ByteArray) (w : World) (hs : s.size ≤ 1000000) : Calls Try.prog 15 #[.string s] w (SpPost w (sp s.data.toList 0 none)) := callsIn_wide.1 (runsW_in s w hs)
end Go.Proofs.Ytjfconddkfihcaa.Mk
end
