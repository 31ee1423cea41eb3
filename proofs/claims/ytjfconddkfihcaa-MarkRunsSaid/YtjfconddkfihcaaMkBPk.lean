/- mark.runs, mark.Runs: the walk. -/
import Derived.Test.YtjfconddkfihcaaMkAPk
namespace Go.Proofs.Ytjfconddkfihcaa.Mk
open Go.RowKit Go.Shelf Go.Proofs.Ytjfconddkfihcaa Go.Proofs.Ytjfconddkfihcaa.Ut
attribute [local go_sem] Oper.semAt_some
set_option linter.unusedSimpArgs false

set_option maxHeartbeats 1000000 in
theorem runs_in (n : Nat) (s : ByteArray) (w : World) :
    CallsIn Fence.wide n Try.prog 62 #[.string s] w fun e w' => e = .returned (.func (.func 92) #[] #[.pointer (some ⟨w.heap.size, 0, none⟩)]) ∧ w' = w.alloc (.cells #[.string s] 9) := by
  refine callsIn_of_wp Try.func62 rfl trivial ?_ rfl
  simp only [Try.ntmps62, List.size_toArray, List.length_cons, List.length_nil, Nat.reduceAdd, Nat.reduceSub, Array.replicate_succ, Array.replicate_zero, List.push_toArray, List.append_toArray, List.nil_append, List.cons_append]
  gi_wp2
  go_ret
  exact ⟨rfl, rfl⟩

theorem runs_stops (m : Nat) (hn : 1 ≤ m) (tb n₀ : Nat) (s : ByteArray) (hs : s.size ≤ 140737488351232) (w : World) (hb : Blk w tb 9 #[.string s]) :
    SeqStopsK Fence.wide m Try.prog 92 #[.pointer (some ⟨tb, 0, none⟩)] (fun x : Nat × Nat => #[.agg #[.int .i64 (x.1 : Nat), .int .i64 (x.2 : Nat)]]) (KR n₀ tb) (fun ys => ys = sp s.data.toList 0 none) (fun pre => pre <+: sp s.data.toList 0 none) (sp s.data.toList 0 none).length w :=
  fun l J Jx W hW hJ _ hY h0 => runs1_in m hn l tb n₀ W.heap.size s hs J Jx hJ hY W (hb.below hW hb.lt) h0

theorem span_info : (Try.prog.info? 45).map (fun i => (i.zero, i.size, i.bytes)) = some (some (.agg #[.int .i64 0, .int .i64 0]), 2, 16) := by kernel_rfl

/-- What comes back: spans of the call's own. -/
def SpPost (w : World) (l : List (Nat × Nat)) (e : Ending) (w' : World) : Prop := ∃ v, e = .returned v ∧ w'.ownsRow w.heap.size 45 2 v l.length (spC l) ∧ Below w.heap.size w w'

theorem kr_b {w : World} {n₀ tb : Nat} (h : n₀ ≤ w.heap.size) (ht : tb < w.heap.size) (W : World) (l : Nat) (o o' : Obj) (hl : w.heap.size ≤ l) (ho : W.heap[l]? = some o) (h1 : o.isCells = false) (h2 : o.isWalk = false) : KR n₀ tb W (W.putObj l o') :=
  ⟨belowK_b h W l o o' hl ho h1 h2, World.putObj_heap_other (by omega)⟩
theorem blk_own {W W' : World} {row : Option Nat} {g : Nat} {t : TypeId} {cs : Array Value} (h : Blk W g t cs) (hg : W.grownBy W' row) (hr : ∀ r, row = some r → ∃ o : Obj, W.heap[r]? = some o ∧ o.isCells = false) : Blk W' g t cs :=
  h.grown hg (fun e => by
    obtain ⟨o, h1, h2⟩ := hr g e.symm
    have : some o = some _ := h1.symm.trans h
    injection this with this
    subst this
    cases h2)

set_option maxRecDepth 100000 in
set_option maxHeartbeats 4000000 in
theorem runsW_in (s : ByteArray) (w : World) (hs : s.size ≤ 1000000) : CallsIn Fence.wide 3 Try.prog 15 #[.string s] w (SpPost w (sp s.data.toList 0 none)) := by
  obtain ⟨i0, hi, hz0, hz1, hz2⟩ := info_parts span_info
  have hct := sp_count s.data.toList
  rw [bsize] at hct
  refine callsIn_of_wp_marks Try.func15 rfl trivial ?_ rfl
  simp only [Try.ntmps15, List.size_toArray, List.length_cons, List.length_nil, Nat.reduceAdd, Nat.reduceSub, Array.replicate_succ, Array.replicate_zero, List.push_toArray, List.append_toArray, List.nil_append, List.cons_append]
  gi_wp2_with fail
  refine ⟨trivial, (runs_in _ s _).mono ?_⟩
  rintro e w' ⟨rfl, rfl⟩
  gi_wp2_with fail
  have bO := (Boxed.new w 23 (.slice none 0 0)).alloc (.cells #[.string s] 9)
  have bN := Blk.new (w.alloc (.cells #[.slice none 0 0] 23)) 9 #[.string s]
  rw [World.size_alloc] at bN
  have hB0 : Below w.heap.size w ((w.alloc (.cells #[.slice none 0 0] 23)).alloc (.cells #[.string s] 9)) := ((Below.refl _ w).alloc (Nat.le_refl _) _).alloc (by simp) _
  have hsz : ((w.alloc (.cells #[.slice none 0 0] 23)).alloc (.cells #[.string s] 9)).heap.size = w.heap.size + 2 := by simp
  generalize ((w.alloc (.cells #[.slice none 0 0] 23)).alloc (.cells #[.string s] 9)) = W0 at *
  refine wpIn_rangeFunc_ownH rfl (by omega) (gf := 92) (lb := #[.pointer (some ⟨w.heap.size + 1, 0, none⟩)]) rfl trivial (enters_of Try.func92 (by kernel_rfl) rfl)
    (runs_stops 2 (by omega) (w.heap.size + 1) w.heap.size s (by omega) W0 bN) (fun h k => h.trans k) (kr_b (by omega) (by omega)) (Below.refl _ _) (fun _ => rfl)
    (fun pre W => (∃ v, Boxed W w.heap.size 23 v ∧ W.ownsRow w.heap.size 45 2 v pre.length (spC pre) ∧ True) ∧ Blk W (w.heap.size + 1) 9 #[.string s] ∧ Below w.heap.size w W)
    (fun _ _ _ => False)
    (OwnFrom.and (Own.from (holdsRow_own w.heap.size w.heap.size 23 45 2 (fun pre => pre.length) (fun pre => spC pre) (fun _ _ => True)) _) (OwnFrom.and (fun _ A B row hs hg hr => blk_own hs hg (fun r e => (hr r e).2)) (ownFrom_below (Nat.le_refl _) (by omega))))
    (fun _ _ _ _ _ hs _ _ => hs)
    ⟨⟨_, bO, World.ownsRow_nil _ _ _ _, trivial⟩, bN, hB0⟩
    (fun x a' W => ∃ Bx, w.heap.size + 1 < Bx ∧ Blk W Bx 45 #[.int .i64 (x.1 : Nat), .int .i64 (x.2 : Nat)] ∧ a' = { tmps := #[.string s, undef, .slice none 0 0, .pointer (some ⟨w.heap.size, 0, none⟩), .pointer (some ⟨Bx, 0, none⟩), .string s, .func (.func 92) #[] #[.pointer (some ⟨w.heap.size + 1, 0, none⟩)], .agg #[.int .i64 (x.1 : Nat), .int .i64 (x.2 : Nat)], undef, undef, undef, undef, undef], defers := [] })
    (fun x a' _ X Y row hs hg hr => by obtain ⟨Bx, h1, h2, h3⟩ := hs; exact ⟨Bx, h1, blk_own h2 hg (fun r e => (hr r e).2), h3⟩)
    ?assign ?body ?done ?stop
  case assign =>
    rintro l pre x W K ⟨⟨v, bV, hrow, _⟩, bT, hB1⟩ hK
    gi_wp2
    exact hK _ _ ((KeepsOthers.alloc _ _).from _) ⟨(Below.refl _ W).alloc hB1.size _, (Below.heap_alloc W _ _ bT.lt)⟩ ⟨⟨v, bV.alloc _, hrow.alloc _, trivial⟩, bT.alloc _, hB1.alloc hB1.size _⟩ ⟨W.heap.size, bT.lt, Blk.new W _ _, rfl⟩
  case body =>
    rintro l pre x a' W hl ⟨r, hr⟩ ⟨⟨v, hv, hrow, _⟩, bT, hB⟩ ⟨Bx, hBx, bX, rfl⟩ hlt
    have hc := hv.cell
    have x0 := bX.cell 0
    have x1 := bX.cell 1
    simp only [List.getElem?_toArray, List.getElem?_cons_zero, List.getElem?_cons_succ] at x0 x1
    have hbt := bT.lt
    gi_wp2_with (gi_at_builtin; refine wpListIn_append_own _ rfl _ _ 23 rfl w.heap.size 45 i0 _ 2 16 Try.underlying23 hi hz0 hz1 hz2 rfl (by decide) _ _ _ rfl (hrow.alloc _) ⟨W.heap.size, 0, none⟩ 1 1 [.int .i64 (x.1 : Nat), .int .i64 (x.2 : Nat)] rfl rfl (World.news_of_block (cs := #[.int .i64 (x.1 : Nat), .int .i64 (x.2 : Nat)]) (t := 45) (fr := (0, 0)) (heap_alloc_new W _)) (by simp [Value.oneCell']) (by unfold maxLen; omega) (by omega) (by have := hB.size; simp; omega) ?_; intro v' w1 hown' hgrow _; obtain ⟨g', cap', rfl⟩ := ownsRow_succ hown'; obtain ⟨hv1, hv2, hr2, hk2, hb2⟩ := hv.appended (by decide) hrow hB.size (Nat.le_refl _) hown' hgrow; have hc1 := hv1.cell; have hf1 := hv1.frozen)
    have hn : some (w.heap.size + 1) ≠ v.ownBlock := Boxed.not_row (t := 9) (u := .string s) bT (by decide) hrow
    have bT1 : Boxed w1 (w.heap.size + 1) 9 (.string s) := (Boxed.alloc (t := 9) (v := .string s) bT _).kept hgrow hn
    have bT2 := bT1.other (B' := w.heap.size) (by omega) (.slice (some ⟨g', 0, none⟩) (pre.length + 1) cap')
    exact ⟨hk2.from _, ⟨hb2, Eq.trans bT2 (Eq.symm bT)⟩, ⟨⟨_, hv2, by rw [spC_snoc, List.length_append]; exact hr2, trivial⟩, bT2, hB.trans hb2⟩⟩
  case done =>
    rintro D ys W hD rfl ⟨⟨v, hv, hrow, _⟩, _, hB⟩ hK
    have hc := hv.cell
    gi_wp2
    refine ⟨by simp, .inl ⟨_, _, rfl, run_takeDeferred hK, ?_⟩⟩
    exact ⟨_, results_tmp rfl _ _ _, v, rfl, ownsRow_putObj hrow _ hK rfl, hB.trans (belowK_b (w := w) (Nat.le_refl _) W D _ _ (by omega) hK rfl rfl)⟩
  case stop =>
    rintro D c pre W _ _ h _
    exact h.elim
theorem runsM_any (s : ByteArray) (w : World) (hs : s.size ≤ 1000000) : Calls Try.prog 15 #[.string s] w (SpPost w (sp s.data.toList 0 none)) := callsIn_wide.1 (runsW_in s w hs)
end Go.Proofs.Ytjfconddkfihcaa.Mk
