/- slices.Insert of one bucket at the end; all roads; hist.put. -/
import Derived.Test.YthhklbjhlfejfaaHistJ
namespace Go.Proofs.Ythhklbjhlfejfaa.Hi
open Go.RowKit
set_option maxRecDepth 20000

set_option maxHeartbeats 1600000 in
theorem ins_end_some (base g cap vb : Nat) (l : List Bk) (k x : Int) (w : World) (hown : OwnB w base (.slice (some ⟨g, 0, none⟩) l.length cap) l) (hl : l.length ≤ 1000000)
    (hv : Blk w vb 48 #[.int .i64 k, .int .i64 x]) (hbase : base ≤ w.heap.size) :
    Calls Try.prog 36 #[.slice (some ⟨g, 0, none⟩) l.length cap, .int .i64 (l.length : Int), .slice (some ⟨vb, 0, none⟩) 1 1] w
      (InsPost w base (.slice (some ⟨g, 0, none⟩) l.length cap) (l ++ [(k, x)])) := by
  obtain ⟨inf, hi0, hz0, hz1, hz2⟩ := info_parts bk_info
  obtain ⟨N, hN⟩ : ∃ N, N = l.length := ⟨_, rfl⟩
  unfold OwnB at hown
  rw [← hN] at hown hl ⊢
  have Post : Hid (∀ w' v', w'.ownsRow base 48 2 v' (N + 1) (bkC l ++ [Value.int .i64 k, Value.int .i64 x]) → OwnB w' base v' (l ++ [(k, x)])) := Lib.hid (fun w' v' h => by
    unfold OwnB
    rw [List.length_append, bkC_app, ← hN]
    exact h)
  obtain ⟨X, hX⟩ : ∃ X, X = [Value.int .i64 k, Value.int .i64 x] := ⟨_, rfl⟩
  have hXn : ∀ j u, X[j]? = some u → w.cell? ((⟨vb, 0, none⟩ : Addr).add j) = some u := fun j u hj => by
    rw [add_lit, Nat.zero_add, cell_of_row w vb j _ _ _ hv, ← hj, hX]
    simp
  have hX1 : ∀ u ∈ X, u.oneCell' = true := by rw [hX]; intro u hu; simp at hu; rcases hu with rfl | rfl <;> rfl
  have hXl : X.length = 1 * 2 := by rw [hX]; rfl
  rw [← hX] at Post
  obtain ⟨cs, hcs⟩ : ∃ cs, cs = bkC l := ⟨_, rfl⟩
  rw [← hcs] at Post hown
  have hN0 : N ≤ cap := by
    rcases hown.2 with ⟨h, _⟩ | ⟨g', cap', cur, h, hb, hg, hnc, hcm, hcs, ht⟩
    · cases h
    · injection h with h1 h2 h3; omega
  clear hX hcs hN hv
  by_cases hc : cap = N
  · subst hc
    go_enter Try.func36, Try.ntmps36
    go_wp2_with (at_builtin; refine wpList_append_own _ rfl _ _ 29 rfl base 48 inf _ 2 16 Try.underlying29 hi0 hz0 hz1 hz2 rfl (by decide) (.slice (some ⟨g, 0, none⟩) cap cap) cap cs rfl hown ⟨vb, 0, none⟩ 1 1 X rfl hXl hXn hX1 ?d3 ?d4 hbase ?_)
    case d3 => unfold maxLen; omega
    case d4 => omega
    intro v' w5 hown5 hg5 _
    have F := Lib.hid (Post.out _ _ hown5)
    have G := Lib.hid hg5
    clear hown5 hg5 hown
    go_wp2
    go_ret
    exact ⟨_, rfl, F.out, G.out⟩
  · go_enter Try.func36, Try.ntmps36
    go_wp2_with (at_builtin; refine wpList_append_own _ rfl _ _ 29 rfl base 48 inf _ 2 16 Try.underlying29 hi0 hz0 hz1 hz2 rfl (by decide) (.slice (some ⟨g, 0, none⟩) N cap) N cs rfl hown ⟨vb, 0, none⟩ 1 1 X rfl hXl hXn hX1 ?d3 ?d4 hbase ?_)
    case d3 => unfold maxLen; omega
    case d4 => omega
    intro v' w5 hown5 hg5 _
    have F := Lib.hid (Post.out _ _ hown5)
    have G := Lib.hid hg5
    clear hown5 hg5 hown
    go_wp2
    go_ret
    exact ⟨_, rfl, F.out, G.out⟩

set_option maxHeartbeats 1600000 in
theorem ins_end_nil (base vb : Nat) (k x : Int) (w : World)
    (hv : Blk w vb 48 #[.int .i64 k, .int .i64 x]) (hbase : base ≤ w.heap.size) :
    Calls Try.prog 36 #[.slice none 0 0, .int .i64 0, .slice (some ⟨vb, 0, none⟩) 1 1] w
      (InsPost w base (.slice none 0 0) [(k, x)]) := by
  obtain ⟨inf, hi0, hz0, hz1, hz2⟩ := info_parts bk_info
  have hown := World.ownsRow_nil w base 48 2
  have Post : Hid (∀ w' v', w'.ownsRow base 48 2 v' (0 + 1) ([] ++ [Value.int .i64 k, Value.int .i64 x]) → OwnB w' base v' [(k, x)]) := Lib.hid (fun w' v' h => h)
  obtain ⟨X, hX⟩ : ∃ X, X = [Value.int .i64 k, Value.int .i64 x] := ⟨_, rfl⟩
  have hXn : ∀ j u, X[j]? = some u → w.cell? ((⟨vb, 0, none⟩ : Addr).add j) = some u := fun j u hj => by
    rw [add_lit, Nat.zero_add, cell_of_row w vb j _ _ _ hv, ← hj, hX]
    simp
  have hX1 : ∀ u ∈ X, u.oneCell' = true := by rw [hX]; intro u hu; simp at hu; rcases hu with rfl | rfl <;> rfl
  have hXl : X.length = 1 * 2 := by rw [hX]; rfl
  rw [← hX] at Post
  clear hX hv
  go_enter Try.func36, Try.ntmps36
  go_wp2_with (at_builtin; refine wpList_append_own _ rfl _ _ 29 rfl base 48 inf _ 2 16 Try.underlying29 hi0 hz0 hz1 hz2 rfl (by decide) (.slice none 0 0) 0 [] rfl hown ⟨vb, 0, none⟩ 1 1 X rfl hXl hXn hX1 ?d3 ?d4 hbase ?_)
  case d3 => decide
  case d4 => omega
  intro v' w5 hown5 hg5 _
  have F := Lib.hid (Post.out _ _ hown5)
  have G := Lib.hid hg5
  clear hown5 hg5 hown
  go_wp2
  go_ret
  exact ⟨_, rfl, F.out, G.out⟩

theorem ins_any (base i vb : Nat) (v : Value) (l : List Bk) (k x : Int) (w : World) (hown : OwnB w base v l) (hi : i ≤ l.length) (hl : l.length ≤ 1000000)
    (hv : Blk w vb 48 #[.int .i64 k, .int .i64 x]) (hne : v.ownBlock ≠ some vb) (hbase : base ≤ w.heap.size) :
    Calls Try.prog 36 #[v, .int .i64 (i : Int), .slice (some ⟨vb, 0, none⟩) 1 1] w
      (InsPost w base v (l.take i ++ (k, x) :: l.drop i)) := by
  rcases hown.2 with ⟨rfl, h0⟩ | ⟨g, cap, cur, rfl, hb, hg, hnc, hcm, hcs, ht⟩
  · have : l = [] := List.eq_nil_of_length_eq_zero h0
    subst this
    obtain rfl : i = 0 := by simpa using hi
    exact ins_end_nil base vb k x w hv hbase
  · have hne' : vb ≠ g := fun e => hne (by rw [e]; rfl)
    by_cases he : i = l.length
    · subst he
      rw [List.take_length, List.drop_length]
      exact ins_end_some base g cap vb l k x w hown hl hv hbase
    · by_cases hr : l.length + 1 ≤ cap
      · exact ins_room base g cap i vb l k x w hown (by omega) hr hl hv hne'
      · exact ins_grow base g cap i vb l k x w hown (by omega) (by omega) hl hv hbase
end Go.Proofs.Ythhklbjhlfejfaa.Hi
