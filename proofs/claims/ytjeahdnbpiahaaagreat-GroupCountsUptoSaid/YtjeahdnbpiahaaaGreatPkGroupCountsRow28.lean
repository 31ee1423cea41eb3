/- group.ordered: the walks. -/
import Derived.Test.YtjeahdnbpiahaaaGreatPkGroupCountsRow27
section
namespace Go.Proofs.YtjeahdnbpiahaaaGreat.Gr
open Go.RowKit Go.Proofs.YtjeahdnbpiahaaaGreat Go.Proofs.YtjeahdnbpiahaaaGreat.Ut Go.Proofs.YtjeahdnbpiahaaaGreat.Tk Go.Sort Go.Shelf Go.Lib
set_option linter.unusedVariables false
set_option linter.unusedSimpArgs false

theorem sortT_any (g cap b1 b2 : Nat) (l : List Ct) (cur : Array Value) (w : World) (hb : w.heap[g]? = some (.cells cur 54 (0, 0))) (ht : cur.toList.take (l.length * 2) = ctC l) (hl : l.length ≤ 1048576)
    (h1 : w.cell? ⟨b1, 0, none⟩ = some (.func (.func 30) #[] #[])) (h2 : w.cell? ⟨b2, 0, none⟩ = some (.func (.func 31) #[] #[])) (n1 : b1 ≠ g) (n2 : b2 ≠ g) :
    Calls Tryz.prog 45 #[.slice (some ⟨g, 0, none⟩) l.length cap, .func (.func 46) #[] #[.pointer (some ⟨b1, 0, none⟩), .pointer (some ⟨b2, 0, none⟩)]] w fun e w' =>
      e = .returned (.tuple #[]) ∧ ∃ d' n os, PermIn 0 l.toArray.size l.toArray d' ∧ SortedIn (ltOf cfT) 0 l.toArray.size d' ∧ w' = sortWorldK encC 2 w g 0 n d' os := by
  have hcon := AnyQ.slices_SortFunc Tryz.sortCt 2 Tryz.isAgg54 Tryz.sizeOf54 encC (fun _ => rfl) (fun x v hv => by simp [encC] at hv; rcases hv with rfl | rfl <;> rfl) cfT swoT 46 _ g 0 cap l.toArray w
    (enters_of Tryz.func46 (by kernel_rfl) rfl) (cmpLaysT b1 b2 g 0 l.toArray.size w h1 h2 n1 n2) (holdsC hb ht) (Array.getElem?_eq_some_iff.1 hb).1 (by simp; omega)
  exact hcon
end Go.Proofs.YtjeahdnbpiahaaaGreat.Gr
end

section
/- The sorted row is the document's: plain. -/
namespace Go.Proofs.YtjeahdnbpiahaaaGreat.Gr
open Go.RowKit Go.Proofs.YtjeahdnbpiahaaaGreat Go.Proofs.YtjeahdnbpiahaaaGreat.Ut Go.Proofs.YtjeahdnbpiahaaaGreat.Tk Go.Sort Go.Shelf Go.Lib
set_option linter.unusedVariables false
set_option linter.unusedSimpArgs false

theorem perm_list {d d' : Array Ct} (h : PermIn 0 d.size d d') : d'.toList.Perm d.toList := by
  obtain ⟨h1, _, h3⟩ := h
  have e1 : d'.extract 0 d.size = d' := by rw [← h1]; simp
  have e2 : d.extract 0 d.size = d := by simp
  rw [e1, e2] at h3
  exact h3
theorem sorted_list {lt : Ct → Ct → Bool} {d d' : Array Ct} (hs : d'.size = d.size) (h : SortedIn lt 0 d.size d') : d'.toList.Pairwise (fun x y => lt y x = false) := by
  rw [List.pairwise_iff_getElem]
  intro i j hi hj hij
  have hj' : j < d'.size := by simpa using hj
  have hi' : i < d'.size := by simpa using hi
  have := h i j (Nat.zero_le _) hij (by omega)
  rw [getElem!_pos d' i hi', getElem!_pos d' j hj'] at this
  simpa using this
theorem okR_few {l : List Ct} (h : okR l = true) : ∀ x ∈ l, 1 ≤ x.2 ∧ x.2 ≤ 1099511627776 := by
  intro x hx
  obtain ⟨k, hk, rfl⟩ := List.getElem_of_mem hx
  unfold okR at h
  have := List.all_eq_true.1 h k (List.mem_range.2 hk)
  rw [okK_eq hk] at this
  simp only [Bool.and_eq_true, decide_eq_true_eq] at this
  exact ⟨this.1.1.2, this.1.2⟩
theorem neg_few {n : Int} (h : 1 ≤ n ∧ n ≤ 1099511627776) : wrap64 (-n) = -n := by
  unfold wrap64
  omega
theorem words_ne {l m : List Ct} (hp : m.Perm l) (h : l.Pairwise (fun x y => ltS x.1 y.1 = true)) : m.Pairwise (fun x y => x.1 ≠ y.1) := by
  have h1 : l.Pairwise (fun x y => x.1 ≠ y.1) := h.imp (fun {x y} hxy e => by rw [e, ltS_irrefl] at hxy; cases hxy)
  exact (hp.pairwise_iff (fun {x y} h e => h e.symm)).2 h1
theorem top_sorted {l : List Ct} {d' : Array Ct} (h : okR l = true) (hp : PermIn 0 l.toArray.size l.toArray d') (hs : SortedIn (ltOf cfT) 0 l.toArray.size d') : d'.toList = topR l := by
  have hpl : d'.toList.Perm l := by simpa using perm_list hp
  refine topR_one h hpl ?_
  have h1 := sorted_list hp.1 hs
  have h2 := words_ne hpl (okR_rising h)
  have h3 := h1.and h2
  refine h3.imp_of_mem (fun {x y} hx hy hxy => ?_)
  obtain ⟨q1, q2⟩ := hxy
  have fx := okR_few h x (hpl.mem_iff.1 hx)
  have fy := okR_few h y (hpl.mem_iff.1 hy)
  rw [← Bool.not_eq_true, cfT_lt, neg_few fx, neg_few fy] at q1
  unfold ltT
  by_cases e : y.2 < x.2
  · exact .inl e
  · have e2 : x.2 = y.2 := by
      by_cases g : x.2 < y.2
      · exact absurd (.inl (by omega)) q1
      · omega
    refine .inr ⟨e2, ?_⟩
    cases hh : ltS x.1 y.1
    · rcases ltS_total hh with g | g
      · exact absurd g q2
      · exact absurd (.inr ⟨by omega, g⟩) q1
    · rfl
end Go.Proofs.YtjeahdnbpiahaaaGreat.Gr
end

section
/- group.ordered: the walk. -/
namespace Go.Proofs.YtjeahdnbpiahaaaGreat.Gr
open Go.RowKit Go.Proofs.YtjeahdnbpiahaaaGreat Go.Proofs.YtjeahdnbpiahaaaGreat.Ut Go.Proofs.YtjeahdnbpiahaaaGreat.Tk Go.Sort Go.Shelf Go.Lib
set_option maxRecDepth 20000
set_option linter.unusedSimpArgs false
set_option linter.unusedVariables false

theorem box_two (w : World) (o : Obj) (v : Value) (t : TypeId) : ((w.alloc o).alloc (.cells #[v] t)).cell? ⟨w.heap.size + 1, 0, none⟩ = some v := by
  have h := (Blk.new (w.alloc o) t #[v]).cell 0
  rw [show (w.alloc o).heap.size = w.heap.size + 1 by simp] at h
  exact h
set_option maxHeartbeats 800000 in
theorem orderedT_any (base g cap : Nat) (l : List Ct) (cur : Array Value) (w : World) (hb : w.heap[g]? = some (.cells cur 54 (0, 0))) (ht : cur.toList.take (l.length * 2) = ctC l) (hl : l.length ≤ 1048576)
    (hg : base ≤ g) (h1 : l.length ≤ cap) (h2 : cap ≤ maxLen) (h3 : cur.size = cap * 2) :
    Calls Tryz.prog 28 #[.slice (some ⟨g, 0, none⟩) l.length cap, .func (.func 30) #[] #[], .func (.func 31) #[] #[]] w fun e w' =>
      e = .returned (.slice (some ⟨g, 0, none⟩) l.length cap) ∧ ∃ d' : Array Ct, PermIn 0 l.toArray.size l.toArray d' ∧ SortedIn (ltOf cfT) 0 l.toArray.size d' ∧ w'.ownsRow base 54 2 (.slice (some ⟨g, 0, none⟩) l.length cap) l.length (ctC d'.toList) ∧ ∃ o o', ((w.alloc o).alloc o').grownBy w' (some g) := by
  have hgl : g < w.heap.size := (Array.getElem?_eq_some_iff.1 hb).1
  have hs := fun (w2 : World) (b1 b2 : Nat) (e : w2.heap[g]? = some (.cells cur 54 (0, 0))) (n1 : b1 ≠ g) (n2 : b2 ≠ g) (q1 : w2.cell? ⟨b1, 0, none⟩ = some (.func (.func 30) #[] #[])) (q2 : w2.cell? ⟨b2, 0, none⟩ = some (.func (.func 31) #[] #[])) => sortT_any g cap b1 b2 l cur w2 e ht hl q1 q2 n1 n2
  have HS := Lib.hid hs
  clear hs
  go_enter Tryz.func28, Tryz.ntmps28
  go_wp2_with fail
  refine (HS.out _ w.heap.size (w.heap.size + 1) ?_ (by omega) (by omega) ?_ ?_).mono ?_
  · exact (Below.heap_alloc _ _ g (by simp; omega)).trans ((Below.heap_alloc w _ g hgl).trans hb)
  · exact (World.cell?_alloc_lt _ _ ⟨w.heap.size, 0, none⟩ (by simp)).trans ((Blk.new w _ _).cell 0)
  · exact box_two w _ _ _
  rintro e w5 ⟨rfl, d', n, os, hp, hso, rfl⟩
  have hm : d'.toList.length = l.length := by have := hp.1; simpa using this
  have hbE : ∀ o o', ((w.alloc o).alloc o').heap[g]? = some (.cells cur 54 (0, 0)) := fun o o' => (Below.heap_alloc (w.alloc o) o' g (by simp; omega)).trans ((Below.heap_alloc w o g hgl).trans hb)
  have hown := fun o o' => ownC (base := base) (n := n) (os := os) (m := d'.toList) (l := l) hm hg (hbE o o') h1 h2 h3
  simp only [Array.toArray_toList, hm] at hown
  have hgr : ∀ w2 : World, w2.grownBy (sortWorldK encC 2 w2 g 0 n d' os) (some g) := fun w2 => grownC _
  have Hgr := Lib.hid hgr
  have Hown := Lib.hid hown
  clear hown HS hgr
  go_wp2
  go_ret
  exact ⟨rfl, d', hp, hso, Hown.out _ _, _, _, Hgr.out _⟩
end Go.Proofs.YtjeahdnbpiahaaaGreat.Gr
end

section
/- group.ordered by words: the walks. -/
namespace Go.Proofs.YtjeahdnbpiahaaaGreat.Gr
open Go.RowKit Go.Proofs.YtjeahdnbpiahaaaGreat Go.Proofs.YtjeahdnbpiahaaaGreat.Ut Go.Proofs.YtjeahdnbpiahaaaGreat.Tk Go.Sort Go.Shelf Go.Lib
set_option maxRecDepth 20000
set_option linter.unusedSimpArgs false
set_option linter.unusedVariables false

theorem sortR_any (g cap b1 b2 : Nat) (l : List Ct) (cur : Array Value) (w : World) (hb : w.heap[g]? = some (.cells cur 54 (0, 0))) (ht : cur.toList.take (l.length * 2) = ctC l) (hl : l.length ≤ 1048576)
    (h1 : w.cell? ⟨b1, 0, none⟩ = some (.func (.func 36) #[] #[])) (h2 : w.cell? ⟨b2, 0, none⟩ = some (.func (.func 37) #[] #[])) (n1 : b1 ≠ g) (n2 : b2 ≠ g) :
    Calls Tryz.prog 45 #[.slice (some ⟨g, 0, none⟩) l.length cap, .func (.func 53) #[] #[.pointer (some ⟨b1, 0, none⟩), .pointer (some ⟨b2, 0, none⟩)]] w fun e w' =>
      e = .returned (.tuple #[]) ∧ ∃ d' n os, PermIn 0 l.toArray.size l.toArray d' ∧ SortedIn (ltOf cfR) 0 l.toArray.size d' ∧ w' = sortWorldK encC 2 w g 0 n d' os := by
  have hcon := AnyQ.slices_SortFunc Tryz.sortCt 2 Tryz.isAgg54 Tryz.sizeOf54 encC (fun _ => rfl) (fun x v hv => by simp [encC] at hv; rcases hv with rfl | rfl <;> rfl) cfR swoR 53 _ g 0 cap l.toArray w
    (enters_of Tryz.func53 (by kernel_rfl) rfl) (cmpLaysR b1 b2 g 0 l.toArray.size w h1 h2 n1 n2) (holdsC hb ht) (Array.getElem?_eq_some_iff.1 hb).1 (by simp; omega)
  exact hcon
set_option maxHeartbeats 800000 in
theorem orderedR_any (base g cap : Nat) (l : List Ct) (cur : Array Value) (w : World) (hb : w.heap[g]? = some (.cells cur 54 (0, 0))) (ht : cur.toList.take (l.length * 2) = ctC l) (hl : l.length ≤ 1048576)
    (hg : base ≤ g) (h1 : l.length ≤ cap) (h2 : cap ≤ maxLen) (h3 : cur.size = cap * 2) :
    Calls Tryz.prog 35 #[.slice (some ⟨g, 0, none⟩) l.length cap, .func (.func 36) #[] #[], .func (.func 37) #[] #[]] w fun e w' =>
      e = .returned (.slice (some ⟨g, 0, none⟩) l.length cap) ∧ ∃ d' : Array Ct, PermIn 0 l.toArray.size l.toArray d' ∧ SortedIn (ltOf cfR) 0 l.toArray.size d' ∧ w'.ownsRow base 54 2 (.slice (some ⟨g, 0, none⟩) l.length cap) l.length (ctC d'.toList) ∧ ∃ o o', ((w.alloc o).alloc o').grownBy w' (some g) := by
  have hgl : g < w.heap.size := (Array.getElem?_eq_some_iff.1 hb).1
  have hs := fun (w2 : World) (b1 b2 : Nat) (e : w2.heap[g]? = some (.cells cur 54 (0, 0))) (n1 : b1 ≠ g) (n2 : b2 ≠ g) (q1 : w2.cell? ⟨b1, 0, none⟩ = some (.func (.func 36) #[] #[])) (q2 : w2.cell? ⟨b2, 0, none⟩ = some (.func (.func 37) #[] #[])) => sortR_any g cap b1 b2 l cur w2 e ht hl q1 q2 n1 n2
  have HS := Lib.hid hs
  clear hs
  go_enter Tryz.func35, Tryz.ntmps35
  go_wp2_with fail
  refine (HS.out _ w.heap.size (w.heap.size + 1) ?_ (by omega) (by omega) ?_ ?_).mono ?_
  · exact (Below.heap_alloc _ _ g (by simp; omega)).trans ((Below.heap_alloc w _ g hgl).trans hb)
  · exact (World.cell?_alloc_lt _ _ ⟨w.heap.size, 0, none⟩ (by simp)).trans ((Blk.new w _ _).cell 0)
  · exact box_two w _ _ _
  rintro e w5 ⟨rfl, d', n, os, hp, hso, rfl⟩
  have hm : d'.toList.length = l.length := by have := hp.1; simpa using this
  have hbE : ∀ o o', ((w.alloc o).alloc o').heap[g]? = some (.cells cur 54 (0, 0)) := fun o o' => (Below.heap_alloc (w.alloc o) o' g (by simp; omega)).trans ((Below.heap_alloc w o g hgl).trans hb)
  have hown := fun o o' => ownC (base := base) (n := n) (os := os) (m := d'.toList) (l := l) hm hg (hbE o o') h1 h2 h3
  simp only [Array.toArray_toList, hm] at hown
  have hgr : ∀ w2 : World, w2.grownBy (sortWorldK encC 2 w2 g 0 n d' os) (some g) := fun w2 => grownC _
  have Hgr := Lib.hid hgr
  have Hown := Lib.hid hown
  clear hown HS hgr
  go_wp2
  go_ret
  exact ⟨rfl, d', hp, hso, Hown.out _ _, _, _, Hgr.out _⟩

/-- A table's words, each once, stand by rising words. -/
theorem row_sorted {l : List Ct} {d' : Array Ct} (hw : l.Pairwise (fun x y => x.1 ≠ y.1)) (hp : PermIn 0 l.toArray.size l.toArray d') (hs : SortedIn (ltOf cfR) 0 l.toArray.size d') : d'.toList.Perm l ∧ d'.toList.Pairwise (fun x y => ltS x.1 y.1 = true) := by
  have hpl : d'.toList.Perm l := by simpa using perm_list hp
  refine ⟨hpl, ?_⟩
  have h1 := sorted_list hp.1 hs
  have h2 : d'.toList.Pairwise (fun x y => x.1 ≠ y.1) := (hpl.pairwise_iff (fun {x y} h e => h e.symm)).2 hw
  refine (h1.and h2).imp (fun {x y} hxy => ?_)
  obtain ⟨q1, q2⟩ := hxy
  rw [← Bool.not_eq_true, cfR_lt] at q1
  cases hh : ltS x.1 y.1
  · rcases ltS_total hh with g | g
    · exact absurd g q2
    · exact absurd (.inl g) q1
  · rfl
end Go.Proofs.YtjeahdnbpiahaaaGreat.Gr
end

section
/- The sort of an empty row; group.ordered at any row of the call's own (printed by gen_gru.py). -/
namespace Go.Proofs.YtjeahdnbpiahaaaGreat.Gr
open Go.RowKit Go.Proofs.YtjeahdnbpiahaaaGreat Go.Proofs.YtjeahdnbpiahaaaGreat.Ut Go.Proofs.YtjeahdnbpiahaaaGreat.Tk Go.Sort Go.Shelf Go.Lib
set_option maxRecDepth 20000
set_option linter.unusedSimpArgs false
set_option linter.unusedVariables false

theorem insNil (fv : Value) (w : World) : Calls Tryz.prog 83 #[.slice none 0 0, .int .i64 0, .int .i64 0, fv] w fun e w' => e = .returned (.tuple #[]) ∧ w' = w := by
  go_enter Tryz.func83, Tryz.ntmps83
  go_wp2_with fail
  go_loopw [8] (fun i wr => i = .int .i64 1 ∧ wr = w) (fun _ _ => 0)
  case atStart => exact ⟨rfl, rfl⟩
  case round =>
    obtain ⟨rfl, rfl⟩ := hrel
    go_wp2
    go_end0
    exact ⟨rfl, rfl⟩
theorem pdqNil (fv : Value) (lim : Int) (w : World) : Calls Tryz.prog 60 #[.slice none 0 0, .int .i64 0, .int .i64 0, .int .i64 lim, fv] w fun e w' => e = .returned (.tuple #[]) ∧ w' = w := by
  have ci := insNil fv
  go_enter Tryz.func60, Tryz.ntmps60
  go_wp2_with fail
  go_loopw [1, 2, 3] (fun a b m wr => a = .int .i64 0 ∧ b = .int .i64 0 ∧ wr = w) (fun _ _ _ _ => 0)
  case atStart => exact ⟨rfl, rfl, rfl⟩
  case round =>
    obtain ⟨rfl, rfl, rfl⟩ := hrel
    go_wp2_with fail
    refine (ci _).mono ?_
    rintro e w2 ⟨rfl, rfl⟩
    go_wp2
    refine bodyPost_ret (results_none rfl _ _ _) rfl ?_
    exact ⟨rfl, rfl⟩
theorem sortNil (fv : Value) (w : World) : Calls Tryz.prog 45 #[.slice none 0 0, fv] w fun e w' => e = .returned (.tuple #[]) ∧ w' = w := by
  have cp := pdqNil fv
  have cl := fun wx => Tryz.bits_Len 0 wx (by omega) (by omega)
  go_enter Tryz.func45, Tryz.ntmps45
  go_wp2_with fail
  refine (cl _).mono ?_
  rintro e w2 ⟨rfl, rfl⟩
  go_wp2_with fail
  refine (cp _ _).mono ?_
  rintro e w2 ⟨rfl, rfl⟩
  go_wp2
  go_end0
  exact ⟨rfl, rfl⟩
theorem perm_refl (d : Array Ct) (n : Nat) : PermIn 0 n d d := ⟨rfl, fun _ _ => rfl, List.Perm.refl _⟩

set_option maxHeartbeats 800000 in
theorem orderedT_all (base : Nat) (l : List Ct) (v : Value) (w : World) (h : w.ownsRow base 54 2 v l.length (ctC l)) (hl : l.length ≤ 1048576) :
    Calls Tryz.prog 28 #[v, .func (.func 30) #[] #[], .func (.func 31) #[] #[]] w fun e w' =>
      e = .returned v ∧ ∃ d' : Array Ct, PermIn 0 l.toArray.size l.toArray d' ∧ SortedIn (ltOf cfT) 0 l.toArray.size d' ∧ w'.ownsRow base 54 2 v l.length (ctC d'.toList) ∧ ∃ o o', ((w.alloc o).alloc o').grownBy w' v.ownBlock := by
  obtain ⟨hlen, ⟨rfl, h0⟩ | ⟨g, cap, cur, rfl, hb, hheap, h1, h2, h3, ht⟩⟩ := h
  · have hln : l = [] := List.length_eq_zero_iff.1 h0
    subst hln
    have cs := sortNil
    go_enter Tryz.func28, Tryz.ntmps28
    go_wp2_with fail
    refine (cs _ _).mono ?_
    rintro e w2 ⟨rfl, rfl⟩
    go_wp2
    go_ret
    exact ⟨rfl, #[], perm_refl _ _, fun i j _ h1 h2 => absurd h2 (by simp), World.ownsRow_nil _ _ _ _, _, _, grow_of_below (Below.refl _ _) none⟩
  · exact orderedT_any base g cap l cur w hheap ht hl hb h1 h2 h3

set_option maxHeartbeats 800000 in
theorem orderedR_all (base : Nat) (l : List Ct) (v : Value) (w : World) (h : w.ownsRow base 54 2 v l.length (ctC l)) (hl : l.length ≤ 1048576) :
    Calls Tryz.prog 35 #[v, .func (.func 36) #[] #[], .func (.func 37) #[] #[]] w fun e w' =>
      e = .returned v ∧ ∃ d' : Array Ct, PermIn 0 l.toArray.size l.toArray d' ∧ SortedIn (ltOf cfR) 0 l.toArray.size d' ∧ w'.ownsRow base 54 2 v l.length (ctC d'.toList) ∧ ∃ o o', ((w.alloc o).alloc o').grownBy w' v.ownBlock := by
  obtain ⟨hlen, ⟨rfl, h0⟩ | ⟨g, cap, cur, rfl, hb, hheap, h1, h2, h3, ht⟩⟩ := h
  · have hln : l = [] := List.length_eq_zero_iff.1 h0
    subst hln
    have cs := sortNil
    go_enter Tryz.func35, Tryz.ntmps35
    go_wp2_with fail
    refine (cs _ _).mono ?_
    rintro e w2 ⟨rfl, rfl⟩
    go_wp2
    go_ret
    exact ⟨rfl, #[], perm_refl _ _, fun i j _ h1 h2 => absurd h2 (by simp), World.ownsRow_nil _ _ _ _, _, _, grow_of_below (Below.refl _ _) none⟩
  · exact orderedR_any base g cap l cur w hheap ht hl hb h1 h2 h3

def errG (l : List Ct) (most : Int) : Int := if okR l = true ∧ 0 ≤ most then 0 else 1
def topG (l : List Ct) (most : Int) : List Ct := if okR l = true ∧ 0 ≤ most then (topR l).take most.toNat else []
/-- What Top answers: a row and an error. -/
def RowPost (w : World) (l : List Ct) (er : Int) (e : Ending) (w' : World) : Prop := ∃ A c, e = .returned (.tuple #[.slice A l.length c, .int .i64 er]) ∧ Reads w' w'.heap.size 2 A l.length (ctC l) ∧ Below w.heap.size w w'
theorem errG_no {l : List Ct} {most : Int} (h : ¬ (okR l = true ∧ 0 ≤ most)) : errG l most = 1 := if_neg h
theorem errG_yes {l : List Ct} {most : Int} (h : okR l = true ∧ 0 ≤ most) : errG l most = 0 := if_pos h
theorem topG_no {l : List Ct} {most : Int} (h : ¬ (okR l = true ∧ 0 ≤ most)) : topG l most = [] := if_neg h
theorem topG_yes {l : List Ct} {most : Int} (h : okR l = true ∧ 0 ≤ most) : topG l most = (topR l).take most.toNat := if_pos h
end Go.Proofs.YtjeahdnbpiahaaaGreat.Gr
end
