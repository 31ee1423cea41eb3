/- BloomNever: whatever was added to a filter may be there, and stays so: the law's walk. -/
import Derived.Test.YtambdddahbgelaaBloomY
import Derived.Test.YtambdddahbgelaaBloomF
namespace Go.Proofs.Ytambdddahbgelaa.Bl
open Go.RowKit

theorem addK_fst (ks : List Nat) : ∀ (b : List Nat) (n m : Nat), (addK (b, n) ks).1 = (addK (b, m) ks).1 := by
  induction ks with
  | nil => intro b n m; rfl
  | cons k ks ih =>
    intro b n m
    show (addK (step (b, n) k) ks).1 = (addK (step (b, m) k) ks).1
    unfold step
    split
    · exact ih b n m
    · exact ih _ _ _
theorem addT_fst (ts : List ByteArray) : ∀ (b : List Nat) (n m : Nat), (addT (b, n) ts).1 = (addT (b, m) ts).1 := by
  induction ts with
  | nil => intro b n m; rfl
  | cons s ts ih =>
    intro b n m
    show (addT (addK (b, n) (pls s.data.toList (8 * b.length))) ts).1 = (addT (addK (b, m) (pls s.data.toList (8 * b.length))) ts).1
    have e : addK (b, n) (pls s.data.toList (8 * b.length)) = ((addK (b, m) (pls s.data.toList (8 * b.length))).1, (addK (b, n) (pls s.data.toList (8 * b.length))).2) := Prod.ext (addK_fst _ b n m) rfl
    rw [e]
    exact ih _ _ _
/-- The filter behind the first k terms. -/
def st (bs : List Nat) (l : List ByteArray) (k : Nat) : List Nat := (addT (bs, 0) (l.take k)).1
theorem st_zero (bs : List Nat) (l : List ByteArray) : st bs l 0 = bs := rfl
theorem st_len (bs : List Nat) (l : List ByteArray) (k : Nat) : (st bs l k).length = bs.length := addT_len _ _
theorem st_succ (bs : List Nat) (l : List ByteArray) (k : Nat) (h : k < l.length) : (addT (st bs l k, 0) [l[k]]).1 = st bs l (k + 1) := by
  unfold st
  rw [List.take_succ_eq_append_getElem h, addT_snoc]
  exact addK_fst _ _ _ _
theorem st_may (bs : List Nat) (l : List ByteArray) (hb : 0 < bs.length) (k : Nat) (hk : k ≤ l.length) : ∀ j (h : j < k), may (st bs l k) (l[j]'(by omega)).data.toList = true := by
  induction k with
  | zero => intro j h; omega
  | succ k ih =>
    intro j h
    have e : st bs l (k + 1) = (addK (addT (bs, 0) (l.take k)) (pls (l[k]'(by omega)).data.toList (8 * (addT (bs, 0) (l.take k)).1.length))).1 := by
      unfold st
      rw [List.take_succ_eq_append_getElem (by omega), addT_snoc]
    rw [e]
    by_cases hj : j = k
    · subst hj
      exact may_add _ _ (by rw [addT_len]; exact hb)
    · exact may_keep _ _ _ (ih (by omega) j (by omega))
theorem st_none (bs : List Nat) (l : List ByteArray) (hb : 0 < bs.length) : (addT (st bs l l.length, 0) l).2 = 0 := by
  have h := addT_none l (st bs l l.length, 0) (fun s hs => by
    obtain ⟨j, hj, rfl⟩ := List.getElem_of_mem hs
    exact st_may bs l hb l.length (Nat.le_refl _) j hj)
  rw [h]

theorem few_size (ss : List ByteArray) : ∀ s ∈ few ss, s.size ≤ 140737488351232 := by
  intro s hs
  unfold few at hs
  obtain ⟨t, _, rfl⟩ := List.mem_map.1 hs
  unfold ct
  have : (t.extract 0 (min t.size 100)).size ≤ 100 := by rw [ByteArray.size_extract]; omega
  omega
theorem few_len (ss : List ByteArray) : (few ss).length ≤ 60 := by
  unfold few; rw [List.length_map, List.length_take]; omega

set_option maxHeartbeats 1600000 in
theorem never_walk (n : Nat) (hn : n < 256) (A : Option Addr) (len c : Nat) (ss : List ByteArray) (w : World) (hR : Reads w w.heap.size 1 A len (ss.map Value.string)) (hs : ∀ s ∈ ss, s.size ≤ 140737488351232) (hl : len ≤ 140737488351232) :
    Calls Try.prog 3 #[.int .u8 (n : Int), .slice A len c] w fun e w' => e = .returned (.bool true) ∧ Below w.heap.size w w' := by
  have c0 := few_any A len c ss w hR hs hl
  have hfs := few_size ss
  have hfl := few_len ss
  go_enter Try.func3, Try.ntmps3
  go_wp2_with fail
  refine c0.mono ?_
  rintro e w1 ⟨v, rfl, hown, hb1⟩
  generalize few ss = l at *
  obtain ⟨A', c', rfl, hR1⟩ := own_shape hown
  clear hown c0
  have c1 := new_ok n w1 (by omega)
  go_wp2_with fail
  refine c1.mono ?_
  rintro e w2 ⟨g, h, rfl, hF2, hb2, hg, hh⟩
  have c2 := awake_any w2
  go_wp2_with (go_at_call 13; refine c2.mono ?_; rintro e w3 ⟨rfl, hb3⟩)
  have hF3 := hF2.keep hb3
  have hlo := hF3.lo
  have hR3 : Reads w3 w1.heap.size 1 A' l.length (l.map Value.string) := (hR1.below hb2).below (hb3.mono hb2.size)
  have hb03 : Below w.heap.size w w3 := (hb1.trans (hb2.mono hb1.size)).trans (hb3.mono (Nat.le_trans hb1.size hb2.size))
  have hsz13 : w1.heap.size ≤ w3.heap.size := Nat.le_trans hb2.size hb3.size
  have hgw : w.heap.size ≤ h := Nat.le_trans hb1.size hh
  generalize zs (nby n) = bs at *
  have HR3 := Lib.hid hR3
  have Hb03 := Lib.hid hb03
  have Hfs := Lib.hid hfs
  clear c1 c2 hb2 hb3 hb1 hR3 hb03 hfs hF2 hR1 hR
  go_loopw [7] (fun i wr => ∃ k : Nat, k ≤ l.length ∧ i = .int .i64 k ∧ FAt wr g h (st bs l k) ∧ w3.grownBy wr (some h))
    (fun i _ => l.length - (intOf i).toNat)
  case atStart => exact ⟨0, Nat.zero_le _, rfl, hF3, World.grownBy.refl _ _⟩
  case round =>
    obtain ⟨k, hk, rfl, hF, hgr⟩ := hrel
    have hRr : Reads wr w1.heap.size 1 A' l.length (l.map Value.string) := HR3.out.grown hgr hsz13 (fun b o e hn' he => by
      have h2 := HR3.out.2 hn'
      obtain ⟨b', o', e', hlt', _⟩ := h2
      rw [e] at e'
      injection e' with e'
      injection e' with e1 e2
      injection he with he
      omega)
    have hsz3r : w3.heap.size ≤ wr.heap.size := hgr.size
    by_cases hlt : k < l.length
    · obtain ⟨ab, ao, hkl, rfl, hab, hcw⟩ := hRr.at_map hlt
      have hsk : l[k].size ≤ 140737488351232 := Hfs.out _ (List.getElem_mem hkl)
      have hF4 := hF.keep (w' := wr.alloc (.cells #[.string l[k]] 9)) ((Below.refl _ _).alloc (Nat.le_refl _) _)
      have c3 := add_any g h _ _ _ 1 [l[k]] _ hF4 (reads_one wr 9 l[k]) (by intro s hs'; simp only [List.mem_singleton] at hs'; subst hs'; exact hsk) (by omega)
        (by intro b o e _; have := hF.hlt; injection e with e; injection e with e1 e2; omega)
      rw [st_succ bs l k hkl] at c3
      have hm := Lib.hid (st_may bs l (by omega) (k + 1) hkl)
      have hlast : k + 1 ≤ l.length := hkl
      go_wp2_with fail
      refine c3.mono ?_
      rintro e w4 ⟨rfl, hF5, hg5⟩
      have hR5 : Reads w4 w1.heap.size 1 (some ⟨ab, ao, none⟩) l.length (l.map Value.string) := (hRr.alloc (by omega) _).grown hg5 (by simp; omega) (fun b o e _ he => by
        injection e with e
        injection e with e1 e2
        injection he with he
        omega)
      have hgr5 : w3.grownBy w4 (some h) := grownBy_trans (grownBy_trans hgr (World.grownBy_alloc wr _ _)) hg5
      have hsz5 : w1.heap.size ≤ w4.heap.size := Nat.le_trans hsz13 hgr5.size
      have HR5 := Lib.hid hR5
      have Hgr5 := Lib.hid hgr5
      clear c3 hR5 hgr5 hg5 hF4 hRr hgr hF hcw
      go_wp2_with fail
      go_loopw [8] (fun i wi => ∃ j : Nat, j ≤ k + 1 ∧ i = .int .i64 j ∧ Below w4.heap.size w4 wi)
        (fun i _ => k + 1 - (intOf i).toNat)
      case atStart => exact ⟨0, Nat.zero_le _, rfl, Below.refl _ _⟩
      case round =>
        obtain ⟨j, hj, rfl, hbi⟩ := hrel
        by_cases hjk : j < k + 1
        · obtain ⟨ab', ao', hjl, e', hab', hcj⟩ := ((HR5.out.below (hbi.mono hsz5)).at_map (k := j) (by omega))
          injection e' with e'
          injection e' with e1 e2
          subst e1 e2
          have c6 := may_yes g h _ l[j] wr (hF5.keep hbi) (Hfs.out _ (List.getElem_mem hjl))
          rw [hm.out j hjk] at c6
          have hjk' : (j : Int) ≤ k := by omega
          have Hbi := Lib.hid hbi
          clear hbi
          go_wp2_with (go_at_call 15; refine c6.mono ?_; rintro e w7 ⟨rfl, hb7⟩)
          go_roundw
          case rel => exact ⟨j + 1, by omega, by go_num, Hbi.out.trans (hb7.mono Hbi.out.size)⟩
          case measure => simp [intOf]; omega
        · have hjk' : ¬ (j : Int) ≤ k := by omega
          go_wp2
          go_roundw
          case rel => exact ⟨k + 1, by omega, by go_num, hF5.keep hbi, grownBy_trans Hgr5.out (grownBy_of_below hbi _)⟩
          case measure => simp [intOf]; omega
    · obtain rfl : k = l.length := by omega
      have c3 := add_any g h _ A' l.length c' l wr hF (hRr.more (by omega)) Hfs.out (by omega) (fun b o e hn' he => by
        have h2 := HR3.out.2 hn'
        obtain ⟨b', o', e', hlt', _⟩ := h2
        rw [e] at e'
        injection e' with e'
        injection e' with e1 e2
        omega)
      rw [st_none bs l (by omega)] at c3
      go_wp2_with (go_at_call 14; refine c3.mono ?_; rintro e w4 ⟨rfl, hF5, hg5⟩)
      go_ret
      exact ⟨rfl, (Hb03.out.grown hgr (by have := Hb03.out.size; omega) (fun j hj => by injection hj with hj; omega)).grown hg5 (by have := Hb03.out.size; omega) (fun j hj => by injection hj with hj; omega)⟩
end Go.Proofs.Ytambdddahbgelaa.Bl
