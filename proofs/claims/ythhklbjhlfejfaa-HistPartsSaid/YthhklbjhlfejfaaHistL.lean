/- hist.put. -/
import Derived.Test.YthhklbjhlfejfaaHistK
namespace Go.Proofs.Ythhklbjhlfejfaa.Hi
open Go.RowKit
set_option maxRecDepth 20000
/-- A row of the call's own, behind a base, and nothing else touched below the base. -/
structure Row (B : Nat) (w wr : World) (v : Value) (l : List Bk) : Prop where
  own : OwnB wr B v l
  bel : Below B w wr
theorem OwnB.below {w w' : World} {base : Nat} {v : Value} {l : List Bk} (h : OwnB w base v l) (hb : Below w.heap.size w w') : OwnB w' base v l :=
  World.ownsRow.kept h (grow_of_below hb none) (by cases v.ownBlock <;> simp)
theorem below_grown {w w' : World} {base : Nat} {v : Value} {l : List Bk} (h : OwnB w base v l) (hg : w.grownBy w' v.ownBlock) (hb : base ≤ w.heap.size) : Below base w w' :=
  ⟨hg.os, hg.tape, hg.output, hg.size, fun i hi => hg.block i (by omega) fun e => by have := (World.ownsRow.lt h i e.symm).1; omega⟩
theorem Row.start (w wr : World) (B : Nat) (hb : Below B w wr) : Row B w wr (.slice none 0 0) [] := ⟨World.ownsRow_nil _ _ _ _, hb⟩
theorem Row.below {B : Nat} {w wr w' : World} {v : Value} {l : List Bk} (h : Row B w wr v l) (hB : B ≤ wr.heap.size) (hb : Below wr.heap.size wr w') : Row B w w' v l := ⟨h.own.below hb, h.bel.trans (hb.mono hB)⟩

def PutPost (B : Nat) (w : World) (l : List Bk) (k n : Int) (e : Ending) (w' : World) : Prop :=
  ∃ v', e = .returned (.tuple #[v', .bool (putF l k n).2]) ∧ Row B w w' v' (putF l k n).1

set_option maxHeartbeats 3200000 in
theorem put_any (B : Nat) (v : Value) (l : List Bk) (k n : Int) (w : World) (hown : OwnB w B v l) (hB : B ≤ w.heap.size) (hl : l.length ≤ 1000000) (hup : Up l) (h1 : ∀ b ∈ l, 1 ≤ b.2) (hn : 1 ≤ n) (hn2 : n ≤ 9223372036854775807) :
    Calls Try.prog 28 #[v, .int .i64 k, .int .i64 n] w (PutPost B w l k n) := by
  obtain ⟨A, c, rfl, hR⟩ := own_shape hown
  have c0 := by_any w
  have HR := Lib.hid hR
  have Hown := Lib.hid hown
  have Hup := Lib.hid hup
  have H1 := Lib.hid h1
  clear hR hown hup h1
  unfold kF at c0
  go_enter Try.func28, Try.ntmps28
  go_wp2_with fail
  refine c0.mono ?_
  rintro e w1 ⟨rfl, hb1, hp⟩
  have c1 := search_any A c w.heap.size w.heap.size l k w1 (HR.out.below hb1) hb1.size hp Hup.out (by omega)
  have Hb1 := Lib.hid hb1
  clear hb1 c0 hp
  unfold cloF at *
  go_wp2_with fail
  refine c1.mono ?_
  rintro e w2 ⟨rfl, hb2⟩
  have Hb2 := Lib.hid (Hb1.out.trans (hb2.mono Hb1.out.size))
  clear hb2 c1
  have hs2 := Hb2.out.size
  have Hown2 := Lib.hid (Hown.out.below Hb2.out)
  have hpl := pos_le l k
  by_cases hf : found l k = true
  · have hff : pos l k < l.length ∧ (l.getD (pos l k) (0, 0)).1 = k := by unfold found at hf; simpa using hf
    obtain ⟨hlt, hkk⟩ := hff
    have hgd : l.getD (pos l k) (0, 0) = l[pos l k] := by rw [List.getD_eq_getElem?_getD, List.getElem?_eq_getElem hlt]; rfl
    rw [hgd] at hkk
    obtain ⟨g, cap, hv⟩ : ∃ g cap, Value.slice A l.length c = .slice (some ⟨g, 0, none⟩) l.length cap := by
      rcases Hown2.out.2 with ⟨h, h0⟩ | ⟨g, cap, cur, h, _⟩
      · omega
      · exact ⟨g, cap, h⟩
    injection hv with hA _ hc
    subst hA hc
    have hge := bkC_get l (pos l k) hlt
    have hcl := Hown2.out.cellAt (pos l k * 2 + 1) (by omega)
    rw [hge.2] at hcl
    have hfr := Hown2.out.frozenAt (pos l k * 2 + 1)
    have hone := H1.out l[pos l k] (List.getElem_mem hlt)
    by_cases hbig : mostN < n ∨ mostN - n < l[pos l k].2
    · have F : Hid (putF l k n = ([], false)) := Lib.hid (by unfold putF; rw [if_pos ⟨hlt, by rw [hgd]; exact hkk⟩, hgd, if_pos hbig])
      unfold mostN at hbig
      generalize l[pos l k].2 = y at *
      generalize pos l k = i at *
      clear hge hkk hgd
      go_wp2
      all_goals go_ret2
      all_goals exact ⟨.slice none 0 0, by rw [F.out]; rfl, by rw [F.out]; exact Row.start _ _ _ (Hb2.out.mono hB)⟩
    · have hs : (bkC l).set (pos l k * 2 + 1) (.int .i64 (l[pos l k].2 + n)) = bkC (l.set (pos l k) (k, l[pos l k].2 + n)) := bkC_set l (pos l k) k _ hlt hkk
      have F : Hid (putF l k n = (l.set (pos l k) (k, l[pos l k].2 + n), true)) := Lib.hid (by unfold putF; rw [if_pos ⟨hlt, by rw [hgd]; exact hkk⟩, hgd, if_neg hbig])
      have Hst := Lib.hid (Hown2.out.stored (pos l k * 2 + 1) (.int .i64 (l[pos l k].2 + n)))
      rw [hs] at Hst
      have RW : Hid (Row B w (w2.setCell ⟨g, pos l k * 2 + 1, none⟩ (.int .i64 (l[pos l k].2 + n))) (.slice (some ⟨g, 0, none⟩) l.length c) (l.set (pos l k) (k, l[pos l k].2 + n))) := Lib.hid ⟨by
        have := Hst.out.1
        unfold OwnB
        rw [List.length_set]
        exact this, (Hb2.out.mono hB).trans (below_grown Hown2.out Hst.out.2 (by omega))⟩
      unfold mostN at hbig
      clear Hst hs
      generalize l[pos l k].2 = y at *
      generalize hi : pos l k = i at *
      clear hge hkk hgd
      have hw : IntKind.i64.wrap (1099511627776 - n) = 1099511627776 - n := IntWalk.i64_in _ (by omega)
      have hw2 : IntKind.i64.wrap (y + n) = y + n := IntWalk.i64_in _ (by omega)
      have hb1' : ¬ 1099511627776 < n := by omega
      have hb2' : ¬ 1099511627776 - n < y := by omega
      go_wp2
      go_ret2
      exact ⟨.slice (some ⟨g, 0, none⟩) l.length c, by rw [F.out]; rfl, by rw [F.out]; exact RW.out⟩
  · have hff : ¬ (pos l k < l.length ∧ (l.getD (pos l k) (0, 0)).1 = k) := fun h => hf (by unfold found; simpa using h)
    have F : Hid (putF l k n = (l.take (pos l k) ++ (k, n) :: l.drop (pos l k), decide (n ≤ mostN))) := Lib.hid (by unfold putF; rw [if_neg hff])
    have hf' : found l k = false := by simpa using hf
    have ci := ins_any B (pos l k) w2.heap.size (.slice A l.length c) l k n (w2.alloc (.cells #[.int .i64 k, .int .i64 n] 48)) (World.ownsRow.alloc Hown2.out _) hpl hl (Blk.new _ _ _) (fun e => by have := (World.ownsRow.lt Hown2.out _ e).2; omega) (by rw [World.size_alloc]; omega)
    clear hff hf
    rw [hf']
    generalize pos l k = i at *
    go_wp2_with fail
    refine ci.mono ?_
    rintro e w3 ⟨v', rfl, hown3, hg3⟩
    have R3 : Hid (Row B w w3 v' (l.take i ++ (k, n) :: l.drop i)) := Lib.hid ⟨hown3, (Hb2.out.mono hB).trans (((Below.refl _ _).alloc (by omega) _).trans (below_grown (World.ownsRow.alloc Hown2.out _) hg3 (by rw [World.size_alloc]; omega)))⟩
    clear hown3 hg3 ci
    by_cases hm : n ≤ 1099511627776
    · go_wp2
      go_ret2
      exact ⟨v', by rw [F.out]; unfold mostN; rw [decide_eq_true hm]; rfl, by rw [F.out]; exact R3.out⟩
    · go_wp2
      go_ret2
      exact ⟨v', by rw [F.out]; unfold mostN; rw [decide_eq_false (by omega)]; rfl, by rw [F.out]; exact R3.out⟩
end Go.Proofs.Ythhklbjhlfejfaa.Hi
