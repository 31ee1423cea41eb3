/- HistAdds. -/
import Derived.Test.YthhklbjhlfejfaaHistAb
namespace Go.Proofs.Ythhklbjhlfejfaa.Hi
open Go.RowKit
set_option maxRecDepth 20000
theorem putF_len2 (l : List Bk) (k n : Int) : (addF l k n).1.length ≤ l.length + 1 := by
  unfold addF
  split
  · split
    · exact putF_len l k n
    · simp
  · simp
theorem few_in {w : World} {B c : Nat} {A : Option Addr} {l : List Bk} (h : InB w B A c l) (hr : Reads w B 2 A (l.take 60).length (bkC (l.take 60))) : InB w B A c (l.take 60) :=
  ⟨hr, by have := h.cap; rw [List.length_take]; omega, h.nil⟩

set_option maxHeartbeats 1600000 in
theorem adds_walk (A : Option Addr) (c : Nat) (l : List Bk) (k n : Int) (w : World) (R : Reads w w.heap.size 2 A l.length (bkC l)) (C : l.length ≤ c) (N : A = none → c = 0) (hn0 : (Lit.int .i64 n).wf = true) :
    Calls Try.prog 5 #[.slice A l.length c, .int .i64 k, .int .i64 n] w fun e w' => e = .returned (.bool true) ∧ Below w.heap.size w w' := by
  have hn := in64_wf hn0
  have c0 := few_any A c w.heap.size l w C R
  have hI := fun h => few_in (⟨R, C, N⟩ : InB w w.heap.size A c l) h
  have hl : (l.take 60).length ≤ 60 := by rw [List.length_take]; omega
  have hL := putF_len2 (l.take 60) k n
  clear R C N hn0
  generalize l.take 60 = la at *
  have q1 : InB w w.heap.size A c la → Calls Try.prog 23 #[.slice A la.length c, .int .i64 k, .int .i64 n] w (AddPost w (addF la k n)) := fun h => add_any A c la k n w h (by omega) hn.2
  have q2 : ∀ w1, InB w1 w1.heap.size A c la → Calls Try.prog 24 #[.slice A la.length c, .int .i64 k, .int .i64 n] w1 (AddPost w1 (addF la k n)) := fun w1 h => radd_any A c la k n w1 h (by omega) hn.2
  unfold AddPost at q1 q2
  generalize addF la k n = x at *
  obtain ⟨L, z⟩ := x
  go_enter Try.func5, Try.ntmps5
  go_wp2_with fail
  refine c0.mono ?_
  rintro e w0 ⟨⟨rfl, hr⟩, rfl⟩
  have HI := Lib.hid (hI hr)
  have q3 := q1 HI.out
  clear hr hI q1 c0
  generalize la.length = nl at *
  go_wp2_with fail
  refine q3.mono ?_
  rintro e w1 ⟨v, rfl, hb1, hv⟩
  obtain ⟨Aa, ca', rfl, ra⟩ := hv.reads
  have Hb1 := Lib.hid hb1
  have hi := HI.out.below hb1
  have q4 := q2 w1 ⟨hi.rd.more hb1.size, hi.cap, hi.nil⟩
  clear hi hb1 hv q3 q2
  go_wp2_with fail
  refine q4.mono ?_
  rintro e w2 ⟨v, rfl, hb2, hv⟩
  obtain ⟨Ab, cb', rfl, rb⟩ := hv.reads
  have Hb2 := Lib.hid (Hb1.out.trans (hb2.mono Hb1.out.size))
  have q5 := rsame_any Aa Ab ca' cb' w1.heap.size w2.heap.size L L w2 (ra.below hb2) rb (by omega) (by omega)
  rw [decide_eq_true rfl] at q5
  clear hb2 hv q4 ra rb hL
  generalize L.length = nL at *
  go_wp2_with fail
  refine q5.mono ?_
  rintro e w3 ⟨rfl, hb3⟩
  have Hb3 := Lib.hid (Hb2.out.trans (hb3.mono Hb2.out.size))
  have q6 := awake_any w3
  clear hb3 q5
  go_wp2_with fail
  refine q6.mono ?_
  rintro e w4 ⟨rfl, hb4⟩
  have Hb4 := Lib.hid (Hb3.out.trans (hb4.mono Hb3.out.size))
  clear hb4 q6
  go_wp2
  go_ret
  exact ⟨rfl, Hb4.out⟩
end Go.Proofs.Ythhklbjhlfejfaa.Hi
