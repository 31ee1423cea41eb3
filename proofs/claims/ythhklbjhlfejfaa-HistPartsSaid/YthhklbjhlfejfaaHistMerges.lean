/- HistMerges. -/
import Derived.Test.YthhklbjhlfejfaaHistBd
import Derived.Test.YthhklbjhlfejfaaHistAdds
namespace Go.Proofs.Ythhklbjhlfejfaa.Hi
open Go.RowKit
set_option maxRecDepth 20000
theorem putsF_len : ∀ (bs l m : List Bk), putsF l bs = some m → m.length ≤ l.length + bs.length
  | [], l, m, h => by
    have : l = m := by injection h
    subst this; simp
  | b :: bs, l, m, h => by
    have h' : (if (putF l b.1 b.2).2 = true then putsF (putF l b.1 b.2).1 bs else none) = some m := h
    split at h'
    · have := putsF_len bs _ m h'
      have := putF_len l b.1 b.2
      rw [List.length_cons]
      omega
    · cases h'
theorem mergeF_len (most : Int) (rs : List Rw) : (mergeF most rs).1.length ≤ (flatF rs).length := by
  unfold mergeF
  split
  · simp
  · split
    · simp
    · split
      · simp
      · rename_i l h
        have := putsF_len _ _ _ h
        split
        · simp
        · simpa using this
theorem mergeF_nil (most : Int) : (mergeF most []).1 = [] := by
  by_cases h : most < 0
  · rw [mergeF_neg h]
  · rw [mergeF_some (l := []) h (by simp) rfl]
    split <;> rfl
theorem rows_nil (w : World) : RowsIn w w.heap.size none [] := ⟨Reads.none_, by simp⟩
theorem rows_three (w : World) (r1 r2 r3 : Rw) (h1 : InB w w.heap.size r1.A r1.c r1.l) (h2 : InB w w.heap.size r2.A r2.c r2.l) (h3 : InB w w.heap.size r3.A r3.c r3.l) (l1 : r1.l.length ≤ 60) (l2 : r2.l.length ≤ 60) (l3 : r3.l.length ≤ 60) (t : TypeId) :
    RowsIn (w.alloc (.cells #[r1.val, r2.val, r3.val] t)) (w.alloc (.cells #[r1.val, r2.val, r3.val] t)).heap.size (some ⟨w.heap.size, 0, none⟩) [r1, r2, r3] := by
  have hb : Below w.heap.size w (w.alloc (.cells #[r1.val, r2.val, r3.val] t)) := (Below.refl _ _).alloc (Nat.le_refl _) _
  have hs := hb.size
  refine ⟨?_, ?_⟩
  · have := reads_blk (Blk.new w t #[r1.val, r2.val, r3.val]) 3 1 rfl _ rfl
    rw [World.size_alloc]
    exact this
  · intro r hr
    simp only [List.mem_cons, List.not_mem_nil, or_false] at hr
    rcases hr with rfl | rfl | rfl
    · exact ⟨⟨(h1.rd.below hb).more hs, h1.cap, h1.nil⟩, by omega⟩
    · exact ⟨⟨(h2.rd.below hb).more hs, h2.cap, h2.nil⟩, by omega⟩
    · exact ⟨⟨(h3.rd.below hb).more hs, h3.cap, h3.nil⟩, by omega⟩
theorem RowsIn.later {w w' : World} {A : Option Addr} {rs : List Rw} (h : RowsIn w w.heap.size A rs) (hb : Below w.heap.size w w') : RowsIn w' w'.heap.size A rs := by
  have hs := hb.size
  exact ⟨(h.rd.below hb).more hs, fun r hr => ⟨⟨((h.row r hr).1.rd.below hb).more hs, (h.row r hr).1.cap, (h.row r hr).1.nil⟩, (h.row r hr).2⟩⟩

set_option maxHeartbeats 3200000 in
theorem merges_walk (most : Int) (A1 : Option Addr) (c1 : Nat) (l1 : List Bk) (A2 : Option Addr) (c2 : Nat) (l2 : List Bk) (A3 : Option Addr) (c3 : Nat) (l3 : List Bk) (w : World)
    (R1 : Reads w w.heap.size 2 A1 l1.length (bkC l1)) (C1 : l1.length ≤ c1) (N1 : A1 = none → c1 = 0) (R2 : Reads w w.heap.size 2 A2 l2.length (bkC l2)) (C2 : l2.length ≤ c2) (N2 : A2 = none → c2 = 0)
    (R3 : Reads w w.heap.size 2 A3 l3.length (bkC l3)) (C3 : l3.length ≤ c3) (N3 : A3 = none → c3 = 0)
    (W1 : ∀ b ∈ l1, (Lit.int .i64 b.1).wf = true ∧ (Lit.int .i64 b.2).wf = true) (W2 : ∀ b ∈ l2, (Lit.int .i64 b.1).wf = true ∧ (Lit.int .i64 b.2).wf = true) (W3 : ∀ b ∈ l3, (Lit.int .i64 b.1).wf = true ∧ (Lit.int .i64 b.2).wf = true) :
    Calls Try.prog 6 #[.int .i64 most, .slice A1 l1.length c1, .slice A2 l2.length c2, .slice A3 l3.length c3] w fun e w' => e = .returned (.bool true) ∧ Below w.heap.size w w' := by
  have k1 := few_any A1 c1 w.heap.size l1 w C1 R1
  have k2 := few_any A2 c2 w.heap.size l2 w C2 R2
  have k3 := few_any A3 c3 w.heap.size l3 w C3 R3
  have I1 := fun h => few_in (⟨R1, C1, N1⟩ : InB w w.heap.size A1 c1 l1) h
  have I2 := fun h => few_in (⟨R2, C2, N2⟩ : InB w w.heap.size A2 c2 l2) h
  have I3 := fun h => few_in (⟨R3, C3, N3⟩ : InB w w.heap.size A3 c3 l3) h
  have g1 : (l1.take 60).length ≤ 60 := by rw [List.length_take]; omega
  have g2 : (l2.take 60).length ≤ 60 := by rw [List.length_take]; omega
  have g3 : (l3.take 60).length ≤ 60 := by rw [List.length_take]; omega
  have h64 : ∀ b ∈ flatF [⟨A1, c1, l1.take 60⟩, ⟨A2, c2, l2.take 60⟩, ⟨A3, c3, l3.take 60⟩], b.2 ≤ 9223372036854775807 := by
    intro b hb
    have hb' : b ∈ l1.take 60 ++ (l2.take 60 ++ (l3.take 60 ++ [])) := hb
    rw [List.append_nil] at hb'
    rcases List.mem_append.1 hb' with h | h
    · exact (in64_wf (W1 b (List.mem_of_mem_take h)).2).2
    · rcases List.mem_append.1 h with h | h
      · exact (in64_wf (W2 b (List.mem_of_mem_take h)).2).2
      · exact (in64_wf (W3 b (List.mem_of_mem_take h)).2).2
  have hLl : (mergeF most [⟨A1, c1, l1.take 60⟩, ⟨A2, c2, l2.take 60⟩, ⟨A3, c3, l3.take 60⟩]).1.length ≤ 180 := by
    refine Nat.le_trans (mergeF_len _ _) ?_
    show (l1.take 60 ++ (l2.take 60 ++ (l3.take 60 ++ []))).length ≤ 180
    rw [List.length_append, List.length_append, List.length_append, List.length_nil]
    omega
  clear R1 R2 R3 C1 C2 C3 N1 N2 N3 W1 W2 W3
  generalize l1.take 60 = la at *
  generalize l2.take 60 = lb at *
  generalize l3.take 60 = lc at *
  have q1 : InB w w.heap.size A1 c1 la → InB w w.heap.size A2 c2 lb → InB w w.heap.size A3 c3 lc → RowsIn (w.alloc (.cells #[.slice A1 la.length c1, .slice A2 lb.length c2, .slice A3 lc.length c3] 29)) (w.alloc (.cells #[.slice A1 la.length c1, .slice A2 lb.length c2, .slice A3 lc.length c3] 29)).heap.size (some ⟨w.heap.size, 0, none⟩) [⟨A1, c1, la⟩, ⟨A2, c2, lb⟩, ⟨A3, c3, lc⟩] := fun h1 h2 h3 => rows_three w ⟨A1, c1, la⟩ ⟨A2, c2, lb⟩ ⟨A3, c3, lc⟩ h1 h2 h3 g1 g2 g3 29
  have m1 : ∀ wi, RowsIn wi wi.heap.size (some ⟨w.heap.size, 0, none⟩) [⟨A1, c1, la⟩, ⟨A2, c2, lb⟩, ⟨A3, c3, lc⟩] → Calls Try.prog 25 #[.int .i64 most, .slice (some ⟨w.heap.size, 0, none⟩) 3 3] wi (AddPost wi (mergeF most [⟨A1, c1, la⟩, ⟨A2, c2, lb⟩, ⟨A3, c3, lc⟩])) := fun wi h => merge_any most _ 3 _ wi h (by simp) h64
  have m2 : ∀ wi, RowsIn wi wi.heap.size (some ⟨w.heap.size, 0, none⟩) [⟨A1, c1, la⟩, ⟨A2, c2, lb⟩, ⟨A3, c3, lc⟩] → Calls Try.prog 26 #[.int .i64 most, .slice (some ⟨w.heap.size, 0, none⟩) 3 3] wi (AddPost wi (mergeF most [⟨A1, c1, la⟩, ⟨A2, c2, lb⟩, ⟨A3, c3, lc⟩])) := fun wi h => rmerge_any most _ 3 _ wi h (by simp) h64
  have m3 : ∀ wi, Calls Try.prog 25 #[.int .i64 most, .slice none 0 0] wi (AddPost wi (mergeF most [])) := fun wi => merge_any most none 0 [] wi (rows_nil wi) (by simp) (by intro b hb; cases hb)
  have m4 : ∀ wi, Calls Try.prog 26 #[.int .i64 most, .slice none 0 0] wi (AddPost wi (mergeF most [])) := fun wi => rmerge_any most none 0 [] wi (rows_nil wi) (by simp) (by intro b hb; cases hb)
  have en := mergeF_nil most
  unfold AddPost at m1 m2 m3 m4
  clear h64
  generalize mergeF most [⟨A1, c1, la⟩, ⟨A2, c2, lb⟩, ⟨A3, c3, lc⟩] = x at *
  generalize mergeF most [] = y at *
  obtain ⟨L, z⟩ := x
  obtain ⟨L0, z0⟩ := y
  simp only at en hLl m1 m2 m3 m4
  subst en
  generalize hrr : ([⟨A1, c1, la⟩, ⟨A2, c2, lb⟩, ⟨A3, c3, lc⟩] : List Rw) = rr at *
  clear hrr
  go_enter Try.func6, Try.ntmps6
  go_wp2_with fail
  refine k1.mono ?_
  rintro e w0 ⟨⟨rfl, r1⟩, rfl⟩
  have J1 := I1 r1
  clear k1 I1 r1
  go_wp2_with fail
  refine k2.mono ?_
  rintro e w0 ⟨⟨rfl, r2⟩, rfl⟩
  have J2 := I2 r2
  clear k2 I2 r2
  go_wp2_with fail
  refine k3.mono ?_
  rintro e w0 ⟨⟨rfl, r3⟩, rfl⟩
  have J := Lib.hid (q1 J1 J2 (I3 r3))
  clear k3 I3 r3 q1 J1 J2
  generalize la.length = na at *
  generalize lb.length = nb at *
  generalize lc.length = nc at *
  have p1 := m1 _ J.out
  clear m1
  go_wp2_with fail
  refine p1.mono ?_
  rintro e w1 ⟨v, rfl, hb1, hv⟩
  obtain ⟨Aa, ca, rfl, ra⟩ := hv.reads
  have J2 := J.out.later hb1
  have Hb0 : Hid (Below w.heap.size w w1) := Lib.hid (((Below.refl _ _).alloc (Nat.le_refl _) _).trans (hb1.mono (by rw [World.size_alloc]; omega)))
  have p2 := m2 w1 J2
  clear hb1 hv J J2 p1 m2
  go_wp2_with fail
  refine p2.mono ?_
  rintro e w2 ⟨v, rfl, hb2, hv⟩
  obtain ⟨Ab, cb, rfl, rb⟩ := hv.reads
  have ra2 := (ra.below hb2).more hb2.size
  have Hb2 := Lib.hid (Hb0.out.trans (hb2.mono Hb0.out.size))
  have p3 := m3 w2
  clear hb2 hv ra p2 m3
  go_wp2_with fail
  refine p3.mono ?_
  rintro e w3 ⟨v, rfl, hb3, hv⟩
  obtain ⟨Ac, cc, rfl, _⟩ := hv.reads
  have ra3 := (ra2.below hb3).more hb3.size
  have rb3 := (rb.below hb3).more hb3.size
  have Hb3 := Lib.hid (Hb2.out.trans (hb3.mono Hb2.out.size))
  have p4 := m4 w3
  clear hb3 hv ra2 rb p3 m4
  go_wp2_with fail
  refine p4.mono ?_
  rintro e w4 ⟨v, rfl, hb4, hv⟩
  obtain ⟨Ad, cd, rfl, _⟩ := hv.reads
  have ra4 := (ra3.below hb4).more hb4.size
  have rb4 := (rb3.below hb4).more hb4.size
  have Hb4 := Lib.hid (Hb3.out.trans (hb4.mono Hb3.out.size))
  have p5 := rsame_any Aa Ab ca cb w4.heap.size w4.heap.size L L w4 ra4 rb4 (by omega) (by omega)
  rw [decide_eq_true rfl] at p5
  clear hb4 hv ra3 rb3 p4 ra4 rb4
  generalize L.length = nL at *
  go_wp2_with fail
  refine p5.mono ?_
  rintro e w5 ⟨rfl, hb5⟩
  have Hb5 := Lib.hid (Hb4.out.trans (hb5.mono Hb4.out.size))
  have p6 := awake_any w5
  clear hb5 p5
  go_wp2_with fail
  refine p6.mono ?_
  rintro e w6 ⟨rfl, hb6⟩
  have Hb6 := Lib.hid (Hb5.out.trans (hb6.mono Hb5.out.size))
  clear hb6 p6
  go_wp2
  go_ret
  exact ⟨rfl, Hb6.out⟩
end Go.Proofs.Ythhklbjhlfejfaa.Hi
