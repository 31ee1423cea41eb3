/- HistRows. Printed by genrows.py. -/
import Derived.Test.YthhklbjhlfejfaaHistY
namespace Go.Proofs.Ythhklbjhlfejfaa.Hi
open Go.RowKit
set_option maxRecDepth 20000
/-- A contract that holds in every later world. -/
abbrev Later (w : World) (f : FuncId) (args : Array Value) (r : Value) : Prop := ∀ wi, Below w.heap.size w wi → Calls Try.prog f args wi fun e w' => e = .returned r ∧ Below wi.heap.size wi w'
theorem errF_t : errF true = 0 := rfl
theorem errF_f : errF false = 240 := rfl

set_option maxHeartbeats 3200000 in
theorem rows_walk (d : Int) (A1 : Option Addr) (c1 : Nat) (ts : List Int) (A2 : Option Addr) (c2 : Nat) (l2 : List Bk) (A3 : Option Addr) (c3 : Nat) (l3 : List Bk) (w : World) (hd0 : (Lit.int .i64 d).wf = true) (hc1 : ts.length ≤ c1)
    (R1 : Reads w w.heap.size 1 A1 ts.length (ts.map (Value.int .i64))) (W1 : ∀ t ∈ ts, (Lit.int .i64 t).wf = true) (hc2 : l2.length ≤ c2) (B2 : Reads w w.heap.size 2 A2 l2.length (bkC l2)) (hc3 : l3.length ≤ c3) (B3 : Reads w w.heap.size 2 A3 l3.length (bkC l3)) :
    Calls Try.prog 4 #[.int .i64 d, .slice A1 ts.length c1, .slice A2 l2.length c2, .slice A3 l3.length c3] w fun e w' => e = .returned (.bool true) ∧ Below w.heap.size w w' := by
  have hd := in64_wf hd0
  have c0 := short_any A1 c1 w.heap.size ts w hc1 R1
  have k2 := few_any A2 c2 w.heap.size l2 w hc2 B2
  have k3 := few_any A3 c3 w.heap.size l3 w hc3 B3
  have hl1 : (ts.take 60).length ≤ 60 := by rw [List.length_take]; omega
  have hl2 : (l2.take 60).length ≤ 60 := by rw [List.length_take]; omega
  have hl3 : (l3.take 60).length ≤ 60 := by rw [List.length_take]; omega
  have hin : ∀ t ∈ ts.take 60, In64 t := fun t ht => in64_wf (W1 t (List.mem_of_mem_take ht))
  have ca : Later w 11 #[] (.bool true) := fun wi _ => awake_any wi
  have kof : Reads w w.heap.size 1 A1 (ts.take 60).length ((ts.take 60).map (Value.int .i64)) → Calls Try.prog 15 #[.int .i64 d, .slice A1 (ts.take 60).length c1] w (OfPost w.heap.size d (ts.take 60) w) := fun h => of_any A1 c1 w.heap.size d (ts.take 60) w h (Nat.le_refl _) (by omega) hd.2 hin
  have kro : ∀ wi, Below w.heap.size w wi → Reads w w.heap.size 1 A1 (ts.take 60).length ((ts.take 60).map (Value.int .i64)) → Calls Try.prog 16 #[.int .i64 d, .slice A1 (ts.take 60).length c1] wi (fun e w' => ∃ v, e = .returned (.tuple #[v, .int .i64 (if d < 1 then 240 else 0)]) ∧ Below wi.heap.size wi w' ∧ Bks w' w'.heap.size v (if d < 1 then [] else ofF d (ts.take 60))) := fun wi hb h => rof_any A1 c1 w.heap.size d (ts.take 60) wi (h.below hb) hb.size (by omega) hd.2 hin
  have hG := ofF_good d (ts.take 60) (ts.take 60).length (Nat.le_refl _)
  rw [List.take_length] at hG
  obtain ⟨L, hL⟩ : ∃ L, L = (if d < 1 then [] else ofF d (ts.take 60)) := ⟨_, rfl⟩
  have hLl : L.length ≤ 60 := by rw [hL]; split <;> (first | (simp; done) | omega)
  unfold OfPost at kof
  obtain ⟨z, hz⟩ : ∃ z : Int, z = (if d < 1 then 240 else 0) := ⟨_, rfl⟩
  rw [← hL] at kof kro
  rw [← hz] at kof kro
  clear hL hz hG hin R1 W1 B2 B3 hc1 hc2 hc3 hd0
  generalize ts.take 60 = us at *
  generalize l2.take 60 = la at *
  generalize l3.take 60 = lb at *
  go_enter Try.func4, Try.ntmps4
  go_wp2_with fail
  refine c0.mono ?_
  rintro e w0 ⟨⟨rfl, hr⟩, rfl⟩
  have k4 := kof hr
  have k5 := fun wi hb => kro wi hb hr
  clear kof kro hr c0
  go_wp2_with fail
  refine k2.mono ?_
  rintro e w0 ⟨⟨rfl, ra⟩, rfl⟩
  clear k2
  go_wp2_with fail
  refine k3.mono ?_
  rintro e w0 ⟨⟨rfl, rb⟩, rfl⟩
  clear k3
  have q1 : Later w 18 #[.slice A2 la.length c2] (.int .i64 (errF (fineB la))) := fun wi h => check_any A2 c2 w.heap.size la wi (ra.below h) h.size (by omega)
  have q2 : Later w 19 #[.slice A2 la.length c2] (.bool (fineB la)) := fun wi h => is_any A2 c2 w.heap.size la wi (ra.below h) h.size (by omega)
  have q3 : Later w 20 #[.slice A2 la.length c2] (.int .i64 (totF la)) := fun wi h => total_any A2 c2 w.heap.size la wi (ra.below h) h.size (by omega)
  have q4 : Later w 21 #[.slice A2 la.length c2] (.int .i64 (totF la)) := fun wi h => rtotal_any A2 c2 w.heap.size la wi (ra.below h) (by omega)
  have q5 : Later w 22 #[.slice A2 la.length c2, .slice A3 lb.length c3] (.bool (decide (la = lb))) := fun wi h => same_any A2 A3 c2 c3 w.heap.size w.heap.size la lb wi (ra.below h) (rb.below h) (by omega) (by omega)
  have q6 : Later w 17 #[.slice A2 la.length c2, .slice A3 lb.length c3] (.bool (decide (la = lb))) := fun wi h => rsame_any A2 A3 c2 c3 w.heap.size w.heap.size la lb wi (ra.below h) (rb.below h) (by omega) (by omega)
  have q7 : Later w 22 #[.slice A2 la.length c2, .slice A2 la.length c2] (.bool true) := fun wi h => by
    have := same_any A2 A2 c2 c2 w.heap.size w.heap.size la la wi (ra.below h) (ra.below h) (by omega) (by omega)
    rw [decide_eq_true rfl] at this
    exact this
  clear ra rb
  generalize decide (la = lb) = sm at *
  generalize totF la = tt at *
  generalize hlla : la.length = nla at *
  generalize hllb : lb.length = nlb at *
  generalize us.length = nus at *
  clear hlla hllb
  go_wp2_with fail
  refine k4.mono ?_
  rintro e w1 ⟨v, rfl, hv⟩
  obtain ⟨Al, cl, rfl, rl⟩ := own_reads hv.own
  have Hb1 := Lib.hid hv.bel
  clear hv k4
  have k6 := k5 w1 Hb1.out
  clear k5
  go_wp2_with fail
  refine k6.mono ?_
  rintro e w2 ⟨v, rfl, hb2, hv⟩
  obtain ⟨Ak, ck, rfl, rk⟩ := hv.reads
  have Hb2 := Lib.hid (Hb1.out.trans (hb2.mono Hb1.out.size))
  have k7 := rsame_any Al Ak cl ck w1.heap.size w2.heap.size L L w2 (rl.below hb2) rk (by omega) (by omega)
  rw [decide_eq_true rfl] at k7
  clear hv k6 hb2 rl rk
  generalize L.length = nL at *
  go_wp2_with fail
  refine k7.mono ?_
  rintro e w3 ⟨rfl, hb3⟩
  have Hb3 := Lib.hid (Hb2.out.trans (hb3.mono Hb2.out.size))
  clear hb3 k7
  cases hfb : fineB la
  · rw [hfb] at q1 q2
    rw [errF_f] at q1
    clear hfb
    have m0 := q1 _ Hb3.out
    go_wp2_with fail
    refine m0.mono ?_
    rintro e x0 ⟨rfl, hb⟩
    have Hx0 := Lib.hid (Hb3.out.trans (hb.mono Hb3.out.size))
    clear hb m0
    have m1 := q2 _ Hx0.out
    go_wp2_with fail
    refine m1.mono ?_
    rintro e x1 ⟨rfl, hb⟩
    have Hx1 := Lib.hid (Hx0.out.trans (hb.mono Hx0.out.size))
    clear hb m1
    have m2 := q2 _ Hx1.out
    go_wp2_with fail
    refine m2.mono ?_
    rintro e x2 ⟨rfl, hb⟩
    have Hx2 := Lib.hid (Hx1.out.trans (hb.mono Hx1.out.size))
    clear hb m2
    have m3 := q1 _ Hx2.out
    go_wp2_with fail
    refine m3.mono ?_
    rintro e x3 ⟨rfl, hb⟩
    have Hx3 := Lib.hid (Hx2.out.trans (hb.mono Hx2.out.size))
    clear hb m3
    have m4 := q3 _ Hx3.out
    go_wp2_with fail
    refine m4.mono ?_
    rintro e x4 ⟨rfl, hb⟩
    have Hx4 := Lib.hid (Hx3.out.trans (hb.mono Hx3.out.size))
    clear hb m4
    have m5 := q4 _ Hx4.out
    go_wp2_with fail
    refine m5.mono ?_
    rintro e x5 ⟨rfl, hb⟩
    have Hx5 := Lib.hid (Hx4.out.trans (hb.mono Hx4.out.size))
    clear hb m5
    have m6 := q5 _ Hx5.out
    go_wp2_with fail
    refine m6.mono ?_
    rintro e x6 ⟨rfl, hb⟩
    have Hx6 := Lib.hid (Hx5.out.trans (hb.mono Hx5.out.size))
    clear hb m6
    have m7 := q6 _ Hx6.out
    go_wp2_with fail
    refine m7.mono ?_
    rintro e x7 ⟨rfl, hb⟩
    have Hx7 := Lib.hid (Hx6.out.trans (hb.mono Hx6.out.size))
    clear hb m7
    have m8 := q7 _ Hx7.out
    go_wp2_with fail
    refine m8.mono ?_
    rintro e x8 ⟨rfl, hb⟩
    have Hx8 := Lib.hid (Hx7.out.trans (hb.mono Hx7.out.size))
    clear hb m8
    have m9 := ca _ Hx8.out
    go_wp2_with fail
    refine m9.mono ?_
    rintro e x9 ⟨rfl, hb⟩
    have Hx9 := Lib.hid (Hx8.out.trans (hb.mono Hx8.out.size))
    clear hb m9
    go_wp2
    go_ret
    exact ⟨rfl, Hx9.out⟩
  · rw [hfb] at q1 q2
    rw [errF_t] at q1
    clear hfb
    have m0 := q1 _ Hb3.out
    go_wp2_with fail
    refine m0.mono ?_
    rintro e x0 ⟨rfl, hb⟩
    have Hx0 := Lib.hid (Hb3.out.trans (hb.mono Hb3.out.size))
    clear hb m0
    have m1 := q2 _ Hx0.out
    go_wp2_with fail
    refine m1.mono ?_
    rintro e x1 ⟨rfl, hb⟩
    have Hx1 := Lib.hid (Hx0.out.trans (hb.mono Hx0.out.size))
    clear hb m1
    have m2 := q2 _ Hx1.out
    go_wp2_with fail
    refine m2.mono ?_
    rintro e x2 ⟨rfl, hb⟩
    have Hx2 := Lib.hid (Hx1.out.trans (hb.mono Hx1.out.size))
    clear hb m2
    have m3 := q3 _ Hx2.out
    go_wp2_with fail
    refine m3.mono ?_
    rintro e x3 ⟨rfl, hb⟩
    have Hx3 := Lib.hid (Hx2.out.trans (hb.mono Hx2.out.size))
    clear hb m3
    have m4 := q4 _ Hx3.out
    go_wp2_with fail
    refine m4.mono ?_
    rintro e x4 ⟨rfl, hb⟩
    have Hx4 := Lib.hid (Hx3.out.trans (hb.mono Hx3.out.size))
    clear hb m4
    have m5 := q5 _ Hx4.out
    go_wp2_with fail
    refine m5.mono ?_
    rintro e x5 ⟨rfl, hb⟩
    have Hx5 := Lib.hid (Hx4.out.trans (hb.mono Hx4.out.size))
    clear hb m5
    have m6 := q6 _ Hx5.out
    go_wp2_with fail
    refine m6.mono ?_
    rintro e x6 ⟨rfl, hb⟩
    have Hx6 := Lib.hid (Hx5.out.trans (hb.mono Hx5.out.size))
    clear hb m6
    have m7 := q7 _ Hx6.out
    go_wp2_with fail
    refine m7.mono ?_
    rintro e x7 ⟨rfl, hb⟩
    have Hx7 := Lib.hid (Hx6.out.trans (hb.mono Hx6.out.size))
    clear hb m7
    have m8 := ca _ Hx7.out
    go_wp2_with fail
    refine m8.mono ?_
    rintro e x8 ⟨rfl, hb⟩
    have Hx8 := Lib.hid (Hx7.out.trans (hb.mono Hx7.out.size))
    clear hb m8
    go_wp2
    go_ret
    exact ⟨rfl, Hx8.out⟩
theorem rows_walk2 (d : Int) (A1 : Option Addr) (l1 c1 : Nat) (ts : List Int) (A2 : Option Addr) (c2 : Nat) (l2 : List Bk) (A3 : Option Addr) (c3 : Nat) (l3 : List Bk) (w : World) (hd0 : (Lit.int .i64 d).wf = true) (E1 : ts.length = l1) (hc1 : l1 ≤ c1)
    (R1 : Reads w w.heap.size 1 A1 l1 (ts.map (Value.int .i64))) (W1 : ∀ t ∈ ts, (Lit.int .i64 t).wf = true) (hc2 : l2.length ≤ c2) (B2 : Reads w w.heap.size 2 A2 l2.length (bkC l2)) (hc3 : l3.length ≤ c3) (B3 : Reads w w.heap.size 2 A3 l3.length (bkC l3)) :
    Calls Try.prog 4 #[.int .i64 d, .slice A1 l1 c1, .slice A2 l2.length c2, .slice A3 l3.length c3] w fun e w' => e = .returned (.bool true) ∧ Below w.heap.size w w' := by
  subst E1
  exact rows_walk d A1 c1 ts A2 c2 l2 A3 c3 l3 w hd0 hc1 R1 W1 hc2 B2 hc3 B3
end Go.Proofs.Ythhklbjhlfejfaa.Hi
