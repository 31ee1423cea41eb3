/- loggialaw14.filled, short: the walks (printed by gen_mxfl.py). -/
import Derived.Outline
import Derived.Test.YtioekhiaoajgfaaPkMemidxAddsRow35
import Derived.Test.YtioekhiaoajgfaaPkMemidxAddsRow37
import Derived.Test.YtioekhiaoajgfaaPkMemidxApartRow0
namespace Go.Proofs.Ytioekhiaoajgfaa.Mx
open Go.RowKit Go.Proofs.Ytioekhiaoajgfaa Go.Proofs.Ytioekhiaoajgfaa.Ut Go.Proofs.Ytioekhiaoajgfaa.Tk Go.Proofs.Ytioekhiaoajgfaa.Qy Go.Proofs.Ytioekhiaoajgfaa.Ev Go.Proofs.Ytioekhiaoajgfaa.Qp Go.Proofs.Ytioekhiaoajgfaa.Mv
set_option linter.unusedVariables false
set_option linter.unusedSimpArgs false
set_option maxRecDepth 40000

theorem results_tmp_cell {fn : Func} {p u : Tmp} {ty : TypeId} (h : fn.results = #[.tmp u, .cell p ty]) (tmps : Array Value) (P : Program) (w : World) :
    (results fn tmps).run P w =
      ((asAddr (tmps.getD p undef)).run P w).andThen fun a w₁ => ((loadVar ty a).run P w₁).andThen fun v w₂ => .ok (.tuple #[tmps.getD u undef, v]) w₂ := by
  simp only [results, h]
  simp [Sem.run_bind, Result.andThen]
theorem results_tc {fn : Func} {p u : Tmp} {ty : TypeId} (h : fn.results = #[.tmp u, .cell p ty]) {tmps : Array Value} {P : Program} {w : World} {a : Addr} {v : Value} (ha : tmps.getD p undef = .pointer (some a)) (hl : (loadVar ty a).run P w = .ok v w) :
    (results fn tmps).run P w = .ok (.tuple #[tmps.getD u undef, v]) w := by
  rw [results_tmp_cell h, ha]
  have : (asAddr (.pointer (some a))).run P w = .ok a w := rfl
  rw [this]
  simp only [Result.andThen_ok]
  rw [hl]
  rfl
/-- What an index has behind batches. -/
def fillD (l : List Bt) : List Dc := l.foldl (fun ds b => addD ds b.1 b.2) []
theorem fillD_snoc (l : List Bt) (b : Bt) : fillD (l ++ [b]) = addD (fillD l) b.1 b.2 := by simp [fillD]
/-- An index that took batches, and the document's. -/
def FilledP (w : World) (l : List Bt) (e : Ending) (w' : World) : Prop := ∃ (n0 X : Nat) (O Rr : Nat → Prop) (A : Option Addr) (n c : Nat), w.heap.size ≤ n0 ∧ e = .returned (.tuple #[.pointer (some ⟨X, 0, none⟩), .agg #[.slice A n c]]) ∧
  IxD w' n0 X O (fillD l) ∧ RIx w' Rr w.heap.size A n c (fillD l) ∧ (∀ b, Rr b → ¬ O b) ∧ Below w.heap.size w w'
theorem RIx.set {w : World} {Rr : Nat → Prop} {B : Nat} {A : Option Addr} {n c : Nat} {ds : List Dc} {w' : World} (h : RIx w Rr B A n c ds) (hR : ∀ b, Rr b ∨ b < B → w'.heap[b]? = w.heap[b]?) (hs : w'.heap.size = w.heap.size) : RIx w' Rr B A n c ds :=
  ⟨h.rd.same (fun b hb => ⟨hb, hR b (.inl hb)⟩) (fun b hb => ⟨hb, hR b hb⟩), h.cap, h.nl, fun b hb => by rw [hs]; exact h.lt b hb, by rw [hs]; exact h.bw⟩
set_option maxHeartbeats 6400000 in
theorem filled_any (A0 : Option Addr) (m c0 : Nat) (l : List Bt) (w : World) (hB : BtsAt w (· < w.heap.size) w.heap.size A0 m c0 l) (hm : m ≤ 4398046511104) :
    Calls Try.prog 8 #[.slice A0 m c0] w (FilledP w l) := by
  have HLR : Hid (∀ wx, Below w.heap.size w wx → ∀ k (hk : k < l.length), ∃ b o E m q, A0 = some ⟨b, o, none⟩ ∧ b < w.heap.size ∧ wx.cell? ⟨b, o + k * 2, none⟩ = some (.int .i64 l[k].1) ∧ wx.cell? ⟨b, o + k * 2 + 1, none⟩ = some (.slice E m q) ∧ EvsAt wx w.heap.size E m q l[k].2) := Lib.hid (fun wx hb k hk => by
    obtain ⟨b, o, E, m, q, e, hr, c0, c1, hE⟩ := hB.at_ hk
    exact ⟨b, o, E, m, q, e, hr, (hb.cell hr).trans c0, (hb.cell hr).trans c1, hE.keep (fun b o hlt => hb.cell hlt)⟩)
  have hln := hB.ln
  have hl1 : l.length ≤ m := by omega
  have hl2 : m ≤ l.length := by omega
  clear hB hln
  have hb0 : Below w.heap.size w (w.alloc (.cells #[.slice none 0 0] 30)) := (Below.refl _ _).alloc (Nat.le_refl _) _
  have hk0 := Blk.new w 30 #[.slice none 0 0]
  have HB0 := Lib.hid hb0
  have HK0 := Lib.hid hk0
  have hs0 := hb0.size
  have hlt0 := hk0.lt
  clear hb0 hk0
  go_enter Try.func8, Try.ntmps8
  go_upto_region 1 with fail
  generalize hw1 : w.alloc (.cells #[.slice none 0 0] 30) = w1 at *
  try rw [hw1]
  clear hw1
  go_wp2_with fail
  refine (new_ix w1).mono ?_
  rintro e w2 ⟨X, rfl, hI, hb2⟩
  have hP0 := Pair.start (B := w.heap.size) hI hs0 hb2.size
  have HP0 := Lib.hid hP0
  have hb3 : Below w1.heap.size w1 (w2.alloc (.cells #[.slice none 0 0] 30)) := hb2.alloc hb2.size _
  have HB3 := Lib.hid hb3
  have hs2 := hb2.size
  clear hI hb2 hP0 hb3
  go_wp2_with fail
  generalize hR0 : w2.heap.size = R0 at *
  generalize hw3 : w2.alloc (.cells #[.slice none 0 0] 30) = w3 at *
  clear hw3
  go_loopw [6] (fun j wr => ∃ (k : Nat) (O Rr : Nat → Prop) (A : Option Addr) (nA cA : Nat), k ≤ l.length ∧ j = .int .i64 (k : Nat) ∧ Hid (Pair wr w1.heap.size w.heap.size X R0 O Rr A nA cA (fillD (l.take k))) ∧ Hid (Below w1.heap.size w1 wr)) (fun j _ => l.length - (intOf j).toNat)
  case atStart => exact ⟨0, _, _, _, _, _, Nat.zero_le _, rfl, HP0, HB3⟩
  case round =>
    obtain ⟨k, O, Rr, A, nA, cA, hk, rfl, HP, HW⟩ := hrel
    by_cases hlt : k < l.length
    · have hki : (k : Int) < (m : Int) := by omega
      have hki0 : (0 : Int) ≤ (k : Int) := by omega
      have hwr := HW.out.size
      have HW0 : Hid (Below w.heap.size w wr) := Lib.hid (HB0.out.trans (HW.out.mono hs0))
      obtain ⟨b, o, E, mE, q, rfl, hb, g0, g1, hE⟩ := HLR.out wr HW0.out k hlt
      have hfd : fillD (l.take (k + 1)) = addD (fillD (l.take k)) l[k].1 l[k].2 := by rw [List.take_succ_eq_append_getElem hlt, fillD_snoc]
      have HFD := Lib.hid hfd
      generalize hds : fillD (l.take k) = ds at *
      have C1 := Lib.hid (add_walk l[k].1 E mE q l[k].2 w1.heap.size X O ds wr HP.out.ix HP.out.hn (hE.more (Nat.le_trans hs0 hwr)))
      clear hE hfd hds
      go_wp2_with fail
      refine C1.out.mono ?_
      rintro e w4 ⟨rfl, hI4, hc4⟩
      obtain ⟨hr4, hk4, hb4, hd4, hO4⟩ := HP.out.add hI4 hc4
      have hW4 : Below w1.heap.size w1 w4 := HW.out.trans hb4
      have hs4 := hb4.size
      have HI4 := Lib.hid hI4
      have HR4 := Lib.hid hr4
      have HK4 := Lib.hid hk4
      have HD4 := Lib.hid hd4
      have HO4 := Lib.hid hO4
      have HW4 := Lib.hid hW4
      have OK := Lib.hid (And.intro HP.out.ix.ok HP.out.ix.few)
      have hR0b := HP.out.hR
      obtain ⟨b', o', E', m', q', e', hb', g0', g1', hE'⟩ := HLR.out w4 (HB0.out.trans (hW4.mono hs0)) k hlt
      injection e' with e'
      injection e' with e1 e2
      subst e1 e2
      have HE4 := Lib.hid hE'
      have q0 := hk4.cell 0
      simp only [List.getElem?_toArray, List.getElem?_cons_zero] at q0
      have hsz : R0 < w4.heap.size := hk4.lt
      have hbl : b < w4.heap.size := Nat.lt_of_lt_of_le hb (by omega)
      have CA : Hid (∀ wx, Below w4.heap.size w4 wx → Calls Try.prog 15 #[.agg #[.slice A nA cA], .agg #[.int .i64 l[k].1, .slice E' m' q']] wx (RAddPost wx Rr w.heap.size ds l[k].1 l[k].2)) := Lib.hid (fun wx hC =>
        radd_any l[k].1 E' m' q' l[k].2 A nA cA ds Rr w.heap.size wx (HR4.out.below hC (fun b hb => hb) (fun b hb => Nat.lt_of_lt_of_le (HR4.out.lt b hb) hC.size)) (HE4.out.keep (fun b o hlt => hC.cell (by show b < _; omega))) OK.out.1 OK.out.2)
      clear hI4 hc4 hr4 hk4 hb4 hd4 hO4 g0 g1 hE' C1
      generalize l[k].1 = sq at *
      generalize l[k].2 = evs at *
      go_upto_region 7 with (fail)
      refine wp_region_noPanic ?_
      refine wp_region_held_drew (S := fun w' => w'.cell? ⟨b, o + k * 2, none⟩ = some (.int .i64 sq) ∧ w'.cell? ⟨b, o + k * 2 + 1, none⟩ = some (.slice E' m' q')) (by kernel_rfl) (by exact ⟨g0', g1'⟩) (fun hHeld => ?_)
      refine wpAnyH_takeD (i := 1) 22 (v := ?_) rfl rfl (by kernel_rfl) (by kernel_rfl) (by kernel_rfl) (fun _ _ _ h => h) (by rfl) ?_ hHeld ?_
      rotate_left
      · intro W hSw; (try dsimp only at hSw); go_simp
        all_goals with_reducible rfl
      try simp only [Act.put, List.setIfInBounds_toArray, List.set_cons_zero, List.set_cons_succ]
      refine wpAnyH_takeD (i := 2) 23 (v := ?_) rfl rfl (by kernel_rfl) (by kernel_rfl) (by kernel_rfl) (fun _ _ _ h => h) (by rfl) ?_ hHeld ?_
      rotate_left
      · intro W hSw; (try dsimp only at hSw); go_simp
        all_goals with_reducible rfl
      try simp only [Act.put, List.setIfInBounds_toArray, List.set_cons_zero, List.set_cons_succ]
      refine wpAnyH_takeD (i := 3) 24 (v := ?_) rfl rfl (by kernel_rfl) (by kernel_rfl) (by kernel_rfl) (fun _ _ _ h => h) (by rfl) ?_ hHeld ?_
      rotate_left
      · intro W hSw; (try dsimp only at hSw); go_simp
        all_goals with_reducible rfl
      try simp only [Act.put, List.setIfInBounds_toArray, List.set_cons_zero, List.set_cons_succ]
      refine wpAnyH_takeD (i := 4) 25 (v := ?_) rfl rfl (by kernel_rfl) (by kernel_rfl) (by kernel_rfl) (fun _ _ _ h => h) (by rfl) ?_ hHeld ?_
      rotate_left
      · intro W hSw; (try dsimp only at hSw); go_simp
        all_goals with_reducible rfl
      try simp only [Act.put, List.setIfInBounds_toArray, List.set_cons_zero, List.set_cons_succ]
      refine wpAnyH_ready (rs := [0]) (by kernel_rfl) (by simp) ?_
      refine AllReadyH.cons (o := _) rfl (fun K hK => ?_) AllReadyH.nil
      go_simp
      refine hK.out _ _ ?_ (fun hHeld => ?_)
      · exact ⟨g0', g1'⟩
      clear hK K
      try simp only [Act.put, List.setIfInBounds_toArray, List.set_cons_zero, List.set_cons_succ]
      refine wpAnyH_ready (rs := [5]) (by kernel_rfl) (by simp) ?_
      refine AllReadyH.cons (o := _) rfl (fun K hK => ?_) AllReadyH.nil
      go_simp
      refine (CA.out _ (Below.refl _ _).drew).mono ?_
      rintro e w6 ⟨A9, n9, c9, rfl, hr9, hb9⟩
      have hb9' : Below w4.heap.size w4 w6 := (Below.refl _ _).drew.trans hb9
      refine hK.out _ _ ?_ (fun hHeld => ?_)
      · exact ⟨(hb9'.cell (p := ⟨b, o + k * 2, none⟩) hbl).trans g0', (hb9'.cell (p := ⟨b, o + k * 2 + 1, none⟩) hbl).trans g1'⟩
      clear hK K
      try simp only [Act.put, List.setIfInBounds_toArray, List.set_cons_zero, List.set_cons_succ]
      refine wpAnyH_takeD (i := 6) 20 (v := ?_) rfl rfl (by kernel_rfl) (by kernel_rfl) (by kernel_rfl) (fun _ _ _ h => h) (by rfl) ?_ hHeld ?_
      rotate_left
      · intro W hSw; (try dsimp only at hSw); go_simp
        all_goals with_reducible rfl
      try simp only [Act.put, List.setIfInBounds_toArray, List.set_cons_zero, List.set_cons_succ]
      refine wpAnyH_takeD (i := 7) 27 (v := ?_) rfl rfl (by kernel_rfl) (by kernel_rfl) (by kernel_rfl) (fun _ _ _ h => h) (by rfl) ?_ hHeld ?_
      rotate_left
      · intro W hSw; (try dsimp only at hSw); go_simp
        all_goals with_reducible rfl
      try simp only [Act.put, List.setIfInBounds_toArray, List.set_cons_zero, List.set_cons_succ]
      refine wpAnyH_takeD (i := 8) 28 (v := ?_) rfl rfl (by kernel_rfl) (by kernel_rfl) (by kernel_rfl) (fun _ _ _ h => h) (by rfl) ?_ hHeld ?_
      rotate_left
      · intro W hSw; (try dsimp only at hSw); go_simp
        all_goals with_reducible rfl
      try simp only [Act.put, List.setIfInBounds_toArray, List.set_cons_zero, List.set_cons_succ]
      have hk6 := HK4.out.below hb9' HK4.out.lt
      have y0 := hk6.cell 0
      have y0f := hk6.frozen 0
      simp only [List.getElem?_toArray, List.getElem?_cons_zero] at y0
      have hP8 := Pair.put HI4.out hb9' hr9 HD4.out HK4.out HO4.out HP.out.hB (Nat.le_trans hwr hs4) hR0b
      have HP8 : Hid (Pair (w6.setCell ⟨R0, 0, none⟩ (.slice A9 n9 c9)) w1.heap.size w.heap.size X R0 _ _ A9 n9 c9 (fillD (l.take (k + 1)))) := Lib.hid (by rw [HFD.out]; exact hP8)
      have HB8 := Lib.hid ((HW4.out.trans (hb9'.mono (Nat.le_trans hwr hs4))).setCell (p := ⟨R0, 0, none⟩) hR0b (.slice A9 n9 c9))
      have hh9 : (w6.setCell ⟨R0, 0, none⟩ (.slice A9 n9 c9)).cell? ⟨b, o + k * 2, none⟩ = some (.int .i64 sq) ∧ (w6.setCell ⟨R0, 0, none⟩ (.slice A9 n9 c9)).cell? ⟨b, o + k * 2 + 1, none⟩ = some (.slice E' m' q') := by
        have hne : b ≠ R0 := by omega
        have e1 : ∀ (q : Nat), (w6.setCell ⟨R0, 0, none⟩ (.slice A9 n9 c9)).cell? ⟨b, q, none⟩ = w6.cell? ⟨b, q, none⟩ := fun q => World.cell?_of_block (Below.heap_setCell _ ⟨R0, 0, none⟩ _ _ hne)
        exact ⟨(e1 _).trans ((hb9'.cell (p := ⟨b, o + k * 2, none⟩) hbl).trans g0'), (e1 _).trans ((hb9'.cell (p := ⟨b, o + k * 2 + 1, none⟩) hbl).trans g1')⟩
      clear hP8 hr9 hk6 q0
      refine wpAnyH_ready (rs := [9]) (by kernel_rfl) (by simp) ?_
      refine AllReadyH.cons (o := _) rfl (fun K hK => ?_) AllReadyH.nil
      go_simp
      refine hK.out _ _ ?_ (fun hHeld => ?_)
      · exact hh9
      clear hK K
      try simp only [Act.put, List.setIfInBounds_toArray, List.set_cons_zero, List.set_cons_succ]
      refine wpAnyH_done (by kernel_rfl) ?_ _
      refine NoPanic.normal ?_
      clear hh9 hHeld
      go_wp2_with fail
      go_roundw
      case rel => exact ⟨k + 1, _, _, _, _, _, by omega, by go_num, HP8, HB8⟩
      case measure => simp [intOf]; omega
    · obtain rfl : k = l.length := by omega
      rw [List.take_length] at HP
      have x0 := HP.out.blk.cell 0
      simp only [List.getElem?_toArray, List.getElem?_cons_zero] at x0
      have hkr := HK0.out.below (HW.out) (by omega)
      have r0 := hkr.cell 0
      have r0f := hkr.frozen 0
      simp only [List.getElem?_toArray, List.getElem?_cons_zero] at r0
      have hR0b := HP.out.hR
      have hne : R0 ≠ w.heap.size := by omega
      have hw1r := HW.out.size
      have kp : ∀ b, w1.heap.size ≤ b ∨ b < w.heap.size → (wr.setCell ⟨w.heap.size, 0, none⟩ (.slice A nA cA)).heap[b]? = wr.heap[b]? := fun b hb => Below.heap_setCell _ ⟨w.heap.size, 0, none⟩ _ _ (by show b ≠ w.heap.size; omega)
      have HRR : Hid (RIx (wr.setCell ⟨w.heap.size, 0, none⟩ (.slice A nA cA)) Rr w.heap.size A nA cA (fillD l)) := Lib.hid (HP.out.rx.write hkr (Nat.le_refl _) _)
      have HII : Hid (IxD (wr.setCell ⟨w.heap.size, 0, none⟩ (.slice A nA cA)) w1.heap.size X O (fillD l)) := Lib.hid (HP.out.ix.write hkr (fun hO => by have := (HP.out.ix.lt _ hO).1; omega) _)
      have hbF : Hid (Below w.heap.size w (wr.setCell ⟨w.heap.size, 0, none⟩ (.slice A nA cA))) := Lib.hid ((HB0.out.trans (HW.out.mono hs0)).setCell (p := ⟨w.heap.size, 0, none⟩) (Nat.le_refl _) _)
      have hkF : Blk (wr.setCell ⟨w.heap.size, 0, none⟩ (.slice A nA cA)) w.heap.size 30 #[.slice A nA cA] := by
        have := hkr.set_ 0 (.slice A nA cA)
        simpa using this
      have HKF := Lib.hid hkF
      clear hkr hkF kp
      go_wp2_with fail
      go_region
      go_wp2_with fail
      all_goals exact bodyPost_ret (results_tc rfl rfl (run_loadVar_row _ w.heap.size 30 30 #[.slice A nA cA] (0, 0) _ HKF.out Try.underlying30 rfl (by kernel_rfl))) rfl ⟨w1.heap.size, X, O, Rr, A, nA, cA, hs0, rfl, HII.out.below (Below.refl _ _).drew (fun _ h => h) (fun b h => HII.out.lt b h), HRR.out.below (Below.refl _ _).drew (fun _ h => h) (fun b h => HRR.out.lt b h), HP.out.dis, hbF.out.drew⟩
/-- The first 80 bytes. -/
def cut80 (s : ByteArray) : ByteArray := if 80 < s.size then s.extract 0 80 else s
theorem cut80_len (s : ByteArray) : (cut80 s).size ≤ 80 := by
  unfold cut80
  split
  · simp; omega
  · omega
theorem short_any (s : ByteArray) (w : World) (hs : s.size ≤ 140737488351232) : Calls Try.prog 7 #[.string s] w fun e w' => e = .returned (.string (cut80 s)) ∧ w = w' := by
  by_cases h : 80 < s.size
  · have hc : cut80 s = s.extract 0 80 := if_pos h
    have HC := Lib.hid hc
    have h1 : (80 : Int) < (s.size : Int) := by omega
    have h2 : (80 : Int) ≤ (s.size : Int) := by omega
    clear hc
    go_enter Try.func7, Try.ntmps7
    go_wp2
    go_ret
    exact ⟨by rw [HC.out]; first | rfl | simp, rfl⟩
  · have hc : cut80 s = s := if_neg h
    have HC := Lib.hid hc
    have h1 : ¬ (80 : Int) < (s.size : Int) := by omega
    clear hc
    go_enter Try.func7, Try.ntmps7
    go_wp2
    go_ret
    exact ⟨by rw [HC.out]; rfl, rfl⟩
end Go.Proofs.Ytioekhiaoajgfaa.Mx
