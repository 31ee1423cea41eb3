/- The walks of the filter's functions. -/
import Derived.Test.YtambdddahbgelaaProg
import Derived.Test.YtambdddahbgelaaBloomP
import Derived.Lib.Hide
namespace Go.Proofs.Ytambdddahbgelaa.Bl
open Go.RowKit

/-- A filter behind a pointer: its block g, its bytes' block h. -/
structure FAt (w : World) (g h : Nat) (bs : List Nat) : Prop where
  ptr : ∃ cap, Blk w g 46 #[.slice (some ⟨h, 0, none⟩) bs.length cap]
  row : ∃ ex, Blk w h 5 (bcs bs ++ ex)
  byt : Bytes bs
  lo : 8 ≤ bs.length
  hi : bs.length ≤ 131072
theorem FAt.cell {w : World} {g h : Nat} {bs : List Nat} (hF : FAt w g h bs) : ∃ cap, w.cell? ⟨g, 0, none⟩ = some (.slice (some ⟨h, 0, none⟩) bs.length cap) := by
  obtain ⟨cap, hp⟩ := hF.ptr
  exact ⟨cap, hp.cell 0⟩
theorem FAt.byte {w : World} {g h : Nat} {bs : List Nat} (hF : FAt w g h bs) {i : Nat} (hi : i < bs.length) : w.cell? ⟨h, i, none⟩ = some (.int .u8 (bs.getD i 0 : Nat)) := by
  obtain ⟨ex, hr⟩ := hF.row
  rw [hr.cell i, Array.getElem?_append_left (by simpa [bcs] using hi)]
  exact bcs_get bs i hi
theorem FAt.frozen {w : World} {g h : Nat} {bs : List Nat} (hF : FAt w g h bs) (i : Nat) : w.frozen? ⟨h, i, none⟩ = false := by
  obtain ⟨ex, hr⟩ := hF.row
  exact hr.frozen i
theorem FAt.ne {w : World} {g h : Nat} {bs : List Nat} (hF : FAt w g h bs) : g ≠ h := by
  obtain ⟨ex, hr⟩ := hF.row
  obtain ⟨cap, hp⟩ := hF.ptr
  exact hp.ne_ hr (by decide)
theorem FAt.below {w w' : World} {g h B : Nat} {bs : List Nat} (hF : FAt w g h bs) (hb : Below B w w') (hg : g < B) (hh : h < B) : FAt w' g h bs := by
  obtain ⟨ex, hr⟩ := hF.row
  obtain ⟨cap, hp⟩ := hF.ptr
  exact ⟨⟨_, hp.below hb hg⟩, ⟨_, hr.below hb hh⟩, hF.byt, hF.lo, hF.hi⟩
theorem FAt.glt {w : World} {g h : Nat} {bs : List Nat} (hF : FAt w g h bs) : g < w.heap.size := by
  obtain ⟨cap, hp⟩ := hF.ptr
  exact hp.lt
theorem FAt.hlt {w : World} {g h : Nat} {bs : List Nat} (hF : FAt w g h bs) : h < w.heap.size := by
  obtain ⟨ex, hr⟩ := hF.row
  exact hr.lt
theorem FAt.keep {w w' : World} {g h : Nat} {bs : List Nat} (hF : FAt w g h bs) (hb : Below w.heap.size w w') : FAt w' g h bs := hF.below hb hF.glt hF.hlt
theorem FAt.sb {w : World} {g h : Nat} {bs : List Nat} (hF : FAt w g h bs) (k : Nat) (hk : k / 8 < bs.length) : FAt (w.setCell ⟨h, k / 8, none⟩ (.int .u8 ((bs.getD (k / 8) 0 ||| 2 ^ (k % 8) : Nat) : Int))) g h (sb bs k) := by
  have hne : g ≠ h := hF.ne
  obtain ⟨ex, hr⟩ := hF.row
  obtain ⟨cap, hp⟩ := hF.ptr
  have e := hr.set_ (k / 8) (.int .u8 ((bs.getD (k / 8) 0 ||| 2 ^ (k % 8) : Nat) : Int))
  rw [Array.setIfInBounds_append_left (by simpa [bcs] using hk), bcs_set] at e
  exact ⟨⟨cap, by rw [length_sb]; exact hp.far hne _⟩, ⟨ex, e⟩, hF.byt.sb k, by rw [length_sb]; exact hF.lo, by rw [length_sb]; exact hF.hi⟩
theorem grownBy_setCell (w : World) (h o : Nat) (u : Value) : w.grownBy (w.setCell ⟨h, o, none⟩ u) (some h) :=
  ⟨rfl, rfl, rfl, by simp [World.setCell], fun k _ hne => Below.heap_setCell _ _ _ _ (fun e => hne (by rw [e]))⟩
theorem grownBy_of_below {w w' : World} (h : Below w.heap.size w w') (row : Option Nat) : w.grownBy w' row := ⟨h.os, h.tape, h.output, h.size, fun i hi _ => h.block i hi⟩
theorem grownBy_trans {a b c : World} {row : Option Nat} (h : a.grownBy b row) (k : b.grownBy c row) : a.grownBy c row :=
  ⟨k.os.trans h.os, k.tape.trans h.tape, k.output.trans h.output, Nat.le_trans h.size k.size, fun i hi hn => (k.block i (Nat.lt_of_lt_of_le hi h.size) hn).trans (h.block i hi hn)⟩

set_option maxHeartbeats 400000 in
theorem has_any (g h k : Nat) (bs : List Nat) (w : World) (hF : FAt w g h bs) (hk : k < 8 * bs.length) :
    Calls Try.prog 48 #[.pointer (some ⟨g, 0, none⟩), .int .u64 (k : Int)] w fun e w' => e = .returned (.bool (gb bs k)) ∧ w = w' := by
  obtain ⟨cap, hc⟩ := hF.cell
  have hb := hF.byte (i := k / 8) (by omega)
  have hb2 := hF.byt.getD (k / 8)
  have hk8 : k / 8 < bs.length := by omega
  have hn := hF.hi
  have hr := gb_walk (bs.getD (k / 8) 0) k hb2
  have hg : (bs.getD (k / 8) 0).testBit (k % 8) = gb bs k := rfl
  rw [hg] at hr
  generalize gb bs k = r at *
  generalize bs.getD (k / 8) 0 = b at *
  generalize bs.length = n at *
  clear hF hg
  go_enter Try.func48, Try.ntmps48
  go_wp2
  go_ret
  exact ⟨by rfl, rfl⟩

set_option maxHeartbeats 400000 in
theorem set_yes (g h k : Nat) (bs : List Nat) (w : World) (hF : FAt w g h bs) (hk : k < 8 * bs.length) (hy : gb bs k = true) :
    Calls Try.prog 47 #[.pointer (some ⟨g, 0, none⟩), .int .u64 (k : Int)] w fun e w' => e = .returned (.bool false) ∧ w = w' := by
  have c := has_any g h k bs w hF hk
  rw [hy] at c
  go_enter Try.func47, Try.ntmps47
  go_wp2_with (go_at_call 48; refine c.mono ?_; rintro e w' ⟨rfl, rfl⟩)
  go_ret
  exact ⟨rfl, rfl⟩

set_option maxHeartbeats 400000 in
theorem set_no (g h k : Nat) (bs : List Nat) (w : World) (hF : FAt w g h bs) (hk : k < 8 * bs.length) (hy : gb bs k = false) :
    Calls Try.prog 47 #[.pointer (some ⟨g, 0, none⟩), .int .u64 (k : Int)] w fun e w' => e = .returned (.bool true) ∧ FAt w' g h (sb bs k) ∧ w.grownBy w' (some h) := by
  have c := Lib.hid (has_any g h k bs w hF hk)
  rw [hy] at c
  have fin := hF.sb k (by omega)
  have hgr := grownBy_setCell w h (k / 8) (.int .u8 ((bs.getD (k / 8) 0 ||| 2 ^ (k % 8) : Nat) : Int))
  obtain ⟨cap, hc⟩ := hF.cell
  have hb := hF.byte (i := k / 8) (by omega)
  have hf := hF.frozen (k / 8)
  have hb2 := hF.byt.getD (k / 8)
  have hk8 : k / 8 < bs.length := by omega
  have hn := hF.hi
  have hw := sb_walk (bs.getD (k / 8) 0) k hb2
  have Fin := Lib.hid fin
  have Gr := Lib.hid hgr
  clear fin hgr hF hy
  generalize bs.getD (k / 8) 0 ||| 2 ^ (k % 8) = b' at *
  generalize bs.getD (k / 8) 0 = b at *
  generalize sb bs k = bs' at *
  generalize bs.length = n at *
  go_enter Try.func47, Try.ntmps47
  go_wp2_with (go_at_call 48; refine c.out.mono ?_; rintro e w' ⟨rfl, rfl⟩)
  go_ret
  exact ⟨rfl, Fin.out, Gr.out⟩

set_option maxHeartbeats 400000 in
theorem size_any (g h : Nat) (bs : List Nat) (w : World) (hF : FAt w g h bs) :
    Calls Try.prog 46 #[.pointer (some ⟨g, 0, none⟩)] w fun e w' => e = .returned (.int .i64 ((8 * bs.length : Nat) : Int)) ∧ w = w' := by
  obtain ⟨cap, hc⟩ := hF.cell
  have hn := hF.hi
  generalize bs.length = n at *
  go_enter Try.func46, Try.ntmps46
  go_wp2
  go_ret
  exact ⟨by simp, rfl⟩

set_option maxHeartbeats 400000 in
theorem none_any (g h : Nat) (bs : List Nat) (w : World) (hF : FAt w g h bs) :
    Calls Try.prog 44 #[.pointer (some ⟨g, 0, none⟩)] w fun e w' => e = .returned (.bool false) ∧ w = w' := by
  obtain ⟨cap, hc⟩ := hF.cell
  have hn := hF.hi
  have hn8 := hF.lo
  have h0 : ((bs.length : Int) == 0) = false := beq_eq_false_iff_ne.2 (by omega)
  generalize bs.length = n at *
  go_enter Try.func44, Try.ntmps44
  go_wp2
  go_ret
  exact ⟨rfl, rfl⟩

theorem pls_walk (l : List UInt8) (m : Nat) :
    Ending.returned (.agg #[.int .u64 ((fir l : Int) % m), .int .u64 (((fir l : Int) + (sec l : Int)) % m), .int .u64 (((fir l : Int) + 2 * (sec l : Int)) % m), .int .u64 (((fir l : Int) + 3 * (sec l : Int)) % m)]) =
    Ending.returned (.agg #[.int .u64 (pl l m 0 : Nat), .int .u64 (pl l m 1 : Nat), .int .u64 (pl l m 2 : Nat), .int .u64 (pl l m 3 : Nat)]) := by
  unfold pl
  simp
set_option maxHeartbeats 800000 in
theorem places_any (s : ByteArray) (m : Nat) (hm0 : 0 < m) (hm : m ≤ 1048576) (hs : s.size ≤ 140737488351232) (w : World) :
    Calls Try.prog 45 #[.string s, .int .i64 (m : Int)] w fun e w' =>
      e = .returned (.agg #[.int .u64 (pl s.data.toList m 0 : Nat), .int .u64 (pl s.data.toList m 1 : Nat), .int .u64 (pl s.data.toList m 2 : Nat), .int .u64 (pl s.data.toList m 3 : Nat)]) ∧ Below w.heap.size w w' := by
  obtain ⟨cap, C, fr, hconv, hC⟩ := bytes_conv (P := Try.prog) 9 32 5 s Try.underlying9 Try.underlying32 Try.underlying5
  go_enter Try.func45, Try.ntmps45
  go_wp2
  go_loopw [5, 15] (fun n i wr => ∃ k : Nat, k ≤ s.size ∧ i = .int .i64 k ∧ n = .int .u64 (fnv (s.data.toList.take k) : Nat) ∧ Below w.heap.size w wr ∧ (∀ j (h : j < s.size), wr.cell? ⟨w.heap.size + 1, j, none⟩ = some (.int .u8 ((s[j]).toNat : Int))) ∧
     Blk wr w.heap.size 68 #[.int .u64 0, .int .u64 0, .int .u64 0, .int .u64 0])
    (fun _ i _ => s.size - (intOf i).toNat)
  case atStart =>
    refine ⟨0, Nat.zero_le _, rfl, fnv_start, ((Below.refl _ _).alloc (Nat.le_refl _) _).alloc (by simp) _ |>.drew, ?_, ?_⟩
    · intro j hj
      exact (cell_new2 _ _ _ _ _ j).trans (hC _ j hj)
    · exact ((Blk.new w _ _).alloc _).drew
  case round =>
    obtain ⟨k, hk, rfl, rfl, hb, hcl, hz⟩ := hrel
    by_cases hlt : k < s.size
    · have hcx := hcl k hlt
      have hu := (s[k]).toNat_lt
      have hw := fnv_walk (fnv (s.data.toList.take k)) s[k] (fnv_lt _)
      have hn := fnv_snoc s k hlt
      rw [← hn] at hw
      have Hcl := Lib.hid hcl
      have Hb := Lib.hid hb
      have Hz := Lib.hid hz
      clear hcl hn hb hz hC
      go_wp2
      go_roundw
      case rel => exact ⟨k + 1, by omega, by go_num, by first | rfl | rw [hw], Hb.out, Hcl.out, Hz.out⟩
      case measure => simp [intOf]; omega
    · obtain rfl : k = s.size := by omega
      have hA := fir_walk (s.data.toList)
      have hB := sec_walk (s.data.toList)
      have ha := fir_lt (s.data.toList)
      have hbb := sec_lt (s.data.toList)
      have htk : s.data.toList.take s.size = s.data.toList := List.take_of_length_le (Nat.le_of_eq (by rw [Array.length_toList]; rfl))
      rw [htk]
      have Fin := Lib.hid (pls_walk s.data.toList m)
      have Hb := Lib.hid hb
      have Hz := Lib.hid hz
      have c0 := hz.cell 0
      have c1 := hz.cell 1
      have c2 := hz.cell 2
      have c3 := hz.cell 3
      have f0 := hz.frozen 0
      have f1 := hz.frozen 1
      have f2 := hz.frozen 2
      have f3 := hz.frozen 3
      have hsz : w.heap.size < wr.heap.size := hz.lt
      clear hcl hC hb hz htk
      generalize fir s.data.toList = a at *
      generalize sec s.data.toList = b at *
      generalize fnv s.data.toList = f at *
      go_wp2
      go_rounds 5
      have hq := ((((Hz.out.set_ 0 (.int .u64 ((a : Int) % m))).set_ 1 (.int .u64 (((a : Int) + b) % m))).set_ 2 (.int .u64 (((a : Int) + 2 * b) % m))).set_ 3 (.int .u64 (((a : Int) + 3 * b) % m))).alloc
        (.cells #[.int .u64 ((a : Int) % m), .int .u64 (((a : Int) + b) % m), .int .u64 (((a : Int) + 2 * b) % m), .int .u64 (((a : Int) + 3 * b) % m)] 68)
      have hbel : Below w.heap.size w _ := ((((Hb.out.setCell (p := ⟨w.heap.size, 0, none⟩) (Nat.le_refl _) (.int .u64 ((a : Int) % m))).setCell (p := ⟨w.heap.size, 1, none⟩) (Nat.le_refl _) (.int .u64 (((a : Int) + b) % m))).setCell (p := ⟨w.heap.size, 2, none⟩) (Nat.le_refl _) (.int .u64 (((a : Int) + 2 * b) % m))).setCell (p := ⟨w.heap.size, 3, none⟩) (Nat.le_refl _) (.int .u64 (((a : Int) + 3 * b) % m))).alloc
        (by simp [World.setCell]; omega) (.cells #[.int .u64 ((a : Int) % m), .int .u64 (((a : Int) + b) % m), .int .u64 (((a : Int) + 2 * b) % m), .int .u64 (((a : Int) + 3 * b) % m)] 68)
      have q0 := hq.cell 0
      have q1 := hq.cell 1
      have q2 := hq.cell 2
      have q3 := hq.cell 3
      simp at q0 q1 q2 q3
      refine bodyPost_ret (v := .agg #[.int .u64 ((a : Int) % m), .int .u64 (((a : Int) + b) % m), .int .u64 (((a : Int) + 2 * b) % m), .int .u64 (((a : Int) + 3 * b) % m)]) (by simp [results, Try.results45, go_sem, q0, q1, q2, q3]) rfl ⟨?_, hbel⟩
      exact Fin.out

/-- What a loop over four places leaves. -/
theorem pls_take (l : List UInt8) (m j : Nat) (hj : j < 4) : (pls l m).take (j + 1) = (pls l m).take j ++ [pl l m j] := by
  match j, hj with
  | 0, _ => rfl
  | 1, _ => rfl
  | 2, _ => rfl
  | 3, _ => rfl
theorem addK_snoc (x : List Nat × Nat) (ks : List Nat) (k : Nat) : addK x (ks ++ [k]) = step (addK x ks) k := by
  unfold addK; rw [List.foldl_append]; rfl
theorem addT_snoc (x : List Nat × Nat) (ts : List ByteArray) (s : ByteArray) : addT x (ts ++ [s]) = addK (addT x ts) (pls s.data.toList (8 * (addT x ts).1.length)) := by
  unfold addT; rw [List.foldl_append]; rfl

theorem idx_0 (a b c d : Value) (w : World) : (Instr.index 68 (.agg #[a, b, c, d]) (.int .i64 0)).run Try.prog w = .ok a w := by kernel_rfl
theorem idx_1 (a b c d : Value) (w : World) : (Instr.index 68 (.agg #[a, b, c, d]) (.int .i64 1)).run Try.prog w = .ok b w := by kernel_rfl
theorem idx_2 (a b c d : Value) (w : World) : (Instr.index 68 (.agg #[a, b, c, d]) (.int .i64 2)).run Try.prog w = .ok c w := by kernel_rfl
theorem idx_3 (a b c d : Value) (w : World) : (Instr.index 68 (.agg #[a, b, c, d]) (.int .i64 3)).run Try.prog w = .ok d w := by kernel_rfl
theorem idx4 (l : List UInt8) (m j : Nat) (hj : j < 4) (w : World) :
    (Instr.index 68 (.agg #[.int .u64 (pl l m 0 : Nat), .int .u64 (pl l m 1 : Nat), .int .u64 (pl l m 2 : Nat), .int .u64 (pl l m 3 : Nat)]) (.int .i64 (j : Int))).run Try.prog w = .ok (.int .u64 (pl l m j : Nat)) w := by
  match j, hj with
  | 0, _ => exact idx_0 _ _ _ _ w
  | 1, _ => exact idx_1 _ _ _ _ w
  | 2, _ => exact idx_2 _ _ _ _ w
  | 3, _ => exact idx_3 _ _ _ _ w

/-- What holds of a filter that is added to: after the terms ts, and some places ks of one more. -/
structure Adding (w wr : World) (g h : Nat) (x : List Nat × Nat) (n : Value) : Prop where
  at_ : FAt wr g h x.1
  gr : w.grownBy wr (some h)
  n_ : n = .int .i64 (x.2 : Int)
theorem Adding.below {w wr w2 : World} {g h : Nat} {x : List Nat × Nat} {n : Value} (a : Adding w wr g h x n) (hb : Below wr.heap.size wr w2) : Adding w w2 g h x n :=
  ⟨a.at_.keep hb, grownBy_trans a.gr (grownBy_of_below hb _), a.n_⟩

theorem Adding.yes {w wr : World} {g h k : Nat} {x : List Nat × Nat} {n : Value} (a : Adding w wr g h x n) (hy : gb x.1 k = true) : Adding w wr g h (step x k) (.int .i64 (x.2 : Int)) := by
  unfold step; rw [if_pos hy]; exact ⟨a.at_, a.gr, rfl⟩
theorem Adding.no {w wr w4 : World} {g h k : Nat} {x : List Nat × Nat} {n : Value} (a : Adding w wr g h x n) (hy : ¬ gb x.1 k = true) (hF : FAt w4 g h (Bl.sb x.1 k)) (hg : wr.grownBy w4 (some h)) : Adding w w4 g h (step x k) (.int .i64 ((x.2 : Int) + 1)) := by
  unfold step; rw [if_neg hy]; exact ⟨hF, grownBy_trans a.gr hg, by simp⟩

set_option maxHeartbeats 1600000 in
theorem add_any (g h : Nat) (bs : List Nat) (A : Option Addr) (nt c : Nat) (ts : List ByteArray) (w : World) (hF : FAt w g h bs) (hR : Reads w w.heap.size 1 A nt (ts.map Value.string))
    (hs : ∀ s ∈ ts, s.size ≤ 140737488351232) (hnt : nt ≤ 140737488351232) (hne : ∀ b o, A = some ⟨b, o, none⟩ → 0 < nt → b ≠ h) :
    Calls Try.prog 14 #[.pointer (some ⟨g, 0, none⟩), .slice A nt c] w fun e w' =>
      e = .returned (.int .i64 ((addT (bs, 0) ts).2 : Nat)) ∧ FAt w' g h (addT (bs, 0) ts).1 ∧ w.grownBy w' (some h) := by
  have hlen : ts.length = nt := by have := hR.1; simpa using this
  have HR := Lib.hid hR
  have Hs := Lib.hid hs
  have Hl := Lib.hid hlen
  have c0 := none_any g h bs w hF
  have A0 : Adding w w g h (addT (bs, 0) (ts.take 0)) (.int .i64 0) := ⟨hF, World.grownBy.refl _ _, rfl⟩
  have A0' := Lib.hid A0
  have hle : ∀ k, (addT (bs, 0) (ts.take k)).2 ≤ 4 * nt := fun k => by
    have h1 := addT_n_le (ts.take k) (bs, 0)
    have h2 : (ts.take k).length ≤ ts.length := by simp; omega
    have h3 : ((bs, 0) : List Nat × Nat).2 = 0 := rfl
    omega
  have Hle := Lib.hid hle
  have Hne := Lib.hid hne
  clear hR hs hlen A0 hle hne
  go_enter Try.func14, Try.ntmps14
  go_wp2_with (go_at_call 44; refine c0.mono ?_; rintro e w' ⟨rfl, rfl⟩)
  go_loopw [5, 14] (fun n i wr => ∃ k : Nat, k ≤ nt ∧ i = .int .i64 k ∧ Adding w wr g h (addT (bs, 0) (ts.take k)) n)
    (fun _ i _ => nt - (intOf i).toNat)
  case atStart => exact ⟨0, Nat.zero_le _, rfl, A0'.out⟩
  case round =>
    obtain ⟨k, hk, rfl, hadd⟩ := hrel
    by_cases hlt : k < nt
    · obtain ⟨ab, ao, hkl, rfl, hab, hcw⟩ := HR.out.at_map hlt
      have hcx : wr.cell? ⟨ab, ao + k, none⟩ = some (.string ts[k]) := (World.cell?_of_block (hadd.gr.block ab hab (by
        intro e
        exact Hne.out _ _ rfl (by omega) (Option.some.inj e)))).trans hcw
      have hts : ts.take (k + 1) = ts.take k ++ [ts[k]] := by rw [List.take_succ_eq_append_getElem hkl]
      have hnext : addT (bs, 0) (ts.take (k + 1)) = addK (addT (bs, 0) (ts.take k)) (pls ts[k].data.toList (8 * (addT (bs, 0) (ts.take k)).1.length)) := by rw [hts, addT_snoc]
      have Hn := Lib.hid hnext
      have hsk : ts[k].size ≤ 140737488351232 := Hs.out _ (List.getElem_mem hkl)
      have hlek := Hle.out (k + 1)
      have hx2 : (addT (bs, 0) (ts.take k)).2 ≤ 4 * nt := Hle.out k
      rw [hnext] at hlek
      clear hnext hts hcw
      generalize ts[k] = t at *
      clear hkl
      generalize addT (bs, 0) (ts.take k) = x at *
      have hlo := hadd.at_.lo
      have hhi := hadd.at_.hi
      have c1 := size_any g h x.1 wr hadd.at_
      have c2 := places_any t (8 * x.1.length) (by omega) (by omega) hsk wr
      have Had := Lib.hid hadd
      have hn := hadd.n_
      clear hadd
      obtain rfl := hn
      go_wp2_with (first
        | (go_at_call 46; refine c1.mono ?_; rintro e w' ⟨rfl, rfl⟩)
        | (go_at_call 45; refine c2.mono ?_; rintro e w2 ⟨rfl, hb2⟩))
      have Ad2 := Lib.hid (Had.out.below hb2)
      have hpl := pls_lt t.data.toList (8 * x.1.length) (by omega)
      have hnle : ∀ j, (addK x ((pls t.data.toList (8 * x.1.length)).take j)).2 ≤ x.2 + 4 := fun j => by
        have h1 := addK_n_le ((pls t.data.toList (8 * x.1.length)).take j) x
        have h2 : ((pls t.data.toList (8 * x.1.length)).take j).length ≤ 4 := by rw [List.length_take]; exact Nat.min_le_right _ _
        omega
      have Hpl := Lib.hid hpl
      have Hnle := Lib.hid hnle
      clear hpl hnle
      go_loopw [5, 24] (fun n i wi => ∃ j : Nat, j ≤ 4 ∧ i = .int .i64 j ∧ Adding w wi g h (addK x ((pls t.data.toList (8 * x.1.length)).take j)) n)
        (fun _ i _ => 4 - (intOf i).toNat)
      case atStart => exact ⟨0, Nat.zero_le _, rfl, Ad2.out⟩
      case round =>
        obtain ⟨j, hj, rfl, hadd⟩ := hrel
        by_cases hj4 : j < 4
        · have hpj : pl t.data.toList (8 * x.1.length) j < 8 * (addK x ((pls t.data.toList (8 * x.1.length)).take j)).1.length := by
            rw [addK_len]; exact pl_lt _ _ _ (by omega)
          have hst := addK_snoc x ((pls t.data.toList (8 * x.1.length)).take j) (pl t.data.toList (8 * x.1.length) j)
          rw [← pls_take _ _ _ hj4] at hst
          have Hst := Lib.hid hst
          have hny := Hnle.out j
          clear hst
          have hix := idx4 t.data.toList (8 * x.1.length) j hj4
          generalize pl t.data.toList (8 * x.1.length) j = p at *
          generalize addK x ((pls t.data.toList (8 * x.1.length)).take j) = y at *
          have hn3 := hadd.n_
          by_cases hgb : gb y.1 p = true
          · have c3 := set_yes g h p y.1 wr hadd.at_ hpj hgb
            have Had3 := Lib.hid hadd
            have Hgb := Lib.hid hgb
            clear hadd hgb
            obtain rfl := hn3
            go_wp2_with (go_at_call 47; refine c3.mono ?_; rintro e w' ⟨rfl, rfl⟩)
            go_roundw
            case rel => exact ⟨j + 1, by omega, by go_num, by rw [Hst.out]; exact Had3.out.yes Hgb.out⟩
            case measure => simp [intOf]; omega
          · have c3 := set_no g h p y.1 wr hadd.at_ hpj (by simpa using hgb)
            have Had3 := Lib.hid hadd
            have Hgb := Lib.hid hgb
            clear hadd hgb
            obtain rfl := hn3
            go_wp2_with (go_at_call 47; refine c3.mono ?_; rintro e w4 ⟨rfl, hF4, hg4⟩)
            go_roundw
            case rel => exact ⟨j + 1, by omega, by go_num, by rw [Hst.out]; exact Had3.out.no Hgb.out hF4 hg4⟩
            case measure => simp [intOf]; omega
        · obtain rfl : j = 4 := by omega
          have Had5 := Lib.hid hadd
          have hn5 := hadd.n_
          have ht4 : (pls t.data.toList (8 * x.1.length)).take 4 = pls t.data.toList (8 * x.1.length) := rfl
          rw [ht4] at hn5
          clear hadd ht4
          obtain rfl := hn5
          go_wp2
          go_roundw
          case rel => exact ⟨k + 1, by omega, by go_num, by rw [Hn.out]; exact Had5.out⟩
          case measure => simp [intOf]; omega
    · obtain rfl : k = nt := by omega
      have hn := hadd.n_
      have Had5 := Lib.hid hadd
      clear hadd
      obtain rfl := hn
      go_wp2
      go_ret
      have e : ts.take k = ts := List.take_of_length_le (by rw [Hl.out]; exact Nat.le_refl _)
      have r := Had5.out
      rw [e] at r
      exact ⟨by rw [e]; rfl, r.at_, r.gr⟩
end Go.Proofs.Ytambdddahbgelaa.Bl
