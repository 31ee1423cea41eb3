/- token.Phrase: the walk. -/
import Derived.Deep.DeepCutAuto
import Derived.Outline
import Derived.Test.YtjeahdnbpiahaaaGreatPkGroupCountsRow3
import Derived.Test.YtjeahdnbpiahaaaGreatPkGroupCountsRow11
namespace Go.Proofs.YtjeahdnbpiahaaaGreat.Qy
open Go.RowKit Go.Proofs.YtjeahdnbpiahaaaGreat Go.Proofs.YtjeahdnbpiahaaaGreat.Ut Go.Proofs.YtjeahdnbpiahaaaGreat.Tk
set_option maxRecDepth 20000

/-- Integers of the call's own. -/
def nv (l : List Nat) : List Value := l.map fun n : Nat => Value.int .i64 (n : Int)
theorem nv_snoc (l : List Nat) (n : Nat) : nv (l ++ [n]) = nv l ++ [.int .i64 (n : Int)] := by simp [nv]
structure Ints (w wr : World) (v : Value) (l : List Nat) : Prop where
  own : wr.ownsRow w.heap.size 3 1 v l.length (nv l)
  bel : Below w.heap.size w wr
theorem Ints.below {w wr w2 : World} {v : Value} {l : List Nat} (h : Ints w wr v l) (hb : Below wr.heap.size wr w2) : Ints w w2 v l :=
  ⟨h.own.kept (grow_of_below hb none) (by cases hv : v.ownBlock <;> simp), h.bel.trans (hb.mono h.bel.size)⟩
theorem Ints.put {w wr w2 : World} {v v' : Value} {l : List Nat} {n : Nat} (h : Ints w wr v l) (hp : w2.ownsRow w.heap.size 3 1 v' (l.length + 1) (nv l ++ [.int .i64 (n : Int)])) (hg : wr.grownBy w2 v.ownBlock) : Ints w w2 v' (l ++ [n]) := by
  refine ⟨?_, h.bel.grown hg h.bel.size (fun k hk => (h.own.lt k hk).1)⟩
  rw [nv_snoc, List.length_append]
  exact hp
theorem Ints.start (w : World) : Ints w w (.slice none 0 0) [] := ⟨World.ownsRow_nil _ _ _ _, Below.refl _ _⟩
def IntPost (w : World) (l : List Nat) (e : Ending) (w' : World) : Prop := ∃ v, e = .returned v ∧ Ints w w' v l

set_option maxHeartbeats 400000 in
theorem behind_any (k j : Nat) (h : k + j < 4611686018427387904) (w : World) : Calls Tryz.prog 100 #[.int .i64 (k : Int), .int .i64 ((k + j : Nat) : Int), .int .i64 (j : Int)] w fun e w' => e = .returned (.bool true) ∧ w = w' := by
  have h1 : (k : Int) ≤ ((k + j : Nat) : Int) := by omega
  have h0 : (0 : Int) ≤ (k : Int) := by omega
  have h2 : (0 : Int) ≤ (j : Int) := by omega
  have h3 : ((k + j : Nat) : Int) - (k : Int) = (j : Int) := by omega
  have h4 : ((k + j : Nat) : Int) < 4611686018427387904 := by omega
  have h5 : (j : Int) < 4611686018427387904 := by omega
  have h6 : (k : Int) < 4611686018427387904 := by omega
  generalize ((k + j : Nat) : Int) = a at *
  generalize (k : Int) = b at *
  generalize (j : Int) = c at *
  go_enter Tryz.func100, Tryz.ntmps100
  go_wp2
  go_ret
  exact ⟨by simp, rfl⟩

set_option maxHeartbeats 1600000 in
theorem phrase_any (TA : Option Addr) (n tc : Nat) (T : List (List UInt8)) (WA : Option Addr) (m wc : Nat) (ws : List ByteArray) (w : World) (hT : Reads w w.heap.size 2 TA n (tokC (placed T))) (hn : T.length = n) (hn2 : n ≤ 1048576)
    (hW : Reads w w.heap.size 1 WA m (ws.map Value.string)) (hm : ws.length = m) (hm2 : m ≤ 8796093021952) :
    Calls Tryz.prog 75 #[.slice TA n tc, .slice WA m wc] w (IntPost w (phr T ws)) := by
  obtain ⟨i0, hi0, hz0, hz1, hz2⟩ := info_parts int_info2
  have HT := Lib.hid hT
  have HW := Lib.hid hW
  clear hT hW
  by_cases h0 : m = 0
  · have hws : ws = [] := List.length_eq_zero_iff.1 (by omega)
    have Fin : Hid (phr T ws = []) := Lib.hid (by unfold phr; rw [if_pos hws])
    have h0' : ((m : Int) == 0) = true := by rw [beq_iff_eq]; omega
    clear h0 hws hm
    go_enter Tryz.func75, Tryz.ntmps75
    go_wp2_with fail
    go_step3
    go_wp2
    rw [Exit.noGoto_ret]
    go_ret
    exact ⟨_, rfl, by rw [Fin.out]; exact Ints.start w⟩
  · have hws : ws ≠ [] := fun e => h0 (by rw [← hm, e]; rfl)
    have Fin : Hid (phr T ws = phrTo T ws n) := Lib.hid (by unfold phr; rw [if_neg hws, hn])
    have h0' : ((m : Int) == 0) = false := by rw [beq_eq_false_iff_ne]; omega
    have Hn := Lib.hid hn
    have Hm := Lib.hid hm
    clear h0 hws hm hn
    go_enter Tryz.func75, Tryz.ntmps75
    go_wp2_with fail
    go_step3
    go_wp2_with fail
    go_step3
    go_wp2_with fail
    go_loopw [5, 16] (fun v i wr => ∃ k : Nat, k ≤ n ∧ i = .int .i64 k ∧ Ints w wr v (phrTo T ws k)) (fun _ i _ => n - (intOf i).toNat)
    case atStart => exact ⟨0, Nat.zero_le _, rfl, Ints.start w⟩
    case round =>
      obtain ⟨k, hk, rfl, hI⟩ := hrel
      by_cases hlt : k < n
      · obtain ⟨tb, tq, rfl, htb, hc1, hc2⟩ := toks_at HT.out Hn.out (k := k) (by rw [Hn.out]; exact hlt)
        have hd1 := (hI.bel.cell (p := ⟨tb, tq + k * 2, none⟩) htb).trans hc1
        have hd2 := (hI.bel.cell (p := ⟨tb, tq + k * 2 + 1, none⟩) htb).trans hc2
        have HI := Lib.hid hI
        have hz := hI.bel.size
        have hpl := phrTo_len T ws k
        clear hI hc1 hc2
        by_cases hs : n - k < m
        · have hs' : (n : Int) - (k : Int) < (m : Int) := by omega
          have Fin2 : Hid (phrTo T ws n = phrTo T ws k) := Lib.hid (phrTo_short T ws k (by rw [Hn.out, Hm.out]; exact hs) n (by omega))
          have HI2 := Lib.hid (HI.out.below ((Below.refl _ _).alloc (Nat.le_refl _) (.cells #[.string (str (T[k]'(by rw [Hn.out]; exact hlt))), .int .i64 (k : Int)] 81)))
          generalize (str (T[k]'(by rw [Hn.out]; exact hlt))) = tk at *
          clear hs
          go_wp2
          rw [Exit.noGoto_ret]
          go_ret
          exact ⟨_, rfl, by rw [Fin.out, Fin2.out]; exact HI2.out⟩
        · have hs' : (m : Int) ≤ (n : Int) - (k : Int) := by omega
          have HB7 := Lib.hid ((Blk.new wr 81 #[.string (str (T[k]'(by rw [Hn.out]; exact hlt))), .int .i64 (k : Int)]))
          generalize (str (T[k]'(by rw [Hn.out]; exact hlt))) = tk at *
          obtain ⟨wo, rfl⟩ : ∃ wo : World, wo = wr := ⟨_, rfl⟩
          have hmn : m ≤ n - k := by omega
          clear hs
          go_wp2_with fail
          go_loopw [30] (fun i wq => ∃ j : Nat, j ≤ m ∧ i = .int .i64 j ∧ standsTo T ws k j = true ∧ Below (wo.alloc (.cells #[.string tk, .int .i64 (k : Int)] 81)).heap.size (wo.alloc (.cells #[.string tk, .int .i64 (k : Int)] 81)) wq) (fun i _ => m - (intOf i).toNat)
          case atStart => exact ⟨0, Nat.zero_le _, rfl, standsTo_zero _ _ _, Below.refl _ _⟩
          case round =>
            obtain ⟨j, hj, rfl, hst, hbq⟩ := hrel
            have HIq := Lib.hid ((HI.out.below ((Below.refl _ _).alloc (Nat.le_refl _) (.cells #[.string tk, .int .i64 (k : Int)] 81))).below hbq)
            have h7 := HB7.out.below hbq (by simp)
            have h7a := h7.cell 0
            have h7b := h7.cell 1
            simp at h7a h7b
            have Hbq := Lib.hid hbq
            have Hst := Lib.hid hst
            have hzq := hbq.size
            simp at hzq
            clear h7 hbq hst
            by_cases hjm : j < m
            · obtain ⟨xb, xo, e1, hxb, hx1, hx2⟩ := toks_at HT.out Hn.out (k := k + j) (by rw [Hn.out]; omega)
              injection e1 with e1
              injection e1 with e1 e2
              subst e1 e2
              obtain ⟨ab, ao, hkl, rfl, hab, hcw⟩ := HW.out.at_map hjm
              have hbw := HIq.out.bel
              have hy1 := (hbw.cell (p := ⟨tb, tq + (k + j) * 2, none⟩) htb).trans hx1
              have hy2 := (hbw.cell (p := ⟨tb, tq + (k + j) * 2 + 1, none⟩) htb).trans hx2
              have hyw := (hbw.cell (p := ⟨ab, ao + j, none⟩) hab).trans hcw
              have hss := standsTo_succ T ws k j (by rw [Hn.out]; omega) (by rw [Hm.out]; omega)
              have hbe := str_beq (T[k + j]'(by rw [Hn.out]; omega)) ws[j]
              rw [Hst.out, Bool.true_and, ← hbe] at hss
              have Hss := Lib.hid hss
              have hi0 : (0 : Int) ≤ (k : Int) + (j : Int) := by omega
              have hi1 : (k : Int) + (j : Int) < (n : Int) := by omega
              have hi2 : ((k : Int) + (j : Int)).toNat = k + j := by omega
              have Hno : Hid (standsTo T ws k (j + 1) = false → phrTo T ws (k + 1) = phrTo T ws k) := Lib.hid (fun e => by
                rw [phrTo_succ, standsTo_no T ws k (j + 1) (by rw [Hm.out]; omega) e]; simp)
              clear hbw hx1 hx2 hcw hss hbe
              generalize (str (T[k + j]'(by rw [Hn.out]; omega))) = x at *
              generalize ws[j] = y at *
              by_cases hxy : (x.toList == y.toList) = true
              · have hxy' : (x.toList != y.toList) = false := by rw [bne, hxy]; rfl
                have Hs2 : Hid (standsTo T ws k (j + 1) = true) := Lib.hid (by rw [Hss.out, hxy])
                have c1 := fun wx => behind_any k j (by omega) wx
                have h7c := fun o => (World.cell?_alloc_lt wr o ⟨wo.heap.size, 1, none⟩ (by show wo.heap.size < _; omega)).trans h7b
                have hbx := Hbq.out.alloc Hbq.out.size (.cells #[.string x, .int .i64 ((k + j : Nat) : Int)] 81)
                have Hbx := Lib.hid hbx
                have C1 := Lib.hid c1
                clear hbx c1
                have e1 : ((k + j : Nat) : Int) = (k : Int) + (j : Int) := by omega
                rw [e1] at C1
                have E1 := Lib.hid e1
                clear e1
                go_wp2_with (go_at_call 100; refine (C1.out _).mono ?_; rintro e w' ⟨rfl, rfl⟩)
                go_roundw
                case rel => exact ⟨j + 1, by omega, by go_num, Hs2.out, Hbx.out⟩
                case measure => simp [intOf]; omega
              · have hxy' : (x.toList != y.toList) = true := by rw [bne, Bool.eq_false_iff.2 hxy]; rfl
                have Hs2 := Lib.hid (Hno.out (by rw [Hss.out]; exact Bool.eq_false_iff.2 hxy))
                have hxf : (x.toList == y.toList) = false := Bool.eq_false_iff.2 hxy
                have HIx := Lib.hid (HIq.out.below ((Below.refl _ _).alloc (Nat.le_refl _) (.cells #[.string x, .int .i64 ((k + j : Nat) : Int)] 81)))
                clear hxy
                go_wp2
                go_roundw
                case rel => exact ⟨k + 1, by omega, by go_num, by rw [Hs2.out]; exact HIx.out⟩
                case measure => simp [intOf]; omega
            · obtain rfl : j = m := by omega
              have hst2 := Hst.out
              have hmm := Hm.out
              subst hmm
              rw [standsTo_all] at hst2
              have Hph : Hid (phrTo T ws (k + 1) = phrTo T ws k ++ [k]) := Lib.hid (by rw [phrTo_succ, hst2]; rfl)
              have hown := HIq.out.own
              have hbsz := HIq.out.bel.size
              clear hst2
              generalize phrTo T ws k = P at *
              go_wp2_with (at_builtin; refine wpList_append_own _ rfl _ _ 92 rfl w.heap.size 3 i0 _ 1 8 Tryz.underlying92 hi0 hz0 hz1 hz2 rfl (by decide) _ _ _ rfl (hown.alloc _) ⟨wr.heap.size, 0, none⟩ 1 1 [.int .i64 (k : Int)] rfl rfl ?d1 ?d2 ?d3 ?d4 ?d5 ?_)
              case d2 => first | rfl | (intro u hu; simp at hu; subst hu; rfl)
              case d3 => unfold maxLen; omega
              case d4 => omega
              case d5 => first | omega | (simp; omega)
              intro v' w5 hown5 hg5 _
              have HI5 := Lib.hid ((HIq.out.below ((Below.refl _ _).alloc (Nat.le_refl _) _)).put hown5 hg5)
              clear hown5 hg5 hown
              go_wp2
              go_roundw
              case rel => exact ⟨k + 1, by omega, by go_num, by rw [Hph.out]; exact HI5.out⟩
              case measure => simp [intOf]; omega
      · obtain rfl : k = n := by omega
        have HI := Lib.hid hI
        clear hI
        go_wp2
        rw [Exit.noGoto_ret]
        go_ret
        exact ⟨_, rfl, by rw [Fin.out]; exact HI.out⟩
end Go.Proofs.YtjeahdnbpiahaaaGreat.Qy
