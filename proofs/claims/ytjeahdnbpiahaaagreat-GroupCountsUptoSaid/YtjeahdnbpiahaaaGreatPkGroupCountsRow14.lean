/- The document's Phrase: the walk. -/
import Derived.Deep.QuietTactic
import Derived.BigQuiet
import Derived.Test.YtjeahdnbpiahaaaGreatPhrAPk
import Derived.Test.YtjeahdnbpiahaaaGreatGrowPk
section
namespace Go.Proofs.YtjeahdnbpiahaaaGreat.Qy
open Go.RowKit Go.Proofs.YtjeahdnbpiahaaaGreat Go.Proofs.YtjeahdnbpiahaaaGreat.Ut Go.Proofs.YtjeahdnbpiahaaaGreat.Tk
set_option maxRecDepth 20000

theorem bool_eq {a b : Bool} (h : a = b) : Ending.returned (.bool a) = .returned (.bool b) := by rw [h]
set_option maxHeartbeats 3200000 in
theorem stand_ref (TA : Option Addr) (n tc : Nat) (T : List (List UInt8)) (WA : Option Addr) (m wc : Nat) (ws : List ByteArray) (k : Nat) (w : World) (hT : Reads w w.heap.size 2 TA n (tokC (placed T))) (hn : T.length = n) (hn2 : n ≤ 1048576)
    (hW : Reads w w.heap.size 1 WA m (ws.map Value.string)) (hm : ws.length = m) (hm2 : m ≤ 8796093021952) (hk : k < n) :
    Calls Tryz.prog 105 #[.slice TA n tc, .int .i64 (k : Int), .slice WA m wc] w fun e w' => e = .returned (.bool (stands T ws k)) ∧ Below w.heap.size w w' := by
  have HT := Lib.hid hT
  have HW := Lib.hid hW
  have Hn := Lib.hid hn
  have Hm := Lib.hid hm
  by_cases hs : n - k < m
  · have Fin := Lib.hid (stands_short T ws k (by rw [hn, hm]; exact hs))
    have hs' : (n : Int) - (k : Int) < (m : Int) := by omega
    clear hT hW hn hm hs
    go_enter Tryz.func105, Tryz.ntmps105
    go_wp2
    go_ret
    exact ⟨by rw [Fin.out]; rfl, Below.refl _ _⟩
  · have hs' : ¬ (n : Int) - (k : Int) < (m : Int) := by omega
    have hmn : m ≤ n - k := by omega
    clear hT hW hn hm hs
    go_enter Tryz.func105, Tryz.ntmps105
    go_wp2
    go_loopw [7] (fun i wr => ∃ j : Nat, j ≤ m ∧ i = .int .i64 j ∧ standsTo T ws k j = true ∧ Below w.heap.size w wr) (fun i _ => m - (intOf i).toNat)
    case atStart => exact ⟨0, Nat.zero_le _, rfl, standsTo_zero _ _ _, Below.refl _ _⟩
    case round =>
      obtain ⟨j, hj, rfl, hst, hb⟩ := hrel
      have Hb := Lib.hid hb
      have Hst := Lib.hid hst
      clear hst hb
      by_cases hjm : j < m
      · obtain ⟨tb, tq, rfl, htb, hx1, hx2⟩ := toks_at HT.out Hn.out (k := k + j) (by rw [Hn.out]; omega)
        obtain ⟨ab, ao, hkl, rfl, hab, hcw⟩ := HW.out.at_map hjm
        have hy1 := (Hb.out.cell (p := ⟨tb, tq + (k + j) * 2, none⟩) htb).trans hx1
        have hy2 := (Hb.out.cell (p := ⟨tb, tq + (k + j) * 2 + 1, none⟩) htb).trans hx2
        have hyw := (Hb.out.cell (p := ⟨ab, ao + j, none⟩) hab).trans hcw
        have hss := standsTo_succ T ws k j (by rw [Hn.out]; omega) (by rw [Hm.out]; omega)
        have hbe := str_beq (T[k + j]'(by rw [Hn.out]; omega)) ws[j]
        rw [Hst.out, Bool.true_and, ← hbe] at hss
        have Hss := Lib.hid hss
        have hi0 : (0 : Int) ≤ (k : Int) + (j : Int) := by omega
        have hi1 : (k : Int) + (j : Int) < (n : Int) := by omega
        have hi2 : ((k : Int) + (j : Int)).toNat = k + j := by omega
        have hi3 : IntKind.i64.wrap ((k : Int) + (j : Int)) = (k : Int) + (j : Int) := IntWalk.i64_in _ (by omega)
        have hj0 : (0 : Int) ≤ (j : Int) := by omega
        have hj1 : (j : Int) < (m : Int) := by omega
        have Hno : Hid (standsTo T ws k (j + 1) = false → stands T ws k = false) := Lib.hid (fun e => standsTo_no T ws k (j + 1) (by rw [Hm.out]; omega) e)
        clear hx1 hx2 hcw hss hbe
        have hprev : 0 < j → wr.cell? ⟨tb, tq + (k + j - 1) * 2 + 1, none⟩ = some (.int .i64 ((k + j - 1 : Nat) : Int)) := fun h0 => by
          obtain ⟨tb', tq', e1, htb', _, hx2⟩ := toks_at HT.out Hn.out (k := k + j - 1) (by rw [Hn.out]; omega)
          injection e1 with e1
          injection e1 with e1 e2
          subst e1 e2
          exact (Hb.out.cell (p := ⟨tb, tq + (k + j - 1) * 2 + 1, none⟩) htb).trans hx2
        generalize (str (T[k + j]'(by rw [Hn.out]; omega))) = x at *
        generalize ws[j] = y at *
        by_cases hxy : (x.toList == y.toList) = true
        · have hxy' : (x.toList != y.toList) = false := by rw [bne, hxy]; rfl
          have Hs2 : Hid (standsTo T ws k (j + 1) = true) := Lib.hid (by rw [Hss.out, hxy])
          by_cases h0 : 0 < j
          · have hp := hprev h0
            have e1 : ((k + j - 1 : Nat) : Int) = (k : Int) + (j : Int) - 1 := by omega
            have e2 : ((k : Int) + (j : Int) - 1).toNat = k + j - 1 := by omega
            have e3 : IntKind.i64.wrap ((k : Int) + (j : Int) - 1) = (k : Int) + (j : Int) - 1 := IntWalk.i64_in _ (by omega)
            have e4 : (0 : Int) ≤ (k : Int) + (j : Int) - 1 := by omega
            have e5 : (k : Int) + (j : Int) - 1 < (n : Int) := by omega
            have e6 : (((k : Int) + (j : Int) - 1) == 9223372036854775807) = false := by rw [beq_eq_false_iff_ne]; omega
            have e7 : IntKind.i64.wrap ((k : Int) + (j : Int) - 1 + 1) = (k : Int) + (j : Int) := by rw [show (k : Int) + (j : Int) - 1 + 1 = (k : Int) + (j : Int) from by omega]; exact hi3
            have h0' : decide (0 < j) = true := by simpa using h0
            rw [e1] at hp
            clear hprev e1
            go_wp2_with fail
            go_quiet (fail)
            have Hbx := Lib.hid (below_drewN Hb.out nq)
            go_wp2
            go_roundw
            case rel => exact ⟨j + 1, by omega, by go_num, Hs2.out, Hbx.out⟩
            case measure => simp [intOf]; omega
          · have h0' : decide ((0 : Int) < (j : Int)) = false := by simpa using h0
            clear hprev
            go_wp2_with fail
            go_quiet (fail)
            have Hbx := Lib.hid (below_drewN Hb.out nq)
            go_wp2
            go_roundw
            case rel => exact ⟨j + 1, by omega, by go_num, Hs2.out, Hbx.out⟩
            case measure => simp [intOf]; omega
        · have hxf : (x.toList == y.toList) = false := Bool.eq_false_iff.2 hxy
          have hxy' : (x.toList != y.toList) = true := by rw [bne, hxf]; rfl
          have Hs2 := Lib.hid (Hno.out (by rw [Hss.out]; exact hxf))
          clear hxy hprev
          go_wp2_with fail
          go_quiet (fail)
          have Hbx := Lib.hid (below_drewN Hb.out nq)
          go_wp2
          go_ret
          exact ⟨by rw [Hs2.out]; rfl, Hbx.out⟩
      · obtain rfl : j = m := by omega
        have hst2 := Hst.out
        have hmm := Hm.out
        subst hmm
        rw [standsTo_all] at hst2
        have Fin := Lib.hid hst2
        clear hst2 hjm
        go_wp2
        go_ret
        exact ⟨by rw [Fin.out]; rfl, Hb.out⟩
end Go.Proofs.YtjeahdnbpiahaaaGreat.Qy
end

section
/- The document's Phrase, Begins, Prefixed; token.Prefixed: the walks. -/
namespace Go.Proofs.YtjeahdnbpiahaaaGreat.Qy
open Go.RowKit Go.Proofs.YtjeahdnbpiahaaaGreat Go.Proofs.YtjeahdnbpiahaaaGreat.Ut Go.Proofs.YtjeahdnbpiahaaaGreat.Tk
set_option maxRecDepth 20000

set_option maxHeartbeats 1600000 in
theorem phrase_ref (TA : Option Addr) (n tc : Nat) (T : List (List UInt8)) (WA : Option Addr) (m wc : Nat) (ws : List ByteArray) (w : World) (hT : Reads w w.heap.size 2 TA n (tokC (placed T))) (hn : T.length = n) (hn2 : n ≤ 1048576)
    (hW : Reads w w.heap.size 1 WA m (ws.map Value.string)) (hm : ws.length = m) (hm2 : m ≤ 8796093021952) :
    Calls Tryz.prog 81 #[.slice TA n tc, .slice WA m wc] w (IntPost w (phr T ws)) := by
  obtain ⟨i0, hi0, hz0, hz1, hz2⟩ := info_parts int_info2
  have HT := Lib.hid hT
  have HW := Lib.hid hW
  clear hT hW
  by_cases h0 : m = 0
  · have hws : ws = [] := List.length_eq_zero_iff.1 (by omega)
    have Fin : Hid (phr T ws = []) := Lib.hid (by unfold phr; rw [if_pos hws])
    have h0' : ¬ (0 : Int) < (m : Int) := by omega
    have h0'' : ¬ 0 < m := by omega
    clear h0 hws hm
    go_enter Tryz.func81, Tryz.ntmps81
    go_wp2
    go_loopw [5, 6] (fun v i wr => v = .slice none 0 0 ∧ i = .int .i64 0 ∧ wr = w) (fun _ i _ => n - (intOf i).toNat)
    case atStart => exact ⟨rfl, rfl, rfl⟩
    case round =>
      obtain ⟨rfl, rfl, rfl⟩ := hrel
      by_cases hn0 : (0 : Int) < (n : Int)
      all_goals
        go_wp2
        go_ret
        exact ⟨_, rfl, by rw [Fin.out]; exact Ints.start _⟩
  · have hws : ws ≠ [] := fun e => h0 (by rw [← hm, e]; rfl)
    have Fin : Hid (phr T ws = phrTo T ws n) := Lib.hid (by unfold phr; rw [if_neg hws, hn])
    have h0' : (0 : Int) < (m : Int) := by omega
    have h0'' : 0 < m := by omega
    have Hn := Lib.hid hn
    have Hm := Lib.hid hm
    clear h0 hws hm hn
    go_enter Tryz.func81, Tryz.ntmps81
    go_wp2
    go_loopw [5, 6] (fun v i wr => ∃ k : Nat, k ≤ n ∧ i = .int .i64 k ∧ Ints w wr v (phrTo T ws k)) (fun _ i _ => n - (intOf i).toNat)
    case atStart => exact ⟨0, Nat.zero_le _, rfl, Ints.start w⟩
    case round =>
      obtain ⟨k, hk, rfl, hI⟩ := hrel
      by_cases hlt : k < n
      · obtain ⟨tb, tq, rfl, htb, hc1, hc2⟩ := toks_at HT.out Hn.out (k := k) (by rw [Hn.out]; exact hlt)
        have c1 := stand_ref (some ⟨tb, tq, none⟩) n tc T WA m wc ws k wr ((HT.out.below hI.bel).more hI.bel.size) Hn.out hn2 ((HW.out.below hI.bel).more hI.bel.size) Hm.out hm2 hlt
        have hd2 := (hI.bel.cell (p := ⟨tb, tq + k * 2 + 1, none⟩) htb).trans hc2
        have htb2 : tb < wr.heap.size := by have := hI.bel.size; omega
        have HI := Lib.hid hI
        have hpl := phrTo_len T ws k
        have Hph := Lib.hid (phrTo_succ T ws k)
        clear hI hc1 hc2
        by_cases hs : stands T ws k = true
        · rw [hs] at c1
          have Hph2 : Hid (phrTo T ws (k + 1) = phrTo T ws k ++ [k]) := Lib.hid (by rw [Hph.out, hs]; rfl)
          clear hs
          generalize phrTo T ws k = P at *
          go_wp2_with fail
          refine c1.mono ?_
          rintro e w2 ⟨rfl, hb2⟩
          have hI2 := HI.out.below hb2
          have hown := hI2.own
          have hbsz := hI2.bel.size
          have hd3 := (hb2.cell (p := ⟨tb, tq + k * 2 + 1, none⟩) htb2).trans hd2
          have HI2 := Lib.hid hI2
          clear hI2 c1 hb2
          go_wp2_with (at_builtin; refine wpList_append_own _ rfl _ _ 92 rfl w.heap.size 3 i0 _ 1 8 Tryz.underlying92 hi0 hz0 hz1 hz2 rfl (by decide) _ _ _ rfl (hown.alloc _) ⟨w2.heap.size, 0, none⟩ 1 1 [.int .i64 (k : Int)] rfl rfl ?d1 ?d2 ?d3 ?d4 ?d5 ?_)
          case d1 => exact World.news_of_block (cs := #[.int .i64 (k : Int)]) (t := 3) (fr := (0, 0)) (heap_alloc_new w2 _)
          case d2 => first | rfl | (intro u hu; simp at hu; subst hu; rfl)
          case d3 => unfold maxLen; omega
          case d4 => omega
          case d5 => first | omega | (simp; omega)
          intro v' w5 hown5 hg5 _
          have HI5 := Lib.hid ((HI2.out.below ((Below.refl _ _).alloc (Nat.le_refl _) _)).put hown5 hg5)
          clear hown5 hg5 hown
          go_wp2
          go_roundw
          case rel => exact ⟨k + 1, by omega, by go_num, by rw [Hph2.out]; exact HI5.out⟩
          case measure => simp [intOf]; omega
        · have hs' : stands T ws k = false := Bool.eq_false_iff.2 hs
          rw [hs'] at c1
          have Hph2 : Hid (phrTo T ws (k + 1) = phrTo T ws k) := Lib.hid (by rw [Hph.out, hs']; simp)
          clear hs hs'
          go_wp2_with fail
          refine c1.mono ?_
          rintro e w2 ⟨rfl, hb2⟩
          have HI2 := Lib.hid (HI.out.below hb2)
          clear c1 hb2
          go_wp2
          go_roundw
          case rel => exact ⟨k + 1, by omega, by go_num, by rw [Hph2.out]; exact HI2.out⟩
          case measure => simp [intOf]; omega
      · obtain rfl : k = n := by omega
        have HI := Lib.hid hI
        clear hI
        go_wp2
        go_ret
        exact ⟨_, rfl, by rw [Fin.out]; exact HI.out⟩

theorem isPrefix_take (p t : List UInt8) : p.isPrefixOf t = (decide (p.length ≤ t.length) && (t.take p.length == p)) := by
  rw [Bool.eq_iff_iff]
  simp only [List.isPrefixOf_iff_prefix, Bool.and_eq_true, decide_eq_true_eq, beq_iff_eq]
  constructor
  · rintro ⟨r, rfl⟩
    simp
  · rintro ⟨_, h⟩
    exact ⟨t.drop p.length, by have := List.take_append_drop p.length t; rw [h] at this; exact this⟩
set_option maxHeartbeats 400000 in
theorem begins_ref (x : List UInt8) (p : ByteArray) (w : World) (hx : x.length ≤ 1048576) :
    Calls Tryz.prog 106 #[.string (str x), .string p] w fun e w' => e = .returned (.bool (begins x p)) ∧ w = w' := by
  have hb : begins x p = (decide (p.size ≤ (str x).size) && ((str x).extract 0 p.size).toList == p.toList) := by
    unfold begins
    rw [isPrefix_take, tl, tl, Lib.extract_data, bsize, str_size, str_data]
    simp
  have HB := Lib.hid hb
  have hsz : (str x).size ≤ 1048576 := by rw [str_size]; exact hx
  clear hb
  generalize str x = s at *
  generalize begins x p = r at *
  by_cases hl : p.size ≤ s.size
  · have hl' : (p.size : Int) ≤ (s.size : Int) := by omega
    have HB2 : Hid (r = ((s.extract 0 p.size).toList == p.toList)) := Lib.hid (by rw [HB.out, decide_eq_true hl, Bool.true_and])
    go_enter Tryz.func106, Tryz.ntmps106
    go_wp2
    go_ret
    exact ⟨by rw [HB2.out]; rfl, rfl⟩
  · have hl' : ¬ (p.size : Int) ≤ (s.size : Int) := by omega
    have HB2 : Hid (r = false) := Lib.hid (by rw [HB.out, decide_eq_false hl, Bool.false_and])
    go_enter Tryz.func106, Tryz.ntmps106
    go_wp2
    go_ret
    exact ⟨by rw [HB2.out]; rfl, rfl⟩

set_option maxHeartbeats 400000 in
theorem prefixed_ref (TA : Option Addr) (n tc : Nat) (T : List (List UInt8)) (p : ByteArray) (w : World) (hT : Reads w w.heap.size 2 TA n (tokC (placed T))) (hn : T.length = n) (hn2 : n ≤ 1048576) (h32 : ∀ x ∈ T, x.length ≤ 1048576) :
    Calls Tryz.prog 82 #[.slice TA n tc, .string p] w fun e w' => e = .returned (.bool (T.any (begins · p))) ∧ w = w' := by
  have HT := Lib.hid hT
  have Hn := Lib.hid hn
  clear hT hn
  go_enter Tryz.func82, Tryz.ntmps82
  go_wp2
  go_loop [5] (fun i => ∃ k : Nat, k ≤ n ∧ i = .int .i64 k ∧ (T.take k).any (begins · p) = false) (fun i => n - (intOf i).toNat)
  case atStart => exact ⟨0, Nat.zero_le _, rfl, rfl⟩
  case round =>
    obtain ⟨k, hk, rfl, hal⟩ := hrel
    have Hal := Lib.hid hal
    clear hal
    by_cases hlt : k < n
    · obtain ⟨tb, tq, rfl, htb, hc1, hc2⟩ := toks_at HT.out Hn.out (k := k) (by rw [Hn.out]; exact hlt)
      have hkl : k < T.length := by rw [Hn.out]; exact hlt
      have hts : T.take (k + 1) = T.take k ++ [T[k]] := by rw [List.take_succ_eq_append_getElem hkl]
      have c1 := begins_ref T[k] p w (h32 _ (List.getElem_mem hkl))
      have hmem : T[k] ∈ T := List.getElem_mem hkl
      clear hc2
      by_cases hb : begins T[k] p = true
      · have Fin : Hid (T.any (begins · p) = true) := Lib.hid (List.any_eq_true.2 ⟨_, hmem, hb⟩)
        rw [hb] at c1
        clear hb hts hmem
        generalize str T[k] = x at *
        go_wp2_with fail
        refine c1.mono ?_
        rintro e w2 ⟨rfl, rfl⟩
        go_wp2
        go_ret
        exact ⟨by rw [Fin.out]; rfl, rfl⟩
      · have hb' : begins T[k] p = false := Bool.eq_false_iff.2 hb
        have Hnx : Hid ((T.take (k + 1)).any (begins · p) = false) := Lib.hid (by rw [hts, List.any_append, Hal.out]; simp [hb'])
        rw [hb'] at c1
        clear hb hb' hts hmem
        generalize str T[k] = x at *
        go_wp2_with fail
        refine c1.mono ?_
        rintro e w2 ⟨rfl, rfl⟩
        go_wp2
        go_round
        case rel => exact ⟨k + 1, by omega, by go_num, Hnx.out⟩
        case measure => simp [intOf]; omega
    · obtain rfl : k = n := by omega
      have Fin : Hid (T.any (begins · p) = false) := Lib.hid (by have := Hal.out; rwa [List.take_of_length_le (by rw [Hn.out]; exact Nat.le_refl _)] at this)
      go_wp2
      go_ret
      exact ⟨by rw [Fin.out]; rfl, rfl⟩

/-- The first place where something holds, or -1. -/
def idxF (p : Nat → Bool) (n : Nat) : Int := match (List.range n).find? p with | some i => (i : Int) | none => -1
theorem idxF_hit (p : Nat → Bool) (n k : Nat) (hk : k < n) (h : ∀ j, j < k → p j = false) (hp : p k = true) : idxF p n = (k : Int) := by
  unfold idxF
  have : (List.range n).find? p = some k := by
    rw [List.find?_range_eq_some]
    exact ⟨hp, by simpa using hk, fun j hj => by simp [h j hj]⟩
  rw [this]
theorem idxF_no (p : Nat → Bool) (n : Nat) (h : ∀ j, j < n → p j = false) : idxF p n = -1 := by
  unfold idxF
  have : (List.range n).find? p = none := by
    rw [List.find?_eq_none]
    intro j hj
    rw [h j (by simpa using hj)]
    decide
  rw [this]
theorem idxF_any (p : Nat → Bool) (n : Nat) : decide (0 ≤ idxF p n) = (List.range n).any p := by
  unfold idxF
  cases h : (List.range n).find? p with
  | none =>
    rw [List.find?_eq_none] at h
    symm
    simp only [Int.reduceNeg, Int.reduceLE, decide_false]
    rw [List.any_eq_false]
    exact h
  | some i =>
    have h1 := List.find?_some h
    have h2 := List.mem_of_find?_eq_some h
    have e : (List.range n).any p = true := List.any_eq_true.2 ⟨i, h2, h1⟩
    rw [e]
    simp
set_option maxHeartbeats 800000 in
theorem indexTok (TA : Option Addr) (n tc : Nat) (T : List (List UInt8)) (f : Nat) (lb : Array Value) (p : Nat → Bool) (w : World) (hcf : ∀ args wx, (callFunc f args).run Tryz.prog wx = .ok (.enter f args) wx) (hT : Reads w w.heap.size 2 TA n (tokC (placed T))) (hn : T.length = n) (hn2 : n ≤ 1048576)
    (hf : ∀ i (h : i < T.length) wx, Below w.heap.size w wx → Calls Tryz.prog f (#[.agg #[.string (str T[i]), .int .i64 (i : Int)]] ++ lb) wx fun e w' => e = .returned (.bool (p i)) ∧ Below wx.heap.size wx w') :
    Calls Tryz.prog 115 #[.slice TA n tc, .func (.func f) #[] lb] w fun e w' => e = .returned (.int .i64 (idxF p n)) ∧ Below w.heap.size w w' := by
  have HT := Lib.hid hT
  have Hn := Lib.hid hn
  have Hf := Lib.hid hf
  clear hT hn hf
  go_enter Tryz.func115, Tryz.ntmps115
  go_wp2
  go_loopw [8] (fun i wr => ∃ k : Nat, k ≤ n ∧ i = .int .i64 k ∧ (∀ j, j < k → p j = false) ∧ Below w.heap.size w wr) (fun i _ => n - (intOf i).toNat)
  case atStart => exact ⟨0, Nat.zero_le _, rfl, fun j hj => by omega, Below.refl _ _⟩
  case round =>
    obtain ⟨k, hk, rfl, hal, hb⟩ := hrel
    have Hal := Lib.hid hal
    have Hb := Lib.hid hb
    clear hal hb
    by_cases hlt : k < n
    · obtain ⟨tb, tq, rfl, htb, hc1, hc2⟩ := toks_at HT.out Hn.out (k := k) (by rw [Hn.out]; exact hlt)
      have hd1 := (Hb.out.cell (p := ⟨tb, tq + k * 2, none⟩) htb).trans hc1
      have hd2 := (Hb.out.cell (p := ⟨tb, tq + k * 2 + 1, none⟩) htb).trans hc2
      have c1 := Hf.out k (by rw [Hn.out]; exact hlt) wr Hb.out
      have Hs : Hid (∀ b, p k = b → (b = true → idxF p n = (k : Int)) ∧ (b = false → ∀ j, j < k + 1 → p j = false)) := Lib.hid (fun b hb => ⟨fun e => idxF_hit p n k hlt Hal.out (by rw [hb, e]), fun e j hj => by
        by_cases hjk : j = k
        · rw [hjk, hb, e]
        · exact Hal.out j (by omega)⟩)
      clear hc1 hc2
      generalize (str (T[k]'(by rw [Hn.out]; exact hlt))) = x at *
      cases hp : p k with
      | true =>
        have Fin := Lib.hid ((Hs.out _ hp).1 rfl)
        rw [hp] at c1
        clear hp Hs
        go_wp2_with fail
        refine c1.mono ?_
        rintro e w2 ⟨rfl, hb2⟩
        have Hb2 := Lib.hid (Hb.out.trans (hb2.mono Hb.out.size))
        clear hb2 c1
        go_wp2
        go_ret
        exact ⟨by rw [Fin.out]; rfl, Hb2.out⟩
      | false =>
        have Hn2 := Lib.hid ((Hs.out _ hp).2 rfl)
        rw [hp] at c1
        clear hp Hs
        go_wp2_with fail
        refine c1.mono ?_
        rintro e w2 ⟨rfl, hb2⟩
        have Hb2 := Lib.hid (Hb.out.trans (hb2.mono Hb.out.size))
        clear hb2 c1
        go_wp2
        go_roundw
        case rel => exact ⟨k + 1, by omega, by go_num, Hn2.out, Hb2.out⟩
        case measure => simp [intOf]; omega
    · obtain rfl : k = n := by omega
      have Fin := Lib.hid (idxF_no p k Hal.out)
      go_wp2
      go_ret
      exact ⟨by rw [Fin.out]; rfl, Hb.out⟩
end Go.Proofs.YtjeahdnbpiahaaaGreat.Qy
end
