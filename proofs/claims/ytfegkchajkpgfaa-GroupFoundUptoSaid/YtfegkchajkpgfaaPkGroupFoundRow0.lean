/- Plain facts on phrases, beginnings, and what a query matches. No program. -/
import Derived.Deep.DeepCutAuto
import Derived.Outline
import Derived.Deep.QuietTactic
import Derived.BigQuiet
import Derived.Test.YtfegkchajkpgfaaPkGroupRowsRow1
import Derived.Test.YtfegkchajkpgfaaPkGroupRowsRow10
import Derived.Test.YtfegkchajkpgfaaPkGroupPartsRow2
import Derived.Test.YtfegkchajkpgfaaTokEPk
import Derived.Test.YtfegkchajkpgfaaGrowPk
section
namespace Go.Proofs.Ytfegkchajkpgfaa.Qy
open Go.RowKit Go.Proofs.Ytfegkchajkpgfaa Go.Proofs.Ytfegkchajkpgfaa.Ut

/-- Do words stand from the i-th on? -/
def stands (T : List (List UInt8)) (ws : List ByteArray) (i : Nat) : Bool := ((T.drop i).take ws.length) == ws.map (fun s => s.data.toList)
/-- Where words stand, of the first k places. -/
def phrTo (T : List (List UInt8)) (ws : List ByteArray) (k : Nat) : List Nat := (List.range k).filter (stands T ws)
def phr (T : List (List UInt8)) (ws : List ByteArray) : List Nat := if ws = [] then [] else phrTo T ws T.length
theorem phrTo_succ (T : List (List UInt8)) (ws : List ByteArray) (k : Nat) : phrTo T ws (k + 1) = phrTo T ws k ++ if stands T ws k then [k] else [] := by
  unfold phrTo
  rw [List.range_succ, List.filter_append]
  by_cases h : stands T ws k <;> simp [h]
theorem phrTo_len (T : List (List UInt8)) (ws : List ByteArray) (k : Nat) : (phrTo T ws k).length ≤ k := by
  have := List.length_filter_le (stands T ws) (List.range k)
  rwa [List.length_range] at this
theorem stands_short (T : List (List UInt8)) (ws : List ByteArray) (i : Nat) (h : T.length - i < ws.length) : stands T ws i = false := by
  unfold stands
  rw [beq_eq_false_iff_ne]
  intro e
  have := congrArg List.length e
  simp at this
  omega
/-- Once too few words are left, none more stand. -/
theorem phrTo_short (T : List (List UInt8)) (ws : List ByteArray) (k : Nat) (h : T.length - k < ws.length) : ∀ j, k ≤ j → phrTo T ws j = phrTo T ws k := by
  intro j hj
  induction j with
  | zero => obtain rfl : k = 0 := by omega
            rfl
  | succ j ih =>
    by_cases e : k = j + 1
    · rw [e]
    · rw [phrTo_succ, stands_short T ws j (by omega), if_neg (by decide), List.append_nil]
      exact ih (by omega)
/-- So far the words stand. -/
def standsTo (T : List (List UInt8)) (ws : List ByteArray) (i k : Nat) : Bool := ((T.drop i).take k) == (ws.take k).map (fun s => s.data.toList)
theorem standsTo_zero (T : List (List UInt8)) (ws : List ByteArray) (i : Nat) : standsTo T ws i 0 = true := by simp [standsTo]
theorem standsTo_all (T : List (List UInt8)) (ws : List ByteArray) (i : Nat) : standsTo T ws i ws.length = stands T ws i := by unfold standsTo stands; rw [List.take_length]
theorem standsTo_succ (T : List (List UInt8)) (ws : List ByteArray) (i k : Nat) (h1 : i + k < T.length) (h2 : k < ws.length) : standsTo T ws i (k + 1) = (standsTo T ws i k && (T[i + k] == ws[k].data.toList)) := by
  unfold standsTo
  have e1 : (T.drop i).take (k + 1) = (T.drop i).take k ++ [T[i + k]] := by
    rw [List.take_succ_eq_append_getElem (by simp; omega)]
    simp
  have e2 : (ws.take (k + 1)).map (fun s => s.data.toList) = (ws.take k).map (fun s => s.data.toList) ++ [ws[k].data.toList] := by
    rw [List.take_succ_eq_append_getElem h2, List.map_append]; rfl
  have hl : ((T.drop i).take k).length = ((ws.take k).map (fun s => s.data.toList)).length := by simp; omega
  rw [e1, e2, Bool.eq_iff_iff]
  simp only [beq_iff_eq, Bool.and_eq_true]
  constructor
  · intro e
    have := List.append_inj e hl
    exact ⟨this.1, by simpa using this.2⟩
  · rintro ⟨a, b⟩
    rw [a, b]
theorem standsTo_no (T : List (List UInt8)) (ws : List ByteArray) (i k : Nat) (hk : k ≤ ws.length) (h : standsTo T ws i k = false) : stands T ws i = false := by
  unfold standsTo stands at *
  rw [beq_eq_false_iff_ne] at *
  intro e
  apply h
  have := congrArg (List.take k) e
  rw [List.take_take, Nat.min_eq_left hk] at this
  rw [this, List.map_take]

/-- Does a text begin so? -/
def begins (t : List UInt8) (p : ByteArray) : Bool := p.data.toList.isPrefixOf t
/-- Does a leaf match a text? -/
def leafT (k : Int) (ws : List ByteArray) (T : List (List UInt8)) : Bool :=
  if k = 3 then (match ws with | [p] => T.any (begins · p) | _ => false)
  else if k = 2 then decide (ws.length = 1) && decide (0 < (phr T ws).length)
  else decide (0 < (phr T ws).length)
def leafB (k : Int) (nm : ByteArray) (ws : List ByteArray) (fs : List (ByteArray × ByteArray)) : Bool := fs.any fun f => f.1.data.toList == nm.data.toList && leafT k ws (Tk.words f.2.data.toList)
mutual
/-- Does a query match fields? -/
def matchB (fs : List (ByteArray × ByteArray)) : Q → Bool
  | .mk k nm ws l => if k = 1 then true else if k = 2 ∨ k = 3 ∨ k = 4 then leafB k nm ws fs else if k = 5 then matchAll fs l else if k = 6 then matchSome fs l else if k = 7 then matchNone fs l else false
def matchAll (fs : List (ByteArray × ByteArray)) : List Q → Bool
  | [] => true
  | q :: l => matchB fs q && matchAll fs l
def matchSome (fs : List (ByteArray × ByteArray)) : List Q → Bool
  | [] => false
  | q :: l => matchB fs q || matchSome fs l
def matchNone (fs : List (ByteArray × ByteArray)) : List Q → Bool
  | [q] => !matchB fs q
  | _ => false
end
theorem matchAll_eq (fs : List (ByteArray × ByteArray)) : ∀ l, matchAll fs l = l.all (matchB fs)
  | [] => by simp [matchAll]
  | q :: l => by simp [matchAll, matchAll_eq fs l]
theorem matchSome_eq (fs : List (ByteArray × ByteArray)) : ∀ l, matchSome fs l = l.any (matchB fs)
  | [] => by simp [matchSome]
  | q :: l => by simp [matchSome, matchSome_eq fs l]
theorem matchB_eq (fs : List (ByteArray × ByteArray)) (k : Int) (nm : ByteArray) (ws : List ByteArray) (l : List Q) :
    matchB fs (.mk k nm ws l) = if k = 1 then true else if k = 2 ∨ k = 3 ∨ k = 4 then leafB k nm ws fs else if k = 5 then l.all (matchB fs) else if k = 6 then l.any (matchB fs) else if k = 7 then matchNone fs l else false := by
  rw [matchB, matchAll_eq, matchSome_eq]
end Go.Proofs.Ytfegkchajkpgfaa.Qy
end

section
/- What a word's query matches is what its count says: plain. -/
namespace Go.Proofs.Ytfegkchajkpgfaa.Gr
open Go.RowKit Go.Proofs.Ytfegkchajkpgfaa Go.Proofs.Ytfegkchajkpgfaa.Ut Go.Proofs.Ytfegkchajkpgfaa.Tk Go.Proofs.Ytfegkchajkpgfaa.Qy
set_option linter.unusedSimpArgs false
set_option linter.unusedVariables false

theorem stands_one (T : List (List UInt8)) (w : ByteArray) (i : Nat) (h : i < T.length) : stands T [w] i = (T[i] == w.data.toList) := by
  unfold stands
  show ((T.drop i).take 1 == [w.data.toList]) = _
  rw [List.drop_eq_getElem_cons h, List.take_succ_cons, List.take_zero]
  show (T[i] == w.data.toList && true) = _
  rw [Bool.and_true]
theorem phr_one (T : List (List UInt8)) (w : ByteArray) : decide (0 < (phr T [w]).length) = T.any (fun t => t == w.data.toList) := by
  unfold phr phrTo
  rw [if_neg (by simp), Bool.eq_iff_iff, decide_eq_true_iff, List.any_eq_true]
  constructor
  · intro h
    obtain ⟨i, hi⟩ := List.exists_mem_of_length_pos h
    rw [List.mem_filter, List.mem_range] at hi
    obtain ⟨h1, h2⟩ := hi
    rw [stands_one T w i h1] at h2
    exact ⟨T[i], List.getElem_mem h1, h2⟩
  · rintro ⟨t, ht, e⟩
    obtain ⟨i, hi, rfl⟩ := List.getElem_of_mem ht
    exact List.length_pos_of_mem (List.mem_filter.2 ⟨List.mem_range.2 hi, by rw [stands_one T w i hi]; exact e⟩)
theorem leafT_one (w : ByteArray) (T : List (List UInt8)) : leafT 2 [w] T = T.any (fun t => t == w.data.toList) := by
  rw [← phr_one]
  unfold leafT
  simp
theorem leafB_in (name w : ByteArray) (fs : List (ByteArray × ByteArray)) : leafB 2 name [w] fs = inL (wdsF name fs) w := by
  unfold leafB inL wdsF
  rw [List.any_flatMap]
  congr 1
  funext f
  rw [leafT_one]
  have hn : (f.1.data.toList == name.data.toList) = decide (f.1 = name) := by
    rw [← tl, ← tl]
    exact list_beq f.1 name
  rw [hn]
  by_cases e : f.1 = name
  · rw [decide_eq_true e, if_pos e, Bool.true_and, List.any_map]
    congr 1
    funext t
    show (t == w.data.toList) = decide (str t = w)
    have := str_beq t w
    rw [← this, list_beq]
  · rw [decide_eq_false e, if_neg e]
    rfl
/-- How many docs the query of a word matches. -/
theorem found_cnt (name w : ByteArray) (ds : List Dc) : (ds.filter fun d => leafB 2 name [w] d.fs).length = cntN name ds w := by
  unfold cntN
  rw [List.countP_eq_length_filter]
  congr 2
  funext d
  rw [leafB_in]
end Go.Proofs.Ytfegkchajkpgfaa.Gr
end

section
/- token.Phrase: the walk. -/
namespace Go.Proofs.Ytfegkchajkpgfaa.Qy
open Go.RowKit Go.Proofs.Ytfegkchajkpgfaa Go.Proofs.Ytfegkchajkpgfaa.Ut Go.Proofs.Ytfegkchajkpgfaa.Tk
set_option maxRecDepth 20000

/-- Integers of the call's own. -/
def nv (l : List Nat) : List Value := l.map fun n : Nat => Value.int .i64 (n : Int)
theorem nv_snoc (l : List Nat) (n : Nat) : nv (l ++ [n]) = nv l ++ [.int .i64 (n : Int)] := by simp [nv]
structure Ints (w wr : World) (v : Value) (l : List Nat) : Prop where
  own : wr.ownsRow w.heap.size 3 1 v l.length (nv l)
  bel : Below w.heap.size w wr
theorem Ints.below {w wr w2 : World} {v : Value} {l : List Nat} (h : Ints w wr v l) (hb : Below wr.heap.size wr w2) : Ints w w2 v l :=
  ⟨h.own.kept (grow_of_below hb none) (by cases hv : v.ownBlock <;> simp), h.bel.trans (hb.mono h.bel.size)⟩
theorem Ints.put {w wr w2 : World} {v v' : Value} {l : List Nat} {n : Nat} (h : Ints w wr v l) (hp : w2.ownsRow w.heap.size 3 1 v' (l.length + 1) (nv l ++ [.int .i64 (n : Int)])) (hg : wr.grownBy w2 v.ownBlock) : Ints w w2 v' (l ++ [n]) := by
  refine ⟨?_, h.bel.grown hg h.bel.size (fun k hk => (h.own.lt k hk).1)⟩
  rw [nv_snoc, List.length_append]
  exact hp
theorem Ints.start (w : World) : Ints w w (.slice none 0 0) [] := ⟨World.ownsRow_nil _ _ _ _, Below.refl _ _⟩
def IntPost (w : World) (l : List Nat) (e : Ending) (w' : World) : Prop := ∃ v, e = .returned v ∧ Ints w w' v l

end Go.Proofs.Ytfegkchajkpgfaa.Qy
end

section
/- The document's Phrase: the walk. -/
namespace Go.Proofs.Ytfegkchajkpgfaa.Qy
open Go.RowKit Go.Proofs.Ytfegkchajkpgfaa Go.Proofs.Ytfegkchajkpgfaa.Ut Go.Proofs.Ytfegkchajkpgfaa.Tk
set_option maxRecDepth 20000

theorem bool_eq {a b : Bool} (h : a = b) : Ending.returned (.bool a) = .returned (.bool b) := by rw [h]
set_option maxHeartbeats 3200000 in
theorem stand_ref (TA : Option Addr) (n tc : Nat) (T : List (List UInt8)) (WA : Option Addr) (m wc : Nat) (ws : List ByteArray) (k : Nat) (w : World) (hT : Reads w w.heap.size 2 TA n (tokC (placed T))) (hn : T.length = n) (hn2 : n ≤ 1048576)
    (hW : Reads w w.heap.size 1 WA m (ws.map Value.string)) (hm : ws.length = m) (hm2 : m ≤ 8796093021952) (hk : k < n) :
    Calls Try.prog 137 #[.slice TA n tc, .int .i64 (k : Int), .slice WA m wc] w fun e w' => e = .returned (.bool (stands T ws k)) ∧ Below w.heap.size w w' := by
  have HT := Lib.hid hT
  have HW := Lib.hid hW
  have Hn := Lib.hid hn
  have Hm := Lib.hid hm
  by_cases hs : n - k < m
  · have Fin := Lib.hid (stands_short T ws k (by rw [hn, hm]; exact hs))
    have hs' : (n : Int) - (k : Int) < (m : Int) := by omega
    clear hT hW hn hm hs
    go_enter Try.func137, Try.ntmps137
    go_wp2
    go_ret
    exact ⟨by rw [Fin.out]; rfl, Below.refl _ _⟩
  · have hs' : ¬ (n : Int) - (k : Int) < (m : Int) := by omega
    have hmn : m ≤ n - k := by omega
    clear hT hW hn hm hs
    go_enter Try.func137, Try.ntmps137
    go_wp2
    go_loopw [7] (fun i wr => ∃ j : Nat, j ≤ m ∧ i = .int .i64 j ∧ standsTo T ws k j = true ∧ Below w.heap.size w wr) (fun i _ => m - (intOf i).toNat)
    case atStart => exact ⟨0, Nat.zero_le _, rfl, standsTo_zero _ _ _, Below.refl _ _⟩
    case round =>
      obtain ⟨j, hj, rfl, hst, hb⟩ := hrel
      have Hb := Lib.hid hb
      have Hst := Lib.hid hst
      clear hst hb
      by_cases hjm : j < m
      · obtain ⟨tb, tq, rfl, htb, hx1, hx2⟩ := toks_at HT.out Hn.out (k := k + j) (by rw [Hn.out]; omega)
        obtain ⟨ab, ao, hkl, rfl, hab, hcw⟩ := HW.out.at_map hjm
        have hy1 := (Hb.out.cell (p := ⟨tb, tq + (k + j) * 2, none⟩) htb).trans hx1
        have hy2 := (Hb.out.cell (p := ⟨tb, tq + (k + j) * 2 + 1, none⟩) htb).trans hx2
        have hyw := (Hb.out.cell (p := ⟨ab, ao + j, none⟩) hab).trans hcw
        have hss := standsTo_succ T ws k j (by rw [Hn.out]; omega) (by rw [Hm.out]; omega)
        have hbe := str_beq (T[k + j]'(by rw [Hn.out]; omega)) ws[j]
        rw [Hst.out, Bool.true_and, ← hbe] at hss
        have Hss := Lib.hid hss
        have hi0 : (0 : Int) ≤ (k : Int) + (j : Int) := by omega
        have hi1 : (k : Int) + (j : Int) < (n : Int) := by omega
        have hi2 : ((k : Int) + (j : Int)).toNat = k + j := by omega
        have hi3 : IntKind.i64.wrap ((k : Int) + (j : Int)) = (k : Int) + (j : Int) := IntWalk.i64_in _ (by omega)
        have hj0 : (0 : Int) ≤ (j : Int) := by omega
        have hj1 : (j : Int) < (m : Int) := by omega
        have Hno : Hid (standsTo T ws k (j + 1) = false → stands T ws k = false) := Lib.hid (fun e => standsTo_no T ws k (j + 1) (by rw [Hm.out]; omega) e)
        clear hx1 hx2 hcw hss hbe
        have hprev : 0 < j → wr.cell? ⟨tb, tq + (k + j - 1) * 2 + 1, none⟩ = some (.int .i64 ((k + j - 1 : Nat) : Int)) := fun h0 => by
          obtain ⟨tb', tq', e1, htb', _, hx2⟩ := toks_at HT.out Hn.out (k := k + j - 1) (by rw [Hn.out]; omega)
          injection e1 with e1
          injection e1 with e1 e2
          subst e1 e2
          exact (Hb.out.cell (p := ⟨tb, tq + (k + j - 1) * 2 + 1, none⟩) htb).trans hx2
        generalize (str (T[k + j]'(by rw [Hn.out]; omega))) = x at *
        generalize ws[j] = y at *
        by_cases hxy : (x.toList == y.toList) = true
        · have hxy' : (x.toList != y.toList) = false := by rw [bne, hxy]; rfl
          have Hs2 : Hid (standsTo T ws k (j + 1) = true) := Lib.hid (by rw [Hss.out, hxy])
          by_cases h0 : 0 < j
          · have hp := hprev h0
            have e1 : ((k + j - 1 : Nat) : Int) = (k : Int) + (j : Int) - 1 := by omega
            have e2 : ((k : Int) + (j : Int) - 1).toNat = k + j - 1 := by omega
            have e3 : IntKind.i64.wrap ((k : Int) + (j : Int) - 1) = (k : Int) + (j : Int) - 1 := IntWalk.i64_in _ (by omega)
            have e4 : (0 : Int) ≤ (k : Int) + (j : Int) - 1 := by omega
            have e5 : (k : Int) + (j : Int) - 1 < (n : Int) := by omega
            have e6 : (((k : Int) + (j : Int) - 1) == 9223372036854775807) = false := by rw [beq_eq_false_iff_ne]; omega
            have e7 : IntKind.i64.wrap ((k : Int) + (j : Int) - 1 + 1) = (k : Int) + (j : Int) := by rw [show (k : Int) + (j : Int) - 1 + 1 = (k : Int) + (j : Int) from by omega]; exact hi3
            have h0' : decide (0 < j) = true := by simpa using h0
            rw [e1] at hp
            clear hprev e1
            go_wp2_with fail
            go_quiet (fail)
            have Hbx := Lib.hid (below_drewN Hb.out nq)
            go_wp2
            go_roundw
            case rel => exact ⟨j + 1, by omega, by go_num, Hs2.out, Hbx.out⟩
            case measure => simp [intOf]; omega
          · have h0' : decide ((0 : Int) < (j : Int)) = false := by simpa using h0
            clear hprev
            go_wp2_with fail
            go_quiet (fail)
            have Hbx := Lib.hid (below_drewN Hb.out nq)
            go_wp2
            go_roundw
            case rel => exact ⟨j + 1, by omega, by go_num, Hs2.out, Hbx.out⟩
            case measure => simp [intOf]; omega
        · have hxf : (x.toList == y.toList) = false := Bool.eq_false_iff.2 hxy
          have hxy' : (x.toList != y.toList) = true := by rw [bne, hxf]; rfl
          have Hs2 := Lib.hid (Hno.out (by rw [Hss.out]; exact hxf))
          clear hxy hprev
          go_wp2_with fail
          go_quiet (fail)
          have Hbx := Lib.hid (below_drewN Hb.out nq)
          go_wp2
          go_ret
          exact ⟨by rw [Hs2.out]; rfl, Hbx.out⟩
      · obtain rfl : j = m := by omega
        have hst2 := Hst.out
        have hmm := Hm.out
        subst hmm
        rw [standsTo_all] at hst2
        have Fin := Lib.hid hst2
        clear hst2 hjm
        go_wp2
        go_ret
        exact ⟨by rw [Fin.out]; rfl, Hb.out⟩
end Go.Proofs.Ytfegkchajkpgfaa.Qy
end

section
/- The document's Phrase, Begins, Prefixed; token.Prefixed: the walks. -/
namespace Go.Proofs.Ytfegkchajkpgfaa.Qy
open Go.RowKit Go.Proofs.Ytfegkchajkpgfaa Go.Proofs.Ytfegkchajkpgfaa.Ut Go.Proofs.Ytfegkchajkpgfaa.Tk
set_option maxRecDepth 20000

set_option maxHeartbeats 1600000 in
theorem phrase_ref (TA : Option Addr) (n tc : Nat) (T : List (List UInt8)) (WA : Option Addr) (m wc : Nat) (ws : List ByteArray) (w : World) (hT : Reads w w.heap.size 2 TA n (tokC (placed T))) (hn : T.length = n) (hn2 : n ≤ 1048576)
    (hW : Reads w w.heap.size 1 WA m (ws.map Value.string)) (hm : ws.length = m) (hm2 : m ≤ 8796093021952) :
    Calls Try.prog 112 #[.slice TA n tc, .slice WA m wc] w (IntPost w (phr T ws)) := by
  obtain ⟨i0, hi0, hz0, hz1, hz2⟩ := info_parts int_info2
  have HT := Lib.hid hT
  have HW := Lib.hid hW
  clear hT hW
  by_cases h0 : m = 0
  · have hws : ws = [] := List.length_eq_zero_iff.1 (by omega)
    have Fin : Hid (phr T ws = []) := Lib.hid (by unfold phr; rw [if_pos hws])
    have h0' : ¬ (0 : Int) < (m : Int) := by omega
    have h0'' : ¬ 0 < m := by omega
    clear h0 hws hm
    go_enter Try.func112, Try.ntmps112
    go_wp2
    go_loopw [5, 6] (fun v i wr => v = .slice none 0 0 ∧ i = .int .i64 0 ∧ wr = w) (fun _ i _ => n - (intOf i).toNat)
    case atStart => exact ⟨rfl, rfl, rfl⟩
    case round =>
      obtain ⟨rfl, rfl, rfl⟩ := hrel
      by_cases hn0 : (0 : Int) < (n : Int)
      all_goals
        go_wp2
        go_ret
        exact ⟨_, rfl, by rw [Fin.out]; exact Ints.start _⟩
  · have hws : ws ≠ [] := fun e => h0 (by rw [← hm, e]; rfl)
    have Fin : Hid (phr T ws = phrTo T ws n) := Lib.hid (by unfold phr; rw [if_neg hws, hn])
    have h0' : (0 : Int) < (m : Int) := by omega
    have h0'' : 0 < m := by omega
    have Hn := Lib.hid hn
    have Hm := Lib.hid hm
    clear h0 hws hm hn
    go_enter Try.func112, Try.ntmps112
    go_wp2
    go_loopw [5, 6] (fun v i wr => ∃ k : Nat, k ≤ n ∧ i = .int .i64 k ∧ Ints w wr v (phrTo T ws k)) (fun _ i _ => n - (intOf i).toNat)
    case atStart => exact ⟨0, Nat.zero_le _, rfl, Ints.start w⟩
    case round =>
      obtain ⟨k, hk, rfl, hI⟩ := hrel
      by_cases hlt : k < n
      · obtain ⟨tb, tq, rfl, htb, hc1, hc2⟩ := toks_at HT.out Hn.out (k := k) (by rw [Hn.out]; exact hlt)
        have c1 := stand_ref (some ⟨tb, tq, none⟩) n tc T WA m wc ws k wr ((HT.out.below hI.bel).more hI.bel.size) Hn.out hn2 ((HW.out.below hI.bel).more hI.bel.size) Hm.out hm2 hlt
        have hd2 := (hI.bel.cell (p := ⟨tb, tq + k * 2 + 1, none⟩) htb).trans hc2
        have htb2 : tb < wr.heap.size := by have := hI.bel.size; omega
        have HI := Lib.hid hI
        have hpl := phrTo_len T ws k
        have Hph := Lib.hid (phrTo_succ T ws k)
        clear hI hc1 hc2
        by_cases hs : stands T ws k = true
        · rw [hs] at c1
          have Hph2 : Hid (phrTo T ws (k + 1) = phrTo T ws k ++ [k]) := Lib.hid (by rw [Hph.out, hs]; rfl)
          clear hs
          generalize phrTo T ws k = P at *
          go_wp2_with fail
          refine c1.mono ?_
          rintro e w2 ⟨rfl, hb2⟩
          have hI2 := HI.out.below hb2
          have hown := hI2.own
          have hbsz := hI2.bel.size
          have hd3 := (hb2.cell (p := ⟨tb, tq + k * 2 + 1, none⟩) htb2).trans hd2
          have HI2 := Lib.hid hI2
          clear hI2 c1 hb2
          go_wp2_with (at_builtin; refine wpList_append_own _ rfl _ _ 47 rfl w.heap.size 3 i0 _ 1 8 Try.underlying47 hi0 hz0 hz1 hz2 rfl (by decide) _ _ _ rfl (hown.alloc _) ⟨w2.heap.size, 0, none⟩ 1 1 [.int .i64 (k : Int)] rfl rfl ?d1 ?d2 ?d3 ?d4 ?d5 ?_)
          case d1 => exact World.news_of_block (cs := #[.int .i64 (k : Int)]) (t := 3) (fr := (0, 0)) (heap_alloc_new w2 _)
          case d2 => first | rfl | (intro u hu; simp at hu; subst hu; rfl)
          case d3 => unfold maxLen; omega
          case d4 => omega
          case d5 => first | omega | (simp; omega)
          intro v' w5 hown5 hg5 _
          have HI5 := Lib.hid ((HI2.out.below ((Below.refl _ _).alloc (Nat.le_refl _) _)).put hown5 hg5)
          clear hown5 hg5 hown
          go_wp2
          go_roundw
          case rel => exact ⟨k + 1, by omega, by go_num, by rw [Hph2.out]; exact HI5.out⟩
          case measure => simp [intOf]; omega
        · have hs' : stands T ws k = false := Bool.eq_false_iff.2 hs
          rw [hs'] at c1
          have Hph2 : Hid (phrTo T ws (k + 1) = phrTo T ws k) := Lib.hid (by rw [Hph.out, hs']; simp)
          clear hs hs'
          go_wp2_with fail
          refine c1.mono ?_
          rintro e w2 ⟨rfl, hb2⟩
          have HI2 := Lib.hid (HI.out.below hb2)
          clear c1 hb2
          go_wp2
          go_roundw
          case rel => exact ⟨k + 1, by omega, by go_num, by rw [Hph2.out]; exact HI2.out⟩
          case measure => simp [intOf]; omega
      · obtain rfl : k = n := by omega
        have HI := Lib.hid hI
        clear hI
        go_wp2
        go_ret
        exact ⟨_, rfl, by rw [Fin.out]; exact HI.out⟩

end Go.Proofs.Ytfegkchajkpgfaa.Qy
end
