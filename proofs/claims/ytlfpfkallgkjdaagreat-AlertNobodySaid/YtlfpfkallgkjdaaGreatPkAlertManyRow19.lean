/- SLICED by slice.py -/
import Derived.Outline
import Derived.Maps.AppendAt
import Derived.Deep.QuietTactic
import Derived.BigQuiet
import Derived.Test.YtlfpfkallgkjdaaGreatPkAlertManyRow17
import Derived.Test.YtlfpfkallgkjdaaGreatPkAlertManyRow18
import Derived.Test.YtlfpfkallgkjdaaGreatPkAlertManyRow8
import Derived.Test.YtlfpfkallgkjdaaGreatPkAlertManyRow11
section
/- loggialaw19.Few: the walk. -/
namespace Go.Proofs.YtlfpfkallgkjdaaGreat.Qy
open Go.RowKit Go.Proofs.YtlfpfkallgkjdaaGreat Go.Proofs.YtlfpfkallgkjdaaGreat.Ut Go.Proofs.YtlfpfkallgkjdaaGreat.Tk
set_option maxRecDepth 20000
set_option linter.unusedSimpArgs false

def cutF (f : ByteArray × ByteArray) : ByteArray × ByteArray := (f.1, ct 300 f.2)
def fewF (d : Dc) : Dc := ⟨d.seq, d.at_, (d.fs.take 8).map cutF⟩
def fewD (ds : List Dc) : List Dc := (ds.take 40).map fewF
/-- Docs of the call's own, handed back. -/
def DocPost (w : World) (ds : List Dc) (e : Ending) (w' : World) : Prop := ∃ v, e = .returned v ∧ DocsOwn w w' v ds
theorem doc_info : (Tryz.prog.info? 132).map (fun i => (i.zero, i.size, i.bytes)) = some (some (.agg #[.int .i64 0, .int .i64 0, .slice none 0 0]), 3, 40) := by kernel_rfl
theorem fld_info : (Tryz.prog.info? 99).map (fun i => (i.zero, i.size, i.bytes)) = some (some (.agg #[.string ByteArray.empty, .string ByteArray.empty]), 2, 32) := by kernel_rfl
theorem fldC_snoc (fs : List (ByteArray × ByteArray)) (f : ByteArray × ByteArray) : fldC (fs ++ [f]) = fldC fs ++ [.string f.1, .string f.2] := by simp [fldC]

theorem own_succ {w : World} {base : Nat} {e : TypeId} {size n : Nat} {v : Value} {xs : List Value} (h : w.ownsRow base e size v (n + 1) xs) : ∃ g q, v = .slice (some ⟨g, 0, none⟩) (n + 1) q := by
  rcases h.2 with ⟨_, h0⟩ | ⟨g, cap, cur, hv, _⟩
  · omega
  · exact ⟨g, cap, hv⟩
theorem grownBy_setC (w : World) (h o : Nat) (u : Value) : w.grownBy (w.setCell ⟨h, o, none⟩ u) (some h) :=
  ⟨rfl, rfl, rfl, by simp [World.setCell], fun k _ hne => Below.heap_setCell _ _ _ _ (fun e => hne (by rw [e]))⟩
/-- A row of the call's own, as it stands. -/
theorem own_shape2 {w : World} {base : Nat} {e : TypeId} {size n : Nat} {v : Value} {xs : List Value} (h : w.ownsRow base e size v n xs) :
    ∃ A c, v = .slice A n c ∧ Reads w w.heap.size size A n xs ∧ n ≤ c ∧ (A = none → c = 0) ∧ (0 < n → ∃ g, A = some ⟨g, 0, none⟩ ∧ ∃ cur, w.heap[g]? = some (.cells cur e (0, 0))) := by
  obtain ⟨A, c, rfl, hR⟩ := own_shape h
  refine ⟨A, c, rfl, hR, ?_⟩
  rcases h.2 with ⟨hv, h0⟩ | ⟨g, cap, cur, hv, _, hg, hnc, _⟩
  · injection hv with _ _ hc
    exact ⟨by omega, fun _ => hc, fun h => by omega⟩
  · injection hv with hA _ hc
    exact ⟨by omega, fun e => (by rw [hA] at e; cases e), fun _ => ⟨g, hA, cur, hg⟩⟩
/-- What is being collected of a doc's fields. -/
structure Flds (wo wq : World) (pd : Nat) (s a : Int) (fs : List (ByteArray × ByteArray)) : Prop where
  ex : ∃ v, Blk wq pd 132 #[.int .i64 s, .int .i64 a, v] ∧ wq.ownsRow (wo.heap.size + 1) 99 2 v fs.length (fldC fs)
  bel : Below wo.heap.size wo wq
  ge : pd = wo.heap.size

end Go.Proofs.YtlfpfkallgkjdaaGreat.Qy
end

section
/- match.Needs$1 (add): the walk. -/
namespace Go.Proofs.YtlfpfkallgkjdaaGreat.Qy
open Go.RowKit Go.Proofs.YtlfpfkallgkjdaaGreat Go.Proofs.YtlfpfkallgkjdaaGreat.Ut Go.Proofs.YtlfpfkallgkjdaaGreat.Tk
set_option maxRecDepth 20000
set_option linter.unusedSimpArgs false

def bsv (l : List ByteArray) : List Value := l.map Value.string
theorem bsv_snoc (l : List ByteArray) (x : ByteArray) : bsv (l ++ [x]) = bsv l ++ [.string x] := by simp [bsv]
theorem bsv_len (l : List ByteArray) : (bsv l).length = l.length := by simp [bsv]
theorem contains_own {w : World} {base : Nat} {v : Value} {l : List ByteArray} (x : ByteArray) (h : w.ownsRow base 9 1 v l.length (bsv l)) (hl : l.length ≤ 4194304) :
    Calls Tryz.prog 68 #[v, .string x] w fun e w' => e = .returned (.bool (Lib.containsS l x)) ∧ w' = w := by
  rcases h.2 with ⟨rfl, h0⟩ | ⟨g, cap, cur, rfl, _⟩
  · have : l = [] := List.length_eq_zero_iff.1 h0
    subst this
    exact Tryz.slices_Contains_string_empty none 0 x w
  · have hc := Tryz.slices_Contains_string g 0 l.length cap l x w (Nat.le_refl _) (by omega) (fun j hj => by
      have h1 := h.cells (g := g) rfl j (.string (l.getD j ByteArray.empty)) (by unfold bsv; rw [List.getElem?_map, List.getD_eq_getElem?_getD, List.getElem?_eq_getElem hj]; rfl)
      have hadd : (⟨g, 0, none⟩ : Addr).add j = ⟨g, 0 + j, none⟩ := by unfold Addr.add; split <;> simp_all
      rw [hadd] at h1
      exact h1)
    rw [List.take_length] at hc
    exact hc

/-- Terms behind a pointer. -/
structure Nd (w : World) (g : Nat) (v : Value) (l : List ByteArray) : Prop where
  box : Blk w g 49 #[v]
  own : w.ownsRow (g + 1) 9 1 v l.length (bsv l)
theorem Nd.below {w w' : World} {g : Nat} {v : Value} {l : List ByteArray} (h : Nd w g v l) (hb : Below w.heap.size w w') : Nd w' g v l :=
  ⟨h.box.below hb h.box.lt, h.own.kept (grow_of_below hb none) (by cases hv : v.ownBlock <;> simp)⟩
/-- More terms, where they stand apart. -/
structure Mo (w : World) (g : Nat) (v : Value) (S : Option Addr) (ts : List ByteArray) : Prop where
  at_ : 0 < ts.length → ∃ b o, S = some ⟨b, o, none⟩ ∧ b < w.heap.size ∧ b ≠ g ∧ v.ownBlock ≠ some b ∧ ∀ j (h : j < ts.length), w.cell? ⟨b, o + j, none⟩ = some (.string ts[j])

set_option maxHeartbeats 1600000 in
theorem add_any (g : Nat) (v : Value) (old : List ByteArray) (S : Option Addr) (n c : Nat) (ts : List ByteArray) (w : World) (hN : Nd w g v old) (hM : Mo w g v S ts) (hn : ts.length = n) (hbig : old.length + n ≤ 4194304) :
    Calls Tryz.prog 67 #[.slice S n c, .pointer (some ⟨g, 0, none⟩)] w fun e w' => e = .returned (.tuple #[]) ∧ ∃ v', Nd w' g v' (addL old ts) ∧ Below g w w' := by
  obtain ⟨i0, hi0, hz0, hz1, hz2⟩ := info_parts str_info
  have HN := Lib.hid hN
  have HM := Lib.hid hM
  have Hn := Lib.hid hn
  clear hN hM hn
  go_enter Tryz.func67, Tryz.ntmps67
  go_wp2
  go_loopw [7] (fun i wr => ∃ (k : Nat) (u : Value), k ≤ n ∧ i = .int .i64 k ∧ Nd wr g u (addL old (ts.take k)) ∧ Mo wr g u S ts ∧ Below g w wr) (fun i _ => n - (intOf i).toNat)
  case atStart => exact ⟨0, v, Nat.zero_le _, rfl, HN.out, HM.out, Below.refl _ _⟩
  case round =>
    obtain ⟨k, u, hk, rfl, hN, hM, hb⟩ := hrel
    have HN := Lib.hid hN
    have HM := Lib.hid hM
    have Hb := Lib.hid hb
    by_cases hlt : k < n
    · have hkl : k < ts.length := by rw [Hn.out]; exact hlt
      obtain ⟨b, o, rfl, hbl, hbg, hub, hc⟩ := hM.at_ (by omega)
      have hck := hc k hkl
      have hts := addL_take old ts k hkl
      have hll : (addL old (ts.take k)).length ≤ 4194304 - 1 := by
        have h1 := addL_len (ts.take k) old
        rw [List.length_take] at h1
        omega
      have Hts := Lib.hid hts
      have Hc := Lib.hid hc
      clear hts hc hM hb
      generalize addL old (ts.take k) = l at *
      generalize ts[k] = x at *
      have hbx := hN.box.cell 0
      simp at hbx
      have cc := contains_own x hN.own (by omega)
      by_cases hin : Lib.containsS l x = true
      · rw [hin] at cc
        have hl1 : add1 l x = l := by unfold add1; rw [if_pos hin]
        rw [hl1] at Hts
        clear hN hin hl1
        go_wp2_with (go_at_call 68; refine cc.mono ?_; rintro e wx ⟨rfl, hwx⟩; subst wx)
        go_roundw
        case rel => exact ⟨k + 1, u, by omega, by go_num, by rw [Hts.out]; exact HN.out, HM.out, Hb.out⟩
        case measure => simp [intOf]; omega
      · have hin' : Lib.containsS l x = false := by simpa using hin
        rw [hin'] at cc
        have hl1 : add1 l x = l ++ [x] := by unfold add1; rw [if_neg hin]
        rw [hl1] at Hts
        have hgl := hN.box.lt
        have hbf := hN.box.frozen 0
        have hown := hN.own
        have hbxa := fun o' => (World.cell?_alloc_lt wr o' ⟨g, 0, none⟩ hgl).trans hbx
        clear hN hin hl1 hin'
        go_wp2_with (first
          | (go_at_call 68; refine cc.mono ?_; rintro e wx ⟨rfl, hwx⟩; subst wx)
          | (at_builtin; go_loud (refine wpList_append_own_at _ rfl _ _ 49 rfl (g + 1) 9 i0 _ 1 16 Tryz.underlying49 hi0 hz0 hz1 hz2 rfl (by decide) _ _ _ rfl (hown.alloc _) ⟨wr.heap.size, 0, none⟩ 1 1 [.string x] rfl rfl ?d1 ?d2 ?d3 ?d4 ?d5 ?_)))
        case d1 => exact World.news_of_block (cs := #[.string x]) (t := 9) (fr := (0, 0)) (heap_alloc_new wr _)
        case d2 => intro y hy; simp at hy; subst hy; rfl
        case d3 => unfold maxLen; omega
        case d4 => omega
        case d5 => simp; omega
        intro v' w5 hown5 hg5 _ hat
        obtain ⟨g5, q5, rfl⟩ := own_succ hown5
        have g5lt := (hown5.lt g5 rfl).1
        have hB5 := (HN.out.box.alloc (.cells #[.string x] 9)).grown hg5 (fun e => by have := (hown.lt _ e.symm).1; omega)
        have hb50 := hB5.cell 0
        have hbf5 := hB5.frozen 0
        simp at hb50
        have hbl2 : b ≠ wr.heap.size + 1 := by omega
        have hg5b : g5 ≠ b := by
          rintro rfl
          rcases hat with h | h
          · exact hub h.symm
          · simp [Value.ownBlock] at h
            omega
        have hcell : ∀ j (h : j < ts.length), w5.cell? ⟨b, o + j, none⟩ = some (.string ts[j]) := fun j h =>
          hg5.cell ((World.cell?_alloc_lt wr _ ⟨b, o + j, none⟩ hbl).trans (Hc.out j h)) (fun e => hub e.symm)
        have hz5 := hg5.size
        have hb5 : Below g w w5 := (Hb.out.alloc (by omega) (.cells #[.string x] 9)).grown hg5 (by simp; omega) (fun e he => by have := (hown.lt _ he).1; omega)
        have hgs := grownBy_setC w5 g 0 (.slice (some ⟨g5, 0, none⟩) (l.length + 1) q5)
        have Fin : Hid (Nd (w5.setCell ⟨g, 0, none⟩ (.slice (some ⟨g5, 0, none⟩) (l.length + 1) q5)) g (.slice (some ⟨g5, 0, none⟩) (l.length + 1) q5) (l ++ [x])) := Lib.hid
          ⟨hB5.set_ 0 _, by
            rw [List.length_append, bsv_snoc]
            exact hown5.kept hgs (.inr (by simp [Value.ownBlock]; omega))⟩
        have Fin2 : Hid (Mo (w5.setCell ⟨g, 0, none⟩ (.slice (some ⟨g5, 0, none⟩) (l.length + 1) q5)) g (.slice (some ⟨g5, 0, none⟩) (l.length + 1) q5) (some ⟨b, o, none⟩) ts) := Lib.hid
          ⟨fun _ => ⟨b, o, rfl, by simp [World.setCell] at hz5 ⊢; omega, hbg, by simp [Value.ownBlock]; exact hg5b, fun j h => hgs.cell (hcell j h) (fun e => hbg (Option.some.inj e))⟩⟩
        have Fin3 := Lib.hid (hb5.setCell (p := ⟨g, 0, none⟩) (Nat.le_refl _) (.slice (some ⟨g5, 0, none⟩) (l.length + 1) q5))
        clear hb5 hcell hB5 hown5 hg5 hown hgs hbxa hg5b hbl2
        go_wp2
        go_roundw
        case rel => exact ⟨k + 1, _, by omega, by go_num, by rw [Hts.out]; exact Fin.out, Fin2.out, Fin3.out⟩
        case measure => simp [intOf]; omega
    · obtain rfl : k = n := by omega
      have htk : ts.take k = ts := List.take_of_length_le (by rw [Hn.out]; exact Nat.le_refl _)
      rw [htk] at HN
      clear hN hM hb htk
      go_wp2
      first | go_ret | go_end0
      exact ⟨rfl, u, HN.out, Hb.out⟩
end Go.Proofs.YtlfpfkallgkjdaaGreat.Qy
end

section
/- The document's Phrase: the walk. -/
namespace Go.Proofs.YtlfpfkallgkjdaaGreat.Qy
open Go.RowKit Go.Proofs.YtlfpfkallgkjdaaGreat Go.Proofs.YtlfpfkallgkjdaaGreat.Ut Go.Proofs.YtlfpfkallgkjdaaGreat.Tk
set_option maxRecDepth 20000

theorem bool_eq {a b : Bool} (h : a = b) : Ending.returned (.bool a) = .returned (.bool b) := by rw [h]
set_option maxHeartbeats 3200000 in
theorem stand_ref (TA : Option Addr) (n tc : Nat) (T : List (List UInt8)) (WA : Option Addr) (m wc : Nat) (ws : List ByteArray) (k : Nat) (w : World) (hT : Reads w w.heap.size 2 TA n (tokC (placed T))) (hn : T.length = n) (hn2 : n ≤ 1048576)
    (hW : Reads w w.heap.size 1 WA m (ws.map Value.string)) (hm : ws.length = m) (hm2 : m ≤ 8796093021952) (hk : k < n) :
    Calls Tryz.prog 138 #[.slice TA n tc, .int .i64 (k : Int), .slice WA m wc] w fun e w' => e = .returned (.bool (stands T ws k)) ∧ Below w.heap.size w w' := by
  have HT := Lib.hid hT
  have HW := Lib.hid hW
  have Hn := Lib.hid hn
  have Hm := Lib.hid hm
  by_cases hs : n - k < m
  · have Fin := Lib.hid (stands_short T ws k (by rw [hn, hm]; exact hs))
    have hs' : (n : Int) - (k : Int) < (m : Int) := by omega
    clear hT hW hn hm hs
    go_enter Tryz.func138, Tryz.ntmps138
    go_wp2
    go_ret
    exact ⟨by rw [Fin.out]; rfl, Below.refl _ _⟩
  · have hs' : ¬ (n : Int) - (k : Int) < (m : Int) := by omega
    have hmn : m ≤ n - k := by omega
    clear hT hW hn hm hs
    go_enter Tryz.func138, Tryz.ntmps138
    go_wp2
    go_loopw [7] (fun i wr => ∃ j : Nat, j ≤ m ∧ i = .int .i64 j ∧ standsTo T ws k j = true ∧ Below w.heap.size w wr) (fun i _ => m - (intOf i).toNat)
    case atStart => exact ⟨0, Nat.zero_le _, rfl, standsTo_zero _ _ _, Below.refl _ _⟩
    case round =>
      obtain ⟨j, hj, rfl, hst, hb⟩ := hrel
      have Hb := Lib.hid hb
      have Hst := Lib.hid hst
      clear hst hb
      by_cases hjm : j < m
      · obtain ⟨tb, tq, rfl, htb, hx1, hx2⟩ := toks_at HT.out Hn.out (k := k + j) (by rw [Hn.out]; omega)
        obtain ⟨ab, ao, hkl, rfl, hab, hcw⟩ := HW.out.at_map hjm
        have hy1 := (Hb.out.cell (p := ⟨tb, tq + (k + j) * 2, none⟩) htb).trans hx1
        have hy2 := (Hb.out.cell (p := ⟨tb, tq + (k + j) * 2 + 1, none⟩) htb).trans hx2
        have hyw := (Hb.out.cell (p := ⟨ab, ao + j, none⟩) hab).trans hcw
        have hss := standsTo_succ T ws k j (by rw [Hn.out]; omega) (by rw [Hm.out]; omega)
        have hbe := str_beq (T[k + j]'(by rw [Hn.out]; omega)) ws[j]
        rw [Hst.out, Bool.true_and, ← hbe] at hss
        have Hss := Lib.hid hss
        have hi0 : (0 : Int) ≤ (k : Int) + (j : Int) := by omega
        have hi1 : (k : Int) + (j : Int) < (n : Int) := by omega
        have hi2 : ((k : Int) + (j : Int)).toNat = k + j := by omega
        have hi3 : IntKind.i64.wrap ((k : Int) + (j : Int)) = (k : Int) + (j : Int) := IntWalk.i64_in _ (by omega)
        have hj0 : (0 : Int) ≤ (j : Int) := by omega
        have hj1 : (j : Int) < (m : Int) := by omega
        have Hno : Hid (standsTo T ws k (j + 1) = false → stands T ws k = false) := Lib.hid (fun e => standsTo_no T ws k (j + 1) (by rw [Hm.out]; omega) e)
        clear hx1 hx2 hcw hss hbe
        have hprev : 0 < j → wr.cell? ⟨tb, tq + (k + j - 1) * 2 + 1, none⟩ = some (.int .i64 ((k + j - 1 : Nat) : Int)) := fun h0 => by
          obtain ⟨tb', tq', e1, htb', _, hx2⟩ := toks_at HT.out Hn.out (k := k + j - 1) (by rw [Hn.out]; omega)
          injection e1 with e1
          injection e1 with e1 e2
          subst e1 e2
          exact (Hb.out.cell (p := ⟨tb, tq + (k + j - 1) * 2 + 1, none⟩) htb).trans hx2
        generalize (str (T[k + j]'(by rw [Hn.out]; omega))) = x at *
        generalize ws[j] = y at *
        by_cases hxy : (x.toList == y.toList) = true
        · have hxy' : (x.toList != y.toList) = false := by rw [bne, hxy]; rfl
          have Hs2 : Hid (standsTo T ws k (j + 1) = true) := Lib.hid (by rw [Hss.out, hxy])
          by_cases h0 : 0 < j
          · have hp := hprev h0
            have e1 : ((k + j - 1 : Nat) : Int) = (k : Int) + (j : Int) - 1 := by omega
            have e2 : ((k : Int) + (j : Int) - 1).toNat = k + j - 1 := by omega
            have e3 : IntKind.i64.wrap ((k : Int) + (j : Int) - 1) = (k : Int) + (j : Int) - 1 := IntWalk.i64_in _ (by omega)
            have e4 : (0 : Int) ≤ (k : Int) + (j : Int) - 1 := by omega
            have e5 : (k : Int) + (j : Int) - 1 < (n : Int) := by omega
            have e6 : (((k : Int) + (j : Int) - 1) == 9223372036854775807) = false := by rw [beq_eq_false_iff_ne]; omega
            have e7 : IntKind.i64.wrap ((k : Int) + (j : Int) - 1 + 1) = (k : Int) + (j : Int) := by rw [show (k : Int) + (j : Int) - 1 + 1 = (k : Int) + (j : Int) from by omega]; exact hi3
            have h0' : decide (0 < j) = true := by simpa using h0
            rw [e1] at hp
            clear hprev e1
            go_wp2_with fail
            go_quiet (fail)
            have Hbx := Lib.hid (below_drewN Hb.out nq)
            go_wp2
            go_roundw
            case rel => exact ⟨j + 1, by omega, by go_num, Hs2.out, Hbx.out⟩
            case measure => simp [intOf]; omega
          · have h0' : decide ((0 : Int) < (j : Int)) = false := by simpa using h0
            clear hprev
            go_wp2_with fail
            go_quiet (fail)
            have Hbx := Lib.hid (below_drewN Hb.out nq)
            go_wp2
            go_roundw
            case rel => exact ⟨j + 1, by omega, by go_num, Hs2.out, Hbx.out⟩
            case measure => simp [intOf]; omega
        · have hxf : (x.toList == y.toList) = false := Bool.eq_false_iff.2 hxy
          have hxy' : (x.toList != y.toList) = true := by rw [bne, hxf]; rfl
          have Hs2 := Lib.hid (Hno.out (by rw [Hss.out]; exact hxf))
          clear hxy hprev
          go_wp2_with fail
          go_quiet (fail)
          have Hbx := Lib.hid (below_drewN Hb.out nq)
          go_wp2
          go_ret
          exact ⟨by rw [Hs2.out]; rfl, Hbx.out⟩
      · obtain rfl : j = m := by omega
        have hst2 := Hst.out
        have hmm := Hm.out
        subst hmm
        rw [standsTo_all] at hst2
        have Fin := Lib.hid hst2
        clear hst2 hjm
        go_wp2
        go_ret
        exact ⟨by rw [Fin.out]; rfl, Hb.out⟩
end Go.Proofs.YtlfpfkallgkjdaaGreat.Qy
end

section
/- The document's Phrase, Begins, Prefixed; token.Prefixed: the walks. -/
namespace Go.Proofs.YtlfpfkallgkjdaaGreat.Qy
open Go.RowKit Go.Proofs.YtlfpfkallgkjdaaGreat Go.Proofs.YtlfpfkallgkjdaaGreat.Ut Go.Proofs.YtlfpfkallgkjdaaGreat.Tk
set_option maxRecDepth 20000

set_option maxHeartbeats 1600000 in
theorem phrase_ref (TA : Option Addr) (n tc : Nat) (T : List (List UInt8)) (WA : Option Addr) (m wc : Nat) (ws : List ByteArray) (w : World) (hT : Reads w w.heap.size 2 TA n (tokC (placed T))) (hn : T.length = n) (hn2 : n ≤ 1048576)
    (hW : Reads w w.heap.size 1 WA m (ws.map Value.string)) (hm : ws.length = m) (hm2 : m ≤ 8796093021952) :
    Calls Tryz.prog 93 #[.slice TA n tc, .slice WA m wc] w (IntPost w (phr T ws)) := by
  obtain ⟨i0, hi0, hz0, hz1, hz2⟩ := info_parts int_info2
  have HT := Lib.hid hT
  have HW := Lib.hid hW
  clear hT hW
  by_cases h0 : m = 0
  · have hws : ws = [] := List.length_eq_zero_iff.1 (by omega)
    have Fin : Hid (phr T ws = []) := Lib.hid (by unfold phr; rw [if_pos hws])
    have h0' : ¬ (0 : Int) < (m : Int) := by omega
    have h0'' : ¬ 0 < m := by omega
    clear h0 hws hm
    go_enter Tryz.func93, Tryz.ntmps93
    go_wp2
    go_loopw [5, 6] (fun v i wr => v = .slice none 0 0 ∧ i = .int .i64 0 ∧ wr = w) (fun _ i _ => n - (intOf i).toNat)
    case atStart => exact ⟨rfl, rfl, rfl⟩
    case round =>
      obtain ⟨rfl, rfl, rfl⟩ := hrel
      by_cases hn0 : (0 : Int) < (n : Int)
      all_goals
        go_wp2
        go_ret
        exact ⟨_, rfl, by rw [Fin.out]; exact Ints.start _⟩
  · have hws : ws ≠ [] := fun e => h0 (by rw [← hm, e]; rfl)
    have Fin : Hid (phr T ws = phrTo T ws n) := Lib.hid (by unfold phr; rw [if_neg hws, hn])
    have h0' : (0 : Int) < (m : Int) := by omega
    have h0'' : 0 < m := by omega
    have Hn := Lib.hid hn
    have Hm := Lib.hid hm
    clear h0 hws hm hn
    go_enter Tryz.func93, Tryz.ntmps93
    go_wp2
    go_loopw [5, 6] (fun v i wr => ∃ k : Nat, k ≤ n ∧ i = .int .i64 k ∧ Ints w wr v (phrTo T ws k)) (fun _ i _ => n - (intOf i).toNat)
    case atStart => exact ⟨0, Nat.zero_le _, rfl, Ints.start w⟩
    case round =>
      obtain ⟨k, hk, rfl, hI⟩ := hrel
      by_cases hlt : k < n
      · obtain ⟨tb, tq, rfl, htb, hc1, hc2⟩ := toks_at HT.out Hn.out (k := k) (by rw [Hn.out]; exact hlt)
        have c1 := stand_ref (some ⟨tb, tq, none⟩) n tc T WA m wc ws k wr ((HT.out.below hI.bel).more hI.bel.size) Hn.out hn2 ((HW.out.below hI.bel).more hI.bel.size) Hm.out hm2 hlt
        have hd2 := (hI.bel.cell (p := ⟨tb, tq + k * 2 + 1, none⟩) htb).trans hc2
        have htb2 : tb < wr.heap.size := by have := hI.bel.size; omega
        have HI := Lib.hid hI
        have hpl := phrTo_len T ws k
        have Hph := Lib.hid (phrTo_succ T ws k)
        clear hI hc1 hc2
        by_cases hs : stands T ws k = true
        · rw [hs] at c1
          have Hph2 : Hid (phrTo T ws (k + 1) = phrTo T ws k ++ [k]) := Lib.hid (by rw [Hph.out, hs]; rfl)
          clear hs
          generalize phrTo T ws k = P at *
          go_wp2_with fail
          refine c1.mono ?_
          rintro e w2 ⟨rfl, hb2⟩
          have hI2 := HI.out.below hb2
          have hown := hI2.own
          have hbsz := hI2.bel.size
          have hd3 := (hb2.cell (p := ⟨tb, tq + k * 2 + 1, none⟩) htb2).trans hd2
          have HI2 := Lib.hid hI2
          clear hI2 c1 hb2
          go_wp2_with (at_builtin; refine wpList_append_own _ rfl _ _ 38 rfl w.heap.size 3 i0 _ 1 8 Tryz.underlying38 hi0 hz0 hz1 hz2 rfl (by decide) _ _ _ rfl (hown.alloc _) ⟨w2.heap.size, 0, none⟩ 1 1 [.int .i64 (k : Int)] rfl rfl ?d1 ?d2 ?d3 ?d4 ?d5 ?_)
          case d1 => exact World.news_of_block (cs := #[.int .i64 (k : Int)]) (t := 3) (fr := (0, 0)) (heap_alloc_new w2 _)
          case d2 => first | rfl | (intro u hu; simp at hu; subst hu; rfl)
          case d3 => unfold maxLen; omega
          case d4 => omega
          case d5 => first | omega | (simp; omega)
          intro v' w5 hown5 hg5 _
          have HI5 := Lib.hid ((HI2.out.below ((Below.refl _ _).alloc (Nat.le_refl _) _)).put hown5 hg5)
          clear hown5 hg5 hown
          go_wp2
          go_roundw
          case rel => exact ⟨k + 1, by omega, by go_num, by rw [Hph2.out]; exact HI5.out⟩
          case measure => simp [intOf]; omega
        · have hs' : stands T ws k = false := Bool.eq_false_iff.2 hs
          rw [hs'] at c1
          have Hph2 : Hid (phrTo T ws (k + 1) = phrTo T ws k) := Lib.hid (by rw [Hph.out, hs']; simp)
          clear hs hs'
          go_wp2_with fail
          refine c1.mono ?_
          rintro e w2 ⟨rfl, hb2⟩
          have HI2 := Lib.hid (HI.out.below hb2)
          clear c1 hb2
          go_wp2
          go_roundw
          case rel => exact ⟨k + 1, by omega, by go_num, by rw [Hph2.out]; exact HI2.out⟩
          case measure => simp [intOf]; omega
      · obtain rfl : k = n := by omega
        have HI := Lib.hid hI
        clear hI
        go_wp2
        go_ret
        exact ⟨_, rfl, by rw [Fin.out]; exact HI.out⟩

theorem isPrefix_take (p t : List UInt8) : p.isPrefixOf t = (decide (p.length ≤ t.length) && (t.take p.length == p)) := by
  rw [Bool.eq_iff_iff]
  simp only [List.isPrefixOf_iff_prefix, Bool.and_eq_true, decide_eq_true_eq, beq_iff_eq]
  constructor
  · rintro ⟨r, rfl⟩
    simp
  · rintro ⟨_, h⟩
    exact ⟨t.drop p.length, by have := List.take_append_drop p.length t; rw [h] at this; exact this⟩
set_option maxHeartbeats 400000 in
theorem begins_ref (x : List UInt8) (p : ByteArray) (w : World) (hx : x.length ≤ 1048576) :
    Calls Tryz.prog 139 #[.string (str x), .string p] w fun e w' => e = .returned (.bool (begins x p)) ∧ w = w' := by
  have hb : begins x p = (decide (p.size ≤ (str x).size) && ((str x).extract 0 p.size).toList == p.toList) := by
    unfold begins
    rw [isPrefix_take, tl, tl, Lib.extract_data, bsize, str_size, str_data]
    simp
  have HB := Lib.hid hb
  have hsz : (str x).size ≤ 1048576 := by rw [str_size]; exact hx
  clear hb
  generalize str x = s at *
  generalize begins x p = r at *
  by_cases hl : p.size ≤ s.size
  · have hl' : (p.size : Int) ≤ (s.size : Int) := by omega
    have HB2 : Hid (r = ((s.extract 0 p.size).toList == p.toList)) := Lib.hid (by rw [HB.out, decide_eq_true hl, Bool.true_and])
    go_enter Tryz.func139, Tryz.ntmps139
    go_wp2
    go_ret
    exact ⟨by rw [HB2.out]; rfl, rfl⟩
  · have hl' : ¬ (p.size : Int) ≤ (s.size : Int) := by omega
    have HB2 : Hid (r = false) := Lib.hid (by rw [HB.out, decide_eq_false hl, Bool.false_and])
    go_enter Tryz.func139, Tryz.ntmps139
    go_wp2
    go_ret
    exact ⟨by rw [HB2.out]; rfl, rfl⟩

set_option maxHeartbeats 400000 in
theorem prefixed_ref (TA : Option Addr) (n tc : Nat) (T : List (List UInt8)) (p : ByteArray) (w : World) (hT : Reads w w.heap.size 2 TA n (tokC (placed T))) (hn : T.length = n) (hn2 : n ≤ 1048576) (h32 : ∀ x ∈ T, x.length ≤ 1048576) :
    Calls Tryz.prog 94 #[.slice TA n tc, .string p] w fun e w' => e = .returned (.bool (T.any (begins · p))) ∧ w = w' := by
  have HT := Lib.hid hT
  have Hn := Lib.hid hn
  clear hT hn
  go_enter Tryz.func94, Tryz.ntmps94
  go_wp2
  go_loop [5] (fun i => ∃ k : Nat, k ≤ n ∧ i = .int .i64 k ∧ (T.take k).any (begins · p) = false) (fun i => n - (intOf i).toNat)
  case atStart => exact ⟨0, Nat.zero_le _, rfl, rfl⟩
  case round =>
    obtain ⟨k, hk, rfl, hal⟩ := hrel
    have Hal := Lib.hid hal
    clear hal
    by_cases hlt : k < n
    · obtain ⟨tb, tq, rfl, htb, hc1, hc2⟩ := toks_at HT.out Hn.out (k := k) (by rw [Hn.out]; exact hlt)
      have hkl : k < T.length := by rw [Hn.out]; exact hlt
      have hts : T.take (k + 1) = T.take k ++ [T[k]] := by rw [List.take_succ_eq_append_getElem hkl]
      have c1 := begins_ref T[k] p w (h32 _ (List.getElem_mem hkl))
      have hmem : T[k] ∈ T := List.getElem_mem hkl
      clear hc2
      by_cases hb : begins T[k] p = true
      · have Fin : Hid (T.any (begins · p) = true) := Lib.hid (List.any_eq_true.2 ⟨_, hmem, hb⟩)
        rw [hb] at c1
        clear hb hts hmem
        generalize str T[k] = x at *
        go_wp2_with fail
        refine c1.mono ?_
        rintro e w2 ⟨rfl, rfl⟩
        go_wp2
        go_ret
        exact ⟨by rw [Fin.out]; rfl, rfl⟩
      · have hb' : begins T[k] p = false := Bool.eq_false_iff.2 hb
        have Hnx : Hid ((T.take (k + 1)).any (begins · p) = false) := Lib.hid (by rw [hts, List.any_append, Hal.out]; simp [hb'])
        rw [hb'] at c1
        clear hb hb' hts hmem
        generalize str T[k] = x at *
        go_wp2_with fail
        refine c1.mono ?_
        rintro e w2 ⟨rfl, rfl⟩
        go_wp2
        go_round
        case rel => exact ⟨k + 1, by omega, by go_num, Hnx.out⟩
        case measure => simp [intOf]; omega
    · obtain rfl : k = n := by omega
      have Fin : Hid (T.any (begins · p) = false) := Lib.hid (by have := Hal.out; rwa [List.take_of_length_le (by rw [Hn.out]; exact Nat.le_refl _)] at this)
      go_wp2
      go_ret
      exact ⟨by rw [Fin.out]; rfl, rfl⟩

/-- The first place where something holds, or -1. -/
def idxF (p : Nat → Bool) (n : Nat) : Int := match (List.range n).find? p with | some i => (i : Int) | none => -1
theorem idxF_hit (p : Nat → Bool) (n k : Nat) (hk : k < n) (h : ∀ j, j < k → p j = false) (hp : p k = true) : idxF p n = (k : Int) := by
  unfold idxF
  have : (List.range n).find? p = some k := by
    rw [List.find?_range_eq_some]
    exact ⟨hp, by simpa using hk, fun j hj => by simp [h j hj]⟩
  rw [this]
theorem idxF_no (p : Nat → Bool) (n : Nat) (h : ∀ j, j < n → p j = false) : idxF p n = -1 := by
  unfold idxF
  have : (List.range n).find? p = none := by
    rw [List.find?_eq_none]
    intro j hj
    rw [h j (by simpa using hj)]
    decide
  rw [this]
theorem idxF_any (p : Nat → Bool) (n : Nat) : decide (0 ≤ idxF p n) = (List.range n).any p := by
  unfold idxF
  cases h : (List.range n).find? p with
  | none =>
    rw [List.find?_eq_none] at h
    symm
    simp only [Int.reduceNeg, Int.reduceLE, decide_false]
    rw [List.any_eq_false]
    exact h
  | some i =>
    have h1 := List.find?_some h
    have h2 := List.mem_of_find?_eq_some h
    have e : (List.range n).any p = true := List.any_eq_true.2 ⟨i, h2, h1⟩
    rw [e]
    simp
set_option maxHeartbeats 800000 in
theorem indexTok (TA : Option Addr) (n tc : Nat) (T : List (List UInt8)) (f : Nat) (lb : Array Value) (p : Nat → Bool) (w : World) (hcf : ∀ args wx, (callFunc f args).run Tryz.prog wx = .ok (.enter f args) wx) (hT : Reads w w.heap.size 2 TA n (tokC (placed T))) (hn : T.length = n) (hn2 : n ≤ 1048576)
    (hf : ∀ i (h : i < T.length) wx, Below w.heap.size w wx → Calls Tryz.prog f (#[.agg #[.string (str T[i]), .int .i64 (i : Int)]] ++ lb) wx fun e w' => e = .returned (.bool (p i)) ∧ Below wx.heap.size wx w') :
    Calls Tryz.prog 179 #[.slice TA n tc, .func (.func f) #[] lb] w fun e w' => e = .returned (.int .i64 (idxF p n)) ∧ Below w.heap.size w w' := by
  have HT := Lib.hid hT
  have Hn := Lib.hid hn
  have Hf := Lib.hid hf
  clear hT hn hf
  go_enter Tryz.func179, Tryz.ntmps179
  go_wp2
  go_loopw [8] (fun i wr => ∃ k : Nat, k ≤ n ∧ i = .int .i64 k ∧ (∀ j, j < k → p j = false) ∧ Below w.heap.size w wr) (fun i _ => n - (intOf i).toNat)
  case atStart => exact ⟨0, Nat.zero_le _, rfl, fun j hj => by omega, Below.refl _ _⟩
  case round =>
    obtain ⟨k, hk, rfl, hal, hb⟩ := hrel
    have Hal := Lib.hid hal
    have Hb := Lib.hid hb
    clear hal hb
    by_cases hlt : k < n
    · obtain ⟨tb, tq, rfl, htb, hc1, hc2⟩ := toks_at HT.out Hn.out (k := k) (by rw [Hn.out]; exact hlt)
      have hd1 := (Hb.out.cell (p := ⟨tb, tq + k * 2, none⟩) htb).trans hc1
      have hd2 := (Hb.out.cell (p := ⟨tb, tq + k * 2 + 1, none⟩) htb).trans hc2
      have c1 := Hf.out k (by rw [Hn.out]; exact hlt) wr Hb.out
      have Hs : Hid (∀ b, p k = b → (b = true → idxF p n = (k : Int)) ∧ (b = false → ∀ j, j < k + 1 → p j = false)) := Lib.hid (fun b hb => ⟨fun e => idxF_hit p n k hlt Hal.out (by rw [hb, e]), fun e j hj => by
        by_cases hjk : j = k
        · rw [hjk, hb, e]
        · exact Hal.out j (by omega)⟩)
      clear hc1 hc2
      generalize (str (T[k]'(by rw [Hn.out]; exact hlt))) = x at *
      cases hp : p k with
      | true =>
        have Fin := Lib.hid ((Hs.out _ hp).1 rfl)
        rw [hp] at c1
        clear hp Hs
        go_wp2_with fail
        refine c1.mono ?_
        rintro e w2 ⟨rfl, hb2⟩
        have Hb2 := Lib.hid (Hb.out.trans (hb2.mono Hb.out.size))
        clear hb2 c1
        go_wp2
        go_ret
        exact ⟨by rw [Fin.out]; rfl, Hb2.out⟩
      | false =>
        have Hn2 := Lib.hid ((Hs.out _ hp).2 rfl)
        rw [hp] at c1
        clear hp Hs
        go_wp2_with fail
        refine c1.mono ?_
        rintro e w2 ⟨rfl, hb2⟩
        have Hb2 := Lib.hid (Hb.out.trans (hb2.mono Hb.out.size))
        clear hb2 c1
        go_wp2
        go_roundw
        case rel => exact ⟨k + 1, by omega, by go_num, Hn2.out, Hb2.out⟩
        case measure => simp [intOf]; omega
    · obtain rfl : k = n := by omega
      have Fin := Lib.hid (idxF_no p k Hal.out)
      go_wp2
      go_ret
      exact ⟨by rw [Fin.out]; rfl, Hb.out⟩
end Go.Proofs.YtlfpfkallgkjdaaGreat.Qy
end

section
/- slices.IndexFunc, slices.ContainsFunc at tokens, fields, queries, over whatever function value. -/
namespace Go.Proofs.YtlfpfkallgkjdaaGreat.Qy
open Go.RowKit Go.Proofs.YtlfpfkallgkjdaaGreat Go.Proofs.YtlfpfkallgkjdaaGreat.Ut Go.Proofs.YtlfpfkallgkjdaaGreat.Tk
set_option maxRecDepth 20000

/-- A call of a function that has a body: it is entered. -/
theorem callFunc_enter {P : Program} {f : FuncId} {fn : Func} {c : Code} (hf : P.funcs[f]? = some fn) (hname : (fn.name == "runtime.NumGoroutine") = false) (hb : fn.body = some c) (args : Array Value) (w : World) :
    (callFunc f args).run P w = .ok (.enter f args) w := by
  have h1 : fn.name ≠ "runtime.NumGoroutine" := by simpa using hname
  simp [callFunc, hf, h1, hb]

set_option maxHeartbeats 400000 in
theorem containsTok (TA : Option Addr) (n tc : Nat) (T : List (List UInt8)) (f : Nat) (lb : Array Value) (p : Nat → Bool) (w : World) (hcf : ∀ args wx, (callFunc f args).run Tryz.prog wx = .ok (.enter f args) wx) (hT : Reads w w.heap.size 2 TA n (tokC (placed T))) (hn : T.length = n) (hn2 : n ≤ 1048576)
    (hf : ∀ i (h : i < T.length) wx, Below w.heap.size w wx → Calls Tryz.prog f (#[.agg #[.string (str T[i]), .int .i64 (i : Int)]] ++ lb) wx fun e w' => e = .returned (.bool (p i)) ∧ Below wx.heap.size wx w') :
    Calls Tryz.prog 160 #[.slice TA n tc, .func (.func f) #[] lb] w fun e w' => e = .returned (.bool ((List.range n).any p)) ∧ Below w.heap.size w w' := by
  have c1 := indexTok TA n tc T f lb p w hcf hT hn hn2 hf
  have Fin := Lib.hid (idxF_any p n)
  clear hT hn hn2 hf hcf
  generalize idxF p n = z at *
  go_enter Tryz.func160, Tryz.ntmps160
  go_wp2_with fail
  refine c1.mono ?_
  rintro e w1 ⟨rfl, hb1⟩
  have Hb1 := Lib.hid hb1
  clear hb1 c1
  go_wp2
  go_ret
  exact ⟨by rw [← Fin.out]; simp, Hb1.out⟩

set_option maxHeartbeats 800000 in
theorem indexFld (TA : Option Addr) (n tc : Nat) (T : List (ByteArray × ByteArray)) (f : Nat) (lb : Array Value) (p : Nat → Bool) (w : World) (hcf : ∀ args wx, (callFunc f args).run Tryz.prog wx = .ok (.enter f args) wx) (hT : Reads w w.heap.size 2 TA n (fldC T)) (hn : T.length = n) (hn2 : n ≤ 8796093021952)
    (hf : ∀ i (h : i < T.length) wx, Below w.heap.size w wx → Calls Tryz.prog f (#[.agg #[.string T[i].1, .string T[i].2]] ++ lb) wx fun e w' => e = .returned (.bool (p i)) ∧ Below wx.heap.size wx w') :
    Calls Tryz.prog 163 #[.slice TA n tc, .func (.func f) #[] lb] w fun e w' => e = .returned (.int .i64 (idxF p n)) ∧ Below w.heap.size w w' := by
  have HT := Lib.hid hT
  have Hn := Lib.hid hn
  have Hf := Lib.hid hf
  clear hT hn hf
  go_enter Tryz.func163, Tryz.ntmps163
  go_wp2
  go_loopw [8] (fun i wr => ∃ k : Nat, k ≤ n ∧ i = .int .i64 k ∧ (∀ j, j < k → p j = false) ∧ Below w.heap.size w wr) (fun i _ => n - (intOf i).toNat)
  case atStart => exact ⟨0, Nat.zero_le _, rfl, fun j hj => by omega, Below.refl _ _⟩
  case round =>
    obtain ⟨k, hk, rfl, hal, hb⟩ := hrel
    have Hal := Lib.hid hal
    have Hb := Lib.hid hb
    clear hal hb
    by_cases hlt : k < n
    · obtain ⟨tb, tq, rfl, htb, hc1, hc2⟩ := fields_at HT.out (k := k) (by rw [Hn.out]; exact hlt)
      have hd1 := (Hb.out.cell (p := ⟨tb, tq + k * 2, none⟩) htb).trans hc1
      have hd2 := (Hb.out.cell (p := ⟨tb, tq + k * 2 + 1, none⟩) htb).trans hc2
      have c1 := Hf.out k (by rw [Hn.out]; exact hlt) wr Hb.out
      clear hc1 hc2
      have Hs : Hid (∀ b, p k = b → (b = true → idxF p n = (k : Int)) ∧ (b = false → ∀ j, j < k + 1 → p j = false)) := Lib.hid (fun b hb => ⟨fun e => idxF_hit p n k hlt Hal.out (by rw [hb, e]), fun e j hj => by
        by_cases hjk : j = k
        · rw [hjk, hb, e]
        · exact Hal.out j (by omega)⟩)
      generalize (T[k]'(by rw [Hn.out]; exact hlt)) = x at *
      cases hp : p k with
      | true =>
        have Fin := Lib.hid ((Hs.out _ hp).1 rfl)
        rw [hp] at c1
        clear hp Hs
        go_wp2_with fail
        refine c1.mono ?_
        rintro e w2 ⟨rfl, hb2⟩
        have Hb2 := Lib.hid (Hb.out.trans (hb2.mono Hb.out.size))
        clear hb2 c1
        go_wp2
        go_ret
        exact ⟨by rw [Fin.out]; rfl, Hb2.out⟩
      | false =>
        have Hn2 := Lib.hid ((Hs.out _ hp).2 rfl)
        rw [hp] at c1
        clear hp Hs
        go_wp2_with fail
        refine c1.mono ?_
        rintro e w2 ⟨rfl, hb2⟩
        have Hb2 := Lib.hid (Hb.out.trans (hb2.mono Hb.out.size))
        clear hb2 c1
        go_wp2
        go_roundw
        case rel => exact ⟨k + 1, by omega, by go_num, Hn2.out, Hb2.out⟩
        case measure => simp [intOf]; omega
    · obtain rfl : k = n := by omega
      have Fin := Lib.hid (idxF_no p k Hal.out)
      go_wp2
      go_ret
      exact ⟨by rw [Fin.out]; rfl, Hb.out⟩

set_option maxHeartbeats 400000 in
theorem containsFld (TA : Option Addr) (n tc : Nat) (T : List (ByteArray × ByteArray)) (f : Nat) (lb : Array Value) (p : Nat → Bool) (w : World) (hcf : ∀ args wx, (callFunc f args).run Tryz.prog wx = .ok (.enter f args) wx) (hT : Reads w w.heap.size 2 TA n (fldC T)) (hn : T.length = n) (hn2 : n ≤ 8796093021952)
    (hf : ∀ i (h : i < T.length) wx, Below w.heap.size w wx → Calls Tryz.prog f (#[.agg #[.string T[i].1, .string T[i].2]] ++ lb) wx fun e w' => e = .returned (.bool (p i)) ∧ Below wx.heap.size wx w') :
    Calls Tryz.prog 128 #[.slice TA n tc, .func (.func f) #[] lb] w fun e w' => e = .returned (.bool ((List.range n).any p)) ∧ Below w.heap.size w w' := by
  have c1 := indexFld TA n tc T f lb p w hcf hT hn hn2 hf
  have Fin := Lib.hid (idxF_any p n)
  clear hT hn hn2 hf hcf
  generalize idxF p n = z at *
  go_enter Tryz.func128, Tryz.ntmps128
  go_wp2_with fail
  refine c1.mono ?_
  rintro e w1 ⟨rfl, hb1⟩
  have Hb1 := Lib.hid hb1
  clear hb1 c1
  go_wp2
  go_ret
  exact ⟨by rw [← Fin.out]; simp, Hb1.out⟩

set_option maxHeartbeats 800000 in
theorem indexQry (TA : Option Addr) (n tc : Nat) (k0 : Int) (nm0 : ByteArray) (ws0 : List ByteArray) (A0 : Option Addr) (n0 : Nat) (T : List Q) (f : Nat) (lb : Array Value) (p : Nat → Bool) (w : World) (hcf : ∀ args wx, (callFunc f args).run Tryz.prog wx = .ok (.enter f args) wx) (hT : QIs w w.heap.size k0 nm0 ws0 T A0 n0 TA n) (hn : T.length = n) (hn2 : n ≤ 8796093021952)
    (hf : ∀ i (h : i < T.length) a0 a1 a2 a3 wx, QAt w w.heap.size T[i] [a0, a1, a2, a3] → Below w.heap.size w wx → Calls Tryz.prog f (#[.agg #[a0, a1, a2, a3]] ++ lb) wx fun e w' => e = .returned (.bool (p i)) ∧ Below wx.heap.size wx w') :
    Calls Tryz.prog 130 #[.slice TA n tc, .func (.func f) #[] lb] w fun e w' => e = .returned (.int .i64 (idxF p n)) ∧ Below w.heap.size w w' := by
  have HT := Lib.hid hT
  have Hn := Lib.hid hn
  have Hf := Lib.hid hf
  clear hT hn hf
  go_enter Tryz.func130, Tryz.ntmps130
  go_wp2
  go_loopw [8] (fun i wr => ∃ k : Nat, k ≤ n ∧ i = .int .i64 k ∧ (∀ j, j < k → p j = false) ∧ Below w.heap.size w wr) (fun i _ => n - (intOf i).toNat)
  case atStart => exact ⟨0, Nat.zero_le _, rfl, fun j hj => by omega, Below.refl _ _⟩
  case round =>
    obtain ⟨k, hk, rfl, hal, hb⟩ := hrel
    have Hal := Lib.hid hal
    have Hb := Lib.hid hb
    clear hal hb
    by_cases hlt : k < n
    · obtain ⟨tb, tq, A', n', c', C', m', d', rfl, htb, hq, hc0, hc1, hc2, hc3⟩ := HT.out.at_ (i := k) (by rw [Hn.out]; exact hlt)
      have hd0 := (Hb.out.cell (p := ⟨tb, tq + k * 4, none⟩) htb).trans hc0
      have hd1 := (Hb.out.cell (p := ⟨tb, tq + k * 4 + 1, none⟩) htb).trans hc1
      have hd2 := (Hb.out.cell (p := ⟨tb, tq + k * 4 + 2, none⟩) htb).trans hc2
      have hd3 := (Hb.out.cell (p := ⟨tb, tq + k * 4 + 3, none⟩) htb).trans hc3
      have c1 := Hf.out k (by rw [Hn.out]; exact hlt) _ _ _ _ wr hq Hb.out
      clear hc0 hc1 hc2 hc3 hq
      have Hs : Hid (∀ b, p k = b → (b = true → idxF p n = (k : Int)) ∧ (b = false → ∀ j, j < k + 1 → p j = false)) := Lib.hid (fun b hb => ⟨fun e => idxF_hit p n k hlt Hal.out (by rw [hb, e]), fun e j hj => by
        by_cases hjk : j = k
        · rw [hjk, hb, e]
        · exact Hal.out j (by omega)⟩)
      generalize (T[k]'(by rw [Hn.out]; exact hlt)).kind = x0 at *
      generalize (T[k]'(by rw [Hn.out]; exact hlt)).name = x1 at *
      cases hp : p k with
      | true =>
        have Fin := Lib.hid ((Hs.out _ hp).1 rfl)
        rw [hp] at c1
        clear hp Hs
        go_wp2_with fail
        refine c1.mono ?_
        rintro e w2 ⟨rfl, hb2⟩
        have Hb2 := Lib.hid (Hb.out.trans (hb2.mono Hb.out.size))
        clear hb2 c1
        go_wp2
        go_ret
        exact ⟨by rw [Fin.out]; rfl, Hb2.out⟩
      | false =>
        have Hn2 := Lib.hid ((Hs.out _ hp).2 rfl)
        rw [hp] at c1
        clear hp Hs
        go_wp2_with fail
        refine c1.mono ?_
        rintro e w2 ⟨rfl, hb2⟩
        have Hb2 := Lib.hid (Hb.out.trans (hb2.mono Hb.out.size))
        clear hb2 c1
        go_wp2
        go_roundw
        case rel => exact ⟨k + 1, by omega, by go_num, Hn2.out, Hb2.out⟩
        case measure => simp [intOf]; omega
    · obtain rfl : k = n := by omega
      have Fin := Lib.hid (idxF_no p k Hal.out)
      go_wp2
      go_ret
      exact ⟨by rw [Fin.out]; rfl, Hb.out⟩

set_option maxHeartbeats 400000 in
theorem containsQry (TA : Option Addr) (n tc : Nat) (k0 : Int) (nm0 : ByteArray) (ws0 : List ByteArray) (A0 : Option Addr) (n0 : Nat) (T : List Q) (f : Nat) (lb : Array Value) (p : Nat → Bool) (w : World) (hcf : ∀ args wx, (callFunc f args).run Tryz.prog wx = .ok (.enter f args) wx) (hT : QIs w w.heap.size k0 nm0 ws0 T A0 n0 TA n) (hn : T.length = n) (hn2 : n ≤ 8796093021952)
    (hf : ∀ i (h : i < T.length) a0 a1 a2 a3 wx, QAt w w.heap.size T[i] [a0, a1, a2, a3] → Below w.heap.size w wx → Calls Tryz.prog f (#[.agg #[a0, a1, a2, a3]] ++ lb) wx fun e w' => e = .returned (.bool (p i)) ∧ Below wx.heap.size wx w') :
    Calls Tryz.prog 83 #[.slice TA n tc, .func (.func f) #[] lb] w fun e w' => e = .returned (.bool ((List.range n).any p)) ∧ Below w.heap.size w w' := by
  have c1 := indexQry TA n tc k0 nm0 ws0 A0 n0 T f lb p w hcf hT hn hn2 hf
  have Fin := Lib.hid (idxF_any p n)
  clear hT hn hn2 hf hcf
  generalize idxF p n = z at *
  go_enter Tryz.func83, Tryz.ntmps83
  go_wp2_with fail
  refine c1.mono ?_
  rintro e w1 ⟨rfl, hb1⟩
  have Hb1 := Lib.hid hb1
  clear hb1 c1
  go_wp2
  go_ret
  exact ⟨by rw [← Fin.out]; simp, Hb1.out⟩
end Go.Proofs.YtlfpfkallgkjdaaGreat.Qy
end
