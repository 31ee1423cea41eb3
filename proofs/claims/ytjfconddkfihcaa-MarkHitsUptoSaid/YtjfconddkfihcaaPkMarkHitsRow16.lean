/- loggiaref07: Words, IsWord, IsName, Term: the walks. -/
import Derived.Laws.StructEq
import Derived.RegionTactic
import Derived.ChangeAlike
import Derived.BigRegion
import Derived.Outline
import Derived.Maps.AppendAt
import Derived.Test.YtjfconddkfihcaaPkMarkHitsRow15
import Derived.Test.YtjfconddkfihcaaPkMarkHitsRow12
import Derived.Test.YtjfconddkfihcaaPkMarkHitsRow7
import Derived.Test.YtjfconddkfihcaaPkMarkHitsRow13
section
namespace Go.Proofs.Ytjfconddkfihcaa.Tk
open Go.RowKit Go.Proofs.Ytjfconddkfihcaa.Ut
set_option maxRecDepth 20000

set_option maxHeartbeats 800000 in
theorem words_ref (s : ByteArray) (w : World) (hs : s.size ≤ 1048576) : Calls Try.prog 18 #[.string s] w (StrPost w (words s.data.toList)) := by
  obtain ⟨i0, hi0, hz0, hz1, hz2⟩ := info_parts str_info
  have c0 := tokens_ref s w hs
  have hwl := words_len s
  generalize words s.data.toList = ws at *
  go_enter Try.func18, Try.ntmps18
  go_wp2_with fail
  refine c0.mono ?_
  rintro e w1 ⟨v, rfl, hown, hb1⟩
  obtain ⟨A, c, rfl, hR⟩ := own_shape hown
  have S0 : Strs w1 w1 (.slice none 0 0) [] := ⟨World.ownsRow_nil _ _ _ _, Below.refl _ _⟩
  have HR := Lib.hid hR
  have HS0 := Lib.hid S0
  have Hb1 := Lib.hid hb1
  clear hown hR S0 c0 hb1
  go_wp2_with fail
  go_loopw [4, 5] (fun v i wr => ∃ k : Nat, k ≤ ws.length ∧ i = .int .i64 k ∧ Strs w1 wr v (ws.take k)) (fun _ i _ => ws.length - (intOf i).toNat)
  case atStart => exact ⟨0, Nat.zero_le _, rfl, HS0.out⟩
  case round =>
    obtain ⟨k, hk, rfl, hT⟩ := hrel
    by_cases hlt : k < ws.length
    · obtain ⟨b, o, rfl, hb, hc1, hc2⟩ := toks_at HR.out rfl hlt
      have hd1 := (hT.bel.cell (p := ⟨b, o + k * 2, none⟩) hb).trans hc1
      have hts : ws.take (k + 1) = ws.take k ++ [ws[k]] := by rw [List.take_succ_eq_append_getElem hlt]
      have Hts := Lib.hid hts
      have htl : (ws.take k).length ≤ ws.length := by rw [List.length_take]; omega
      have hown := hT.own
      have hbs := hT.bel.size
      have HT := Lib.hid hT
      clear hts hc1 hc2 hT
      generalize ws[k] = x at *
      generalize ws.take k = y at *
      go_wp2_with (at_builtin; refine wpList_append_own _ rfl _ _ 28 rfl w1.heap.size 9 i0 _ 1 16 Try.underlying28 hi0 hz0 hz1 hz2 rfl (by decide) _ _ _ rfl (hown.alloc _) ⟨wr.heap.size, 0, none⟩ 1 1 [.string (str x)] rfl rfl ?d1 ?d2 ?d3 ?d4 ?d5 ?_)
      case d1 => exact World.news_of_block (cs := #[.string (str x)]) (t := 9) (fr := (0, 0)) (heap_alloc_new wr _)
      case d2 => intro u hu; simp at hu; subst hu; rfl
      case d3 => unfold maxLen; omega
      case d4 => omega
      case d5 => simp; omega
      intro v' w5 hown5 hg5 _
      have HT5 := Lib.hid ((HT.out.below ((Below.refl _ _).alloc (Nat.le_refl _) _)).put hown5 hg5)
      clear hown5 hg5 hown
      go_wp2
      go_roundw
      case rel => exact ⟨k + 1, by omega, by go_num, by rw [Hts.out]; exact HT5.out⟩
      case measure => simp [intOf]; omega
    · have hall : ws.take k = ws := List.take_of_length_le (by omega)
      rw [hall] at hT
      have HT := Lib.hid hT
      clear hT hall
      go_wp2
      go_ret
      exact ⟨_, rfl, HT.out.own.mono Hb1.out.size, Hb1.out.trans (HT.out.bel.mono Hb1.out.size)⟩

set_option maxHeartbeats 800000 in
theorem isWord_refB (s : ByteArray) (w : World) (hs : s.size ≤ 1048576) : Calls Try.prog 47 #[.string s] w fun e w' => e = .returned (.bool (isW s.data.toList)) ∧ Below w.heap.size w w' := by
  have c0 := tokens_refB s w hs
  have Fin : Hid (isW s.data.toList = (words s.data.toList == [s.data.toList])) := rfl
  generalize words s.data.toList = ws at *
  go_enter Try.func47, Try.ntmps47
  go_wp2_with fail
  refine c0.mono ?_
  rintro e w1 ⟨v, rfl, hown, hb1⟩
  obtain ⟨A, c, rfl, hR⟩ := own_shape hown
  have HR := Lib.hid hR
  have Hb1 := Lib.hid hb1
  clear hown hR c0 hb1
  by_cases h1 : ws.length = 1
  · obtain ⟨x, rfl⟩ : ∃ x, ws = [x] := by
      match ws, h1 with
      | [x], _ => exact ⟨x, rfl⟩
    obtain ⟨b, o, rfl, hb, hc1, hc2⟩ := toks_at HR.out rfl (k := 0) (by simp)
    simp at hc1
    clear hc2 h1
    go_wp2
    go_ret
    refine ⟨?_, Hb1.out⟩
    rw [Fin.out]
    simp [tl, str_data]
  · have h1' : ((ws.length : Int) == 1) = false := beq_eq_false_iff_ne.2 (by omega)
    have Fin2 : Hid ((ws == [s.data.toList]) = false) := Lib.hid (beq_eq_false_iff_ne.2 (fun e => h1 (by rw [e]; rfl)))
    clear h1
    go_wp2
    go_ret
    exact ⟨by rw [Fin.out, Fin2.out]; rfl, Hb1.out⟩

theorem isWord_ref (s : ByteArray) (w : World) (hs : s.size ≤ 1048576) : Calls Try.prog 47 #[.string s] w fun e w' => e = .returned (.bool (isW s.data.toList)) ∧ Below w.heap.size w w' :=
  isWord_refB s w (by omega)
set_option maxHeartbeats 800000 in
theorem isName_refB (s : ByteArray) (w : World) (hs : s.size ≤ 1048576) : Calls Try.prog 49 #[.string s] w fun e w' => e = .returned (.bool (isN s.data.toList)) ∧ w = w' := by
  have Fin : Hid (isN s.data.toList = (decide (1 ≤ s.data.toList.length) && decide (s.data.toList.length ≤ 32) && s.data.toList.all nameB)) := rfl
  rw [bsize] at Fin
  by_cases hl : 1 ≤ s.size ∧ s.size ≤ 32
  · have h1 : (1 : Int) ≤ (s.size : Int) := by omega
    have h2 : (s.size : Int) ≤ 32 := by omega
    have Fin2 : Hid (isN s.data.toList = s.data.toList.all nameB) := Lib.hid (by rw [Fin.out, decide_eq_true hl.1, decide_eq_true hl.2]; rfl)
    clear hl
    go_enter Try.func49, Try.ntmps49
    go_wp2
    go_loop [3] (fun i => ∃ k : Nat, k ≤ s.size ∧ i = .int .i64 k ∧ (s.data.toList.take k).all nameB = true) (fun i => s.size - (intOf i).toNat)
    case atStart => exact ⟨0, Nat.zero_le _, rfl, rfl⟩
    case round =>
      obtain ⟨k, hk, rfl, hal⟩ := hrel
      by_cases hlt : k < s.size
      · have hu := (s[k]).toNat_lt
        have hts := take_snoc s k hlt
        have hmem : s[k] ∈ s.data.toList := by
          have : s.data.toList[k]'(by rw [bsize]; exact hlt) = s[k] := rfl
          rw [← this]; exact List.getElem_mem _
        have Hal := Lib.hid hal
        rcases nameB_cases s[k] with ⟨hn, h⟩ | ⟨hn, h9, h⟩
        · have Hnx : Hid ((s.data.toList.take (k + 1)).all nameB = true) := Lib.hid (by rw [hts, List.all_append, Hal.out]; simp [hn])
          clear hal hts hmem hn
          rcases h with h | h | h
          all_goals
            go_wp2
            all_goals first
              | (go_round
                 case rel => exact ⟨k + 1, by omega, by go_num, Hnx.out⟩
                 case measure => simp [intOf]; omega)
              | (exfalso; simp only [bne_iff_ne, ne_eq, bne_eq_false_iff_eq, beq_eq_false_iff_ne, decide_eq_true_eq] at *; omega)
        · have Fin3 : Hid (isN s.data.toList = false) := Lib.hid (by
            rw [Fin2.out]
            exact List.all_eq_false.2 ⟨_, hmem, by rw [hn]; decide⟩)
          clear hal hts hmem hn
          have h9' : (((s[k]).toNat : Int) == 95) = false := by rw [beq_eq_false_iff_ne]; omega
          rcases h with h | h | h
          all_goals
            go_wp2
            all_goals first
              | (go_ret; exact ⟨by rw [Fin3.out]; rfl, rfl⟩)
              | (exfalso; simp only [Bool.not_eq_false', decide_eq_true_eq] at *; omega)
      · obtain rfl : k = s.size := by omega
        have htk : s.data.toList.take s.size = s.data.toList := List.take_of_length_le (Nat.le_of_eq (bsize s))
        rw [htk] at hal
        have Fin3 : Hid (isN s.data.toList = true) := Lib.hid (by rw [Fin2.out, hal])
        clear hal htk
        go_wp2
        go_ret
        exact ⟨by rw [Fin3.out]; rfl, rfl⟩
  · have Fin2 : Hid (isN s.data.toList = false) := Lib.hid (by
      rw [Fin.out]
      by_cases h1 : 1 ≤ s.size
      · rw [decide_eq_false (show ¬ s.size ≤ 32 by omega)]; simp
      · rw [decide_eq_false h1]; rfl)
    by_cases h1 : s.size < 1
    · have h1' : (s.size : Int) < 1 := by omega
      clear hl h1
      go_enter Try.func49, Try.ntmps49
      go_wp2
      go_ret
      exact ⟨by rw [Fin2.out]; rfl, rfl⟩
    · have h1' : (1 : Int) ≤ (s.size : Int) := by omega
      have h2' : (32 : Int) < (s.size : Int) := by omega
      clear hl h1
      go_enter Try.func49, Try.ntmps49
      go_wp2
      go_ret
      exact ⟨by rw [Fin2.out]; rfl, rfl⟩

theorem isName_ref (s : ByteArray) (w : World) (hs : s.size ≤ 1048576) : Calls Try.prog 49 #[.string s] w fun e w' => e = .returned (.bool (isN s.data.toList)) ∧ w = w' :=
  isName_refB s w (by omega)
set_option maxHeartbeats 400000 in
theorem termr_noB (a b : ByteArray) (w : World) (ha : a.size ≤ 1048576) (hb : b.size ≤ 1048576) (h : termOk a b = false) : Calls Try.prog 43 #[.string a, .string b] w fun e w' => e = .returned (.tuple #[.string ByteArray.empty, .int .i64 1]) ∧ Below w.heap.size w w' := by
  have c1 := isName_refB a w ha
  by_cases hn : isN a.data.toList = true
  · have hw : isW b.data.toList = false := by unfold termOk at h; rw [hn, Bool.true_and] at h; exact h
    have c2 := isWord_refB b w hb
    rw [hn] at c1
    rw [hw] at c2
    clear hn hw h
    go_enter Try.func43, Try.ntmps43
    go_wp2_with (first | (go_at_call 49; refine c1.mono ?_; rintro e w2 ⟨rfl, rfl⟩) | (go_at_call 47; refine c2.mono ?_; rintro e w3 ⟨rfl, hb3⟩))
    go_ret2
    exact ⟨rfl, hb3⟩
  · have hn' : isN a.data.toList = false := by simpa using hn
    rw [hn'] at c1
    clear hn hn' h
    go_enter Try.func43, Try.ntmps43
    go_wp2_with (go_at_call 49; refine c1.mono ?_; rintro e w2 ⟨rfl, rfl⟩)
    go_ret2
    exact ⟨rfl, Below.refl _ _⟩
theorem termr_no (a b : ByteArray) (w : World) (ha : a.size ≤ 1048576) (hb : b.size ≤ 1048576) (h : termOk a b = false) : Calls Try.prog 43 #[.string a, .string b] w fun e w' => e = .returned (.tuple #[.string ByteArray.empty, .int .i64 1]) ∧ Below w.heap.size w w' :=
  termr_noB a b w (by omega) (by omega) h
set_option maxHeartbeats 400000 in
theorem termr_yesB (a b : ByteArray) (w : World) (ha : a.size ≤ 1048576) (hb : b.size ≤ 1048576) (h : termOk a b = true) : Calls Try.prog 43 #[.string a, .string b] w fun e w' => e = .returned (.tuple #[.string (termV a b), .int .i64 0]) ∧ Below w.heap.size w w' := by
  unfold termOk at h
  rw [Bool.and_eq_true] at h
  have c1 := isName_refB a w ha
  have c2 := isWord_refB b w hb
  rw [h.1] at c1
  rw [h.2] at c2
  have F : Hid (a ++ colonS ++ b = termV a b) := Lib.hid (termV_eq a b)
  clear h
  generalize termV a b = t at *
  go_enter Try.func43, Try.ntmps43
  go_wp2_with (first | (go_at_call 49; refine c1.mono ?_; rintro e w2 ⟨rfl, rfl⟩) | (go_at_call 47; refine c2.mono ?_; rintro e w3 ⟨rfl, hb3⟩))
  go_ret2
  rw [← F.out]
  exact ⟨rfl, hb3⟩
theorem termr_yes (a b : ByteArray) (w : World) (ha : a.size ≤ 1048576) (hb : b.size ≤ 1048576) (h : termOk a b = true) : Calls Try.prog 43 #[.string a, .string b] w fun e w' => e = .returned (.tuple #[.string (termV a b), .int .i64 0]) ∧ Below w.heap.size w w' :=
  termr_yesB a b w (by omega) (by omega) h
end Go.Proofs.Ytjfconddkfihcaa.Tk
end

section
/- loggiaref07: SameWords, Same at equal rows; the law's cut. -/
namespace Go.Proofs.Ytjfconddkfihcaa.Tk
open Go.RowKit Go.Proofs.Ytjfconddkfihcaa.Ut
set_option maxRecDepth 20000

theorem sv_get (ws : List (List UInt8)) (k : Nat) (h : k < ws.length) : (sv ws)[k]? = some (.string (str ws[k])) := by simp [sv, List.getElem?_eq_getElem h]
set_option maxHeartbeats 400000 in
theorem sameWords_eq (A A' : Option Addr) (c c' B : Nat) (ws : List (List UInt8)) (w : World) (h : Reads w B 1 A ws.length (sv ws)) (h' : Reads w B 1 A' ws.length (sv ws)) (hB : B ≤ w.heap.size) (hl : ws.length ≤ 8796093021952) :
    Calls Try.prog 34 #[.slice A ws.length c, .slice A' ws.length c'] w fun e w' => e = .returned (.bool true) ∧ Below w.heap.size w w' := by
  have H := Lib.hid h
  have H' := Lib.hid h'
  clear h h'
  go_enter Try.func34, Try.ntmps34
  go_wp2
  go_loopw [5] (fun i wr => ∃ k : Nat, k ≤ ws.length ∧ i = .int .i64 k ∧ Below w.heap.size w wr) (fun i _ => ws.length - (intOf i).toNat)
  case atStart => exact ⟨0, Nat.zero_le _, rfl, Below.refl _ _⟩
  case round =>
    obtain ⟨k, hk, rfl, hb⟩ := hrel
    by_cases hlt : k < ws.length
    · obtain ⟨b, o, u, rfl, hbb, hu, hcw⟩ := H.out.at_ hlt
      obtain ⟨b', o', u', rfl, hbb', hu', hcw'⟩ := H'.out.at_ hlt
      rw [sv_get ws k hlt] at hu hu'
      injection hu with hu
      injection hu' with hu'
      subst hu hu'
      have d1 := (hb.cell (p := ⟨b, o + k, none⟩) (Nat.lt_of_lt_of_le hbb hB)).trans hcw
      have d2 := (hb.cell (p := ⟨b', o' + k, none⟩) (Nat.lt_of_lt_of_le hbb' hB)).trans hcw'
      have Hb := Lib.hid hb
      clear hcw hcw' hb
      generalize str ws[k] = s at *
      go_wp2
      go_region
      go_wp2
      go_roundw
      case rel => exact ⟨k + 1, by omega, by go_num, Hb.out.drew⟩
      case measure => simp [intOf]; omega
    · have Hb := Lib.hid hb
      clear hb
      go_wp2
      go_ret
      exact ⟨rfl, Hb.out⟩

theorem tok_self (s : ByteArray) (n : Int) (w : World) : (binOp .neq 74 (.agg #[.string s, .int .i64 n]) (.agg #[.string s, .int .i64 n])).run Try.prog w = .ok (.bool false) w := by
  have u1 := Try.underlying9
  have u3 := Try.underlying3
  have a1 := Try.isAgg9
  have z1 := Try.sizeOf9
  have a3 := Try.isAgg3
  have z3 := Try.sizeOf3
  have hS : Try.prog.underlying 74 = some (.struct (Try.prog.fieldsOf 74)) := by kernel_rfl
  have hp : Try.prog.stoodInHeld 74 = false := by kernel_rfl
  rw [run_neq_struct, show (10000 : Nat) = 9999 + 1 from rfl, run_equalIn_agg w 9999 74 _ _ hS hp]
  simp only [Program.fieldsOf, Try.underlying74]
  go_simp

set_option maxHeartbeats 400000 in
theorem same_eq (A A' : Option Addr) (c c' B : Nat) (ws : List (List UInt8)) (w : World) (h : Reads w B 2 A ws.length (tokC (placed ws))) (h' : Reads w B 2 A' ws.length (tokC (placed ws))) (hB : B ≤ w.heap.size) (hl : ws.length ≤ 8796093021952) :
    Calls Try.prog 37 #[.slice A ws.length c, .slice A' ws.length c'] w fun e w' => e = .returned (.bool true) ∧ Below w.heap.size w w' := by
  have H := Lib.hid h
  have H' := Lib.hid h'
  clear h h'
  go_enter Try.func37, Try.ntmps37
  go_wp2
  go_loopw [5] (fun i wr => ∃ k : Nat, k ≤ ws.length ∧ i = .int .i64 k ∧ Below w.heap.size w wr) (fun i _ => ws.length - (intOf i).toNat)
  case atStart => exact ⟨0, Nat.zero_le _, rfl, Below.refl _ _⟩
  case round =>
    obtain ⟨k, hk, rfl, hb⟩ := hrel
    by_cases hlt : k < ws.length
    · obtain ⟨b, o, rfl, hbb, hc1, hc2⟩ := toks_at H.out rfl hlt
      obtain ⟨b', o', rfl, hbb', hc1', hc2'⟩ := toks_at H'.out rfl hlt
      have d1 := (hb.cell (p := ⟨b, o + k * 2, none⟩) (Nat.lt_of_lt_of_le hbb hB)).trans hc1
      have d2 := (hb.cell (p := ⟨b, o + k * 2 + 1, none⟩) (Nat.lt_of_lt_of_le hbb hB)).trans hc2
      have d3 := (hb.cell (p := ⟨b', o' + k * 2, none⟩) (Nat.lt_of_lt_of_le hbb' hB)).trans hc1'
      have d4 := (hb.cell (p := ⟨b', o' + k * 2 + 1, none⟩) (Nat.lt_of_lt_of_le hbb' hB)).trans hc2'
      have hself := fun W => tok_self (str ws[k]) (k : Int) W
      have Hb := Lib.hid hb
      clear hc1 hc2 hc1' hc2' hb
      generalize str ws[k] = s at *
      go_wp2
      go_region
      go_wp2
      go_roundw
      case rel => exact ⟨k + 1, by omega, by go_num, Hb.out.drew⟩
      case measure => simp [intOf]; omega
    · have Hb := Lib.hid hb
      clear hb
      go_wp2
      go_ret
      exact ⟨rfl, Hb.out⟩

/-- A text's first bytes. -/
def ct (n : Nat) (s : ByteArray) : ByteArray := s.extract 0 (min s.size n)
theorem ct_size (n : Nat) (s : ByteArray) : (ct n s).size ≤ n := by unfold ct; rw [ByteArray.size_extract]; omega
theorem lcut_any (s : ByteArray) (w : World) (hs : s.size ≤ 140737488351232) : Calls Try.prog 36 #[.string s] w fun e w' => e = .returned (.string (ct 1500 s)) ∧ w = w' := by
  have F : Hid (ct 1500 s = s.extract 0 (min s.size 1500)) := rfl
  generalize ct 1500 s = r at *
  have hm : (min (s.size : Int) 1500).toNat = min s.size 1500 := by omega
  have Hm := Lib.hid hm
  clear hm
  by_cases h : s.size ≤ 1500
  · have h' : (s.size : Int) ≤ 1500 := by omega
    clear h
    go_enter Try.func36, Try.ntmps36
    go_wp2
    go_ret
    rw [F.out, ← Hm.out]
    exact ⟨rfl, rfl⟩
  · have h' : (1500 : Int) < (s.size : Int) := by omega
    clear h
    go_enter Try.func36, Try.ntmps36
    go_wp2
    go_ret
    rw [F.out, ← Hm.out]
    exact ⟨rfl, rfl⟩
end Go.Proofs.Ytjfconddkfihcaa.Tk
end

section
/- loggialaw19.Few: the walk. -/
namespace Go.Proofs.Ytjfconddkfihcaa.Qy
open Go.RowKit Go.Proofs.Ytjfconddkfihcaa Go.Proofs.Ytjfconddkfihcaa.Ut Go.Proofs.Ytjfconddkfihcaa.Tk
set_option maxRecDepth 20000
set_option linter.unusedSimpArgs false

def cutF (f : ByteArray × ByteArray) : ByteArray × ByteArray := (f.1, ct 300 f.2)
def fewF (d : Dc) : Dc := ⟨d.seq, d.at_, (d.fs.take 8).map cutF⟩
def fewD (ds : List Dc) : List Dc := (ds.take 40).map fewF
/-- Docs of the call's own, handed back. -/
def DocPost (w : World) (ds : List Dc) (e : Ending) (w' : World) : Prop := ∃ v, e = .returned v ∧ DocsOwn w w' v ds
theorem doc_info : (Try.prog.info? 80).map (fun i => (i.zero, i.size, i.bytes)) = some (some (.agg #[.int .i64 0, .int .i64 0, .slice none 0 0]), 3, 40) := by kernel_rfl
theorem fld_info : (Try.prog.info? 54).map (fun i => (i.zero, i.size, i.bytes)) = some (some (.agg #[.string ByteArray.empty, .string ByteArray.empty]), 2, 32) := by kernel_rfl
theorem fldC_snoc (fs : List (ByteArray × ByteArray)) (f : ByteArray × ByteArray) : fldC (fs ++ [f]) = fldC fs ++ [.string f.1, .string f.2] := by simp [fldC]

theorem own_succ {w : World} {base : Nat} {e : TypeId} {size n : Nat} {v : Value} {xs : List Value} (h : w.ownsRow base e size v (n + 1) xs) : ∃ g q, v = .slice (some ⟨g, 0, none⟩) (n + 1) q := by
  rcases h.2 with ⟨_, h0⟩ | ⟨g, cap, cur, hv, _⟩
  · omega
  · exact ⟨g, cap, hv⟩
theorem grownBy_setC (w : World) (h o : Nat) (u : Value) : w.grownBy (w.setCell ⟨h, o, none⟩ u) (some h) :=
  ⟨rfl, rfl, rfl, by simp [World.setCell], fun k _ hne => Below.heap_setCell _ _ _ _ (fun e => hne (by rw [e]))⟩
/-- A row of the call's own, as it stands. -/
theorem own_shape2 {w : World} {base : Nat} {e : TypeId} {size n : Nat} {v : Value} {xs : List Value} (h : w.ownsRow base e size v n xs) :
    ∃ A c, v = .slice A n c ∧ Reads w w.heap.size size A n xs ∧ n ≤ c ∧ (A = none → c = 0) ∧ (0 < n → ∃ g, A = some ⟨g, 0, none⟩ ∧ ∃ cur, w.heap[g]? = some (.cells cur e (0, 0))) := by
  obtain ⟨A, c, rfl, hR⟩ := own_shape h
  refine ⟨A, c, rfl, hR, ?_⟩
  rcases h.2 with ⟨hv, h0⟩ | ⟨g, cap, cur, hv, _, hg, hnc, _⟩
  · injection hv with _ _ hc
    exact ⟨by omega, fun _ => hc, fun h => by omega⟩
  · injection hv with hA _ hc
    exact ⟨by omega, fun e => (by rw [hA] at e; cases e), fun _ => ⟨g, hA, cur, hg⟩⟩
/-- What is being collected of a doc's fields. -/
structure Flds (wo wq : World) (pd : Nat) (s a : Int) (fs : List (ByteArray × ByteArray)) : Prop where
  ex : ∃ v, Blk wq pd 80 #[.int .i64 s, .int .i64 a, v] ∧ wq.ownsRow (wo.heap.size + 1) 54 2 v fs.length (fldC fs)
  bel : Below wo.heap.size wo wq
  ge : pd = wo.heap.size

set_option maxHeartbeats 6400000 in
theorem fewD_any (A : Option Addr) (n c : Nat) (ds : List Dc) (w : World) (hD : DocsAt w w.heap.size A n ds) (hn : n ≤ 8796093021952) (hs : ∀ d ∈ ds, ∀ f ∈ d.fs, f.2.size ≤ 140737488351232) :
    Calls Try.prog 53 #[.slice A n c] w (DocPost w (fewD ds)) := by
  obtain ⟨i0, hi0, hz0, hz1, hz2⟩ := info_parts doc_info
  obtain ⟨j0, hj0, hy0, hy1', hy2'⟩ := info_parts fld_info
  have HD := Lib.hid hD
  have Hs := Lib.hid hs
  have Hl := Lib.hid hD.ln
  clear hD hs
  go_enter Try.func53, Try.ntmps53
  go_wp2
  go_loopw [3, 4] (fun v i wr => ∃ k : Nat, k ≤ n ∧ k ≤ 40 ∧ i = .int .i64 k ∧ DocsOwn w wr v ((ds.take k).map fewF)) (fun _ i _ => 40 - (intOf i).toNat)
  case atStart => exact ⟨0, Nat.zero_le _, by omega, rfl, DocsOwn.start w⟩
  case round =>
    obtain ⟨k, hk, hk40, rfl, hO⟩ := hrel
    have HO := Lib.hid hO
    clear hO
    by_cases hlt : k < n ∧ k < 40
    · obtain ⟨hlt, hl40⟩ := hlt
      have hl40' : (k : Int) < 40 := by omega
      have hkl : k < ds.length := by rw [Hl.out]; exact hlt
      obtain ⟨b, o, F, fn, fc, rfl, hb, hc0, hc1, hc2, hR, hfl, hfn, _, _⟩ := (HD.out.keep fun _ _ hp => HO.out.bel.cell hp).at_ hkl
      have hts : (ds.take (k + 1)).map fewF = (ds.take k).map fewF ++ [fewF ds[k]] := by rw [List.take_succ_eq_append_getElem hkl, List.map_append]; rfl
      have Hts := Lib.hid hts
      have hsz : ∀ f ∈ (ds[k]'hkl).fs, f.2.size ≤ 140737488351232 := fun f hf => Hs.out _ (List.getElem_mem hkl) f hf
      have hfd : fewF ds[k] = ⟨ds[k].seq, ds[k].at_, (ds[k].fs.take 8).map cutF⟩ := rfl
      have Hfd := Lib.hid hfd
      have HR := Lib.hid hR
      have Hfl := Lib.hid hfl
      have Hsz := Lib.hid hsz
      have hbw : w.heap.size ≤ wr.heap.size := HO.out.bel.size
      have hO2 : ((ds.take k).map fewF).length ≤ 40 := by rw [List.length_map, List.length_take]; omega
      clear hts hfd hR hfl hsz
      generalize hdd : fewF ds[k] = dd at *
      generalize ds[k].seq = s at *
      generalize ds[k].at_ = a at *
      generalize ds[k].fs = fs at *
      generalize (ds.take k).map fewF = out at *
      have Hdd := Lib.hid hdd
      clear hdd
      obtain ⟨wo, rfl⟩ : ∃ wo : World, wo = wr := ⟨_, rfl⟩
      have S0 : Flds wo (wo.alloc (.cells #[.int .i64 s, .int .i64 a, .slice none 0 0] 80)) wo.heap.size s a [] :=
        ⟨⟨_, Blk.new wo _ _, World.ownsRow_nil _ _ _ _⟩, (Below.refl _ _).alloc (Nat.le_refl _) _, rfl⟩
      have HS0 := Lib.hid S0
      clear S0
      go_wp2_with fail
      go_loopw [6] (fun i wq => ∃ j : Nat, j ≤ fn ∧ j ≤ 8 ∧ i = .int .i64 j ∧ Flds wo wq wo.heap.size s a ((fs.take j).map cutF)) (fun i _ => 8 - (intOf i).toNat)
      case atStart => exact ⟨0, Nat.zero_le _, by omega, rfl, HS0.out⟩
      case round =>
        obtain ⟨j, hj, hj8, rfl, hW⟩ := hrel
        have HW := Lib.hid hW
        have hbo : b < wo.heap.size := by omega
        have hbq := hW.bel
        have hd0 := (hbq.cell (p := ⟨b, o + k * 3, none⟩) hbo).trans hc0
        have hd1 := (hbq.cell (p := ⟨b, o + k * 3 + 1, none⟩) hbo).trans hc1
        have hd2 := (hbq.cell (p := ⟨b, o + k * 3 + 2, none⟩) hbo).trans hc2
        obtain ⟨v2, hB, hown⟩ := hW.ex
        have hzq := hbq.size
        have HO2 := Lib.hid (HO.out.below hbq)
        clear hW hbq
        by_cases hjl : j < fn ∧ j < 8
        · obtain ⟨hjl, hj8l⟩ := hjl
          have hj8' : (j : Int) < 8 := by omega
          have hji : (j : Int) < (fn : Int) := by omega
          have hjx0 : (0 : Int) ≤ (j : Int) := by omega
          have hjf : j < fs.length := by rw [Hfl.out]; exact hjl
          obtain ⟨fb, fo, rfl, hfb, hx1, hx2⟩ := fields_at HR.out hjf
          have hbq := HW.out.bel
          have hfo : fb < wo.heap.size := by omega
          have hy1 := (hbq.cell (p := ⟨fb, fo + j * 2, none⟩) hfo).trans hx1
          have hy2 := (hbq.cell (p := ⟨fb, fo + j * 2 + 1, none⟩) hfo).trans hx2
          have hts : (fs.take (j + 1)).map cutF = (fs.take j).map cutF ++ [cutF fs[j]] := by rw [List.take_succ_eq_append_getElem hjf, List.map_append]; rfl
          have hcf : cutF fs[j] = (fs[j].1, ct 300 fs[j].2) := rfl
          rw [hcf] at hts
          have Hts2 := Lib.hid hts
          have hsx := Hsz.out _ (List.getElem_mem hjf)
          have hlen : ((fs.take j).map cutF).length ≤ 8 := by rw [List.length_map, List.length_take]; omega
          have hcr : ∀ m : Nat, (m : Int) = min (fs[j].2.size : Int) 300 → fs[j].2.extract 0 m = ct 300 fs[j].2 := fun m hm => by unfold ct; congr 1; omega
          clear hbq hts hcf hx1 hx2
          generalize fs[j].1 = x at *
          generalize ct 300 fs[j].2 = r at *
          generalize fs[j].2 = y at *
          generalize (fs.take j).map cutF = P at *
          have hb0 := hB.cell 0
          have hb1 := hB.cell 1
          have hb2 := hB.cell 2
          have hbf := hB.frozen 2
          simp at hb0 hb1 hb2
          have hlt2 := hB.lt
          have HBq := Lib.hid hB
          have hb2a := fun o => (World.cell?_alloc_lt wr o ⟨wo.heap.size, 2, none⟩ hlt2).trans hb2
          have hb2b := fun o o' => (World.cell?_alloc_lt (wr.alloc o) o' ⟨wo.heap.size, 2, none⟩ (by simp; omega)).trans (hb2a o)
          obtain ⟨A2, q2, rfl, _⟩ := own_shape hown
          have hz0s : (0 : Int) ≤ (y.size : Int) := Int.natCast_nonneg _
          have hcut : y.extract 0 (min (y.size : Int) 300).toNat = r := hcr _ (by omega)
          clear hcr hB
          go_wp2_with (at_builtin; refine wpList_append_own _ rfl _ _ 47 rfl (wo.heap.size + 1) 54 j0 _ 2 32 Try.underlying47 hj0 hy0 hy1' hy2' rfl (by decide) _ _ _ rfl ((hown.alloc _).alloc _) ⟨wr.heap.size + 1, 0, none⟩ 1 1 [.string x, .string r] rfl rfl ?d1 ?d2 ?d3 ?d4 ?d5 ?_)
          case d1 => exact World.news_of_block (cs := #[.string x, .string r]) (t := 54) (fr := (0, 0)) (new2 wr _ _)
          case d2 => intro u hu; simp at hu; rcases hu with rfl | rfl <;> rfl
          case d3 => unfold maxLen; omega
          case d4 => omega
          case d5 => simp; omega
          intro v' w5 hown5 hg5 _
          obtain ⟨g5, q5, rfl⟩ := own_succ hown5
          have hB5 := ((HBq.out.alloc (.cells #[.string x, .string r] 54)).alloc (.cells #[.string x, .string r] 54)).grown hg5 (fun e => by have := hown.lt _ e.symm; omega)
          have hb52 := hB5.cell 2
          have hbf5 := hB5.frozen 2
          simp at hb52
          have hb5bel : Below wo.heap.size wo w5 := ((HW.out.bel.alloc hzq (.cells #[.string x, .string r] 54)).alloc (by simp; omega) (.cells #[.string x, .string r] 54)).grown hg5 (by simp; omega) (fun e he => by have := (hown.lt _ he).1; omega)
          have g5lt := (hown5.lt g5 rfl).1
          have Fin : Hid (Flds wo (w5.setCell ⟨wo.heap.size, 2, none⟩ (.slice (some ⟨g5, 0, none⟩) (P.length + 1) q5)) wo.heap.size s a (P ++ [(x, r)])) := Lib.hid
            ⟨⟨_, hB5.set_ 2 _, by
              rw [List.length_append, fldC_snoc]
              exact hown5.kept (grownBy_setC w5 wo.heap.size 2 _) (.inr (by simp [Value.ownBlock]; omega))⟩, hb5bel.setCell (p := ⟨wo.heap.size, 2, none⟩) (Nat.le_refl _) _, rfl⟩
          clear hB5 hb5bel hown5 hg5 hown hb2a hb2b
          go_wp2
          go_roundw
          case rel => exact ⟨j + 1, by omega, by omega, by go_num, by rw [Hts2.out]; exact Fin.out⟩
          case measure => simp [intOf]; omega
        · have hjn : j = fn ∨ j = 8 := by omega
          have hP : (fs.take j).map cutF = (fs.take 8).map cutF := by
            rcases hjn with rfl | rfl
            · rw [List.take_of_length_le (by rw [Hfl.out]; exact Nat.le_refl _), List.take_of_length_le (by rw [Hfl.out]; omega)]
            · rfl
          have hPl : ((fs.take 8).map cutF).length ≤ 8 := by rw [List.length_map, List.length_take]; omega
          rw [hP] at hown
          have Hfd2 := Lib.hid (Hfd.out)
          generalize (fs.take 8).map cutF = P at *
          obtain ⟨A2, q2, rfl, hR2, hnq, hnl2, hg2⟩ := own_shape2 hown
          have hb0 := hB.cell 0
          have hb1 := hB.cell 1
          have hb2 := hB.cell 2
          simp at hb0 hb1 hb2
          have hal : Below wr.heap.size wr (wr.alloc (.cells #[.int .i64 s, .int .i64 a, .slice A2 P.length q2] 80)) := (Below.refl _ _).alloc (Nat.le_refl _) _
          have hO3 := HO2.out.below hal
          obtain ⟨vss, g1, g2, g3⟩ := hO3.ex
          have hDc : DcV (wr.alloc (.cells #[.int .i64 s, .int .i64 a, .slice A2 P.length q2] 80)) (wr.alloc (.cells #[.int .i64 s, .int .i64 a, .slice A2 P.length q2] 80)).heap.size dd [.int .i64 s, .int .i64 a, .slice A2 P.length q2] := by
            rw [Hfd2.out]
            exact ⟨A2, P.length, q2, rfl, (hR2.below hal).more hal.size, rfl, by omega, hnq, hnl2⟩
          have hFar : Far (wr.alloc (.cells #[.int .i64 s, .int .i64 a, .slice A2 P.length q2] 80)) w.heap.size [.int .i64 s, .int .i64 a, .slice A2 P.length q2] := by
            intro F' fn' fc' hv hn'
            simp only [List.getElem?_cons_succ, List.getElem?_cons_zero, Option.some.injEq, Value.slice.injEq] at hv
            obtain ⟨rfl, rfl, rfl⟩ := hv
            obtain ⟨g, rfl, cur, hg⟩ := hg2 hn'
            have hlt : g < wr.heap.size := (Array.getElem?_eq_some_iff.1 hg).1
            exact ⟨g, 0, rfl, .inr ⟨cur, (0, 0), (hal.block g hlt).trans hg⟩⟩
          have HDc := Lib.hid hDc
          have HFar := Lib.hid hFar
          have HX : Hid (∃ vs : List (List Value), vs.length = out.length ∧ (wr.alloc (.cells #[.int .i64 s, .int .i64 a, .slice A2 P.length q2] 80)).ownsRow w.heap.size 80 3 u3 out.length vs.flatten ∧
            (∀ i (h : i < out.length) (h' : i < vs.length), DcV (wr.alloc (.cells #[.int .i64 s, .int .i64 a, .slice A2 P.length q2] 80)) (wr.alloc (.cells #[.int .i64 s, .int .i64 a, .slice A2 P.length q2] 80)).heap.size out[i] vs[i] ∧ Far (wr.alloc (.cells #[.int .i64 s, .int .i64 a, .slice A2 P.length q2] 80)) w.heap.size vs[i]) ∧ vss.flatten = vs.flatten) := Lib.hid ⟨vss, g1, g2, g3, rfl⟩
          have HO3 := Lib.hid hO3
          have hwr : w.heap.size ≤ wr.heap.size := by omega
          clear hDc hFar hO3 g1 g3 hR2 hnq hnl2 hg2 hown hB hal hP
          have close : ∀ v' w5, w5.ownsRow w.heap.size 80 3 v' (out.length + 1) (vss.flatten ++ [.int .i64 s, .int .i64 a, .slice A2 P.length q2]) → (wr.alloc (.cells #[.int .i64 s, .int .i64 a, .slice A2 P.length q2] 80)).grownBy w5 u3.ownBlock → DocsOwn w w5 v' (out ++ [dd]) :=
            fun v' w5 h1 h2 => HO3.out.put HX.out h1 h2 HDc.out HFar.out
          have Close := Lib.hid close
          clear close
          by_cases hjf : j < fn
          · obtain rfl : j = 8 := by omega
            have hjf' : (8 : Int) < (fn : Int) := by omega
            have hjf'' : ¬ ((8 : Nat) : Int) < 8 := by omega
            go_wp2_with (at_builtin; refine wpList_append_own _ rfl _ _ 75 rfl w.heap.size 80 i0 _ 3 40 Try.underlying75 hi0 hz0 hz1 hz2 rfl (by decide) _ _ _ rfl g2 ⟨wr.heap.size, 0, none⟩ 1 1 [.int .i64 s, .int .i64 a, .slice A2 P.length q2] rfl rfl ?d1 ?d2 ?d3 ?d4 ?d5 ?_)
            try (case d1 => exact World.news_of_block (cs := #[.int .i64 s, .int .i64 a, .slice A2 P.length q2]) (t := 80) (fr := (0, 0)) (heap_alloc_new wr _))
            case d2 => first | (intro u hu; simp at hu; rcases hu with rfl | rfl | rfl <;> rfl) | rfl | simp [Value.oneCell']
            case d3 => unfold maxLen; omega
            case d4 => omega
            case d5 => first | omega | (simp; omega)
            intro v' w5 hown5 hg5 _
            have Fin := Lib.hid (Close.out v' w5 hown5 hg5)
            clear hown5 hg5
            go_wp2
            go_roundw
            case rel => exact ⟨k + 1, by omega, by omega, by go_num, by rw [Hts.out]; exact Fin.out⟩
            case measure => simp [intOf]; omega
          · have hjf' : ¬ (j : Int) < (fn : Int) := by omega
            go_wp2_with (at_builtin; refine wpList_append_own _ rfl _ _ 75 rfl w.heap.size 80 i0 _ 3 40 Try.underlying75 hi0 hz0 hz1 hz2 rfl (by decide) _ _ _ rfl g2 ⟨wr.heap.size, 0, none⟩ 1 1 [.int .i64 s, .int .i64 a, .slice A2 P.length q2] rfl rfl ?d1 ?d2 ?d3 ?d4 ?d5 ?_)
            try (case d1 => exact World.news_of_block (cs := #[.int .i64 s, .int .i64 a, .slice A2 P.length q2]) (t := 80) (fr := (0, 0)) (heap_alloc_new wr _))
            case d2 => first | (intro u hu; simp at hu; rcases hu with rfl | rfl | rfl <;> rfl) | rfl | simp [Value.oneCell']
            case d3 => unfold maxLen; omega
            case d4 => omega
            case d5 => first | omega | (simp; omega)
            intro v' w5 hown5 hg5 _
            have Fin := Lib.hid (Close.out v' w5 hown5 hg5)
            clear hown5 hg5
            go_wp2
            go_roundw
            case rel => exact ⟨k + 1, by omega, by omega, by go_num, by rw [Hts.out]; exact Fin.out⟩
            case measure => simp [intOf]; omega
    · have Fin : Hid ((ds.take k).map fewF = fewD ds) := Lib.hid (by
        unfold fewD
        by_cases h : k = 40
        · rw [h]
        · rw [List.take_of_length_le (by rw [Hl.out]; omega), List.take_of_length_le (by rw [Hl.out]; omega)])
      rw [Fin.out] at HO
      by_cases hkn : k < n
      · have hk4 : ¬ (k : Int) < 40 := by omega
        have hkn' : (k : Int) < (n : Int) := by omega
        go_wp2
        go_ret
        exact ⟨_, rfl, HO.out⟩
      · have hkn' : ¬ (k : Int) < (n : Int) := by omega
        go_wp2
        go_ret
        exact ⟨_, rfl, HO.out⟩
end Go.Proofs.Ytjfconddkfihcaa.Qy
end

section
/- match.Needs$1 (add): the walk. -/
namespace Go.Proofs.Ytjfconddkfihcaa.Qy
open Go.RowKit Go.Proofs.Ytjfconddkfihcaa Go.Proofs.Ytjfconddkfihcaa.Ut Go.Proofs.Ytjfconddkfihcaa.Tk
set_option maxRecDepth 20000
set_option linter.unusedSimpArgs false

def bsv (l : List ByteArray) : List Value := l.map Value.string
theorem bsv_snoc (l : List ByteArray) (x : ByteArray) : bsv (l ++ [x]) = bsv l ++ [.string x] := by simp [bsv]
theorem bsv_len (l : List ByteArray) : (bsv l).length = l.length := by simp [bsv]
theorem contains_own {w : World} {base : Nat} {v : Value} {l : List ByteArray} (x : ByteArray) (h : w.ownsRow base 9 1 v l.length (bsv l)) (hl : l.length ≤ 4194304) :
    Calls Try.prog 89 #[v, .string x] w fun e w' => e = .returned (.bool (Lib.containsS l x)) ∧ w' = w := by
  rcases h.2 with ⟨rfl, h0⟩ | ⟨g, cap, cur, rfl, _⟩
  · have : l = [] := List.length_eq_zero_iff.1 h0
    subst this
    exact Try.slices_Contains_string_empty none 0 x w
  · have hc := Try.slices_Contains_string g 0 l.length cap l x w (Nat.le_refl _) (by omega) (fun j hj => by
      have h1 := h.cells (g := g) rfl j (.string (l.getD j ByteArray.empty)) (by unfold bsv; rw [List.getElem?_map, List.getD_eq_getElem?_getD, List.getElem?_eq_getElem hj]; rfl)
      have hadd : (⟨g, 0, none⟩ : Addr).add j = ⟨g, 0 + j, none⟩ := by unfold Addr.add; split <;> simp_all
      rw [hadd] at h1
      exact h1)
    rw [List.take_length] at hc
    exact hc

/-- Terms behind a pointer. -/
structure Nd (w : World) (g : Nat) (v : Value) (l : List ByteArray) : Prop where
  box : Blk w g 28 #[v]
  own : w.ownsRow (g + 1) 9 1 v l.length (bsv l)
theorem Nd.below {w w' : World} {g : Nat} {v : Value} {l : List ByteArray} (h : Nd w g v l) (hb : Below w.heap.size w w') : Nd w' g v l :=
  ⟨h.box.below hb h.box.lt, h.own.kept (grow_of_below hb none) (by cases hv : v.ownBlock <;> simp)⟩
/-- More terms, where they stand apart. -/
structure Mo (w : World) (g : Nat) (v : Value) (S : Option Addr) (ts : List ByteArray) : Prop where
  at_ : 0 < ts.length → ∃ b o, S = some ⟨b, o, none⟩ ∧ b < w.heap.size ∧ b ≠ g ∧ v.ownBlock ≠ some b ∧ ∀ j (h : j < ts.length), w.cell? ⟨b, o + j, none⟩ = some (.string ts[j])

set_option maxHeartbeats 1600000 in
theorem add_any (g : Nat) (v : Value) (old : List ByteArray) (S : Option Addr) (n c : Nat) (ts : List ByteArray) (w : World) (hN : Nd w g v old) (hM : Mo w g v S ts) (hn : ts.length = n) (hbig : old.length + n ≤ 4194304) :
    Calls Try.prog 88 #[.slice S n c, .pointer (some ⟨g, 0, none⟩)] w fun e w' => e = .returned (.tuple #[]) ∧ ∃ v', Nd w' g v' (addL old ts) ∧ Below g w w' := by
  obtain ⟨i0, hi0, hz0, hz1, hz2⟩ := info_parts str_info
  have HN := Lib.hid hN
  have HM := Lib.hid hM
  have Hn := Lib.hid hn
  clear hN hM hn
  go_enter Try.func88, Try.ntmps88
  go_wp2
  go_loopw [7] (fun i wr => ∃ (k : Nat) (u : Value), k ≤ n ∧ i = .int .i64 k ∧ Nd wr g u (addL old (ts.take k)) ∧ Mo wr g u S ts ∧ Below g w wr) (fun i _ => n - (intOf i).toNat)
  case atStart => exact ⟨0, v, Nat.zero_le _, rfl, HN.out, HM.out, Below.refl _ _⟩
  case round =>
    obtain ⟨k, u, hk, rfl, hN, hM, hb⟩ := hrel
    have HN := Lib.hid hN
    have HM := Lib.hid hM
    have Hb := Lib.hid hb
    by_cases hlt : k < n
    · have hkl : k < ts.length := by rw [Hn.out]; exact hlt
      obtain ⟨b, o, rfl, hbl, hbg, hub, hc⟩ := hM.at_ (by omega)
      have hck := hc k hkl
      have hts := addL_take old ts k hkl
      have hll : (addL old (ts.take k)).length ≤ 4194304 - 1 := by
        have h1 := addL_len (ts.take k) old
        rw [List.length_take] at h1
        omega
      have Hts := Lib.hid hts
      have Hc := Lib.hid hc
      clear hts hc hM hb
      generalize addL old (ts.take k) = l at *
      generalize ts[k] = x at *
      have hbx := hN.box.cell 0
      simp at hbx
      have cc := contains_own x hN.own (by omega)
      by_cases hin : Lib.containsS l x = true
      · rw [hin] at cc
        have hl1 : add1 l x = l := by unfold add1; rw [if_pos hin]
        rw [hl1] at Hts
        clear hN hin hl1
        go_wp2_with (go_at_call 89; refine cc.mono ?_; rintro e wx ⟨rfl, hwx⟩; subst wx)
        go_roundw
        case rel => exact ⟨k + 1, u, by omega, by go_num, by rw [Hts.out]; exact HN.out, HM.out, Hb.out⟩
        case measure => simp [intOf]; omega
      · have hin' : Lib.containsS l x = false := by simpa using hin
        rw [hin'] at cc
        have hl1 : add1 l x = l ++ [x] := by unfold add1; rw [if_neg hin]
        rw [hl1] at Hts
        have hgl := hN.box.lt
        have hbf := hN.box.frozen 0
        have hown := hN.own
        have hbxa := fun o' => (World.cell?_alloc_lt wr o' ⟨g, 0, none⟩ hgl).trans hbx
        clear hN hin hl1 hin'
        go_wp2_with (first
          | (go_at_call 89; refine cc.mono ?_; rintro e wx ⟨rfl, hwx⟩; subst wx)
          | (at_builtin; go_loud (refine wpList_append_own_at _ rfl _ _ 28 rfl (g + 1) 9 i0 _ 1 16 Try.underlying28 hi0 hz0 hz1 hz2 rfl (by decide) _ _ _ rfl (hown.alloc _) ⟨wr.heap.size, 0, none⟩ 1 1 [.string x] rfl rfl ?d1 ?d2 ?d3 ?d4 ?d5 ?_)))
        case d1 => exact World.news_of_block (cs := #[.string x]) (t := 9) (fr := (0, 0)) (heap_alloc_new wr _)
        case d2 => intro y hy; simp at hy; subst hy; rfl
        case d3 => unfold maxLen; omega
        case d4 => omega
        case d5 => simp; omega
        intro v' w5 hown5 hg5 _ hat
        obtain ⟨g5, q5, rfl⟩ := own_succ hown5
        have g5lt := (hown5.lt g5 rfl).1
        have hB5 := (HN.out.box.alloc (.cells #[.string x] 9)).grown hg5 (fun e => by have := (hown.lt _ e.symm).1; omega)
        have hb50 := hB5.cell 0
        have hbf5 := hB5.frozen 0
        simp at hb50
        have hbl2 : b ≠ wr.heap.size + 1 := by omega
        have hg5b : g5 ≠ b := by
          rintro rfl
          rcases hat with h | h
          · exact hub h.symm
          · simp [Value.ownBlock] at h
            omega
        have hcell : ∀ j (h : j < ts.length), w5.cell? ⟨b, o + j, none⟩ = some (.string ts[j]) := fun j h =>
          hg5.cell ((World.cell?_alloc_lt wr _ ⟨b, o + j, none⟩ hbl).trans (Hc.out j h)) (fun e => hub e.symm)
        have hz5 := hg5.size
        have hb5 : Below g w w5 := (Hb.out.alloc (by omega) (.cells #[.string x] 9)).grown hg5 (by simp; omega) (fun e he => by have := (hown.lt _ he).1; omega)
        have hgs := grownBy_setC w5 g 0 (.slice (some ⟨g5, 0, none⟩) (l.length + 1) q5)
        have Fin : Hid (Nd (w5.setCell ⟨g, 0, none⟩ (.slice (some ⟨g5, 0, none⟩) (l.length + 1) q5)) g (.slice (some ⟨g5, 0, none⟩) (l.length + 1) q5) (l ++ [x])) := Lib.hid
          ⟨hB5.set_ 0 _, by
            rw [List.length_append, bsv_snoc]
            exact hown5.kept hgs (.inr (by simp [Value.ownBlock]; omega))⟩
        have Fin2 : Hid (Mo (w5.setCell ⟨g, 0, none⟩ (.slice (some ⟨g5, 0, none⟩) (l.length + 1) q5)) g (.slice (some ⟨g5, 0, none⟩) (l.length + 1) q5) (some ⟨b, o, none⟩) ts) := Lib.hid
          ⟨fun _ => ⟨b, o, rfl, by simp [World.setCell] at hz5 ⊢; omega, hbg, by simp [Value.ownBlock]; exact hg5b, fun j h => hgs.cell (hcell j h) (fun e => hbg (Option.some.inj e))⟩⟩
        have Fin3 := Lib.hid (hb5.setCell (p := ⟨g, 0, none⟩) (Nat.le_refl _) (.slice (some ⟨g5, 0, none⟩) (l.length + 1) q5))
        clear hb5 hcell hB5 hown5 hg5 hown hgs hbxa hg5b hbl2
        go_wp2
        go_roundw
        case rel => exact ⟨k + 1, _, by omega, by go_num, by rw [Hts.out]; exact Fin.out, Fin2.out, Fin3.out⟩
        case measure => simp [intOf]; omega
    · obtain rfl : k = n := by omega
      have htk : ts.take k = ts := List.take_of_length_le (by rw [Hn.out]; exact Nat.le_refl _)
      rw [htk] at HN
      clear hN hM hb htk
      go_wp2
      first | go_ret | go_end0
      exact ⟨rfl, u, HN.out, Hb.out⟩
end Go.Proofs.Ytjfconddkfihcaa.Qy
end
