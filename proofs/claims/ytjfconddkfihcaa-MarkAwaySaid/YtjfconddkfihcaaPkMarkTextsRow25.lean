/- loggiaref07: Words, IsWord, IsName, Term: the walks. -/
import Derived.Laws.StructEq
import Derived.RegionTactic
import Derived.ChangeAlike
import Derived.BigRegion
import Derived.Test.YtjfconddkfihcaaPkMarkTextsRow24
section
namespace Go.Proofs.Ytjfconddkfihcaa.Tk
open Go.RowKit Go.Proofs.Ytjfconddkfihcaa.Ut
set_option maxRecDepth 20000

set_option maxHeartbeats 800000 in
theorem words_ref (s : ByteArray) (w : World) (hs : s.size ≤ 1000000) : Calls Try.prog 18 #[.string s] w (StrPost w (words s.data.toList)) := by
  obtain ⟨i0, hi0, hz0, hz1, hz2⟩ := info_parts str_info
  have c0 := tokens_ref s w hs
  have hwl := words_len s
  generalize words s.data.toList = ws at *
  go_enter Try.func18, Try.ntmps18
  go_wp2_with fail
  refine c0.mono ?_
  rintro e w1 ⟨v, rfl, hown, hb1⟩
  obtain ⟨A, c, rfl, hR⟩ := own_shape hown
  have S0 : Strs w1 w1 (.slice none 0 0) [] := ⟨World.ownsRow_nil _ _ _ _, Below.refl _ _⟩
  have HR := Lib.hid hR
  have HS0 := Lib.hid S0
  have Hb1 := Lib.hid hb1
  clear hown hR S0 c0 hb1
  go_wp2_with fail
  go_loopw [4, 5] (fun v i wr => ∃ k : Nat, k ≤ ws.length ∧ i = .int .i64 k ∧ Strs w1 wr v (ws.take k)) (fun _ i _ => ws.length - (intOf i).toNat)
  case atStart => exact ⟨0, Nat.zero_le _, rfl, HS0.out⟩
  case round =>
    obtain ⟨k, hk, rfl, hT⟩ := hrel
    by_cases hlt : k < ws.length
    · obtain ⟨b, o, rfl, hb, hc1, hc2⟩ := toks_at HR.out rfl hlt
      have hd1 := (hT.bel.cell (p := ⟨b, o + k * 2, none⟩) hb).trans hc1
      have hts : ws.take (k + 1) = ws.take k ++ [ws[k]] := by rw [List.take_succ_eq_append_getElem hlt]
      have Hts := Lib.hid hts
      have htl : (ws.take k).length ≤ ws.length := by rw [List.length_take]; omega
      have hown := hT.own
      have hbs := hT.bel.size
      have HT := Lib.hid hT
      clear hts hc1 hc2 hT
      generalize ws[k] = x at *
      generalize ws.take k = y at *
      go_wp2_with (at_builtin; refine wpList_append_own _ rfl _ _ 28 rfl w1.heap.size 9 i0 _ 1 16 Try.underlying28 hi0 hz0 hz1 hz2 rfl (by decide) _ _ _ rfl (hown.alloc _) ⟨wr.heap.size, 0, none⟩ 1 1 [.string (str x)] rfl rfl ?d1 ?d2 ?d3 ?d4 ?d5 ?_)
      case d1 => exact World.news_of_block (cs := #[.string (str x)]) (t := 9) (fr := (0, 0)) (heap_alloc_new wr _)
      case d2 => intro u hu; simp at hu; subst hu; rfl
      case d3 => unfold maxLen; omega
      case d4 => omega
      case d5 => simp; omega
      intro v' w5 hown5 hg5 _
      have HT5 := Lib.hid ((HT.out.below ((Below.refl _ _).alloc (Nat.le_refl _) _)).put hown5 hg5)
      clear hown5 hg5 hown
      go_wp2
      go_roundw
      case rel => exact ⟨k + 1, by omega, by go_num, by rw [Hts.out]; exact HT5.out⟩
      case measure => simp [intOf]; omega
    · have hall : ws.take k = ws := List.take_of_length_le (by omega)
      rw [hall] at hT
      have HT := Lib.hid hT
      clear hT hall
      go_wp2
      go_ret
      exact ⟨_, rfl, HT.out.own.mono Hb1.out.size, Hb1.out.trans (HT.out.bel.mono Hb1.out.size)⟩

set_option maxHeartbeats 800000 in
theorem isWord_refB (s : ByteArray) (w : World) (hs : s.size ≤ 1048576) : Calls Try.prog 47 #[.string s] w fun e w' => e = .returned (.bool (isW s.data.toList)) ∧ Below w.heap.size w w' := by
  have c0 := tokens_refB s w hs
  have Fin : Hid (isW s.data.toList = (words s.data.toList == [s.data.toList])) := rfl
  generalize words s.data.toList = ws at *
  go_enter Try.func47, Try.ntmps47
  go_wp2_with fail
  refine c0.mono ?_
  rintro e w1 ⟨v, rfl, hown, hb1⟩
  obtain ⟨A, c, rfl, hR⟩ := own_shape hown
  have HR := Lib.hid hR
  have Hb1 := Lib.hid hb1
  clear hown hR c0 hb1
  by_cases h1 : ws.length = 1
  · obtain ⟨x, rfl⟩ : ∃ x, ws = [x] := by
      match ws, h1 with
      | [x], _ => exact ⟨x, rfl⟩
    obtain ⟨b, o, rfl, hb, hc1, hc2⟩ := toks_at HR.out rfl (k := 0) (by simp)
    simp at hc1
    clear hc2 h1
    go_wp2
    go_ret
    refine ⟨?_, Hb1.out⟩
    rw [Fin.out]
    simp [tl, str_data]
  · have h1' : ((ws.length : Int) == 1) = false := beq_eq_false_iff_ne.2 (by omega)
    have Fin2 : Hid ((ws == [s.data.toList]) = false) := Lib.hid (beq_eq_false_iff_ne.2 (fun e => h1 (by rw [e]; rfl)))
    clear h1
    go_wp2
    go_ret
    exact ⟨by rw [Fin.out, Fin2.out]; rfl, Hb1.out⟩

theorem isWord_ref (s : ByteArray) (w : World) (hs : s.size ≤ 1000000) : Calls Try.prog 47 #[.string s] w fun e w' => e = .returned (.bool (isW s.data.toList)) ∧ Below w.heap.size w w' :=
  isWord_refB s w (by omega)
set_option maxHeartbeats 800000 in
theorem isName_refB (s : ByteArray) (w : World) (hs : s.size ≤ 1048576) : Calls Try.prog 49 #[.string s] w fun e w' => e = .returned (.bool (isN s.data.toList)) ∧ w = w' := by
  have Fin : Hid (isN s.data.toList = (decide (1 ≤ s.data.toList.length) && decide (s.data.toList.length ≤ 32) && s.data.toList.all nameB)) := rfl
  rw [bsize] at Fin
  by_cases hl : 1 ≤ s.size ∧ s.size ≤ 32
  · have h1 : (1 : Int) ≤ (s.size : Int) := by omega
    have h2 : (s.size : Int) ≤ 32 := by omega
    have Fin2 : Hid (isN s.data.toList = s.data.toList.all nameB) := Lib.hid (by rw [Fin.out, decide_eq_true hl.1, decide_eq_true hl.2]; rfl)
    clear hl
    go_enter Try.func49, Try.ntmps49
    go_wp2
    go_loop [3] (fun i => ∃ k : Nat, k ≤ s.size ∧ i = .int .i64 k ∧ (s.data.toList.take k).all nameB = true) (fun i => s.size - (intOf i).toNat)
    case atStart => exact ⟨0, Nat.zero_le _, rfl, rfl⟩
    case round =>
      obtain ⟨k, hk, rfl, hal⟩ := hrel
      by_cases hlt : k < s.size
      · have hu := (s[k]).toNat_lt
        have hts := take_snoc s k hlt
        have hmem : s[k] ∈ s.data.toList := by
          have : s.data.toList[k]'(by rw [bsize]; exact hlt) = s[k] := rfl
          rw [← this]; exact List.getElem_mem _
        have Hal := Lib.hid hal
        rcases nameB_cases s[k] with ⟨hn, h⟩ | ⟨hn, h9, h⟩
        · have Hnx : Hid ((s.data.toList.take (k + 1)).all nameB = true) := Lib.hid (by rw [hts, List.all_append, Hal.out]; simp [hn])
          clear hal hts hmem hn
          rcases h with h | h | h
          all_goals
            go_wp2
            all_goals first
              | (go_round
                 case rel => exact ⟨k + 1, by omega, by go_num, Hnx.out⟩
                 case measure => simp [intOf]; omega)
              | (exfalso; simp only [bne_iff_ne, ne_eq, bne_eq_false_iff_eq, beq_eq_false_iff_ne, decide_eq_true_eq] at *; omega)
        · have Fin3 : Hid (isN s.data.toList = false) := Lib.hid (by
            rw [Fin2.out]
            exact List.all_eq_false.2 ⟨_, hmem, by rw [hn]; decide⟩)
          clear hal hts hmem hn
          have h9' : (((s[k]).toNat : Int) == 95) = false := by rw [beq_eq_false_iff_ne]; omega
          rcases h with h | h | h
          all_goals
            go_wp2
            all_goals first
              | (go_ret; exact ⟨by rw [Fin3.out]; rfl, rfl⟩)
              | (exfalso; simp only [Bool.not_eq_false', decide_eq_true_eq] at *; omega)
      · obtain rfl : k = s.size := by omega
        have htk : s.data.toList.take s.size = s.data.toList := List.take_of_length_le (Nat.le_of_eq (bsize s))
        rw [htk] at hal
        have Fin3 : Hid (isN s.data.toList = true) := Lib.hid (by rw [Fin2.out, hal])
        clear hal htk
        go_wp2
        go_ret
        exact ⟨by rw [Fin3.out]; rfl, rfl⟩
  · have Fin2 : Hid (isN s.data.toList = false) := Lib.hid (by
      rw [Fin.out]
      by_cases h1 : 1 ≤ s.size
      · rw [decide_eq_false (show ¬ s.size ≤ 32 by omega)]; simp
      · rw [decide_eq_false h1]; rfl)
    by_cases h1 : s.size < 1
    · have h1' : (s.size : Int) < 1 := by omega
      clear hl h1
      go_enter Try.func49, Try.ntmps49
      go_wp2
      go_ret
      exact ⟨by rw [Fin2.out]; rfl, rfl⟩
    · have h1' : (1 : Int) ≤ (s.size : Int) := by omega
      have h2' : (32 : Int) < (s.size : Int) := by omega
      clear hl h1
      go_enter Try.func49, Try.ntmps49
      go_wp2
      go_ret
      exact ⟨by rw [Fin2.out]; rfl, rfl⟩

theorem isName_ref (s : ByteArray) (w : World) (hs : s.size ≤ 1000000) : Calls Try.prog 49 #[.string s] w fun e w' => e = .returned (.bool (isN s.data.toList)) ∧ w = w' :=
  isName_refB s w (by omega)
set_option maxHeartbeats 400000 in
theorem termr_noB (a b : ByteArray) (w : World) (ha : a.size ≤ 1048576) (hb : b.size ≤ 1048576) (h : termOk a b = false) : Calls Try.prog 43 #[.string a, .string b] w fun e w' => e = .returned (.tuple #[.string ByteArray.empty, .int .i64 1]) ∧ Below w.heap.size w w' := by
  have c1 := isName_refB a w ha
  by_cases hn : isN a.data.toList = true
  · have hw : isW b.data.toList = false := by unfold termOk at h; rw [hn, Bool.true_and] at h; exact h
    have c2 := isWord_refB b w hb
    rw [hn] at c1
    rw [hw] at c2
    clear hn hw h
    go_enter Try.func43, Try.ntmps43
    go_wp2_with (first | (go_at_call 49; refine c1.mono ?_; rintro e w2 ⟨rfl, rfl⟩) | (go_at_call 47; refine c2.mono ?_; rintro e w3 ⟨rfl, hb3⟩))
    go_ret2
    exact ⟨rfl, hb3⟩
  · have hn' : isN a.data.toList = false := by simpa using hn
    rw [hn'] at c1
    clear hn hn' h
    go_enter Try.func43, Try.ntmps43
    go_wp2_with (go_at_call 49; refine c1.mono ?_; rintro e w2 ⟨rfl, rfl⟩)
    go_ret2
    exact ⟨rfl, Below.refl _ _⟩
theorem termr_no (a b : ByteArray) (w : World) (ha : a.size ≤ 1000000) (hb : b.size ≤ 1000000) (h : termOk a b = false) : Calls Try.prog 43 #[.string a, .string b] w fun e w' => e = .returned (.tuple #[.string ByteArray.empty, .int .i64 1]) ∧ Below w.heap.size w w' :=
  termr_noB a b w (by omega) (by omega) h
set_option maxHeartbeats 400000 in
theorem termr_yesB (a b : ByteArray) (w : World) (ha : a.size ≤ 1048576) (hb : b.size ≤ 1048576) (h : termOk a b = true) : Calls Try.prog 43 #[.string a, .string b] w fun e w' => e = .returned (.tuple #[.string (termV a b), .int .i64 0]) ∧ Below w.heap.size w w' := by
  unfold termOk at h
  rw [Bool.and_eq_true] at h
  have c1 := isName_refB a w ha
  have c2 := isWord_refB b w hb
  rw [h.1] at c1
  rw [h.2] at c2
  have F : Hid (a ++ colonS ++ b = termV a b) := Lib.hid (termV_eq a b)
  clear h
  generalize termV a b = t at *
  go_enter Try.func43, Try.ntmps43
  go_wp2_with (first | (go_at_call 49; refine c1.mono ?_; rintro e w2 ⟨rfl, rfl⟩) | (go_at_call 47; refine c2.mono ?_; rintro e w3 ⟨rfl, hb3⟩))
  go_ret2
  rw [← F.out]
  exact ⟨rfl, hb3⟩
theorem termr_yes (a b : ByteArray) (w : World) (ha : a.size ≤ 1000000) (hb : b.size ≤ 1000000) (h : termOk a b = true) : Calls Try.prog 43 #[.string a, .string b] w fun e w' => e = .returned (.tuple #[.string (termV a b), .int .i64 0]) ∧ Below w.heap.size w w' :=
  termr_yesB a b w (by omega) (by omega) h
end Go.Proofs.Ytjfconddkfihcaa.Tk
end

section
/- loggiaref07: SameWords, Same at equal rows; the law's cut. -/
namespace Go.Proofs.Ytjfconddkfihcaa.Tk
open Go.RowKit Go.Proofs.Ytjfconddkfihcaa.Ut
set_option maxRecDepth 20000

theorem sv_get (ws : List (List UInt8)) (k : Nat) (h : k < ws.length) : (sv ws)[k]? = some (.string (str ws[k])) := by simp [sv, List.getElem?_eq_getElem h]
set_option maxHeartbeats 400000 in
theorem sameWords_eq (A A' : Option Addr) (c c' B : Nat) (ws : List (List UInt8)) (w : World) (h : Reads w B 1 A ws.length (sv ws)) (h' : Reads w B 1 A' ws.length (sv ws)) (hB : B ≤ w.heap.size) (hl : ws.length ≤ 8796093021952) :
    Calls Try.prog 34 #[.slice A ws.length c, .slice A' ws.length c'] w fun e w' => e = .returned (.bool true) ∧ Below w.heap.size w w' := by
  have H := Lib.hid h
  have H' := Lib.hid h'
  clear h h'
  go_enter Try.func34, Try.ntmps34
  go_wp2
  go_loopw [5] (fun i wr => ∃ k : Nat, k ≤ ws.length ∧ i = .int .i64 k ∧ Below w.heap.size w wr) (fun i _ => ws.length - (intOf i).toNat)
  case atStart => exact ⟨0, Nat.zero_le _, rfl, Below.refl _ _⟩
  case round =>
    obtain ⟨k, hk, rfl, hb⟩ := hrel
    by_cases hlt : k < ws.length
    · obtain ⟨b, o, u, rfl, hbb, hu, hcw⟩ := H.out.at_ hlt
      obtain ⟨b', o', u', rfl, hbb', hu', hcw'⟩ := H'.out.at_ hlt
      rw [sv_get ws k hlt] at hu hu'
      injection hu with hu
      injection hu' with hu'
      subst hu hu'
      have d1 := (hb.cell (p := ⟨b, o + k, none⟩) (Nat.lt_of_lt_of_le hbb hB)).trans hcw
      have d2 := (hb.cell (p := ⟨b', o' + k, none⟩) (Nat.lt_of_lt_of_le hbb' hB)).trans hcw'
      have Hb := Lib.hid hb
      clear hcw hcw' hb
      generalize str ws[k] = s at *
      go_wp2
      go_region
      go_wp2
      go_roundw
      case rel => exact ⟨k + 1, by omega, by go_num, Hb.out.drew⟩
      case measure => simp [intOf]; omega
    · have Hb := Lib.hid hb
      clear hb
      go_wp2
      go_ret
      exact ⟨rfl, Hb.out⟩

theorem tok_self (s : ByteArray) (n : Int) (w : World) : (binOp .neq 74 (.agg #[.string s, .int .i64 n]) (.agg #[.string s, .int .i64 n])).run Try.prog w = .ok (.bool false) w := by
  have u1 := Try.underlying9
  have u3 := Try.underlying3
  have a1 := Try.isAgg9
  have z1 := Try.sizeOf9
  have a3 := Try.isAgg3
  have z3 := Try.sizeOf3
  have hS : Try.prog.underlying 74 = some (.struct (Try.prog.fieldsOf 74)) := by kernel_rfl
  have hp : Try.prog.stoodInHeld 74 = false := by kernel_rfl
  rw [run_neq_struct, show (10000 : Nat) = 9999 + 1 from rfl, run_equalIn_agg w 9999 74 _ _ hS hp]
  simp only [Program.fieldsOf, Try.underlying74]
  go_simp

set_option maxHeartbeats 400000 in
theorem same_eq (A A' : Option Addr) (c c' B : Nat) (ws : List (List UInt8)) (w : World) (h : Reads w B 2 A ws.length (tokC (placed ws))) (h' : Reads w B 2 A' ws.length (tokC (placed ws))) (hB : B ≤ w.heap.size) (hl : ws.length ≤ 8796093021952) :
    Calls Try.prog 37 #[.slice A ws.length c, .slice A' ws.length c'] w fun e w' => e = .returned (.bool true) ∧ Below w.heap.size w w' := by
  have H := Lib.hid h
  have H' := Lib.hid h'
  clear h h'
  go_enter Try.func37, Try.ntmps37
  go_wp2
  go_loopw [5] (fun i wr => ∃ k : Nat, k ≤ ws.length ∧ i = .int .i64 k ∧ Below w.heap.size w wr) (fun i _ => ws.length - (intOf i).toNat)
  case atStart => exact ⟨0, Nat.zero_le _, rfl, Below.refl _ _⟩
  case round =>
    obtain ⟨k, hk, rfl, hb⟩ := hrel
    by_cases hlt : k < ws.length
    · obtain ⟨b, o, rfl, hbb, hc1, hc2⟩ := toks_at H.out rfl hlt
      obtain ⟨b', o', rfl, hbb', hc1', hc2'⟩ := toks_at H'.out rfl hlt
      have d1 := (hb.cell (p := ⟨b, o + k * 2, none⟩) (Nat.lt_of_lt_of_le hbb hB)).trans hc1
      have d2 := (hb.cell (p := ⟨b, o + k * 2 + 1, none⟩) (Nat.lt_of_lt_of_le hbb hB)).trans hc2
      have d3 := (hb.cell (p := ⟨b', o' + k * 2, none⟩) (Nat.lt_of_lt_of_le hbb' hB)).trans hc1'
      have d4 := (hb.cell (p := ⟨b', o' + k * 2 + 1, none⟩) (Nat.lt_of_lt_of_le hbb' hB)).trans hc2'
      have hself := fun W => tok_self (str ws[k]) (k : Int) W
      have Hb := Lib.hid hb
      clear hc1 hc2 hc1' hc2' hb
      generalize str ws[k] = s at *
      go_wp2
      go_region
      go_wp2
      go_roundw
      case rel => exact ⟨k + 1, by omega, by go_num, Hb.out.drew⟩
      case measure => simp [intOf]; omega
    · have Hb := Lib.hid hb
      clear hb
      go_wp2
      go_ret
      exact ⟨rfl, Hb.out⟩

/-- A text's first bytes. -/
def ct (n : Nat) (s : ByteArray) : ByteArray := s.extract 0 (min s.size n)
theorem ct_size (n : Nat) (s : ByteArray) : (ct n s).size ≤ n := by unfold ct; rw [ByteArray.size_extract]; omega
theorem lcut_any (s : ByteArray) (w : World) (hs : s.size ≤ 140737488351232) : Calls Try.prog 36 #[.string s] w fun e w' => e = .returned (.string (ct 1500 s)) ∧ w = w' := by
  have F : Hid (ct 1500 s = s.extract 0 (min s.size 1500)) := rfl
  generalize ct 1500 s = r at *
  have hm : (min (s.size : Int) 1500).toNat = min s.size 1500 := by omega
  have Hm := Lib.hid hm
  clear hm
  by_cases h : s.size ≤ 1500
  · have h' : (s.size : Int) ≤ 1500 := by omega
    clear h
    go_enter Try.func36, Try.ntmps36
    go_wp2
    go_ret
    rw [F.out, ← Hm.out]
    exact ⟨rfl, rfl⟩
  · have h' : (1500 : Int) < (s.size : Int) := by omega
    clear h
    go_enter Try.func36, Try.ntmps36
    go_wp2
    go_ret
    rw [F.out, ← Hm.out]
    exact ⟨rfl, rfl⟩
end Go.Proofs.Ytjfconddkfihcaa.Tk
end

section
/- loggialaw07: the page's example; TokenWords: the law's walk. -/
namespace Go.Proofs.Ytjfconddkfihcaa.Tk
open Go.RowKit Go.Proofs.Ytjfconddkfihcaa.Ut
set_option maxRecDepth 20000

def exS : ByteArray := ⟨#[65, 98, 45, 99, 32, 49, 50, 195, 159, 33]⟩
def exW : List (List UInt8) := [[97, 98], [99], [49, 50, 195, 159]]
theorem ex_words : words exS.data.toList = exW := by decide +kernel
def exMsg : ByteArray := ⟨#[109, 115, 103]⟩
def exAb : ByteArray := ⟨#[97, 98]⟩
def exT : ByteArray := ⟨#[109, 115, 103, 58, 97, 98]⟩
theorem ex_term : termOk exMsg exAb = true := by decide +kernel
theorem ex_termV : termV exMsg exAb = exT := by rw [← termV_eq]; rfl
theorem ex_split : splitV exT = .tuple #[.string exMsg, .string exAb, .bool true] := by
  have h : splitOk exT.data.toList = true := by decide +kernel
  have hc : colonAt exT.data.toList = 3 := by decide +kernel
  unfold splitV bef beh
  rw [if_pos h, hc]
  rfl
def exN1 : ByteArray := ⟨#[97, 95, 49]⟩
def exN2 : ByteArray := ⟨#[65]⟩
theorem ex_n1 : isN exN1.data.toList = true := by decide +kernel
theorem ex_n2 : isN exN2.data.toList = false := by decide +kernel

set_option maxHeartbeats 800000 in
theorem awake_any (w : World) : Calls Try.prog 41 #[] w fun e w' => e = .returned (.bool true) ∧ Below w.heap.size w w' := by
  have c1 := term_yes exMsg exAb w (by decide) (by decide) ex_term
  rw [ex_termV] at c1
  have c2 := fun wx => split_any exT wx (by decide)
  rw [ex_split] at c2
  have c3 := fun wx => words_any exS wx (by decide)
  rw [ex_words] at c3
  have c4 := fun wx => isName_any exN1 wx (by decide)
  rw [ex_n1] at c4
  have c5 := fun wx => isName_any exN2 wx (by decide)
  rw [ex_n2] at c5
  have C2 := Lib.hid c2
  have C3 := Lib.hid c3
  have C4 := Lib.hid c4
  have C5 := Lib.hid c5
  have q1 : exT.toList = [109, 115, 103, 58, 97, 98] := by rw [tl]; rfl
  have q2 : exMsg.toList = [109, 115, 103] := by rw [tl]; rfl
  have q3 : exAb.toList = [97, 98] := by rw [tl]; rfl
  clear c2 c3 c4 c5
  go_enter Try.func41, Try.ntmps41
  go_wp2_with fail
  refine c1.mono ?_
  rintro e w1 ⟨rfl, hb1⟩
  go_wp2_with fail
  refine (C2.out _).mono ?_
  rintro e w2 ⟨rfl, hb2⟩
  go_wp2_with fail
  refine (C3.out _).mono ?_
  rintro e w3 ⟨v, rfl, hown, hb3⟩
  obtain ⟨A, c, rfl, hR⟩ := own_shape hown
  have Hb := Lib.hid ((hb1.trans (hb2.mono hb1.size)).trans (hb3.mono (Nat.le_trans hb1.size hb2.size)))
  have hR2 : Reads (w3.alloc (.cells #[.string exAb, .string ⟨#[99]⟩, .string ⟨#[49, 50, 195, 159]⟩] 9)) (w3.heap.size + 1) 1 (some ⟨w3.heap.size, 0, none⟩) exW.length (sv exW) := by
    refine ⟨by rw [sv_len]; omega, fun _ => ⟨_, _, rfl, by omega, fun j u hu => ?_⟩⟩
    have hc := (Blk.new w3 9 #[.string exAb, .string ⟨#[99]⟩, .string ⟨#[49, 50, 195, 159]⟩]).cell (0 + j)
    rw [hc, Nat.zero_add]
    match j, hu with
    | 0, hu => exact hu
    | 1, hu => exact hu
    | 2, hu => exact hu
  have c6 := sameWords_eq A (some ⟨w3.heap.size, 0, none⟩) c 3 (w3.heap.size + 1) exW _ ((hR.alloc (Nat.le_refl _) (.cells #[.string exAb, .string ⟨#[99]⟩, .string ⟨#[49, 50, 195, 159]⟩] 9)).more (by omega)) hR2 (by simp) (by decide)
  clear hown hR hR2 hb1 hb2 hb3 c1
  go_wp2_with fail
  refine c6.mono ?_
  rintro e w4 ⟨rfl, hb4⟩
  have Hb4 := Lib.hid hb4
  clear hb4
  go_wp2_with fail
  refine (C4.out _).mono ?_
  rintro e w5 ⟨rfl, hb5⟩
  go_wp2_with fail
  refine (C5.out _).mono ?_
  rintro e w6 ⟨rfl, hb6⟩
  have h4 := (Hb.out.alloc Hb.out.size (.cells #[.string exAb, .string ⟨#[99]⟩, .string ⟨#[49, 50, 195, 159]⟩] 9)).trans (Hb4.out.mono (by have := Hb.out.size; simp; omega))
  have h6 := Lib.hid ((h4.trans (hb5.mono h4.size)).trans (hb6.mono (Nat.le_trans h4.size hb5.size)))
  clear h4 hb5 hb6
  go_wp2
  go_ret
  exact ⟨rfl, h6.out⟩

theorem words_le (s : ByteArray) (n : Nat) (h : s.size ≤ n) : (words s.data.toList).length ≤ n := Nat.le_trans (words_len s) h
set_option maxHeartbeats 800000 in
theorem tokenWords_walk (s : ByteArray) (w : World) (hs : s.size ≤ 140737488351232) : Calls Try.prog 8 #[.string s] w fun e w' => e = .returned (.bool true) ∧ Below w.heap.size w w' := by
  have c0 := lcut_any s w hs
  have hz := ct_size 1500 s
  have c1 := fun wx => tokens_any (ct 1500 s) wx (by omega)
  have c2 := fun wx => tokens_ref (ct 1500 s) wx (by omega)
  have c4 := fun wx => words_any (ct 1500 s) wx (by omega)
  have c5 := fun wx => words_ref (ct 1500 s) wx (by omega)
  have hwl := words_le (ct 1500 s) 1500 hz
  generalize words (ct 1500 s).data.toList = ws at *
  generalize ct 1500 s = x at *
  have C1 := Lib.hid c1
  have C2 := Lib.hid c2
  have C4 := Lib.hid c4
  have C5 := Lib.hid c5
  clear c1 c2 c4 c5
  go_enter Try.func8, Try.ntmps8
  go_wp2_with fail
  refine c0.mono ?_
  rintro e w' ⟨rfl, rfl⟩
  go_wp2_with fail
  refine (C1.out _).mono ?_
  rintro e w1 ⟨v1, rfl, hown1, hb1⟩
  obtain ⟨A1, d1, rfl, hR1⟩ := own_shape hown1
  go_wp2_with fail
  refine (C2.out _).mono ?_
  rintro e w2 ⟨v2, rfl, hown2, hb2⟩
  obtain ⟨A2, d2, rfl, hR2⟩ := own_shape hown2
  have c3 := same_eq A1 A2 d1 d2 w2.heap.size ws w2 ((hR1.below hb2).more hb2.size) hR2 (Nat.le_refl _) (by omega)
  have Hb := Lib.hid (hb1.trans (hb2.mono hb1.size))
  clear hown1 hR1 hown2 hR2 hb1 hb2 c0
  go_wp2_with fail
  refine c3.mono ?_
  rintro e w3 ⟨rfl, hb3⟩
  have Hb3 := Lib.hid (Hb.out.trans (hb3.mono Hb.out.size))
  clear hb3 c3
  go_wp2_with fail
  refine (C4.out _).mono ?_
  rintro e w4 ⟨v4, rfl, hown4, hb4⟩
  obtain ⟨A4, d4, rfl, hR4⟩ := own_shape hown4
  go_wp2_with fail
  refine (C5.out _).mono ?_
  rintro e w5 ⟨v5, rfl, hown5, hb5⟩
  obtain ⟨A5, d5, rfl, hR5⟩ := own_shape hown5
  have c6 := sameWords_eq A4 A5 d4 d5 w5.heap.size ws w5 ((hR4.below hb5).more hb5.size) hR5 (Nat.le_refl _) (by omega)
  have Hb5 := Lib.hid ((Hb3.out.trans (hb4.mono Hb3.out.size)).trans (hb5.mono (Nat.le_trans Hb3.out.size hb4.size)))
  clear hown4 hR4 hown5 hR5 hb4 hb5
  go_wp2_with fail
  refine c6.mono ?_
  rintro e w6 ⟨rfl, hb6⟩
  have Hb6 := Lib.hid (Hb5.out.trans (hb6.mono Hb5.out.size))
  clear hb6 c6
  go_wp2_with (go_at_call 41; refine (awake_any _).mono ?_; rintro e w7 ⟨rfl, hb7⟩)
  go_ret
  exact ⟨rfl, Hb6.out.trans (hb7.mono Hb6.out.size)⟩
end Go.Proofs.Ytjfconddkfihcaa.Tk
end
