/- loggiaref07: cut, Tokens, Words, IsWord: the walks. -/
import Derived.Laws.StructEq
import Derived.RegionTactic
import Derived.ChangeAlike
import Derived.BigRegion
import Derived.Deep.DeepCutAuto
import Derived.Outline
import Derived.Test.YtlfpfkallgkjdaaGreatPkAlertManyRow8
import Derived.Test.YtlfpfkallgkjdaaGreatPkAlertManyRow17
import Derived.Test.YtlfpfkallgkjdaaGreatPkAlertManyRow5
section
namespace Go.Proofs.YtlfpfkallgkjdaaGreat.Tk
open Go.RowKit Go.Proofs.YtlfpfkallgkjdaaGreat.Ut
set_option maxRecDepth 20000

theorem str_app (a b : List UInt8) : str a ++ str b = str (a ++ b) := by
  have h : (str a ++ str b).data.toList = a ++ b := by simp [str]
  rw [← of_str (str a ++ str b), h]
theorem str_nil : str [] = ByteArray.empty := rfl

set_option maxHeartbeats 800000 in
theorem cut_ref (A : Option Addr) (n c : Nat) (l : List Nat) (w : World) (hR : Reads w w.heap.size 1 A n (rv l)) (hn : n ≤ 4398046511104) :
    Calls Tryz.prog 137 #[.slice A n c] w fun e w' => e = .returned (.string (str (word l))) ∧ Below w.heap.size w w' := by
  have hlen : l.length = n := by have := hR.1; simpa [rv] using this
  have HR := Lib.hid hR
  have Hl := Lib.hid hlen
  clear hR hlen
  go_enter Tryz.func137, Tryz.ntmps137
  go_wp2
  go_loopw [3, 4] (fun s i wr => ∃ (k : Nat) (a : List UInt8), k ≤ n ∧ i = .int .i64 k ∧ s = .string (str a) ∧ a.length ≤ 32 ∧ word l = wordGo a (l.drop k) ∧ Below w.heap.size w wr) (fun _ i _ => n - (intOf i).toNat)
  case atStart => exact ⟨0, [], Nat.zero_le _, rfl, rfl, by simp, rfl, Below.refl _ _⟩
  case round =>
    obtain ⟨k, a, hk, rfl, rfl, ha, hwd, hW⟩ := hrel
    have hsa := str_size a
    by_cases hlt : k < n
    · obtain ⟨ab, ao, hkl, rfl, hab, hcw⟩ := Reads.at_map (f := fun r : Nat => Value.int .i64 (r : Int)) HR.out hlt
      have hcx := (hW.cell (p := ⟨ab, ao + k, none⟩) hab).trans hcw
      rw [List.drop_eq_getElem_cons hkl, wordGo_cons] at hwd
      have c1 := lower_ref (l[k] : Int) wr
      have HW := Lib.hid hW
      have Hwd := Lib.hid hwd
      have hel := enc_len (lower (l[k] : Int))
      clear hwd hcw hW
      generalize lower (l[k] : Int) = z at *
      generalize (l[k] : Int) = r at *
      go_wp2_with fail
      refine c1.mono ?_
      rintro e w' ⟨rfl, rfl⟩
      have c2 := encode_ref _ 1 1 [z] _ (reads_int1 wr 3 z) (by omega)
      rw [encode_one] at c2
      clear c1
      go_wp2_with fail
      refine c2.mono ?_
      rintro e w3 ⟨rfl, hb3⟩
      have hbw := (HW.out.alloc HW.out.size (.cells #[.int .i64 z] 3)).trans (hb3.mono (by have := HW.out.size; simp; omega))
      have hsz := str_size (enc z)
      have happ := str_app a (enc z)
      have Hbw := Lib.hid hbw
      generalize enc z = s at *
      clear hb3 c2 hbw
      by_cases h32 : 32 < a.length + s.length
      · have h32' : (32 : Int) < (a.length : Int) + (s.length : Int) := by omega
        have Fin : Hid (word l = a) := Lib.hid (by rw [Hwd.out, if_pos h32])
        clear h32 happ
        go_wp2
        go_ret
        exact ⟨by rw [Fin.out]; rfl, Hbw.out⟩
      · have h32' : (a.length : Int) + (s.length : Int) ≤ 32 := by omega
        have Fin : Hid (word l = wordGo (a ++ s) (l.drop (k + 1))) := Lib.hid (by rw [Hwd.out, if_neg h32])
        clear h32
        go_wp2
        go_roundw
        case rel => exact ⟨k + 1, a ++ s, by omega, by go_num, by first | rfl | rw [happ], by rw [List.length_append]; omega, Fin.out, Hbw.out⟩
        case measure => simp [intOf]; omega
    · have hd : l.drop k = [] := List.drop_eq_nil_of_le (by rw [Hl.out]; omega)
      rw [hd] at hwd
      have Fin : Hid (word l = a) := Lib.hid hwd
      have Hb := Lib.hid hW
      clear hwd hd hW
      go_wp2
      go_ret
      exact ⟨by rw [Fin.out]; rfl, Hb.out⟩

/-- How far the document's words have been told. -/
structure FarR (l : List Nat) (k : Nat) (ws : List (List UInt8)) : Prop where
  le : k ≤ l.length
  eq : (runs [] l).map word = ws ++ (runs [] (l.drop k)).map word
theorem FarR.gap {l : List Nat} {k : Nat} {ws : List (List UInt8)} (h : FarR l k ws) (hk : k < l.length) (hw : isWord (l[k] : Int) = false) : FarR l (k + 1) ws :=
  ⟨hk, by rw [h.eq, List.drop_eq_getElem_cons hk, runs_cons, hw, if_neg (by decide)]; rfl⟩
theorem FarR.run {l : List Nat} {k m : Nat} {ws : List (List UInt8)} (h : FarR l k ws) (hm : k < m) (hml : m ≤ l.length) (hall : ∀ r ∈ (l.take m).drop k, isWord (r : Int) = true)
    (hend : ∀ hm : m < l.length, isWord (l[m] : Int) = false) : FarR l m (ws ++ [word ((l.take m).drop k)]) := by
  refine ⟨hml, ?_⟩
  have e : l.drop k = (l.take m).drop k ++ l.drop m := by
    conv => lhs; rw [← List.take_append_drop m l]
    rw [List.drop_append_of_le_length (by rw [List.length_take]; omega)]
  have hne : (l.take m).drop k ≠ [] := by
    intro e
    have := congrArg List.length e
    rw [List.length_drop, List.length_take, List.length_nil] at this
    omega
  rw [h.eq, e, runs_all _ [] _ hall, List.nil_append]
  generalize (l.take m).drop k = c at *
  rcases Nat.lt_or_ge m l.length with hlt | hge
  · rw [List.drop_eq_getElem_cons hlt, runs_cons, runs_cons, hend hlt, if_neg (by decide), if_neg (by decide)]
    simp [last, hne]
  · rw [List.drop_eq_nil_of_le hge, runs_nil, runs_nil]
    simp [last, hne]
theorem FarR.done {l : List Nat} {ws : List (List UInt8)} (h : FarR l l.length ws) : (runs [] l).map word = ws := by
  rw [h.eq, List.drop_length, runs_nil]
  simp [last]

set_option maxHeartbeats 1600000 in
theorem tokens_refB (s : ByteArray) (w : World) (hs : s.size ≤ 1048576) : Calls Tryz.prog 92 #[.string s] w (TokPost w (words s.data.toList)) := by
  obtain ⟨i0, hi0, hz0, hz1, hz2⟩ := info_parts tok_info
  have c0 := runes_ref s w (by omega)
  have hrl := runes_len s.data.toList
  rw [bsize] at hrl
  have Fin : Hid (words s.data.toList = (runs [] (runes s.data.toList)).map word) := rfl
  generalize words s.data.toList = wds at *
  generalize runes s.data.toList = l at *
  go_enter Tryz.func92, Tryz.ntmps92
  go_wp2_with fail
  refine c0.mono ?_
  rintro e w1 ⟨v, rfl, hown, hb1⟩
  obtain ⟨A, c, rfl, hR⟩ := own_shape hown
  have hlc : l.length ≤ c := by
    rcases hown.2 with ⟨hv, _⟩ | ⟨g', cap', cur, hv, _, _, hnc, _⟩
    · injection hv with _ hv _; omega
    · injection hv with _ _ hv; omega
  have S0 : Toks w1 w1 (.slice none 0 0) [] := Toks.start w1 w1 (Below.refl _ _)
  have F0 : FarR l 0 [] := ⟨Nat.zero_le _, rfl⟩
  have HR := Lib.hid hR
  have HS0 := Lib.hid S0
  have HF0 := Lib.hid F0
  have Hb1 := Lib.hid hb1
  clear hown hR S0 F0 hb1 c0
  go_wp2_with fail
  go_loopw [3, 5] (fun v i wr => ∃ (k : Nat) (ws : List (List UInt8)), i = .int .i64 k ∧ FarR l k ws ∧ ws.length ≤ k ∧ Toks w1 wr v ws) (fun _ i _ => l.length - (intOf i).toNat)
  case atStart => exact ⟨0, [], rfl, HF0.out, by simp, HS0.out⟩
  case round =>
    obtain ⟨k, ws, rfl, hF, hwl, hT⟩ := hrel
    have hkl := hF.le
    by_cases hlt : k < l.length
    · obtain ⟨wo, rfl⟩ : ∃ wo : World, wo = wr := ⟨_, rfl⟩
      obtain ⟨ab, ao, _, rfl, hab, _⟩ := Reads.at_map (f := fun r : Nat => Value.int .i64 (r : Int)) HR.out hlt
      have HT := Lib.hid hT
      have HF := Lib.hid hF
      clear hT hF
      go_wp2
      go_loop [6] (fun e => ∃ m : Nat, k ≤ m ∧ m ≤ l.length ∧ e = .int .i64 m ∧ ∀ r ∈ (l.take m).drop k, isWord (r : Int) = true) (fun e => l.length - (intOf e).toNat)
      case atStart => exact ⟨k, Nat.le_refl _, hkl, rfl, by
        rw [List.drop_eq_nil_of_le (by rw [List.length_take]; omega)]; intro r hr; cases hr⟩
      case round =>
        obtain ⟨m, hkm, hml, rfl, hall⟩ := hrel
        have Hall := Lib.hid hall
        clear hall
        by_cases hend : m < l.length
        · obtain ⟨ab', ao', _, e, _, hcw⟩ := Reads.at_map (f := fun r : Nat => Value.int .i64 (r : Int)) HR.out hend
          injection e with e
          injection e with e1 e2
          subst e1 e2
          have hcx := (HT.out.bel.cell (p := ⟨ab, ao + m, none⟩) hab).trans hcw
          have c1 := word_ref (l[m] : Int) wo
          clear hcw
          by_cases hw : isWord (l[m] : Int) = true
          · have Hall2 : Hid (∀ r ∈ (l.take (m + 1)).drop k, isWord (r : Int) = true) := Lib.hid (by
              have e : (l.take (m + 1)).drop k = (l.take m).drop k ++ [l[m]] := by
                rw [List.take_succ_eq_append_getElem hend, List.drop_append_of_le_length (by rw [List.length_take]; omega)]
              rw [e]
              intro r hr
              rcases List.mem_append.1 hr with hr | hr
              · exact Hall.out r hr
              · simp only [List.mem_singleton] at hr
                subst hr; exact hw)
            rw [hw] at c1
            clear hw
            generalize (l[m] : Int) = r at *
            go_wp2_with (go_at_call 136; refine c1.mono ?_; rintro e w' ⟨rfl, rfl⟩)
            go_round
            case rel => exact ⟨m + 1, by omega, by omega, by go_num, Hall2.out⟩
            case measure => simp [intOf]; omega
          · have hw' : isWord (l[m] : Int) = false := by simpa using hw
            have Hstop : Hid (∀ hm : m < l.length, isWord (l[m] : Int) = false) := Lib.hid (fun _ => hw')
            rw [hw'] at c1
            clear hw hw'
            generalize (l[m] : Int) = r at *
            obtain ⟨A3, d3, rfl, _⟩ := own_shape HT.out.own
            by_cases hmk : m = k
            · subst hmk
              have HF2 := Lib.hid (HF.out.gap hlt (Hstop.out hlt))
              go_wp2_with (go_at_call 136; refine c1.mono ?_; rintro e w' ⟨rfl, rfl⟩)
              go_roundw
              case rel => exact ⟨m + 1, ws, by go_num, HF2.out, by omega, HT.out⟩
              case measure => simp [intOf]; omega
            · have hkm' : k < m := by omega
              have hmk' : ((m : Int) == (k : Int)) = false := beq_eq_false_iff_ne.2 (by omega)
              have HF2 := Lib.hid (HF.out.run (m := m) (by omega) hml Hall.out Hstop.out)
              have hRs := (HR.out.below HT.out.bel).sub (m := k) (k := m) (by omega) (by omega)
              have hmp : ((rv l).take m).drop k = rv ((l.take m).drop k) := by unfold rv; rw [← List.map_take, ← List.map_drop]
              rw [hmp] at hRs
              have c2 := cut_ref (some ⟨ab, ao + k, none⟩) (m - k) (c - k) _ wo (hRs.more HT.out.bel.size) (by omega)
              clear hRs hmp hmk
              generalize word ((l.take m).drop k) = wd at *
              go_wp2_with fail
              refine c1.mono ?_
              rintro e w' ⟨rfl, rfl⟩
              go_wp2_with fail
              refine c2.mono ?_
              rintro e w4 ⟨rfl, hb4⟩
              have hT4 := HT.out.below hb4
              have hown4 := hT4.own
              have hbs4 := hT4.bel.size
              have HT4 := Lib.hid hT4
              clear c2 hb4 hT4
              go_wp2_with (at_builtin; refine wpList_append_own _ rfl _ _ 151 rfl w1.heap.size 154 i0 _ 2 24 Tryz.underlying151 hi0 hz0 hz1 hz2 rfl (by decide) _ _ _ rfl (hown4.alloc _) ⟨w4.heap.size, 0, none⟩ 1 1 [.string (str wd), .int .i64 (ws.length : Int)] rfl rfl ?d1 ?d2 ?d3 ?d4 ?d5 ?_)
              case d1 => exact World.news_of_block (cs := #[.string (str wd), .int .i64 (ws.length : Int)]) (t := 154) (fr := (0, 0)) (heap_alloc_new w4 _)
              case d2 => intro u hu; simp at hu; rcases hu with rfl | rfl <;> rfl
              case d3 => unfold maxLen; omega
              case d4 => omega
              case d5 => simp; omega
              intro v' w5 hown5 hg5 _
              have HT5 := Lib.hid ((HT4.out.below ((Below.refl _ _).alloc (Nat.le_refl _) _)).put hown5 hg5)
              clear hown5 hg5 hown4
              go_wp2
              go_roundw
              case rel => exact ⟨m, _, rfl, HF2.out, by rw [List.length_append]; simp; omega, HT5.out⟩
              case measure => simp [intOf]; omega
        · have Hstop : Hid (∀ hm : m < l.length, isWord (l[m] : Int) = false) := Lib.hid (fun hm => absurd hm hend)
          obtain rfl : m = l.length := by omega
          obtain ⟨A3, d3, rfl, _⟩ := own_shape HT.out.own
          by_cases hmk : l.length = k
          · exfalso; omega
          · have hmk' : ((l.length : Int) == (k : Int)) = false := beq_eq_false_iff_ne.2 (by omega)
            have HF2 := Lib.hid (HF.out.run (m := l.length) (by omega) hml Hall.out Hstop.out)
            have hRs := (HR.out.below HT.out.bel).sub (m := k) (k := l.length) (by omega) (by omega)
            have hmp : ((rv l).take l.length).drop k = rv ((l.take l.length).drop k) := by unfold rv; rw [← List.map_take, ← List.map_drop]
            rw [hmp] at hRs
            have c2 := cut_ref (some ⟨ab, ao + k, none⟩) (l.length - k) (c - k) _ wo (hRs.more HT.out.bel.size) (by omega)
            clear hRs hmp hmk
            generalize word ((l.take l.length).drop k) = wd at *
            go_wp2_with fail
            refine c2.mono ?_
            rintro e w4 ⟨rfl, hb4⟩
            have hT4 := HT.out.below hb4
            have hown4 := hT4.own
            have hbs4 := hT4.bel.size
            have HT4 := Lib.hid hT4
            clear c2 hb4 hT4
            go_wp2_with (at_builtin; refine wpList_append_own _ rfl _ _ 151 rfl w1.heap.size 154 i0 _ 2 24 Tryz.underlying151 hi0 hz0 hz1 hz2 rfl (by decide) _ _ _ rfl (hown4.alloc _) ⟨w4.heap.size, 0, none⟩ 1 1 [.string (str wd), .int .i64 (ws.length : Int)] rfl rfl ?d1 ?d2 ?d3 ?d4 ?d5 ?_)
            case d1 => exact World.news_of_block (cs := #[.string (str wd), .int .i64 (ws.length : Int)]) (t := 154) (fr := (0, 0)) (heap_alloc_new w4 _)
            case d2 => intro u hu; simp at hu; rcases hu with rfl | rfl <;> rfl
            case d3 => unfold maxLen; omega
            case d4 => omega
            case d5 => simp; omega
            intro v' w5 hown5 hg5 _
            have HT5 := Lib.hid ((HT4.out.below ((Below.refl _ _).alloc (Nat.le_refl _) _)).put hown5 hg5)
            clear hown5 hg5 hown4
            go_wp2
            go_roundw
            case rel => exact ⟨l.length, _, rfl, HF2.out, by rw [List.length_append]; simp; omega, HT5.out⟩
            case measure => simp [intOf]; omega
    · obtain rfl : k = l.length := by omega
      have Fin2 := Lib.hid hF.done
      have HT := Lib.hid hT
      clear hF hT
      go_wp2
      go_ret
      have e : wds = ws := by rw [Fin.out, Fin2.out]
      have hz := Hb1.out.size
      exact ⟨_, rfl, by rw [e]; exact HT.out.own.mono hz, Hb1.out.trans (HT.out.bel.mono hz)⟩
theorem tokens_ref (s : ByteArray) (w : World) (hs : s.size ≤ 1048576) : Calls Tryz.prog 92 #[.string s] w (TokPost w (words s.data.toList)) :=
  tokens_refB s w (by omega)
end Go.Proofs.YtlfpfkallgkjdaaGreat.Tk
end

section
/- loggiaref07: Words, IsWord, IsName, Term: the walks. -/
namespace Go.Proofs.YtlfpfkallgkjdaaGreat.Tk
open Go.RowKit Go.Proofs.YtlfpfkallgkjdaaGreat.Ut
set_option maxRecDepth 20000

set_option maxHeartbeats 800000 in
theorem words_ref (s : ByteArray) (w : World) (hs : s.size ≤ 1048576) : Calls Tryz.prog 183 #[.string s] w (StrPost w (words s.data.toList)) := by
  obtain ⟨i0, hi0, hz0, hz1, hz2⟩ := info_parts str_info
  have c0 := tokens_ref s w hs
  have hwl := words_len s
  generalize words s.data.toList = ws at *
  go_enter Tryz.func183, Tryz.ntmps183
  go_wp2_with fail
  refine c0.mono ?_
  rintro e w1 ⟨v, rfl, hown, hb1⟩
  obtain ⟨A, c, rfl, hR⟩ := own_shape hown
  have S0 : Strs w1 w1 (.slice none 0 0) [] := ⟨World.ownsRow_nil _ _ _ _, Below.refl _ _⟩
  have HR := Lib.hid hR
  have HS0 := Lib.hid S0
  have Hb1 := Lib.hid hb1
  clear hown hR S0 c0 hb1
  go_wp2_with fail
  go_loopw [4, 5] (fun v i wr => ∃ k : Nat, k ≤ ws.length ∧ i = .int .i64 k ∧ Strs w1 wr v (ws.take k)) (fun _ i _ => ws.length - (intOf i).toNat)
  case atStart => exact ⟨0, Nat.zero_le _, rfl, HS0.out⟩
  case round =>
    obtain ⟨k, hk, rfl, hT⟩ := hrel
    by_cases hlt : k < ws.length
    · obtain ⟨b, o, rfl, hb, hc1, hc2⟩ := toks_at HR.out rfl hlt
      have hd1 := (hT.bel.cell (p := ⟨b, o + k * 2, none⟩) hb).trans hc1
      have hts : ws.take (k + 1) = ws.take k ++ [ws[k]] := by rw [List.take_succ_eq_append_getElem hlt]
      have Hts := Lib.hid hts
      have htl : (ws.take k).length ≤ ws.length := by rw [List.length_take]; omega
      have hown := hT.own
      have hbs := hT.bel.size
      have HT := Lib.hid hT
      clear hts hc1 hc2 hT
      generalize ws[k] = x at *
      generalize ws.take k = y at *
      go_wp2_with (at_builtin; refine wpList_append_own _ rfl _ _ 49 rfl w1.heap.size 9 i0 _ 1 16 Tryz.underlying49 hi0 hz0 hz1 hz2 rfl (by decide) _ _ _ rfl (hown.alloc _) ⟨wr.heap.size, 0, none⟩ 1 1 [.string (str x)] rfl rfl ?d1 ?d2 ?d3 ?d4 ?d5 ?_)
      case d1 => exact World.news_of_block (cs := #[.string (str x)]) (t := 9) (fr := (0, 0)) (heap_alloc_new wr _)
      case d2 => intro u hu; simp at hu; subst hu; rfl
      case d3 => unfold maxLen; omega
      case d4 => omega
      case d5 => simp; omega
      intro v' w5 hown5 hg5 _
      have HT5 := Lib.hid ((HT.out.below ((Below.refl _ _).alloc (Nat.le_refl _) _)).put hown5 hg5)
      clear hown5 hg5 hown
      go_wp2
      go_roundw
      case rel => exact ⟨k + 1, by omega, by go_num, by rw [Hts.out]; exact HT5.out⟩
      case measure => simp [intOf]; omega
    · have hall : ws.take k = ws := List.take_of_length_le (by omega)
      rw [hall] at hT
      have HT := Lib.hid hT
      clear hT hall
      go_wp2
      go_ret
      exact ⟨_, rfl, HT.out.own.mono Hb1.out.size, Hb1.out.trans (HT.out.bel.mono Hb1.out.size)⟩

set_option maxHeartbeats 800000 in
theorem isWord_refB (s : ByteArray) (w : World) (hs : s.size ≤ 1048576) : Calls Tryz.prog 164 #[.string s] w fun e w' => e = .returned (.bool (isW s.data.toList)) ∧ Below w.heap.size w w' := by
  have c0 := tokens_refB s w hs
  have Fin : Hid (isW s.data.toList = (words s.data.toList == [s.data.toList])) := rfl
  generalize words s.data.toList = ws at *
  go_enter Tryz.func164, Tryz.ntmps164
  go_wp2_with fail
  refine c0.mono ?_
  rintro e w1 ⟨v, rfl, hown, hb1⟩
  obtain ⟨A, c, rfl, hR⟩ := own_shape hown
  have HR := Lib.hid hR
  have Hb1 := Lib.hid hb1
  clear hown hR c0 hb1
  by_cases h1 : ws.length = 1
  · obtain ⟨x, rfl⟩ : ∃ x, ws = [x] := by
      match ws, h1 with
      | [x], _ => exact ⟨x, rfl⟩
    obtain ⟨b, o, rfl, hb, hc1, hc2⟩ := toks_at HR.out rfl (k := 0) (by simp)
    simp at hc1
    clear hc2 h1
    go_wp2
    go_ret
    refine ⟨?_, Hb1.out⟩
    rw [Fin.out]
    simp [tl, str_data]
  · have h1' : ((ws.length : Int) == 1) = false := beq_eq_false_iff_ne.2 (by omega)
    have Fin2 : Hid ((ws == [s.data.toList]) = false) := Lib.hid (beq_eq_false_iff_ne.2 (fun e => h1 (by rw [e]; rfl)))
    clear h1
    go_wp2
    go_ret
    exact ⟨by rw [Fin.out, Fin2.out]; rfl, Hb1.out⟩

theorem isWord_ref (s : ByteArray) (w : World) (hs : s.size ≤ 1048576) : Calls Tryz.prog 164 #[.string s] w fun e w' => e = .returned (.bool (isW s.data.toList)) ∧ Below w.heap.size w w' :=
  isWord_refB s w (by omega)
set_option maxHeartbeats 800000 in
theorem isName_refB (s : ByteArray) (w : World) (hs : s.size ≤ 140737488351232) : Calls Tryz.prog 52 #[.string s] w fun e w' => e = .returned (.bool (isN s.data.toList)) ∧ w = w' := by
  have Fin : Hid (isN s.data.toList = (decide (1 ≤ s.data.toList.length) && decide (s.data.toList.length ≤ 32) && s.data.toList.all nameB)) := rfl
  rw [bsize] at Fin
  by_cases hl : 1 ≤ s.size ∧ s.size ≤ 32
  · have h1 : (1 : Int) ≤ (s.size : Int) := by omega
    have h2 : (s.size : Int) ≤ 32 := by omega
    have Fin2 : Hid (isN s.data.toList = s.data.toList.all nameB) := Lib.hid (by rw [Fin.out, decide_eq_true hl.1, decide_eq_true hl.2]; rfl)
    clear hl
    go_enter Tryz.func52, Tryz.ntmps52
    go_wp2
    go_loop [3] (fun i => ∃ k : Nat, k ≤ s.size ∧ i = .int .i64 k ∧ (s.data.toList.take k).all nameB = true) (fun i => s.size - (intOf i).toNat)
    case atStart => exact ⟨0, Nat.zero_le _, rfl, rfl⟩
    case round =>
      obtain ⟨k, hk, rfl, hal⟩ := hrel
      by_cases hlt : k < s.size
      · have hu := (s[k]).toNat_lt
        have hts := take_snoc s k hlt
        have hmem : s[k] ∈ s.data.toList := by
          have : s.data.toList[k]'(by rw [bsize]; exact hlt) = s[k] := rfl
          rw [← this]; exact List.getElem_mem _
        have Hal := Lib.hid hal
        rcases nameB_cases s[k] with ⟨hn, h⟩ | ⟨hn, h9, h⟩
        · have Hnx : Hid ((s.data.toList.take (k + 1)).all nameB = true) := Lib.hid (by rw [hts, List.all_append, Hal.out]; simp [hn])
          clear hal hts hmem hn
          rcases h with h | h | h
          all_goals
            go_wp2
            all_goals first
              | (go_round
                 case rel => exact ⟨k + 1, by omega, by go_num, Hnx.out⟩
                 case measure => simp [intOf]; omega)
              | (exfalso; simp only [bne_iff_ne, ne_eq, bne_eq_false_iff_eq, beq_eq_false_iff_ne, decide_eq_true_eq] at *; omega)
        · have Fin3 : Hid (isN s.data.toList = false) := Lib.hid (by
            rw [Fin2.out]
            exact List.all_eq_false.2 ⟨_, hmem, by rw [hn]; decide⟩)
          clear hal hts hmem hn
          have h9' : (((s[k]).toNat : Int) == 95) = false := by rw [beq_eq_false_iff_ne]; omega
          rcases h with h | h | h
          all_goals
            go_wp2
            all_goals first
              | (go_ret; exact ⟨by rw [Fin3.out]; rfl, rfl⟩)
              | (exfalso; simp only [Bool.not_eq_false', decide_eq_true_eq] at *; omega)
      · obtain rfl : k = s.size := by omega
        have htk : s.data.toList.take s.size = s.data.toList := List.take_of_length_le (Nat.le_of_eq (bsize s))
        rw [htk] at hal
        have Fin3 : Hid (isN s.data.toList = true) := Lib.hid (by rw [Fin2.out, hal])
        clear hal htk
        go_wp2
        go_ret
        exact ⟨by rw [Fin3.out]; rfl, rfl⟩
  · have Fin2 : Hid (isN s.data.toList = false) := Lib.hid (by
      rw [Fin.out]
      by_cases h1 : 1 ≤ s.size
      · rw [decide_eq_false (show ¬ s.size ≤ 32 by omega)]; simp
      · rw [decide_eq_false h1]; rfl)
    by_cases h1 : s.size < 1
    · have h1' : (s.size : Int) < 1 := by omega
      clear hl h1
      go_enter Tryz.func52, Tryz.ntmps52
      go_wp2
      go_ret
      exact ⟨by rw [Fin2.out]; rfl, rfl⟩
    · have h1' : (1 : Int) ≤ (s.size : Int) := by omega
      have h2' : (32 : Int) < (s.size : Int) := by omega
      clear hl h1
      go_enter Tryz.func52, Tryz.ntmps52
      go_wp2
      go_ret
      exact ⟨by rw [Fin2.out]; rfl, rfl⟩

theorem isName_ref (s : ByteArray) (w : World) (hs : s.size ≤ 1048576) : Calls Tryz.prog 52 #[.string s] w fun e w' => e = .returned (.bool (isN s.data.toList)) ∧ w = w' :=
  isName_refB s w (by omega)
set_option maxHeartbeats 400000 in
theorem termr_noB (a b : ByteArray) (w : World) (ha : a.size ≤ 1048576) (hb : b.size ≤ 1048576) (h : termOk a b = false) : Calls Tryz.prog 131 #[.string a, .string b] w fun e w' => e = .returned (.tuple #[.string ByteArray.empty, .int .i64 1]) ∧ Below w.heap.size w w' := by
  have c1 := isName_refB a w (by omega)
  by_cases hn : isN a.data.toList = true
  · have hw : isW b.data.toList = false := by unfold termOk at h; rw [hn, Bool.true_and] at h; exact h
    have c2 := isWord_refB b w hb
    rw [hn] at c1
    rw [hw] at c2
    clear hn hw h
    go_enter Tryz.func131, Tryz.ntmps131
    go_wp2_with (first | (go_at_call 52; refine c1.mono ?_; rintro e w2 ⟨rfl, rfl⟩) | (go_at_call 164; refine c2.mono ?_; rintro e w3 ⟨rfl, hb3⟩))
    go_ret2
    exact ⟨rfl, hb3⟩
  · have hn' : isN a.data.toList = false := by simpa using hn
    rw [hn'] at c1
    clear hn hn' h
    go_enter Tryz.func131, Tryz.ntmps131
    go_wp2_with (go_at_call 52; refine c1.mono ?_; rintro e w2 ⟨rfl, rfl⟩)
    go_ret2
    exact ⟨rfl, Below.refl _ _⟩
theorem termr_no (a b : ByteArray) (w : World) (ha : a.size ≤ 1048576) (hb : b.size ≤ 1048576) (h : termOk a b = false) : Calls Tryz.prog 131 #[.string a, .string b] w fun e w' => e = .returned (.tuple #[.string ByteArray.empty, .int .i64 1]) ∧ Below w.heap.size w w' :=
  termr_noB a b w (by omega) (by omega) h
set_option maxHeartbeats 400000 in
theorem termr_yesB (a b : ByteArray) (w : World) (ha : a.size ≤ 1048576) (hb : b.size ≤ 1048576) (h : termOk a b = true) : Calls Tryz.prog 131 #[.string a, .string b] w fun e w' => e = .returned (.tuple #[.string (termV a b), .int .i64 0]) ∧ Below w.heap.size w w' := by
  unfold termOk at h
  rw [Bool.and_eq_true] at h
  have c1 := isName_refB a w (by omega)
  have c2 := isWord_refB b w hb
  rw [h.1] at c1
  rw [h.2] at c2
  have F : Hid (a ++ colonS ++ b = termV a b) := Lib.hid (termV_eq a b)
  clear h
  generalize termV a b = t at *
  go_enter Tryz.func131, Tryz.ntmps131
  go_wp2_with (first | (go_at_call 52; refine c1.mono ?_; rintro e w2 ⟨rfl, rfl⟩) | (go_at_call 164; refine c2.mono ?_; rintro e w3 ⟨rfl, hb3⟩))
  go_ret2
  rw [← F.out]
  exact ⟨rfl, hb3⟩
theorem termr_yes (a b : ByteArray) (w : World) (ha : a.size ≤ 1048576) (hb : b.size ≤ 1048576) (h : termOk a b = true) : Calls Tryz.prog 131 #[.string a, .string b] w fun e w' => e = .returned (.tuple #[.string (termV a b), .int .i64 0]) ∧ Below w.heap.size w w' :=
  termr_yesB a b w (by omega) (by omega) h
end Go.Proofs.YtlfpfkallgkjdaaGreat.Tk
end

section
/- SLICED by slice.py -/
/- loggiaref07: SameWords, Same at equal rows; the law's cut. -/
namespace Go.Proofs.YtlfpfkallgkjdaaGreat.Tk
open Go.RowKit Go.Proofs.YtlfpfkallgkjdaaGreat.Ut
set_option maxRecDepth 20000

theorem sv_get (ws : List (List UInt8)) (k : Nat) (h : k < ws.length) : (sv ws)[k]? = some (.string (str ws[k])) := by simp [sv, List.getElem?_eq_getElem h]
theorem tok_self (s : ByteArray) (n : Int) (w : World) : (binOp .neq 154 (.agg #[.string s, .int .i64 n]) (.agg #[.string s, .int .i64 n])).run Tryz.prog w = .ok (.bool false) w := by
  have u1 := Tryz.underlying9
  have u3 := Tryz.underlying3
  have a1 := Tryz.isAgg9
  have z1 := Tryz.sizeOf9
  have a3 := Tryz.isAgg3
  have z3 := Tryz.sizeOf3
  have hS : Tryz.prog.underlying 154 = some (.struct (Tryz.prog.fieldsOf 154)) := by kernel_rfl
  have hp : Tryz.prog.stoodInHeld 154 = false := by kernel_rfl
  rw [run_neq_struct, show (10000 : Nat) = 9999 + 1 from rfl, run_equalIn_agg w 9999 154 _ _ hS hp]
  simp only [Program.fieldsOf, Tryz.underlying154]
  go_simp

/-- A text's first bytes. -/
def ct (n : Nat) (s : ByteArray) : ByteArray := s.extract 0 (min s.size n)
theorem ct_size (n : Nat) (s : ByteArray) : (ct n s).size ≤ n := by unfold ct; rw [ByteArray.size_extract]; omega
end Go.Proofs.YtlfpfkallgkjdaaGreat.Tk
end

section
/- token.Phrase: the walk. -/
namespace Go.Proofs.YtlfpfkallgkjdaaGreat.Qy
open Go.RowKit Go.Proofs.YtlfpfkallgkjdaaGreat Go.Proofs.YtlfpfkallgkjdaaGreat.Ut Go.Proofs.YtlfpfkallgkjdaaGreat.Tk
set_option maxRecDepth 20000

/-- Integers of the call's own. -/
def nv (l : List Nat) : List Value := l.map fun n : Nat => Value.int .i64 (n : Int)
theorem nv_snoc (l : List Nat) (n : Nat) : nv (l ++ [n]) = nv l ++ [.int .i64 (n : Int)] := by simp [nv]
structure Ints (w wr : World) (v : Value) (l : List Nat) : Prop where
  own : wr.ownsRow w.heap.size 3 1 v l.length (nv l)
  bel : Below w.heap.size w wr
theorem Ints.below {w wr w2 : World} {v : Value} {l : List Nat} (h : Ints w wr v l) (hb : Below wr.heap.size wr w2) : Ints w w2 v l :=
  ⟨h.own.kept (grow_of_below hb none) (by cases hv : v.ownBlock <;> simp), h.bel.trans (hb.mono h.bel.size)⟩
theorem Ints.put {w wr w2 : World} {v v' : Value} {l : List Nat} {n : Nat} (h : Ints w wr v l) (hp : w2.ownsRow w.heap.size 3 1 v' (l.length + 1) (nv l ++ [.int .i64 (n : Int)])) (hg : wr.grownBy w2 v.ownBlock) : Ints w w2 v' (l ++ [n]) := by
  refine ⟨?_, h.bel.grown hg h.bel.size (fun k hk => (h.own.lt k hk).1)⟩
  rw [nv_snoc, List.length_append]
  exact hp
theorem Ints.start (w : World) : Ints w w (.slice none 0 0) [] := ⟨World.ownsRow_nil _ _ _ _, Below.refl _ _⟩
def IntPost (w : World) (l : List Nat) (e : Ending) (w' : World) : Prop := ∃ v, e = .returned v ∧ Ints w w' v l

set_option maxHeartbeats 400000 in
theorem behind_any (k j : Nat) (h : k + j < 4611686018427387904) (w : World) : Calls Tryz.prog 159 #[.int .i64 (k : Int), .int .i64 ((k + j : Nat) : Int), .int .i64 (j : Int)] w fun e w' => e = .returned (.bool true) ∧ w = w' := by
  have h1 : (k : Int) ≤ ((k + j : Nat) : Int) := by omega
  have h0 : (0 : Int) ≤ (k : Int) := by omega
  have h2 : (0 : Int) ≤ (j : Int) := by omega
  have h3 : ((k + j : Nat) : Int) - (k : Int) = (j : Int) := by omega
  have h4 : ((k + j : Nat) : Int) < 4611686018427387904 := by omega
  have h5 : (j : Int) < 4611686018427387904 := by omega
  have h6 : (k : Int) < 4611686018427387904 := by omega
  generalize ((k + j : Nat) : Int) = a at *
  generalize (k : Int) = b at *
  generalize (j : Int) = c at *
  go_enter Tryz.func159, Tryz.ntmps159
  go_wp2
  go_ret
  exact ⟨by simp, rfl⟩

set_option maxHeartbeats 1600000 in
theorem phrase_any (TA : Option Addr) (n tc : Nat) (T : List (List UInt8)) (WA : Option Addr) (m wc : Nat) (ws : List ByteArray) (w : World) (hT : Reads w w.heap.size 2 TA n (tokC (placed T))) (hn : T.length = n) (hn2 : n ≤ 1048576)
    (hW : Reads w w.heap.size 1 WA m (ws.map Value.string)) (hm : ws.length = m) (hm2 : m ≤ 8796093021952) :
    Calls Tryz.prog 125 #[.slice TA n tc, .slice WA m wc] w (IntPost w (phr T ws)) := by
  obtain ⟨i0, hi0, hz0, hz1, hz2⟩ := info_parts int_info2
  have HT := Lib.hid hT
  have HW := Lib.hid hW
  clear hT hW
  by_cases h0 : m = 0
  · have hws : ws = [] := List.length_eq_zero_iff.1 (by omega)
    have Fin : Hid (phr T ws = []) := Lib.hid (by unfold phr; rw [if_pos hws])
    have h0' : ((m : Int) == 0) = true := by rw [beq_iff_eq]; omega
    clear h0 hws hm
    go_enter Tryz.func125, Tryz.ntmps125
    go_wp2_with fail
    go_step3
    go_wp2
    rw [Exit.noGoto_ret]
    go_ret
    exact ⟨_, rfl, by rw [Fin.out]; exact Ints.start w⟩
  · have hws : ws ≠ [] := fun e => h0 (by rw [← hm, e]; rfl)
    have Fin : Hid (phr T ws = phrTo T ws n) := Lib.hid (by unfold phr; rw [if_neg hws, hn])
    have h0' : ((m : Int) == 0) = false := by rw [beq_eq_false_iff_ne]; omega
    have Hn := Lib.hid hn
    have Hm := Lib.hid hm
    clear h0 hws hm hn
    go_enter Tryz.func125, Tryz.ntmps125
    go_wp2_with fail
    go_step3
    go_wp2_with fail
    go_step3
    go_wp2_with fail
    go_loopw [5, 16] (fun v i wr => ∃ k : Nat, k ≤ n ∧ i = .int .i64 k ∧ Ints w wr v (phrTo T ws k)) (fun _ i _ => n - (intOf i).toNat)
    case atStart => exact ⟨0, Nat.zero_le _, rfl, Ints.start w⟩
    case round =>
      obtain ⟨k, hk, rfl, hI⟩ := hrel
      by_cases hlt : k < n
      · obtain ⟨tb, tq, rfl, htb, hc1, hc2⟩ := toks_at HT.out Hn.out (k := k) (by rw [Hn.out]; exact hlt)
        have hd1 := (hI.bel.cell (p := ⟨tb, tq + k * 2, none⟩) htb).trans hc1
        have hd2 := (hI.bel.cell (p := ⟨tb, tq + k * 2 + 1, none⟩) htb).trans hc2
        have HI := Lib.hid hI
        have hz := hI.bel.size
        have hpl := phrTo_len T ws k
        clear hI hc1 hc2
        by_cases hs : n - k < m
        · have hs' : (n : Int) - (k : Int) < (m : Int) := by omega
          have Fin2 : Hid (phrTo T ws n = phrTo T ws k) := Lib.hid (phrTo_short T ws k (by rw [Hn.out, Hm.out]; exact hs) n (by omega))
          have HI2 := Lib.hid (HI.out.below ((Below.refl _ _).alloc (Nat.le_refl _) (.cells #[.string (str (T[k]'(by rw [Hn.out]; exact hlt))), .int .i64 (k : Int)] 154)))
          generalize (str (T[k]'(by rw [Hn.out]; exact hlt))) = tk at *
          clear hs
          go_wp2
          rw [Exit.noGoto_ret]
          go_ret
          exact ⟨_, rfl, by rw [Fin.out, Fin2.out]; exact HI2.out⟩
        · have hs' : (m : Int) ≤ (n : Int) - (k : Int) := by omega
          have HB7 := Lib.hid ((Blk.new wr 154 #[.string (str (T[k]'(by rw [Hn.out]; exact hlt))), .int .i64 (k : Int)]))
          generalize (str (T[k]'(by rw [Hn.out]; exact hlt))) = tk at *
          obtain ⟨wo, rfl⟩ : ∃ wo : World, wo = wr := ⟨_, rfl⟩
          have hmn : m ≤ n - k := by omega
          clear hs
          go_wp2_with fail
          go_loopw [30] (fun i wq => ∃ j : Nat, j ≤ m ∧ i = .int .i64 j ∧ standsTo T ws k j = true ∧ Below (wo.alloc (.cells #[.string tk, .int .i64 (k : Int)] 154)).heap.size (wo.alloc (.cells #[.string tk, .int .i64 (k : Int)] 154)) wq) (fun i _ => m - (intOf i).toNat)
          case atStart => exact ⟨0, Nat.zero_le _, rfl, standsTo_zero _ _ _, Below.refl _ _⟩
          case round =>
            obtain ⟨j, hj, rfl, hst, hbq⟩ := hrel
            have HIq := Lib.hid ((HI.out.below ((Below.refl _ _).alloc (Nat.le_refl _) (.cells #[.string tk, .int .i64 (k : Int)] 154))).below hbq)
            have h7 := HB7.out.below hbq (by simp)
            have h7a := h7.cell 0
            have h7b := h7.cell 1
            simp at h7a h7b
            have Hbq := Lib.hid hbq
            have Hst := Lib.hid hst
            have hzq := hbq.size
            simp at hzq
            clear h7 hbq hst
            by_cases hjm : j < m
            · obtain ⟨xb, xo, e1, hxb, hx1, hx2⟩ := toks_at HT.out Hn.out (k := k + j) (by rw [Hn.out]; omega)
              injection e1 with e1
              injection e1 with e1 e2
              subst e1 e2
              obtain ⟨ab, ao, hkl, rfl, hab, hcw⟩ := HW.out.at_map hjm
              have hbw := HIq.out.bel
              have hy1 := (hbw.cell (p := ⟨tb, tq + (k + j) * 2, none⟩) htb).trans hx1
              have hy2 := (hbw.cell (p := ⟨tb, tq + (k + j) * 2 + 1, none⟩) htb).trans hx2
              have hyw := (hbw.cell (p := ⟨ab, ao + j, none⟩) hab).trans hcw
              have hss := standsTo_succ T ws k j (by rw [Hn.out]; omega) (by rw [Hm.out]; omega)
              have hbe := str_beq (T[k + j]'(by rw [Hn.out]; omega)) ws[j]
              rw [Hst.out, Bool.true_and, ← hbe] at hss
              have Hss := Lib.hid hss
              have hi0 : (0 : Int) ≤ (k : Int) + (j : Int) := by omega
              have hi1 : (k : Int) + (j : Int) < (n : Int) := by omega
              have hi2 : ((k : Int) + (j : Int)).toNat = k + j := by omega
              have Hno : Hid (standsTo T ws k (j + 1) = false → phrTo T ws (k + 1) = phrTo T ws k) := Lib.hid (fun e => by
                rw [phrTo_succ, standsTo_no T ws k (j + 1) (by rw [Hm.out]; omega) e]; simp)
              clear hbw hx1 hx2 hcw hss hbe
              generalize (str (T[k + j]'(by rw [Hn.out]; omega))) = x at *
              generalize ws[j] = y at *
              by_cases hxy : (x.toList == y.toList) = true
              · have hxy' : (x.toList != y.toList) = false := by rw [bne, hxy]; rfl
                have Hs2 : Hid (standsTo T ws k (j + 1) = true) := Lib.hid (by rw [Hss.out, hxy])
                have c1 := fun wx => behind_any k j (by omega) wx
                have h7c := fun o => (World.cell?_alloc_lt wr o ⟨wo.heap.size, 1, none⟩ (by show wo.heap.size < _; omega)).trans h7b
                have hbx := Hbq.out.alloc Hbq.out.size (.cells #[.string x, .int .i64 ((k + j : Nat) : Int)] 154)
                have Hbx := Lib.hid hbx
                have C1 := Lib.hid c1
                clear hbx c1
                have e1 : ((k + j : Nat) : Int) = (k : Int) + (j : Int) := by omega
                rw [e1] at C1
                have E1 := Lib.hid e1
                clear e1
                go_wp2_with (go_at_call 159; refine (C1.out _).mono ?_; rintro e w' ⟨rfl, rfl⟩)
                go_roundw
                case rel => exact ⟨j + 1, by omega, by go_num, Hs2.out, Hbx.out⟩
                case measure => simp [intOf]; omega
              · have hxy' : (x.toList != y.toList) = true := by rw [bne, Bool.eq_false_iff.2 hxy]; rfl
                have Hs2 := Lib.hid (Hno.out (by rw [Hss.out]; exact Bool.eq_false_iff.2 hxy))
                have hxf : (x.toList == y.toList) = false := Bool.eq_false_iff.2 hxy
                have HIx := Lib.hid (HIq.out.below ((Below.refl _ _).alloc (Nat.le_refl _) (.cells #[.string x, .int .i64 ((k + j : Nat) : Int)] 154)))
                clear hxy
                go_wp2
                go_roundw
                case rel => exact ⟨k + 1, by omega, by go_num, by rw [Hs2.out]; exact HIx.out⟩
                case measure => simp [intOf]; omega
            · obtain rfl : j = m := by omega
              have hst2 := Hst.out
              have hmm := Hm.out
              subst hmm
              rw [standsTo_all] at hst2
              have Hph : Hid (phrTo T ws (k + 1) = phrTo T ws k ++ [k]) := Lib.hid (by rw [phrTo_succ, hst2]; rfl)
              have hown := HIq.out.own
              have hbsz := HIq.out.bel.size
              clear hst2
              generalize phrTo T ws k = P at *
              go_wp2_with (at_builtin; refine wpList_append_own _ rfl _ _ 38 rfl w.heap.size 3 i0 _ 1 8 Tryz.underlying38 hi0 hz0 hz1 hz2 rfl (by decide) _ _ _ rfl (hown.alloc _) ⟨wr.heap.size, 0, none⟩ 1 1 [.int .i64 (k : Int)] rfl rfl ?d1 ?d2 ?d3 ?d4 ?d5 ?_)
              case d2 => first | rfl | (intro u hu; simp at hu; subst hu; rfl)
              case d3 => unfold maxLen; omega
              case d4 => omega
              case d5 => first | omega | (simp; omega)
              intro v' w5 hown5 hg5 _
              have HI5 := Lib.hid ((HIq.out.below ((Below.refl _ _).alloc (Nat.le_refl _) _)).put hown5 hg5)
              clear hown5 hg5 hown
              go_wp2
              go_roundw
              case rel => exact ⟨k + 1, by omega, by go_num, by rw [Hph.out]; exact HI5.out⟩
              case measure => simp [intOf]; omega
      · obtain rfl : k = n := by omega
        have HI := Lib.hid hI
        clear hI
        go_wp2
        rw [Exit.noGoto_ret]
        go_ret
        exact ⟨_, rfl, by rw [Fin.out]; exact HI.out⟩
end Go.Proofs.YtlfpfkallgkjdaaGreat.Qy
end
