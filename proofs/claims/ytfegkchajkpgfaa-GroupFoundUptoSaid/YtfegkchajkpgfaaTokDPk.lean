/- token.Tokens: the walk. -/
import Derived.Deep.AppendLies
import Derived.Deep.Onto
import Derived.Deep.DeepCutAuto
import Derived.Test.YtfegkchajkpgfaaPkGroupRowsRow13
namespace Go.Proofs.Ytfegkchajkpgfaa.Tk
open Go.RowKit Go.Proofs.Ytfegkchajkpgfaa.Ut
set_option maxRecDepth 20000

/-- How far the words have been told: the runs that are done, the run that is open. -/
structure Far (l L : List Nat) (k f : Nat) (ws : List (List UInt8)) : Prop where
  le : f ≤ k
  eq : (runs [] l).map word = ws ++ (runs ((L.take k).drop f) (L.drop k)).map word
  all : ∀ r ∈ (L.take k).drop f, isWord (r : Int) = true
theorem Far.start (l : List Nat) : Far l (l ++ [32]) 0 0 [] := ⟨Nat.le_refl _, by
  rw [List.drop_zero, List.nil_append, List.drop_zero, List.take_zero, runs_end l [] 32 blank_no], by simp⟩
theorem Far.word_ {l L : List Nat} {k f : Nat} {ws : List (List UInt8)} (h : Far l L k f ws) (hk : k < L.length) (hw : isWord (L[k] : Int) = true) : Far l L (k + 1) f ws := by
  have e : (L.take (k + 1)).drop f = (L.take k).drop f ++ [L[k]] := by
    rw [List.take_succ_eq_append_getElem hk, List.drop_append_of_le_length (by rw [List.length_take]; have := h.le; omega)]
  refine ⟨by have := h.le; omega, ?_, ?_⟩
  · rw [h.eq, List.drop_eq_getElem_cons hk, runs_cons, hw, if_pos rfl, e]
  · intro r hr
    rw [e] at hr
    rcases List.mem_append.1 hr with hr | hr
    · exact h.all r hr
    · simp only [List.mem_singleton] at hr
      subst hr; exact hw
theorem Far.gap {l L : List Nat} {k f : Nat} {ws : List (List UInt8)} (h : Far l L k f ws) (hk : k < L.length) (hw : isWord (L[k] : Int) = false) (hf : ¬ f < k) : Far l L (k + 1) (k + 1) ws := by
  have hl := h.le
  obtain rfl : f = k := by omega
  have e : (L.take f).drop f = [] := List.drop_eq_nil_of_le (by rw [List.length_take]; omega)
  have e2 : (L.take (f + 1)).drop (f + 1) = [] := List.drop_eq_nil_of_le (by rw [List.length_take]; omega)
  refine ⟨Nat.le_refl _, ?_, by rw [e2]; intro r hr; cases hr⟩
  rw [h.eq, List.drop_eq_getElem_cons hk, runs_cons, hw, if_neg (by decide), e, e2]
  rfl
theorem Far.end_ {l L : List Nat} {k f : Nat} {ws : List (List UInt8)} (h : Far l L k f ws) (hk : k < L.length) (hw : isWord (L[k] : Int) = false) (hf : f < k) : Far l L (k + 1) (k + 1) (ws ++ [word ((L.take k).drop f)]) := by
  have e2 : (L.take (k + 1)).drop (k + 1) = [] := List.drop_eq_nil_of_le (by rw [List.length_take]; omega)
  have hn : (L.take k).drop f ≠ [] := by
    intro e
    have := congrArg List.length e
    rw [List.length_drop, List.length_take, List.length_nil] at this
    omega
  refine ⟨Nat.le_refl _, ?_, by rw [e2]; intro r hr; cases hr⟩
  rw [h.eq, List.drop_eq_getElem_cons hk, runs_cons, hw, if_neg (by decide), e2]
  simp [last, hn]
theorem Far.done {l : List Nat} {f : Nat} {ws : List (List UInt8)} (h : Far l (l ++ [32]) (l ++ [32]).length f ws) : (runs [] l).map word = ws := by
  have ha := h.all
  rw [h.eq, List.drop_length, runs_nil]
  rw [List.take_length] at ha ⊢
  have hn : (l ++ [32]).drop f = [] := by
    rcases Nat.lt_or_ge f (l ++ [32]).length with hf | hf
    · exfalso
      have h32 : (32 : Nat) ∈ (l ++ [32]).drop f := by
        rw [List.drop_append_of_le_length (by simp at hf; omega)]
        simp
      have := ha 32 h32
      revert this
      decide
    · exact List.drop_eq_nil_of_le hf
  rw [hn]
  simp [last]

theorem _root_.Go.Proofs.Ytfegkchajkpgfaa.Reads.sub {w : World} {B g o n m k : Nat} {xs : List Value} (h : Reads w B 1 (some ⟨g, o, none⟩) n xs) (hm : m ≤ k) (hk : k ≤ n) : Reads w B 1 (some ⟨g, o + m, none⟩) (k - m) ((xs.take k).drop m) := by
  have hl := h.1
  refine ⟨by rw [List.length_drop, List.length_take]; omega, fun hn => ?_⟩
  obtain ⟨b, o', e, hb, hc⟩ := h.2 (by omega)
  injection e with e
  injection e with e1 e2
  subst e1 e2
  refine ⟨g, o + m, rfl, hb, fun j u hu => ?_⟩
  rw [List.getElem?_drop, List.getElem?_take] at hu
  split at hu
  · have := hc (m + j) u hu
    rw [← Nat.add_assoc] at this
    exact this
  · cases hu

set_option maxHeartbeats 1600000 in
theorem tokens_anyB (s : ByteArray) (w : World) (hs : s.size ≤ 1048576) : Calls Try.prog 79 #[.string s] w (TokPost w (words s.data.toList)) := by
  obtain ⟨i0, hi0, hz0, hz1, hz2⟩ := info_parts tok_info
  obtain ⟨j0, hj0, hy0, hy1, hy2⟩ := info_parts int_info2
  have c0 := runes_any s w (by omega)
  have hrl := runes_len s.data.toList
  rw [bsize] at hrl
  have Fin : Hid (words s.data.toList = (runs [] (runes s.data.toList)).map word) := rfl
  generalize words s.data.toList = wds at *
  generalize runes s.data.toList = l at *
  go_enter Try.func79, Try.ntmps79
  go_wp2
  go_step3
  go_wp2_with fail
  refine c0.mono ?_
  rintro e w1 ⟨v, rfl, hown, hb1⟩
  have hsz1 := hb1.size
  go_wp2_with (at_builtin; refine wpList_append_lies _ rfl _ _ 47 rfl w.heap.size 3 j0 (.int .i64 0) 1 8 Try.underlying47 hj0 hy0 hy1 hy2 rfl (by decide) _ _ _ rfl (hown.alloc _) ⟨w1.heap.size, 0, none⟩ 1 1 [.int .i64 32] rfl rfl ?c1 ?c2 ?c0 ?c3 ?c4 ?c5 (w1.heap.size + 1) ?c6 ?_)
  case c1 => exact World.news_of_block (cs := #[.int .i64 32]) (t := 3) (fr := (0, 0)) (heap_alloc_new w1 _)
  case c2 => intro u hu; simp at hu; subst hu; rfl
  case c0 => omega
  case c3 => unfold maxLen; omega
  case c4 => omega
  case c5 => simp; omega
  case c6 => simp
  intro g cap w2 hown2 hg2 _ hlt2
  have hlcap : l.length + 1 ≤ cap := by
    rcases hown2.2 with ⟨hv, _⟩ | ⟨g', cap', cur, hv, _, _, hnc, _⟩
    · cases hv
    · injection hv with _ _ hv; omega
  have hL : rv l ++ [Value.int .i64 32] = rv (l ++ [32]) := by simp [rv]
  rw [hL] at hown2
  have hb2 : Below w.heap.size w w2 := (hb1.alloc hsz1 _).grown hg2 (by simp; omega) (fun j hj => (hown.lt _ hj).1)
  have hLl : (l ++ [32]).length = l.length + 1 := by simp
  have hR := Reads.of_own hown2
  have S0 : Toks w2 w2 (.slice none 0 0) [] := Toks.start w2 w2 (Below.refl _ _)
  have F0 := Far.start l
  have HR := Lib.hid hR
  have HS0 := Lib.hid S0
  have HF0 := Lib.hid F0
  have Hb2 := Lib.hid hb2
  have HLl := Lib.hid hLl
  have hfd := fun f ws => Far.done (l := l) (f := f) (ws := ws)
  have Hfd := Lib.hid hfd
  clear hL hown2 hown hg2 hR S0 F0 hb2 hLl hb1 c0 hfd
  generalize l ++ [32] = L at *
  go_wp2_with fail
  go_step3
  go_wp2_with fail
  go_loopw [3, 5, 14] (fun v f i wr => ∃ (k m : Nat) (ws : List (List UInt8)), k ≤ l.length + 1 ∧ i = .int .i64 k ∧ f = .int .i64 m ∧ Far l L k m ws ∧ ws.length ≤ k ∧ Toks w2 wr v ws) (fun _ _ i _ => l.length + 1 - (intOf i).toNat)
  case atStart => exact ⟨0, 0, [], Nat.zero_le _, rfl, rfl, HF0.out, by simp, HS0.out⟩
  case round =>
    obtain ⟨k, m, ws, hk, rfl, rfl, hF, hwl, hT⟩ := hrel
    by_cases hlt : k < l.length + 1
    · obtain ⟨ab, ao, hkl, e, hab, hcw⟩ := Reads.at_map (f := fun r : Nat => Value.int .i64 (r : Int)) HR.out hlt
      injection e with e
      injection e with e1 e2
      subst e1 e2
      have hcx := (hT.bel.cell (p := ⟨g, 0 + k, none⟩) hab).trans hcw
      rw [Nat.zero_add] at hcx
      have c1 := word_any (L[k] : Int) wr
      have HT := Lib.hid hT
      have HF := Lib.hid hF
      have hml := hF.le
      clear hcw hT hF
      by_cases hw : isWord (L[k] : Int) = true
      · have HF2 := Lib.hid (HF.out.word_ hkl hw)
        rw [hw] at c1
        clear hw
        generalize (L[k] : Int) = r at *
        go_wp2_with fail
        refine c1.mono ?_
        rintro e w3 ⟨rfl, hb3⟩
        have HT3 := Lib.hid (HT.out.below hb3)
        clear c1 hb3
        go_wp2
        go_roundw
        case rel => exact ⟨k + 1, m, ws, by omega, by go_num, rfl, HF2.out, by omega, HT3.out⟩
        case measure => simp [intOf]; omega
      · have hw' : isWord (L[k] : Int) = false := by simpa using hw
        rw [hw'] at c1
        clear hw
        by_cases hf : m < k
        · have HF2 := Lib.hid (HF.out.end_ hkl hw' hf)
          clear hw'
          generalize (L[k] : Int) = r at *
          go_wp2_with fail
          refine c1.mono ?_
          rintro e w3 ⟨rfl, hb3⟩
          have HT3 := Lib.hid (HT.out.below hb3)
          clear c1 hb3
          have hRs := (HR.out.below HT3.out.bel).sub (m := m) (k := k) (by omega) (by omega)
          have hmp : ((rv L).take k).drop m = rv ((L.take k).drop m) := by unfold rv; rw [← List.map_take, ← List.map_drop]
          rw [hmp, Nat.zero_add] at hRs
          have c2 := wordp_any (some ⟨g, m, none⟩) (k - m) (cap - m) _ w3 (hRs.more HT3.out.bel.size) (by omega)
          obtain ⟨A3, d3, rfl, _⟩ := own_shape HT3.out.own
          clear hRs hmp
          generalize word ((L.take k).drop m) = wd at *
          go_wp2_with fail
          refine c2.mono ?_
          rintro e w4 ⟨rfl, hb4⟩
          have hT4 := HT3.out.below hb4
          have hown4 := hT4.own
          have hbs4 := hT4.bel.size
          have HT4 := Lib.hid hT4
          clear c2 hb4 hT4
          go_wp2_with (at_builtin; refine wpList_append_own _ rfl _ _ 147 rfl w2.heap.size 150 i0 _ 2 24 Try.underlying147 hi0 hz0 hz1 hz2 rfl (by decide) _ _ _ rfl (hown4.alloc _) ⟨w4.heap.size, 0, none⟩ 1 1 [.string (str wd), .int .i64 (ws.length : Int)] rfl rfl ?d1 ?d2 ?d3 ?d4 ?d5 ?_)
          case d1 => exact World.news_of_block (cs := #[.string (str wd), .int .i64 (ws.length : Int)]) (t := 150) (fr := (0, 0)) (heap_alloc_new w4 _)
          case d2 => intro u hu; simp at hu; rcases hu with rfl | rfl <;> rfl
          case d3 => unfold maxLen; omega
          case d4 => omega
          case d5 => simp; omega
          intro v' w5 hown5 hg5 _
          have HT5 := Lib.hid ((HT4.out.below ((Below.refl _ _).alloc (Nat.le_refl _) _)).put hown5 hg5)
          clear hown5 hg5 hown4
          go_wp2
          go_roundw
          case rel => exact ⟨k + 1, k + 1, _, by omega, by go_num, by go_num, HF2.out, by rw [List.length_append]; simp; omega, HT5.out⟩
          case measure => simp [intOf]; omega
        · have HF2 := Lib.hid (HF.out.gap hkl hw' hf)
          clear hw'
          generalize (L[k] : Int) = r at *
          go_wp2_with fail
          refine c1.mono ?_
          rintro e w3 ⟨rfl, hb3⟩
          have HT3 := Lib.hid (HT.out.below hb3)
          clear c1 hb3
          go_wp2
          go_roundw
          case rel => exact ⟨k + 1, k + 1, ws, by omega, by go_num, by go_num, HF2.out, by omega, HT3.out⟩
          case measure => simp [intOf]; omega
    · obtain rfl : k = l.length + 1 := by omega
      rw [← HLl.out] at hF
      have Fin2 := Lib.hid (Hfd.out _ _ hF)
      have HT := Lib.hid hT
      clear hF hT
      go_wp2
      rw [Exit.noGoto_ret]
      go_ret
      have e : wds = ws := by rw [Fin.out, Fin2.out]
      have hz := Hb2.out.size
      exact ⟨_, rfl, by rw [e]; exact HT.out.own.mono hz, Hb2.out.trans (HT.out.bel.mono hz)⟩
theorem tokens_any (s : ByteArray) (w : World) (hs : s.size ≤ 1048576) : Calls Try.prog 79 #[.string s] w (TokPost w (words s.data.toList)) :=
  tokens_anyB s w (by omega)
end Go.Proofs.Ytfegkchajkpgfaa.Tk
