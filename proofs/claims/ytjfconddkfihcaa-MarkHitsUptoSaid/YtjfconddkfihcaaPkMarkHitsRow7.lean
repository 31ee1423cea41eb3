/- token.Tokens: the walk. -/
import Derived.Deep.AppendLies
import Derived.Deep.Onto
import Derived.Deep.DeepCutAuto
import Derived.Lib.IndexLaws
import Derived.Laws.BitsAllLaws
import Derived.Outline
import Derived.Test.YtjfconddkfihcaaPkMarkHitsRow6
import Derived.Test.YtjfconddkfihcaaPkMarkHitsRow1
section
namespace Go.Proofs.Ytjfconddkfihcaa.Tk
open Go.RowKit Go.Proofs.Ytjfconddkfihcaa.Ut
set_option maxRecDepth 20000

/-- How far the words have been told: the runs that are done, the run that is open. -/
structure Far (l L : List Nat) (k f : Nat) (ws : List (List UInt8)) : Prop where
  le : f ≤ k
  eq : (runs [] l).map word = ws ++ (runs ((L.take k).drop f) (L.drop k)).map word
  all : ∀ r ∈ (L.take k).drop f, isWord (r : Int) = true
theorem Far.start (l : List Nat) : Far l (l ++ [32]) 0 0 [] := ⟨Nat.le_refl _, by
  rw [List.drop_zero, List.nil_append, List.drop_zero, List.take_zero, runs_end l [] 32 blank_no], by simp⟩
theorem Far.word_ {l L : List Nat} {k f : Nat} {ws : List (List UInt8)} (h : Far l L k f ws) (hk : k < L.length) (hw : isWord (L[k] : Int) = true) : Far l L (k + 1) f ws := by
  have e : (L.take (k + 1)).drop f = (L.take k).drop f ++ [L[k]] := by
    rw [List.take_succ_eq_append_getElem hk, List.drop_append_of_le_length (by rw [List.length_take]; have := h.le; omega)]
  refine ⟨by have := h.le; omega, ?_, ?_⟩
  · rw [h.eq, List.drop_eq_getElem_cons hk, runs_cons, hw, if_pos rfl, e]
  · intro r hr
    rw [e] at hr
    rcases List.mem_append.1 hr with hr | hr
    · exact h.all r hr
    · simp only [List.mem_singleton] at hr
      subst hr; exact hw
theorem Far.gap {l L : List Nat} {k f : Nat} {ws : List (List UInt8)} (h : Far l L k f ws) (hk : k < L.length) (hw : isWord (L[k] : Int) = false) (hf : ¬ f < k) : Far l L (k + 1) (k + 1) ws := by
  have hl := h.le
  obtain rfl : f = k := by omega
  have e : (L.take f).drop f = [] := List.drop_eq_nil_of_le (by rw [List.length_take]; omega)
  have e2 : (L.take (f + 1)).drop (f + 1) = [] := List.drop_eq_nil_of_le (by rw [List.length_take]; omega)
  refine ⟨Nat.le_refl _, ?_, by rw [e2]; intro r hr; cases hr⟩
  rw [h.eq, List.drop_eq_getElem_cons hk, runs_cons, hw, if_neg (by decide), e, e2]
  rfl
theorem Far.end_ {l L : List Nat} {k f : Nat} {ws : List (List UInt8)} (h : Far l L k f ws) (hk : k < L.length) (hw : isWord (L[k] : Int) = false) (hf : f < k) : Far l L (k + 1) (k + 1) (ws ++ [word ((L.take k).drop f)]) := by
  have e2 : (L.take (k + 1)).drop (k + 1) = [] := List.drop_eq_nil_of_le (by rw [List.length_take]; omega)
  have hn : (L.take k).drop f ≠ [] := by
    intro e
    have := congrArg List.length e
    rw [List.length_drop, List.length_take, List.length_nil] at this
    omega
  refine ⟨Nat.le_refl _, ?_, by rw [e2]; intro r hr; cases hr⟩
  rw [h.eq, List.drop_eq_getElem_cons hk, runs_cons, hw, if_neg (by decide), e2]
  simp [last, hn]
theorem Far.done {l : List Nat} {f : Nat} {ws : List (List UInt8)} (h : Far l (l ++ [32]) (l ++ [32]).length f ws) : (runs [] l).map word = ws := by
  have ha := h.all
  rw [h.eq, List.drop_length, runs_nil]
  rw [List.take_length] at ha ⊢
  have hn : (l ++ [32]).drop f = [] := by
    rcases Nat.lt_or_ge f (l ++ [32]).length with hf | hf
    · exfalso
      have h32 : (32 : Nat) ∈ (l ++ [32]).drop f := by
        rw [List.drop_append_of_le_length (by simp at hf; omega)]
        simp
      have := ha 32 h32
      revert this
      decide
    · exact List.drop_eq_nil_of_le hf
  rw [hn]
  simp [last]

theorem _root_.Go.Proofs.Ytjfconddkfihcaa.Reads.sub {w : World} {B g o n m k : Nat} {xs : List Value} (h : Reads w B 1 (some ⟨g, o, none⟩) n xs) (hm : m ≤ k) (hk : k ≤ n) : Reads w B 1 (some ⟨g, o + m, none⟩) (k - m) ((xs.take k).drop m) := by
  have hl := h.1
  refine ⟨by rw [List.length_drop, List.length_take]; omega, fun hn => ?_⟩
  obtain ⟨b, o', e, hb, hc⟩ := h.2 (by omega)
  injection e with e
  injection e with e1 e2
  subst e1 e2
  refine ⟨g, o + m, rfl, hb, fun j u hu => ?_⟩
  rw [List.getElem?_drop, List.getElem?_take] at hu
  split at hu
  · have := hc (m + j) u hu
    rw [← Nat.add_assoc] at this
    exact this
  · cases hu

set_option maxHeartbeats 1600000 in
theorem tokens_anyB (s : ByteArray) (w : World) (hs : s.size ≤ 1048576) : Calls Try.prog 38 #[.string s] w (TokPost w (words s.data.toList)) := by
  obtain ⟨i0, hi0, hz0, hz1, hz2⟩ := info_parts tok_info
  obtain ⟨j0, hj0, hy0, hy1, hy2⟩ := info_parts int_info2
  have c0 := runes_any s w (by omega)
  have hrl := runes_len s.data.toList
  rw [bsize] at hrl
  have Fin : Hid (words s.data.toList = (runs [] (runes s.data.toList)).map word) := rfl
  generalize words s.data.toList = wds at *
  generalize runes s.data.toList = l at *
  go_enter Try.func38, Try.ntmps38
  go_wp2
  go_step3
  go_wp2_with fail
  refine c0.mono ?_
  rintro e w1 ⟨v, rfl, hown, hb1⟩
  have hsz1 := hb1.size
  go_wp2_with (at_builtin; refine wpList_append_lies _ rfl _ _ 111 rfl w.heap.size 3 j0 (.int .i64 0) 1 8 Try.underlying111 hj0 hy0 hy1 hy2 rfl (by decide) _ _ _ rfl (hown.alloc _) ⟨w1.heap.size, 0, none⟩ 1 1 [.int .i64 32] rfl rfl ?c1 ?c2 ?c0 ?c3 ?c4 ?c5 (w1.heap.size + 1) ?c6 ?_)
  case c1 => exact World.news_of_block (cs := #[.int .i64 32]) (t := 3) (fr := (0, 0)) (heap_alloc_new w1 _)
  case c2 => intro u hu; simp at hu; subst hu; rfl
  case c0 => omega
  case c3 => unfold maxLen; omega
  case c4 => omega
  case c5 => simp; omega
  case c6 => simp
  intro g cap w2 hown2 hg2 _ hlt2
  have hlcap : l.length + 1 ≤ cap := by
    rcases hown2.2 with ⟨hv, _⟩ | ⟨g', cap', cur, hv, _, _, hnc, _⟩
    · cases hv
    · injection hv with _ _ hv; omega
  have hL : rv l ++ [Value.int .i64 32] = rv (l ++ [32]) := by simp [rv]
  rw [hL] at hown2
  have hb2 : Below w.heap.size w w2 := (hb1.alloc hsz1 _).grown hg2 (by simp; omega) (fun j hj => (hown.lt _ hj).1)
  have hLl : (l ++ [32]).length = l.length + 1 := by simp
  have hR := Reads.of_own hown2
  have S0 : Toks w2 w2 (.slice none 0 0) [] := Toks.start w2 w2 (Below.refl _ _)
  have F0 := Far.start l
  have HR := Lib.hid hR
  have HS0 := Lib.hid S0
  have HF0 := Lib.hid F0
  have Hb2 := Lib.hid hb2
  have HLl := Lib.hid hLl
  have hfd := fun f ws => Far.done (l := l) (f := f) (ws := ws)
  have Hfd := Lib.hid hfd
  clear hL hown2 hown hg2 hR S0 F0 hb2 hLl hb1 c0 hfd
  generalize l ++ [32] = L at *
  go_wp2_with fail
  go_step3
  go_wp2_with fail
  go_loopw [3, 5, 14] (fun v f i wr => ∃ (k m : Nat) (ws : List (List UInt8)), k ≤ l.length + 1 ∧ i = .int .i64 k ∧ f = .int .i64 m ∧ Far l L k m ws ∧ ws.length ≤ k ∧ Toks w2 wr v ws) (fun _ _ i _ => l.length + 1 - (intOf i).toNat)
  case atStart => exact ⟨0, 0, [], Nat.zero_le _, rfl, rfl, HF0.out, by simp, HS0.out⟩
  case round =>
    obtain ⟨k, m, ws, hk, rfl, rfl, hF, hwl, hT⟩ := hrel
    by_cases hlt : k < l.length + 1
    · obtain ⟨ab, ao, hkl, e, hab, hcw⟩ := Reads.at_map (f := fun r : Nat => Value.int .i64 (r : Int)) HR.out hlt
      injection e with e
      injection e with e1 e2
      subst e1 e2
      have hcx := (hT.bel.cell (p := ⟨g, 0 + k, none⟩) hab).trans hcw
      rw [Nat.zero_add] at hcx
      have c1 := word_any (L[k] : Int) wr
      have HT := Lib.hid hT
      have HF := Lib.hid hF
      have hml := hF.le
      clear hcw hT hF
      by_cases hw : isWord (L[k] : Int) = true
      · have HF2 := Lib.hid (HF.out.word_ hkl hw)
        rw [hw] at c1
        clear hw
        generalize (L[k] : Int) = r at *
        go_wp2_with fail
        refine c1.mono ?_
        rintro e w3 ⟨rfl, hb3⟩
        have HT3 := Lib.hid (HT.out.below hb3)
        clear c1 hb3
        go_wp2
        go_roundw
        case rel => exact ⟨k + 1, m, ws, by omega, by go_num, rfl, HF2.out, by omega, HT3.out⟩
        case measure => simp [intOf]; omega
      · have hw' : isWord (L[k] : Int) = false := by simpa using hw
        rw [hw'] at c1
        clear hw
        by_cases hf : m < k
        · have HF2 := Lib.hid (HF.out.end_ hkl hw' hf)
          clear hw'
          generalize (L[k] : Int) = r at *
          go_wp2_with fail
          refine c1.mono ?_
          rintro e w3 ⟨rfl, hb3⟩
          have HT3 := Lib.hid (HT.out.below hb3)
          clear c1 hb3
          have hRs := (HR.out.below HT3.out.bel).sub (m := m) (k := k) (by omega) (by omega)
          have hmp : ((rv L).take k).drop m = rv ((L.take k).drop m) := by unfold rv; rw [← List.map_take, ← List.map_drop]
          rw [hmp, Nat.zero_add] at hRs
          have c2 := wordp_any (some ⟨g, m, none⟩) (k - m) (cap - m) _ w3 (hRs.more HT3.out.bel.size) (by omega)
          obtain ⟨A3, d3, rfl, _⟩ := own_shape HT3.out.own
          clear hRs hmp
          generalize word ((L.take k).drop m) = wd at *
          go_wp2_with fail
          refine c2.mono ?_
          rintro e w4 ⟨rfl, hb4⟩
          have hT4 := HT3.out.below hb4
          have hown4 := hT4.own
          have hbs4 := hT4.bel.size
          have HT4 := Lib.hid hT4
          clear c2 hb4 hT4
          go_wp2_with (at_builtin; refine wpList_append_own _ rfl _ _ 65 rfl w2.heap.size 74 i0 _ 2 24 Try.underlying65 hi0 hz0 hz1 hz2 rfl (by decide) _ _ _ rfl (hown4.alloc _) ⟨w4.heap.size, 0, none⟩ 1 1 [.string (str wd), .int .i64 (ws.length : Int)] rfl rfl ?d1 ?d2 ?d3 ?d4 ?d5 ?_)
          case d1 => exact World.news_of_block (cs := #[.string (str wd), .int .i64 (ws.length : Int)]) (t := 74) (fr := (0, 0)) (heap_alloc_new w4 _)
          case d2 => intro u hu; simp at hu; rcases hu with rfl | rfl <;> rfl
          case d3 => unfold maxLen; omega
          case d4 => omega
          case d5 => simp; omega
          intro v' w5 hown5 hg5 _
          have HT5 := Lib.hid ((HT4.out.below ((Below.refl _ _).alloc (Nat.le_refl _) _)).put hown5 hg5)
          clear hown5 hg5 hown4
          go_wp2
          go_roundw
          case rel => exact ⟨k + 1, k + 1, _, by omega, by go_num, by go_num, HF2.out, by rw [List.length_append]; simp; omega, HT5.out⟩
          case measure => simp [intOf]; omega
        · have HF2 := Lib.hid (HF.out.gap hkl hw' hf)
          clear hw'
          generalize (L[k] : Int) = r at *
          go_wp2_with fail
          refine c1.mono ?_
          rintro e w3 ⟨rfl, hb3⟩
          have HT3 := Lib.hid (HT.out.below hb3)
          clear c1 hb3
          go_wp2
          go_roundw
          case rel => exact ⟨k + 1, k + 1, ws, by omega, by go_num, by go_num, HF2.out, by omega, HT3.out⟩
          case measure => simp [intOf]; omega
    · obtain rfl : k = l.length + 1 := by omega
      rw [← HLl.out] at hF
      have Fin2 := Lib.hid (Hfd.out _ _ hF)
      have HT := Lib.hid hT
      clear hF hT
      go_wp2
      rw [Exit.noGoto_ret]
      go_ret
      have e : wds = ws := by rw [Fin.out, Fin2.out]
      have hz := Hb2.out.size
      exact ⟨_, rfl, by rw [e]; exact HT.out.own.mono hz, Hb2.out.trans (HT.out.bel.mono hz)⟩
theorem tokens_any (s : ByteArray) (w : World) (hs : s.size ≤ 1048576) : Calls Try.prog 38 #[.string s] w (TokPost w (words s.data.toList)) :=
  tokens_anyB s w (by omega)
end Go.Proofs.Ytjfconddkfihcaa.Tk
end

section
/- token.Words, IsWord, IsName, Term, Split; strings.Cut at a colon: the walks. -/
namespace Go.Proofs.Ytjfconddkfihcaa.Tk
open Go.RowKit Go.Proofs.Ytjfconddkfihcaa.Ut
set_option maxRecDepth 20000

theorem tl (s : ByteArray) : s.toList = s.data.toList := ByteArray.toList_eq s
theorem tokC_get : ∀ (l : List (List UInt8 × Int)) (k : Nat) (h : k < l.length), (tokC l)[k * 2]? = some (.string (str l[k].1)) ∧ (tokC l)[k * 2 + 1]? = some (.int .i64 l[k].2)
  | x :: l, 0, _ => ⟨rfl, rfl⟩
  | x :: l, k + 1, h => by
    have ih := tokC_get l k (by simpa using h)
    have e1 : (k + 1) * 2 = k * 2 + 2 := by omega
    have e2 : (k + 1) * 2 + 1 = (k * 2 + 1) + 2 := by omega
    rw [e2, e1]
    exact ih
theorem placed_get (ws : List (List UInt8)) (k : Nat) (h : k < ws.length) : (placed ws)[k]'(by rw [placed_len]; exact h) = (ws[k], (k : Int)) := by
  simp [placed]
/-- The k-th token of a row that reads so. -/
theorem toks_at {w : World} {B n : Nat} {A : Option Addr} {ws : List (List UInt8)} (h : Reads w B 2 A n (tokC (placed ws))) (hn : ws.length = n) {k : Nat} (hk : k < ws.length) :
    ∃ b o, A = some ⟨b, o, none⟩ ∧ b < B ∧ w.cell? ⟨b, o + k * 2, none⟩ = some (.string (str ws[k])) ∧ w.cell? ⟨b, o + k * 2 + 1, none⟩ = some (.int .i64 (k : Int)) := by
  obtain ⟨b, o, e, hb, hc⟩ := h.2 (by omega)
  have g := tokC_get (placed ws) k (by rw [placed_len]; exact hk)
  rw [placed_get ws k hk] at g
  refine ⟨b, o, e, hb, hc _ _ g.1, ?_⟩
  have := hc _ _ g.2
  rw [← Nat.add_assoc] at this
  exact this

/-- Texts, as cells. -/
def sv (ws : List (List UInt8)) : List Value := (ws.map str).map Value.string
theorem sv_snoc (ws : List (List UInt8)) (x : List UInt8) : sv (ws ++ [x]) = sv ws ++ [.string (str x)] := by simp [sv]
theorem sv_len (ws : List (List UInt8)) : (sv ws).length = ws.length := by simp [sv]
/-- Texts of the call's own. -/
def StrPost (w : World) (ws : List (List UInt8)) (e : Ending) (w' : World) : Prop :=
  ∃ v, e = .returned v ∧ w'.ownsRow w.heap.size 9 1 v ws.length (sv ws) ∧ Below w.heap.size w w'
structure Strs (w wr : World) (v : Value) (ws : List (List UInt8)) : Prop where
  own : wr.ownsRow w.heap.size 9 1 v ws.length (sv ws)
  bel : Below w.heap.size w wr
theorem Strs.below {w wr w2 : World} {v : Value} {ws : List (List UInt8)} (h : Strs w wr v ws) (hb : Below wr.heap.size wr w2) : Strs w w2 v ws :=
  ⟨h.own.kept (grow_of_below hb none) (by cases hv : v.ownBlock <;> simp), h.bel.trans (hb.mono h.bel.size)⟩
theorem Strs.put {w wr w2 : World} {v v' : Value} {ws : List (List UInt8)} {x : List UInt8} (h : Strs w wr v ws)
    (hp : w2.ownsRow w.heap.size 9 1 v' (ws.length + 1) (sv ws ++ [.string (str x)])) (hg : wr.grownBy w2 v.ownBlock) : Strs w w2 v' (ws ++ [x]) := by
  refine ⟨?_, h.bel.grown hg h.bel.size (fun k hk => (h.own.lt k hk).1)⟩
  rw [sv_snoc, List.length_append]
  exact hp
theorem str_info : (Try.prog.info? 9).map (fun i => (i.zero, i.size, i.bytes)) = some (some (.string ByteArray.empty), 1, 16) := by kernel_rfl

theorem words_len (s : ByteArray) : (words s.data.toList).length ≤ s.size := by
  have h1 : ∀ (l c : List Nat), (runs c l).length ≤ l.length + 1 ∧ (c = [] → (runs c l).length ≤ l.length) := by
    intro l
    induction l with
    | nil =>
      intro c
      rw [runs_nil]
      unfold last
      split <;> simp_all
    | cons r t ih =>
      intro c
      rw [runs_cons]
      have h1 := ih (c ++ [r])
      have h2 := (ih []).2 rfl
      split
      · refine ⟨by simp; omega, fun _ => by simp; omega⟩
      · have h3 : (last c).length ≤ 1 := by unfold last; split <;> simp
        have h4 : c = [] → (last c).length = 0 := by rintro rfl; rfl
        rw [List.length_append, List.length_cons]
        exact ⟨by omega, fun e => by have := h4 e; omega⟩
  unfold words
  rw [List.length_map]
  have := (h1 (runes s.data.toList) []).2 rfl
  have h2 := runes_len s.data.toList
  rw [bsize] at h2
  omega

theorem new2 (w : World) (o o' : Obj) : ((w.alloc o).alloc o').heap[w.heap.size + 1]? = some o' := by
  have := heap_alloc_new (w.alloc o) o'
  simpa using this

set_option maxHeartbeats 800000 in
theorem words_any (s : ByteArray) (w : World) (hs : s.size ≤ 1048576) : Calls Try.prog 40 #[.string s] w (StrPost w (words s.data.toList)) := by
  obtain ⟨i0, hi0, hz0, hz1, hz2⟩ := info_parts str_info
  have c0 := tokens_anyB s w (by omega)
  have hwl := words_len s
  generalize words s.data.toList = ws at *
  go_enter Try.func40, Try.ntmps40
  go_wp2_with fail
  refine c0.mono ?_
  rintro e w1 ⟨v, rfl, hown, hb1⟩
  obtain ⟨A, c, rfl, hR⟩ := own_shape hown
  have S0 : Strs w1 w1 (.slice none 0 0) [] := ⟨World.ownsRow_nil _ _ _ _, Below.refl _ _⟩
  have HR := Lib.hid hR
  have HS0 := Lib.hid S0
  have Hb1 := Lib.hid hb1
  clear hown hR S0 c0 hb1
  go_wp2_with fail
  go_loopw [3, 9] (fun v i wr => ∃ k : Nat, k ≤ ws.length ∧ i = .int .i64 k ∧ Strs w1 wr v (ws.take k)) (fun _ i _ => ws.length - (intOf i).toNat)
  case atStart => exact ⟨0, Nat.zero_le _, rfl, HS0.out⟩
  case round =>
    obtain ⟨k, hk, rfl, hT⟩ := hrel
    by_cases hlt : k < ws.length
    · obtain ⟨b, o, rfl, hb, hc1, hc2⟩ := toks_at HR.out rfl hlt
      have hd1 := (hT.bel.cell (p := ⟨b, o + k * 2, none⟩) hb).trans hc1
      have hd2 := (hT.bel.cell (p := ⟨b, o + k * 2 + 1, none⟩) hb).trans hc2
      have hts : ws.take (k + 1) = ws.take k ++ [ws[k]] := by rw [List.take_succ_eq_append_getElem hlt]
      have Hts := Lib.hid hts
      have htl : (ws.take k).length ≤ ws.length := by rw [List.length_take]; omega
      have hown := hT.own
      have hbs := hT.bel.size
      have HT := Lib.hid hT
      clear hts hc1 hc2 hT
      generalize ws[k] = x at *
      generalize ws.take k = y at *
      go_wp2_with (at_builtin; refine wpList_append_own _ rfl _ _ 28 rfl w1.heap.size 9 i0 _ 1 16 Try.underlying28 hi0 hz0 hz1 hz2 rfl (by decide) _ _ _ rfl ((hown.alloc _).alloc _) ⟨wr.heap.size + 1, 0, none⟩ 1 1 [.string (str x)] rfl rfl ?d1 ?d2 ?d3 ?d4 ?d5 ?_)
      case d1 => exact World.news_of_block (cs := #[.string (str x)]) (t := 9) (fr := (0, 0)) (new2 wr _ _)
      case d2 => intro u hu; simp at hu; subst hu; rfl
      case d3 => unfold maxLen; omega
      case d4 => omega
      case d5 => simp; omega
      intro v' w5 hown5 hg5 _
      have HT5 := Lib.hid (((HT.out.below ((Below.refl _ _).alloc (Nat.le_refl _) _)).below ((Below.refl _ _).alloc (Nat.le_refl _) _)).put hown5 hg5)
      clear hown5 hg5 hown
      go_wp2
      go_roundw
      case rel => exact ⟨k + 1, by omega, by go_num, by rw [Hts.out]; exact HT5.out⟩
      case measure => simp [intOf]; omega
    · have hall : ws.take k = ws := List.take_of_length_le (by omega)
      rw [hall] at hT
      have HT := Lib.hid hT
      clear hT hall
      go_wp2
      go_ret
      exact ⟨_, rfl, HT.out.own.mono Hb1.out.size, Hb1.out.trans (HT.out.bel.mono Hb1.out.size)⟩

theorem str_beq (x : List UInt8) (s : ByteArray) : ((str x).toList == s.toList) = (x == s.data.toList) := by rw [tl, tl, str_data]
set_option maxHeartbeats 800000 in
theorem isWord_anyB (s : ByteArray) (w : World) (hs : s.size ≤ 140737488351232) : Calls Try.prog 46 #[.string s] w fun e w' => e = .returned (.bool (isW s.data.toList)) ∧ Below w.heap.size w w' := by
  by_cases hl : 32 < s.size
  · have e := isW_len s.data.toList (by rw [bsize]; exact hl)
    rw [e]
    have hl' : (32 : Int) < (s.size : Int) := by omega
    clear e
    go_enter Try.func46, Try.ntmps46
    go_wp2
    go_ret
    exact ⟨rfl, Below.refl _ _⟩
  · have hl' : (s.size : Int) ≤ 32 := by omega
    have c0 := tokens_anyB s w (by omega)
    have Fin : Hid (isW s.data.toList = (words s.data.toList == [s.data.toList])) := rfl
    clear hl
    generalize words s.data.toList = ws at *
    go_enter Try.func46, Try.ntmps46
    go_wp2_with fail
    refine c0.mono ?_
    rintro e w1 ⟨v, rfl, hown, hb1⟩
    obtain ⟨A, c, rfl, hR⟩ := own_shape hown
    have HR := Lib.hid hR
    have Hb1 := Lib.hid hb1
    clear hown hR c0 hb1
    by_cases h1 : ws.length = 1
    · obtain ⟨x, rfl⟩ : ∃ x, ws = [x] := by
        match ws, h1 with
        | [x], _ => exact ⟨x, rfl⟩
      obtain ⟨b, o, rfl, hb, hc1, hc2⟩ := toks_at HR.out rfl (k := 0) (by simp)
      simp at hc1
      clear hc2 h1
      go_wp2
      go_ret
      refine ⟨?_, Hb1.out⟩
      rw [Fin.out]
      simp [tl, str_data]
    · have h1' : ((ws.length : Int) == 1) = false := beq_eq_false_iff_ne.2 (by omega)
      have Fin2 : Hid ((ws == [s.data.toList]) = false) := Lib.hid (beq_eq_false_iff_ne.2 (fun e => h1 (by rw [e]; rfl)))
      clear h1
      go_wp2
      go_ret
      exact ⟨by rw [Fin.out, Fin2.out]; rfl, Hb1.out⟩

theorem isWord_any (s : ByteArray) (w : World) (hs : s.size ≤ 1048576) : Calls Try.prog 46 #[.string s] w fun e w' => e = .returned (.bool (isW s.data.toList)) ∧ Below w.heap.size w w' :=
  isWord_anyB s w (by omega)
/-- Where a byte of a name stands. -/
theorem nameB_cases (c : UInt8) : (nameB c = true ∧ ((c.toNat = 95) ∨ (48 ≤ c.toNat ∧ c.toNat ≤ 57) ∨ (97 ≤ c.toNat ∧ c.toNat ≤ 122))) ∨
    (nameB c = false ∧ c.toNat ≠ 95 ∧ (c.toNat < 48 ∨ (57 < c.toNat ∧ c.toNat < 97) ∨ 122 < c.toNat)) := by
  by_cases h : nameB c = true
  · refine .inl ⟨h, ?_⟩
    unfold nameB at h
    simp at h
    omega
  · refine .inr ⟨by simpa using h, ?_⟩
    unfold nameB at h
    simp at h
    omega
set_option maxHeartbeats 800000 in
theorem isName_anyB (s : ByteArray) (w : World) (hs : s.size ≤ 140737488351232) : Calls Try.prog 48 #[.string s] w fun e w' => e = .returned (.bool (isN s.data.toList)) ∧ Below w.heap.size w w' := by
  obtain ⟨cap, C, fr, hconv, hC⟩ := bytes_conv (P := Try.prog) 9 102 5 s Try.underlying9 Try.underlying102 Try.underlying5
  have Fin : Hid (isN s.data.toList = (decide (1 ≤ s.data.toList.length) && decide (s.data.toList.length ≤ 32) && s.data.toList.all nameB)) := rfl
  rw [bsize] at Fin
  go_enter Try.func48, Try.ntmps48
  go_wp2
  go_loopw [8] (fun i wr => ∃ k : Nat, k ≤ s.size ∧ i = .int .i64 k ∧ (s.data.toList.take k).all nameB = true ∧ Below w.heap.size w wr ∧ (∀ j (h : j < s.size), wr.cell? ⟨w.heap.size, j, none⟩ = some (.int .u8 ((s[j]).toNat : Int)))) (fun i _ => s.size - (intOf i).toNat)
  case atStart => 
    refine ⟨0, Nat.zero_le _, rfl, rfl, ((Below.refl _ _).alloc (Nat.le_refl _) _).drew, fun j hj => ?_⟩
    exact (World.cell?_alloc_mark w _ _ _ j).trans (hC w j hj)
  case round =>
    obtain ⟨k, hk, rfl, hal, hb, hcl⟩ := hrel
    by_cases hlt : k < s.size
    · have hcx := hcl k hlt
      have hu := (s[k]).toNat_lt
      have hts := take_snoc s k hlt
      have hmem : s[k] ∈ s.data.toList := by
        have : s.data.toList[k]'(by rw [bsize]; exact hlt) = s[k] := rfl
        rw [← this]; exact List.getElem_mem _
      have Hcl := Lib.hid hcl
      have Hb := Lib.hid hb
      have Hal := Lib.hid hal
      rcases nameB_cases s[k] with ⟨hn, h⟩ | ⟨hn, h9, h⟩
      · have Hnx : Hid ((s.data.toList.take (k + 1)).all nameB = true) := Lib.hid (by rw [hts, List.all_append, Hal.out]; simp [hn])
        clear hcl hC hb hal hts hmem hn
        generalize (s[k]).toNat = z at *
        rcases h with rfl | h | h
        all_goals
          have h9 : True ∨ True := .inl trivial
          go_wp2
          all_goals first
            | (go_roundw
               case rel => exact ⟨k + 1, by omega, by go_num, Hnx.out, Hb.out, Hcl.out⟩
               case measure => simp [intOf]; omega)
            | (exfalso; simp only [bne_iff_ne, ne_eq, bne_eq_false_iff_eq, decide_eq_true_eq] at *; omega)
      · have Fin2 : Hid (isN s.data.toList = false) := Lib.hid (by
          rw [Fin.out]
          have : s.data.toList.all nameB = false := List.all_eq_false.2 ⟨_, hmem, by rw [hn]; decide⟩
          rw [this, Bool.and_false])
        clear hcl hC hb hal hts hmem hn
        generalize (s[k]).toNat = z at *
        have h9' : ((z : Int) != 95) = true := by rw [bne_iff_ne]; omega
        rcases h with h | h | h
        all_goals
          go_wp2
          go_ret
          exact ⟨by rw [Fin2.out]; rfl, Hb.out⟩
    · obtain rfl : k = s.size := by omega
      have htk : s.data.toList.take s.size = s.data.toList := List.take_of_length_le (Nat.le_of_eq (bsize s))
      rw [htk] at hal
      have Fin2 : Hid (isN s.data.toList = (decide (1 ≤ s.size) && decide (s.size ≤ 32))) := Lib.hid (by rw [Fin.out, hal, Bool.and_true])
      have Hb := Lib.hid hb
      clear hcl hC hb hal htk
      by_cases h1 : 1 ≤ s.size
      · have h1' : (1 : Int) ≤ (s.size : Int) := by omega
        rw [decide_eq_true h1, Bool.true_and] at Fin2
        go_wp2
        go_ret
        exact ⟨by rw [Fin2.out]; simp; omega, Hb.out⟩
      · have h1' : (s.size : Int) < 1 := by omega
        rw [decide_eq_false h1, Bool.false_and] at Fin2
        go_wp2
        go_ret
        exact ⟨by rw [Fin2.out]; rfl, Hb.out⟩
theorem isName_any (s : ByteArray) (w : World) (hs : s.size ≤ 1048576) : Calls Try.prog 48 #[.string s] w fun e w' => e = .returned (.bool (isN s.data.toList)) ∧ Below w.heap.size w w' :=
  isName_anyB s w (by omega)
end Go.Proofs.Ytjfconddkfihcaa.Tk
end

section
/- token.Phrase: the walk. -/
namespace Go.Proofs.Ytjfconddkfihcaa.Qy
open Go.RowKit Go.Proofs.Ytjfconddkfihcaa Go.Proofs.Ytjfconddkfihcaa.Ut Go.Proofs.Ytjfconddkfihcaa.Tk
set_option maxRecDepth 20000

/-- Integers of the call's own. -/
def nv (l : List Nat) : List Value := l.map fun n : Nat => Value.int .i64 (n : Int)
theorem nv_snoc (l : List Nat) (n : Nat) : nv (l ++ [n]) = nv l ++ [.int .i64 (n : Int)] := by simp [nv]
structure Ints (w wr : World) (v : Value) (l : List Nat) : Prop where
  own : wr.ownsRow w.heap.size 3 1 v l.length (nv l)
  bel : Below w.heap.size w wr
theorem Ints.below {w wr w2 : World} {v : Value} {l : List Nat} (h : Ints w wr v l) (hb : Below wr.heap.size wr w2) : Ints w w2 v l :=
  ⟨h.own.kept (grow_of_below hb none) (by cases hv : v.ownBlock <;> simp), h.bel.trans (hb.mono h.bel.size)⟩
theorem Ints.put {w wr w2 : World} {v v' : Value} {l : List Nat} {n : Nat} (h : Ints w wr v l) (hp : w2.ownsRow w.heap.size 3 1 v' (l.length + 1) (nv l ++ [.int .i64 (n : Int)])) (hg : wr.grownBy w2 v.ownBlock) : Ints w w2 v' (l ++ [n]) := by
  refine ⟨?_, h.bel.grown hg h.bel.size (fun k hk => (h.own.lt k hk).1)⟩
  rw [nv_snoc, List.length_append]
  exact hp
theorem Ints.start (w : World) : Ints w w (.slice none 0 0) [] := ⟨World.ownsRow_nil _ _ _ _, Below.refl _ _⟩
def IntPost (w : World) (l : List Nat) (e : Ending) (w' : World) : Prop := ∃ v, e = .returned v ∧ Ints w w' v l

set_option maxHeartbeats 400000 in
theorem behind_any (k j : Nat) (h : k + j < 4611686018427387904) (w : World) : Calls Try.prog 121 #[.int .i64 (k : Int), .int .i64 ((k + j : Nat) : Int), .int .i64 (j : Int)] w fun e w' => e = .returned (.bool true) ∧ w = w' := by
  have h1 : (k : Int) ≤ ((k + j : Nat) : Int) := by omega
  have h0 : (0 : Int) ≤ (k : Int) := by omega
  have h2 : (0 : Int) ≤ (j : Int) := by omega
  have h3 : ((k + j : Nat) : Int) - (k : Int) = (j : Int) := by omega
  have h4 : ((k + j : Nat) : Int) < 4611686018427387904 := by omega
  have h5 : (j : Int) < 4611686018427387904 := by omega
  have h6 : (k : Int) < 4611686018427387904 := by omega
  generalize ((k + j : Nat) : Int) = a at *
  generalize (k : Int) = b at *
  generalize (j : Int) = c at *
  go_enter Try.func121, Try.ntmps121
  go_wp2
  go_ret
  exact ⟨by simp, rfl⟩

set_option maxHeartbeats 1600000 in
theorem phrase_any (TA : Option Addr) (n tc : Nat) (T : List (List UInt8)) (WA : Option Addr) (m wc : Nat) (ws : List ByteArray) (w : World) (hT : Reads w w.heap.size 2 TA n (tokC (placed T))) (hn : T.length = n) (hn2 : n ≤ 1048576)
    (hW : Reads w w.heap.size 1 WA m (ws.map Value.string)) (hm : ws.length = m) (hm2 : m ≤ 8796093021952) :
    Calls Try.prog 96 #[.slice TA n tc, .slice WA m wc] w (IntPost w (phr T ws)) := by
  obtain ⟨i0, hi0, hz0, hz1, hz2⟩ := info_parts int_info2
  have HT := Lib.hid hT
  have HW := Lib.hid hW
  clear hT hW
  by_cases h0 : m = 0
  · have hws : ws = [] := List.length_eq_zero_iff.1 (by omega)
    have Fin : Hid (phr T ws = []) := Lib.hid (by unfold phr; rw [if_pos hws])
    have h0' : ((m : Int) == 0) = true := by rw [beq_iff_eq]; omega
    clear h0 hws hm
    go_enter Try.func96, Try.ntmps96
    go_wp2_with fail
    go_step3
    go_wp2
    rw [Exit.noGoto_ret]
    go_ret
    exact ⟨_, rfl, by rw [Fin.out]; exact Ints.start w⟩
  · have hws : ws ≠ [] := fun e => h0 (by rw [← hm, e]; rfl)
    have Fin : Hid (phr T ws = phrTo T ws n) := Lib.hid (by unfold phr; rw [if_neg hws, hn])
    have h0' : ((m : Int) == 0) = false := by rw [beq_eq_false_iff_ne]; omega
    have Hn := Lib.hid hn
    have Hm := Lib.hid hm
    clear h0 hws hm hn
    go_enter Try.func96, Try.ntmps96
    go_wp2_with fail
    go_step3
    go_wp2_with fail
    go_step3
    go_wp2_with fail
    go_loopw [5, 16] (fun v i wr => ∃ k : Nat, k ≤ n ∧ i = .int .i64 k ∧ Ints w wr v (phrTo T ws k)) (fun _ i _ => n - (intOf i).toNat)
    case atStart => exact ⟨0, Nat.zero_le _, rfl, Ints.start w⟩
    case round =>
      obtain ⟨k, hk, rfl, hI⟩ := hrel
      by_cases hlt : k < n
      · obtain ⟨tb, tq, rfl, htb, hc1, hc2⟩ := toks_at HT.out Hn.out (k := k) (by rw [Hn.out]; exact hlt)
        have hd1 := (hI.bel.cell (p := ⟨tb, tq + k * 2, none⟩) htb).trans hc1
        have hd2 := (hI.bel.cell (p := ⟨tb, tq + k * 2 + 1, none⟩) htb).trans hc2
        have HI := Lib.hid hI
        have hz := hI.bel.size
        have hpl := phrTo_len T ws k
        clear hI hc1 hc2
        by_cases hs : n - k < m
        · have hs' : (n : Int) - (k : Int) < (m : Int) := by omega
          have Fin2 : Hid (phrTo T ws n = phrTo T ws k) := Lib.hid (phrTo_short T ws k (by rw [Hn.out, Hm.out]; exact hs) n (by omega))
          have HI2 := Lib.hid (HI.out.below ((Below.refl _ _).alloc (Nat.le_refl _) (.cells #[.string (str (T[k]'(by rw [Hn.out]; exact hlt))), .int .i64 (k : Int)] 74)))
          generalize (str (T[k]'(by rw [Hn.out]; exact hlt))) = tk at *
          clear hs
          go_wp2
          rw [Exit.noGoto_ret]
          go_ret
          exact ⟨_, rfl, by rw [Fin.out, Fin2.out]; exact HI2.out⟩
        · have hs' : (m : Int) ≤ (n : Int) - (k : Int) := by omega
          have HB7 := Lib.hid ((Blk.new wr 74 #[.string (str (T[k]'(by rw [Hn.out]; exact hlt))), .int .i64 (k : Int)]))
          generalize (str (T[k]'(by rw [Hn.out]; exact hlt))) = tk at *
          obtain ⟨wo, rfl⟩ : ∃ wo : World, wo = wr := ⟨_, rfl⟩
          have hmn : m ≤ n - k := by omega
          clear hs
          go_wp2_with fail
          go_loopw [30] (fun i wq => ∃ j : Nat, j ≤ m ∧ i = .int .i64 j ∧ standsTo T ws k j = true ∧ Below (wo.alloc (.cells #[.string tk, .int .i64 (k : Int)] 74)).heap.size (wo.alloc (.cells #[.string tk, .int .i64 (k : Int)] 74)) wq) (fun i _ => m - (intOf i).toNat)
          case atStart => exact ⟨0, Nat.zero_le _, rfl, standsTo_zero _ _ _, Below.refl _ _⟩
          case round =>
            obtain ⟨j, hj, rfl, hst, hbq⟩ := hrel
            have HIq := Lib.hid ((HI.out.below ((Below.refl _ _).alloc (Nat.le_refl _) (.cells #[.string tk, .int .i64 (k : Int)] 74))).below hbq)
            have h7 := HB7.out.below hbq (by simp)
            have h7a := h7.cell 0
            have h7b := h7.cell 1
            simp at h7a h7b
            have Hbq := Lib.hid hbq
            have Hst := Lib.hid hst
            have hzq := hbq.size
            simp at hzq
            clear h7 hbq hst
            by_cases hjm : j < m
            · obtain ⟨xb, xo, e1, hxb, hx1, hx2⟩ := toks_at HT.out Hn.out (k := k + j) (by rw [Hn.out]; omega)
              injection e1 with e1
              injection e1 with e1 e2
              subst e1 e2
              obtain ⟨ab, ao, hkl, rfl, hab, hcw⟩ := HW.out.at_map hjm
              have hbw := HIq.out.bel
              have hy1 := (hbw.cell (p := ⟨tb, tq + (k + j) * 2, none⟩) htb).trans hx1
              have hy2 := (hbw.cell (p := ⟨tb, tq + (k + j) * 2 + 1, none⟩) htb).trans hx2
              have hyw := (hbw.cell (p := ⟨ab, ao + j, none⟩) hab).trans hcw
              have hss := standsTo_succ T ws k j (by rw [Hn.out]; omega) (by rw [Hm.out]; omega)
              have hbe := str_beq (T[k + j]'(by rw [Hn.out]; omega)) ws[j]
              rw [Hst.out, Bool.true_and, ← hbe] at hss
              have Hss := Lib.hid hss
              have hi0 : (0 : Int) ≤ (k : Int) + (j : Int) := by omega
              have hi1 : (k : Int) + (j : Int) < (n : Int) := by omega
              have hi2 : ((k : Int) + (j : Int)).toNat = k + j := by omega
              have Hno : Hid (standsTo T ws k (j + 1) = false → phrTo T ws (k + 1) = phrTo T ws k) := Lib.hid (fun e => by
                rw [phrTo_succ, standsTo_no T ws k (j + 1) (by rw [Hm.out]; omega) e]; simp)
              clear hbw hx1 hx2 hcw hss hbe
              generalize (str (T[k + j]'(by rw [Hn.out]; omega))) = x at *
              generalize ws[j] = y at *
              by_cases hxy : (x.toList == y.toList) = true
              · have hxy' : (x.toList != y.toList) = false := by rw [bne, hxy]; rfl
                have Hs2 : Hid (standsTo T ws k (j + 1) = true) := Lib.hid (by rw [Hss.out, hxy])
                have c1 := fun wx => behind_any k j (by omega) wx
                have h7c := fun o => (World.cell?_alloc_lt wr o ⟨wo.heap.size, 1, none⟩ (by show wo.heap.size < _; omega)).trans h7b
                have hbx := Hbq.out.alloc Hbq.out.size (.cells #[.string x, .int .i64 ((k + j : Nat) : Int)] 74)
                have Hbx := Lib.hid hbx
                have C1 := Lib.hid c1
                clear hbx c1
                have e1 : ((k + j : Nat) : Int) = (k : Int) + (j : Int) := by omega
                rw [e1] at C1
                have E1 := Lib.hid e1
                clear e1
                go_wp2_with (go_at_call 121; refine (C1.out _).mono ?_; rintro e w' ⟨rfl, rfl⟩)
                go_roundw
                case rel => exact ⟨j + 1, by omega, by go_num, Hs2.out, Hbx.out⟩
                case measure => simp [intOf]; omega
              · have hxy' : (x.toList != y.toList) = true := by rw [bne, Bool.eq_false_iff.2 hxy]; rfl
                have Hs2 := Lib.hid (Hno.out (by rw [Hss.out]; exact Bool.eq_false_iff.2 hxy))
                have hxf : (x.toList == y.toList) = false := Bool.eq_false_iff.2 hxy
                have HIx := Lib.hid (HIq.out.below ((Below.refl _ _).alloc (Nat.le_refl _) (.cells #[.string x, .int .i64 ((k + j : Nat) : Int)] 74)))
                clear hxy
                go_wp2
                go_roundw
                case rel => exact ⟨k + 1, by omega, by go_num, by rw [Hs2.out]; exact HIx.out⟩
                case measure => simp [intOf]; omega
            · obtain rfl : j = m := by omega
              have hst2 := Hst.out
              have hmm := Hm.out
              subst hmm
              rw [standsTo_all] at hst2
              have Hph : Hid (phrTo T ws (k + 1) = phrTo T ws k ++ [k]) := Lib.hid (by rw [phrTo_succ, hst2]; rfl)
              have hown := HIq.out.own
              have hbsz := HIq.out.bel.size
              clear hst2
              generalize phrTo T ws k = P at *
              go_wp2_with (at_builtin; refine wpList_append_own _ rfl _ _ 111 rfl w.heap.size 3 i0 _ 1 8 Try.underlying111 hi0 hz0 hz1 hz2 rfl (by decide) _ _ _ rfl (hown.alloc _) ⟨wr.heap.size, 0, none⟩ 1 1 [.int .i64 (k : Int)] rfl rfl ?d1 ?d2 ?d3 ?d4 ?d5 ?_)
              case d2 => first | rfl | (intro u hu; simp at hu; subst hu; rfl)
              case d3 => unfold maxLen; omega
              case d4 => omega
              case d5 => first | omega | (simp; omega)
              intro v' w5 hown5 hg5 _
              have HI5 := Lib.hid ((HIq.out.below ((Below.refl _ _).alloc (Nat.le_refl _) _)).put hown5 hg5)
              clear hown5 hg5 hown
              go_wp2
              go_roundw
              case rel => exact ⟨k + 1, by omega, by go_num, by rw [Hph.out]; exact HI5.out⟩
              case measure => simp [intOf]; omega
      · obtain rfl : k = n := by omega
        have HI := Lib.hid hI
        clear hI
        go_wp2
        rw [Exit.noGoto_ret]
        go_ret
        exact ⟨_, rfl, by rw [Fin.out]; exact HI.out⟩
end Go.Proofs.Ytjfconddkfihcaa.Qy
end
