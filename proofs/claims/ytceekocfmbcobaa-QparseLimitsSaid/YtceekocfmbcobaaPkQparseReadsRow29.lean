/- loggiaref07: Words, IsWord, IsName, Term: the walks. -/
import Derived.Deep.QuietTactic
import Derived.Test.YtceekocfmbcobaaTokGPk
import Derived.Test.YtceekocfmbcobaaQpOPk
section
namespace Go.Proofs.Ytceekocfmbcobaa.Tk
open Go.RowKit Go.Proofs.Ytceekocfmbcobaa.Ut
set_option maxRecDepth 20000

set_option maxHeartbeats 800000 in
theorem words_ref (s : ByteArray) (w : World) (hs : s.size ≤ 1048576) : Calls Try.prog 78 #[.string s] w (StrPost w (words s.data.toList)) := by
  obtain ⟨i0, hi0, hz0, hz1, hz2⟩ := info_parts str_info
  have c0 := tokens_ref s w hs
  have hwl := words_len s
  generalize words s.data.toList = ws at *
  go_enter Try.func78, Try.ntmps78
  go_wp2_with fail
  refine c0.mono ?_
  rintro e w1 ⟨v, rfl, hown, hb1⟩
  obtain ⟨A, c, rfl, hR⟩ := own_shape hown
  have S0 : Strs w1 w1 (.slice none 0 0) [] := ⟨World.ownsRow_nil _ _ _ _, Below.refl _ _⟩
  have HR := Lib.hid hR
  have HS0 := Lib.hid S0
  have Hb1 := Lib.hid hb1
  clear hown hR S0 c0 hb1
  go_wp2_with fail
  go_loopw [4, 5] (fun v i wr => ∃ k : Nat, k ≤ ws.length ∧ i = .int .i64 k ∧ Strs w1 wr v (ws.take k)) (fun _ i _ => ws.length - (intOf i).toNat)
  case atStart => exact ⟨0, Nat.zero_le _, rfl, HS0.out⟩
  case round =>
    obtain ⟨k, hk, rfl, hT⟩ := hrel
    by_cases hlt : k < ws.length
    · obtain ⟨b, o, rfl, hb, hc1, hc2⟩ := toks_at HR.out rfl hlt
      have hd1 := (hT.bel.cell (p := ⟨b, o + k * 2, none⟩) hb).trans hc1
      have hts : ws.take (k + 1) = ws.take k ++ [ws[k]] := by rw [List.take_succ_eq_append_getElem hlt]
      have Hts := Lib.hid hts
      have htl : (ws.take k).length ≤ ws.length := by rw [List.length_take]; omega
      have hown := hT.own
      have hbs := hT.bel.size
      have HT := Lib.hid hT
      clear hts hc1 hc2 hT
      generalize ws[k] = x at *
      generalize ws.take k = y at *
      go_wp2_with (at_builtin; refine wpList_append_own _ rfl _ _ 23 rfl w1.heap.size 9 i0 _ 1 16 Try.underlying23 hi0 hz0 hz1 hz2 rfl (by decide) _ _ _ rfl (hown.alloc _) ⟨wr.heap.size, 0, none⟩ 1 1 [.string (str x)] rfl rfl ?d1 ?d2 ?d3 ?d4 ?d5 ?_)
      case d1 => exact World.news_of_block (cs := #[.string (str x)]) (t := 9) (fr := (0, 0)) (heap_alloc_new wr _)
      case d2 => intro u hu; simp at hu; subst hu; rfl
      case d3 => unfold maxLen; omega
      case d4 => omega
      case d5 => simp; omega
      intro v' w5 hown5 hg5 _
      have HT5 := Lib.hid ((HT.out.below ((Below.refl _ _).alloc (Nat.le_refl _) _)).put hown5 hg5)
      clear hown5 hg5 hown
      go_wp2
      go_roundw
      case rel => exact ⟨k + 1, by omega, by go_num, by rw [Hts.out]; exact HT5.out⟩
      case measure => simp [intOf]; omega
    · have hall : ws.take k = ws := List.take_of_length_le (by omega)
      rw [hall] at hT
      have HT := Lib.hid hT
      clear hT hall
      go_wp2
      go_ret
      exact ⟨_, rfl, HT.out.own.mono Hb1.out.size, Hb1.out.trans (HT.out.bel.mono Hb1.out.size)⟩

set_option maxHeartbeats 800000 in
theorem isName_refB (s : ByteArray) (w : World) (hs : s.size ≤ 1048576) : Calls Try.prog 76 #[.string s] w fun e w' => e = .returned (.bool (isN s.data.toList)) ∧ w = w' := by
  have Fin : Hid (isN s.data.toList = (decide (1 ≤ s.data.toList.length) && decide (s.data.toList.length ≤ 32) && s.data.toList.all nameB)) := rfl
  rw [bsize] at Fin
  by_cases hl : 1 ≤ s.size ∧ s.size ≤ 32
  · have h1 : (1 : Int) ≤ (s.size : Int) := by omega
    have h2 : (s.size : Int) ≤ 32 := by omega
    have Fin2 : Hid (isN s.data.toList = s.data.toList.all nameB) := Lib.hid (by rw [Fin.out, decide_eq_true hl.1, decide_eq_true hl.2]; rfl)
    clear hl
    go_enter Try.func76, Try.ntmps76
    go_wp2
    go_loop [3] (fun i => ∃ k : Nat, k ≤ s.size ∧ i = .int .i64 k ∧ (s.data.toList.take k).all nameB = true) (fun i => s.size - (intOf i).toNat)
    case atStart => exact ⟨0, Nat.zero_le _, rfl, rfl⟩
    case round =>
      obtain ⟨k, hk, rfl, hal⟩ := hrel
      by_cases hlt : k < s.size
      · have hu := (s[k]).toNat_lt
        have hts := take_snoc s k hlt
        have hmem : s[k] ∈ s.data.toList := by
          have : s.data.toList[k]'(by rw [bsize]; exact hlt) = s[k] := rfl
          rw [← this]; exact List.getElem_mem _
        have Hal := Lib.hid hal
        rcases nameB_cases s[k] with ⟨hn, h⟩ | ⟨hn, h9, h⟩
        · have Hnx : Hid ((s.data.toList.take (k + 1)).all nameB = true) := Lib.hid (by rw [hts, List.all_append, Hal.out]; simp [hn])
          clear hal hts hmem hn
          rcases h with h | h | h
          all_goals
            go_wp2
            all_goals first
              | (go_round
                 case rel => exact ⟨k + 1, by omega, by go_num, Hnx.out⟩
                 case measure => simp [intOf]; omega)
              | (exfalso; simp only [bne_iff_ne, ne_eq, bne_eq_false_iff_eq, beq_eq_false_iff_ne, decide_eq_true_eq] at *; omega)
        · have Fin3 : Hid (isN s.data.toList = false) := Lib.hid (by
            rw [Fin2.out]
            exact List.all_eq_false.2 ⟨_, hmem, by rw [hn]; decide⟩)
          clear hal hts hmem hn
          have h9' : (((s[k]).toNat : Int) == 95) = false := by rw [beq_eq_false_iff_ne]; omega
          rcases h with h | h | h
          all_goals
            go_wp2
            all_goals first
              | (go_ret; exact ⟨by rw [Fin3.out]; rfl, rfl⟩)
              | (exfalso; simp only [Bool.not_eq_false', decide_eq_true_eq] at *; omega)
      · obtain rfl : k = s.size := by omega
        have htk : s.data.toList.take s.size = s.data.toList := List.take_of_length_le (Nat.le_of_eq (bsize s))
        rw [htk] at hal
        have Fin3 : Hid (isN s.data.toList = true) := Lib.hid (by rw [Fin2.out, hal])
        clear hal htk
        go_wp2
        go_ret
        exact ⟨by rw [Fin3.out]; rfl, rfl⟩
  · have Fin2 : Hid (isN s.data.toList = false) := Lib.hid (by
      rw [Fin.out]
      by_cases h1 : 1 ≤ s.size
      · rw [decide_eq_false (show ¬ s.size ≤ 32 by omega)]; simp
      · rw [decide_eq_false h1]; rfl)
    by_cases h1 : s.size < 1
    · have h1' : (s.size : Int) < 1 := by omega
      clear hl h1
      go_enter Try.func76, Try.ntmps76
      go_wp2
      go_ret
      exact ⟨by rw [Fin2.out]; rfl, rfl⟩
    · have h1' : (1 : Int) ≤ (s.size : Int) := by omega
      have h2' : (32 : Int) < (s.size : Int) := by omega
      clear hl h1
      go_enter Try.func76, Try.ntmps76
      go_wp2
      go_ret
      exact ⟨by rw [Fin2.out]; rfl, rfl⟩

theorem isName_ref (s : ByteArray) (w : World) (hs : s.size ≤ 1048576) : Calls Try.prog 76 #[.string s] w fun e w' => e = .returned (.bool (isN s.data.toList)) ∧ w = w' :=
  isName_refB s w (by omega)
end Go.Proofs.Ytceekocfmbcobaa.Tk
end

section
/- loggiaref17: colon, words, leaf: the walks (printed by gen_qpr.py). -/
namespace Go.Proofs.Ytceekocfmbcobaa.Qp
open Go.RowKit Go.Proofs.Ytceekocfmbcobaa Go.Proofs.Ytceekocfmbcobaa.Ut Go.Proofs.Ytceekocfmbcobaa.Tk Go.Proofs.Ytceekocfmbcobaa.Qy
set_option maxRecDepth 20000
set_option linter.unusedSimpArgs false

def colonV (s : P) : Int := if named s then (sepAt s : Nat) else -1
set_option maxHeartbeats 800000 in
theorem colon_ref (s : ByteArray) (w : World) (hs : s.size ≤ 1048576) : Calls Try.prog 75 #[.string s] w fun e w' => e = .returned (.int .i64 (colonV s.data.toList)) ∧ w = w' := by
  have Hend := Lib.hid (findIdx_of (fun c => c == 58 || c == 34) s.data.toList)
  have Hnm : Hid (named s.data.toList = (s.data.toList[sepAt s.data.toList]? == some 58)) := rfl
  have Hcv : Hid (colonV s.data.toList = if named s.data.toList then ((sepAt s.data.toList : Nat) : Int) else -1) := rfl
  go_enter Try.func75, Try.ntmps75
  go_wp2_with fail
  go_loopw [3] (fun i wr => ∃ k : Nat, k ≤ s.size ∧ i = .int .i64 (k : Int) ∧ w = wr ∧ Hid (∀ x ∈ s.data.toList.take k, (x == 58 || x == 34) = false)) (fun i _ => s.size - (intOf i).toNat)
  case atStart => exact ⟨0, Nat.zero_le _, rfl, rfl, Lib.hid (fun x hx => by simp at hx)⟩
  case round =>
    obtain ⟨k, hk, rfl, rfl, hal⟩ := hrel
    have hk0 : (0 : Int) ≤ (k : Int) := by omega
    by_cases hlt : k < s.size
    · have hts := take_snoc s k hlt
      have g1 := get_of s k hlt
      have u0 := u8_eq s[k] 58
      have u1 := u8_eq s[k] 34
      simp only [show (UInt8.toNat 34 : Int) = 34 from rfl, show (UInt8.toNat 58 : Int) = 58 from rfl] at u0 u1
      have Hk : Hid ((s[k] = 58 ∨ s[k] = 34) → sepAt s.data.toList = k) := Lib.hid (fun h => Hend.out k hal.out (by rw [bsize]; omega) (fun _ => by
        show (s[k] == 58 || s[k] == 34) = true
        rcases h with h | h <;> simp [h]))
      by_cases q1 : s[k] = 34
      · have t1 : ((s[k].toNat : Int) != 34) = false := by rw [bne_eq_false_iff_eq]; rw [q1]; rfl
        have Fin : Hid (colonV s.data.toList = -1) := Lib.hid (by rw [Hcv.out, Hnm.out, Hk.out (.inr q1), g1, q1]; rfl)
        clear hts g1 u0 u1 Hk q1 hal Hend Hnm Hcv
        go_wp2_with fail
        go_ret
        exact ⟨by rw [Fin.out]; rfl, rfl⟩
      · have t1 : ((s[k].toNat : Int) != 34) = true := by
          have : ((s[k].toNat : Int) == 34) = false := by rw [u1]; exact beq_eq_false_iff_ne.2 q1
          simp [bne, this]
        by_cases q2 : s[k] = 58
        · have t2 : ((s[k].toNat : Int) == 58) = true := by rw [u0]; exact beq_iff_eq.2 q2
          have Fin : Hid (colonV s.data.toList = (k : Int)) := Lib.hid (by rw [Hcv.out, Hnm.out, Hk.out (.inl q2), g1, q2]; rfl)
          clear hts g1 u0 u1 Hk q1 q2 hal Hend Hnm Hcv
          go_wp2_with fail
          go_ret
          exact ⟨by rw [Fin.out]; rfl, rfl⟩
        · have t2 : ((s[k].toNat : Int) == 58) = false := by rw [u0]; exact beq_eq_false_iff_ne.2 q2
          have Hnx : Hid (∀ x ∈ s.data.toList.take (k + 1), (x == 58 || x == 34) = false) := Lib.hid (fun x hx => by
            rw [hts, List.mem_append] at hx
            rcases hx with hx | hx
            · exact hal.out x hx
            · rw [List.mem_singleton] at hx; rw [hx]; simp [q1, q2])
          clear hts g1 u0 u1 Hk q1 q2 hal Hend Hnm Hcv
          go_wp2_with fail
          go_roundw
          case rel => exact ⟨k + 1, by omega, by go_num, by first | rfl | trivial, Hnx⟩
          case measure => simp [intOf]; omega
    · have Fin : Hid (colonV s.data.toList = -1) := Lib.hid (by
        have e : sepAt s.data.toList = k := Hend.out k hal.out (by rw [bsize]; omega) (fun h => absurd h (by rw [bsize]; omega))
        rw [Hcv.out, Hnm.out, e, List.getElem?_eq_none (by rw [bsize]; omega)]; rfl)
      clear hal Hend Hnm Hcv
      go_wp2_with fail
      go_ret
      exact ⟨by rw [Fin.out]; rfl, rfl⟩

/-- Four cells that may be a query's. -/
def Four (vs : List Value) : Prop := ∃ (k : Int) (nm : ByteArray) (A : Option Addr) (n c : Nat) (C : Option Addr) (m d : Nat), vs = [.int .i64 k, .string nm, .slice A n c, .slice C m d]
/-- A query; or something that is none. -/
def RwPost (base : Nat) (w : World) (o : Option Q) (e : Ending) (w' : World) : Prop :=
  ∃ a0 a1 a2 a3, e = .returned (.tuple #[.agg #[a0, a1, a2, a3], .bool o.isSome]) ∧ Four [a0, a1, a2, a3] ∧ (∀ q, o = some q → QF w' (fun b => base ≤ b ∧ b < w'.heap.size) q [a0, a1, a2, a3]) ∧ Below w.heap.size w w'
theorem cs_results {fn : Func} {p1 p2 : Tmp} (hf : fn.results = #[.cell p1 29, .tmp p2]) {tmps : Array Value} {W : World} {b1 : Nat} {a0 a1 a2 a3 v : Value} (h1 : tmps.getD p1 undef = .pointer (some ⟨b1, 0, none⟩)) (h2 : tmps.getD p2 undef = v) (B1 : Blk W b1 29 #[a0, a1, a2, a3]) :
    (results fn tmps).run Try.prog W = .ok (.tuple #[.agg #[a0, a1, a2, a3], v]) W := by
  have l1 := run_loadVar_row (P := Try.prog) W b1 29 29 #[a0, a1, a2, a3] (0, 0) _ B1 Try.underlying29 rfl (by kernel_rfl)
  have h1' : tmps[p1]?.getD undef = .pointer (some ⟨b1, 0, none⟩) := by simpa using h1
  have h2' : tmps[p2]?.getD undef = v := by simpa using h2
  simp [results, hf, h1', h2', asAddr, l1]
set_option maxHeartbeats 800000 in
theorem words_rf (base : Nat) (nm : ByteArray) (l : List P) (A : Option Addr) (c : Nat) (w : World) (hR : ReadsS w (fun b => base ≤ b ∧ b < w.heap.size) 1 A l.length (sv l)) :
    Calls Try.prog 77 #[.string nm, .slice A l.length c] w (RwPost base w (wordsQ nm.data.toList l)) := by
  have Hnm := Lib.hid (of_str nm)
  by_cases h0 : l = []
  · have Fin : Hid (wordsQ nm.data.toList l = none) := Lib.hid (by unfold wordsQ; rw [if_pos h0])
    have hB := Blk.new w 29 #[.int .i64 0, .string ⟨#[]⟩, .slice none 0 0, .slice none 0 0]
    have hbl := Lib.hid ((Below.refl w.heap.size w).alloc (Nat.le_refl _) (.cells #[.int .i64 0, .string ⟨#[]⟩, .slice none 0 0, .slice none 0 0] 29))
    clear hR
    subst h0
    go_enter Try.func77, Try.ntmps77
    go_wp2_with fail
    refine bodyPost_ret (cs_results rfl rfl rfl hB) rfl ?_
    rw [Fin.out]
    exact ⟨_, _, _, _, rfl, ⟨_, _, _, _, _, _, _, _, rfl⟩, (fun q h => by cases h), hbl.out⟩
  have hl0 : l.length ≠ 0 := fun e => h0 (List.length_eq_zero_iff.1 e)
  have z0 : ((l.length : Int) == 0) = false := by rw [beq_eq_false_iff_ne]; omega

  by_cases h1 : l.length = 1
  · have Fin : Hid (wordsQ nm.data.toList l = some (.mk 2 nm (l.map str) [])) := Lib.hid (by unfold wordsQ; rw [if_neg h0, if_pos h1, Hnm.out])
    have z1 : ((l.length : Int) == 1) = true := by rw [h1]; rfl
    have hB := Blk.new w 29 #[.int .i64 2, .string nm, .slice A l.length c, .slice none 0 0]
    have hbl := (Below.refl w.heap.size w).alloc (Nat.le_refl _) (.cells #[.int .i64 2, .string nm, .slice A l.length c, .slice none 0 0] 29)
    have HF : Hid (QF (w.alloc (.cells #[.int .i64 2, .string nm, .slice A l.length c, .slice none 0 0] 29)) (fun b => base ≤ b ∧ b < (w.alloc (.cells #[.int .i64 2, .string nm, .slice A l.length c, .slice none 0 0] 29)).heap.size) (.mk 2 nm (l.map str) []) [.int .i64 2, .string nm, .slice A l.length c, .slice none 0 0]) := Lib.hid
      (.mk [] (by rw [List.length_map]) ((hR.keep fun b o hS => hbl.cell (p := ⟨b, o, none⟩) hS.2).mono fun b hS => ⟨hS.1, Nat.lt_of_lt_of_le hS.2 hbl.size⟩) rfl rfl (by simp) ReadsS.none_ (fun i hi => absurd hi (by simp)))
    have Hbl := Lib.hid hbl
    have HB := Lib.hid hB
    clear hR h0 hl0 hbl hB h1
    generalize l.length = n at *
    go_enter Try.func77, Try.ntmps77
    go_wp2_with fail
    refine bodyPost_ret (cs_results rfl rfl rfl HB.out) rfl ?_
    rw [Fin.out]
    exact ⟨_, _, _, _, rfl, ⟨_, _, _, _, _, _, _, _, rfl⟩, (fun q h => by injection h with h; subst h; exact HF.out), Hbl.out⟩
  · have Fin : Hid (wordsQ nm.data.toList l = some (.mk 4 nm (l.map str) [])) := Lib.hid (by unfold wordsQ; rw [if_neg h0, if_neg h1, Hnm.out])
    have z1 : ((l.length : Int) == 1) = false := by rw [beq_eq_false_iff_ne]; omega
    have hB := Blk.new w 29 #[.int .i64 4, .string nm, .slice A l.length c, .slice none 0 0]
    have hbl := (Below.refl w.heap.size w).alloc (Nat.le_refl _) (.cells #[.int .i64 4, .string nm, .slice A l.length c, .slice none 0 0] 29)
    have HF : Hid (QF (w.alloc (.cells #[.int .i64 4, .string nm, .slice A l.length c, .slice none 0 0] 29)) (fun b => base ≤ b ∧ b < (w.alloc (.cells #[.int .i64 4, .string nm, .slice A l.length c, .slice none 0 0] 29)).heap.size) (.mk 4 nm (l.map str) []) [.int .i64 4, .string nm, .slice A l.length c, .slice none 0 0]) := Lib.hid
      (.mk [] (by rw [List.length_map]) ((hR.keep fun b o hS => hbl.cell (p := ⟨b, o, none⟩) hS.2).mono fun b hS => ⟨hS.1, Nat.lt_of_lt_of_le hS.2 hbl.size⟩) rfl rfl (by simp) ReadsS.none_ (fun i hi => absurd hi (by simp)))
    have Hbl := Lib.hid hbl
    have HB := Lib.hid hB
    clear hR h0 hl0 hbl hB h1
    generalize l.length = n at *
    go_enter Try.func77, Try.ntmps77
    go_wp2_with fail
    refine bodyPost_ret (cs_results rfl rfl rfl HB.out) rfl ?_
    rw [Fin.out]
    exact ⟨_, _, _, _, rfl, ⟨_, _, _, _, _, _, _, _, rfl⟩, (fun q h => by injection h with h; subst h; exact HF.out), Hbl.out⟩
end Go.Proofs.Ytceekocfmbcobaa.Qp
end
