/- token.Words, IsWord, IsName, Term, Split; strings.Cut at a colon: the walks. -/
import Derived.Lib.IndexLaws
import Derived.Laws.BitsAllLaws
import Derived.Lib.SlicesS
import Derived.Test.YtlfpfkallgkjdaaGreatPkAlertManyRow7
import Derived.Test.YtlfpfkallgkjdaaGreatShelfPk
import Derived.Test.YtlfpfkallgkjdaaGreatPkAlertManyRow5
import Derived.Test.YtlfpfkallgkjdaaGreatPkAlertManyRow2
import Derived.Test.YtlfpfkallgkjdaaGreatPkAlertManyRow1
section
namespace Go.Proofs.YtlfpfkallgkjdaaGreat.Tk
open Go.RowKit Go.Proofs.YtlfpfkallgkjdaaGreat.Ut
set_option maxRecDepth 20000

theorem tl (s : ByteArray) : s.toList = s.data.toList := ByteArray.toList_eq s
theorem tokC_get : ∀ (l : List (List UInt8 × Int)) (k : Nat) (h : k < l.length), (tokC l)[k * 2]? = some (.string (str l[k].1)) ∧ (tokC l)[k * 2 + 1]? = some (.int .i64 l[k].2)
  | x :: l, 0, _ => ⟨rfl, rfl⟩
  | x :: l, k + 1, h => by
    have ih := tokC_get l k (by simpa using h)
    have e1 : (k + 1) * 2 = k * 2 + 2 := by omega
    have e2 : (k + 1) * 2 + 1 = (k * 2 + 1) + 2 := by omega
    rw [e2, e1]
    exact ih
theorem placed_get (ws : List (List UInt8)) (k : Nat) (h : k < ws.length) : (placed ws)[k]'(by rw [placed_len]; exact h) = (ws[k], (k : Int)) := by
  simp [placed]
/-- The k-th token of a row that reads so. -/
theorem toks_at {w : World} {B n : Nat} {A : Option Addr} {ws : List (List UInt8)} (h : Reads w B 2 A n (tokC (placed ws))) (hn : ws.length = n) {k : Nat} (hk : k < ws.length) :
    ∃ b o, A = some ⟨b, o, none⟩ ∧ b < B ∧ w.cell? ⟨b, o + k * 2, none⟩ = some (.string (str ws[k])) ∧ w.cell? ⟨b, o + k * 2 + 1, none⟩ = some (.int .i64 (k : Int)) := by
  obtain ⟨b, o, e, hb, hc⟩ := h.2 (by omega)
  have g := tokC_get (placed ws) k (by rw [placed_len]; exact hk)
  rw [placed_get ws k hk] at g
  refine ⟨b, o, e, hb, hc _ _ g.1, ?_⟩
  have := hc _ _ g.2
  rw [← Nat.add_assoc] at this
  exact this

/-- Texts, as cells. -/
def sv (ws : List (List UInt8)) : List Value := (ws.map str).map Value.string
theorem sv_snoc (ws : List (List UInt8)) (x : List UInt8) : sv (ws ++ [x]) = sv ws ++ [.string (str x)] := by simp [sv]
theorem sv_len (ws : List (List UInt8)) : (sv ws).length = ws.length := by simp [sv]
/-- Texts of the call's own. -/
def StrPost (w : World) (ws : List (List UInt8)) (e : Ending) (w' : World) : Prop :=
  ∃ v, e = .returned v ∧ w'.ownsRow w.heap.size 9 1 v ws.length (sv ws) ∧ Below w.heap.size w w'
structure Strs (w wr : World) (v : Value) (ws : List (List UInt8)) : Prop where
  own : wr.ownsRow w.heap.size 9 1 v ws.length (sv ws)
  bel : Below w.heap.size w wr
theorem Strs.below {w wr w2 : World} {v : Value} {ws : List (List UInt8)} (h : Strs w wr v ws) (hb : Below wr.heap.size wr w2) : Strs w w2 v ws :=
  ⟨h.own.kept (grow_of_below hb none) (by cases hv : v.ownBlock <;> simp), h.bel.trans (hb.mono h.bel.size)⟩
theorem Strs.put {w wr w2 : World} {v v' : Value} {ws : List (List UInt8)} {x : List UInt8} (h : Strs w wr v ws)
    (hp : w2.ownsRow w.heap.size 9 1 v' (ws.length + 1) (sv ws ++ [.string (str x)])) (hg : wr.grownBy w2 v.ownBlock) : Strs w w2 v' (ws ++ [x]) := by
  refine ⟨?_, h.bel.grown hg h.bel.size (fun k hk => (h.own.lt k hk).1)⟩
  rw [sv_snoc, List.length_append]
  exact hp
theorem str_info : (Tryz.prog.info? 9).map (fun i => (i.zero, i.size, i.bytes)) = some (some (.string ByteArray.empty), 1, 16) := by kernel_rfl

theorem words_len (s : ByteArray) : (words s.data.toList).length ≤ s.size := by
  have h1 : ∀ (l c : List Nat), (runs c l).length ≤ l.length + 1 ∧ (c = [] → (runs c l).length ≤ l.length) := by
    intro l
    induction l with
    | nil =>
      intro c
      rw [runs_nil]
      unfold last
      split <;> simp_all
    | cons r t ih =>
      intro c
      rw [runs_cons]
      have h1 := ih (c ++ [r])
      have h2 := (ih []).2 rfl
      split
      · refine ⟨by simp; omega, fun _ => by simp; omega⟩
      · have h3 : (last c).length ≤ 1 := by unfold last; split <;> simp
        have h4 : c = [] → (last c).length = 0 := by rintro rfl; rfl
        rw [List.length_append, List.length_cons]
        exact ⟨by omega, fun e => by have := h4 e; omega⟩
  unfold words
  rw [List.length_map]
  have := (h1 (runes s.data.toList) []).2 rfl
  have h2 := runes_len s.data.toList
  rw [bsize] at h2
  omega

theorem new2 (w : World) (o o' : Obj) : ((w.alloc o).alloc o').heap[w.heap.size + 1]? = some o' := by
  have := heap_alloc_new (w.alloc o) o'
  simpa using this

set_option maxHeartbeats 800000 in
theorem words_any (s : ByteArray) (w : World) (hs : s.size ≤ 1048576) : Calls Tryz.prog 191 #[.string s] w (StrPost w (words s.data.toList)) := by
  obtain ⟨i0, hi0, hz0, hz1, hz2⟩ := info_parts str_info
  have c0 := tokens_anyB s w (by omega)
  have hwl := words_len s
  generalize words s.data.toList = ws at *
  go_enter Tryz.func191, Tryz.ntmps191
  go_wp2_with fail
  refine c0.mono ?_
  rintro e w1 ⟨v, rfl, hown, hb1⟩
  obtain ⟨A, c, rfl, hR⟩ := own_shape hown
  have S0 : Strs w1 w1 (.slice none 0 0) [] := ⟨World.ownsRow_nil _ _ _ _, Below.refl _ _⟩
  have HR := Lib.hid hR
  have HS0 := Lib.hid S0
  have Hb1 := Lib.hid hb1
  clear hown hR S0 c0 hb1
  go_wp2_with fail
  go_loopw [3, 9] (fun v i wr => ∃ k : Nat, k ≤ ws.length ∧ i = .int .i64 k ∧ Strs w1 wr v (ws.take k)) (fun _ i _ => ws.length - (intOf i).toNat)
  case atStart => exact ⟨0, Nat.zero_le _, rfl, HS0.out⟩
  case round =>
    obtain ⟨k, hk, rfl, hT⟩ := hrel
    by_cases hlt : k < ws.length
    · obtain ⟨b, o, rfl, hb, hc1, hc2⟩ := toks_at HR.out rfl hlt
      have hd1 := (hT.bel.cell (p := ⟨b, o + k * 2, none⟩) hb).trans hc1
      have hd2 := (hT.bel.cell (p := ⟨b, o + k * 2 + 1, none⟩) hb).trans hc2
      have hts : ws.take (k + 1) = ws.take k ++ [ws[k]] := by rw [List.take_succ_eq_append_getElem hlt]
      have Hts := Lib.hid hts
      have htl : (ws.take k).length ≤ ws.length := by rw [List.length_take]; omega
      have hown := hT.own
      have hbs := hT.bel.size
      have HT := Lib.hid hT
      clear hts hc1 hc2 hT
      generalize ws[k] = x at *
      generalize ws.take k = y at *
      go_wp2_with (at_builtin; refine wpList_append_own _ rfl _ _ 49 rfl w1.heap.size 9 i0 _ 1 16 Tryz.underlying49 hi0 hz0 hz1 hz2 rfl (by decide) _ _ _ rfl ((hown.alloc _).alloc _) ⟨wr.heap.size + 1, 0, none⟩ 1 1 [.string (str x)] rfl rfl ?d1 ?d2 ?d3 ?d4 ?d5 ?_)
      case d1 => exact World.news_of_block (cs := #[.string (str x)]) (t := 9) (fr := (0, 0)) (new2 wr _ _)
      case d2 => intro u hu; simp at hu; subst hu; rfl
      case d3 => unfold maxLen; omega
      case d4 => omega
      case d5 => simp; omega
      intro v' w5 hown5 hg5 _
      have HT5 := Lib.hid (((HT.out.below ((Below.refl _ _).alloc (Nat.le_refl _) _)).below ((Below.refl _ _).alloc (Nat.le_refl _) _)).put hown5 hg5)
      clear hown5 hg5 hown
      go_wp2
      go_roundw
      case rel => exact ⟨k + 1, by omega, by go_num, by rw [Hts.out]; exact HT5.out⟩
      case measure => simp [intOf]; omega
    · have hall : ws.take k = ws := List.take_of_length_le (by omega)
      rw [hall] at hT
      have HT := Lib.hid hT
      clear hT hall
      go_wp2
      go_ret
      exact ⟨_, rfl, HT.out.own.mono Hb1.out.size, Hb1.out.trans (HT.out.bel.mono Hb1.out.size)⟩

theorem str_beq (x : List UInt8) (s : ByteArray) : ((str x).toList == s.toList) = (x == s.data.toList) := by rw [tl, tl, str_data]
set_option maxHeartbeats 800000 in
theorem isWord_anyB (s : ByteArray) (w : World) (hs : s.size ≤ 140737488351232) : Calls Tryz.prog 105 #[.string s] w fun e w' => e = .returned (.bool (isW s.data.toList)) ∧ Below w.heap.size w w' := by
  by_cases hl : 32 < s.size
  · have e := isW_len s.data.toList (by rw [bsize]; exact hl)
    rw [e]
    have hl' : (32 : Int) < (s.size : Int) := by omega
    clear e
    go_enter Tryz.func105, Tryz.ntmps105
    go_wp2
    go_ret
    exact ⟨rfl, Below.refl _ _⟩
  · have hl' : (s.size : Int) ≤ 32 := by omega
    have c0 := tokens_anyB s w (by omega)
    have Fin : Hid (isW s.data.toList = (words s.data.toList == [s.data.toList])) := rfl
    clear hl
    generalize words s.data.toList = ws at *
    go_enter Tryz.func105, Tryz.ntmps105
    go_wp2_with fail
    refine c0.mono ?_
    rintro e w1 ⟨v, rfl, hown, hb1⟩
    obtain ⟨A, c, rfl, hR⟩ := own_shape hown
    have HR := Lib.hid hR
    have Hb1 := Lib.hid hb1
    clear hown hR c0 hb1
    by_cases h1 : ws.length = 1
    · obtain ⟨x, rfl⟩ : ∃ x, ws = [x] := by
        match ws, h1 with
        | [x], _ => exact ⟨x, rfl⟩
      obtain ⟨b, o, rfl, hb, hc1, hc2⟩ := toks_at HR.out rfl (k := 0) (by simp)
      simp at hc1
      clear hc2 h1
      go_wp2
      go_ret
      refine ⟨?_, Hb1.out⟩
      rw [Fin.out]
      simp [tl, str_data]
    · have h1' : ((ws.length : Int) == 1) = false := beq_eq_false_iff_ne.2 (by omega)
      have Fin2 : Hid ((ws == [s.data.toList]) = false) := Lib.hid (beq_eq_false_iff_ne.2 (fun e => h1 (by rw [e]; rfl)))
      clear h1
      go_wp2
      go_ret
      exact ⟨by rw [Fin.out, Fin2.out]; rfl, Hb1.out⟩

theorem isWord_any (s : ByteArray) (w : World) (hs : s.size ≤ 1048576) : Calls Tryz.prog 105 #[.string s] w fun e w' => e = .returned (.bool (isW s.data.toList)) ∧ Below w.heap.size w w' :=
  isWord_anyB s w (by omega)
/-- Where a byte of a name stands. -/
theorem nameB_cases (c : UInt8) : (nameB c = true ∧ ((c.toNat = 95) ∨ (48 ≤ c.toNat ∧ c.toNat ≤ 57) ∨ (97 ≤ c.toNat ∧ c.toNat ≤ 122))) ∨
    (nameB c = false ∧ c.toNat ≠ 95 ∧ (c.toNat < 48 ∨ (57 < c.toNat ∧ c.toNat < 97) ∨ 122 < c.toNat)) := by
  by_cases h : nameB c = true
  · refine .inl ⟨h, ?_⟩
    unfold nameB at h
    simp at h
    omega
  · refine .inr ⟨by simpa using h, ?_⟩
    unfold nameB at h
    simp at h
    omega
set_option maxHeartbeats 800000 in
theorem isName_anyB (s : ByteArray) (w : World) (hs : s.size ≤ 140737488351232) : Calls Tryz.prog 104 #[.string s] w fun e w' => e = .returned (.bool (isN s.data.toList)) ∧ Below w.heap.size w w' := by
  obtain ⟨cap, C, fr, hconv, hC⟩ := bytes_conv (P := Tryz.prog) 9 205 5 s Tryz.underlying9 Tryz.underlying205 Tryz.underlying5
  have Fin : Hid (isN s.data.toList = (decide (1 ≤ s.data.toList.length) && decide (s.data.toList.length ≤ 32) && s.data.toList.all nameB)) := rfl
  rw [bsize] at Fin
  go_enter Tryz.func104, Tryz.ntmps104
  go_wp2
  go_loopw [8] (fun i wr => ∃ k : Nat, k ≤ s.size ∧ i = .int .i64 k ∧ (s.data.toList.take k).all nameB = true ∧ Below w.heap.size w wr ∧ (∀ j (h : j < s.size), wr.cell? ⟨w.heap.size, j, none⟩ = some (.int .u8 ((s[j]).toNat : Int)))) (fun i _ => s.size - (intOf i).toNat)
  case atStart => 
    refine ⟨0, Nat.zero_le _, rfl, rfl, ((Below.refl _ _).alloc (Nat.le_refl _) _).drew, fun j hj => ?_⟩
    exact (World.cell?_alloc_mark w _ _ _ j).trans (hC w j hj)
  case round =>
    obtain ⟨k, hk, rfl, hal, hb, hcl⟩ := hrel
    by_cases hlt : k < s.size
    · have hcx := hcl k hlt
      have hu := (s[k]).toNat_lt
      have hts := take_snoc s k hlt
      have hmem : s[k] ∈ s.data.toList := by
        have : s.data.toList[k]'(by rw [bsize]; exact hlt) = s[k] := rfl
        rw [← this]; exact List.getElem_mem _
      have Hcl := Lib.hid hcl
      have Hb := Lib.hid hb
      have Hal := Lib.hid hal
      rcases nameB_cases s[k] with ⟨hn, h⟩ | ⟨hn, h9, h⟩
      · have Hnx : Hid ((s.data.toList.take (k + 1)).all nameB = true) := Lib.hid (by rw [hts, List.all_append, Hal.out]; simp [hn])
        clear hcl hC hb hal hts hmem hn
        generalize (s[k]).toNat = z at *
        rcases h with rfl | h | h
        all_goals
          have h9 : True ∨ True := .inl trivial
          go_wp2
          all_goals first
            | (go_roundw
               case rel => exact ⟨k + 1, by omega, by go_num, Hnx.out, Hb.out, Hcl.out⟩
               case measure => simp [intOf]; omega)
            | (exfalso; simp only [bne_iff_ne, ne_eq, bne_eq_false_iff_eq, decide_eq_true_eq] at *; omega)
      · have Fin2 : Hid (isN s.data.toList = false) := Lib.hid (by
          rw [Fin.out]
          have : s.data.toList.all nameB = false := List.all_eq_false.2 ⟨_, hmem, by rw [hn]; decide⟩
          rw [this, Bool.and_false])
        clear hcl hC hb hal hts hmem hn
        generalize (s[k]).toNat = z at *
        have h9' : ((z : Int) != 95) = true := by rw [bne_iff_ne]; omega
        rcases h with h | h | h
        all_goals
          go_wp2
          go_ret
          exact ⟨by rw [Fin2.out]; rfl, Hb.out⟩
    · obtain rfl : k = s.size := by omega
      have htk : s.data.toList.take s.size = s.data.toList := List.take_of_length_le (Nat.le_of_eq (bsize s))
      rw [htk] at hal
      have Fin2 : Hid (isN s.data.toList = (decide (1 ≤ s.size) && decide (s.size ≤ 32))) := Lib.hid (by rw [Fin.out, hal, Bool.and_true])
      have Hb := Lib.hid hb
      clear hcl hC hb hal htk
      by_cases h1 : 1 ≤ s.size
      · have h1' : (1 : Int) ≤ (s.size : Int) := by omega
        rw [decide_eq_true h1, Bool.true_and] at Fin2
        go_wp2
        go_ret
        exact ⟨by rw [Fin2.out]; simp; omega, Hb.out⟩
      · have h1' : (s.size : Int) < 1 := by omega
        rw [decide_eq_false h1, Bool.false_and] at Fin2
        go_wp2
        go_ret
        exact ⟨by rw [Fin2.out]; rfl, Hb.out⟩
theorem isName_any (s : ByteArray) (w : World) (hs : s.size ≤ 1048576) : Calls Tryz.prog 104 #[.string s] w fun e w' => e = .returned (.bool (isN s.data.toList)) ∧ Below w.heap.size w w' :=
  isName_anyB s w (by omega)
end Go.Proofs.YtlfpfkallgkjdaaGreat.Tk
end

section
/- strings.Cut at one byte, strings.Contains of one byte: the walks. -/
namespace Go.Proofs.YtlfpfkallgkjdaaGreat.Tk
open Go.RowKit Go.Proofs.YtlfpfkallgkjdaaGreat.Ut
set_option maxRecDepth 20000

/-- Where a byte stands first, or the text's length. -/
def atC (c : UInt8) (l : List UInt8) : Nat := l.findIdx (· == c)
theorem index_c (c : UInt8) (l : List UInt8) : Lib.indexByte l c = if atC c l < l.length then ((atC c l : Nat) : Int) else -1 := by
  unfold atC
  induction l with
  | nil => rfl
  | cons x l ih =>
    rw [Lib.indexByte, List.findIdx_cons]
    by_cases hx : (x == c) = true
    · rw [hx]; simp
    · have hx' : (x == c) = false := by simpa using hx
      rw [hx', ih]
      simp only [Bool.false_eq_true, if_false, cond_false, List.length_cons]
      generalize l.findIdx (fun x => x == c) = n
      by_cases h : n < l.length
      · have h' : n + 1 < l.length + 1 := by omega
        rw [if_pos h, if_pos h', if_neg (by simp)]
        simp
      · have h' : ¬ n + 1 < l.length + 1 := by omega
        rw [if_neg h, if_neg h']
        simp
def oneS (c : UInt8) : ByteArray := ⟨#[c]⟩
theorem index_one (c : UInt8) (s : ByteArray) (w : World) : Calls Tryz.prog 199 #[.string s, .string (oneS c)] w fun e w' => e = .returned (.int .i64 (if atC c s.data.toList < s.size then ((atC c s.data.toList : Nat) : Int) else -1)) ∧ w = w' :=
  (Tryz.stringslite_Index_one s c w).mono fun _ _ ⟨he, hw⟩ => ⟨by rw [he, index_c, bsize], hw.symm⟩
/-- Before the first one; behind it. -/
def befC (c : UInt8) (s : ByteArray) : ByteArray := s.extract 0 (atC c s.data.toList)
def behC (c : UInt8) (s : ByteArray) : ByteArray := s.extract (atC c s.data.toList + 1) s.size
theorem befC_data (c : UInt8) (s : ByteArray) : (befC c s).data.toList = s.data.toList.take (atC c s.data.toList) := by unfold befC; rw [Lib.extract_data]; simp
theorem behC_data (c : UInt8) (s : ByteArray) : (behC c s).data.toList = s.data.toList.drop (atC c s.data.toList + 1) := by
  unfold behC; rw [Lib.extract_data, List.take_of_length_le (by rw [List.length_drop, bsize]; omega)]
theorem befC_size (c : UInt8) (s : ByteArray) : (befC c s).size ≤ s.size := by unfold befC; rw [ByteArray.size_extract]; omega
theorem behC_size (c : UInt8) (s : ByteArray) : (behC c s).size ≤ s.size := by unfold behC; rw [ByteArray.size_extract]; omega

set_option maxHeartbeats 400000 in
theorem lcutC_yes (c : UInt8) (s : ByteArray) (w : World) (hs : s.size ≤ 1048576) (h : atC c s.data.toList < s.size) : Calls Tryz.prog 196 #[.string s, .string (oneS c)] w fun e w' => e = .returned (.tuple #[.string (befC c s), .string (behC c s), .bool true]) ∧ Below w.heap.size w w' := by
  have cc := index_one c s w
  rw [if_pos h] at cc
  have F1 : Hid (befC c s = s.extract 0 (atC c s.data.toList)) := rfl
  have F2 : Hid (behC c s = s.extract (atC c s.data.toList + 1) s.size) := rfl
  have hcs : (oneS c).size = 1 := rfl
  generalize atC c s.data.toList = k at *
  generalize befC c s = x at *
  generalize behC c s = y at *
  generalize oneS c = sep at *
  have h0 : (0 : Int) ≤ (k : Int) := by omega
  have h1 : (k : Int) ≤ (s.size : Int) := by omega
  have h2 : IntKind.i64.wrap ((k : Int) + 1) = (k : Int) + 1 := IntWalk.i64_in _ (by omega)
  have h3 : (0 : Int) ≤ (k : Int) + 1 := by omega
  have h4 : (k : Int) + 1 ≤ (s.size : Int) := by omega
  go_enter Tryz.func196, Tryz.ntmps196
  go_wp2_with (go_at_call 199; refine cc.mono ?_; rintro e w' ⟨rfl, rfl⟩)
  go_region
  go_wp2
  go_ret3
  rw [F1.out, F2.out]
  exact ⟨rfl, (Below.refl _ _).drew⟩
theorem lcutC_no (c : UInt8) (s : ByteArray) (w : World) (h : ¬ atC c s.data.toList < s.size) : Calls Tryz.prog 196 #[.string s, .string (oneS c)] w fun e w' => e = .returned (.tuple #[.string s, .string ByteArray.empty, .bool false]) ∧ Below w.heap.size w w' := by
  have cc := index_one c s w
  rw [if_neg h] at cc
  clear h
  generalize oneS c = sep at *
  go_enter Tryz.func196, Tryz.ntmps196
  go_wp2_with (go_at_call 199; refine cc.mono ?_; rintro e w' ⟨rfl, rfl⟩)
  go_ret3
  exact ⟨rfl, Below.refl _ _⟩
theorem cutC_yes (c : UInt8) (s : ByteArray) (w : World) (hs : s.size ≤ 1048576) (h : atC c s.data.toList < s.size) : Calls Tryz.prog 187 #[.string s, .string (oneS c)] w fun e w' => e = .returned (.tuple #[.string (befC c s), .string (behC c s), .bool true]) ∧ Below w.heap.size w w' := by
  have cc := lcutC_yes c s w hs h
  generalize oneS c = sep at *
  go_enter Tryz.func187, Tryz.ntmps187
  go_wp2_with (go_at_call 196; refine cc.mono ?_; rintro e w2 ⟨rfl, hb2⟩)
  go_ret3
  exact ⟨rfl, hb2⟩
theorem cutC_no (c : UInt8) (s : ByteArray) (w : World) (h : ¬ atC c s.data.toList < s.size) : Calls Tryz.prog 187 #[.string s, .string (oneS c)] w fun e w' => e = .returned (.tuple #[.string s, .string ByteArray.empty, .bool false]) ∧ Below w.heap.size w w' := by
  have cc := lcutC_no c s w h
  generalize oneS c = sep at *
  go_enter Tryz.func187, Tryz.ntmps187
  go_wp2_with (go_at_call 196; refine cc.mono ?_; rintro e w2 ⟨rfl, hb2⟩)
  go_ret3
  exact ⟨rfl, hb2⟩
/-- Before the first one, or all. -/
def headC (c : UInt8) (s : ByteArray) : ByteArray := if atC c s.data.toList < s.size then befC c s else s
theorem headC_data (c : UInt8) (s : ByteArray) : (headC c s).data.toList = s.data.toList.take (atC c s.data.toList) := by
  unfold headC
  split
  · exact befC_data c s
  · rw [List.take_of_length_le (by rw [bsize]; omega)]
/-- Some three results, of which the first alone is wanted. -/
def CutHead (c : UInt8) (s : ByteArray) (w : World) (e : Ending) (w' : World) : Prop := ∃ (y : ByteArray) (b : Bool), e = .returned (.tuple #[.string (headC c s), .string y, .bool b]) ∧ Below w.heap.size w w'
theorem cutC_head (c : UInt8) (s : ByteArray) (w : World) (hs : s.size ≤ 1048576) : Calls Tryz.prog 187 #[.string s, .string (oneS c)] w (CutHead c s w) := by
  by_cases h : atC c s.data.toList < s.size
  · refine (cutC_yes c s w hs h).mono fun e w' ⟨he, hb⟩ => ⟨behC c s, true, ?_, hb⟩
    rw [he]; unfold headC; rw [if_pos h]
  · refine (cutC_no c s w h).mono fun e w' ⟨he, hb⟩ => ⟨ByteArray.empty, false, ?_, hb⟩
    rw [he]; unfold headC; rw [if_neg h]
/-- Does a byte stand in a text? -/
def hasC (c : UInt8) (s : ByteArray) : Bool := decide (atC c s.data.toList < s.size)
theorem containsC (c : UInt8) (s : ByteArray) (w : World) : Calls Tryz.prog 188 #[.string s, .string (oneS c)] w fun e w' => e = .returned (.bool (hasC c s)) ∧ w = w' :=
  (Tryz.strings_Contains_one s c w).mono fun _ _ ⟨he, hw⟩ => ⟨by
    rw [he, index_c, bsize]
    unfold hasC
    congr 2
    split
    · rename_i h
      rw [decide_eq_true h]; simp
    · rename_i h
      rw [decide_eq_false h]; rfl, hw.symm⟩
end Go.Proofs.YtlfpfkallgkjdaaGreat.Tk
end

section
/- token.Term, Split; strings.Cut at a colon: the walks. -/
namespace Go.Proofs.YtlfpfkallgkjdaaGreat.Tk
open Go.RowKit Go.Proofs.YtlfpfkallgkjdaaGreat.Ut
set_option maxRecDepth 20000

theorem colon_index (s : ByteArray) : Lib.indexByte s.data.toList 58 = if colonAt s.data.toList < s.size then ((colonAt s.data.toList : Nat) : Int) else -1 := by
  rw [← bsize]
  unfold colonAt
  generalize s.data.toList = l
  induction l with
  | nil => rfl
  | cons x l ih =>
    rw [Lib.indexByte, List.findIdx_cons]
    by_cases hx : (x == 58) = true
    · rw [hx]; simp
    · have hx' : (x == 58) = false := by simpa using hx
      rw [hx', ih]
      simp only [Bool.false_eq_true, if_false, cond_false, List.length_cons]
      generalize l.findIdx (fun x => x == 58) = n
      by_cases h : n < l.length
      · have h' : n + 1 < l.length + 1 := by omega
        rw [if_pos h, if_pos h', if_neg (by simp)]
        simp
      · have h' : ¬ n + 1 < l.length + 1 := by omega
        rw [if_neg h, if_neg h']
        simp

def colonS : ByteArray := ⟨#[58]⟩
theorem index_colon (s : ByteArray) (w : World) : Calls Tryz.prog 199 #[.string s, .string colonS] w fun e w' => e = .returned (.int .i64 (if colonAt s.data.toList < s.size then ((colonAt s.data.toList : Nat) : Int) else -1)) ∧ w = w' :=
  (Tryz.stringslite_Index_one s 58 w).mono fun _ _ ⟨he, hw⟩ => ⟨by rw [he, colon_index], hw.symm⟩
/-- Before the first colon; behind it. -/
def bef (s : ByteArray) : ByteArray := s.extract 0 (colonAt s.data.toList)
def beh (s : ByteArray) : ByteArray := s.extract (colonAt s.data.toList + 1) s.size
theorem bef_data (s : ByteArray) : (bef s).data.toList = s.data.toList.take (colonAt s.data.toList) := by unfold bef; rw [Lib.extract_data]; simp
theorem beh_data (s : ByteArray) : (beh s).data.toList = s.data.toList.drop (colonAt s.data.toList + 1) := by
  unfold beh; rw [Lib.extract_data, List.take_of_length_le (by rw [List.length_drop, bsize]; omega)]
theorem bef_size (s : ByteArray) : (bef s).size ≤ s.size := by unfold bef; rw [ByteArray.size_extract]; omega
theorem beh_size (s : ByteArray) : (beh s).size ≤ s.size := by unfold beh; rw [ByteArray.size_extract]; omega

set_option maxHeartbeats 400000 in
theorem lcut_yes (s : ByteArray) (w : World) (hs : s.size ≤ 1048576) (h : colonAt s.data.toList < s.size) : Calls Tryz.prog 196 #[.string s, .string colonS] w fun e w' => e = .returned (.tuple #[.string (bef s), .string (beh s), .bool true]) ∧ Below w.heap.size w w' := by
  have c := index_colon s w
  rw [if_pos h] at c
  have F1 : Hid (bef s = s.extract 0 (colonAt s.data.toList)) := rfl
  have F2 : Hid (beh s = s.extract (colonAt s.data.toList + 1) s.size) := rfl
  have hcs : colonS.size = 1 := rfl
  generalize colonAt s.data.toList = k at *
  generalize bef s = x at *
  generalize beh s = y at *
  have h0 : (0 : Int) ≤ (k : Int) := by omega
  have h1 : (k : Int) ≤ (s.size : Int) := by omega
  have h2 : IntKind.i64.wrap ((k : Int) + 1) = (k : Int) + 1 := IntWalk.i64_in _ (by omega)
  have h3 : (0 : Int) ≤ (k : Int) + 1 := by omega
  have h4 : (k : Int) + 1 ≤ (s.size : Int) := by omega
  go_enter Tryz.func196, Tryz.ntmps196
  go_wp2_with (go_at_call 199; refine c.mono ?_; rintro e w' ⟨rfl, rfl⟩)
  go_region
  go_wp2
  go_ret3
  rw [F1.out, F2.out]
  exact ⟨rfl, (Below.refl _ _).drew⟩
theorem lcut_no (s : ByteArray) (w : World) (h : ¬ colonAt s.data.toList < s.size) : Calls Tryz.prog 196 #[.string s, .string colonS] w fun e w' => e = .returned (.tuple #[.string s, .string ByteArray.empty, .bool false]) ∧ Below w.heap.size w w' := by
  have c := index_colon s w
  rw [if_neg h] at c
  clear h
  go_enter Tryz.func196, Tryz.ntmps196
  go_wp2_with (go_at_call 199; refine c.mono ?_; rintro e w' ⟨rfl, rfl⟩)
  go_ret3
  exact ⟨rfl, Below.refl _ _⟩
theorem cut_yes (s : ByteArray) (w : World) (hs : s.size ≤ 1048576) (h : colonAt s.data.toList < s.size) : Calls Tryz.prog 187 #[.string s, .string colonS] w fun e w' => e = .returned (.tuple #[.string (bef s), .string (beh s), .bool true]) ∧ Below w.heap.size w w' := by
  have c := lcut_yes s w hs h
  go_enter Tryz.func187, Tryz.ntmps187
  go_wp2_with (go_at_call 196; refine c.mono ?_; rintro e w2 ⟨rfl, hb2⟩)
  go_ret3
  exact ⟨rfl, hb2⟩
theorem cut_no (s : ByteArray) (w : World) (h : ¬ colonAt s.data.toList < s.size) : Calls Tryz.prog 187 #[.string s, .string colonS] w fun e w' => e = .returned (.tuple #[.string s, .string ByteArray.empty, .bool false]) ∧ Below w.heap.size w w' := by
  have c := lcut_no s w h
  go_enter Tryz.func187, Tryz.ntmps187
  go_wp2_with (go_at_call 196; refine c.mono ?_; rintro e w2 ⟨rfl, hb2⟩)
  go_ret3
  exact ⟨rfl, hb2⟩

/-- A term of two texts, or none. -/
def termV (a b : ByteArray) : ByteArray := str (term a.data.toList b.data.toList)
def termOk (a b : ByteArray) : Bool := isN a.data.toList && isW b.data.toList
theorem termV_eq (a b : ByteArray) : a ++ colonS ++ b = termV a b := by
  have h : ∀ x y : ByteArray, (x ++ y).data.toList = x.data.toList ++ y.data.toList := fun x y => by simp
  rw [← of_str (a ++ colonS ++ b)]
  unfold termV term
  rw [h, h]
  simp [colonS]
set_option maxHeartbeats 400000 in
theorem term_noB (a b : ByteArray) (w : World) (ha : a.size ≤ 140737488351232) (hb : b.size ≤ 140737488351232) (h : termOk a b = false) : Calls Tryz.prog 69 #[.string a, .string b] w fun e w' => e = .returned (.tuple #[.string ByteArray.empty, .int .i64 1]) ∧ Below w.heap.size w w' := by
  have c1 := isName_anyB a w ha
  by_cases hn : isN a.data.toList = true
  · have hw : isW b.data.toList = false := by unfold termOk at h; rw [hn, Bool.true_and] at h; exact h
    have c2 := fun wx => isWord_anyB b wx hb
    rw [hn] at c1
    rw [hw] at c2
    have C2 := Lib.hid c2
    clear hn hw c2 h
    go_enter Tryz.func69, Tryz.ntmps69
    go_wp2_with (first | (go_at_call 104; refine c1.mono ?_; rintro e w2 ⟨rfl, hb2⟩) | (go_at_call 105; refine (C2.out _).mono ?_; rintro e w3 ⟨rfl, hb3⟩))
    go_ret2
    exact ⟨rfl, hb2.trans (hb3.mono hb2.size)⟩
  · have hn' : isN a.data.toList = false := by simpa using hn
    rw [hn'] at c1
    clear hn hn' h
    go_enter Tryz.func69, Tryz.ntmps69
    go_wp2_with (go_at_call 104; refine c1.mono ?_; rintro e w2 ⟨rfl, hb2⟩)
    go_ret2
    exact ⟨rfl, hb2⟩
theorem term_no (a b : ByteArray) (w : World) (ha : a.size ≤ 1048576) (hb : b.size ≤ 1048576) (h : termOk a b = false) : Calls Tryz.prog 69 #[.string a, .string b] w fun e w' => e = .returned (.tuple #[.string ByteArray.empty, .int .i64 1]) ∧ Below w.heap.size w w' :=
  term_noB a b w (by omega) (by omega) h
set_option maxHeartbeats 400000 in
theorem term_yesB (a b : ByteArray) (w : World) (ha : a.size ≤ 140737488351232) (hb : b.size ≤ 140737488351232) (h : termOk a b = true) : Calls Tryz.prog 69 #[.string a, .string b] w fun e w' => e = .returned (.tuple #[.string (termV a b), .int .i64 0]) ∧ Below w.heap.size w w' := by
  unfold termOk at h
  rw [Bool.and_eq_true] at h
  have c1 := isName_anyB a w ha
  have c2 := fun wx => isWord_anyB b wx hb
  rw [h.1] at c1
  rw [h.2] at c2
  have C2 := Lib.hid c2
  have F : Hid (a ++ colonS ++ b = termV a b) := Lib.hid (termV_eq a b)
  clear h c2
  generalize termV a b = t at *
  go_enter Tryz.func69, Tryz.ntmps69
  go_wp2_with (first | (go_at_call 104; refine c1.mono ?_; rintro e w2 ⟨rfl, hb2⟩) | (go_at_call 105; refine (C2.out _).mono ?_; rintro e w3 ⟨rfl, hb3⟩))
  go_ret2
  rw [← F.out]
  exact ⟨rfl, hb2.trans (hb3.mono hb2.size)⟩

theorem term_yes (a b : ByteArray) (w : World) (ha : a.size ≤ 1048576) (hb : b.size ≤ 1048576) (h : termOk a b = true) : Calls Tryz.prog 69 #[.string a, .string b] w fun e w' => e = .returned (.tuple #[.string (termV a b), .int .i64 0]) ∧ Below w.heap.size w w' :=
  term_yesB a b w (by omega) (by omega) h
/-- What Split hands back. -/
def splitV (s : ByteArray) : Value := if splitOk s.data.toList = true then .tuple #[.string (bef s), .string (beh s), .bool true] else .tuple #[.string ByteArray.empty, .string ByteArray.empty, .bool false]
end Go.Proofs.YtlfpfkallgkjdaaGreat.Tk
end

section
/- What a query needs. No program. -/
namespace Go.Proofs.YtlfpfkallgkjdaaGreat.Qy
open Go.RowKit Go.Proofs.YtlfpfkallgkjdaaGreat

/-- One more, once. -/
def add1 (l : List ByteArray) (t : ByteArray) : List ByteArray := if Lib.containsS l t = true then l else l ++ [t]
def addL (l ts : List ByteArray) : List ByteArray := ts.foldl add1 l
theorem addL_nil (l : List ByteArray) : addL l [] = l := rfl
theorem addL_one (l : List ByteArray) (t : ByteArray) : addL l [t] = add1 l t := rfl
theorem addL_append (l a b : List ByteArray) : addL l (a ++ b) = addL (addL l a) b := List.foldl_append
theorem addL_take (l ts : List ByteArray) (k : Nat) (h : k < ts.length) : addL l (ts.take (k + 1)) = add1 (addL l (ts.take k)) ts[k] := by
  rw [List.take_succ_eq_append_getElem h, addL_append]; rfl
theorem add1_len (l : List ByteArray) (t : ByteArray) : (add1 l t).length ≤ l.length + 1 ∧ l.length ≤ (add1 l t).length := by
  unfold add1; split <;> simp
theorem addL_len (ts : List ByteArray) : ∀ l, (addL l ts).length ≤ l.length + ts.length := by
  induction ts with
  | nil => intro l; simp [addL]
  | cons t r ih =>
    intro l
    have h1 := ih (add1 l t)
    have h2 := (add1_len l t).1
    have h3 : addL l (t :: r) = addL (add1 l t) r := rfl
    rw [h3, List.length_cons]
    omega
theorem mem_add1 (l : List ByteArray) (t x : ByteArray) : x ∈ add1 l t ↔ x ∈ l ∨ x = t := by
  unfold add1
  by_cases h : Lib.containsS l t = true
  · rw [if_pos h]
    have := (Lib.containsS_iff l t).1 h
    constructor
    · exact .inl
    · rintro (h | rfl) <;> assumption
  · rw [if_neg h]; simp
theorem mem_addL (ts : List ByteArray) : ∀ l x, x ∈ addL l ts ↔ x ∈ l ∨ x ∈ ts := by
  induction ts with
  | nil => intro l x; simp [addL]
  | cons t r ih =>
    intro l x
    have h3 : addL l (t :: r) = addL (add1 l t) r := rfl
    rw [h3, ih, mem_add1, List.mem_cons, or_assoc]

def termL (nm w : ByteArray) : List ByteArray := if Tk.termOk nm w = true then [Tk.termV nm w] else []
def termsL (nm : ByteArray) (ws : List ByteArray) : List ByteArray := ws.flatMap (termL nm)
theorem termsL_take (nm : ByteArray) (ws : List ByteArray) (k : Nat) (h : k < ws.length) : termsL nm (ws.take (k + 1)) = termsL nm (ws.take k) ++ termL nm ws[k] := by
  unfold termsL
  rw [List.take_succ_eq_append_getElem h, List.flatMap_append]
  simp
theorem termL_len (nm w : ByteArray) : (termL nm w).length ≤ 1 := by unfold termL; split <;> simp
theorem termsL_len (nm : ByteArray) : ∀ ws, (termsL nm ws).length ≤ ws.length
  | [] => by simp [termsL]
  | w :: r => by
    have h := termsL_len nm r
    have h1 := termL_len nm w
    have h2 : termsL nm (w :: r) = termL nm w ++ termsL nm r := by simp [termsL]
    rw [h2, List.length_append, List.length_cons]
    omega
mutual
/-- What a query needs. -/
def needs : Q → List ByteArray
  | .mk k nm ws l => if k = 4 ∨ (k = 2 ∧ ws.length = 1) then addL [] (termsL nm ws) else if k = 5 then needsIn [] l else []
def needsIn (acc : List ByteArray) : List Q → List ByteArray
  | [] => acc
  | q :: l => needsIn (addL acc (needs q)) l
end
theorem needsIn_eq : ∀ (l : List Q) acc, needsIn acc l = l.foldl (fun a q => addL a (needs q)) acc
  | [], acc => by simp [needsIn]
  | q :: l, acc => by rw [needsIn, needsIn_eq l]; rfl
theorem needsIn_take (l : List Q) (acc : List ByteArray) (k : Nat) (h : k < l.length) : needsIn acc (l.take (k + 1)) = addL (needsIn acc (l.take k)) (needs l[k]) := by
  rw [needsIn_eq, needsIn_eq, List.take_succ_eq_append_getElem h, List.foldl_append]; rfl
theorem needs_eq (k : Int) (nm : ByteArray) (ws : List ByteArray) (l : List Q) : needs (.mk k nm ws l) = if k = 4 ∨ (k = 2 ∧ ws.length = 1) then addL [] (termsL nm ws) else if k = 5 then needsIn [] l else [] := by rw [needs]
mutual
/-- How large a query is. -/
def wq : Q → Nat
  | .mk _ _ ws l => 1 + ws.length + wqs l
def wqs : List Q → Nat
  | [] => 0
  | q :: l => wq q + wqs l
end
theorem wq_eq (k : Int) (nm : ByteArray) (ws : List ByteArray) (l : List Q) : wq (.mk k nm ws l) = 1 + ws.length + wqs l := by rw [wq]
theorem wqs_append : ∀ a b, wqs (a ++ b) = wqs a + wqs b
  | [], b => by simp [wqs]
  | q :: a, b => by rw [List.cons_append, wqs, wqs, wqs_append a b]; omega
theorem wqs_take (l : List Q) (k : Nat) (h : k < l.length) : wqs (l.take (k + 1)) = wqs (l.take k) + wq l[k] := by
  rw [List.take_succ_eq_append_getElem h, wqs_append]
  simp [wqs]
theorem wqs_take_le (l : List Q) (k : Nat) : wqs (l.take k) ≤ wqs l := by
  have h := wqs_append (l.take k) (l.drop k)
  rw [List.take_append_drop] at h
  omega
theorem wqs_mem : ∀ (l : List Q) (q : Q), q ∈ l → wq q ≤ wqs l
  | x :: l, q, h => by
    rw [wqs]
    rcases List.mem_cons.1 h with rfl | h
    · omega
    · have := wqs_mem l q h
      omega
theorem wqs_pos : ∀ (l : List Q), l.length ≤ wqs l
  | [] => by simp [wqs]
  | .mk k nm ws r :: l => by
    have := wqs_pos l
    rw [wqs, wq, List.length_cons]
    omega
/-- Not more terms than it is large. -/
theorem needsIn_len : ∀ (l : List Q) (acc : List ByteArray), (∀ q ∈ l, (needs q).length ≤ wq q) → (needsIn acc l).length ≤ acc.length + wqs l
  | [], acc, _ => by simp [needsIn, wqs]
  | q :: l, acc, h => by
    have h1 := needsIn_len l (addL acc (needs q)) (fun x hx => h x (List.mem_cons_of_mem _ hx))
    have h2 := addL_len (needs q) acc
    have h3 := h q (by simp)
    rw [needsIn, wqs]
    omega
theorem needs_len : ∀ q, (needs q).length ≤ wq q := by
  refine Q.ind (fun k nm ws l ih => ?_)
  rw [needs_eq, wq_eq]
  split
  · have h1 := addL_len (termsL nm ws) []
    have h2 := termsL_len nm ws
    simp only [List.length_nil] at h1
    omega
  · split
    · have h1 := needsIn_len l [] ih
      simp only [List.length_nil] at h1
      omega
    · simp
end Go.Proofs.YtlfpfkallgkjdaaGreat.Qy
end

section
/- Where a query matches, each term that it needs is there: the plain law. -/
namespace Go.Proofs.YtlfpfkallgkjdaaGreat.Qy
open Go.RowKit Go.Proofs.YtlfpfkallgkjdaaGreat Go.Proofs.YtlfpfkallgkjdaaGreat.Ut Go.Proofs.YtlfpfkallgkjdaaGreat.Tk

theorem phr_pos (T : List (List UInt8)) (ws : List ByteArray) : 0 < (phr T ws).length ↔ ws ≠ [] ∧ ∃ i, i < T.length ∧ stands T ws i = true := by
  unfold phr
  by_cases h : ws = []
  · rw [if_pos h]; simp [h]
  · rw [if_neg h]
    unfold phrTo
    rw [List.length_pos_iff_exists_mem]
    simp [List.mem_filter, h]
theorem stands_get (T : List (List UInt8)) (ws : List ByteArray) (i j : Nat) (h : stands T ws i = true) (hj : j < ws.length) : T[i + j]? = some ws[j].data.toList := by
  unfold stands at h
  rw [beq_iff_eq] at h
  have e := congrArg (fun l => l[j]?) h
  simp only [List.getElem?_take, if_pos hj, List.getElem?_drop, List.getElem?_map, List.getElem?_eq_getElem hj, Option.map_some] at e
  exact e
theorem stands_one (T : List (List UInt8)) (b : ByteArray) (i : Nat) (h : T[i]? = some b.data.toList) : stands T [b] i = true := by
  obtain ⟨hi, e⟩ := List.getElem?_eq_some_iff.1 h
  unfold stands
  rw [beq_iff_eq]
  have := standsTo_succ T [b] i 0 (by omega) (by simp)
  rw [standsTo_zero] at this
  simp only [Nat.add_zero, List.getElem_cons_zero, Bool.true_and, e, beq_self_eq_true] at this
  unfold standsTo at this
  rw [beq_iff_eq] at this
  simpa using this
theorem phr_one {T : List (List UInt8)} {ws : List ByteArray} {b : ByteArray} (h : 0 < (phr T ws).length) (hb : b ∈ ws) : 0 < (phr T [b]).length := by
  obtain ⟨_, i, hi, hs⟩ := (phr_pos T ws).1 h
  obtain ⟨j, hj, rfl⟩ := List.getElem_of_mem hb
  have hg := stands_get T ws i j hs hj
  exact (phr_pos T _).2 ⟨by simp, i + j, (List.getElem?_eq_some_iff.1 hg).1, stands_one T _ _ hg⟩
/-- What a term's query matches. -/
theorem leaf_one {k : Int} {nm b : ByteArray} {ws : List ByteArray} {fs : List (ByteArray × ByteArray)} (hk : k = 4 ∨ k = 2) (h : leafB k nm ws fs = true) (hb : b ∈ ws) : leafB 2 nm [b] fs = true := by
  unfold leafB at *
  rw [List.any_eq_true] at *
  obtain ⟨f, hf, h⟩ := h
  rw [Bool.and_eq_true] at h
  refine ⟨f, hf, ?_⟩
  rw [Bool.and_eq_true]
  refine ⟨h.1, ?_⟩
  have hp : 0 < (phr (Tk.words f.2.data.toList) ws).length := by
    have h2 := h.2
    unfold leafT at h2
    rcases hk with rfl | rfl
    · simpa using h2
    · simp at h2; exact h2.2
  have := phr_one hp hb
  unfold leafT
  simp [this]
theorem mem_needsIn : ∀ (l : List Q) acc x, x ∈ needsIn acc l ↔ x ∈ acc ∨ ∃ q ∈ l, x ∈ needs q
  | [], acc, x => by simp [needsIn]
  | q :: l, acc, x => by
    rw [needsIn, mem_needsIn l, mem_addL]
    simp [or_assoc]
/-- **Where a query matches, each term that it needs is there.** -/
theorem needs_hit (fs : List (ByteArray × ByteArray)) : ∀ q, matchB fs q = true → ∀ t ∈ needs q, ∃ a b, termOk a b = true ∧ t = termV a b ∧ matchB fs (.mk 2 a [b] []) = true := by
  refine Q.ind (fun k nm ws l ih hm t ht => ?_)
  rw [matchB_eq] at hm
  rw [needs_eq] at ht
  by_cases h : k = 4 ∨ (k = 2 ∧ ws.length = 1)
  · rw [if_pos h] at ht
    have h1 : k ≠ 1 := by omega
    rw [if_neg h1, if_pos (by omega)] at hm
    rw [mem_addL] at ht
    rcases ht with ht | ht
    · cases ht
    · unfold termsL at ht
      obtain ⟨b, hb, ht⟩ := List.mem_flatMap.1 ht
      unfold termL at ht
      by_cases ho : termOk nm b = true
      · rw [if_pos ho] at ht
        refine ⟨nm, b, ho, by simpa using ht, ?_⟩
        rw [matchB_eq]
        have := leaf_one (by omega) hm hb
        simp [this]
      · rw [if_neg ho] at ht; cases ht
  · rw [if_neg h] at ht
    by_cases h5 : k = 5
    · subst h5
      rw [if_pos rfl, mem_needsIn] at ht
      rcases ht with ht | ⟨q, hq, ht⟩
      · cases ht
      · refine ih q hq ?_ t ht
        simp at hm
        exact hm q hq
    · rw [if_neg h5] at ht; cases ht
/-- A term is short. -/
theorem termV_size (a b : ByteArray) (h : termOk a b = true) : (termV a b).size ≤ 65 ∧ b.size ≤ 32 := by
  unfold termOk at h
  rw [Bool.and_eq_true] at h
  have h1 : a.data.toList.length ≤ 32 := by
    have := h.1
    unfold isN at this
    simp only [Bool.and_eq_true, decide_eq_true_eq] at this
    exact this.1.2
  have h2 : b.data.toList.length ≤ 32 := by
    refine Classical.byContradiction fun hc => ?_
    have := isW_len _ (by omega : 32 < b.data.toList.length)
    rw [h.2] at this
    cases this
  refine ⟨?_, by rw [bsize] at h2; exact h2⟩
  unfold termV
  rw [str_size]
  unfold term
  simp only [List.length_append, List.length_cons]
  omega
end Go.Proofs.YtlfpfkallgkjdaaGreat.Qy
end

section
/- What an event is near: plain. (No program in sight.) -/
namespace Go.Proofs.YtlfpfkallgkjdaaGreat.Al
open Go.RowKit Go.Proofs.YtlfpfkallgkjdaaGreat Go.Proofs.YtlfpfkallgkjdaaGreat.Ut Go.Proofs.YtlfpfkallgkjdaaGreat.Tk Go.Proofs.YtlfpfkallgkjdaaGreat.Qy Go.Proofs.YtlfpfkallgkjdaaGreat.Ev
set_option linter.unusedVariables false
set_option linter.unusedSimpArgs false

/-- The terms of fields. -/
theorem based_tx (t : ByteArray) : ∀ (fs : List Fl) (b : Nat), (∃ p, (t, p) ∈ (basedL b fs).flatMap rawO) ↔ ∃ f ∈ fs, ∃ x ∈ words f.2.data.toList, t = termT f.1 x
  | [], b => by simp [basedL]
  | f :: fs, b => by
    simp only [basedL, List.flatMap_cons, List.mem_append, exists_or, based_tx t fs]
    constructor
    · rintro (⟨p, hp⟩ | ⟨g, hg, h⟩)
      · unfold rawO at hp
        obtain ⟨y, hy, e⟩ := List.mem_map.1 hp
        injection e with e1 _
        exact ⟨f, List.mem_cons_self .., y.1, List.fst_mem_of_mem_zipIdx hy, e1.symm⟩
      · exact ⟨g, List.mem_cons_of_mem _ hg, h⟩
    · rintro ⟨g, hg, x, hx, e⟩
      rcases List.mem_cons.1 hg with rfl | hg
      · left
        obtain ⟨i, hi, rfl⟩ := List.mem_iff_getElem.1 hx
        refine ⟨b + i, ?_⟩
        unfold rawO
        refine List.mem_map.2 ⟨((words g.2.data.toList)[i], b + i), ?_, by rw [e]⟩
        rw [List.mem_iff_getElem]
        exact ⟨i, by simpa using hi, by simp⟩
      · exact .inr ⟨g, hg, x, hx, e⟩
/-- Has an event a term? -/
def hasT (fs : List Fl) (t : ByteArray) : Bool := (addAll (raw fs)).any (fun x => decide (x.1 = t))
theorem hasT_mem (fs : List Fl) (t : ByteArray) : hasT fs t = true ↔ ∃ x ∈ addAll (raw fs), x.1 = t := by
  unfold hasT
  rw [List.any_eq_true]
  simp
theorem hasT_tx (fs : List Fl) (t : ByteArray) : hasT fs t = true ↔ ∃ f ∈ fs, ∃ x ∈ words f.2.data.toList, t = termT f.1 x := by
  rw [← based_tx t fs 0, hasT_mem]
  show _ ↔ ∃ p, (t, p) ∈ raw fs
  have hm := (isTm_all (raw fs)).mem
  constructor
  · rintro ⟨x, hx, rfl⟩
    obtain ⟨h1, h2⟩ := (hm x).1 hx
    obtain ⟨y, q, hq⟩ := List.exists_cons_of_ne_nil h1
    have hy : y ∈ (List.filter (fun y => decide (y.1 = x.1)) (raw fs)).map (·.2) := by rw [← h2, hq]; simp
    obtain ⟨z, hz, rfl⟩ := List.mem_map.1 hy
    obtain ⟨g1, g2⟩ := List.mem_filter.1 hz
    have g3 := of_decide_eq_true g2
    exact ⟨z.2, by rw [← g3]; exact g1⟩
  · rintro ⟨p, hp⟩
    refine ⟨(t, (List.filter (fun y => decide (y.1 = t)) (raw fs)).map (·.2)), (hm _).2 ⟨fun e => ?_, rfl⟩, rfl⟩
    have : (t, p) ∈ List.filter (fun y => decide (y.1 = t)) (raw fs) := List.mem_filter.2 ⟨hp, by simp⟩
    have h2 : p ∈ (List.filter (fun y => decide (y.1 = t)) (raw fs)).map (·.2) := List.mem_map.2 ⟨_, this, rfl⟩
    have e2 : (List.filter (fun y => decide (y.1 = t)) (raw fs)).map (·.2) = [] := e
    rw [e2] at h2
    cases h2
theorem needs_term : ∀ q, ∀ t ∈ needs q, ∃ a b, termOk a b = true ∧ t = termV a b := by
  refine Q.ind (fun k nm ws l ih t ht => ?_)
  rw [needs_eq] at ht
  split at ht
  · rw [mem_addL] at ht
    rcases ht with ht | ht
    · cases ht
    · unfold termsL at ht
      obtain ⟨b, hb, ht⟩ := List.mem_flatMap.1 ht
      unfold termL at ht
      by_cases ho : termOk nm b = true
      · rw [if_pos ho] at ht
        exact ⟨nm, b, ho, by simpa using ht⟩
      · rw [if_neg ho] at ht; cases ht
  · split at ht
    · rw [mem_needsIn] at ht
      rcases ht with ht | ⟨q, hq, ht⟩
      · cases ht
      · exact ih q hq t ht
    · cases ht
theorem needs_ne (q : Q) : ByteArray.empty ∉ needs q := fun h => by
  obtain ⟨a, b, _, e⟩ := needs_term q _ h
  have h1 := congrArg ByteArray.size e
  unfold termV at h1
  rw [str_size] at h1
  unfold term at h1
  simp at h1
theorem needs_short (q : Q) : ∀ t ∈ needs q, t.size ≤ 65 := fun t h => by
  obtain ⟨a, b, ho, e⟩ := needs_term q _ h
  rw [e]
  exact (termV_size a b ho).1
/-- **What a query matches is near it.** -/
theorem near_match (fs : List Fl) (q : Q) (h : matchB fs q = true) : (needs q).all (hasT fs) = true := by
  refine List.all_eq_true.2 (fun t ht => ?_)
  obtain ⟨a, b, ho, rfl, hm⟩ := needs_hit fs q h t ht
  rw [hasT_tx]
  rw [matchB_eq] at hm
  simp only [reduceCtorEq, if_false, if_true, true_or, show ¬ (2 : Int) = 1 by decide] at hm
  unfold leafB at hm
  obtain ⟨f, hf, h2⟩ := List.any_eq_true.1 hm
  rw [Bool.and_eq_true, beq_iff_eq] at h2
  have h3 := h2.2
  unfold leafT at h3
  simp only [show ¬ (2 : Int) = 3 by decide, if_false, if_true, Bool.and_eq_true, decide_eq_true_eq] at h3
  obtain ⟨_, i, hi, hs⟩ := (phr_pos _ _).1 h3.2
  have hg := stands_get _ [b] i 0 hs (by simp)
  simp only [Nat.add_zero, List.getElem_cons_zero] at hg
  refine ⟨f, hf, b.data.toList, List.mem_of_getElem? hg, ?_⟩
  unfold termT termV
  rw [h2.1]
end Go.Proofs.YtlfpfkallgkjdaaGreat.Al
end
