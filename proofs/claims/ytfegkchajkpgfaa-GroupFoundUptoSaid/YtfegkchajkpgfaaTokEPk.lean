/- token.Words, IsWord, IsName, Term, Split; strings.Cut at a colon: the walks. -/
import Derived.Lib.IndexLaws
import Derived.Laws.BitsAllLaws
import Derived.Test.YtfegkchajkpgfaaTokDPk
namespace Go.Proofs.Ytfegkchajkpgfaa.Tk
open Go.RowKit Go.Proofs.Ytfegkchajkpgfaa.Ut
set_option maxRecDepth 20000

theorem tl (s : ByteArray) : s.toList = s.data.toList := ByteArray.toList_eq s
theorem tokC_get : ∀ (l : List (List UInt8 × Int)) (k : Nat) (h : k < l.length), (tokC l)[k * 2]? = some (.string (str l[k].1)) ∧ (tokC l)[k * 2 + 1]? = some (.int .i64 l[k].2)
  | x :: l, 0, _ => ⟨rfl, rfl⟩
  | x :: l, k + 1, h => by
    have ih := tokC_get l k (by simpa using h)
    have e1 : (k + 1) * 2 = k * 2 + 2 := by omega
    have e2 : (k + 1) * 2 + 1 = (k * 2 + 1) + 2 := by omega
    rw [e2, e1]
    exact ih
theorem placed_get (ws : List (List UInt8)) (k : Nat) (h : k < ws.length) : (placed ws)[k]'(by rw [placed_len]; exact h) = (ws[k], (k : Int)) := by
  simp [placed]
/-- The k-th token of a row that reads so. -/
theorem toks_at {w : World} {B n : Nat} {A : Option Addr} {ws : List (List UInt8)} (h : Reads w B 2 A n (tokC (placed ws))) (hn : ws.length = n) {k : Nat} (hk : k < ws.length) :
    ∃ b o, A = some ⟨b, o, none⟩ ∧ b < B ∧ w.cell? ⟨b, o + k * 2, none⟩ = some (.string (str ws[k])) ∧ w.cell? ⟨b, o + k * 2 + 1, none⟩ = some (.int .i64 (k : Int)) := by
  obtain ⟨b, o, e, hb, hc⟩ := h.2 (by omega)
  have g := tokC_get (placed ws) k (by rw [placed_len]; exact hk)
  rw [placed_get ws k hk] at g
  refine ⟨b, o, e, hb, hc _ _ g.1, ?_⟩
  have := hc _ _ g.2
  rw [← Nat.add_assoc] at this
  exact this

/-- Texts, as cells. -/
def sv (ws : List (List UInt8)) : List Value := (ws.map str).map Value.string
theorem sv_snoc (ws : List (List UInt8)) (x : List UInt8) : sv (ws ++ [x]) = sv ws ++ [.string (str x)] := by simp [sv]
theorem sv_len (ws : List (List UInt8)) : (sv ws).length = ws.length := by simp [sv]
/-- Texts of the call's own. -/
def StrPost (w : World) (ws : List (List UInt8)) (e : Ending) (w' : World) : Prop :=
  ∃ v, e = .returned v ∧ w'.ownsRow w.heap.size 9 1 v ws.length (sv ws) ∧ Below w.heap.size w w'
structure Strs (w wr : World) (v : Value) (ws : List (List UInt8)) : Prop where
  own : wr.ownsRow w.heap.size 9 1 v ws.length (sv ws)
  bel : Below w.heap.size w wr
theorem Strs.below {w wr w2 : World} {v : Value} {ws : List (List UInt8)} (h : Strs w wr v ws) (hb : Below wr.heap.size wr w2) : Strs w w2 v ws :=
  ⟨h.own.kept (grow_of_below hb none) (by cases hv : v.ownBlock <;> simp), h.bel.trans (hb.mono h.bel.size)⟩
theorem Strs.put {w wr w2 : World} {v v' : Value} {ws : List (List UInt8)} {x : List UInt8} (h : Strs w wr v ws)
    (hp : w2.ownsRow w.heap.size 9 1 v' (ws.length + 1) (sv ws ++ [.string (str x)])) (hg : wr.grownBy w2 v.ownBlock) : Strs w w2 v' (ws ++ [x]) := by
  refine ⟨?_, h.bel.grown hg h.bel.size (fun k hk => (h.own.lt k hk).1)⟩
  rw [sv_snoc, List.length_append]
  exact hp
theorem str_info : (Try.prog.info? 9).map (fun i => (i.zero, i.size, i.bytes)) = some (some (.string ByteArray.empty), 1, 16) := by kernel_rfl

theorem words_len (s : ByteArray) : (words s.data.toList).length ≤ s.size := by
  have h1 : ∀ (l c : List Nat), (runs c l).length ≤ l.length + 1 ∧ (c = [] → (runs c l).length ≤ l.length) := by
    intro l
    induction l with
    | nil =>
      intro c
      rw [runs_nil]
      unfold last
      split <;> simp_all
    | cons r t ih =>
      intro c
      rw [runs_cons]
      have h1 := ih (c ++ [r])
      have h2 := (ih []).2 rfl
      split
      · refine ⟨by simp; omega, fun _ => by simp; omega⟩
      · have h3 : (last c).length ≤ 1 := by unfold last; split <;> simp
        have h4 : c = [] → (last c).length = 0 := by rintro rfl; rfl
        rw [List.length_append, List.length_cons]
        exact ⟨by omega, fun e => by have := h4 e; omega⟩
  unfold words
  rw [List.length_map]
  have := (h1 (runes s.data.toList) []).2 rfl
  have h2 := runes_len s.data.toList
  rw [bsize] at h2
  omega

theorem new2 (w : World) (o o' : Obj) : ((w.alloc o).alloc o').heap[w.heap.size + 1]? = some o' := by
  have := heap_alloc_new (w.alloc o) o'
  simpa using this

set_option maxHeartbeats 800000 in
theorem words_any (s : ByteArray) (w : World) (hs : s.size ≤ 1048576) : Calls Try.prog 69 #[.string s] w (StrPost w (words s.data.toList)) := by
  obtain ⟨i0, hi0, hz0, hz1, hz2⟩ := info_parts str_info
  have c0 := tokens_anyB s w (by omega)
  have hwl := words_len s
  generalize words s.data.toList = ws at *
  go_enter Try.func69, Try.ntmps69
  go_wp2_with fail
  refine c0.mono ?_
  rintro e w1 ⟨v, rfl, hown, hb1⟩
  obtain ⟨A, c, rfl, hR⟩ := own_shape hown
  have S0 : Strs w1 w1 (.slice none 0 0) [] := ⟨World.ownsRow_nil _ _ _ _, Below.refl _ _⟩
  have HR := Lib.hid hR
  have HS0 := Lib.hid S0
  have Hb1 := Lib.hid hb1
  clear hown hR S0 c0 hb1
  go_wp2_with fail
  go_loopw [3, 9] (fun v i wr => ∃ k : Nat, k ≤ ws.length ∧ i = .int .i64 k ∧ Strs w1 wr v (ws.take k)) (fun _ i _ => ws.length - (intOf i).toNat)
  case atStart => exact ⟨0, Nat.zero_le _, rfl, HS0.out⟩
  case round =>
    obtain ⟨k, hk, rfl, hT⟩ := hrel
    by_cases hlt : k < ws.length
    · obtain ⟨b, o, rfl, hb, hc1, hc2⟩ := toks_at HR.out rfl hlt
      have hd1 := (hT.bel.cell (p := ⟨b, o + k * 2, none⟩) hb).trans hc1
      have hd2 := (hT.bel.cell (p := ⟨b, o + k * 2 + 1, none⟩) hb).trans hc2
      have hts : ws.take (k + 1) = ws.take k ++ [ws[k]] := by rw [List.take_succ_eq_append_getElem hlt]
      have Hts := Lib.hid hts
      have htl : (ws.take k).length ≤ ws.length := by rw [List.length_take]; omega
      have hown := hT.own
      have hbs := hT.bel.size
      have HT := Lib.hid hT
      clear hts hc1 hc2 hT
      generalize ws[k] = x at *
      generalize ws.take k = y at *
      go_wp2_with (at_builtin; refine wpList_append_own _ rfl _ _ 82 rfl w1.heap.size 9 i0 _ 1 16 Try.underlying82 hi0 hz0 hz1 hz2 rfl (by decide) _ _ _ rfl ((hown.alloc _).alloc _) ⟨wr.heap.size + 1, 0, none⟩ 1 1 [.string (str x)] rfl rfl ?d1 ?d2 ?d3 ?d4 ?d5 ?_)
      case d1 => exact World.news_of_block (cs := #[.string (str x)]) (t := 9) (fr := (0, 0)) (new2 wr _ _)
      case d2 => intro u hu; simp at hu; subst hu; rfl
      case d3 => unfold maxLen; omega
      case d4 => omega
      case d5 => simp; omega
      intro v' w5 hown5 hg5 _
      have HT5 := Lib.hid (((HT.out.below ((Below.refl _ _).alloc (Nat.le_refl _) _)).below ((Below.refl _ _).alloc (Nat.le_refl _) _)).put hown5 hg5)
      clear hown5 hg5 hown
      go_wp2
      go_roundw
      case rel => exact ⟨k + 1, by omega, by go_num, by rw [Hts.out]; exact HT5.out⟩
      case measure => simp [intOf]; omega
    · have hall : ws.take k = ws := List.take_of_length_le (by omega)
      rw [hall] at hT
      have HT := Lib.hid hT
      clear hT hall
      go_wp2
      go_ret
      exact ⟨_, rfl, HT.out.own.mono Hb1.out.size, Hb1.out.trans (HT.out.bel.mono Hb1.out.size)⟩

theorem str_beq (x : List UInt8) (s : ByteArray) : ((str x).toList == s.toList) = (x == s.data.toList) := by rw [tl, tl, str_data]
set_option maxHeartbeats 800000 in
theorem isWord_anyB (s : ByteArray) (w : World) (hs : s.size ≤ 140737488351232) : Calls Try.prog 65 #[.string s] w fun e w' => e = .returned (.bool (isW s.data.toList)) ∧ Below w.heap.size w w' := by
  by_cases hl : 32 < s.size
  · have e := isW_len s.data.toList (by rw [bsize]; exact hl)
    rw [e]
    have hl' : (32 : Int) < (s.size : Int) := by omega
    clear e
    go_enter Try.func65, Try.ntmps65
    go_wp2
    go_ret
    exact ⟨rfl, Below.refl _ _⟩
  · have hl' : (s.size : Int) ≤ 32 := by omega
    have c0 := tokens_anyB s w (by omega)
    have Fin : Hid (isW s.data.toList = (words s.data.toList == [s.data.toList])) := rfl
    clear hl
    generalize words s.data.toList = ws at *
    go_enter Try.func65, Try.ntmps65
    go_wp2_with fail
    refine c0.mono ?_
    rintro e w1 ⟨v, rfl, hown, hb1⟩
    obtain ⟨A, c, rfl, hR⟩ := own_shape hown
    have HR := Lib.hid hR
    have Hb1 := Lib.hid hb1
    clear hown hR c0 hb1
    by_cases h1 : ws.length = 1
    · obtain ⟨x, rfl⟩ : ∃ x, ws = [x] := by
        match ws, h1 with
        | [x], _ => exact ⟨x, rfl⟩
      obtain ⟨b, o, rfl, hb, hc1, hc2⟩ := toks_at HR.out rfl (k := 0) (by simp)
      simp at hc1
      clear hc2 h1
      go_wp2
      go_ret
      refine ⟨?_, Hb1.out⟩
      rw [Fin.out]
      simp [tl, str_data]
    · have h1' : ((ws.length : Int) == 1) = false := beq_eq_false_iff_ne.2 (by omega)
      have Fin2 : Hid ((ws == [s.data.toList]) = false) := Lib.hid (beq_eq_false_iff_ne.2 (fun e => h1 (by rw [e]; rfl)))
      clear h1
      go_wp2
      go_ret
      exact ⟨by rw [Fin.out, Fin2.out]; rfl, Hb1.out⟩

theorem isWord_any (s : ByteArray) (w : World) (hs : s.size ≤ 1048576) : Calls Try.prog 65 #[.string s] w fun e w' => e = .returned (.bool (isW s.data.toList)) ∧ Below w.heap.size w w' :=
  isWord_anyB s w (by omega)
/-- Where a byte of a name stands. -/
theorem nameB_cases (c : UInt8) : (nameB c = true ∧ ((c.toNat = 95) ∨ (48 ≤ c.toNat ∧ c.toNat ≤ 57) ∨ (97 ≤ c.toNat ∧ c.toNat ≤ 122))) ∨
    (nameB c = false ∧ c.toNat ≠ 95 ∧ (c.toNat < 48 ∨ (57 < c.toNat ∧ c.toNat < 97) ∨ 122 < c.toNat)) := by
  by_cases h : nameB c = true
  · refine .inl ⟨h, ?_⟩
    unfold nameB at h
    simp at h
    omega
  · refine .inr ⟨by simpa using h, ?_⟩
    unfold nameB at h
    simp at h
    omega
set_option maxHeartbeats 800000 in
theorem isName_anyB (s : ByteArray) (w : World) (hs : s.size ≤ 140737488351232) : Calls Try.prog 68 #[.string s] w fun e w' => e = .returned (.bool (isN s.data.toList)) ∧ Below w.heap.size w w' := by
  obtain ⟨cap, C, fr, hconv, hC⟩ := bytes_conv (P := Try.prog) 9 159 5 s Try.underlying9 Try.underlying159 Try.underlying5
  have Fin : Hid (isN s.data.toList = (decide (1 ≤ s.data.toList.length) && decide (s.data.toList.length ≤ 32) && s.data.toList.all nameB)) := rfl
  rw [bsize] at Fin
  go_enter Try.func68, Try.ntmps68
  go_wp2
  go_loopw [8] (fun i wr => ∃ k : Nat, k ≤ s.size ∧ i = .int .i64 k ∧ (s.data.toList.take k).all nameB = true ∧ Below w.heap.size w wr ∧ (∀ j (h : j < s.size), wr.cell? ⟨w.heap.size, j, none⟩ = some (.int .u8 ((s[j]).toNat : Int)))) (fun i _ => s.size - (intOf i).toNat)
  case atStart => 
    refine ⟨0, Nat.zero_le _, rfl, rfl, ((Below.refl _ _).alloc (Nat.le_refl _) _).drew, fun j hj => ?_⟩
    exact (World.cell?_alloc_mark w _ _ _ j).trans (hC w j hj)
  case round =>
    obtain ⟨k, hk, rfl, hal, hb, hcl⟩ := hrel
    by_cases hlt : k < s.size
    · have hcx := hcl k hlt
      have hu := (s[k]).toNat_lt
      have hts := take_snoc s k hlt
      have hmem : s[k] ∈ s.data.toList := by
        have : s.data.toList[k]'(by rw [bsize]; exact hlt) = s[k] := rfl
        rw [← this]; exact List.getElem_mem _
      have Hcl := Lib.hid hcl
      have Hb := Lib.hid hb
      have Hal := Lib.hid hal
      rcases nameB_cases s[k] with ⟨hn, h⟩ | ⟨hn, h9, h⟩
      · have Hnx : Hid ((s.data.toList.take (k + 1)).all nameB = true) := Lib.hid (by rw [hts, List.all_append, Hal.out]; simp [hn])
        clear hcl hC hb hal hts hmem hn
        generalize (s[k]).toNat = z at *
        rcases h with rfl | h | h
        all_goals
          have h9 : True ∨ True := .inl trivial
          go_wp2
          all_goals first
            | (go_roundw
               case rel => exact ⟨k + 1, by omega, by go_num, Hnx.out, Hb.out, Hcl.out⟩
               case measure => simp [intOf]; omega)
            | (exfalso; simp only [bne_iff_ne, ne_eq, bne_eq_false_iff_eq, decide_eq_true_eq] at *; omega)
      · have Fin2 : Hid (isN s.data.toList = false) := Lib.hid (by
          rw [Fin.out]
          have : s.data.toList.all nameB = false := List.all_eq_false.2 ⟨_, hmem, by rw [hn]; decide⟩
          rw [this, Bool.and_false])
        clear hcl hC hb hal hts hmem hn
        generalize (s[k]).toNat = z at *
        have h9' : ((z : Int) != 95) = true := by rw [bne_iff_ne]; omega
        rcases h with h | h | h
        all_goals
          go_wp2
          go_ret
          exact ⟨by rw [Fin2.out]; rfl, Hb.out⟩
    · obtain rfl : k = s.size := by omega
      have htk : s.data.toList.take s.size = s.data.toList := List.take_of_length_le (Nat.le_of_eq (bsize s))
      rw [htk] at hal
      have Fin2 : Hid (isN s.data.toList = (decide (1 ≤ s.size) && decide (s.size ≤ 32))) := Lib.hid (by rw [Fin.out, hal, Bool.and_true])
      have Hb := Lib.hid hb
      clear hcl hC hb hal htk
      by_cases h1 : 1 ≤ s.size
      · have h1' : (1 : Int) ≤ (s.size : Int) := by omega
        rw [decide_eq_true h1, Bool.true_and] at Fin2
        go_wp2
        go_ret
        exact ⟨by rw [Fin2.out]; simp; omega, Hb.out⟩
      · have h1' : (s.size : Int) < 1 := by omega
        rw [decide_eq_false h1, Bool.false_and] at Fin2
        go_wp2
        go_ret
        exact ⟨by rw [Fin2.out]; rfl, Hb.out⟩
theorem isName_any (s : ByteArray) (w : World) (hs : s.size ≤ 1048576) : Calls Try.prog 68 #[.string s] w fun e w' => e = .returned (.bool (isN s.data.toList)) ∧ Below w.heap.size w w' :=
  isName_anyB s w (by omega)
end Go.Proofs.Ytfegkchajkpgfaa.Tk
