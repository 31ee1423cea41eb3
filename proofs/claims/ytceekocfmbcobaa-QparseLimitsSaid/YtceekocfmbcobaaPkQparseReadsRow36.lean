/- loggiaref17.Same at equal queries: the walk (printed by gen_qpw.py). -/
import Derived.Test.YtceekocfmbcobaaQpRePk
import Derived.Test.YtceekocfmbcobaaPkQparseReadsRow24
section
namespace Go.Proofs.Ytceekocfmbcobaa.Qp
open Go.RowKit Go.Proofs.Ytceekocfmbcobaa Go.Proofs.Ytceekocfmbcobaa.Ut Go.Proofs.Ytceekocfmbcobaa.Tk Go.Proofs.Ytceekocfmbcobaa.Qy
set_option maxRecDepth 20000
set_option linter.unusedSimpArgs false

theorem sv_of (ws : List ByteArray) : sv (ws.map fun x => x.data.toList) = ws.map Value.string := by
  unfold sv
  rw [List.map_map, List.map_map]
  refine List.map_congr_left fun x _ => ?_
  show Value.string (str x.data.toList) = _
  rw [of_str]
theorem sameWords_b (A A' : Option Addr) (n c c' : Nat) (ws : List ByteArray) (w : World) (h : Reads w w.heap.size 1 A n (ws.map Value.string)) (h' : Reads w w.heap.size 1 A' n (ws.map Value.string)) (hn : ws.length = n) (hl : n ≤ 8796093021952) :
    Calls Try.prog 16 #[.slice A n c, .slice A' n c'] w fun e w' => e = .returned (.bool true) ∧ Below w.heap.size w w' := by
  subst hn
  have := sameWords_eq A A' c c' w.heap.size (ws.map fun x => x.data.toList) w (by rw [List.length_map, sv_of]; exact h) (by rw [List.length_map, sv_of]; exact h') (Nat.le_refl _) (by rw [List.length_map]; exact hl)
  rw [List.length_map] at this
  exact this
def SameOk (q : Q) : Prop := ∀ (w : World) (a0 a1 a2 a3 b0 b1 b2 b3 : Value), QAt w w.heap.size q [a0, a1, a2, a3] → QAt w w.heap.size q [b0, b1, b2, b3] →
  Calls Try.prog 17 #[.agg #[a0, a1, a2, a3], .agg #[b0, b1, b2, b3]] w fun e w' => e = .returned (.bool true) ∧ Below w.heap.size w w'
def SW (w : World) (x y : Array Value) : World := (w.alloc (.cells x 29)).alloc (.cells y 29)
set_option maxHeartbeats 3200000 in
theorem same_one (k : Int) (nm : ByteArray) (ws : List ByteArray) (l : List Q) (hw6 : ws.length ≤ 8796093021952) (hl6 : l.length ≤ 8796093021952) (ih : ∀ x ∈ l, SameOk x) : SameOk (.mk k nm ws l) := by
  intro w a0 a1 a2 a3 b0 b1 b2 b3 hA hB
  obtain ⟨WA, m, wc, CA, n, c2, e, hI⟩ := hA.is
  obtain ⟨WB, m', wd, CB, n', d2, e', hJ⟩ := hB.is
  simp only [List.cons.injEq, and_true] at e e'
  obtain ⟨rfl, rfl, rfl, rfl⟩ := e
  obtain ⟨rfl, rfl, rfl, rfl⟩ := e'
  obtain rfl : m = m' := hI.wn.symm.trans hJ.wn
  obtain rfl : n = n' := hI.lm.symm.trans hJ.lm
  have hb := (((Below.refl w.heap.size w).alloc (Nat.le_refl _) (.cells #[.int .i64 k, .string nm, .slice WA m wc, .slice CA n c2] 29)).alloc (by simp) (.cells #[.int .i64 k, .string nm, .slice WB m wd, .slice CB n d2] 29))
  have h1 := (Blk.new w 29 #[.int .i64 k, .string nm, .slice WA m wc, .slice CA n c2]).alloc (.cells #[.int .i64 k, .string nm, .slice WB m wd, .slice CB n d2] 29)
  have h2 := Blk.new (w.alloc (.cells #[.int .i64 k, .string nm, .slice WA m wc, .slice CA n c2] 29)) 29 #[.int .i64 k, .string nm, .slice WB m wd, .slice CB n d2]
  rw [World.size_alloc] at h2
  have hz : (World.heap ((w.alloc (.cells #[.int .i64 k, .string nm, .slice WA m wc, .slice CA n c2] 29)).alloc (.cells #[.int .i64 k, .string nm, .slice WB m wd, .slice CB n d2] 29))).size = w.heap.size + 2 := by simp
  have cW := sameWords_b WA WB m wc wd ws _ (rgrow hI.wds hb) (rgrow hJ.wds hb) hI.wn (by have := hI.wn; omega)
  have hlm := hI.lm
  have hn6 : n ≤ 8796093021952 := by omega
  have hkid : ∀ j (hj : j < l.length), ∃ b o A' n' c' C' m' d' b9 o9 A9 n9 c9 C9 m9 d9, CA = some ⟨b, o, none⟩ ∧ b < w.heap.size ∧ CB = some ⟨b9, o9, none⟩ ∧ b9 < w.heap.size ∧
      ∀ wx, Below w.heap.size w wx → (wx.cell? ⟨b, o + j * 4, none⟩ = some (.int .i64 l[j].kind) ∧ wx.cell? ⟨b, o + j * 4 + 1, none⟩ = some (.string l[j].name) ∧ wx.cell? ⟨b, o + j * 4 + 2, none⟩ = some (.slice A' n' c') ∧ wx.cell? ⟨b, o + j * 4 + 3, none⟩ = some (.slice C' m' d') ∧
        wx.cell? ⟨b9, o9 + j * 4, none⟩ = some (.int .i64 l[j].kind) ∧ wx.cell? ⟨b9, o9 + j * 4 + 1, none⟩ = some (.string l[j].name) ∧ wx.cell? ⟨b9, o9 + j * 4 + 2, none⟩ = some (.slice A9 n9 c9) ∧ wx.cell? ⟨b9, o9 + j * 4 + 3, none⟩ = some (.slice C9 m9 d9)) ∧
        Calls Try.prog 17 #[.agg #[.int .i64 l[j].kind, .string l[j].name, .slice A' n' c', .slice C' m' d'], .agg #[.int .i64 l[j].kind, .string l[j].name, .slice A9 n9 c9, .slice C9 m9 d9]] wx fun e w' => e = .returned (.bool true) ∧ Below wx.heap.size wx w' := by
    intro j hj
    obtain ⟨tb, tq, A', n', c', C', m', d', rfl, htb, hq, hc0, hc1, hc2, hc3⟩ := hI.at_ hj
    obtain ⟨tb9, tq9, A9, n9, c9, C9, m9, d9, rfl, htb9, hq9, hd0, hd1, hd2, hd3⟩ := hJ.at_ hj
    refine ⟨tb, tq, A', n', c', C', m', d', tb9, tq9, A9, n9, c9, C9, m9, d9, rfl, htb, rfl, htb9, fun wx hb => ⟨⟨?_, ?_, ?_, ?_, ?_, ?_, ?_, ?_⟩, ih _ (List.getElem_mem hj) wx _ _ _ _ _ _ _ _ (hq.grow hb) (hq9.grow hb)⟩⟩
    · exact (hb.cell (p := ⟨tb, tq + j * 4, none⟩) htb).trans hc0
    · exact (hb.cell (p := ⟨tb, tq + j * 4 + 1, none⟩) htb).trans hc1
    · exact (hb.cell (p := ⟨tb, tq + j * 4 + 2, none⟩) htb).trans hc2
    · exact (hb.cell (p := ⟨tb, tq + j * 4 + 3, none⟩) htb).trans hc3
    · exact (hb.cell (p := ⟨tb9, tq9 + j * 4, none⟩) htb9).trans hd0
    · exact (hb.cell (p := ⟨tb9, tq9 + j * 4 + 1, none⟩) htb9).trans hd1
    · exact (hb.cell (p := ⟨tb9, tq9 + j * 4 + 2, none⟩) htb9).trans hd2
    · exact (hb.cell (p := ⟨tb9, tq9 + j * 4 + 3, none⟩) htb9).trans hd3
  have Hkid := Lib.hid hkid
  have Hlm := Lib.hid hlm
  have Hb := Lib.hid hb
  have H1 := Lib.hid h1
  have H2 := Lib.hid h2
  have Hz := Lib.hid hz
  clear hkid hlm hA hB hI hJ ih hw6 hl6 hb h1 h2 hz
  go_enter Try.func17, Try.ntmps17
  go_wp2_with fail
  refine cW.mono ?_
  rintro e w3 ⟨rfl, hb3⟩
  have hsz3 : w.heap.size + 2 ≤ w3.heap.size := by have := hb3.size; rw [Hz.out] at this; exact this
  have B1 := H1.out.below hb3 (by rw [Hz.out]; omega)
  have B2 := H2.out.below hb3 (by rw [Hz.out]; omega)
  have Hb3 := Lib.hid (Hb.out.trans (hb3.mono (by rw [Hz.out]; omega)))
  have hl1 := B1.cell 3
  have hl2 := B2.cell 3
  simp at hl1 hl2
  have HB1 := Lib.hid B1
  have HB2 := Lib.hid B2
  clear cW hb3 B1 B2 H1 H2 Hb Hz
  go_wp2_with fail
  clear hl1 hl2
  go_loopw [5] (fun v wr => ∃ j : Nat, j ≤ n ∧ v = .int .i64 (j : Nat) ∧ Below w3.heap.size w3 wr) (fun v _ => n - (intOf v).toNat)
  case atStart => exact ⟨0, Nat.zero_le _, rfl, Below.refl _ _⟩
  case round =>
    obtain ⟨j, hj, rfl, hb⟩ := hrel
    have hl1 := (HB1.out.below hb (by omega)).cell 3
    simp at hl1
    have Hb := Lib.hid hb
    by_cases hlt : j < n
    · have hjl : j < l.length := by rw [Hlm.out]; exact hlt
      have hji : (j : Int) < (n : Int) := by omega
      have hji0 : (0 : Int) ≤ (j : Int) := by omega
      obtain ⟨tb, tq, A', n', c', C', m', d', tb9, tq9, A9, n9, c9, C9, m9, d9, rfl, htb, rfl, htb9, hall⟩ := Hkid.out j hjl
      have hcells : ∀ wx, Below wr.heap.size wr wx → wx.cell? ⟨w.heap.size, 3, none⟩ = some (.slice (some ⟨tb, tq, none⟩) n c2) ∧ wx.cell? ⟨w.heap.size + 1, 3, none⟩ = some (.slice (some ⟨tb9, tq9, none⟩) n d2) ∧ wx.cell? ⟨tb, tq + j * 4, none⟩ = some (.int .i64 l[j].kind) ∧ wx.cell? ⟨tb, tq + j * 4 + 1, none⟩ = some (.string l[j].name) ∧ wx.cell? ⟨tb, tq + j * 4 + 2, none⟩ = some (.slice A' n' c') ∧ wx.cell? ⟨tb, tq + j * 4 + 3, none⟩ = some (.slice C' m' d') ∧
          wx.cell? ⟨tb9, tq9 + j * 4, none⟩ = some (.int .i64 l[j].kind) ∧ wx.cell? ⟨tb9, tq9 + j * 4 + 1, none⟩ = some (.string l[j].name) ∧ wx.cell? ⟨tb9, tq9 + j * 4 + 2, none⟩ = some (.slice A9 n9 c9) ∧ wx.cell? ⟨tb9, tq9 + j * 4 + 3, none⟩ = some (.slice C9 m9 d9) := fun wx hbx => by
        have hbw := hb.trans (hbx.mono hb.size)
        have x1 := (HB1.out.below hbw (by omega)).cell 3
        have x2 := (HB2.out.below hbw (by omega)).cell 3
        exact ⟨x1, x2, (hall wx (Hb3.out.trans (hbw.mono (by omega)))).1⟩
      have hcal := fun wx (hbx : Below wr.heap.size wr wx) => (hall wx (Hb3.out.trans ((hb.trans (hbx.mono hb.size)).mono (by omega)))).2
      have Hcells := Lib.hid hcells
      have Hcal := Lib.hid hcal
      clear hb hlt hall hcells hcal
      generalize l[j] = y at *
      generalize (y).kind = x0 at *
      generalize (y).name = x1 at *
      go_wp2_with fail
      refine wp_region_grow (specOf [(10, ⟨Unit, fun _ => (.bool true), fun _ _ => True⟩)]) (fun wx => Below (World.heap wr).size wr wx) (fun w1 w2 => Below w1.heap.size w1 w2) (by kernel_rfl) (by kernel_rfl) (stab_cons (fun _ _ _ _ _ => trivial) (stab_nil)) (Below.refl _ _).drew ?_
      refine grow_fix 1 ?_ rfl (by rfl) (by rfl) (fun wx hC hD => ?_) ?_
      rotate_left
      · have hSw := Hcells.out wx hC
        go_simp
        all_goals with_reducible rfl
      try simp only [Act.put, List.setIfInBounds_toArray, List.set_cons_zero, List.set_cons_succ]
      refine grow_fix 2 ?_ rfl (by rfl) (by rfl) (fun wx hC hD => ?_) ?_
      rotate_left
      · have hSw := Hcells.out wx hC
        go_simp
        all_goals with_reducible rfl
      try simp only [Act.put, List.setIfInBounds_toArray, List.set_cons_zero, List.set_cons_succ]
      refine grow_fix 3 ?_ rfl (by rfl) (by rfl) (fun wx hC hD => ?_) ?_
      rotate_left
      · have hSw := Hcells.out wx hC
        go_simp
        all_goals with_reducible rfl
      try simp only [Act.put, List.setIfInBounds_toArray, List.set_cons_zero, List.set_cons_succ]
      refine grow_fix 4 ?_ rfl (by rfl) (by rfl) (fun wx hC hD => ?_) ?_
      rotate_left
      · have hSw := Hcells.out wx hC
        go_simp
        all_goals with_reducible rfl
      try simp only [Act.put, List.setIfInBounds_toArray, List.set_cons_zero, List.set_cons_succ]
      refine grow_fix 5 ?_ rfl (by rfl) (by rfl) (fun wx hC hD => ?_) ?_
      rotate_left
      · have hSw := Hcells.out wx hC
        go_simp
        all_goals with_reducible rfl
      try simp only [Act.put, List.setIfInBounds_toArray, List.set_cons_zero, List.set_cons_succ]
      refine grow_fix 6 ?_ rfl (by rfl) (by rfl) (fun wx hC hD => ?_) ?_
      rotate_left
      · have hSw := Hcells.out wx hC
        go_simp
        all_goals with_reducible rfl
      try simp only [Act.put, List.setIfInBounds_toArray, List.set_cons_zero, List.set_cons_succ]
      refine grow_fix 7 ?_ rfl (by rfl) (by rfl) (fun wx hC hD => ?_) ?_
      rotate_left
      · have hSw := Hcells.out wx hC
        go_simp
        all_goals with_reducible rfl
      try simp only [Act.put, List.setIfInBounds_toArray, List.set_cons_zero, List.set_cons_succ]
      refine grow_fix 8 ?_ rfl (by rfl) (by rfl) (fun wx hC hD => ?_) ?_
      rotate_left
      · have hSw := Hcells.out wx hC
        go_simp
        all_goals with_reducible rfl
      try simp only [Act.put, List.setIfInBounds_toArray, List.set_cons_zero, List.set_cons_succ]
      refine grow_fix 9 ?_ rfl (by rfl) (by rfl) (fun wx hC hD => ?_) ?_
      rotate_left
      · have hSw := Hcells.out wx hC
        go_simp
        all_goals with_reducible rfl
      try simp only [Act.put, List.setIfInBounds_toArray, List.set_cons_zero, List.set_cons_succ]
      refine grow_fix 10 ?_ rfl (by rfl) (by rfl) (fun wx hC hD => ?_) ?_
      rotate_left
      · have hSw := Hcells.out wx hC
        go_simp
        all_goals with_reducible rfl
      try simp only [Act.put, List.setIfInBounds_toArray, List.set_cons_zero, List.set_cons_succ]
      refine grow_give 11 _ rfl (by rfl) (by rfl) (fun wx hC hD => ?_) (fun x => ?_)
      · refine give_enter (f := ?_) (args := ?_) ?_ ?_
        rotate_left 2
        · have hSw := Hcells.out wx hC
          go_simp
          all_goals first | with_reducible rfl | (refine ⟨?_, ?_⟩ <;> with_reducible rfl)
        exact calls_cst hC (Hcal.out wx hC)
      obtain ⟨⟩ := x
      try simp only [Act.put, List.setIfInBounds_toArray, List.set_cons_zero, List.set_cons_succ]
      refine grow_fix 12 ?_ rfl (by rfl) (by rfl) (fun wx hC hD => ?_) ?_
      rotate_left
      · have hSw := Hcells.out wx hC
        go_simp
        all_goals with_reducible rfl
      try simp only [Act.put, List.setIfInBounds_toArray, List.set_cons_zero, List.set_cons_succ]
      refine grow_nil (fun w5 hC hF => ?_)
      have FinB := Lib.hid (Hb.out.trans (hC.mono Hb.out.size))
      clear hC hF
      go_wp2_with fail
      go_roundw
      case rel => exact ⟨j + 1, by omega, by go_num, FinB.out⟩
      case measure => simp [intOf]; omega
    · have hji : (n : Int) ≤ (j : Int) := by omega
      clear hb
      go_wp2_with fail
      go_ret
      exact ⟨rfl, Hb3.out.trans (Hb.out.mono (by omega))⟩
theorem same_q {K : Nat} {q : Q} (h : QW K q) : SameOk q := by
  induction h with
  | mk h1 h2 h3 ih => exact same_one _ _ _ _ h1 h2 ih
end Go.Proofs.Ytceekocfmbcobaa.Qp
end

section
/- The page's example of queries' texts: plain. -/
namespace Go.Proofs.Ytceekocfmbcobaa.Qp
open Go.RowKit Go.Proofs.Ytceekocfmbcobaa Go.Proofs.Ytceekocfmbcobaa.Ut Go.Proofs.Ytceekocfmbcobaa.Tk Go.Proofs.Ytceekocfmbcobaa.Qy

def exA : P := [97]
def exT1 : P := [97, 32, 79, 82, 32, 98, 32, 99]
def exT2 : P := [97, 32, 79, 82]
def tq (c : UInt8) : Q := .mk 2 (str msg) [str [c]] []
def exQ1 : Q := .mk 6 ByteArray.empty [] [tq 97, .mk 5 ByteArray.empty [] [tq 98, tq 99]]
theorem p1 : pieces exT1 = some [[97], OR, [98], [99]] := by decide
theorem p2 : pieces exT2 = some [[97], OR] := by decide
theorem w97 : words [97] = [[97]] := by decide +kernel
theorem w98 : words [98] = [[98]] := by decide +kernel
theorem w99 : words [99] = [[99]] := by decide +kernel
theorem leaf_one (c : UInt8) (h1 : c ≠ 42) (h2 : c ≠ 34) (h3 : c ≠ 58) (hw : words [c] = [[c]]) : leafQ [c] = some (tq c) := by
  have hn : named [c] = false := by
    have e : sepAt [c] = 1 := by
      have a1 : (c == 58) = false := beq_eq_false_iff_ne.2 h3
      have a2 : (c == 34) = false := beq_eq_false_iff_ne.2 h2
      unfold sepAt
      simp [List.findIdx_cons, a1, a2]
    unfold named
    rw [e]; rfl
  have e1 : nameOf [c] = msg := by unfold nameOf; rw [hn]; rfl
  have e2 : restOf [c] = [c] := by unfold restOf; rw [hn]; rfl
  unfold leafQ
  rw [e1, e2, if_neg (by simpa using h1), if_neg (by
    rintro (h | h)
    · exact absurd h (by decide)
    · cases h), if_neg (by simpa using h2), if_neg (by simpa using h1), hw]
  rfl
theorem lf97 : leafQ [97] = some (tq 97) := leaf_one 97 (by decide) (by decide) (by decide) w97
theorem lf98 : leafQ [98] = some (tq 98) := leaf_one 98 (by decide) (by decide) (by decide) w98
theorem lf99 : leafQ [99] = some (tq 99) := leaf_one 99 (by decide) (by decide) (by decide) w99
theorem part_a (c : UInt8) (q : Q) (t : List P) (hw : word1 [c] = true) (h : leafQ [c] = some q) : R .part ([c] :: t) (some (q, t)) := by
  have := R.pleaf (t := t) hw
  rw [h] at this
  exact this
theorem r1 : R (.or []) [[97], OR, [98], [99]] (some (exQ1, [])) := by
  refine .or1 (q := tq 97) (r := [OR, [98], [99]]) (.and1 (part_a 97 _ _ (by decide) lf97) (.andE (by decide))) ?_
  refine .orO rfl ?_
  refine .or1 (q := .mk 5 ByteArray.empty [] [tq 98, tq 99]) (r := []) (.and1 (part_a 98 _ _ (by decide) lf98) (.andN (by decide) (by decide) (.and1 (part_a 99 _ _ (by decide) lf99) (.andE rfl)))) ?_
  exact .orE (by simp)
theorem r2 : R (.or []) [[97], OR] none := by
  refine .or1 (q := tq 97) (r := [OR]) (.and1 (part_a 97 _ _ (by decide) lf97) (.andE (by decide))) ?_
  exact .orO rfl (.or0 (.and0 .pnil))
theorem many1 : manyB exQ1 = false := by
  simp [exQ1, tq, manyB_eq, manyL]
theorem depth1 : depthN exQ1 ≤ 16 := by
  simp [exQ1, tq, depthN_eq, depthL]
theorem prs1 : PrsR exT1 0 (some exQ1) := .ok (by decide) p1 r1 many1 depth1
theorem prs2 : PrsR exT2 170 none := .bad (by decide) p2 r2
theorem tq_w (c : UInt8) (K : Nat) : QW (K + 1) (tq c) := .mk (by simp) (by simp) (by simp)
theorem exQ1_w : QW 3 exQ1 := .mk (by simp) (by simp) fun x hx => by
  simp only [List.mem_cons, List.not_mem_nil, or_false] at hx
  rcases hx with rfl | rfl
  · exact tq_w 97 1
  · exact .mk (by simp) (by simp) fun x hx => by
      simp only [List.mem_cons, List.not_mem_nil, or_false] at hx
      rcases hx with rfl | rfl
      · exact tq_w 98 0
      · exact tq_w 99 0
end Go.Proofs.Ytceekocfmbcobaa.Qp
end
