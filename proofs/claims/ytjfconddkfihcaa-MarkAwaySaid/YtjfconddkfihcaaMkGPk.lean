/- mark.marked at every query; mark.Spans (printed by gen_mkg.py). -/
import Derived.Test.YtjfconddkfihcaaMkFPk
import Derived.Test.YtjfconddkfihcaaPkMarkTextsRow19
namespace Go.Proofs.Ytjfconddkfihcaa.Mk
open Go.RowKit Go.Proofs.Ytjfconddkfihcaa Go.Proofs.Ytjfconddkfihcaa.Ut Go.Proofs.Ytjfconddkfihcaa.Tk Go.Proofs.Ytjfconddkfihcaa.Qy Go.Maps
set_option maxRecDepth 20000
set_option linter.unusedSimpArgs false

set_option maxHeartbeats 1600000 in
theorem marked_other (name : ByteArray) (T : List (List UInt8)) (k : Int) (nm : ByteArray) (ws : List ByteArray) (l : List Q) (h2 : k ≠ 2) (h3 : k ≠ 3) (h4 : k ≠ 4) (h5 : k ≠ 5) (h6 : k ≠ 6) : MarkOk name T (.mk k nm ws l) := by
  intro w a0 a1 a2 a3 A c hQ hT
  obtain ⟨WA, m, wc, CA, n1, c2, e, hI⟩ := hQ.is
  simp only [List.cons.injEq, and_true] at e
  obtain ⟨rfl, rfl, rfl, rfl⟩ := e
  have hmm := @run_makeMap Try.prog
  have hf : ∀ i, markB name T i (.mk k nm ws l) = false := fun i => by rw [markB_eq, if_neg (by omega), if_neg (by omega)]
  have fin : MpPost w (fun i => markB name T i (.mk k nm ws l)) (T.length * wq (.mk k nm ws l)) (.returned (.map (some (w.heap.size + 1)))) ((w.alloc (.cells #[.int .i64 k, .string nm, .slice WA m wc, .slice CA n1 c2] 37)).alloc (.map #[] 0)) :=
    ⟨_, .map [], rfl, (made_map _ _).mono (Nat.zero_le _), Holds.none.congr (fun i => (hf i).symm), made_below _ _, Nat.le_succ _⟩
  have Fin := Lib.hid fin
  have g2 : (k == 2) = false := by simpa using h2
  have g3 : (k == 3) = false := by simpa using h3
  have g4 : (k == 4) = false := by simpa using h4
  have g5 : (k == 5) = false := by simpa using h5
  have g6 : (k == 6) = false := by simpa using h6
  clear hQ hT hI hf fin h2 h3 h4 h5 h6
  go_enter Try.func67, Try.ntmps67
  go_wp2
  go_ret
  exact Fin.out

theorem marked_any (name : ByteArray) (T : List (List UInt8)) (hT6 : T.length ≤ 1000000) : ∀ q, wq q ≤ 1048576 → MarkOk name T q := by
  refine Q.ind (fun k nm ws l ih hw => ?_)
  by_cases hk : k = 2 ∨ k = 3 ∨ k = 4
  · by_cases hno : (nm.toList == name.toList) = false ∨ ws = [] ∨ (k ≠ 4 ∧ ws.length ≠ 1)
    · exact marked_no name T k nm ws l hk hno
    · have h1 : (nm.toList == name.toList) = true := by
        cases h : (nm.toList == name.toList)
        · exact absurd (.inl h) hno
        · rfl
      have h2 : ws ≠ [] := fun e => hno (.inr (.inl e))
      rcases hk with rfl | rfl | rfl
      · exact marked_term name T hT6 nm ws l h1 (Classical.byContradiction fun e => hno (.inr (.inr ⟨by decide, e⟩)))
      · have h3 : ws.length = 1 := Classical.byContradiction fun e => hno (.inr (.inr ⟨by decide, e⟩))
        match ws, h3 with
        | [p], _ => exact marked_begin name T hT6 nm p l h1
      · exact marked_phrase name T hT6 nm ws l h1 hw h2
  · have hkid : ∀ x ∈ l, MarkOk name T x := fun x hx => ih x hx (by
      have := wqs_mem l x hx
      rw [wq_eq] at hw
      omega)
    by_cases h5 : k = 5
    · subst h5; exact marked_and name T hT6 nm ws l hw hkid
    · by_cases h6 : k = 6
      · subst h6; exact marked_or name T hT6 nm ws l hw hkid
      · exact marked_other name T k nm ws l (fun e => hk (.inl e)) (fun e => hk (.inr (.inl e))) (fun e => hk (.inr (.inr e))) h5 h6

theorem row_base {w : World} {base base' : Nat} {e : TypeId} {size n : Nat} {v : Value} {xs : List Value} (h : w.ownsRow base e size v n xs) (hle : base' ≤ base) : w.ownsRow base' e size v n xs :=
  ⟨h.1, h.2.imp id fun ⟨g, cap, cur, e, h1, r⟩ => ⟨g, cap, cur, e, Nat.le_trans hle h1, r⟩⟩
/-- The spans that are marked, of the first k. -/
def sel (l : List (Nat × Nat)) (f : Nat → Bool) (k : Nat) : List (Nat × Nat) := (List.range k).filterMap fun i => if f i then l[i]? else none
theorem sel_succ (l : List (Nat × Nat)) (f : Nat → Bool) (k : Nat) (h : k < l.length) : sel l f (k + 1) = sel l f k ++ if f k then [l[k]] else [] := by
  unfold sel
  rw [List.range_succ, List.filterMap_append]
  cases hf : f k <;> simp [hf, List.getElem?_eq_getElem h]
theorem sel_len (l : List (Nat × Nat)) (f : Nat → Bool) (k : Nat) : (sel l f k).length ≤ k := by
  have := List.length_filterMap_le (fun i => if f i then l[i]? else none) (List.range k)
  rwa [List.length_range] at this
/-- What a query marks in a text. -/
def spansQ (q : Q) (name s : ByteArray) : List (Nat × Nat) := sel (sp s.data.toList 0 none) (fun i => markB name (Tk.words s.data.toList) i q) (sp s.data.toList 0 none).length
theorem spans_at {w : World} {B n : Nat} {A : Option Addr} {l : List (Nat × Nat)} (h : Reads w B 2 A n (spC l)) {k : Nat} (hk : k < l.length) :
    ∃ b o, A = some ⟨b, o, none⟩ ∧ b < B ∧ w.cell? ⟨b, o + k * 2, none⟩ = some (.int .i64 (l[k].1 : Nat)) ∧ w.cell? ⟨b, o + k * 2 + 1, none⟩ = some (.int .i64 (l[k].2 : Nat)) := by
  have hl := h.1
  rw [spC_len] at hl
  obtain ⟨b, o, e, hb, hc⟩ := h.2 (by omega)
  have g := spC_get l k hk
  refine ⟨b, o, e, hb, hc _ _ g.1, ?_⟩
  have := hc _ _ g.2
  rwa [← Nat.add_assoc] at this

set_option maxHeartbeats 3200000 in
theorem spans_any (q : Q) (hq : wq q ≤ 1048576) (a0 a1 a2 a3 : Value) (name s : ByteArray) (hs : s.size ≤ 1000000) (w : World) (hQ : QAt w w.heap.size q [a0, a1, a2, a3]) :
    Calls Try.prog 22 #[.agg #[a0, a1, a2, a3], .string name, .string s] w (SpPost w (spansQ q name s)) := by
  obtain ⟨i0, hi0, hz0, hz1, hz2⟩ := info_parts span_info
  have ct := fun wx => tokens_any s wx hs
  have hwl := Nat.le_trans (words_len s) hs
  have hcnt := sp_count s.data.toList
  rw [bsize] at hcnt
  have cr := fun wx => runsM_any s wx hs
  have cm := marked_any name (Tk.words s.data.toList) hwl q hq
  have Fin : Hid (spansQ q name s = sel (sp s.data.toList 0 none) (fun i => markB name (Tk.words s.data.toList) i q) (sp s.data.toList 0 none).length) := rfl
  generalize spansQ q name s = res at *
  generalize sp s.data.toList 0 none = sps at *
  generalize Tk.words s.data.toList = T at *
  have HQ := Lib.hid hQ
  obtain ⟨k0, nm, WA, m, wc, CA, n1, c2, e⟩ := (show ∃ k nm A n c C m d, [a0, a1, a2, a3] = [.int .i64 k, .string nm, .slice A n c, .slice C m d] by cases hQ; exact ⟨_, _, _, _, _, _, _, _, rfl⟩)
  simp only [List.cons.injEq, and_true] at e
  obtain ⟨rfl, rfl, rfl, rfl⟩ := e
  have hb1 : Below w.heap.size w (w.alloc (.cells #[.int .i64 k0, .string nm, .slice WA m wc, .slice CA n1 c2] 37)) := (Below.refl _ _).alloc (Nat.le_refl _) _
  have hB1 := Blk.new w 37 #[.int .i64 k0, .string nm, .slice WA m wc, .slice CA n1 c2]
  have hz1' : w.heap.size < (w.alloc (.cells #[.int .i64 k0, .string nm, .slice WA m wc, .slice CA n1 c2] 37)).heap.size := by simp
  have HQ1 := Lib.hid (hQ.grow hb1)
  have Hb1 := Lib.hid hb1
  have HB1 := Lib.hid hB1
  have CT := Lib.hid ct
  have CR := Lib.hid cr
  have CM := Lib.hid cm
  clear hQ HQ hb1 hB1 ct cr cm hq
  generalize hff : (fun i => markB name T i q) = f at *
  have Hff := Lib.hid hff
  clear hff
  generalize hNN : T.length * wq q = NN at *
  have HNN := Lib.hid hNN
  clear hNN
  go_enter Try.func22, Try.ntmps22
  go_wp2_with fail
  generalize hw1 : (w.alloc (.cells #[.int .i64 k0, .string nm, .slice WA m wc, .slice CA n1 c2] 37)) = w1 at *
  clear hw1
  have hcells : ∀ wx, Below w1.heap.size w1 wx → wx.cell? ⟨w.heap.size, 0, none⟩ = some (.int .i64 k0) ∧ wx.cell? ⟨w.heap.size, 1, none⟩ = some (.string nm) ∧ wx.cell? ⟨w.heap.size, 2, none⟩ = some (.slice WA m wc) ∧ wx.cell? ⟨w.heap.size, 3, none⟩ = some (.slice CA n1 c2) := fun wx hC =>
    have hB := HB1.out.below hC hz1'
    ⟨hB.cell 0, hB.cell 1, hB.cell 2, hB.cell 3⟩
  have Hcells := Lib.hid hcells
  clear hcells
  refine wp_region_grow (specOf [(3, ⟨Option Addr × Nat, fun x => .slice x.1 T.length x.2, fun x w' => Reads w' w'.heap.size 2 x.1 T.length (tokC (placed T))⟩), (4, ⟨Nat × DataW Unit, fun x => .map (some x.1), fun x w' => w'.ownsMap Try.prog 3 unitElem x.1 NN x.2 ∧ Holds x.2 f ∧ w1.heap.size ≤ x.1⟩)]) (fun wx => Below (World.heap w1).size w1 wx) (fun w1 w2 => Below w1.heap.size w1 w2) (by kernel_rfl) (by kernel_rfl) (stab_cons (fun x w1 w2 hg h => reads_grow hg h) (stab_cons (fun x w1 w2 hg h => ⟨h.1.kept (grow_of_below hg none) (by simp), h.2⟩) (stab_nil))) (Below.refl _ _).drew ?_
  refine grow_fix 1 ?_ rfl (by rfl) (by rfl) (fun wx hC hD => ?_) ?_
  rotate_left
  · have hSw := Hcells.out wx hC
    go_simp
    all_goals with_reducible rfl
  try simp only [Act.put, List.setIfInBounds_toArray, List.set_cons_zero, List.set_cons_succ]
  refine grow_fix 2 ?_ rfl (by rfl) (by rfl) (fun wx hC hD => ?_) ?_
  rotate_left
  · have hSw := Hcells.out wx hC
    go_simp
    all_goals with_reducible rfl
  try simp only [Act.put, List.setIfInBounds_toArray, List.set_cons_zero, List.set_cons_succ]
  refine grow_fix 3 ?_ rfl (by rfl) (by rfl) (fun wx hC hD => ?_) ?_
  rotate_left
  · have hSw := Hcells.out wx hC
    go_simp
    all_goals with_reducible rfl
  try simp only [Act.put, List.setIfInBounds_toArray, List.set_cons_zero, List.set_cons_succ]
  refine grow_give 4 _ rfl (by rfl) (by rfl) (fun wx hC hD => ?_) (fun x => ?_)
  · refine give_enter (f := ?_) (args := ?_) ?_ ?_
    rotate_left 2
    · have hSw := Hcells.out wx hC
      go_simp
      all_goals first | with_reducible rfl | (refine ⟨?_, ?_⟩ <;> with_reducible rfl)
    refine (CT.out wx).mono ?_
    rintro e w2 ⟨v2, rfl, hown2, hb2⟩
    obtain ⟨A2, d2, rfl, hR2⟩ := own_shape hown2
    exact ⟨_, rfl, hb2, hC.trans (hb2.mono hC.size), (A2, d2), rfl, hR2⟩
  obtain ⟨X, x⟩ := x
  try simp only [Act.put, List.setIfInBounds_toArray, List.set_cons_zero, List.set_cons_succ]
  refine grow_give 5 _ rfl (by rfl) (by rfl) (fun wx hC hD => ?_) (fun x => ?_)
  · refine give_enter (f := ?_) (args := ?_) ?_ ?_
    rotate_left 2
    · have hSw := Hcells.out wx hC
      go_simp
      all_goals first | with_reducible rfl | (refine ⟨?_, ?_⟩ <;> with_reducible rfl)
    refine (CM.out wx _ _ _ _ X x (HQ1.out.grow hC) (upd_hit (deps_get hD 3 (by kernel_rfl)) (by decide))).mono ?_
    rintro e w2 ⟨b2, D2, rfl, hown2, hD2, hb2, hge⟩
    exact ⟨_, rfl, hb2, hC.trans (hb2.mono hC.size), (b2, D2), rfl, by rw [← HNN.out]; exact hown2, by rw [← Hff.out]; exact hD2, Nat.le_trans hC.size hge⟩
  obtain ⟨bm, D⟩ := x
  try simp only [Act.put, List.setIfInBounds_toArray, List.set_cons_zero, List.set_cons_succ]
  refine grow_fix 6 ?_ rfl (by rfl) (by rfl) (fun wx hC hD => ?_) ?_
  rotate_left
  · have hSw := Hcells.out wx hC
    go_simp
    all_goals with_reducible rfl
  try simp only [Act.put, List.setIfInBounds_toArray, List.set_cons_zero, List.set_cons_succ]
  refine grow_nil (fun w2 hC hF => ?_)
  obtain ⟨hown, hD, hge⟩ := upd_hit (hF 4) (by decide)
  have Hown := Lib.hid hown
  have HD := Lib.hid hD
  have Hb2 := Lib.hid (Hb1.out.trans (hC.mono Hb1.out.size))
  clear hF hC Hcells HB1 HQ1 Hb1 hown hD CT CM
  go_wp2_with fail
  refine (CR.out w2).mono ?_
  rintro e w3 ⟨v3, rfl, hown3, hb3⟩
  obtain ⟨A3, d3, rfl, hR3⟩ := own_shape hown3
  have HR3 := Lib.hid hR3
  have Hown3 := Lib.hid (Hown.out.kept (grow_of_below hb3 none) (by simp))
  have Hb3 := Lib.hid (Hb2.out.trans (hb3.mono Hb2.out.size))
  have hbl : bm < w3.heap.size := Nat.lt_of_lt_of_le Hown.out.lt hb3.size
  clear hown3 hR3 hb3 Hown Hb2 CR
  go_wp2_with fail
  go_loopw [8, 21] (fun v i wr => ∃ k : Nat, k ≤ sps.length ∧ i = .int .i64 k ∧ wr.ownsRow w3.heap.size 45 2 v (sel sps f k).length (spC (sel sps f k)) ∧ Below w3.heap.size w3 wr) (fun _ i _ => sps.length - (intOf i).toNat)
  case atStart => exact ⟨0, Nat.zero_le _, rfl, World.ownsRow_nil _ _ _ _, Below.refl _ _⟩
  case round =>
    obtain ⟨k, hk, rfl, hrow, hb⟩ := hrel
    by_cases hlt : k < sps.length
    · obtain ⟨b, o, rfl, hbb, y0, y1⟩ := spans_at HR3.out hlt
      have g0 := (hb.cell (p := ⟨b, o + k * 2, none⟩) hbb).trans y0
      have g1 := (hb.cell (p := ⟨b, o + k * 2 + 1, none⟩) hbb).trans y1
      have hk1 : (k : Int) < (sps.length : Int) := by omega
      have hss := sel_succ sps f k hlt
      have hsl := sel_len sps f k
      have hml : ∀ wx, Below wr.heap.size wr wx → wx.ownsMap Try.prog 3 unitElem bm NN D := fun wx h => Hown3.out.kept (grow_of_below (hb.trans (h.mono hb.size)) none) (by simp)
      have hasK := HD.out.1 k
      clear y0 y1
      generalize sps[k] = x at *
      generalize hfk : f k = r at *
      clear hfk
      have HM1 := hml (wr.alloc (.cells #[.int .i64 (x.1 : Nat), .int .i64 (x.2 : Nat)] 45)) ((Below.refl _ _).alloc (Nat.le_refl _) _)
      have Hss := Lib.hid hss
      have Hrow := Lib.hid hrow
      have Hb := Lib.hid hb
      clear hss hrow hb hml
      cases r
      case false =>
        go_wp2_with (first
          | (at_lookup; refine wpList_lookup_own_unit _ rfl _ _ 96 rfl 3 98 law3 Try.underlying96 (Try.zeroValue98 _) bm NN D rfl HM1 _ _ rfl (keyOf_int_mk Try.underlying3 (wf_nat k (by omega))) ?_; rw [hasK])
          | go_in)
        have hss := Hss.out
        rw [if_neg (by decide), List.append_nil] at hss
        refine ⟨⟨k + 1, by omega, by go_num, ?_, ?_⟩, by simp [intOf]; omega⟩
        · rw [hss]; exact (Hrow.out.alloc _).alloc _
        · exact (Hb.out.alloc Hb.out.size _).alloc (by have := Hb.out.size; simp; omega) _
      case true =>
        have hbz := Hb.out.size
        go_wp2_with (first
          | (at_lookup; refine wpList_lookup_own_unit _ rfl _ _ 96 rfl 3 98 law3 Try.underlying96 (Try.zeroValue98 _) bm NN D rfl HM1 _ _ rfl (keyOf_int_mk Try.underlying3 (wf_nat k (by omega))) ?_; rw [hasK])
          | (at_builtin; refine wpList_append_own _ rfl _ _ 23 rfl w3.heap.size 45 i0 _ 2 16 Try.underlying23 hi0 hz0 hz1 hz2 rfl (by decide) _ _ _ rfl (((Hrow.out.alloc _).alloc _).alloc _) ⟨wr.heap.size + 1 + 1, 0, none⟩ 1 1 [.int .i64 (x.1 : Nat), .int .i64 (x.2 : Nat)] rfl rfl ?d1 ?d2 ?d3 ?d4 ?d5 ?_)
          | go_in)
        case d2 => exact ⟨rfl, rfl⟩
        case d3 => unfold maxLen; omega
        case d4 => omega
        case d5 => first | omega | (simp; omega)
        intro v' w4 hown4 hgrow _
        have hb4 := (((Hb.out.alloc Hb.out.size (.cells #[.int .i64 (x.1 : Nat), .int .i64 (x.2 : Nat)] 45)).alloc (by simp; omega) (.cells #[] 98)).alloc (by simp; omega) (.cells #[.int .i64 (x.1 : Nat), .int .i64 (x.2 : Nat)] 45)).grown hgrow (by simp; omega) (fun j hj => (Hrow.out.lt j hj).1)
        have hrow4 : w4.ownsRow w3.heap.size 45 2 v' (sel sps f (k + 1)).length (spC (sel sps f (k + 1))) := by
          have hss := Hss.out
          simp only [↓reduceIte] at hss
          rw [hss, spC_snoc, List.length_append]
          exact hown4
        have Hrow4 := Lib.hid hrow4
        have Hb4 := Lib.hid hb4
        clear hown4 hgrow hb4 hrow4
        go_wp2
        go_roundw
        case rel => exact ⟨k + 1, by omega, by go_num, Hrow4.out, Hb4.out⟩
        case measure => simp [intOf]; omega
    · obtain rfl : k = sps.length := by omega
      have Hrow := Lib.hid hrow
      have Hb := Lib.hid (Hb3.out.trans (hb.mono Hb3.out.size))
      have Hle := Lib.hid Hb3.out.size
      clear hrow hb
      go_wp2
      go_ret
      have hbase : wr.ownsRow w.heap.size 45 2 u8 (sel sps f sps.length).length (spC (sel sps f sps.length)) := row_base Hrow.out Hle.out
      exact ⟨_, rfl, by rw [Fin.out]; exact hbase, Hb.out⟩
end Go.Proofs.Ytjfconddkfihcaa.Mk
