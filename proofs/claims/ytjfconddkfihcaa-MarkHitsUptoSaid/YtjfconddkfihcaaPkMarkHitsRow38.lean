/- The document's Spans, MarkSpans: the walks (printed by gen_mkv.py). -/
import Derived.Test.YtjfconddkfihcaaPkMarkHitsRow37
import Derived.Test.YtjfconddkfihcaaPkMarkHitsRow24
import Derived.Test.YtjfconddkfihcaaPkMarkHitsRow26
import Derived.Test.YtjfconddkfihcaaMatchRPk
section
namespace Go.Proofs.Ytjfconddkfihcaa.Mk
open Go.RowKit Go.Proofs.Ytjfconddkfihcaa Go.Proofs.Ytjfconddkfihcaa.Ut Go.Proofs.Ytjfconddkfihcaa.Tk Go.Proofs.Ytjfconddkfihcaa.Qy
set_option maxRecDepth 20000
set_option linter.unusedSimpArgs false

set_option maxHeartbeats 6400000 in
theorem rspans_any (q : Q) (hq : QSz q) (a0 a1 a2 a3 : Value) (name s : ByteArray) (hs : s.size ≤ 1048576) (w : World) (hQ : QAt w w.heap.size q [a0, a1, a2, a3]) :
    Calls Try.prog 23 #[.agg #[a0, a1, a2, a3], .string name, .string s] w (RSp w (spansQ q name s)) := by
  obtain ⟨i0, hi0, hz0, hz1, hz2⟩ := info_parts rspan_info
  have hcnt := sp_count s.data.toList
  rw [bsize] at hcnt
  have hwl := sp_words s.data.toList
  have cw := fun wx => words_ref s wx hs
  have cr := fun wx => runs_ref s wx hs
  have hTl := Nat.le_trans (words_len s) hs
  have cm := marks_any name (Tk.words s.data.toList) hTl (words_small s) q hq
  have Fin : Hid (spansQ q name s = sel (sp s.data.toList 0 none) (fun i => markB name (Tk.words s.data.toList) i q) (sp s.data.toList 0 none).length) := rfl
  generalize spansQ q name s = res at *
  generalize sp s.data.toList 0 none = sps at *
  generalize Tk.words s.data.toList = T at *
  obtain ⟨k0, nm, WA, m, wc, CA, n1, c2, e⟩ := (show ∃ k nm A n c C m d, [a0, a1, a2, a3] = [.int .i64 k, .string nm, .slice A n c, .slice C m d] by cases hQ; exact ⟨_, _, _, _, _, _, _, _, rfl⟩)
  simp only [List.cons.injEq, and_true] at e
  obtain ⟨rfl, rfl, rfl, rfl⟩ := e
  have hb1 : Below w.heap.size w (w.alloc (.cells #[.int .i64 k0, .string nm, .slice WA m wc, .slice CA n1 c2] 37)) := (Below.refl _ _).alloc (Nat.le_refl _) _
  have hB1 := Blk.new w 37 #[.int .i64 k0, .string nm, .slice WA m wc, .slice CA n1 c2]
  have hz1' : w.heap.size < (w.alloc (.cells #[.int .i64 k0, .string nm, .slice WA m wc, .slice CA n1 c2] 37)).heap.size := by simp
  have HQ1 := Lib.hid (hQ.grow hb1)
  have Hb1 := Lib.hid hb1
  have HB1 := Lib.hid hB1
  have CW := Lib.hid cw
  have CR := Lib.hid cr
  have CM := Lib.hid cm
  have Hwl := Lib.hid hwl
  clear hQ hb1 hB1 cw cr cm hq hwl
  generalize hff : (fun i => markB name T i q) = f at *
  have Hff : Hid (∀ i, markB name T i q = f i) := Lib.hid (fun i => congrFun hff i)
  clear hff
  go_enter Try.func23, Try.ntmps23
  go_wp2_with fail
  generalize hw1 : (w.alloc (.cells #[.int .i64 k0, .string nm, .slice WA m wc, .slice CA n1 c2] 37)) = w1 at *
  clear hw1
  have hcells : ∀ wx, Below w1.heap.size w1 wx → wx.cell? ⟨w.heap.size, 0, none⟩ = some (.int .i64 k0) ∧ wx.cell? ⟨w.heap.size, 1, none⟩ = some (.string nm) ∧ wx.cell? ⟨w.heap.size, 2, none⟩ = some (.slice WA m wc) ∧ wx.cell? ⟨w.heap.size, 3, none⟩ = some (.slice CA n1 c2) := fun wx hC =>
    have hB := HB1.out.below hC hz1'
    ⟨hB.cell 0, hB.cell 1, hB.cell 2, hB.cell 3⟩
  have Hcells := Lib.hid hcells
  clear hcells HB1
  refine (CW.out _).mono ?_
  rintro e w2 ⟨v2, rfl, hown2, hb2⟩
  obtain ⟨A2, d2, rfl, hR2⟩ := own_shape hown2
  have HR2 := Lib.hid hR2
  have Hb2 := Lib.hid hb2
  clear hown2 hR2 hb2 CW
  go_wp2_with fail
  refine (CR.out _).mono ?_
  rintro e w3 ⟨v3, rfl, hown3, hb3⟩
  obtain ⟨A3, d3, rfl, hR3⟩ := own_shape hown3
  have HR3 := Lib.hid hR3
  have HR23 := Lib.hid (reads_grow hb3 HR2.out)
  have Hb3 := Lib.hid (Hb2.out.trans (hb3.mono Hb2.out.size))
  clear hown3 hR3 hb3 CR Hb2 HR2
  go_wp2_with fail
  go_loopw [7, 10] (fun v i wr => ∃ k : Nat, k ≤ sps.length ∧ i = .int .i64 k ∧ wr.ownsRow w3.heap.size 90 2 v (sel sps f k).length (spC (sel sps f k)) ∧ Below w3.heap.size w3 wr) (fun _ i _ => sps.length - (intOf i).toNat)
  case atStart => exact ⟨0, Nat.zero_le _, rfl, World.ownsRow_nil _ _ _ _, Below.refl _ _⟩
  case round =>
    obtain ⟨k, hk, rfl, hrow, hb⟩ := hrel
    have hTk : ∀ P : Prop, (T.length = sps.length → P) → P := fun P h => h (by rw [Hwl.out])
    by_cases hlt : k < sps.length
    · obtain ⟨b, o, rfl, hbb, y0, y1⟩ := spans_at HR3.out hlt
      have hk1 : (k : Int) < (sps.length : Int) := by omega
      have hk0 : (0 : Int) ≤ (k : Int) := by omega
      have hk2 : (k : Int) < (T.length : Int) := by have := Hwl.out; omega
      have hkT : k < T.length := by omega
      have hss := sel_succ sps f k hlt
      have hsl := sel_len sps f k
      have hall := Hb3.out.trans (hb.mono Hb3.out.size)
      have hSw := Hcells.out wr hall
      have c1 := CM.out k hkT A2 d2 wr _ _ _ _ (HQ1.out.grow hall) (reads_grow hb HR23.out)
      rw [Hff.out] at c1
      have hget : ∀ wx, Below wr.heap.size wr wx → wx.cell? ⟨b, o + k * 2, none⟩ = some (.int .i64 (sps[k].1 : Nat)) ∧ wx.cell? ⟨b, o + k * 2 + 1, none⟩ = some (.int .i64 (sps[k].2 : Nat)) := fun wx hC =>
        have h := hb.trans (hC.mono hb.size)
        ⟨(h.cell (p := ⟨b, o + k * 2, none⟩) hbb).trans y0, (h.cell (p := ⟨b, o + k * 2 + 1, none⟩) hbb).trans y1⟩
      clear y0 y1 hall hkT
      generalize sps[k] = x at *
      generalize hfk : f k = r at *
      clear hfk
      have Hget := Lib.hid hget
      have Hss := Lib.hid hss
      have Hrow := Lib.hid hrow
      have Hb := Lib.hid hb
      clear hss hrow hb hget hTk
      cases r
      case false =>
        go_wp2_with fail
        refine c1.mono ?_
        rintro e w4 ⟨rfl, hb4⟩
        have hss := Hss.out
        rw [if_neg (by decide), List.append_nil] at hss
        have Hrow4 : Hid (w4.ownsRow w3.heap.size 90 2 u7 (sel sps f (k + 1)).length (spC (sel sps f (k + 1)))) := Lib.hid (by rw [hss]; exact Hrow.out.kept (grow_of_below hb4 none) (by cases hv : u7.ownBlock <;> simp))
        have Hb4 := Lib.hid (Hb.out.trans (hb4.mono Hb.out.size))
        clear hb4 c1 hss
        go_wp2
        go_roundw
        case rel => exact ⟨k + 1, by omega, by go_num, Hrow4.out, Hb4.out⟩
        case measure => simp [intOf]; omega
      case true =>
        go_wp2_with fail
        refine c1.mono ?_
        rintro e w4 ⟨rfl, hb4⟩
        have hrow4 : w4.ownsRow w3.heap.size 90 2 u7 (sel sps f k).length (spC (sel sps f k)) := Hrow.out.kept (grow_of_below hb4 none) (by cases hv : u7.ownBlock <;> simp)
        have g0 := (Hget.out w4 hb4).1
        have g1 := (Hget.out w4 hb4).2
        have Hb4 := Lib.hid (Hb.out.trans (hb4.mono Hb.out.size))
        have hbz := Hb4.out.size
        clear hb4 c1
        go_wp2_with (first
          | (at_builtin; refine wpList_append_own _ rfl _ _ 26 rfl w3.heap.size 90 i0 _ 2 16 Try.underlying26 hi0 hz0 hz1 hz2 rfl (by decide) _ _ _ rfl (hrow4.alloc _) ⟨w4.heap.size, 0, none⟩ 1 1 [.int .i64 (x.1 : Nat), .int .i64 (x.2 : Nat)] rfl rfl (World.news_of_block (cs := #[.int .i64 (x.1 : Nat), .int .i64 (x.2 : Nat)]) (t := 90) (fr := (0, 0)) (heap_alloc_new w4 _)) ?d2 ?d3 ?d4 ?d5 ?_))
        case d2 => intro u hu; simp at hu; rcases hu with rfl | rfl <;> rfl
        case d3 => unfold maxLen; omega
        case d4 => omega
        case d5 => first | omega | (simp; omega)
        intro v' w5 hown5 hgrow _
        have hb5 := (Hb4.out.alloc hbz (.cells #[.int .i64 (x.1 : Nat), .int .i64 (x.2 : Nat)] 90)).grown hgrow (by simp; omega) (fun j hj => (hrow4.lt j hj).1)
        have hrow5 : w5.ownsRow w3.heap.size 90 2 v' (sel sps f (k + 1)).length (spC (sel sps f (k + 1))) := by
          have hss := Hss.out
          simp only [↓reduceIte] at hss
          rw [hss, spC_snoc, List.length_append]
          exact hown5
        have Hrow5 := Lib.hid hrow5
        have Hb5 := Lib.hid hb5
        clear hown5 hgrow hb5 hrow5 hrow4 g0 g1
        go_wp2
        go_roundw
        case rel => exact ⟨k + 1, by omega, by go_num, Hrow5.out, Hb5.out⟩
        case measure => simp [intOf]; omega
    · obtain rfl : k = sps.length := by omega
      have hk2 : (T.length : Int) ≤ (sps.length : Int) := by have := Hwl.out; omega
      have Hrow := Lib.hid hrow
      have Hb := Lib.hid (Hb1.out.trans ((Hb3.out.trans (hb.mono Hb3.out.size)).mono Hb1.out.size))
      have Hle := Lib.hid (Nat.le_trans Hb1.out.size Hb3.out.size)
      clear hrow hb hTk
      go_wp2
      go_ret
      have hbase : wr.ownsRow w.heap.size 90 2 u7 (sel sps f sps.length).length (spC (sel sps f sps.length)) := row_base Hrow.out Hle.out
      exact ⟨_, rfl, by rw [Fin.out]; exact hbase, Hb.out⟩

theorem sel_ok {n : Nat} : ∀ {l : List (Nat × Nat)} {e : Nat}, okS e n l → True := fun _ => trivial
end Go.Proofs.Ytjfconddkfihcaa.Mk
end

section
/- MarkSpans: the law's walk. -/
namespace Go.Proofs.Ytjfconddkfihcaa.Mk
open Go.RowKit Go.Proofs.Ytjfconddkfihcaa Go.Proofs.Ytjfconddkfihcaa.Ut Go.Proofs.Ytjfconddkfihcaa.Tk Go.Proofs.Ytjfconddkfihcaa.Qy
set_option maxRecDepth 20000
set_option linter.unusedSimpArgs false

theorem okS_weak {n : Nat} : ∀ {l : List (Nat × Nat)} {e e' : Nat}, e ≤ e' → okS e' n l → okS e n l
  | [], _, _, _, _ => trivial
  | _ :: _, _, _, h, hk => ⟨Nat.le_trans h hk.1, hk.2⟩
theorem sel_cons (x : Nat × Nat) (t : List (Nat × Nat)) (f : Nat → Bool) (k : Nat) : sel (x :: t) f (k + 1) = (if f 0 then [x] else []) ++ sel t (fun i => f (i + 1)) k := by
  unfold sel
  rw [List.range_succ_eq_map, List.filterMap_cons, List.filterMap_map]
  cases h : f 0 <;> simp [Function.comp_def]
theorem sel_okS {n : Nat} : ∀ {l : List (Nat × Nat)} {e : Nat} (f : Nat → Bool), okS e n l → okS e n (sel l f l.length)
  | [], _, _, _ => trivial
  | x :: t, e, f, h => by
    rw [List.length_cons, sel_cons]
    obtain ⟨h1, h2, h3, h4⟩ := h
    have ih := sel_okS (fun i => f (i + 1)) h4
    cases f 0
    · exact okS_weak (by omega) ih
    · exact ⟨h1, h2, h3, ih⟩
theorem spansQ_ok (q : Q) (name s : ByteArray) : okS 0 s.size (spansQ q name s) ∧ (spansQ q name s).length ≤ s.size := by
  have h := spans_ok s.data.toList
  rw [bsize] at h
  have hc := sp_count s.data.toList
  rw [bsize] at hc
  refine ⟨sel_okS _ h, ?_⟩
  have := sel_len (sp s.data.toList 0 none) (fun i => markB name (Tk.words s.data.toList) i q) (sp s.data.toList 0 none).length
  unfold spansQ
  omega

set_option maxHeartbeats 6400000 in
theorem markSpans_walk (q : Q) (hq : QSz q) (a0 a1 a2 a3 : Value) (name s0 : ByteArray) (w : World) (hs : s0.size ≤ 140737488351232) (hQ : QAt w w.heap.size q [a0, a1, a2, a3]) :
    Calls Try.prog 4 #[.agg #[a0, a1, a2, a3], .string name, .string s0] w fun e w' => e = .returned (.bool true) ∧ Below w.heap.size w w' := by
  have k1 := fun w => mcut_any s0 w hs
  have zs0 := ct_size 400 s0
  generalize ct 400 s0 = s at *
  obtain ⟨hok, hcnt⟩ := spansQ_ok q name s
  have c1 := fun (hw : wq q ≤ 300) b0 b1 b2 b3 wx (h : QAt wx wx.heap.size q [b0, b1, b2, b3]) => spans_any q (by omega) b0 b1 b2 b3 name s (by omega) wx h
  have c2 := fun b0 b1 b2 b3 wx (h : QAt wx wx.heap.size q [b0, b1, b2, b3]) => rspans_any q hq b0 b1 b2 b3 name s (by omega) wx h
  have hck : chk 0 s.size (zs (spansQ q name s)) = true := by have := chk_zs (e := 0) hok; simpa using this
  have hzl : (zs (spansQ q name s)).length = (spansQ q name s).length := by simp [zs]
  have c4 := fun (A : Option Addr) (c : Nat) wx (hR : Reads wx wx.heap.size 2 A (spansQ q name s).length (spC (spansQ q name s))) => check_any s A c (zs (spansQ q name s)) (by omega) wx (by rw [hzl, ← spC_zs]; exact hR)
  simp only [hck, hzl] at c4
  generalize spansQ q name s = sps at *
  obtain ⟨k0, nm, WA, m, wc, CA, n1, c2', e⟩ := (show ∃ k nm A n c C m d, [a0, a1, a2, a3] = [.int .i64 k, .string nm, .slice A n c, .slice C m d] by cases hQ; exact ⟨_, _, _, _, _, _, _, _, rfl⟩)
  simp only [List.cons.injEq, and_true] at e
  obtain ⟨rfl, rfl, rfl, rfl⟩ := e
  have hb1 : Below w.heap.size w (w.alloc (.cells #[.int .i64 k0, .string nm, .slice WA m wc, .slice CA n1 c2'] 37)) := (Below.refl _ _).alloc (Nat.le_refl _) _
  have hB1 := Blk.new w 37 #[.int .i64 k0, .string nm, .slice WA m wc, .slice CA n1 c2']
  have hz1' : w.heap.size < (w.alloc (.cells #[.int .i64 k0, .string nm, .slice WA m wc, .slice CA n1 c2'] 37)).heap.size := by simp
  have hf := rfew_any q hq _ _ _ _ _ (hQ.grow hb1)
  have HQ1 := Lib.hid (hQ.grow hb1)
  have Hb1 := Lib.hid hb1
  have HB1 := Lib.hid hB1
  have Hf := Lib.hid hf
  have C1 := Lib.hid c1
  have C2 := Lib.hid c2
  have C4 := Lib.hid c4
  have K1 := Lib.hid k1
  clear hQ hb1 hB1 c1 c2 c4 hok hck hzl hf k1 hq
  go_enter Try.func4, Try.ntmps4
  go_wp2_with fail
  generalize hw1 : (w.alloc (.cells #[.int .i64 k0, .string nm, .slice WA m wc, .slice CA n1 c2'] 37)) = w1 at *
  clear hw1
  have hcells : ∀ wx, Below w1.heap.size w1 wx → wx.cell? ⟨w.heap.size, 0, none⟩ = some (.int .i64 k0) ∧ wx.cell? ⟨w.heap.size, 1, none⟩ = some (.string nm) ∧ wx.cell? ⟨w.heap.size, 2, none⟩ = some (.slice WA m wc) ∧ wx.cell? ⟨w.heap.size, 3, none⟩ = some (.slice CA n1 c2') := fun wx hC =>
    have hB := HB1.out.below hC hz1'
    ⟨hB.cell 0, hB.cell 1, hB.cell 2, hB.cell 3⟩
  have Hcells := Lib.hid hcells
  clear hcells HB1
  refine Hf.out.mono ?_
  rintro e w2 ⟨⟨t, rfl, ht⟩, hb2⟩
  have Ht := Lib.hid ht
  have Hb2 := Lib.hid hb2
  have hS2 := Hcells.out w2 hb2
  have HQ2 := Lib.hid (HQ1.out.grow hb2)
  clear Hf ht hb2
  cases t with
  | false =>
    clear hS2
    go_wp2_with fail
    refine (awake_any _).mono ?_
    rintro e w3 ⟨rfl, hb3⟩
    have Hb3 := Lib.hid (Hb1.out.trans ((Hb2.out.trans (hb3.mono Hb2.out.size)).mono Hb1.out.size))
    clear hb3
    go_wp2
    go_ret
    exact ⟨rfl, Hb3.out⟩
  | true =>
    have hwq := Ht.out rfl
    have c1 := C1.out hwq _ _ _ _ w2 HQ2.out
    have Hc1 := Lib.hid c1
    clear C1 c1 hwq Ht
    go_wp2_with fail
    refine (K1.out _).mono ?_
    rintro e w3 ⟨rfl, hw3⟩
    subst hw3
    clear K1
    go_wp2_with fail
    refine Hc1.out.mono ?_
    rintro e w3 ⟨v3, rfl, hown3, hb3⟩
    obtain ⟨A3, d3, rfl, hR3⟩ := own_shape hown3
    have HR3 := Lib.hid hR3
    have hS3 := Hcells.out w3 (Hb2.out.trans (hb3.mono Hb2.out.size))
    have c2 := C2.out _ _ _ _ w3 (HQ2.out.grow hb3)
    have Hc2 := Lib.hid c2
    have Hb3 := Lib.hid (Hb2.out.trans (hb3.mono Hb2.out.size))
    clear hown3 hR3 hb3 Hc1 hS2 C2 c2 Hb2
    go_wp2_with fail
    refine Hc2.out.mono ?_
    rintro e w4 ⟨v4, rfl, hown4, hb4⟩
    obtain ⟨A4, d4, rfl, hR4⟩ := own_shape hown4
    have HR34 := Lib.hid (reads_grow hb4 HR3.out)
    have Hb4 := Lib.hid (Hb3.out.trans (hb4.mono Hb3.out.size))
    have c5 := same_spans A3 A4 d3 d4 sps w4 HR34.out hR4 (by omega)
    have Hc5 := Lib.hid c5
    clear hown4 hR4 hb4 Hc2 hS3 Hb3 HR3 c5
    go_wp2_with fail
    refine Hc5.out.mono ?_
    rintro e w5 ⟨rfl, hb5⟩
    have c6 := C4.out A3 d3 w5 (reads_grow hb5 HR34.out)
    have Hc6 := Lib.hid c6
    have Hb5 := Lib.hid (Hb4.out.trans (hb5.mono Hb4.out.size))
    clear hb5 Hc5 Hb4 HR34 C4 c6
    go_wp2_with fail
    refine Hc6.out.mono ?_
    rintro e w6 ⟨rfl, hb6⟩
    have Hb6 := Lib.hid (Hb5.out.trans (hb6.mono Hb5.out.size))
    clear hb6 Hc6 Hb5
    go_wp2_with fail
    refine (awake_any _).mono ?_
    rintro e w7 ⟨rfl, hb7⟩
    have Hb7 := Lib.hid (Hb1.out.trans ((Hb6.out.trans (hb7.mono Hb6.out.size)).mono Hb1.out.size))
    clear hb7 Hb6
    go_wp2
    go_ret
    exact ⟨rfl, Hb7.out⟩
end Go.Proofs.Ytjfconddkfihcaa.Mk
end

section
/- MarkHits: the law's walk (printed by gen_hitf.py). -/
namespace Go.Proofs.Ytjfconddkfihcaa.Mk
open Go.RowKit Go.Proofs.Ytjfconddkfihcaa Go.Proofs.Ytjfconddkfihcaa.Ut Go.Proofs.Ytjfconddkfihcaa.Tk Go.Proofs.Ytjfconddkfihcaa.Qy
set_option maxRecDepth 20000
set_option linter.unusedSimpArgs false

theorem spansQ_few (q : Q) (name s : ByteArray) (hs : s.size ≤ 1048576) : (spansQ q name s).length ≤ 1048576 := Nat.le_trans (spansQ_ok q name s).2 hs

set_option maxHeartbeats 12800000 in
theorem markHits_walk (q : Q) (hq : QSz q) (ht : QTx 1048576 q) (a0 a1 a2 a3 : Value) (t : Int) (F : Option Addr) (fn fc : Nat) (fs : List (ByteArray × ByteArray)) (w : World) (hQ : QAt w w.heap.size q [a0, a1, a2, a3]) (hF : EvAt w F fn fs) (hfn6 : fn ≤ 1048576) :
    Calls Try.prog 6 #[.agg #[a0, a1, a2, a3], .agg #[.int .i64 t, .slice F fn fc]] w fun e w' => e = .returned (.bool true) ∧ Below w.heap.size w w' := by
  obtain ⟨k0, nm, WA, m, wc, CA, n1, c2', e'⟩ := (show ∃ k nm A n c C m d, [a0, a1, a2, a3] = [.int .i64 k, .string nm, .slice A n c, .slice C m d] by cases hQ; exact ⟨_, _, _, _, _, _, _, _, rfl⟩)
  simp only [List.cons.injEq, and_true] at e'
  obtain ⟨rfl, rfl, rfl, rfl⟩ := e'
  have hbq : Below w.heap.size w (w.alloc (.cells #[.int .i64 k0, .string nm, .slice WA m wc, .slice CA n1 c2'] 37)) := (Below.refl _ _).alloc (Nat.le_refl _) _
  have hb1 : Below w.heap.size w ((w.alloc (.cells #[.int .i64 k0, .string nm, .slice WA m wc, .slice CA n1 c2'] 37)).alloc (.cells #[.int .i64 t, .slice F fn fc] 49)) := hbq.alloc hbq.size _
  have z1 : (w.alloc (.cells #[.int .i64 k0, .string nm, .slice WA m wc, .slice CA n1 c2'] 37)).heap.size = w.heap.size + 1 := by simp
  have hB1 := ((Blk.new w 37 #[.int .i64 k0, .string nm, .slice WA m wc, .slice CA n1 c2']).alloc (.cells #[.int .i64 t, .slice F fn fc] 49))
  have hE1 := Blk.new (w.alloc (.cells #[.int .i64 k0, .string nm, .slice WA m wc, .slice CA n1 c2'] 37)) 49 #[.int .i64 t, .slice F fn fc]
  rw [z1] at hE1
  have hlen := hF.len
  have HQ1 := Lib.hid (hQ.grow hb1)
  have HF1 := Lib.hid (hF.grow hb1)
  have Hb1 := Lib.hid hb1
  have HB1 := Lib.hid hB1
  have HE1 := Lib.hid hE1
  have Hlen := Lib.hid hlen
  have z2 : w.heap.size + 1 < (World.heap ((w.alloc (.cells #[.int .i64 k0, .string nm, .slice WA m wc, .slice CA n1 c2'] 37)).alloc (.cells #[.int .i64 t, .slice F fn fc] 49))).size := by simp
  clear hQ hF hbq hb1 z1 hB1 hE1 hlen
  go_enter Try.func6, Try.ntmps6
  go_wp2_with fail
  generalize hw1 : ((w.alloc (.cells #[.int .i64 k0, .string nm, .slice WA m wc, .slice CA n1 c2'] 37)).alloc (.cells #[.int .i64 t, .slice F fn fc] 49)) = w1 at *
  clear hw1
  have hcells : ∀ wx, Below w1.heap.size w1 wx → wx.cell? ⟨w.heap.size, 0, none⟩ = some (.int .i64 k0) ∧ wx.cell? ⟨w.heap.size, 1, none⟩ = some (.string nm) ∧ wx.cell? ⟨w.heap.size, 2, none⟩ = some (.slice WA m wc) ∧ wx.cell? ⟨w.heap.size, 3, none⟩ = some (.slice CA n1 c2') ∧ wx.cell? ⟨w.heap.size + 1, 0, none⟩ = some (.int .i64 t) ∧ wx.cell? ⟨w.heap.size + 1, 1, none⟩ = some (.slice F fn fc) := fun wx hC =>
    have hB := HB1.out.below hC (by omega)
    have hE := HE1.out.below hC z2
    ⟨hB.cell 0, hB.cell 1, hB.cell 2, hB.cell 3, hE.cell 0, hE.cell 1⟩
  have Hcells := Lib.hid hcells
  clear hcells HB1 HE1
  refine (rfew_any q hq _ _ _ _ _ HQ1.out).mono ?_
  rintro e w2 ⟨⟨tt, rfl, hw⟩, hb2⟩
  have Hw := Lib.hid hw
  have Hb2 := Lib.hid hb2
  have hS2 := Hcells.out w2 hb2
  clear hw hb2
  cases tt with
  | false =>
    clear hS2
    go_wp2_with fail
    refine (awake_any _).mono ?_
    rintro e w9 ⟨rfl, hb9⟩
    have Hb9 := Lib.hid (Hb1.out.trans ((Hb2.out.trans (hb9.mono Hb2.out.size)).mono Hb1.out.size))
    clear hb9
    go_wp2
    go_ret
    exact ⟨rfl, Hb9.out⟩
  | true =>
    have hwq := Hw.out rfl
    have C1 : Hid (∀ (wx : World) (name s : ByteArray), s.size ≤ 1048576 → QAt wx wx.heap.size q [.int .i64 k0, .string nm, .slice WA m wc, .slice CA n1 c2'] → Calls Try.prog 22 #[.agg #[.int .i64 k0, .string nm, .slice WA m wc, .slice CA n1 c2'], .string name, .string s] wx (SpPost wx (spansQ q name s))) := Lib.hid (fun wx name s hs h => spans_any q (by omega) _ _ _ _ name s hs wx h)
    clear hwq Hw
    go_wp2_with fail
    refine (light_any t F fn fc fs _ (HF1.out.grow Hb2.out)).mono ?_
    rintro e w3 ⟨⟨t3, rfl⟩, hb3⟩
    have Hb3 := Lib.hid (Hb2.out.trans (hb3.mono Hb2.out.size))
    have hS3 := Hcells.out w3 Hb3.out
    clear hb3 Hb2 hS2
    cases t3 with
    | false =>
      clear hS3
      go_wp2_with fail
      refine (awake_any _).mono ?_
      rintro e w9 ⟨rfl, hb9⟩
      have Hb9 := Lib.hid (Hb1.out.trans ((Hb3.out.trans (hb9.mono Hb3.out.size)).mono Hb1.out.size))
      clear hb9
      go_wp2
      go_ret
      exact ⟨rfl, Hb9.out⟩
    | true =>
      go_wp2_with fail
      refine (hcheck_any q hq ht _ _ _ _ _ (HQ1.out.grow Hb3.out)).mono ?_
      rintro e w4 ⟨⟨r4, rfl, hand⟩, hb4⟩
      have Hand := Lib.hid hand
      have Hb4 := Lib.hid (Hb3.out.trans (hb4.mono Hb3.out.size))
      have hS4 := Hcells.out w4 Hb4.out
      clear hb4 Hb3 hS3 hand
      by_cases hr : r4 = 0
      · have hA := Hand.out hr
        have HA := Lib.hid hA
        subst hr
        clear hA Hand
        go_wp2_with fail
        refine (plain_any q hq _ _ _ _ _ (HQ1.out.grow Hb4.out)).mono ?_
        rintro e w5 ⟨⟨t5, rfl, hpl⟩, hb5⟩
        have Hpl := Lib.hid hpl
        have Hb5 := Lib.hid (Hb4.out.trans (hb5.mono Hb4.out.size))
        have hS5 := Hcells.out w5 Hb5.out
        clear hb5 Hb4 hS4 hpl
        cases t5 with
        | false =>
          clear hS5
          go_wp2_with fail
          refine (awake_any _).mono ?_
          rintro e w9 ⟨rfl, hb9⟩
          have Hb9 := Lib.hid (Hb1.out.trans ((Hb5.out.trans (hb9.mono Hb5.out.size)).mono Hb1.out.size))
          clear hb9
          go_wp2
          go_ret
          exact ⟨rfl, Hb9.out⟩
        | true =>
          have HP := Lib.hid (Hpl.out rfl)
          clear Hpl
          go_wp2_with fail
          refine (rmatch_any fs q hq _ _ _ _ _ t F fn fc (HQ1.out.grow Hb5.out) (HF1.out.grow Hb5.out)).mono ?_
          rintro e w6 ⟨rfl, hb6⟩
          have Hb6 := Lib.hid (Hb5.out.trans (hb6.mono Hb5.out.size))
          clear hb6 Hb5 hS5
          have hpos : matchB fs q = true → ∃ f ∈ fs, 0 < (spansQ q f.1 f.2).length := fun h => by
            obtain ⟨f, hf, i, hi, hm⟩ := match_marks fs q HP.out HA.out h
            exact ⟨f, hf, spans_pos q f.1 f.2 i hi hm⟩
          have Hpos := Lib.hid hpos
          clear hpos HP HA
          generalize matchB fs q = mb at *
          cases mb with
          | false =>
            go_wp2_with fail
            refine (awake_any _).mono ?_
            rintro e w9 ⟨rfl, hb9⟩
            have Hb9 := Lib.hid (Hb1.out.trans ((Hb6.out.trans (hb9.mono Hb6.out.size)).mono Hb1.out.size))
            clear hb9
            go_wp2
            go_ret
            exact ⟨rfl, Hb9.out⟩
          | true =>
            have HQ6 := Lib.hid (HQ1.out.grow Hb6.out)
            have HF6 := Lib.hid (HF1.out.grow Hb6.out)
            have Hb0 := Lib.hid (Hb1.out.trans (Hb6.out.mono Hb1.out.size))
            have hcells : ∀ wx, Below w6.heap.size w6 wx → wx.cell? ⟨w.heap.size, 0, none⟩ = some (.int .i64 k0) ∧ wx.cell? ⟨w.heap.size, 1, none⟩ = some (.string nm) ∧ wx.cell? ⟨w.heap.size, 2, none⟩ = some (.slice WA m wc) ∧ wx.cell? ⟨w.heap.size, 3, none⟩ = some (.slice CA n1 c2') ∧ wx.cell? ⟨w.heap.size + 1, 0, none⟩ = some (.int .i64 t) ∧ wx.cell? ⟨w.heap.size + 1, 1, none⟩ = some (.slice F fn fc) := fun wx hC => Hcells.out wx (Hb6.out.trans (hC.mono Hb6.out.size))
            have Hcells6 := Lib.hid hcells
            clear hcells HQ1 HF1 Hb1 Hb6 Hcells
            go_wp2_with fail
            go_loopw [5, 6] (fun v i wr => ∃ (j z : Nat), j ≤ fn ∧ i = .int .i64 (j : Nat) ∧ v = .int .i64 (z : Nat) ∧ z ≤ j * 1048576 ∧ Hid ((∃ f ∈ fs.take j, 0 < (spansQ q f.1 f.2).length) → 0 < z) ∧ Below w6.heap.size w6 wr) (fun _ i _ => fn - (intOf i).toNat)
            case atStart => exact ⟨0, 0, Nat.zero_le _, rfl, rfl, Nat.zero_le _, Lib.hid (fun ⟨f, hf, _⟩ => by simp at hf), Below.refl _ _⟩
            case round =>
              obtain ⟨j, z, hj, rfl, rfl, hz, hS, hb⟩ := hrel
              have Hb := Lib.hid hb
              by_cases hlt : j < fn
              · have hjl : j < fs.length := by rw [Hlen.out]; exact hlt
                have hji : (j : Int) < (fn : Int) := by omega
                have hji0 : (0 : Int) ≤ (j : Int) := by omega
                have hz6 : z ≤ 1099511627776 := Nat.le_trans hz (by have := Nat.mul_le_mul_right 1048576 (show j ≤ 1048576 by omega); omega)
                obtain ⟨tb, tq, rfl, htb, hc1, hc2⟩ := fields_at (reads_grow hb HF6.out.rd) (k := j) hjl
                have hsz := HF6.out.sz _ (List.getElem_mem hjl)
                have hfew := spansQ_few q fs[j].1 fs[j].2 hsz
                have Hnx : Hid ((∃ f ∈ fs.take (j + 1), 0 < (spansQ q f.1 f.2).length) → 0 < z + (spansQ q fs[j].1 fs[j].2).length) := Lib.hid (fun ⟨f, hf, h⟩ => by
                  rw [List.take_succ_eq_append_getElem hjl, List.mem_append] at hf
                  rcases hf with hf | hf
                  · have := hS.out ⟨f, hf, h⟩; omega
                  · rw [List.mem_singleton] at hf; rw [hf] at h; omega)
                have hcells : ∀ wx, Below wr.heap.size wr wx → wx.cell? ⟨w.heap.size, 0, none⟩ = some (.int .i64 k0) ∧ wx.cell? ⟨w.heap.size, 1, none⟩ = some (.string nm) ∧ wx.cell? ⟨w.heap.size, 2, none⟩ = some (.slice WA m wc) ∧ wx.cell? ⟨w.heap.size, 3, none⟩ = some (.slice CA n1 c2') ∧ wx.cell? ⟨w.heap.size + 1, 1, none⟩ = some (.slice (some ⟨tb, tq, none⟩) fn fc) ∧ wx.cell? ⟨tb, tq + j * 2, none⟩ = some (.string fs[j].1) ∧ wx.cell? ⟨tb, tq + j * 2 + 1, none⟩ = some (.string fs[j].2) := fun wx hC =>
                  have h := Hcells6.out wx (Hb.out.trans (hC.mono Hb.out.size))
                  ⟨h.1, h.2.1, h.2.2.1, h.2.2.2.1, h.2.2.2.2.2, (hC.cell (p := ⟨tb, tq + j * 2, none⟩) htb).trans hc1, (hC.cell (p := ⟨tb, tq + j * 2 + 1, none⟩) htb).trans hc2⟩
                have HcellsR := Lib.hid hcells
                have cs := fun wx (hC : Below wr.heap.size wr wx) => C1.out wx fs[j].1 fs[j].2 hsz (HQ6.out.grow (Hb.out.trans (hC.mono Hb.out.size)))
                have CS := Lib.hid cs
                have hS0 := hcells wr (Below.refl _ _)
                clear hcells cs hb hc1 hc2 hS hlt hsz
                generalize spansQ q fs[j].1 fs[j].2 = sps at *
                generalize fs[j].1 = s1 at *
                generalize fs[j].2 = s2 at *
                have hzn : z + sps.length ≤ (j + 1) * 1048576 := by rw [Nat.add_mul]; omega
                have hwr : IntKind.i64.wrap ((z : Int) + (sps.length : Int)) = ((z + sps.length : Nat) : Int) := by rw [IntWalk.i64_in _ (by omega)]; omega
                go_upto_region 7 with (fail)
                refine wp_region_grow (specOf [(14, ⟨Option Addr × Nat, fun x => .slice x.1 sps.length x.2, fun _ _ => True⟩)]) (fun wx => Below (World.heap wr).size wr wx) (fun w1 w2 => Below w1.heap.size w1 w2) (by kernel_rfl) (by kernel_rfl) (stab_cons (fun _ _ _ _ h => h) (stab_nil)) (Below.refl _ _).drew ?_
                refine grow_fix 1 ?_ rfl (by rfl) (by rfl) (fun wx hC hD => ?_) ?_
                rotate_left
                · have hSw := HcellsR.out wx hC
                  go_simp
                  all_goals with_reducible rfl
                try simp only [Act.put, List.setIfInBounds_toArray, List.set_cons_zero, List.set_cons_succ]
                refine grow_fix 2 ?_ rfl (by rfl) (by rfl) (fun wx hC hD => ?_) ?_
                rotate_left
                · have hSw := HcellsR.out wx hC
                  go_simp
                  all_goals with_reducible rfl
                try simp only [Act.put, List.setIfInBounds_toArray, List.set_cons_zero, List.set_cons_succ]
                refine grow_fix 3 ?_ rfl (by rfl) (by rfl) (fun wx hC hD => ?_) ?_
                rotate_left
                · have hSw := HcellsR.out wx hC
                  go_simp
                  all_goals with_reducible rfl
                try simp only [Act.put, List.setIfInBounds_toArray, List.set_cons_zero, List.set_cons_succ]
                refine grow_fix 4 ?_ rfl (by rfl) (by rfl) (fun wx hC hD => ?_) ?_
                rotate_left
                · have hSw := HcellsR.out wx hC
                  go_simp
                  all_goals with_reducible rfl
                try simp only [Act.put, List.setIfInBounds_toArray, List.set_cons_zero, List.set_cons_succ]
                refine grow_fix 5 ?_ rfl (by rfl) (by rfl) (fun wx hC hD => ?_) ?_
                rotate_left
                · have hSw := HcellsR.out wx hC
                  go_simp
                  all_goals with_reducible rfl
                try simp only [Act.put, List.setIfInBounds_toArray, List.set_cons_zero, List.set_cons_succ]
                refine grow_fix 6 ?_ rfl (by rfl) (by rfl) (fun wx hC hD => ?_) ?_
                rotate_left
                · have hSw := HcellsR.out wx hC
                  go_simp
                  all_goals with_reducible rfl
                try simp only [Act.put, List.setIfInBounds_toArray, List.set_cons_zero, List.set_cons_succ]
                refine grow_fix 7 ?_ rfl (by rfl) (by rfl) (fun wx hC hD => ?_) ?_
                rotate_left
                · have hSw := HcellsR.out wx hC
                  go_simp
                  all_goals with_reducible rfl
                try simp only [Act.put, List.setIfInBounds_toArray, List.set_cons_zero, List.set_cons_succ]
                refine grow_fix 8 ?_ rfl (by rfl) (by rfl) (fun wx hC hD => ?_) ?_
                rotate_left
                · have hSw := HcellsR.out wx hC
                  go_simp
                  all_goals with_reducible rfl
                try simp only [Act.put, List.setIfInBounds_toArray, List.set_cons_zero, List.set_cons_succ]
                refine grow_fix 9 ?_ rfl (by rfl) (by rfl) (fun wx hC hD => ?_) ?_
                rotate_left
                · have hSw := HcellsR.out wx hC
                  go_simp
                  all_goals with_reducible rfl
                try simp only [Act.put, List.setIfInBounds_toArray, List.set_cons_zero, List.set_cons_succ]
                refine grow_fix 10 ?_ rfl (by rfl) (by rfl) (fun wx hC hD => ?_) ?_
                rotate_left
                · have hSw := HcellsR.out wx hC
                  go_simp
                  all_goals with_reducible rfl
                try simp only [Act.put, List.setIfInBounds_toArray, List.set_cons_zero, List.set_cons_succ]
                refine grow_fix 11 ?_ rfl (by rfl) (by rfl) (fun wx hC hD => ?_) ?_
                rotate_left
                · have hSw := HcellsR.out wx hC
                  go_simp
                  all_goals with_reducible rfl
                try simp only [Act.put, List.setIfInBounds_toArray, List.set_cons_zero, List.set_cons_succ]
                refine grow_fix 12 ?_ rfl (by rfl) (by rfl) (fun wx hC hD => ?_) ?_
                rotate_left
                · have hSw := HcellsR.out wx hC
                  go_simp
                  all_goals with_reducible rfl
                try simp only [Act.put, List.setIfInBounds_toArray, List.set_cons_zero, List.set_cons_succ]
                refine grow_fix 13 ?_ rfl (by rfl) (by rfl) (fun wx hC hD => ?_) ?_
                rotate_left
                · have hSw := HcellsR.out wx hC
                  go_simp
                  all_goals with_reducible rfl
                try simp only [Act.put, List.setIfInBounds_toArray, List.set_cons_zero, List.set_cons_succ]
                refine grow_fix 14 ?_ rfl (by rfl) (by rfl) (fun wx hC hD => ?_) ?_
                rotate_left
                · have hSw := HcellsR.out wx hC
                  go_simp
                  all_goals with_reducible rfl
                try simp only [Act.put, List.setIfInBounds_toArray, List.set_cons_zero, List.set_cons_succ]
                refine grow_give 15 _ rfl (by rfl) (by rfl) (fun wx hC hD => ?_) (fun x => ?_)
                · refine give_enter (f := ?_) (args := ?_) ?_ ?_
                  rotate_left 2
                  · have hSw := HcellsR.out wx hC
                    go_simp
                    all_goals first | with_reducible rfl | (refine ⟨?_, ?_⟩ <;> with_reducible rfl)
                  refine (CS.out wx hC).mono ?_
                  rintro e w1 ⟨v1, rfl, hown1, hb1⟩
                  obtain ⟨B1, d1, rfl, hQ1⟩ := own_shape hown1
                  exact ⟨_, rfl, hb1, hC.trans (hb1.mono hC.size), (B1, d1), rfl, trivial⟩
                obtain ⟨B9, d9⟩ := x
                try simp only [Act.put, List.setIfInBounds_toArray, List.set_cons_zero, List.set_cons_succ]
                refine grow_fix 16 ?_ rfl (by rfl) (by rfl) (fun wx hC hD => ?_) ?_
                rotate_left
                · have hSw := HcellsR.out wx hC
                  go_simp
                  all_goals with_reducible rfl
                try simp only [Act.put, List.setIfInBounds_toArray, List.set_cons_zero, List.set_cons_succ]
                refine grow_fix 17 ?_ rfl (by rfl) (by rfl) (fun wx hC hD => ?_) ?_
                rotate_left
                · have hSw := HcellsR.out wx hC
                  go_simp
                  all_goals with_reducible rfl
                try simp only [Act.put, List.setIfInBounds_toArray, List.set_cons_zero, List.set_cons_succ]
                refine grow_fix 18 ?_ rfl (by rfl) (by rfl) (fun wx hC hD => ?_) ?_
                rotate_left
                · have hSw := HcellsR.out wx hC
                  go_simp
                  all_goals with_reducible rfl
                try simp only [Act.put, List.setIfInBounds_toArray, List.set_cons_zero, List.set_cons_succ]
                refine grow_nil (fun w9 hC hF => ?_)
                clear hF
                go_wp2
                go_roundw
                case rel => exact ⟨j + 1, z + sps.length, by omega, by go_num, rfl, hzn, Hnx, Hb.out.trans (hC.mono Hb.out.size)⟩
                case measure => simp [intOf]; omega
              · have hji : (fn : Int) ≤ (j : Int) := by omega
                have ej : j = fs.length := by rw [Hlen.out]; omega
                have hzp : 0 < z := hS.out (by rw [ej, List.take_length]; exact Hpos.out (by trivial))
                have hzp' : (0 : Int) < (z : Int) := by omega
                have hS0 := Hcells6.out wr hb
                clear hb hS ej hlt
                go_wp2_with fail
                refine (awake_any _).mono ?_
                rintro e w9 ⟨rfl, hb9⟩
                have Hb9 := Lib.hid (Hb0.out.trans ((Hb.out.trans (hb9.mono Hb.out.size)).mono Hb0.out.size))
                clear hb9
                go_wp2
                go_ret
                exact ⟨rfl, Hb9.out⟩
      · have hr' : (r4 != 0) = true := by simpa using hr
        clear hS4
        go_wp2_with fail
        refine (awake_any _).mono ?_
        rintro e w9 ⟨rfl, hb9⟩
        have Hb9 := Lib.hid (Hb1.out.trans ((Hb4.out.trans (hb9.mono Hb4.out.size)).mono Hb1.out.size))
        clear hb9
        go_wp2
        go_ret
        exact ⟨rfl, Hb9.out⟩
end Go.Proofs.Ytjfconddkfihcaa.Mk
end
