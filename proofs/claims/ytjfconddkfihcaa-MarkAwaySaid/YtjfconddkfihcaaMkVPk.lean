/- The document's Spans, MarkSpans: the walks (printed by gen_mkv.py). -/
import Derived.Test.YtjfconddkfihcaaMkUPk
namespace Go.Proofs.Ytjfconddkfihcaa.Mk
open Go.RowKit Go.Proofs.Ytjfconddkfihcaa Go.Proofs.Ytjfconddkfihcaa.Ut Go.Proofs.Ytjfconddkfihcaa.Tk Go.Proofs.Ytjfconddkfihcaa.Qy
set_option maxRecDepth 20000
set_option linter.unusedSimpArgs false

set_option maxHeartbeats 6400000 in
theorem rspans_any (q : Q) (hq : QSz q) (a0 a1 a2 a3 : Value) (name s : ByteArray) (hs : s.size ≤ 1000000) (w : World) (hQ : QAt w w.heap.size q [a0, a1, a2, a3]) :
    Calls Try.prog 23 #[.agg #[a0, a1, a2, a3], .string name, .string s] w (RSp w (spansQ q name s)) := by
  obtain ⟨i0, hi0, hz0, hz1, hz2⟩ := info_parts rspan_info
  have hcnt := sp_count s.data.toList
  rw [bsize] at hcnt
  have hwl := sp_words s.data.toList
  have cw := fun wx => words_ref s wx hs
  have cr := fun wx => runs_ref s wx hs
  have hTl := Nat.le_trans (words_len s) hs
  have cm := marks_any name (Tk.words s.data.toList) hTl (words_small s) q hq
  have Fin : Hid (spansQ q name s = sel (sp s.data.toList 0 none) (fun i => markB name (Tk.words s.data.toList) i q) (sp s.data.toList 0 none).length) := rfl
  generalize spansQ q name s = res at *
  generalize sp s.data.toList 0 none = sps at *
  generalize Tk.words s.data.toList = T at *
  obtain ⟨k0, nm, WA, m, wc, CA, n1, c2, e⟩ := (show ∃ k nm A n c C m d, [a0, a1, a2, a3] = [.int .i64 k, .string nm, .slice A n c, .slice C m d] by cases hQ; exact ⟨_, _, _, _, _, _, _, _, rfl⟩)
  simp only [List.cons.injEq, and_true] at e
  obtain ⟨rfl, rfl, rfl, rfl⟩ := e
  have hb1 : Below w.heap.size w (w.alloc (.cells #[.int .i64 k0, .string nm, .slice WA m wc, .slice CA n1 c2] 37)) := (Below.refl _ _).alloc (Nat.le_refl _) _
  have hB1 := Blk.new w 37 #[.int .i64 k0, .string nm, .slice WA m wc, .slice CA n1 c2]
  have hz1' : w.heap.size < (w.alloc (.cells #[.int .i64 k0, .string nm, .slice WA m wc, .slice CA n1 c2] 37)).heap.size := by simp
  have HQ1 := Lib.hid (hQ.grow hb1)
  have Hb1 := Lib.hid hb1
  have HB1 := Lib.hid hB1
  have CW := Lib.hid cw
  have CR := Lib.hid cr
  have CM := Lib.hid cm
  have Hwl := Lib.hid hwl
  clear hQ hb1 hB1 cw cr cm hq hwl
  generalize hff : (fun i => markB name T i q) = f at *
  have Hff : Hid (∀ i, markB name T i q = f i) := Lib.hid (fun i => congrFun hff i)
  clear hff
  go_enter Try.func23, Try.ntmps23
  go_wp2_with fail
  generalize hw1 : (w.alloc (.cells #[.int .i64 k0, .string nm, .slice WA m wc, .slice CA n1 c2] 37)) = w1 at *
  clear hw1
  have hcells : ∀ wx, Below w1.heap.size w1 wx → wx.cell? ⟨w.heap.size, 0, none⟩ = some (.int .i64 k0) ∧ wx.cell? ⟨w.heap.size, 1, none⟩ = some (.string nm) ∧ wx.cell? ⟨w.heap.size, 2, none⟩ = some (.slice WA m wc) ∧ wx.cell? ⟨w.heap.size, 3, none⟩ = some (.slice CA n1 c2) := fun wx hC =>
    have hB := HB1.out.below hC hz1'
    ⟨hB.cell 0, hB.cell 1, hB.cell 2, hB.cell 3⟩
  have Hcells := Lib.hid hcells
  clear hcells HB1
  refine (CW.out _).mono ?_
  rintro e w2 ⟨v2, rfl, hown2, hb2⟩
  obtain ⟨A2, d2, rfl, hR2⟩ := own_shape hown2
  have HR2 := Lib.hid hR2
  have Hb2 := Lib.hid hb2
  clear hown2 hR2 hb2 CW
  go_wp2_with fail
  refine (CR.out _).mono ?_
  rintro e w3 ⟨v3, rfl, hown3, hb3⟩
  obtain ⟨A3, d3, rfl, hR3⟩ := own_shape hown3
  have HR3 := Lib.hid hR3
  have HR23 := Lib.hid (reads_grow hb3 HR2.out)
  have Hb3 := Lib.hid (Hb2.out.trans (hb3.mono Hb2.out.size))
  clear hown3 hR3 hb3 CR Hb2 HR2
  go_wp2_with fail
  go_loopw [7, 10] (fun v i wr => ∃ k : Nat, k ≤ sps.length ∧ i = .int .i64 k ∧ wr.ownsRow w3.heap.size 90 2 v (sel sps f k).length (spC (sel sps f k)) ∧ Below w3.heap.size w3 wr) (fun _ i _ => sps.length - (intOf i).toNat)
  case atStart => exact ⟨0, Nat.zero_le _, rfl, World.ownsRow_nil _ _ _ _, Below.refl _ _⟩
  case round =>
    obtain ⟨k, hk, rfl, hrow, hb⟩ := hrel
    have hTk : ∀ P : Prop, (T.length = sps.length → P) → P := fun P h => h (by rw [Hwl.out])
    by_cases hlt : k < sps.length
    · obtain ⟨b, o, rfl, hbb, y0, y1⟩ := spans_at HR3.out hlt
      have hk1 : (k : Int) < (sps.length : Int) := by omega
      have hk0 : (0 : Int) ≤ (k : Int) := by omega
      have hk2 : (k : Int) < (T.length : Int) := by have := Hwl.out; omega
      have hkT : k < T.length := by omega
      have hss := sel_succ sps f k hlt
      have hsl := sel_len sps f k
      have hall := Hb3.out.trans (hb.mono Hb3.out.size)
      have hSw := Hcells.out wr hall
      have c1 := CM.out k hkT A2 d2 wr _ _ _ _ (HQ1.out.grow hall) (reads_grow hb HR23.out)
      rw [Hff.out] at c1
      have hget : ∀ wx, Below wr.heap.size wr wx → wx.cell? ⟨b, o + k * 2, none⟩ = some (.int .i64 (sps[k].1 : Nat)) ∧ wx.cell? ⟨b, o + k * 2 + 1, none⟩ = some (.int .i64 (sps[k].2 : Nat)) := fun wx hC =>
        have h := hb.trans (hC.mono hb.size)
        ⟨(h.cell (p := ⟨b, o + k * 2, none⟩) hbb).trans y0, (h.cell (p := ⟨b, o + k * 2 + 1, none⟩) hbb).trans y1⟩
      clear y0 y1 hall hkT
      generalize sps[k] = x at *
      generalize hfk : f k = r at *
      clear hfk
      have Hget := Lib.hid hget
      have Hss := Lib.hid hss
      have Hrow := Lib.hid hrow
      have Hb := Lib.hid hb
      clear hss hrow hb hget hTk
      cases r
      case false =>
        go_wp2_with fail
        refine c1.mono ?_
        rintro e w4 ⟨rfl, hb4⟩
        have hss := Hss.out
        rw [if_neg (by decide), List.append_nil] at hss
        have Hrow4 : Hid (w4.ownsRow w3.heap.size 90 2 u7 (sel sps f (k + 1)).length (spC (sel sps f (k + 1)))) := Lib.hid (by rw [hss]; exact Hrow.out.kept (grow_of_below hb4 none) (by cases hv : u7.ownBlock <;> simp))
        have Hb4 := Lib.hid (Hb.out.trans (hb4.mono Hb.out.size))
        clear hb4 c1 hss
        go_wp2
        go_roundw
        case rel => exact ⟨k + 1, by omega, by go_num, Hrow4.out, Hb4.out⟩
        case measure => simp [intOf]; omega
      case true =>
        go_wp2_with fail
        refine c1.mono ?_
        rintro e w4 ⟨rfl, hb4⟩
        have hrow4 : w4.ownsRow w3.heap.size 90 2 u7 (sel sps f k).length (spC (sel sps f k)) := Hrow.out.kept (grow_of_below hb4 none) (by cases hv : u7.ownBlock <;> simp)
        have g0 := (Hget.out w4 hb4).1
        have g1 := (Hget.out w4 hb4).2
        have Hb4 := Lib.hid (Hb.out.trans (hb4.mono Hb.out.size))
        have hbz := Hb4.out.size
        clear hb4 c1
        go_wp2_with (first
          | (at_builtin; refine wpList_append_own _ rfl _ _ 26 rfl w3.heap.size 90 i0 _ 2 16 Try.underlying26 hi0 hz0 hz1 hz2 rfl (by decide) _ _ _ rfl (hrow4.alloc _) ⟨w4.heap.size, 0, none⟩ 1 1 [.int .i64 (x.1 : Nat), .int .i64 (x.2 : Nat)] rfl rfl (World.news_of_block (cs := #[.int .i64 (x.1 : Nat), .int .i64 (x.2 : Nat)]) (t := 90) (fr := (0, 0)) (heap_alloc_new w4 _)) ?d2 ?d3 ?d4 ?d5 ?_))
        case d2 => intro u hu; simp at hu; rcases hu with rfl | rfl <;> rfl
        case d3 => unfold maxLen; omega
        case d4 => omega
        case d5 => first | omega | (simp; omega)
        intro v' w5 hown5 hgrow _
        have hb5 := (Hb4.out.alloc hbz (.cells #[.int .i64 (x.1 : Nat), .int .i64 (x.2 : Nat)] 90)).grown hgrow (by simp; omega) (fun j hj => (hrow4.lt j hj).1)
        have hrow5 : w5.ownsRow w3.heap.size 90 2 v' (sel sps f (k + 1)).length (spC (sel sps f (k + 1))) := by
          have hss := Hss.out
          simp only [↓reduceIte] at hss
          rw [hss, spC_snoc, List.length_append]
          exact hown5
        have Hrow5 := Lib.hid hrow5
        have Hb5 := Lib.hid hb5
        clear hown5 hgrow hb5 hrow5 hrow4 g0 g1
        go_wp2
        go_roundw
        case rel => exact ⟨k + 1, by omega, by go_num, Hrow5.out, Hb5.out⟩
        case measure => simp [intOf]; omega
    · obtain rfl : k = sps.length := by omega
      have hk2 : (T.length : Int) ≤ (sps.length : Int) := by have := Hwl.out; omega
      have Hrow := Lib.hid hrow
      have Hb := Lib.hid (Hb1.out.trans ((Hb3.out.trans (hb.mono Hb3.out.size)).mono Hb1.out.size))
      have Hle := Lib.hid (Nat.le_trans Hb1.out.size Hb3.out.size)
      clear hrow hb hTk
      go_wp2
      go_ret
      have hbase : wr.ownsRow w.heap.size 90 2 u7 (sel sps f sps.length).length (spC (sel sps f sps.length)) := row_base Hrow.out Hle.out
      exact ⟨_, rfl, by rw [Fin.out]; exact hbase, Hb.out⟩

theorem sel_ok {n : Nat} : ∀ {l : List (Nat × Nat)} {e : Nat}, okS e n l → True := fun _ => trivial
end Go.Proofs.Ytjfconddkfihcaa.Mk
