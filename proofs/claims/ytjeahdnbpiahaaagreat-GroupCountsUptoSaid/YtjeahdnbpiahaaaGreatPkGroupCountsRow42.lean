/- match.Count, the document's Docs: the walks. -/
import Derived.Lib.SlicesS
import Derived.Test.YtjeahdnbpiahaaaGreatPkGroupCountsRow34
import Derived.Test.YtjeahdnbpiahaaaGreatPkGroupCountsRow3
import Derived.Test.YtjeahdnbpiahaaaGreatPkGroupCountsRow21
import Derived.Test.YtjeahdnbpiahaaaGreatMatchBPk
section
namespace Go.Proofs.YtjeahdnbpiahaaaGreat.Qy
open Go.RowKit Go.Proofs.YtjeahdnbpiahaaaGreat Go.Proofs.YtjeahdnbpiahaaaGreat.Ut Go.Proofs.YtjeahdnbpiahaaaGreat.Tk
set_option maxRecDepth 20000
set_option linter.unusedSimpArgs false

set_option maxHeartbeats 3200000 in
theorem docs_ref (q : Q) (hq : QSz q) (a0 a1 a2 a3 : Value) (A : Option Addr) (n c : Nat) (ds : List Dc) (w : World) (hQ : QAt w w.heap.size q [a0, a1, a2, a3]) (hD : DocsAt w w.heap.size A n ds) (hn : n ≤ 1048576) (hS : Small ds) :
    Calls Tryz.prog 26 #[.agg #[a0, a1, a2, a3], .slice A n c] w (DocRd w (ds.filter fun d => matchB d.fs q)) := by
  obtain ⟨i0, hi0, hz0, hz1, hz2x⟩ := info_parts doc_info
  obtain ⟨k0, nm, ws, l⟩ := q
  obtain ⟨WA, m, wc, CA, n1, c2, e, _⟩ := hQ.is
  simp only [List.cons.injEq, and_true] at e
  obtain ⟨rfl, rfl, rfl, rfl⟩ := e
  have hb1 : Below w.heap.size w (w.alloc (.cells #[.int .i64 k0, .string nm, .slice WA m wc, .slice CA n1 c2] 27)) := (Below.refl _ _).alloc (Nat.le_refl _) _
  have hB1 := Blk.new w 27 #[.int .i64 k0, .string nm, .slice WA m wc, .slice CA n1 c2]
  have hQ1 := hQ.grow hb1
  have hD1 := hD.grow hb1
  have hz1' : w.heap.size < (w.alloc (.cells #[.int .i64 k0, .string nm, .slice WA m wc, .slice CA n1 c2] 27)).heap.size := by simp
  have hM := fun d (_ : d ∈ ds) => rmatch_any d.fs (.mk k0 nm ws l) hq
  have HQ1 := Lib.hid hQ1
  have HD1 := Lib.hid hD1
  have HB1 := Lib.hid hB1
  have Hb1 := Lib.hid hb1
  have HM := Lib.hid hM
  have HS := Lib.hid hS
  have Hl := Lib.hid hD.ln
  have hS0 := DocsOwn.start (w.alloc (.cells #[.int .i64 k0, .string nm, .slice WA m wc, .slice CA n1 c2] 27))
  have HS0 := Lib.hid hS0
  clear hQ hD hb1 hB1 hQ1 hD1 hM hS hS0 hq
  generalize hg : (fun d : Dc => matchB d.fs (.mk k0 nm ws l)) = g at *
  have Hg := Lib.hid hg
  clear hg
  go_enter Tryz.func26, Tryz.ntmps26
  go_wp2_with fail
  generalize hw1 : (w.alloc (.cells #[.int .i64 k0, .string nm, .slice WA m wc, .slice CA n1 c2] 27)) = w1 at *
  clear hw1
  go_loopw [5, 6] (fun v i wr => ∃ k : Nat, k ≤ n ∧ i = .int .i64 k ∧ DocsOwn w1 wr v ((ds.take k).filter g)) (fun _ i _ => n - (intOf i).toNat)
  case atStart => exact ⟨0, Nat.zero_le _, rfl, HS0.out⟩
  case round =>
    obtain ⟨k, hk, rfl, hO⟩ := hrel
    have HO := Lib.hid hO
    clear hO
    by_cases hlt : k < n
    · have hkl : k < ds.length := by rw [Hl.out]; exact hlt
      obtain ⟨b, o, F, fn, fc, rfl, hb, hc0, hc1, hc2, hR, hfl, hfn, hfc, hnil⟩ := (HD1.out.keep fun _ _ hp => HO.out.bel.cell hp).at_ hkl
      have hsm := HS.out _ (List.getElem_mem hkl)
      have hts := filter_take_succ ds g k hkl
      have hmt := HM.out _ (List.getElem_mem hkl)
      have hgd : g ds[k] = matchB ds[k].fs (.mk k0 nm ws l) := by rw [← Hg.out]
      have hBr := HB1.out.below HO.out.bel hz1'
      have hQr := HQ1.out.grow HO.out.bel
      have hlen := filter_take_len ds g k
      rw [Hl.out] at hlen
      have hzz := HO.out.bel.size
      have hbr : b < wr.heap.size := by omega
      have c1 := fun wx (hC : Below wr.heap.size wr wx) => hmt wx _ _ _ _ ds[k].at_ F fn fc (hQr.grow hC) (EvAt.grow ⟨hR.more hzz, hfl, by omega, hsm.2⟩ hC)
      rw [← hgd] at c1
      have hlq := hBr.lt
      have hcells : ∀ wx, Below wr.heap.size wr wx → wx.cell? ⟨w.heap.size, 0, none⟩ = some (.int .i64 k0) ∧ wx.cell? ⟨w.heap.size, 1, none⟩ = some (.string nm) ∧ wx.cell? ⟨w.heap.size, 2, none⟩ = some (.slice WA m wc) ∧ wx.cell? ⟨w.heap.size, 3, none⟩ = some (.slice CA n1 c2) ∧
          wx.cell? ⟨b, o + k * 3, none⟩ = some (.int .i64 ds[k].seq) ∧ wx.cell? ⟨b, o + k * 3 + 1, none⟩ = some (.int .i64 ds[k].at_) ∧ wx.cell? ⟨b, o + k * 3 + 2, none⟩ = some (.slice F fn fc) := fun wx hC =>
        ⟨(hBr.below hC hlq).cell 0, (hBr.below hC hlq).cell 1, (hBr.below hC hlq).cell 2, (hBr.below hC hlq).cell 3, (hC.cell (p := ⟨b, o + k * 3, none⟩) hbr).trans hc0, (hC.cell (p := ⟨b, o + k * 3 + 1, none⟩) hbr).trans hc1, (hC.cell (p := ⟨b, o + k * 3 + 2, none⟩) hbr).trans hc2⟩
      have hfar : 0 < fn → ∃ b' o', F = some ⟨b', o', none⟩ ∧ b' < w1.heap.size := fun h => by
        obtain ⟨b', o', e, h1, _⟩ := hR.2 h
        exact ⟨b', o', e, h1⟩
      have hdc : DcV wr wr.heap.size ds[k] [.int .i64 ds[k].seq, .int .i64 ds[k].at_, .slice F fn fc] := ⟨F, fn, fc, rfl, hR.more hzz, hfl, hfn, hfc, hnil⟩
      have hix0 : (0 : Int) ≤ (k : Int) := by omega
      have hix1 : (k : Int) < (n : Int) := by omega
      have Hts := Lib.hid hts
      have C1 := Lib.hid c1
      have hcells' := Lib.hid hcells
      have Hfar := Lib.hid hfar
      have Hdc := Lib.hid hdc
      clear hts hmt hgd hBr hQr hR hfl hsm hnil c1 hcells hfar hdc hc0 hc1 hc2
      generalize g ds[k] = r at *
      generalize ds[k].seq = s at *
      generalize ds[k].at_ = a at *
      generalize ds[k] = d at *
      generalize (ds.take k).filter g = out at *
      go_wp2_with fail
      refine wp_region_grow (specOf [(6, ⟨Unit, fun _ => (.bool r), fun _ _ => True⟩)]) (fun wx => Below (World.heap wr).size wr wx) (fun w1 w2 => Below w1.heap.size w1 w2) (by kernel_rfl) (by kernel_rfl) (stab_cons (fun _ _ _ _ h => h) (stab_nil)) (Below.refl _ _).drew ?_
      refine grow_fix 1 ?_ rfl (by rfl) (by rfl) (fun wx hC hD => ?_) ?_
      rotate_left
      · have hSw := hcells'.out wx hC
        go_simp
        all_goals with_reducible rfl
      try simp only [Act.put, List.setIfInBounds_toArray, List.set_cons_zero, List.set_cons_succ]
      refine grow_fix 2 ?_ rfl (by rfl) (by rfl) (fun wx hC hD => ?_) ?_
      rotate_left
      · have hSw := hcells'.out wx hC
        go_simp
        all_goals with_reducible rfl
      try simp only [Act.put, List.setIfInBounds_toArray, List.set_cons_zero, List.set_cons_succ]
      refine grow_fix 3 ?_ rfl (by rfl) (by rfl) (fun wx hC hD => ?_) ?_
      rotate_left
      · have hSw := hcells'.out wx hC
        go_simp
        all_goals with_reducible rfl
      try simp only [Act.put, List.setIfInBounds_toArray, List.set_cons_zero, List.set_cons_succ]
      refine grow_fix 4 ?_ rfl (by rfl) (by rfl) (fun wx hC hD => ?_) ?_
      rotate_left
      · have hSw := hcells'.out wx hC
        go_simp
        all_goals with_reducible rfl
      try simp only [Act.put, List.setIfInBounds_toArray, List.set_cons_zero, List.set_cons_succ]
      refine grow_fix 5 ?_ rfl (by rfl) (by rfl) (fun wx hC hD => ?_) ?_
      rotate_left
      · have hSw := hcells'.out wx hC
        go_simp
        all_goals with_reducible rfl
      try simp only [Act.put, List.setIfInBounds_toArray, List.set_cons_zero, List.set_cons_succ]
      refine grow_fix 6 ?_ rfl (by rfl) (by rfl) (fun wx hC hD => ?_) ?_
      rotate_left
      · have hSw := hcells'.out wx hC
        go_simp
        all_goals with_reducible rfl
      try simp only [Act.put, List.setIfInBounds_toArray, List.set_cons_zero, List.set_cons_succ]
      refine grow_give 7 _ rfl (by rfl) (by rfl) (fun wx hC hD => ?_) (fun x => ?_)
      · refine give_enter (f := ?_) (args := ?_) ?_ ?_
        rotate_left 2
        · have hSw := hcells'.out wx hC
          go_simp
          all_goals first | with_reducible rfl | (refine ⟨?_, ?_⟩ <;> with_reducible rfl)
        exact calls_cst hC (C1.out wx hC)
      obtain ⟨⟩ := x
      try simp only [Act.put, List.setIfInBounds_toArray, List.set_cons_zero, List.set_cons_succ]
      refine grow_nil (fun w2 hC hF => ?_)
      have hbw2 := hC
      have HO2 := Lib.hid (HO.out.below hbw2)
      have Hbw2 := Lib.hid hbw2
      have hd := hcells'.out w2 hC
      obtain ⟨_, _, _, _, hd0, hd1, hd2⟩ := hd
      have hz2 := hbw2.size
      have hb2 : b < w2.heap.size := by omega
      clear hF hC hbw2
      cases r with
      | false =>
        have Hts2 : Hid ((ds.take (k + 1)).filter g = out) := Lib.hid (by rw [Hts.out]; simp)
        go_wp2
        go_roundw
        case rel => exact ⟨k + 1, by omega, by go_num, by rw [Hts2.out]; exact HO2.out⟩
        case measure => simp [intOf]; omega
      | true =>
        have Hts2 : Hid ((ds.take (k + 1)).filter g = out ++ [d]) := Lib.hid (by rw [Hts.out]; simp)
        have hal : Below w2.heap.size w2 (w2.alloc (.cells #[.int .i64 s, .int .i64 a, .slice F fn fc] 48)) := (Below.refl _ _).alloc (Nat.le_refl _) _
        have hO3 := HO2.out.below hal
        obtain ⟨vss, g1, g2, g3⟩ := hO3.ex
        have hput : ∀ v' w5, w5.ownsRow w1.heap.size 48 3 v' (out.length + 1) (vss.flatten ++ [.int .i64 s, .int .i64 a, .slice F fn fc]) → ((w2.alloc (.cells #[.int .i64 s, .int .i64 a, .slice F fn fc] 48))).grownBy w5 u5.ownBlock → DocsOwn w1 w5 v' (out ++ [d]) :=
          fun v' w5 h1 h2 => hO3.put ⟨vss, g1, g2, g3, rfl⟩ h1 h2 ((Hdc.out.keep fun _ _ hp => (Hbw2.out.trans (hal.mono hz2)).cell hp).more (by have := hal.size; omega)) (fun F' fn' fc' hv hn' => by
            simp only [List.getElem?_cons_succ, List.getElem?_cons_zero, Option.some.injEq, Value.slice.injEq] at hv
            obtain ⟨rfl, rfl, rfl⟩ := hv
            obtain ⟨b', o', e, h⟩ := Hfar.out hn'
            exact ⟨b', o', e, .inl h⟩)
        have Hput := Lib.hid hput
        have hzw : w1.heap.size ≤ w2.heap.size := by omega
        clear hput g1 g3 hO3 hal
        go_wp2_with (at_builtin; refine wpList_append_own _ rfl _ _ 22 rfl w1.heap.size 48 i0 _ 3 40 Tryz.underlying22 hi0 hz0 hz1 hz2x rfl (by decide) _ _ _ rfl g2 ⟨w2.heap.size, 0, none⟩ 1 1 [.int .i64 s, .int .i64 a, .slice F fn fc] rfl rfl ?d1 ?d2 ?d3 ?d4 ?d5 ?_)
        try (case d1 => exact World.news_of_block (cs := #[.int .i64 s, .int .i64 a, .slice F fn fc]) (t := 48) (fr := (0, 0)) (heap_alloc_new w2 _))
        case d2 => first | (intro u hu; simp at hu; rcases hu with rfl | rfl | rfl <;> rfl) | rfl | simp [Value.oneCell']
        case d3 => unfold maxLen; omega
        case d4 => omega
        case d5 => first | omega | (simp; omega)
        intro v' w5 hown5 hg5 _
        have Fin := Lib.hid (Hput.out v' w5 hown5 hg5)
        clear hown5 hg5
        go_wp2
        go_roundw
        case rel => exact ⟨k + 1, by omega, by go_num, by rw [Hts2.out]; exact Fin.out⟩
        case measure => simp [intOf]; omega
    · obtain rfl : k = n := by omega
      have Fin : Hid ((ds.take k).filter g = ds.filter g) := Lib.hid (by rw [List.take_of_length_le (by rw [Hl.out]; exact Nat.le_refl _)])
      rw [Fin.out] at HO
      have Hfin := Lib.hid (HO.out.rd (Hb1.out.trans (HO.out.bel.mono Hb1.out.size)))
      go_wp2
      go_ret
      exact Hfin.out
end Go.Proofs.YtjeahdnbpiahaaaGreat.Qy
end

section
/- What a query needs. No program. -/
namespace Go.Proofs.YtjeahdnbpiahaaaGreat.Qy
open Go.RowKit Go.Proofs.YtjeahdnbpiahaaaGreat

mutual
/-- How large a query is. -/
def wq : Q → Nat
  | .mk _ _ ws l => 1 + ws.length + wqs l
def wqs : List Q → Nat
  | [] => 0
  | q :: l => wq q + wqs l
end
theorem wq_eq (k : Int) (nm : ByteArray) (ws : List ByteArray) (l : List Q) : wq (.mk k nm ws l) = 1 + ws.length + wqs l := by rw [wq]
theorem wqs_append : ∀ a b, wqs (a ++ b) = wqs a + wqs b
  | [], b => by simp [wqs]
  | q :: a, b => by rw [List.cons_append, wqs, wqs, wqs_append a b]; omega
theorem wqs_take (l : List Q) (k : Nat) (h : k < l.length) : wqs (l.take (k + 1)) = wqs (l.take k) + wq l[k] := by
  rw [List.take_succ_eq_append_getElem h, wqs_append]
  simp [wqs]
theorem wqs_take_le (l : List Q) (k : Nat) : wqs (l.take k) ≤ wqs l := by
  have h := wqs_append (l.take k) (l.drop k)
  rw [List.take_append_drop] at h
  omega
theorem wqs_mem : ∀ (l : List Q) (q : Q), q ∈ l → wq q ≤ wqs l
  | x :: l, q, h => by
    rw [wqs]
    rcases List.mem_cons.1 h with rfl | h
    · omega
    · have := wqs_mem l q h
      omega
theorem wqs_pos : ∀ (l : List Q), l.length ≤ wqs l
  | [] => by simp [wqs]
  | .mk k nm ws r :: l => by
    have := wqs_pos l
    rw [wqs, wq, List.length_cons]
    omega
end Go.Proofs.YtjeahdnbpiahaaaGreat.Qy
end

section
/- loggiaref18.size, Few: the walks (printed by gen_mkr.py). -/
namespace Go.Proofs.YtjeahdnbpiahaaaGreat.Mk
open Go.RowKit Go.Proofs.YtjeahdnbpiahaaaGreat Go.Proofs.YtjeahdnbpiahaaaGreat.Ut Go.Proofs.YtjeahdnbpiahaaaGreat.Tk Go.Proofs.YtjeahdnbpiahaaaGreat.Qy
set_option maxRecDepth 20000
set_option linter.unusedSimpArgs false

def SizeOk (q : Q) : Prop := ∀ (dp z : Int), 0 ≤ dp → dp ≤ 20 → 0 ≤ z → z ≤ 300 → ∀ (w : World) (a0 a1 a2 a3 : Value), QAt w w.heap.size q [a0, a1, a2, a3] →
  Calls Tryz.prog 13 #[.agg #[a0, a1, a2, a3], .int .i64 dp, .int .i64 z] w fun e w' => (∃ r : Int, e = .returned (.int .i64 r) ∧ 0 ≤ r ∧ r ≤ 601 ∧ (r ≤ 300 → z + wq q ≤ r)) ∧ Below w.heap.size w w'

set_option maxHeartbeats 6400000 in
theorem size_step (k : Int) (nm : ByteArray) (ws : List ByteArray) (l : List Q) (hl2 : ws.length ≤ 8796093021952) (hl3 : l.length ≤ 8796093021952) (ih : ∀ x ∈ l, SizeOk x) : SizeOk (.mk k nm ws l) := by
  intro dp z0 hd0 hd20 hz0 hz300 w a0 a1 a2 a3 hQ
  obtain ⟨WA, m, wc, CA, n, c2, e, hI⟩ := hQ.is
  simp only [List.cons.injEq, and_true] at e
  obtain ⟨rfl, rfl, rfl, rfl⟩ := e
  have hb1 : Below w.heap.size w (w.alloc (.cells #[.int .i64 k, .string nm, .slice WA m wc, .slice CA n c2] 27)) := (Below.refl _ _).alloc (Nat.le_refl _) _
  have hB1 := (Blk.new w 27 #[.int .i64 k, .string nm, .slice WA m wc, .slice CA n c2])
  have hz1 : (w.alloc (.cells #[.int .i64 k, .string nm, .slice WA m wc, .slice CA n c2] 27)).heap.size = w.heap.size + 1 := by simp
  have hm : m ≤ 8796093021952 := by rw [← hI.wn]; exact hl2
  have hn : n ≤ 8796093021952 := by rw [← hI.lm]; exact hl3
  have hkid : ∀ i (h : i < l.length), ∀ (dp z : Int), 0 ≤ dp → dp ≤ 20 → 0 ≤ z → z ≤ 300 → ∀ w1, Below w.heap.size w w1 → ∃ b o A' n' c' C' m' d', CA = some ⟨b, o, none⟩ ∧ b < w.heap.size ∧
      w1.cell? ⟨b, o + i * 4, none⟩ = some (.int .i64 l[i].kind) ∧ w1.cell? ⟨b, o + i * 4 + 1, none⟩ = some (.string l[i].name) ∧ w1.cell? ⟨b, o + i * 4 + 2, none⟩ = some (.slice A' n' c') ∧ w1.cell? ⟨b, o + i * 4 + 3, none⟩ = some (.slice C' m' d') ∧
      Calls Tryz.prog 13 #[.agg #[.int .i64 l[i].kind, .string l[i].name, .slice A' n' c', .slice C' m' d'], .int .i64 dp, .int .i64 z] w1 fun e w' => (∃ r : Int, e = .returned (.int .i64 r) ∧ 0 ≤ r ∧ r ≤ 601 ∧ (r ≤ 300 → z + (wqs (l.take (i + 1)) - wqs (l.take i) : Nat) ≤ r)) ∧ Below w1.heap.size w1 w' := by
    intro i hi dp z h1 h2 h3 h4 w1 hb
    obtain ⟨tb, tq, A', n', c', C', m', d', rfl, htb, hq, hc0, hc1, hc2, hc3⟩ := hI.at_ hi
    have hx := ih _ (List.getElem_mem hi) dp z h1 h2 h3 h4 w1 _ _ _ _ (hq.grow hb)
    refine ⟨tb, tq, A', n', c', C', m', d', rfl, htb, (hb.cell (p := ⟨tb, tq + i * 4, none⟩) htb).trans hc0, (hb.cell (p := ⟨tb, tq + i * 4 + 1, none⟩) htb).trans hc1, (hb.cell (p := ⟨tb, tq + i * 4 + 2, none⟩) htb).trans hc2, (hb.cell (p := ⟨tb, tq + i * 4 + 3, none⟩) htb).trans hc3, ?_⟩
    have he : wqs (l.take (i + 1)) - wqs (l.take i) = wq l[i] := by rw [wqs_take l i hi]; omega
    rw [he]
    exact hx
  have hwd : ∀ i, i < m → ∀ w1, Below w.heap.size w w1 → ∃ b o, ∃ s : ByteArray, WA = some ⟨b, o, none⟩ ∧ b < w.heap.size ∧ w1.cell? ⟨b, o + i, none⟩ = some (.string s) := by
    intro i hi w1 hb
    obtain ⟨b, o, hl, e, hbb, hc⟩ := hI.wds.at_map hi
    exact ⟨b, o, ws[i], e, hbb, (hb.cell (p := ⟨b, o + i, none⟩) hbb).trans hc⟩
  have hmon : ∀ i, i < l.length → wqs (l.take i) ≤ wqs (l.take (i + 1)) := fun i hi => by rw [wqs_take l i hi]; omega
  have hall : wqs (l.take l.length) = wqs l := by rw [List.take_length]
  rw [hI.lm] at hall
  have hlm := hI.lm
  have hwn := hI.wn
  have HB1 := Lib.hid hB1
  have Hb1 := Lib.hid hb1
  have Hkid := Lib.hid hkid
  have Hwd := Lib.hid hwd
  have Hmon := Lib.hid hmon
  have Hall := Lib.hid hall
  have Hlm := Lib.hid hlm
  have Hwn := Lib.hid hwn
  clear hQ hB1 hb1 hI ih hl2 hl3 hkid hwd hmon hall hlm hwn
  have Fin : ∀ r : Int, (r ≤ 300 → z0 + 1 + (m : Int) + wqs l ≤ r) → (r ≤ 300 → z0 + wq (.mk k nm ws l) ≤ r) := fun r h h3 => by
    have := h h3
    rw [wq_eq, Hwn.out]
    omega
  have HFin := Lib.hid Fin
  clear Fin
  go_enter Tryz.func13, Tryz.ntmps13
  go_wp2_with fail
  generalize hw0 : (w.alloc (.cells #[.int .i64 k, .string nm, .slice WA m wc, .slice CA n c2] 27)) = w0 at *
  clear hw0
  go_loopw [2, 7] (fun s i wr => ∃ (j : Nat) (z : Int), j ≤ m ∧ i = .int .i64 j ∧ s = .int .i64 z ∧ 0 ≤ z ∧ z ≤ 601 ∧ (z ≤ 300 → z0 + 1 + (j : Int) ≤ z) ∧ w0 = wr) (fun _ i _ => m - (intOf i).toNat)
  case atStart => exact ⟨0, _, Nat.zero_le _, rfl, rfl, by omega, by omega, by omega, rfl⟩
  case round =>
    obtain ⟨j, z, hj, rfl, rfl, hy0, hy6, hzb, rfl⟩ := hrel
    have hc0 := HB1.out.cell 0
    have hc1 := HB1.out.cell 1
    have hc2' := HB1.out.cell 2
    have hc3 := HB1.out.cell 3
    simp at hc0 hc1 hc2' hc3
    by_cases hlt : j < m
    · by_cases hz : z ≤ 300
      · obtain ⟨wb, wo, s, rfl, hwb, hwc⟩ := Hwd.out j hlt w0 Hb1.out
        have hji : (j : Int) < (m : Int) := by omega
        have hji0 : (0 : Int) ≤ (j : Int) := by omega
        have hzz := hzb hz
        clear hlt
        go_wp2
        go_roundw
        case rel => exact ⟨j + 1, _, by omega, by go_num, rfl, by omega, by omega, by omega, by trivial⟩
        case measure => simp [intOf]; omega
      · have hz' : 300 < z := by omega
        have hji : (j : Int) < (m : Int) := by omega
        have hzq : z ≤ 300 → z0 + 1 + (m : Int) ≤ z := fun h => absurd h hz
        have Hzq := Lib.hid hzq
        clear hlt hzb hzq hz
        by_cases hdz : dp = 0
        · subst hdz
          by_cases hnz : n = 0
          · have hnp : (n : Int) ≤ 0 := by omega
            go_wp2_with fail
            go_loopw [2, 8] (fun s i wr => ∃ (j : Nat) (z : Int), j ≤ n ∧ i = .int .i64 j ∧ s = .int .i64 z ∧ 0 ≤ z ∧ z ≤ 601 ∧ (z ≤ 300 → z0 + 1 + (m : Int) + (wqs (l.take j) : Nat) ≤ z) ∧ Below (w.heap.size + 1) w0 wr) (fun _ i _ => n - (intOf i).toNat)
            case atStart => exact ⟨0, _, Nat.zero_le _, rfl, rfl, hy0, hy6, fun h => by have := Hzq.out h; simp [wqs]; omega, Below.refl _ _⟩
            case round =>
              obtain ⟨i, y, hi, rfl, rfl, hu0, hu6, hyb, hb⟩ := hrel
              have hls := (hb.cell (p := ⟨w.heap.size, 3, none⟩) (by show w.heap.size < _; omega)).trans hc3
              have Hb := Lib.hid hb
              have hbz := hb.size
              by_cases hlt2 : i < n
              · exact absurd hlt2 (by omega)
              · obtain rfl : n = i := by omega
                have hyb' : y ≤ 300 → z0 + 1 + (m : Int) + (wqs l : Nat) ≤ y := fun h => by have := hyb h; rw [Hall.out] at this; exact this
                have Hyb := Lib.hid hyb'
                clear hb hyb hyb' hi hlt2
                go_wp2
                go_ret
                exact ⟨⟨y, rfl, hu0, hu6, HFin.out y Hyb.out⟩, Hb1.out.trans (Hb.out.mono (by omega))⟩
          · have hnp : (0 : Int) < (n : Int) := by omega
            go_wp2
            go_ret
            exact ⟨⟨301, rfl, by omega, by omega, fun h => absurd h (by omega)⟩, Hb1.out⟩
        · have hdp : 0 < dp := by omega
          go_wp2_with fail
          go_loopw [2, 8] (fun s i wr => ∃ (j : Nat) (z : Int), j ≤ n ∧ i = .int .i64 j ∧ s = .int .i64 z ∧ 0 ≤ z ∧ z ≤ 601 ∧ (z ≤ 300 → z0 + 1 + (m : Int) + (wqs (l.take j) : Nat) ≤ z) ∧ Below (w.heap.size + 1) w0 wr) (fun _ i _ => n - (intOf i).toNat)
          case atStart => exact ⟨0, _, Nat.zero_le _, rfl, rfl, hy0, hy6, fun h => by have := Hzq.out h; simp [wqs]; omega, Below.refl _ _⟩
          case round =>
            obtain ⟨i, y, hi, rfl, rfl, hu0, hu6, hyb, hb⟩ := hrel
            have hls := (hb.cell (p := ⟨w.heap.size, 3, none⟩) (by show w.heap.size < _; omega)).trans hc3
            have Hb := Lib.hid hb
            have hbz := hb.size
            by_cases hlt2 : i < n
            · by_cases hz2 : y ≤ 300
              · have hil : i < l.length := by rw [Hlm.out]; exact hlt2
                have hbw := Hb1.out.trans (hb.mono (by omega))
                obtain ⟨tb, tq, A', n', c', C', m', d', rfl, htb, hd0, hd1, hd2, hd3, c1⟩ := Hkid.out i hil (dp - 1) y (by omega) (by omega) hu0 hz2 wr hbw
                have hji2 : (i : Int) < (n : Int) := by omega
                have hji20 : (0 : Int) ≤ (i : Int) := by omega
                have hyy := hyb hz2
                have hmo := Hmon.out i hil
                have Hyy := Lib.hid hyy
                have Hmo := Lib.hid hmo
                clear hb hbw hyb hyy hmo hlt2
                generalize (l[i]).kind = x0 at *
                generalize (l[i]).name = x1 at *
                go_wp2_with (go_at_call 13; refine c1.mono ?_; rintro e wa ⟨⟨r, rfl, hr0, hr6, hr3⟩, hba⟩)
                have FinB := Lib.hid (Hb.out.trans (hba.mono (by omega)))
                have FinR : Hid (r ≤ 300 → z0 + 1 + (m : Int) + (wqs (l.take (i + 1)) : Nat) ≤ r) := Lib.hid (fun h => by have h1 := hr3 h; have h2 := Hyy.out; have h3 := Hmo.out; omega)
                clear c1 hba hr3
                go_roundw
                case rel => exact ⟨i + 1, _, by omega, by go_num, rfl, hr0, hr6, FinR.out, FinB.out⟩
                case measure => simp [intOf]; omega
              · have hz2' : 300 < y := by omega
                have hji2 : (i : Int) < (n : Int) := by omega
                clear hb hls
                have hls := (Hb.out.cell (p := ⟨w.heap.size, 3, none⟩) (by show w.heap.size < _; omega)).trans hc3
                go_wp2
                go_ret
                exact ⟨⟨y, rfl, hu0, hu6, fun h => absurd h (by omega)⟩, Hb1.out.trans (Hb.out.mono (by omega))⟩
            · obtain rfl : n = i := by omega
              have hyb' : y ≤ 300 → z0 + 1 + (m : Int) + (wqs l : Nat) ≤ y := fun h => by have := hyb h; rw [Hall.out] at this; exact this
              have Hyb := Lib.hid hyb'
              clear hb hyb hyb' hi hlt2
              go_wp2
              go_ret
              exact ⟨⟨y, rfl, hu0, hu6, HFin.out y Hyb.out⟩, Hb1.out.trans (Hb.out.mono (by omega))⟩
    · obtain rfl : m = j := by omega
      have Hzq := Lib.hid hzb
      clear hzb hlt hj
      by_cases hdz : dp = 0
      · subst hdz
        by_cases hnz : n = 0
        · have hnp : (n : Int) ≤ 0 := by omega
          go_wp2_with fail
          go_loopw [2, 8] (fun s i wr => ∃ (j : Nat) (z : Int), j ≤ n ∧ i = .int .i64 j ∧ s = .int .i64 z ∧ 0 ≤ z ∧ z ≤ 601 ∧ (z ≤ 300 → z0 + 1 + (m : Int) + (wqs (l.take j) : Nat) ≤ z) ∧ Below (w.heap.size + 1) w0 wr) (fun _ i _ => n - (intOf i).toNat)
          case atStart => exact ⟨0, _, Nat.zero_le _, rfl, rfl, hy0, hy6, fun h => by have := Hzq.out h; simp [wqs]; omega, Below.refl _ _⟩
          case round =>
            obtain ⟨i, y, hi, rfl, rfl, hu0, hu6, hyb, hb⟩ := hrel
            have hls := (hb.cell (p := ⟨w.heap.size, 3, none⟩) (by show w.heap.size < _; omega)).trans hc3
            have Hb := Lib.hid hb
            have hbz := hb.size
            by_cases hlt2 : i < n
            · exact absurd hlt2 (by omega)
            · obtain rfl : n = i := by omega
              have hyb' : y ≤ 300 → z0 + 1 + (m : Int) + (wqs l : Nat) ≤ y := fun h => by have := hyb h; rw [Hall.out] at this; exact this
              have Hyb := Lib.hid hyb'
              clear hb hyb hyb' hi hlt2
              go_wp2
              go_ret
              exact ⟨⟨y, rfl, hu0, hu6, HFin.out y Hyb.out⟩, Hb1.out.trans (Hb.out.mono (by omega))⟩
        · have hnp : (0 : Int) < (n : Int) := by omega
          go_wp2
          go_ret
          exact ⟨⟨301, rfl, by omega, by omega, fun h => absurd h (by omega)⟩, Hb1.out⟩
      · have hdp : 0 < dp := by omega
        go_wp2_with fail
        go_loopw [2, 8] (fun s i wr => ∃ (j : Nat) (z : Int), j ≤ n ∧ i = .int .i64 j ∧ s = .int .i64 z ∧ 0 ≤ z ∧ z ≤ 601 ∧ (z ≤ 300 → z0 + 1 + (m : Int) + (wqs (l.take j) : Nat) ≤ z) ∧ Below (w.heap.size + 1) w0 wr) (fun _ i _ => n - (intOf i).toNat)
        case atStart => exact ⟨0, _, Nat.zero_le _, rfl, rfl, hy0, hy6, fun h => by have := Hzq.out h; simp [wqs]; omega, Below.refl _ _⟩
        case round =>
          obtain ⟨i, y, hi, rfl, rfl, hu0, hu6, hyb, hb⟩ := hrel
          have hls := (hb.cell (p := ⟨w.heap.size, 3, none⟩) (by show w.heap.size < _; omega)).trans hc3
          have Hb := Lib.hid hb
          have hbz := hb.size
          by_cases hlt2 : i < n
          · by_cases hz2 : y ≤ 300
            · have hil : i < l.length := by rw [Hlm.out]; exact hlt2
              have hbw := Hb1.out.trans (hb.mono (by omega))
              obtain ⟨tb, tq, A', n', c', C', m', d', rfl, htb, hd0, hd1, hd2, hd3, c1⟩ := Hkid.out i hil (dp - 1) y (by omega) (by omega) hu0 hz2 wr hbw
              have hji2 : (i : Int) < (n : Int) := by omega
              have hji20 : (0 : Int) ≤ (i : Int) := by omega
              have hyy := hyb hz2
              have hmo := Hmon.out i hil
              have Hyy := Lib.hid hyy
              have Hmo := Lib.hid hmo
              clear hb hbw hyb hyy hmo hlt2
              generalize (l[i]).kind = x0 at *
              generalize (l[i]).name = x1 at *
              go_wp2_with (go_at_call 13; refine c1.mono ?_; rintro e wa ⟨⟨r, rfl, hr0, hr6, hr3⟩, hba⟩)
              have FinB := Lib.hid (Hb.out.trans (hba.mono (by omega)))
              have FinR : Hid (r ≤ 300 → z0 + 1 + (m : Int) + (wqs (l.take (i + 1)) : Nat) ≤ r) := Lib.hid (fun h => by have h1 := hr3 h; have h2 := Hyy.out; have h3 := Hmo.out; omega)
              clear c1 hba hr3
              go_roundw
              case rel => exact ⟨i + 1, _, by omega, by go_num, rfl, hr0, hr6, FinR.out, FinB.out⟩
              case measure => simp [intOf]; omega
            · have hz2' : 300 < y := by omega
              have hji2 : (i : Int) < (n : Int) := by omega
              clear hb hls
              have hls := (Hb.out.cell (p := ⟨w.heap.size, 3, none⟩) (by show w.heap.size < _; omega)).trans hc3
              go_wp2
              go_ret
              exact ⟨⟨y, rfl, hu0, hu6, fun h => absurd h (by omega)⟩, Hb1.out.trans (Hb.out.mono (by omega))⟩
          · obtain rfl : n = i := by omega
            have hyb' : y ≤ 300 → z0 + 1 + (m : Int) + (wqs l : Nat) ≤ y := fun h => by have := hyb h; rw [Hall.out] at this; exact this
            have Hyb := Lib.hid hyb'
            clear hb hyb hyb' hi hlt2
            go_wp2
            go_ret
            exact ⟨⟨y, rfl, hu0, hu6, HFin.out y Hyb.out⟩, Hb1.out.trans (Hb.out.mono (by omega))⟩
theorem size_any : ∀ q, QSz q → SizeOk q := by
  refine Q.ind (p := fun q => QSz q → SizeOk q) (fun k nm ws l ih h => ?_)
  cases h with
  | mk h1 h2 h3 => exact size_step k nm ws l h1 h2 (fun x hx => ih x hx (h3 x hx))

theorem rfew_any (q : Q) (hq : QSz q) (a0 a1 a2 a3 : Value) (w : World) (hQ : QAt w w.heap.size q [a0, a1, a2, a3]) :
    Calls Tryz.prog 5 #[.agg #[a0, a1, a2, a3]] w fun e w' => (∃ t : Bool, e = .returned (.bool t) ∧ (t = true → wq q ≤ 300)) ∧ Below w.heap.size w w' := by
  obtain ⟨k0, nm, WA, m, wc, CA, n1, c2, e⟩ := (show ∃ k nm A n c C m d, [a0, a1, a2, a3] = [.int .i64 k, .string nm, .slice A n c, .slice C m d] by cases hQ; exact ⟨_, _, _, _, _, _, _, _, rfl⟩)
  simp only [List.cons.injEq, and_true] at e
  obtain ⟨rfl, rfl, rfl, rfl⟩ := e
  have hb1 : Below w.heap.size w (w.alloc (.cells #[.int .i64 k0, .string nm, .slice WA m wc, .slice CA n1 c2] 27)) := (Below.refl _ _).alloc (Nat.le_refl _) _
  have cs := size_any q hq 20 0 (by omega) (by omega) (by omega) (by omega) _ _ _ _ _ (hQ.grow hb1)
  have Hb1 := Lib.hid hb1
  clear hQ hq hb1
  go_enter Tryz.func5, Tryz.ntmps5
  go_wp2_with fail
  refine cs.mono ?_
  rintro e w2 ⟨⟨r, rfl, h0, h6, hr⟩, hb2⟩
  have HF := Lib.hid (Hb1.out.trans (hb2.mono Hb1.out.size))
  by_cases hle : r ≤ 300
  · have hq3 : wq q ≤ 300 := by have := hr hle; omega
    have Hq3 := Lib.hid hq3
    clear cs hb2 hr hq3
    go_wp2
    go_ret
    exact ⟨⟨true, by simp [hle], fun _ => Hq3.out⟩, HF.out⟩
  · have hgt : 300 < r := by omega
    clear cs hb2 hr
    go_wp2
    go_ret
    exact ⟨⟨false, by simp [hle], fun h => by cases h⟩, HF.out⟩
end Go.Proofs.YtjeahdnbpiahaaaGreat.Mk
end
