/- slices.Clone of fields, match.Docs, Count; the document's Docs: the walks. -/
import Derived.Test.YtjeahdnbpiahaaaGreatPkGroupCountsRow32
import Derived.Test.YtjeahdnbpiahaaaGreatMatchRPk
section
namespace Go.Proofs.YtjeahdnbpiahaaaGreat.Qy
open Go.RowKit Go.Proofs.YtjeahdnbpiahaaaGreat Go.Proofs.YtjeahdnbpiahaaaGreat.Ut Go.Proofs.YtjeahdnbpiahaaaGreat.Tk
set_option maxRecDepth 20000
set_option linter.unusedSimpArgs false

theorem fldC_one (fs : List (ByteArray × ByteArray)) : ∀ u ∈ fldC fs, u.oneCell' = true := by
  intro u hu
  unfold fldC at hu
  obtain ⟨f, _, hf⟩ := List.mem_flatMap.1 hu
  simp at hf
  rcases hf with rfl | rfl <;> rfl
/-- Fields of the call's own. -/
def FldPost (w : World) (fs : List (ByteArray × ByteArray)) (e : Ending) (w' : World) : Prop := ∃ v, e = .returned v ∧ w'.ownsRow w.heap.size 60 2 v fs.length (fldC fs) ∧ Below w.heap.size w w'
set_option maxHeartbeats 800000 in
theorem cloneF_any (F : Option Addr) (fn fc : Nat) (fs : List (ByteArray × ByteArray)) (w : World) (hF : Reads w w.heap.size 2 F fn (fldC fs)) (hl : fs.length = fn) (hn : fn ≤ 1048576) (hnil : F = none → fc = 0) :
    Calls Tryz.prog 42 #[.slice F fn fc] w (FldPost w fs) := by
  obtain ⟨i0, hi0, hz0, hz1, hz2⟩ := info_parts fld_info
  by_cases h0 : F = none
  · subst h0
    obtain rfl : fc = 0 := hnil rfl
    have hfn : fn = 0 := by
      by_cases h : 0 < fn
      · obtain ⟨b, o, e, _⟩ := hF.2 h
        cases e
      · omega
    subst hfn
    have hfs : fs = [] := List.length_eq_zero_iff.1 hl
    subst hfs
    have hnl := fun W : World => Lib.run_eql_slice_nil (P := Tryz.prog) W _ _ none 0 0 0 0 Tryz.underlying44
    clear hF hl hn hnil
    go_enter Tryz.func42, Tryz.ntmps42
    go_wp2
    go_ret
    exact ⟨_, rfl, World.ownsRow_nil _ _ _ _, Below.refl _ _⟩
  · obtain ⟨a, rfl⟩ := Option.ne_none_iff_exists'.1 h0
    have hnl := fun W : World => Lib.run_eql_slice_nil (P := Tryz.prog) W _ _ (some a) fn fc 0 0 Tryz.underlying44
    have HF := Lib.hid hF
    have Hl := Lib.hid hl
    clear hF hl h0 hnil
    go_enter Tryz.func42, Tryz.ntmps42
    go_wp2_with (at_builtin; refine wpList_append_own _ rfl _ _ 44 rfl w.heap.size 60 i0 _ 2 32 Tryz.underlying44 hi0 hz0 hz1 hz2 rfl (by decide) (.slice (some ⟨w.heap.size, 0, none⟩) 0 0) 0 [] rfl ?hown a fn fc (fldC fs) rfl ?hl ?c1 ?c2 ?c3 ?c4 ?c5 ?_)
    case hown =>
      have h := World.ownsRow_made (base := w.heap.size) (e := 60) (size := 2) w #[] 0 (by simp) (by unfold maxLen; omega) rfl
      simpa using h
    case hl => rw [fldC_len, Hl.out]
    case c1 =>
      intro j u hj
      have hjl : j < fn * 2 := by
        have := (List.getElem?_eq_some_iff.1 hj).1
        rw [fldC_len, Hl.out] at this
        exact this
      obtain ⟨b, o, e, hb, hc⟩ := HF.out.2 (by omega)
      injection e with e
      subst e
      have hadd : (⟨b, o, none⟩ : Addr).add j = ⟨b, o + j, none⟩ := by unfold Addr.add; split <;> simp_all
      rw [hadd]
      have hp := hc j u hj
      first
        | exact hp
        | exact (((Below.refl _ _).alloc (Nat.le_refl _) _ : Below w.heap.size w _).cell (p := ⟨b, o + j, none⟩) hb).trans hp
    case c2 => exact fldC_one fs
    case c3 => unfold maxLen; omega
    case c4 => omega
    case c5 => simp
    intro v' w2 hown hgrow _
    have hbx : Below w.heap.size w w2 := ((Below.refl _ _).alloc (Nat.le_refl _) _ : Below w.heap.size w _).grown hgrow (by simp) (fun j hj => by
      injection hj with hj
      have hj' : w.heap.size = j := hj
      omega)
    obtain ⟨A', c', rfl, _⟩ := own_shape hown
    have Hown := Lib.hid hown
    have Hbx := Lib.hid hbx
    clear hown hgrow hbx
    go_wp2
    go_ret
    exact ⟨_, rfl, by rw [Hl.out]; simpa using Hown.out, Hbx.out⟩

/-- Docs that can be read behind the call. -/
def DocRd (w : World) (ds : List Dc) (e : Ending) (w' : World) : Prop := ∃ A c, e = .returned (.slice A ds.length c) ∧ DocsAt w' w'.heap.size A ds.length ds ∧ ds.length ≤ c ∧ Below w.heap.size w w'
theorem DocsOwn.rd {w w0 wr : World} {v : Value} {ds : List Dc} (h : DocsOwn w wr v ds) (hb : Below w0.heap.size w0 wr) : DocRd w0 ds (.returned v) wr := by
  obtain ⟨vss, h1, h2, h3⟩ := h.ex
  obtain ⟨A, c, rfl, hR, hc, _⟩ := own_shape2 h2
  exact ⟨A, c, rfl, ⟨rfl, vss, h1, hR, fun i a b => (h3 i a b).1⟩, hc, hb⟩
theorem DocRd.of_post {w w' : World} {ds : List Dc} {e : Ending} (h : DocPost w ds e w') : DocRd w ds e w' := by
  obtain ⟨v, rfl, hO⟩ := h
  exact hO.rd hO.bel
theorem filter_take_succ {α : Type} (l : List α) (g : α → Bool) (i : Nat) (h : i < l.length) : (l.take (i + 1)).filter g = (l.take i).filter g ++ if g l[i] then [l[i]] else [] := by
  rw [List.take_succ_eq_append_getElem h, List.filter_append]
  by_cases hg : g l[i] <;> simp [hg]
theorem filter_take_len {α : Type} (l : List α) (g : α → Bool) (i : Nat) : ((l.take i).filter g).length ≤ l.length := by
  have h1 := List.length_filter_le g (l.take i)
  have h2 : (l.take i).length ≤ l.length := by rw [List.length_take]; omega
  omega
/-- Docs small enough to be looked at. -/
def Small (ds : List Dc) : Prop := ∀ d ∈ ds, d.fs.length ≤ 1048576 ∧ ∀ f ∈ d.fs, f.2.size ≤ 1048576
/-- What a doc of the call's own is, once its fields have been copied. -/
theorem put_doc {w wr wa : World} {v : Value} {ds : List Dc} {d : Dc} {A2 : Option Addr} {q2 : Nat} (hO : DocsOwn w wr v ds) (hb : Below wr.heap.size wr wa)
    (hR : Reads wa wa.heap.size 2 A2 d.fs.length (fldC d.fs)) (hn : d.fs.length ≤ 1048576) (hq : d.fs.length ≤ q2) (hnil : A2 = none → q2 = 0) (hg : 0 < d.fs.length → ∃ g, A2 = some ⟨g, 0, none⟩ ∧ ∃ cur, wa.heap[g]? = some (.cells cur 60 (0, 0))) :
    ∃ xs : List Value, wa.ownsRow w.heap.size 48 3 v ds.length xs ∧ ∀ v' w5, w5.ownsRow w.heap.size 48 3 v' (ds.length + 1) (xs ++ [.int .i64 d.seq, .int .i64 d.at_, .slice A2 d.fs.length q2]) → wa.grownBy w5 v.ownBlock → DocsOwn w w5 v' (ds ++ [d]) := by
  have hO2 := hO.below hb
  obtain ⟨vss, g1, g2, g3⟩ := hO2.ex
  refine ⟨vss.flatten, g2, fun v' w5 h1 h2 => hO2.put ⟨vss, g1, g2, g3, rfl⟩ h1 h2 ⟨A2, _, q2, rfl, hR, rfl, by omega, hq, hnil⟩ ?_⟩
  intro F' fn' fc' hv hn'
  simp only [List.getElem?_cons_succ, List.getElem?_cons_zero, Option.some.injEq, Value.slice.injEq] at hv
  obtain ⟨rfl, rfl, rfl⟩ := hv
  obtain ⟨g, rfl, cur, hg⟩ := hg hn'
  exact ⟨g, 0, rfl, .inr ⟨cur, (0, 0), hg⟩⟩

set_option maxHeartbeats 3200000 in
theorem docs_any (q : Q) (hq : QSz q) (a0 a1 a2 a3 : Value) (A : Option Addr) (n c : Nat) (ds : List Dc) (w : World) (hQ : QAt w w.heap.size q [a0, a1, a2, a3]) (hD : DocsAt w w.heap.size A n ds) (hn : n ≤ 1048576) (hS : Small ds) :
    Calls Tryz.prog 25 #[.agg #[a0, a1, a2, a3], .slice A n c] w (DocRd w (ds.filter fun d => matchB d.fs q)) := by
  obtain ⟨i0, hi0, hz0, hz1, hz2⟩ := info_parts doc_info
  obtain ⟨k0, nm, ws, l⟩ := q
  obtain ⟨WA, m, wc, CA, n1, c2, e, _⟩ := hQ.is
  simp only [List.cons.injEq, and_true] at e
  obtain ⟨rfl, rfl, rfl, rfl⟩ := e
  have hb1 : Below w.heap.size w (w.alloc (.cells #[.int .i64 k0, .string nm, .slice WA m wc, .slice CA n1 c2] 27)) := (Below.refl _ _).alloc (Nat.le_refl _) _
  have hB1 := Blk.new w 27 #[.int .i64 k0, .string nm, .slice WA m wc, .slice CA n1 c2]
  have hQ1 := hQ.grow hb1
  have hD1 := hD.grow hb1
  have hz1' : w.heap.size < (w.alloc (.cells #[.int .i64 k0, .string nm, .slice WA m wc, .slice CA n1 c2] 27)).heap.size := by simp
  have hM := fun d (_ : d ∈ ds) => match_any d.fs (.mk k0 nm ws l) hq
  have HQ1 := Lib.hid hQ1
  have HD1 := Lib.hid hD1
  have HB1 := Lib.hid hB1
  have Hb1 := Lib.hid hb1
  have HM := Lib.hid hM
  have HS := Lib.hid hS
  have Hl := Lib.hid hD.ln
  have hS0 := DocsOwn.start (w.alloc (.cells #[.int .i64 k0, .string nm, .slice WA m wc, .slice CA n1 c2] 27))
  have HS0 := Lib.hid hS0
  clear hQ hD hb1 hB1 hQ1 hD1 hM hS hS0 hq
  generalize hg : (fun d : Dc => matchB d.fs (.mk k0 nm ws l)) = g at *
  have Hg := Lib.hid hg
  clear hg
  go_enter Tryz.func25, Tryz.ntmps25
  go_wp2_with fail
  generalize hw1 : (w.alloc (.cells #[.int .i64 k0, .string nm, .slice WA m wc, .slice CA n1 c2] 27)) = w1 at *
  clear hw1
  go_loopw [5, 10] (fun v i wr => ∃ k : Nat, k ≤ n ∧ i = .int .i64 k ∧ DocsOwn w1 wr v ((ds.take k).filter g)) (fun _ i _ => n - (intOf i).toNat)
  case atStart => exact ⟨0, Nat.zero_le _, rfl, HS0.out⟩
  case round =>
    obtain ⟨k, hk, rfl, hO⟩ := hrel
    have HO := Lib.hid hO
    clear hO
    by_cases hlt : k < n
    · have hkl : k < ds.length := by rw [Hl.out]; exact hlt
      obtain ⟨b, o, F, fn, fc, rfl, hb, hc0, hc1, hc2, hR, hfl, hfn, hfc, hnil⟩ := (HD1.out.grow HO.out.bel).at_ hkl
      have hsm := HS.out _ (List.getElem_mem hkl)
      have hts := filter_take_succ ds g k hkl
      have hmt := HM.out _ (List.getElem_mem hkl)
      have hgd : g ds[k] = matchB ds[k].fs (.mk k0 nm ws l) := by rw [← Hg.out]
      have hBr := HB1.out.below HO.out.bel hz1'
      have hQr := HQ1.out.grow HO.out.bel
      have hlen := filter_take_len ds g k
      rw [Hl.out] at hlen
      have hzz := HO.out.bel.size
      have hal : Below wr.heap.size wr (wr.alloc (.cells #[.int .i64 ds[k].seq, .int .i64 ds[k].at_, .slice F fn fc] 48)) := (Below.refl _ _).alloc (Nat.le_refl _) _
      have c1 := hmt _ _ _ _ _ ds[k].at_ F fn fc (hQr.grow hal) (EvAt.grow ⟨hR, hfl, by omega, hsm.2⟩ hal)
      have h7 := Blk.new wr 48 #[.int .i64 ds[k].seq, .int .i64 ds[k].at_, .slice F fn fc]
      have hq0 := hBr.cell 0
      have hq1 := hBr.cell 1
      have hq2 := hBr.cell 2
      have hq3 := hBr.cell 3
      simp at hq0 hq1 hq2 hq3
      have hlq := hBr.lt
      rw [← hgd] at c1
      have Hts := Lib.hid hts
      have HR := Lib.hid hR
      have Hfl := Lib.hid hfl
      have H7 := Lib.hid h7
      have Hal := Lib.hid hal
      have hf6 : fn ≤ 1048576 := by rw [← hfl]; exact hsm.1
      have Hnil := Lib.hid hnil
      have hde : (⟨ds[k].seq, ds[k].at_, ds[k].fs⟩ : Dc) = ds[k] := rfl
      have Hde := Lib.hid hde
      clear hts hmt hgd hBr hQr hR hfl h7 hal hsm hnil hde
      generalize g ds[k] = r at *
      generalize ds[k].seq = s at *
      generalize ds[k].at_ = a at *
      generalize ds[k].fs = fs at *
      generalize ds[k] = d at *
      generalize (ds.take k).filter g = out at *
      go_wp2_with fail
      refine c1.mono ?_
      rintro e w2 ⟨rfl, hb2⟩
      have hbw2 := Hal.out.trans (hb2.mono Hal.out.size)
      have h72 := H7.out.below hb2 (by simp)
      have h70 := h72.cell 0
      have h71 := h72.cell 1
      have h7c := h72.cell 2
      have h7f := h72.frozen 2
      simp at h70 h71 h7c
      have hl7 := h72.lt
      have Hbw2 := Lib.hid hbw2
      have H72 := Lib.hid h72
      clear hbw2 h72 hb2 c1 H7 Hal
      cases r with
      | false =>
        have HO2 := Lib.hid (HO.out.below Hbw2.out)
        have Hts2 : Hid ((ds.take (k + 1)).filter g = out) := Lib.hid (by rw [Hts.out]; simp)
        go_wp2
        go_roundw
        case rel => exact ⟨k + 1, by omega, by go_num, by rw [Hts2.out]; exact HO2.out⟩
        case measure => simp [intOf]; omega
      | true =>
        have Hts2 : Hid ((ds.take (k + 1)).filter g = out ++ [d]) := Lib.hid (by rw [Hts.out]; simp)
        have c2 := cloneF_any F fn fc fs w2 (reads_grow Hbw2.out HR.out) Hfl.out hf6 Hnil.out
        go_wp2_with fail
        refine c2.mono ?_
        rintro e w3 ⟨v3, rfl, hown3, hb3⟩
        obtain ⟨A3, q3, rfl, hR3, hnq3, hnl3, hg3⟩ := own_shape2 hown3
        have h73 := H72.out.below hb3 hl7
        have h7s := h73.set_ 2 (.slice A3 fs.length q3)
        have h73c := h73.cell 2
        have h73f := h73.frozen 2
        have h730 := h73.cell 0
        have h731 := h73.cell 1
        have h7s0 := h7s.cell 0
        have h7s1 := h7s.cell 1
        have h7s2 := h7s.cell 2
        simp at h73c h7s0 h7s1 h7s2 h730 h731
        have hown6 : (((w3.setCell ⟨wr.heap.size, 2, none⟩ (.slice A3 fs.length q3)).alloc (.cells #[.int .i64 s, .int .i64 a, .slice A3 fs.length q3] 48))).ownsRow w2.heap.size 60 2 (.slice A3 fs.length q3) fs.length (fldC fs) :=
          (hown3.kept (grownBy_setC w3 wr.heap.size 2 _) (.inr (fun e => by have := (hown3.lt _ e).1; omega))).alloc _
        obtain ⟨A6, q6, e6, hR6, _, _, hg6⟩ := own_shape2 hown6
        injection e6 with e6 _ e7
        subst e6 e7
        have hbS : Below wr.heap.size wr ((w3.setCell ⟨wr.heap.size, 2, none⟩ (.slice A3 fs.length q3)).alloc (.cells #[.int .i64 s, .int .i64 a, .slice A3 fs.length q3] 48)) := ((Hbw2.out.trans (hb3.mono Hbw2.out.size)).setCell (p := ⟨wr.heap.size, 2, none⟩) (Nat.le_refl _) _).alloc (by have := Hbw2.out.size; have := hb3.size; simp; omega) _
        obtain ⟨xs, hxo, hput⟩ := put_doc (d := ⟨s, a, fs⟩) HO.out hbS hR6 (by rw [Hfl.out]; exact hf6) hnq3 hnl3 hg6
        have Hput := Lib.hid hput
        have hzs := hbS.size
        have hz3 := hb3.size
        have hlen2 : w1.heap.size ≤ w3.heap.size := by have := Hbw2.out.size; omega
        clear hput hown6 hR6 hg6 hbS hown3 hR3 hnq3 hnl3 hg3 hb3 h73 h7s c2
        go_wp2_with (at_builtin; refine wpList_append_own _ rfl _ _ 22 rfl w1.heap.size 48 i0 _ 3 40 Tryz.underlying22 hi0 hz0 hz1 hz2 rfl (by decide) _ _ _ rfl hxo ⟨w3.heap.size, 0, none⟩ 1 1 [.int .i64 s, .int .i64 a, .slice A3 fs.length q3] rfl rfl ?d1 ?d2 ?d3 ?d4 ?d5 ?_)
        try (case d1 => exact World.news_of_block (cs := #[.int .i64 s, .int .i64 a, .slice A3 fs.length q3]) (t := 48) (fr := (0, 0)) (by have := heap_alloc_new (w3.setCell ⟨wr.heap.size, 2, none⟩ (.slice A3 fs.length q3)) (.cells #[.int .i64 s, .int .i64 a, .slice A3 fs.length q3] 48); simpa using this))
        case d2 => first | (intro u hu; simp at hu; rcases hu with rfl | rfl | rfl <;> rfl) | rfl | simp [Value.oneCell']
        case d3 => unfold maxLen; omega
        case d4 => omega
        case d5 => first | omega | (simp; omega)
        intro v' w5 hown5 hg5 _
        have Fin := Lib.hid (Hput.out v' w5 hown5 hg5)
        clear hown5 hg5
        go_wp2
        go_roundw
        case rel => exact ⟨k + 1, by omega, by go_num, by rw [Hts2.out, ← Hde.out]; exact Fin.out⟩
        case measure => simp [intOf]; omega
    · obtain rfl : k = n := by omega
      have Fin : Hid ((ds.take k).filter g = ds.filter g) := Lib.hid (by rw [List.take_of_length_le (by rw [Hl.out]; exact Nat.le_refl _)])
      rw [Fin.out] at HO
      have Hfin := Lib.hid (HO.out.rd (Hb1.out.trans (HO.out.bel.mono Hb1.out.size)))
      go_wp2
      go_ret
      exact Hfin.out
end Go.Proofs.YtjeahdnbpiahaaaGreat.Qy
end

section
/- A text that came in, with its bulk; docs, small. -/
namespace Go.Proofs.YtjeahdnbpiahaaaGreat.Gr
open Go.RowKit Go.ChangeShapes Go.WideShapes Go.ChangeAt Go.Deep Go.Joins Go.Proofs.YtjeahdnbpiahaaaGreat Go.Proofs.YtjeahdnbpiahaaaGreat.Qy
section
variable {H : Type} {enc : TypeId × Value → H} {P : Program} {W : World} {t : TypeId} {base : Nat} {v : Value} {d : DataW H} {p : List MemPlace}
theorem str_bk (ht : P.underlying t = some .string) (hv : Value.okWide P W .any base t v) (h : DataW.Trod enc P W 0 (fun _ => true) true t v d p) :
    ∃ s : ByteArray, v = .string s ∧ s.size ≤ Rows.uptoBulk d := by
  obtain ⟨s, rfl, rfl, rfl, hs⟩ := Go.ChangeMaps.open_string ht hv h
  exact ⟨s, rfl, by rw [bk_str]; omega⟩
end
theorem docs_small {l : List Dc} {n : Nat} (h : txt l ≤ n) (hn : n ≤ 1048576) : Small l := fun d hd => by
  have h1 := txt_mem l d hd
  have h2 := txF_len d.fs
  exact ⟨by omega, fun f hf => by have := txF_mem d.fs f hf; omega⟩
end Go.Proofs.YtjeahdnbpiahaaaGreat.Gr
end
