/- match.Needs: the walk. -/
import Derived.Laws.EntriesVeiled
import Derived.Test.YtjfconddkfihcaaPkMarkHitsRow16
import Derived.Test.YtjfconddkfihcaaMatchBPk
namespace Go.Proofs.Ytjfconddkfihcaa.Qy
open Go.RowKit Go.Proofs.Ytjfconddkfihcaa Go.Proofs.Ytjfconddkfihcaa.Ut Go.Proofs.Ytjfconddkfihcaa.Tk
set_option maxRecDepth 20000
set_option linter.unusedSimpArgs false

/-- A query's texts are not longer than so. -/
inductive QTx (b : Nat) : Q → Prop where
  | mk {k : Int} {nm : ByteArray} {ws : List ByteArray} {l : List Q} (h1 : nm.size ≤ b) (h2 : ∀ x ∈ ws, x.size ≤ b) (h3 : ∀ x ∈ l, QTx b x) : QTx b (.mk k nm ws l)
/-- Texts of the call's own. -/
def BsPost (w : World) (l : List ByteArray) (e : Ending) (w' : World) : Prop := ∃ v, e = .returned v ∧ w'.ownsRow w.heap.size 9 1 v l.length (bsv l) ∧ Below w.heap.size w w'
def NeedOk (q : Q) : Prop := ∀ (w : World) (a0 a1 a2 a3 : Value), QAt w w.heap.size q [a0, a1, a2, a3] → wq q ≤ 1048576 →
  Calls Try.prog 59 #[.agg #[a0, a1, a2, a3]] w (BsPost w (needs q))

theorem cloneS_any (s : ByteArray) (w : World) (hs : s.size ≤ 281474976710656) : Calls Try.prog 90 #[.string s] w fun e w' => e = .returned (.string s) ∧ Below w.heap.size w w' := by
  have c1 := Try.stringslite_Clone s w hs
  go_enter Try.func90, Try.ntmps90
  go_wp2_with (go_at_call 116; refine c1.mono ?_; rintro e w2 ⟨rfl, hb2⟩)
  go_ret
  exact ⟨rfl, hb2⟩

/-- A row of one, new. -/
theorem mo_one {w : World} {g : Nat} {v : Value} {l : List ByteArray} (h : Nd w g v l) (t : ByteArray) : Mo (w.alloc (.cells #[.string t] 9)) g v (some ⟨w.heap.size, 0, none⟩) [t] := by
  refine ⟨fun _ => ⟨_, 0, rfl, by simp, by have := h.box.lt; omega, fun e => by have := (h.own.lt _ e).2; omega, fun j hj => ?_⟩⟩
  obtain rfl : j = 0 := by simp at hj; omega
  exact (Blk.new w 9 #[.string t]).cell 0
/-- A row that a call made. -/
theorem mo_made {w w' : World} {g : Nat} {v u : Value} {l ts : List ByteArray} (h : Nd w g v l) (hr : w'.ownsRow w.heap.size 9 1 u ts.length (bsv ts)) : ∃ A c, u = .slice A ts.length c ∧ Mo w' g v A ts := by
  obtain ⟨A, c, rfl, _⟩ := own_shape hr
  refine ⟨A, c, rfl, ⟨fun hp => ?_⟩⟩
  obtain ⟨m, hm⟩ : ∃ m, ts.length = m + 1 := ⟨ts.length - 1, by omega⟩
  have hr' := hr
  rw [hm] at hr'
  obtain ⟨gs, q, e⟩ := own_succ hr'
  injection e with e
  subst e
  have hl := hr.lt gs rfl
  refine ⟨gs, 0, rfl, hl.2, by have := h.box.lt; omega, fun e => by have := (h.own.lt _ e).2; omega, fun j hj => ?_⟩
  have h1 := hr.cells (g := gs) rfl j (.string ts[j]) (by unfold bsv; rw [List.getElem?_map, List.getElem?_eq_getElem hj]; rfl)
  have hadd : (⟨gs, 0, none⟩ : Addr).add j = ⟨gs, 0 + j, none⟩ := by unfold Addr.add; split <;> simp_all
  rw [hadd] at h1
  exact h1

set_option maxHeartbeats 3200000 in
theorem needs_step (k : Int) (nm : ByteArray) (ws : List ByteArray) (l : List Q) (htx : QTx 140737488351232 (.mk k nm ws l)) (ih : ∀ x ∈ l, NeedOk x) : NeedOk (.mk k nm ws l) := by
  intro w a0 a1 a2 a3 hQ hwq
  obtain ⟨WA, m, wc, CA, n, c2, e, _⟩ := hQ.is
  simp only [List.cons.injEq, and_true] at e
  obtain ⟨rfl, rfl, rfl, rfl⟩ := e
  have hb1 : Below w.heap.size w (w.alloc (.cells #[.int .i64 k, .string nm, .slice WA m wc, .slice CA n c2] 37)) := (Below.refl _ _).alloc (Nat.le_refl _) _
  have hb2 : Below w.heap.size w ((w.alloc (.cells #[.int .i64 k, .string nm, .slice WA m wc, .slice CA n c2] 37)).alloc (.cells #[.slice none 0 0] 28)) := hb1.alloc hb1.size _
  have z1 : (w.alloc (.cells #[.int .i64 k, .string nm, .slice WA m wc, .slice CA n c2] 37)).heap.size = w.heap.size + 1 := by simp
  have hB1 := (Blk.new w 37 #[.int .i64 k, .string nm, .slice WA m wc, .slice CA n c2]).alloc (.cells #[.slice none 0 0] 28)
  have hB2 := Blk.new (w.alloc (.cells #[.int .i64 k, .string nm, .slice WA m wc, .slice CA n c2] 37)) 28 #[.slice none 0 0]
  rw [z1] at hB2
  have hQ2 := hQ.lower hb2
  obtain ⟨WA', m', wc', CA', n', c2', e, hI⟩ := hQ2.is
  simp only [List.cons.injEq, Value.slice.injEq, and_true, true_and] at e
  obtain ⟨⟨rfl, rfl, rfl⟩, rfl, rfl, rfl⟩ := e
  have hN2 : Nd ((w.alloc (.cells #[.int .i64 k, .string nm, .slice WA m wc, .slice CA n c2] 37)).alloc (.cells #[.slice none 0 0] 28)) (w.heap.size + 1) (.slice none 0 0) [] := ⟨hB2, World.ownsRow_nil _ _ _ _⟩
  have hz2 : ((w.alloc (.cells #[.int .i64 k, .string nm, .slice WA m wc, .slice CA n c2] 37)).alloc (.cells #[.slice none 0 0] 28)).heap.size = w.heap.size + 1 + 1 := by simp
  rw [wq_eq] at hwq
  have hwl := wqs_pos l
  cases htx with
  | mk t1 t2 t3 =>
  have HB1 := Lib.hid hB1
  have Hb2 := Lib.hid hb2
  have HI := Lib.hid hI
  have HN2 := Lib.hid hN2
  have T2 := Lib.hid t2
  have IH := Lib.hid ih
  have close : ∀ (l' : List ByteArray) (v : Value) (w' : World), Nd w' (w.heap.size + 1) v l' → Below (w.heap.size + 1) ((w.alloc (.cells #[.int .i64 k, .string nm, .slice WA m wc, .slice CA n c2] 37)).alloc (.cells #[.slice none 0 0] 28)) w' → BsPost w l' (.returned v) w' := fun l' v w' h hb =>
    ⟨v, rfl, h.own.mono (by omega), Hb2.out.trans (hb.mono (by omega))⟩
  have Close := Lib.hid close
  clear hQ hb1 hb2 z1 hB1 hB2 hQ2 hI hN2 t2 t3 ih close
  have hbx := fun (w' : World) (v : Value) (l' : List ByteArray) (h : Nd w' (w.heap.size + 1) v l') => h.box.cell 0
  by_cases k24 : k = 4 ∨ (k = 2 ∧ ws.length = 1)
  · have Fin : Hid (needs (.mk k nm ws l) = addL [] (termsL nm ws)) := Lib.hid (by rw [needs_eq, if_pos k24])
    rw [Fin.out]
    clear hbx Fin
    rcases k24 with rfl | ⟨rfl, h1⟩
    · have hkk : (0:Nat) = 0 := rfl
      go_enter Try.func59, Try.ntmps59
      go_wp2_with fail
      generalize hw0 : ((w.alloc (.cells #[.int .i64 4, .string nm, .slice WA m wc, .slice CA n c2] 37)).alloc (.cells #[.slice none 0 0] 28)) = w0 at *
      clear hw0
      go_loopw [27] (fun i wr => ∃ (j : Nat) (v : Value), j ≤ m ∧ i = .int .i64 j ∧ Nd wr (w.heap.size + 1) v (addL [] (termsL nm (ws.take j))) ∧ Below (w.heap.size + 1) w0 wr) (fun i _ => m - (intOf i).toNat)
      case atStart => exact ⟨0, _, Nat.zero_le _, rfl, HN2.out, Below.refl _ _⟩
      case round =>
        obtain ⟨j, v, hj, rfl, hN, hb⟩ := hrel
        have HN := Lib.hid hN
        have Hb := Lib.hid hb
        by_cases hlt : j < m
        · have hjl : j < ws.length := by rw [HI.out.wn]; exact hlt
          have hts := termsL_take nm ws j hjl
          have hll : (addL [] (termsL nm (ws.take j))).length ≤ 1048576 := by
            have h1 := addL_len (termsL nm (ws.take j)) []
            have h2 := termsL_len nm (ws.take j)
            rw [List.length_take] at h2
            simp only [List.length_nil] at h1
            omega
          have hsx := T2.out _ (List.getElem_mem hjl)
          obtain ⟨tb, tq, rfl, htb, hc⟩ := HI.out.wds.2 (by omega)
          have hcj := hc j (.string ws[j]) (by rw [List.getElem?_map, List.getElem?_eq_getElem hjl]; rfl)
          have hd := (hb.cell (p := ⟨tb, tq + j, none⟩) (by show tb < _; omega)).trans hcj
          have hnm := (hb.cell (p := ⟨w.heap.size, 1, none⟩) (by show w.heap.size < _; omega)).trans (HB1.out.cell 1)
          have hbz := hb.size
          simp at hnm
          have Hts := Lib.hid (show addL [] (termsL nm (ws.take (j + 1))) = addL (addL [] (termsL nm (ws.take j))) (termL nm ws[j]) by rw [hts, addL_append])
          clear hts hN hb hc hcj
          generalize addL [] (termsL nm (ws.take j)) = l at *
          generalize ws[j] = x at *
          by_cases hok : termOk nm x = true
          · have c1 := term_yesB nm x wr t1 hsx hok
            have htl : termL nm x = [termV nm x] := by unfold termL; rw [if_pos hok]
            have hsz : (termV nm x).size ≤ 281474976710656 := by
              have e := congrArg List.length (str_data (term nm.data.toList x.data.toList))
              rw [bsize] at e
              show (str (term nm.data.toList x.data.toList)).size ≤ _
              rw [e]
              unfold term
              simp only [List.length_append, List.length_cons, List.length_nil, bsize]
              omega
            rw [htl] at Hts
            have c2 := fun wx => cloneS_any (termV nm x) wx hsz
            have C2 := Lib.hid c2
            clear htl hok hsz c2
            generalize termV nm x = t at *
            go_wp2_with (first | (go_at_call 42; refine c1.mono ?_; rintro e wa ⟨rfl, hba⟩) | (go_at_call 90; refine (C2.out _).mono ?_; rintro e wb ⟨rfl, hbb⟩))
            have hNb := (HN.out.below hba).below hbb
            have hM := mo_one hNb t
            have hNc := hNb.below ((Below.refl _ _).alloc (Nat.le_refl _) (.cells #[.string t] 9))
            have hbc : Below (w.heap.size + 1) w0 (wb.alloc (.cells #[.string t] 9)) := ((Hb.out.trans (hba.mono (by omega))).trans (hbb.mono (by have := hba.size; omega))).alloc (by have := hba.size; have := hbb.size; omega) _
            refine (add_any (w.heap.size + 1) v l _ 1 1 [t] _ hNc hM rfl (by omega)).mono ?_
            rintro e wd ⟨rfl, v', hN', hb'⟩
            rw [addL_one] at hN'
            have Fin2 := Lib.hid (Hts.out ▸ hN' : Nd wd (w.heap.size + 1) v' (addL [] (termsL nm (ws.take (j + 1)))))
            have Fin3 := Lib.hid (hbc.trans hb')
            clear hNb hM hNc hbc hN' hb' hba hbb c1 C2
            go_wp2
            go_roundw
            case rel => exact ⟨j + 1, v', by omega, by go_num, Fin2.out, Fin3.out⟩
            case measure => simp [intOf]; omega
          · have hok' : termOk nm x = false := by simpa using hok
            have c1 := term_noB nm x wr t1 hsx hok'
            have htl : termL nm x = [] := by unfold termL; rw [if_neg hok]
            rw [htl, addL_nil] at Hts
            clear htl hok hok'
            go_wp2_with (go_at_call 42; refine c1.mono ?_; rintro e wa ⟨rfl, hba⟩)
            have Fin2 := Lib.hid (HN.out.below hba)
            have Fin3 := Lib.hid (Hb.out.trans (hba.mono (by omega)))
            clear c1 hba
            go_roundw
            case rel => exact ⟨j + 1, v, by omega, by go_num, by rw [Hts.out]; exact Fin2.out, Fin3.out⟩
            case measure => simp [intOf]; omega
        · obtain rfl : j = m := by omega
          rw [List.take_of_length_le (by rw [HI.out.wn]; exact Nat.le_refl _)] at HN
          have h0 := HN.out.box.cell 0
          simp at h0
          clear hN hb
          go_wp2
          go_ret
          exact Close.out _ _ _ HN.out Hb.out
    · have hkk : (0:Nat) = 0 := rfl
      have hm : ((m : Int) != 1) = false := by
        rw [bne_eq_false_iff_eq]
        have := HI.out.wn
        omega
      go_enter Try.func59, Try.ntmps59
      go_wp2_with fail
      generalize hw0 : ((w.alloc (.cells #[.int .i64 2, .string nm, .slice WA m wc, .slice CA n c2] 37)).alloc (.cells #[.slice none 0 0] 28)) = w0 at *
      clear hw0
      go_loopw [27] (fun i wr => ∃ (j : Nat) (v : Value), j ≤ m ∧ i = .int .i64 j ∧ Nd wr (w.heap.size + 1) v (addL [] (termsL nm (ws.take j))) ∧ Below (w.heap.size + 1) w0 wr) (fun i _ => m - (intOf i).toNat)
      case atStart => exact ⟨0, _, Nat.zero_le _, rfl, HN2.out, Below.refl _ _⟩
      case round =>
        obtain ⟨j, v, hj, rfl, hN, hb⟩ := hrel
        have HN := Lib.hid hN
        have Hb := Lib.hid hb
        by_cases hlt : j < m
        · have hjl : j < ws.length := by rw [HI.out.wn]; exact hlt
          have hts := termsL_take nm ws j hjl
          have hll : (addL [] (termsL nm (ws.take j))).length ≤ 1048576 := by
            have h1 := addL_len (termsL nm (ws.take j)) []
            have h2 := termsL_len nm (ws.take j)
            rw [List.length_take] at h2
            simp only [List.length_nil] at h1
            omega
          have hsx := T2.out _ (List.getElem_mem hjl)
          obtain ⟨tb, tq, rfl, htb, hc⟩ := HI.out.wds.2 (by omega)
          have hcj := hc j (.string ws[j]) (by rw [List.getElem?_map, List.getElem?_eq_getElem hjl]; rfl)
          have hd := (hb.cell (p := ⟨tb, tq + j, none⟩) (by show tb < _; omega)).trans hcj
          have hnm := (hb.cell (p := ⟨w.heap.size, 1, none⟩) (by show w.heap.size < _; omega)).trans (HB1.out.cell 1)
          have hbz := hb.size
          simp at hnm
          have Hts := Lib.hid (show addL [] (termsL nm (ws.take (j + 1))) = addL (addL [] (termsL nm (ws.take j))) (termL nm ws[j]) by rw [hts, addL_append])
          clear hts hN hb hc hcj
          generalize addL [] (termsL nm (ws.take j)) = l at *
          generalize ws[j] = x at *
          by_cases hok : termOk nm x = true
          · have c1 := term_yesB nm x wr t1 hsx hok
            have htl : termL nm x = [termV nm x] := by unfold termL; rw [if_pos hok]
            have hsz : (termV nm x).size ≤ 281474976710656 := by
              have e := congrArg List.length (str_data (term nm.data.toList x.data.toList))
              rw [bsize] at e
              show (str (term nm.data.toList x.data.toList)).size ≤ _
              rw [e]
              unfold term
              simp only [List.length_append, List.length_cons, List.length_nil, bsize]
              omega
            rw [htl] at Hts
            have c2 := fun wx => cloneS_any (termV nm x) wx hsz
            have C2 := Lib.hid c2
            clear htl hok hsz c2
            generalize termV nm x = t at *
            go_wp2_with (first | (go_at_call 42; refine c1.mono ?_; rintro e wa ⟨rfl, hba⟩) | (go_at_call 90; refine (C2.out _).mono ?_; rintro e wb ⟨rfl, hbb⟩))
            have hNb := (HN.out.below hba).below hbb
            have hM := mo_one hNb t
            have hNc := hNb.below ((Below.refl _ _).alloc (Nat.le_refl _) (.cells #[.string t] 9))
            have hbc : Below (w.heap.size + 1) w0 (wb.alloc (.cells #[.string t] 9)) := ((Hb.out.trans (hba.mono (by omega))).trans (hbb.mono (by have := hba.size; omega))).alloc (by have := hba.size; have := hbb.size; omega) _
            refine (add_any (w.heap.size + 1) v l _ 1 1 [t] _ hNc hM rfl (by omega)).mono ?_
            rintro e wd ⟨rfl, v', hN', hb'⟩
            rw [addL_one] at hN'
            have Fin2 := Lib.hid (Hts.out ▸ hN' : Nd wd (w.heap.size + 1) v' (addL [] (termsL nm (ws.take (j + 1)))))
            have Fin3 := Lib.hid (hbc.trans hb')
            clear hNb hM hNc hbc hN' hb' hba hbb c1 C2
            go_wp2
            go_roundw
            case rel => exact ⟨j + 1, v', by omega, by go_num, Fin2.out, Fin3.out⟩
            case measure => simp [intOf]; omega
          · have hok' : termOk nm x = false := by simpa using hok
            have c1 := term_noB nm x wr t1 hsx hok'
            have htl : termL nm x = [] := by unfold termL; rw [if_neg hok]
            rw [htl, addL_nil] at Hts
            clear htl hok hok'
            go_wp2_with (go_at_call 42; refine c1.mono ?_; rintro e wa ⟨rfl, hba⟩)
            have Fin2 := Lib.hid (HN.out.below hba)
            have Fin3 := Lib.hid (Hb.out.trans (hba.mono (by omega)))
            clear c1 hba
            go_roundw
            case rel => exact ⟨j + 1, v, by omega, by go_num, by rw [Hts.out]; exact Fin2.out, Fin3.out⟩
            case measure => simp [intOf]; omega
        · obtain rfl : j = m := by omega
          rw [List.take_of_length_le (by rw [HI.out.wn]; exact Nat.le_refl _)] at HN
          have h0 := HN.out.box.cell 0
          simp at h0
          clear hN hb
          go_wp2
          go_ret
          exact Close.out _ _ _ HN.out Hb.out
  · by_cases k5 : k = 5
    · subst k5
      have Fin : Hid (needs (.mk 5 nm ws l) = needsIn [] l) := Lib.hid (by rw [needs_eq, if_neg k24, if_pos rfl])
      rw [Fin.out]
      clear hbx Fin k24
      go_enter Try.func59, Try.ntmps59
      go_wp2_with fail
      generalize hw0 : ((w.alloc (.cells #[.int .i64 5, .string nm, .slice WA m wc, .slice CA n c2] 37)).alloc (.cells #[.slice none 0 0] 28)) = w0 at *
      clear hw0
      go_loopw [49] (fun i wr => ∃ (j : Nat) (v : Value), j ≤ n ∧ i = .int .i64 j ∧ Nd wr (w.heap.size + 1) v (needsIn [] (l.take j)) ∧ Below (w.heap.size + 1) w0 wr) (fun i _ => n - (intOf i).toNat)
      case atStart => exact ⟨0, _, Nat.zero_le _, rfl, HN2.out, Below.refl _ _⟩
      case round =>
        obtain ⟨j, v, hj, rfl, hN, hb⟩ := hrel
        have HN := Lib.hid hN
        have Hb := Lib.hid hb
        by_cases hlt : j < n
        · have hjl : j < l.length := by rw [HI.out.lm]; exact hlt
          have hts := needsIn_take l [] j hjl
          have hll : (needsIn [] (l.take j)).length ≤ 1048576 := by
            have h1 := needsIn_len (l.take j) [] (fun q _ => needs_len q)
            have h2 := wqs_take_le l j
            simp only [List.length_nil] at h1
            omega
          have hwj := wqs_mem l _ (List.getElem_mem hjl)
          have hnj := needs_len l[j]
          have hbz := hb.size
          obtain ⟨tb, tq, A', n', c', C', m', d', rfl, htb, hq, hc0, hc1, hc2, hc3⟩ := HI.out.at_ hjl
          have htb' : tb < w.heap.size + 1 := by omega
          have hd0 := (hb.cell (p := ⟨tb, tq + j * 4, none⟩) htb').trans hc0
          have hd1 := (hb.cell (p := ⟨tb, tq + j * 4 + 1, none⟩) htb').trans hc1
          have hd2 := (hb.cell (p := ⟨tb, tq + j * 4 + 2, none⟩) htb').trans hc2
          have hd3 := (hb.cell (p := ⟨tb, tq + j * 4 + 3, none⟩) htb').trans hc3
          have hqr := (hq.keep fun b o hp => hb.cell (p := ⟨b, o, none⟩) (by show b < _; omega)).more (show w.heap.size ≤ wr.heap.size by omega)
          have hIj := IH.out _ (List.getElem_mem hjl)
          have Hts := Lib.hid hts
          have hx0 : (l[j]).kind = (l[j]).kind := rfl
          clear hts hN hb hc0 hc1 hc2 hc3 hq
          generalize needsIn [] (l.take j) = ol at *
          generalize l[j] = x at *
          generalize x.kind = x0 at *
          generalize x.name = x1 at *
          have hal : Below wr.heap.size wr (wr.alloc (.cells #[.int .i64 x0, .string x1, .slice A' n' c', .slice C' m' d'] 37)) := (Below.refl _ _).alloc (Nat.le_refl _) _
          have c1 := hIj _ _ _ _ _ (hqr.grow hal) (by omega)
          have HNa := Lib.hid (HN.out.below hal)
          have hbc := Lib.hid (Hb.out.alloc (by omega) (.cells #[.int .i64 x0, .string x1, .slice A' n' c', .slice C' m' d'] 37))
          clear hqr hal hx0 hIj
          go_wp2_with fail
          refine c1.mono ?_
          rintro e wa ⟨u, rfl, hown, hba⟩
          obtain ⟨A, c, rfl, hM⟩ := mo_made HNa.out hown
          have hNb := HNa.out.below hba
          have hbd := hbc.out.trans (hba.mono (by simp; omega))
          clear hown c1
          go_wp2_with fail
          refine (add_any (w.heap.size + 1) v ol A _ c (needs x) _ hNb hM rfl (by omega)).mono ?_
          rintro e wd ⟨rfl, v', hN', hb'⟩
          have Fin2 := Lib.hid (Hts.out ▸ hN' : Nd wd (w.heap.size + 1) v' (needsIn [] (l.take (j + 1))))
          have Fin3 := Lib.hid (hbd.trans hb')
          clear hNb hM hbd hN' hb' hba
          go_wp2
          go_roundw
          case rel => exact ⟨j + 1, v', by omega, by go_num, Fin2.out, Fin3.out⟩
          case measure => simp [intOf]; omega
        · obtain rfl : j = n := by omega
          rw [List.take_of_length_le (by rw [HI.out.lm]; exact Nat.le_refl _)] at HN
          have h0 := HN.out.box.cell 0
          simp at h0
          clear hN hb
          go_wp2
          go_ret
          exact Close.out _ _ _ HN.out Hb.out
    · have Fin : Hid (needs (.mk k nm ws l) = []) := Lib.hid (by rw [needs_eq, if_neg k24, if_neg k5])
      rw [Fin.out]
      have h0 := hbx _ _ _ HN2.out
      simp at h0
      have hk4 : k ≠ 4 := fun e => k24 (.inl e)
      have hk5 : (k == 5) = false := beq_eq_false_iff_ne.2 k5
      have hk4' : (k == 4) = false := beq_eq_false_iff_ne.2 hk4
      by_cases k2 : k = 2
      · subst k2
        have hm : ((m : Int) != 1) = true := by
          rw [bne_iff_ne]
          intro e
          have := HI.out.wn
          exact k24 (.inr ⟨rfl, by omega⟩)
        clear k24 hk4 k5 hbx
        go_enter Try.func59, Try.ntmps59
        go_wp2
        go_ret
        exact Close.out _ _ _ HN2.out (Below.refl _ _)
      · have hk2 : (k == 2) = false := beq_eq_false_iff_ne.2 k2
        clear k24 hk4 k5 hbx
        go_enter Try.func59, Try.ntmps59
        go_wp2
        go_ret
        exact Close.out _ _ _ HN2.out (Below.refl _ _)

theorem needs_any : ∀ q, QTx 140737488351232 q → NeedOk q := by
  refine Q.ind (p := fun q => QTx 140737488351232 q → NeedOk q) (fun k nm ws l ih h => ?_)
  refine needs_step k nm ws l h (fun x hx => ih x hx ?_)
  cases h with
  | mk h1 h2 h3 => exact h3 x hx
end Go.Proofs.Ytjfconddkfihcaa.Qy
