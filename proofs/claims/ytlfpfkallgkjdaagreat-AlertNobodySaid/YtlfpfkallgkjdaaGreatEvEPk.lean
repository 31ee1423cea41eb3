/- event.CheckBatch, loggiaref10.CheckBatch: the walks. -/
import Derived.Test.YtlfpfkallgkjdaaGreatPkAlertManyRow22
namespace Go.Proofs.YtlfpfkallgkjdaaGreat.Ev
open Go.RowKit Go.Proofs.YtlfpfkallgkjdaaGreat Go.Proofs.YtlfpfkallgkjdaaGreat.Ut Go.Proofs.YtlfpfkallgkjdaaGreat.Tk Go.Proofs.YtlfpfkallgkjdaaGreat.Qy
set_option maxRecDepth 20000
set_option linter.unusedVariables false
set_option linter.unusedSimpArgs false

/-- An event's two cells. -/
def EvV (w : World) (B : Nat) (e : Evn) (v : List Value) : Prop := ∃ F fn fc, v = [.int .i64 e.1, .slice F fn fc] ∧ FlAt w B F fn fc e.2
theorem EvV.len {w : World} {B : Nat} {e : Evn} {v : List Value} (h : EvV w B e v) : v.length = 2 := by obtain ⟨F, fn, fc, rfl, _⟩ := h; rfl
/-- A row of events. -/
structure EvsAt (w : World) (B : Nat) (A : Option Addr) (n c : Nat) (l : List Evn) : Prop where
  ln : l.length = n
  few : n ≤ 4398046511104
  cap : n ≤ c
  ex : ∃ vss : List (List Value), vss.length = n ∧ Reads w B 2 A n vss.flatten ∧ ∀ i (h : i < l.length) (h' : i < vss.length), EvV w B l[i] vss[i]
theorem EvsAt.keep {w w' : World} {B n c : Nat} {A : Option Addr} {l : List Evn} (h : EvsAt w B A n c l) (hk : ∀ b o, b < B → w'.cell? ⟨b, o, none⟩ = w.cell? ⟨b, o, none⟩) : EvsAt w' B A n c l := by
  obtain ⟨vss, h1, h2, h3⟩ := h.ex
  exact ⟨h.ln, h.few, h.cap, vss, h1, h2.keep hk, fun i a b => by obtain ⟨F, fn, fc, e, g⟩ := h3 i a b; exact ⟨F, fn, fc, e, g.keep hk⟩⟩
theorem EvsAt.more {w : World} {B B' n c : Nat} {A : Option Addr} {l : List Evn} (h : EvsAt w B A n c l) (hB : B ≤ B') : EvsAt w B' A n c l := by
  obtain ⟨vss, h1, h2, h3⟩ := h.ex
  exact ⟨h.ln, h.few, h.cap, vss, h1, h2.more hB, fun i a b => by obtain ⟨F, fn, fc, e, g⟩ := h3 i a b; exact ⟨F, fn, fc, e, g.more hB⟩⟩
theorem EvsAt.grow {w w' : World} {n c : Nat} {A : Option Addr} {l : List Evn} (h : EvsAt w w.heap.size A n c l) (hb : Below w.heap.size w w') : EvsAt w' w'.heap.size A n c l := (h.keep fun _ _ hp => hb.cell hp).more hb.size
theorem EvsAt.at_ {w : World} {B n c : Nat} {A : Option Addr} {l : List Evn} (h : EvsAt w B A n c l) {i : Nat} (hi : i < l.length) :
    ∃ b o F fn fc, A = some ⟨b, o, none⟩ ∧ b < B ∧ w.cell? ⟨b, o + i * 2, none⟩ = some (.int .i64 l[i].1) ∧ w.cell? ⟨b, o + i * 2 + 1, none⟩ = some (.slice F fn fc) ∧ FlAt w B F fn fc l[i].2 := by
  obtain ⟨vss, h1, h2, h3⟩ := h.ex
  have hl := h.ln
  have hi' : i < vss.length := by omega
  have h4 : ∀ v ∈ vss, v.length = 2 := fun v hv => by
    obtain ⟨j, hj, rfl⟩ := List.mem_iff_getElem.1 hv
    exact (h3 j (by omega) hj).len
  obtain ⟨F, fn, fc, e, g⟩ := h3 i hi hi'
  obtain ⟨b, o, eA, hb, hc⟩ := h2.2 (by omega)
  have f0 := flat_get h4 i 0 hi' (by omega)
  have f1 := flat_get h4 i 1 hi' (by omega)
  rw [e] at f0 f1
  have c0 := hc _ _ f0
  have c1 := hc _ _ f1
  rw [← Nat.add_assoc] at c1
  exact ⟨b, o, F, fn, fc, eA, hb, c0, c1, g⟩
theorem szL_at (l : List Evn) (k : Nat) (h : k < l.length) : szL (l.take (k + 1)) = szL (l.take k) + szE l[k].2 := by
  rw [List.take_succ_eq_append_getElem h, szL_snoc]
theorem ok_at {l : List Evn} {k : Nat} (h : ∀ e ∈ l.take k, chkE e.2 = 0) (hk : k < l.length) (h2 : chkE l[k].2 = 0) : ∀ e ∈ l.take (k + 1), chkE e.2 = 0 := fun e he => by
  rw [List.take_succ_eq_append_getElem hk, List.mem_append, List.mem_singleton] at he
  rcases he with he | rfl
  · exact h e he
  · exact h2
/-- What is told behind the loop. -/
theorem chkB_end {seq : Int} {l : List Evn} (h0 : l ≠ []) (h1 : ¬ 64 < l.length) (h : ∀ e ∈ l.take l.length, chkE e.2 = 0) : chkB seq l = if 65536 < szL l then 2 else if seq < 1 ∨ 1099511627776 - (l.length : Int) + 1 < seq then 5 else 0 := by
  rw [List.take_length] at h
  unfold chkB
  rw [if_neg h0, if_neg h1, if_pos (fstE_ok h)]
theorem chkB_bad {seq : Int} {l : List Evn} {k : Nat} (h0 : l ≠ []) (h1 : ¬ 64 < l.length) (hk : k < l.length) (h : ∀ e ∈ l.take k, chkE e.2 = 0) (hne : chkE l[k].2 ≠ 0) : chkB seq l = chkE l[k].2 := by
  have e := fstE_at hk h hne
  unfold chkB
  rw [if_neg h0, if_neg h1, if_neg (by rw [e]; exact hne), e]



set_option maxHeartbeats 1600000 in
theorem checkBatch_any (seq : Int) (A : Option Addr) (n c : Nat) (l : List Evn) (w : World) (h : EvsAt w w.heap.size A n c l) :
    Calls Tryz.prog 57 #[.agg #[.int .i64 seq, .slice A n c]] w fun e w' => e = .returned (.int .i64 (chkB seq l)) ∧ Below w.heap.size w w' := by
  have hl := h.ln
  have hl1 : l.length ≤ n := by omega
  have hl2 : n ≤ l.length := by omega
  have hcap := h.cap
  have hfew := h.few
  have hB1 : Below w.heap.size w (w.alloc (.cells #[.int .i64 seq, .slice A n c] 69)) := (Below.refl _ _).alloc (Nat.le_refl _) _
  have hF1 := h.grow hB1
  have hX := (Blk.new w 69 #[.int .i64 seq, .slice A n c])
  have H := Lib.hid (And.intro hF1 (And.intro hX hB1))
  clear hl h hF1 hX hB1
  obtain ⟨r, hr⟩ : ∃ r, r = chkB seq l := ⟨_, rfl⟩
  rw [← hr]
  have Fin := Lib.hid hr
  clear hr
  by_cases hz : n = 0
  · subst hz
    have e0 : l = [] := List.length_eq_zero_iff.1 (by omega)
    have F2 : Hid (r = 1) := Lib.hid (by rw [Fin.out, e0]; rfl)
    clear e0 Fin
    go_enter Tryz.func57, Tryz.ntmps57
    go_wp2
    go_ret
    exact ⟨by rw [F2.out]; rfl, H.out.2.2⟩
  · have hz1 : ((n : Int) = 0) = False := eq_false (by omega)
    have hz2 : ((n : Int) == 0) = false := by simp; omega
    have N0 : Hid (l ≠ []) := Lib.hid (fun e => by rw [e] at hl2; simp at hl2; omega)
    by_cases hbig : 64 < n
    · have hbz : (64 : Int) < (n : Int) := by omega
      have F2 : Hid (r = 3) := Lib.hid (by rw [Fin.out]; unfold chkB; rw [if_neg N0.out, if_pos (by omega)])
      clear Fin hz
      go_enter Tryz.func57, Tryz.ntmps57
      go_wp2
      go_ret
      exact ⟨by rw [F2.out]; rfl, H.out.2.2⟩
    · have hbz : ¬ (64 : Int) < (n : Int) := by omega
      have N1 : Hid (¬ 64 < l.length) := Lib.hid (by omega)
      clear hz
      go_enter Tryz.func57, Tryz.ntmps57
      go_wp2
      generalize w.alloc (.cells #[.int .i64 seq, .slice A n c] 69) = W0 at *
      go_loopw [4, 20] (fun s i wr => ∃ k : Nat, k ≤ l.length ∧ i = .int .i64 (k : Nat) ∧ s = .int .i64 (szL (l.take k) : Nat) ∧ Hid (∀ e ∈ l.take k, chkE e.2 = 0) ∧ Hid (Below W0.heap.size W0 wr)) (fun _ i _ => l.length - (intOf i).toNat)
      case atStart => exact ⟨0, Nat.zero_le _, rfl, rfl, Lib.hid (by simp), Lib.hid (Below.refl _ _)⟩
      case round =>
        obtain ⟨k, hk, rfl, rfl, hO, hB⟩ := hrel
        have d0 := (H.out.2.1.below hB.out H.out.2.1.lt).cell 0
        have d1 := (H.out.2.1.below hB.out H.out.2.1.lt).cell 1
        simp only [List.getElem?_toArray, List.getElem?_cons_zero, List.getElem?_cons_succ] at d0 d1
        have hBw : Hid (Below w.heap.size w wr) := Lib.hid (H.out.2.2.trans (hB.out.mono H.out.2.2.size))
        have hzt := szL_le hO.out
        have hlt2 : (l.take k).length ≤ k := List.length_take_le _ _
        have hzb : szL (l.take k) ≤ 4480000 := by omega
        clear hzt hlt2
        by_cases hlt : k < l.length
        · have hkz : (k : Int) < (n : Int) := by omega
          have hk0 : (0 : Int) ≤ (k : Int) := by omega
          have hG := H.out.1.grow hB.out
          obtain ⟨b, o, F, fn, fc, rfl, hbb, ca, cf, hFl⟩ := hG.at_ hlt
          have dbx := Blk.new wr 33 #[.int .i64 l[k].1, .slice F fn fc]
          have hB2 : Below W0.heap.size W0 (wr.alloc (.cells #[.int .i64 l[k].1, .slice F fn fc] 33)) := hB.out.alloc hB.out.size _
          have hFl2 := hFl.grow ((Below.refl _ wr).alloc (Nat.le_refl _) (.cells #[.int .i64 l[k].1, .slice F fn fc] 33))
          have HB2 := Lib.hid (And.intro hB2 dbx)
          clear hB2 dbx
          have CC := Lib.hid (fun (wx : World) (hx : FlAt wx wx.heap.size F fn fc l[k].2) => check_any l[k].1 F fn fc l[k].2 wx hx)
          have SS := Lib.hid (fun (wx : World) (hx : FlAt wx wx.heap.size F fn fc l[k].2) => size_any l[k].1 F fn fc l[k].2 wx hx)
          have HSZ := Lib.hid (szL_at l k hlt)
          have BAD : Hid (chkE l[k].2 ≠ 0 → r = chkE l[k].2) := Lib.hid (fun hne => by rw [Fin.out]; exact chkB_bad N0.out N1.out hlt hO.out hne)
          have OKN : Hid (chkE l[k].2 = 0 → ∀ e ∈ l.take (k + 1), chkE e.2 = 0) := Lib.hid (fun h => ok_at hO.out hlt h)
          have HSB : Hid (chkE l[k].2 = 0 → szE l[k].2 ≤ 70000) := Lib.hid szE_le
          have HFL := Lib.hid hFl2
          clear hG hFl hO
          generalize hev : l[k] = ev at *
          clear hev
          obtain ⟨ta, fs⟩ := ev
          simp only at ca CC SS HSZ BAD OKN HSB
          clear hFl2
          simp only at HB2 HFL
          go_wp2_with fail
          generalize wr.alloc (.cells #[.int .i64 ta, .slice F fn fc] 33) = w1 at *
          have e0 := HB2.out.2.cell 0
          have e1 := HB2.out.2.cell 1
          simp only [List.getElem?_toArray, List.getElem?_cons_zero, List.getElem?_cons_succ] at e0 e1
          clear ca cf d0 d1
          go_wp2_with fail
          refine (CC.out _ HFL.out).mono ?_
          rintro e w2 ⟨rfl, hb2⟩
          have hB3 : Hid (Below W0.heap.size W0 w2) := Lib.hid (HB2.out.1.trans (hb2.mono HB2.out.1.size))
          have HFL2 := Lib.hid (HFL.out.grow hb2)
          have dbx2 := HB2.out.2.below hb2 HB2.out.2.lt
          have e0 := dbx2.cell 0
          have e1 := dbx2.cell 1
          simp only [List.getElem?_toArray, List.getElem?_cons_zero, List.getElem?_cons_succ] at e0 e1
          clear dbx2 HB2
          have hBw3 : Hid (Below w.heap.size w w2) := Lib.hid (H.out.2.2.trans (hB3.out.mono H.out.2.2.size))
          clear hb2 hB hBw CC HFL
          by_cases hc : chkE fs = 0
          · have OKN2 := Lib.hid (OKN.out hc)
            have hse := HSB.out hc
            have HC := Lib.hid hc
            rw [hc]
            clear hc BAD OKN HSB
            have hcz : ((0 : Int) != 0) = false := rfl
            go_wp2_with fail
            refine (SS.out _ HFL2.out HC.out).mono ?_
            rintro e w3 ⟨rfl, hb3⟩
            have hB4 : Hid (Below W0.heap.size W0 w3) := Lib.hid (hB3.out.trans (hb3.mono hB3.out.size))
            generalize hzk : szL (l.take k) = zk at *
            generalize hze : szE fs = ze at *
            clear hzk hze hb3 hB3 hBw3 SS HFL2
            go_wp2
            go_roundw
            case rel => exact ⟨k + 1, by omega, by go_num, by rw [HSZ.out]; go_num, OKN2, hB4⟩
            case measure => simp [intOf]; omega
          · have BAD2 := Lib.hid (BAD.out hc)
            generalize hcc : chkE fs = cc at *
            have hcz : (cc != 0) = true := by simpa using hc
            have hcz2 : (cc = 0) = False := eq_false hc
            clear hcc hc BAD OKN HSB SS HFL2
            go_wp2
            go_ret
            exact ⟨by rw [BAD2.out]; rfl, hBw3.out⟩
        · have hkz : ¬ (k : Int) < (n : Int) := by omega
          obtain rfl : k = l.length := by omega
          have F2 : Hid (r = if 65536 < szL l then 2 else if seq < 1 ∨ 1099511627776 - (l.length : Int) + 1 < seq then 5 else 0) := Lib.hid (by rw [Fin.out]; exact chkB_end N0.out N1.out hO.out)
          rw [List.take_length] at hzb ⊢
          clear Fin hO hlt hk
          by_cases hz : 65536 < szL l
          · have hzz : (65536 : Int) < (szL l : Int) := by omega
            go_wp2
            go_ret
            exact ⟨by rw [F2.out, if_pos hz]; rfl, hBw.out⟩
          · have hzz : ¬ (65536 : Int) < (szL l : Int) := by omega
            have hrng : (n : Int) ≤ 64 := by omega
            by_cases hq1 : seq < 1
            · have F3 : Hid (r = 5) := Lib.hid (by rw [F2.out, if_neg hz, if_pos (.inl hq1)])
              clear F2 hz
              go_wp2
              go_ret
              exact ⟨by rw [F3.out]; rfl, hBw.out⟩
            · by_cases hq2 : 1099511627776 - (n : Int) + 1 < seq
              · have F3 : Hid (r = 5) := Lib.hid (by rw [F2.out, if_neg hz, if_pos (.inr (by omega))])
                have hq3 : 1099511627776 - ((n : Int) - 1) < seq := by omega
                clear F2 hz
                go_wp2
                go_ret
                exact ⟨by rw [F3.out]; rfl, hBw.out⟩
              · have F3 : Hid (r = 0) := Lib.hid (by rw [F2.out, if_neg hz, if_neg (by omega)])
                have hq3 : ¬ 1099511627776 - ((n : Int) - 1) < seq := by omega
                clear F2 hz
                go_wp2
                go_ret
                exact ⟨by rw [F3.out]; rfl, hBw.out⟩

set_option maxHeartbeats 1600000 in
theorem rcheckBatch_any (seq : Int) (A : Option Addr) (n c : Nat) (l : List Evn) (w : World) (h : EvsAt w w.heap.size A n c l) :
    Calls Tryz.prog 59 #[.agg #[.int .i64 seq, .slice A n c]] w fun e w' => e = .returned (.int .i64 (chkB seq l)) ∧ Below w.heap.size w w' := by
  have hl := h.ln
  have hl1 : l.length ≤ n := by omega
  have hl2 : n ≤ l.length := by omega
  have hcap := h.cap
  have hfew := h.few
  have hB1 : Below w.heap.size w (w.alloc (.cells #[.int .i64 seq, .slice A n c] 69)) := (Below.refl _ _).alloc (Nat.le_refl _) _
  have hF1 := h.grow hB1
  have hX := (Blk.new w 69 #[.int .i64 seq, .slice A n c])
  have H := Lib.hid (And.intro hF1 (And.intro hX hB1))
  clear hl h hF1 hX hB1
  obtain ⟨r, hr⟩ : ∃ r, r = chkB seq l := ⟨_, rfl⟩
  rw [← hr]
  have Fin := Lib.hid hr
  clear hr
  by_cases hz : n = 0
  · subst hz
    have e0 : l = [] := List.length_eq_zero_iff.1 (by omega)
    have F2 : Hid (r = 1) := Lib.hid (by rw [Fin.out, e0]; rfl)
    clear e0 Fin
    go_enter Tryz.func59, Tryz.ntmps59
    go_wp2
    go_ret
    exact ⟨by rw [F2.out]; rfl, H.out.2.2⟩
  · have hz1 : ((n : Int) = 0) = False := eq_false (by omega)
    have hz2 : ((n : Int) == 0) = false := by simp; omega
    have N0 : Hid (l ≠ []) := Lib.hid (fun e => by rw [e] at hl2; simp at hl2; omega)
    by_cases hbig : 64 < n
    · have hbz : (64 : Int) < (n : Int) := by omega
      have F2 : Hid (r = 3) := Lib.hid (by rw [Fin.out]; unfold chkB; rw [if_neg N0.out, if_pos (by omega)])
      clear Fin hz
      go_enter Tryz.func59, Tryz.ntmps59
      go_wp2
      go_ret
      exact ⟨by rw [F2.out]; rfl, H.out.2.2⟩
    · have hbz : ¬ (64 : Int) < (n : Int) := by omega
      have N1 : Hid (¬ 64 < l.length) := Lib.hid (by omega)
      clear hz
      go_enter Tryz.func59, Tryz.ntmps59
      go_wp2
      generalize w.alloc (.cells #[.int .i64 seq, .slice A n c] 69) = W0 at *
      go_loopw [3, 4] (fun s i wr => ∃ k : Nat, k ≤ l.length ∧ i = .int .i64 (k : Nat) ∧ s = .int .i64 (szL (l.take k) : Nat) ∧ Hid (∀ e ∈ l.take k, chkE e.2 = 0) ∧ Hid (Below W0.heap.size W0 wr)) (fun _ i _ => l.length - (intOf i).toNat)
      case atStart => exact ⟨0, Nat.zero_le _, rfl, rfl, Lib.hid (by simp), Lib.hid (Below.refl _ _)⟩
      case round =>
        obtain ⟨k, hk, rfl, rfl, hO, hB⟩ := hrel
        have d0 := (H.out.2.1.below hB.out H.out.2.1.lt).cell 0
        have d1 := (H.out.2.1.below hB.out H.out.2.1.lt).cell 1
        simp only [List.getElem?_toArray, List.getElem?_cons_zero, List.getElem?_cons_succ] at d0 d1
        have hBw : Hid (Below w.heap.size w wr) := Lib.hid (H.out.2.2.trans (hB.out.mono H.out.2.2.size))
        have hzt := szL_le hO.out
        have hlt2 : (l.take k).length ≤ k := List.length_take_le _ _
        have hzb : szL (l.take k) ≤ 4480000 := by omega
        clear hzt hlt2
        by_cases hlt : k < l.length
        · have hkz : (k : Int) < (n : Int) := by omega
          have hk0 : (0 : Int) ≤ (k : Int) := by omega
          have hG := H.out.1.grow hB.out
          obtain ⟨b, o, F, fn, fc, rfl, hbb, ca, cf, hFl⟩ := hG.at_ hlt
          have CC := Lib.hid (fun (wx : World) (hx : FlAt wx wx.heap.size F fn fc l[k].2) => rcheck_any l[k].1 F fn fc l[k].2 wx hx)
          have SS := Lib.hid (fun (wx : World) (hx : FlAt wx wx.heap.size F fn fc l[k].2) => rsize_any l[k].1 F fn fc l[k].2 wx hx)
          have HSZ := Lib.hid (szL_at l k hlt)
          have BAD : Hid (chkE l[k].2 ≠ 0 → r = chkE l[k].2) := Lib.hid (fun hne => by rw [Fin.out]; exact chkB_bad N0.out N1.out hlt hO.out hne)
          have OKN : Hid (chkE l[k].2 = 0 → ∀ e ∈ l.take (k + 1), chkE e.2 = 0) := Lib.hid (fun h => ok_at hO.out hlt h)
          have HSB : Hid (chkE l[k].2 = 0 → szE l[k].2 ≤ 70000) := Lib.hid szE_le
          have HFL := Lib.hid hFl
          clear hG hFl hO
          generalize hev : l[k] = ev at *
          clear hev
          obtain ⟨ta, fs⟩ := ev
          simp only at ca CC SS HSZ BAD OKN HSB
          go_wp2_with fail
          refine (CC.out _ HFL.out).mono ?_
          rintro e w2 ⟨rfl, hb2⟩
          have hB3 : Hid (Below W0.heap.size W0 w2) := Lib.hid (hB.out.trans (hb2.mono hB.out.size))
          have HFL2 := Lib.hid (HFL.out.grow hb2)
          have d0 := (H.out.2.1.below hB3.out H.out.2.1.lt).cell 0
          have d1 := (H.out.2.1.below hB3.out H.out.2.1.lt).cell 1
          simp only [List.getElem?_toArray, List.getElem?_cons_zero, List.getElem?_cons_succ] at d0 d1
          have ca2 := (hb2.cell (p := ⟨b, o + k * 2, none⟩) hbb).trans ca
          have cf2 := (hb2.cell (p := ⟨b, o + k * 2 + 1, none⟩) hbb).trans cf
          clear ca cf
          have hBw3 : Hid (Below w.heap.size w w2) := Lib.hid (H.out.2.2.trans (hB3.out.mono H.out.2.2.size))
          clear hb2 hB hBw CC HFL
          by_cases hc : chkE fs = 0
          · have OKN2 := Lib.hid (OKN.out hc)
            have hse := HSB.out hc
            have HC := Lib.hid hc
            rw [hc]
            clear hc BAD OKN HSB
            have hcz : ((0 : Int) != 0) = false := rfl
            go_wp2_with fail
            refine (SS.out _ HFL2.out HC.out).mono ?_
            rintro e w3 ⟨rfl, hb3⟩
            have hB4 : Hid (Below W0.heap.size W0 w3) := Lib.hid (hB3.out.trans (hb3.mono hB3.out.size))
            generalize hzk : szL (l.take k) = zk at *
            generalize hze : szE fs = ze at *
            clear hzk hze hb3 hB3 hBw3 SS HFL2
            go_wp2
            go_roundw
            case rel => exact ⟨k + 1, by omega, by go_num, by rw [HSZ.out]; go_num, OKN2, hB4⟩
            case measure => simp [intOf]; omega
          · have BAD2 := Lib.hid (BAD.out hc)
            generalize hcc : chkE fs = cc at *
            have hcz : (cc != 0) = true := by simpa using hc
            have hcz2 : (cc = 0) = False := eq_false hc
            clear hcc hc BAD OKN HSB SS HFL2
            go_wp2
            go_ret
            exact ⟨by rw [BAD2.out]; rfl, hBw3.out⟩
        · have hkz : ¬ (k : Int) < (n : Int) := by omega
          obtain rfl : k = l.length := by omega
          have F2 : Hid (r = if 65536 < szL l then 2 else if seq < 1 ∨ 1099511627776 - (l.length : Int) + 1 < seq then 5 else 0) := Lib.hid (by rw [Fin.out]; exact chkB_end N0.out N1.out hO.out)
          rw [List.take_length] at hzb ⊢
          clear Fin hO hlt hk
          by_cases hz : 65536 < szL l
          · have hzz : (65536 : Int) < (szL l : Int) := by omega
            go_wp2
            go_ret
            exact ⟨by rw [F2.out, if_pos hz]; rfl, hBw.out⟩
          · have hzz : ¬ (65536 : Int) < (szL l : Int) := by omega
            have hrng : (n : Int) ≤ 64 := by omega
            by_cases hq1 : seq < 1
            · have F3 : Hid (r = 5) := Lib.hid (by rw [F2.out, if_neg hz, if_pos (.inl hq1)])
              clear F2 hz
              go_wp2
              go_ret
              exact ⟨by rw [F3.out]; rfl, hBw.out⟩
            · by_cases hq2 : 1099511627776 - (n : Int) + 1 < seq
              · have F3 : Hid (r = 5) := Lib.hid (by rw [F2.out, if_neg hz, if_pos (.inr (by omega))])
                have hq3 : 1099511627776 - ((n : Int) - 1) < seq := by omega
                clear F2 hz
                go_wp2
                go_ret
                exact ⟨by rw [F3.out]; rfl, hBw.out⟩
              · have F3 : Hid (r = 0) := Lib.hid (by rw [F2.out, if_neg hz, if_neg (by omega)])
                have hq3 : ¬ 1099511627776 - ((n : Int) - 1) < seq := by omega
                clear F2 hz
                go_wp2
                go_ret
                exact ⟨by rw [F3.out]; rfl, hBw.out⟩
end Go.Proofs.YtlfpfkallgkjdaaGreat.Ev
