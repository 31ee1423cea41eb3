/- loggiaref18.size, Few: the walks (printed by gen_mkr.py). -/
import Derived.Test.YtjfconddkfihcaaPkMarkTextsRow37
namespace Go.Proofs.Ytjfconddkfihcaa.Mk
open Go.RowKit Go.Proofs.Ytjfconddkfihcaa Go.Proofs.Ytjfconddkfihcaa.Ut Go.Proofs.Ytjfconddkfihcaa.Tk Go.Proofs.Ytjfconddkfihcaa.Qy
set_option maxRecDepth 20000
set_option linter.unusedSimpArgs false

def SizeOk (q : Q) : Prop := ∀ (dp z : Int), 0 ≤ dp → dp ≤ 20 → 0 ≤ z → z ≤ 300 → ∀ (w : World) (a0 a1 a2 a3 : Value), QAt w w.heap.size q [a0, a1, a2, a3] →
  Calls Try.prog 66 #[.agg #[a0, a1, a2, a3], .int .i64 dp, .int .i64 z] w fun e w' => (∃ r : Int, e = .returned (.int .i64 r) ∧ 0 ≤ r ∧ r ≤ 601 ∧ (r ≤ 300 → z + wq q ≤ r)) ∧ Below w.heap.size w w'

set_option maxHeartbeats 6400000 in
theorem size_step (k : Int) (nm : ByteArray) (ws : List ByteArray) (l : List Q) (hl2 : ws.length ≤ 8796093021952) (hl3 : l.length ≤ 8796093021952) (ih : ∀ x ∈ l, SizeOk x) : SizeOk (.mk k nm ws l) := by
  intro dp z0 hd0 hd20 hz0 hz300 w a0 a1 a2 a3 hQ
  obtain ⟨WA, m, wc, CA, n, c2, e, hI⟩ := hQ.is
  simp only [List.cons.injEq, and_true] at e
  obtain ⟨rfl, rfl, rfl, rfl⟩ := e
  have hb1 : Below w.heap.size w (w.alloc (.cells #[.int .i64 k, .string nm, .slice WA m wc, .slice CA n c2] 37)) := (Below.refl _ _).alloc (Nat.le_refl _) _
  have hB1 := (Blk.new w 37 #[.int .i64 k, .string nm, .slice WA m wc, .slice CA n c2])
  have hz1 : (w.alloc (.cells #[.int .i64 k, .string nm, .slice WA m wc, .slice CA n c2] 37)).heap.size = w.heap.size + 1 := by simp
  have hm : m ≤ 8796093021952 := by rw [← hI.wn]; exact hl2
  have hn : n ≤ 8796093021952 := by rw [← hI.lm]; exact hl3
  have hkid : ∀ i (h : i < l.length), ∀ (dp z : Int), 0 ≤ dp → dp ≤ 20 → 0 ≤ z → z ≤ 300 → ∀ w1, Below w.heap.size w w1 → ∃ b o A' n' c' C' m' d', CA = some ⟨b, o, none⟩ ∧ b < w.heap.size ∧
      w1.cell? ⟨b, o + i * 4, none⟩ = some (.int .i64 l[i].kind) ∧ w1.cell? ⟨b, o + i * 4 + 1, none⟩ = some (.string l[i].name) ∧ w1.cell? ⟨b, o + i * 4 + 2, none⟩ = some (.slice A' n' c') ∧ w1.cell? ⟨b, o + i * 4 + 3, none⟩ = some (.slice C' m' d') ∧
      Calls Try.prog 66 #[.agg #[.int .i64 l[i].kind, .string l[i].name, .slice A' n' c', .slice C' m' d'], .int .i64 dp, .int .i64 z] w1 fun e w' => (∃ r : Int, e = .returned (.int .i64 r) ∧ 0 ≤ r ∧ r ≤ 601 ∧ (r ≤ 300 → z + (wqs (l.take (i + 1)) - wqs (l.take i) : Nat) ≤ r)) ∧ Below w1.heap.size w1 w' := by
    intro i hi dp z h1 h2 h3 h4 w1 hb
    obtain ⟨tb, tq, A', n', c', C', m', d', rfl, htb, hq, hc0, hc1, hc2, hc3⟩ := hI.at_ hi
    have hx := ih _ (List.getElem_mem hi) dp z h1 h2 h3 h4 w1 _ _ _ _ (hq.grow hb)
    refine ⟨tb, tq, A', n', c', C', m', d', rfl, htb, (hb.cell (p := ⟨tb, tq + i * 4, none⟩) htb).trans hc0, (hb.cell (p := ⟨tb, tq + i * 4 + 1, none⟩) htb).trans hc1, (hb.cell (p := ⟨tb, tq + i * 4 + 2, none⟩) htb).trans hc2, (hb.cell (p := ⟨tb, tq + i * 4 + 3, none⟩) htb).trans hc3, ?_⟩
    have he : wqs (l.take (i + 1)) - wqs (l.take i) = wq l[i] := by rw [wqs_take l i hi]; omega
    rw [he]
    exact hx
  have hwd : ∀ i, i < m → ∀ w1, Below w.heap.size w w1 → ∃ b o, ∃ s : ByteArray, WA = some ⟨b, o, none⟩ ∧ b < w.heap.size ∧ w1.cell? ⟨b, o + i, none⟩ = some (.string s) := by
    intro i hi w1 hb
    obtain ⟨b, o, hl, e, hbb, hc⟩ := hI.wds.at_map hi
    exact ⟨b, o, ws[i], e, hbb, (hb.cell (p := ⟨b, o + i, none⟩) hbb).trans hc⟩
  have hmon : ∀ i, i < l.length → wqs (l.take i) ≤ wqs (l.take (i + 1)) := fun i hi => by rw [wqs_take l i hi]; omega
  have hall : wqs (l.take l.length) = wqs l := by rw [List.take_length]
  rw [hI.lm] at hall
  have hlm := hI.lm
  have hwn := hI.wn
  have HB1 := Lib.hid hB1
  have Hb1 := Lib.hid hb1
  have Hkid := Lib.hid hkid
  have Hwd := Lib.hid hwd
  have Hmon := Lib.hid hmon
  have Hall := Lib.hid hall
  have Hlm := Lib.hid hlm
  have Hwn := Lib.hid hwn
  clear hQ hB1 hb1 hI ih hl2 hl3 hkid hwd hmon hall hlm hwn
  have Fin : ∀ r : Int, (r ≤ 300 → z0 + 1 + (m : Int) + wqs l ≤ r) → (r ≤ 300 → z0 + wq (.mk k nm ws l) ≤ r) := fun r h h3 => by
    have := h h3
    rw [wq_eq, Hwn.out]
    omega
  have HFin := Lib.hid Fin
  clear Fin
  go_enter Try.func66, Try.ntmps66
  go_wp2_with fail
  generalize hw0 : (w.alloc (.cells #[.int .i64 k, .string nm, .slice WA m wc, .slice CA n c2] 37)) = w0 at *
  clear hw0
  go_loopw [2, 7] (fun s i wr => ∃ (j : Nat) (z : Int), j ≤ m ∧ i = .int .i64 j ∧ s = .int .i64 z ∧ 0 ≤ z ∧ z ≤ 601 ∧ (z ≤ 300 → z0 + 1 + (j : Int) ≤ z) ∧ w0 = wr) (fun _ i _ => m - (intOf i).toNat)
  case atStart => exact ⟨0, _, Nat.zero_le _, rfl, rfl, by omega, by omega, by omega, rfl⟩
  case round =>
    obtain ⟨j, z, hj, rfl, rfl, hy0, hy6, hzb, rfl⟩ := hrel
    have hc0 := HB1.out.cell 0
    have hc1 := HB1.out.cell 1
    have hc2' := HB1.out.cell 2
    have hc3 := HB1.out.cell 3
    simp at hc0 hc1 hc2' hc3
    by_cases hlt : j < m
    · by_cases hz : z ≤ 300
      · obtain ⟨wb, wo, s, rfl, hwb, hwc⟩ := Hwd.out j hlt w0 Hb1.out
        have hji : (j : Int) < (m : Int) := by omega
        have hji0 : (0 : Int) ≤ (j : Int) := by omega
        have hzz := hzb hz
        clear hlt
        go_wp2
        go_roundw
        case rel => exact ⟨j + 1, _, by omega, by go_num, rfl, by omega, by omega, by omega, by trivial⟩
        case measure => simp [intOf]; omega
      · have hz' : 300 < z := by omega
        have hji : (j : Int) < (m : Int) := by omega
        have hzq : z ≤ 300 → z0 + 1 + (m : Int) ≤ z := fun h => absurd h hz
        have Hzq := Lib.hid hzq
        clear hlt hzb hzq hz
        by_cases hdz : dp = 0
        · subst hdz
          by_cases hnz : n = 0
          · have hnp : (n : Int) ≤ 0 := by omega
            go_wp2_with fail
            go_loopw [2, 8] (fun s i wr => ∃ (j : Nat) (z : Int), j ≤ n ∧ i = .int .i64 j ∧ s = .int .i64 z ∧ 0 ≤ z ∧ z ≤ 601 ∧ (z ≤ 300 → z0 + 1 + (m : Int) + (wqs (l.take j) : Nat) ≤ z) ∧ Below (w.heap.size + 1) w0 wr) (fun _ i _ => n - (intOf i).toNat)
            case atStart => exact ⟨0, _, Nat.zero_le _, rfl, rfl, hy0, hy6, fun h => by have := Hzq.out h; simp [wqs]; omega, Below.refl _ _⟩
            case round =>
              obtain ⟨i, y, hi, rfl, rfl, hu0, hu6, hyb, hb⟩ := hrel
              have hls := (hb.cell (p := ⟨w.heap.size, 3, none⟩) (by show w.heap.size < _; omega)).trans hc3
              have Hb := Lib.hid hb
              have hbz := hb.size
              by_cases hlt2 : i < n
              · exact absurd hlt2 (by omega)
              · obtain rfl : n = i := by omega
                have hyb' : y ≤ 300 → z0 + 1 + (m : Int) + (wqs l : Nat) ≤ y := fun h => by have := hyb h; rw [Hall.out] at this; exact this
                have Hyb := Lib.hid hyb'
                clear hb hyb hyb' hi hlt2
                go_wp2
                go_ret
                exact ⟨⟨y, rfl, hu0, hu6, HFin.out y Hyb.out⟩, Hb1.out.trans (Hb.out.mono (by omega))⟩
          · have hnp : (0 : Int) < (n : Int) := by omega
            go_wp2
            go_ret
            exact ⟨⟨301, rfl, by omega, by omega, fun h => absurd h (by omega)⟩, Hb1.out⟩
        · have hdp : 0 < dp := by omega
          go_wp2_with fail
          go_loopw [2, 8] (fun s i wr => ∃ (j : Nat) (z : Int), j ≤ n ∧ i = .int .i64 j ∧ s = .int .i64 z ∧ 0 ≤ z ∧ z ≤ 601 ∧ (z ≤ 300 → z0 + 1 + (m : Int) + (wqs (l.take j) : Nat) ≤ z) ∧ Below (w.heap.size + 1) w0 wr) (fun _ i _ => n - (intOf i).toNat)
          case atStart => exact ⟨0, _, Nat.zero_le _, rfl, rfl, hy0, hy6, fun h => by have := Hzq.out h; simp [wqs]; omega, Below.refl _ _⟩
          case round =>
            obtain ⟨i, y, hi, rfl, rfl, hu0, hu6, hyb, hb⟩ := hrel
            have hls := (hb.cell (p := ⟨w.heap.size, 3, none⟩) (by show w.heap.size < _; omega)).trans hc3
            have Hb := Lib.hid hb
            have hbz := hb.size
            by_cases hlt2 : i < n
            · by_cases hz2 : y ≤ 300
              · have hil : i < l.length := by rw [Hlm.out]; exact hlt2
                have hbw := Hb1.out.trans (hb.mono (by omega))
                obtain ⟨tb, tq, A', n', c', C', m', d', rfl, htb, hd0, hd1, hd2, hd3, c1⟩ := Hkid.out i hil (dp - 1) y (by omega) (by omega) hu0 hz2 wr hbw
                have hji2 : (i : Int) < (n : Int) := by omega
                have hji20 : (0 : Int) ≤ (i : Int) := by omega
                have hyy := hyb hz2
                have hmo := Hmon.out i hil
                have Hyy := Lib.hid hyy
                have Hmo := Lib.hid hmo
                clear hb hbw hyb hyy hmo hlt2
                generalize (l[i]).kind = x0 at *
                generalize (l[i]).name = x1 at *
                go_wp2_with (go_at_call 66; refine c1.mono ?_; rintro e wa ⟨⟨r, rfl, hr0, hr6, hr3⟩, hba⟩)
                have FinB := Lib.hid (Hb.out.trans (hba.mono (by omega)))
                have FinR : Hid (r ≤ 300 → z0 + 1 + (m : Int) + (wqs (l.take (i + 1)) : Nat) ≤ r) := Lib.hid (fun h => by have h1 := hr3 h; have h2 := Hyy.out; have h3 := Hmo.out; omega)
                clear c1 hba hr3
                go_roundw
                case rel => exact ⟨i + 1, _, by omega, by go_num, rfl, hr0, hr6, FinR.out, FinB.out⟩
                case measure => simp [intOf]; omega
              · have hz2' : 300 < y := by omega
                have hji2 : (i : Int) < (n : Int) := by omega
                clear hb hls
                have hls := (Hb.out.cell (p := ⟨w.heap.size, 3, none⟩) (by show w.heap.size < _; omega)).trans hc3
                go_wp2
                go_ret
                exact ⟨⟨y, rfl, hu0, hu6, fun h => absurd h (by omega)⟩, Hb1.out.trans (Hb.out.mono (by omega))⟩
            · obtain rfl : n = i := by omega
              have hyb' : y ≤ 300 → z0 + 1 + (m : Int) + (wqs l : Nat) ≤ y := fun h => by have := hyb h; rw [Hall.out] at this; exact this
              have Hyb := Lib.hid hyb'
              clear hb hyb hyb' hi hlt2
              go_wp2
              go_ret
              exact ⟨⟨y, rfl, hu0, hu6, HFin.out y Hyb.out⟩, Hb1.out.trans (Hb.out.mono (by omega))⟩
    · obtain rfl : m = j := by omega
      have Hzq := Lib.hid hzb
      clear hzb hlt hj
      by_cases hdz : dp = 0
      · subst hdz
        by_cases hnz : n = 0
        · have hnp : (n : Int) ≤ 0 := by omega
          go_wp2_with fail
          go_loopw [2, 8] (fun s i wr => ∃ (j : Nat) (z : Int), j ≤ n ∧ i = .int .i64 j ∧ s = .int .i64 z ∧ 0 ≤ z ∧ z ≤ 601 ∧ (z ≤ 300 → z0 + 1 + (m : Int) + (wqs (l.take j) : Nat) ≤ z) ∧ Below (w.heap.size + 1) w0 wr) (fun _ i _ => n - (intOf i).toNat)
          case atStart => exact ⟨0, _, Nat.zero_le _, rfl, rfl, hy0, hy6, fun h => by have := Hzq.out h; simp [wqs]; omega, Below.refl _ _⟩
          case round =>
            obtain ⟨i, y, hi, rfl, rfl, hu0, hu6, hyb, hb⟩ := hrel
            have hls := (hb.cell (p := ⟨w.heap.size, 3, none⟩) (by show w.heap.size < _; omega)).trans hc3
            have Hb := Lib.hid hb
            have hbz := hb.size
            by_cases hlt2 : i < n
            · exact absurd hlt2 (by omega)
            · obtain rfl : n = i := by omega
              have hyb' : y ≤ 300 → z0 + 1 + (m : Int) + (wqs l : Nat) ≤ y := fun h => by have := hyb h; rw [Hall.out] at this; exact this
              have Hyb := Lib.hid hyb'
              clear hb hyb hyb' hi hlt2
              go_wp2
              go_ret
              exact ⟨⟨y, rfl, hu0, hu6, HFin.out y Hyb.out⟩, Hb1.out.trans (Hb.out.mono (by omega))⟩
        · have hnp : (0 : Int) < (n : Int) := by omega
          go_wp2
          go_ret
          exact ⟨⟨301, rfl, by omega, by omega, fun h => absurd h (by omega)⟩, Hb1.out⟩
      · have hdp : 0 < dp := by omega
        go_wp2_with fail
        go_loopw [2, 8] (fun s i wr => ∃ (j : Nat) (z : Int), j ≤ n ∧ i = .int .i64 j ∧ s = .int .i64 z ∧ 0 ≤ z ∧ z ≤ 601 ∧ (z ≤ 300 → z0 + 1 + (m : Int) + (wqs (l.take j) : Nat) ≤ z) ∧ Below (w.heap.size + 1) w0 wr) (fun _ i _ => n - (intOf i).toNat)
        case atStart => exact ⟨0, _, Nat.zero_le _, rfl, rfl, hy0, hy6, fun h => by have := Hzq.out h; simp [wqs]; omega, Below.refl _ _⟩
        case round =>
          obtain ⟨i, y, hi, rfl, rfl, hu0, hu6, hyb, hb⟩ := hrel
          have hls := (hb.cell (p := ⟨w.heap.size, 3, none⟩) (by show w.heap.size < _; omega)).trans hc3
          have Hb := Lib.hid hb
          have hbz := hb.size
          by_cases hlt2 : i < n
          · by_cases hz2 : y ≤ 300
            · have hil : i < l.length := by rw [Hlm.out]; exact hlt2
              have hbw := Hb1.out.trans (hb.mono (by omega))
              obtain ⟨tb, tq, A', n', c', C', m', d', rfl, htb, hd0, hd1, hd2, hd3, c1⟩ := Hkid.out i hil (dp - 1) y (by omega) (by omega) hu0 hz2 wr hbw
              have hji2 : (i : Int) < (n : Int) := by omega
              have hji20 : (0 : Int) ≤ (i : Int) := by omega
              have hyy := hyb hz2
              have hmo := Hmon.out i hil
              have Hyy := Lib.hid hyy
              have Hmo := Lib.hid hmo
              clear hb hbw hyb hyy hmo hlt2
              generalize (l[i]).kind = x0 at *
              generalize (l[i]).name = x1 at *
              go_wp2_with (go_at_call 66; refine c1.mono ?_; rintro e wa ⟨⟨r, rfl, hr0, hr6, hr3⟩, hba⟩)
              have FinB := Lib.hid (Hb.out.trans (hba.mono (by omega)))
              have FinR : Hid (r ≤ 300 → z0 + 1 + (m : Int) + (wqs (l.take (i + 1)) : Nat) ≤ r) := Lib.hid (fun h => by have h1 := hr3 h; have h2 := Hyy.out; have h3 := Hmo.out; omega)
              clear c1 hba hr3
              go_roundw
              case rel => exact ⟨i + 1, _, by omega, by go_num, rfl, hr0, hr6, FinR.out, FinB.out⟩
              case measure => simp [intOf]; omega
            · have hz2' : 300 < y := by omega
              have hji2 : (i : Int) < (n : Int) := by omega
              clear hb hls
              have hls := (Hb.out.cell (p := ⟨w.heap.size, 3, none⟩) (by show w.heap.size < _; omega)).trans hc3
              go_wp2
              go_ret
              exact ⟨⟨y, rfl, hu0, hu6, fun h => absurd h (by omega)⟩, Hb1.out.trans (Hb.out.mono (by omega))⟩
          · obtain rfl : n = i := by omega
            have hyb' : y ≤ 300 → z0 + 1 + (m : Int) + (wqs l : Nat) ≤ y := fun h => by have := hyb h; rw [Hall.out] at this; exact this
            have Hyb := Lib.hid hyb'
            clear hb hyb hyb' hi hlt2
            go_wp2
            go_ret
            exact ⟨⟨y, rfl, hu0, hu6, HFin.out y Hyb.out⟩, Hb1.out.trans (Hb.out.mono (by omega))⟩
theorem size_any : ∀ q, QSz q → SizeOk q := by
  refine Q.ind (p := fun q => QSz q → SizeOk q) (fun k nm ws l ih h => ?_)
  cases h with
  | mk h1 h2 h3 => exact size_step k nm ws l h1 h2 (fun x hx => ih x hx (h3 x hx))

theorem rfew_any (q : Q) (hq : QSz q) (a0 a1 a2 a3 : Value) (w : World) (hQ : QAt w w.heap.size q [a0, a1, a2, a3]) :
    Calls Try.prog 21 #[.agg #[a0, a1, a2, a3]] w fun e w' => (∃ t : Bool, e = .returned (.bool t) ∧ (t = true → wq q ≤ 300)) ∧ Below w.heap.size w w' := by
  obtain ⟨k0, nm, WA, m, wc, CA, n1, c2, e⟩ := (show ∃ k nm A n c C m d, [a0, a1, a2, a3] = [.int .i64 k, .string nm, .slice A n c, .slice C m d] by cases hQ; exact ⟨_, _, _, _, _, _, _, _, rfl⟩)
  simp only [List.cons.injEq, and_true] at e
  obtain ⟨rfl, rfl, rfl, rfl⟩ := e
  have hb1 : Below w.heap.size w (w.alloc (.cells #[.int .i64 k0, .string nm, .slice WA m wc, .slice CA n1 c2] 37)) := (Below.refl _ _).alloc (Nat.le_refl _) _
  have cs := size_any q hq 20 0 (by omega) (by omega) (by omega) (by omega) _ _ _ _ _ (hQ.grow hb1)
  have Hb1 := Lib.hid hb1
  clear hQ hq hb1
  go_enter Try.func21, Try.ntmps21
  go_wp2_with fail
  refine cs.mono ?_
  rintro e w2 ⟨⟨r, rfl, h0, h6, hr⟩, hb2⟩
  have HF := Lib.hid (Hb1.out.trans (hb2.mono Hb1.out.size))
  by_cases hle : r ≤ 300
  · have hq3 : wq q ≤ 300 := by have := hr hle; omega
    have Hq3 := Lib.hid hq3
    clear cs hb2 hr hq3
    go_wp2
    go_ret
    exact ⟨⟨true, by simp [hle], fun _ => Hq3.out⟩, HF.out⟩
  · have hgt : 300 < r := by omega
    clear cs hb2 hr
    go_wp2
    go_ret
    exact ⟨⟨false, by simp [hle], fun h => by cases h⟩, HF.out⟩
end Go.Proofs.Ytjfconddkfihcaa.Mk
