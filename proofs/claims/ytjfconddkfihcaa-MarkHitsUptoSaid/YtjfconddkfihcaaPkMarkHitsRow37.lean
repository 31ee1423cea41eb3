/- loggiaref34.hit: a phrase (printed by gen_mkt.py). -/
import Derived.Test.YtjfconddkfihcaaMkSPk
section
namespace Go.Proofs.Ytjfconddkfihcaa.Mk
open Go.RowKit Go.Proofs.Ytjfconddkfihcaa Go.Proofs.Ytjfconddkfihcaa.Ut Go.Proofs.Ytjfconddkfihcaa.Tk Go.Proofs.Ytjfconddkfihcaa.Qy
set_option maxRecDepth 20000
set_option linter.unusedSimpArgs false

set_option maxHeartbeats 6400000 in
theorem hit4_any (ws : List ByteArray) (T : List (List UInt8)) (hT6 : T.length ≤ 1048576) (hm6 : ws.length ≤ 8796093021952) : HitOk 4 ws T := by
  intro nm l i hi A c w a0 a1 a2 a3 hQ hT
  obtain ⟨WA, m, wc, CA, n, c2, e, hI⟩ := hQ.is
  simp only [List.cons.injEq, and_true] at e
  obtain ⟨rfl, rfl, rfl, rfl⟩ := e
  have hwn := hI.wn
  have hb1 : Below w.heap.size w (w.alloc (.cells #[.int .i64 4, .string nm, .slice WA m wc, .slice CA n c2] 37)) := (Below.refl _ _).alloc (Nat.le_refl _) _
  have hB1 := Blk.new w 37 #[.int .i64 4, .string nm, .slice WA m wc, .slice CA n c2]
  have hz1 : w.heap.size < (w.alloc (.cells #[.int .i64 4, .string nm, .slice WA m wc, .slice CA n c2] 37)).heap.size := by simp
  have hm2 : m ≤ 8796093021952 := by omega
  have hall : ∀ f, standsTo T ws f m = stands T ws f := fun f => by rw [← hwn]; exact standsTo_all T ws f
  have hno : ∀ f k, k ≤ m → standsTo T ws f k = false → stands T ws f = false := fun f k hk h => standsTo_no T ws f k (by omega) h
  have hshort : ∀ f, T.length - f < m → stands T ws f = false := fun f h => stands_short T ws f (by omega)
  have hl4 : leafM 4 ws T i = true ↔ ∃ f, f ≤ i ∧ i < f + m ∧ stands T ws f = true := by rw [← hwn]; exact leaf4 T ws i hi
  have htake : ∀ f k, f + k < T.length → k < m → ∃ tb tq wb wo x p, A = some ⟨tb, tq, none⟩ ∧ WA = some ⟨wb, wo, none⟩ ∧ (∀ wx, Below (w.alloc (.cells #[.int .i64 4, .string nm, .slice WA m wc, .slice CA n c2] 37)).heap.size (w.alloc (.cells #[.int .i64 4, .string nm, .slice WA m wc, .slice CA n c2] 37)) wx → wx.cell? ⟨tb, tq + (f + k), none⟩ = some (.string x) ∧ wx.cell? ⟨wb, wo + k, none⟩ = some (.string p)) ∧ standsTo T ws f (k + 1) = (standsTo T ws f k && (x.toList == p.toList)) := by
    intro f k hf hk
    obtain ⟨tb, tq, _, rfl, htb, htc⟩ := sv_at hT hf
    obtain ⟨wb, wo, hwl, rfl, hwb, hwcc⟩ := hI.wds.at_map hk
    refine ⟨tb, tq, wb, wo, str T[f + k], ws[k], rfl, rfl, fun wx hC => ?_, ?_⟩
    · have hbl := hb1.trans (hC.mono hb1.size)
      exact ⟨(hbl.cell (p := ⟨tb, tq + (f + k), none⟩) htb).trans htc, (hbl.cell (p := ⟨wb, wo + k, none⟩) hwb).trans hwcc⟩
    · rw [standsTo_succ T ws f k hf hwl, tl, tl, str_data]
  have Hb1 := Lib.hid hb1
  have HB1 := Lib.hid hB1
  have Htake := Lib.hid htake
  have Hall := Lib.hid hall
  have Hno := Lib.hid hno
  have Hshort := Lib.hid hshort
  have Hl4 := Lib.hid hl4
  have hNo : (∀ f, f ≤ i → i < f + m → stands T ws f = false) → leafM 4 ws T i = false := fun h => by
    cases hr : leafM 4 ws T i
    · rfl
    · obtain ⟨f, a, b, c⟩ := hl4.1 hr
      rw [h f a b] at c
      cases c
  have HNo := Lib.hid hNo
  clear hQ hT hI hwn hb1 hB1 htake hall hno hshort hl4 hNo hm6
  generalize leafM 4 ws T i = r at *
  go_enter Try.func97, Try.ntmps97
  go_wp2_with fail
  generalize hw1 : (w.alloc (.cells #[.int .i64 4, .string nm, .slice WA m wc, .slice CA n c2] 37)) = w1 at *
  clear hw1
  have hcells : ∀ wx, Below w1.heap.size w1 wx → wx.cell? ⟨w.heap.size, 0, none⟩ = some (.int .i64 4) ∧ wx.cell? ⟨w.heap.size, 2, none⟩ = some (.slice WA m wc) := fun wx hC =>
    have hB := HB1.out.below hC hz1
    ⟨hB.cell 0, hB.cell 2⟩
  have Hbox := Lib.hid hcells
  clear hcells
  go_loopw [8] (fun v wr => ∃ j : Nat, i + 1 - m ≤ j ∧ j ≤ i + 1 ∧ v = .int .i64 (j : Nat) ∧ Hid (∀ f, f < j → f ≤ i → i < f + m → stands T ws f = false) ∧ Below w1.heap.size w1 wr) (fun v _ => i + 1 - (intOf v).toNat)
  case atStart => exact ⟨i + 1 - m, Nat.le_refl _, by omega, by go_num, Lib.hid (fun f h1 _ h3 => by omega), Below.refl _ _⟩
  case round =>
    obtain ⟨j, hjl, hji, rfl, hF, hb⟩ := hrel
    have Hb := Lib.hid hb
    have hbx := (Hbox.out _ hb)
    by_cases hlt : j ≤ i
    · have hji' : (j : Int) ≤ (i : Int) := by omega
      by_cases he : 0 < m ∧ m ≤ T.length - j
      · obtain ⟨hm0, hmT⟩ := he
        have hm0' : (0 : Int) < (m : Int) := by omega
        have hmT' : (m : Int) ≤ (T.length : Int) - (j : Int) := by omega
        clear hb
        go_wp2_with fail
        go_loopw [9, 10] (fun f k wr => ∃ (q : Nat) (b : Bool), q ≤ m ∧ k = .int .i64 (q : Nat) ∧ f = .bool b ∧ Hid (standsTo T ws j q = b) ∧ Below w1.heap.size w1 wr) (fun _ k _ => m - (intOf k).toNat)
        case atStart => exact ⟨0, true, Nat.zero_le _, rfl, rfl, Lib.hid (standsTo_zero T ws j), Hb.out⟩
        case round =>
          obtain ⟨q, b, hq, rfl, rfl, hS, hb⟩ := hrel
          have Hb3 := Lib.hid hb
          have hbx := (Hbox.out _ hb)
          clear hb
          cases b with
          | true =>
            by_cases hqm : q < m
            · have hq0 : (0 : Int) ≤ (q : Int) := by omega
              have hq1 : (q : Int) < (m : Int) := by omega
              have hj0 : (0 : Int) ≤ (j : Int) + (q : Int) := by omega
              have hj1 : (j : Int) + (q : Int) < (T.length : Int) := by omega
              obtain ⟨tb, tq, wb, wo, x, p, rfl, rfl, hxp, hst⟩ := Htake.out j q (by omega) hqm
              have hjw : IntKind.i64.wrap ((j : Int) + (q : Int)) = (j : Int) + (q : Int) := IntWalk.i64_in _ (by omega)
              have hjq : ((j : Int) + (q : Int)).toNat = j + q := by omega
              have hcells : ∀ wx, Below wr.heap.size wr wx → wx.cell? ⟨w.heap.size, 0, none⟩ = some (.int .i64 4) ∧ wx.cell? ⟨w.heap.size, 2, none⟩ = some (.slice (some ⟨wb, wo, none⟩) m wc) ∧ wx.cell? ⟨tb, tq + (j + q), none⟩ = some (.string x) ∧ wx.cell? ⟨wb, wo + q, none⟩ = some (.string p) := fun wx hC =>
                have hbl := Hb3.out.trans (hC.mono Hb3.out.size)
                ⟨(Hbox.out _ hbl).1, (Hbox.out _ hbl).2, (hxp _ hbl).1, (hxp _ hbl).2⟩
              have Hcells := Lib.hid hcells
              rw [hS.out, Bool.true_and] at hst
              have Hst := Lib.hid hst
              clear hcells hxp hst hS
              go_wp2_with fail
              refine wp_region_grow (specOf []) (fun wx => Below (World.heap wr).size wr wx) (fun w1 w2 => Below w1.heap.size w1 w2) (by kernel_rfl) (by kernel_rfl) (stab_nil) (Below.refl _ _).drew ?_
              refine grow_fix 1 ?_ rfl (by rfl) (by rfl) (fun wx hC hD => ?_) ?_
              rotate_left
              · have hSw := Hcells.out wx hC
                go_simp
                all_goals with_reducible rfl
              try simp only [Act.put, List.setIfInBounds_toArray, List.set_cons_zero, List.set_cons_succ]
              refine grow_fix 2 ?_ rfl (by rfl) (by rfl) (fun wx hC hD => ?_) ?_
              rotate_left
              · have hSw := Hcells.out wx hC
                go_simp
                all_goals with_reducible rfl
              try simp only [Act.put, List.setIfInBounds_toArray, List.set_cons_zero, List.set_cons_succ]
              refine grow_fix 3 ?_ rfl (by rfl) (by rfl) (fun wx hC hD => ?_) ?_
              rotate_left
              · have hSw := Hcells.out wx hC
                go_simp
                all_goals with_reducible rfl
              try simp only [Act.put, List.setIfInBounds_toArray, List.set_cons_zero, List.set_cons_succ]
              refine grow_fix 4 ?_ rfl (by rfl) (by rfl) (fun wx hC hD => ?_) ?_
              rotate_left
              · have hSw := Hcells.out wx hC
                go_simp
                all_goals with_reducible rfl
              try simp only [Act.put, List.setIfInBounds_toArray, List.set_cons_zero, List.set_cons_succ]
              refine grow_fix 5 ?_ rfl (by rfl) (by rfl) (fun wx hC hD => ?_) ?_
              rotate_left
              · have hSw := Hcells.out wx hC
                go_simp
                all_goals with_reducible rfl
              try simp only [Act.put, List.setIfInBounds_toArray, List.set_cons_zero, List.set_cons_succ]
              refine grow_fix 6 ?_ rfl (by rfl) (by rfl) (fun wx hC hD => ?_) ?_
              rotate_left
              · have hSw := Hcells.out wx hC
                go_simp
                all_goals with_reducible rfl
              try simp only [Act.put, List.setIfInBounds_toArray, List.set_cons_zero, List.set_cons_succ]
              refine grow_fix 7 ?_ rfl (by rfl) (by rfl) (fun wx hC hD => ?_) ?_
              rotate_left
              · have hSw := Hcells.out wx hC
                go_simp
                all_goals with_reducible rfl
              try simp only [Act.put, List.setIfInBounds_toArray, List.set_cons_zero, List.set_cons_succ]
              refine grow_fix 8 ?_ rfl (by rfl) (by rfl) (fun wx hC hD => ?_) ?_
              rotate_left
              · have hSw := Hcells.out wx hC
                go_simp
                all_goals with_reducible rfl
              try simp only [Act.put, List.setIfInBounds_toArray, List.set_cons_zero, List.set_cons_succ]
              refine grow_fix 9 ?_ rfl (by rfl) (by rfl) (fun wx hC hD => ?_) ?_
              rotate_left
              · have hSw := Hcells.out wx hC
                go_simp
                all_goals with_reducible rfl
              try simp only [Act.put, List.setIfInBounds_toArray, List.set_cons_zero, List.set_cons_succ]
              refine grow_fix 10 ?_ rfl (by rfl) (by rfl) (fun wx hC hD => ?_) ?_
              rotate_left
              · have hSw := Hcells.out wx hC
                go_simp
                all_goals with_reducible rfl
              try simp only [Act.put, List.setIfInBounds_toArray, List.set_cons_zero, List.set_cons_succ]
              refine grow_fix 11 ?_ rfl (by rfl) (by rfl) (fun wx hC hD => ?_) ?_
              rotate_left
              · have hSw := Hcells.out wx hC
                go_simp
                all_goals with_reducible rfl
              try simp only [Act.put, List.setIfInBounds_toArray, List.set_cons_zero, List.set_cons_succ]
              refine grow_fix 12 ?_ rfl (by rfl) (by rfl) (fun wx hC hD => ?_) ?_
              rotate_left
              · have hSw := Hcells.out wx hC
                go_simp
                all_goals with_reducible rfl
              try simp only [Act.put, List.setIfInBounds_toArray, List.set_cons_zero, List.set_cons_succ]
              refine grow_fix 13 ?_ rfl (by rfl) (by rfl) (fun wx hC hD => ?_) ?_
              rotate_left
              · have hSw := Hcells.out wx hC
                go_simp
                all_goals with_reducible rfl
              try simp only [Act.put, List.setIfInBounds_toArray, List.set_cons_zero, List.set_cons_succ]
              refine grow_nil (fun w5 hC hF => ?_)
              have Hb5 := Lib.hid (Hb3.out.trans (hC.mono Hb3.out.size))
              clear hC hF Hcells
              go_wp2
              go_roundw
              case rel => exact ⟨q + 1, _, by omega, by go_num, rfl, Lib.hid Hst.out, Hb5.out⟩
              case measure => simp [intOf]; omega
            · obtain rfl : q = m := by omega
              have hst : stands T ws j = true := by rw [← Hall.out]; exact hS.out
              have Fin : Hid (r = true) := Lib.hid (Hl4.out.2 ⟨j, hlt, by omega, hst⟩)
              clear hS hst
              go_wp2
              go_ret
              exact ⟨by rw [Fin.out]; rfl, Hb1.out.trans (Hb3.out.mono Hb1.out.size)⟩
          | false =>
            have hst : stands T ws j = false := Hno.out j q hq hS.out
            have HF2 : Hid (∀ f, f < j + 1 → f ≤ i → i < f + m → stands T ws f = false) := Lib.hid (fun f h1 h2 h3 => by
              by_cases e : f = j
              · rw [e]; exact hst
              · exact hF.out f (by omega) h2 h3)
            clear hS hst
            by_cases hqm : q < m
            · have hq1 : (q : Int) < (m : Int) := by omega
              go_wp2
              go_roundw
              case rel => exact ⟨j + 1, by omega, by omega, by go_num, HF2, Hb3.out⟩
              case measure => simp [intOf]; omega
            · have hq1 : (m : Int) ≤ (q : Int) := by omega
              go_wp2
              go_roundw
              case rel => exact ⟨j + 1, by omega, by omega, by go_num, HF2, Hb3.out⟩
              case measure => simp [intOf]; omega
      · have HF2 : Hid (∀ f, f < j + 1 → f ≤ i → i < f + m → stands T ws f = false) := Lib.hid (fun f h1 h2 h3 => by
          by_cases e : f = j
          · rw [e]; exact Hshort.out j (by omega)
          · exact hF.out f (by omega) h2 h3)
        clear hb hF
        by_cases hm0 : m = 0
        · have hmp : (m : Int) ≤ 0 := by omega
          go_wp2_with fail
          go_loopw [9, 10] (fun f k wr => f = .bool false ∧ k = .int .i64 0 ∧ Below w1.heap.size w1 wr) (fun _ _ _ => 0)
          case atStart => exact ⟨rfl, rfl, Hb.out⟩
          case round =>
            obtain ⟨rfl, rfl, hb⟩ := hrel
            have Hb3 := Lib.hid hb
            clear hb
            go_wp2
            go_roundw
            case rel => exact ⟨j + 1, by omega, by omega, by go_num, HF2, Hb3.out⟩
            case measure => simp [intOf]; omega
        · have hmp : (0 : Int) < (m : Int) := by omega
          have hmT : ((m : Int) ≤ (T.length : Int) - (j : Int)) = False := by rw [eq_iff_iff, iff_false]; omega
          go_wp2_with fail
          go_loopw [9, 10] (fun f k wr => f = .bool false ∧ k = .int .i64 0 ∧ Below w1.heap.size w1 wr) (fun _ _ _ => 0)
          case atStart => exact ⟨rfl, rfl, Hb.out⟩
          case round =>
            obtain ⟨rfl, rfl, hb⟩ := hrel
            have Hb3 := Lib.hid hb
            clear hb
            go_wp2
            go_roundw
            case rel => exact ⟨j + 1, by omega, by omega, by go_num, HF2, Hb3.out⟩
            case measure => simp [intOf]; omega
    · obtain rfl : j = i + 1 := by omega
      have Fin : Hid (r = false) := Lib.hid (HNo.out (fun f h1 h2 => hF.out f (by omega) h1 h2))
      clear hb hF
      go_wp2
      go_ret
      exact ⟨by rw [Fin.out]; rfl, Hb1.out.trans (Hb.out.mono Hb1.out.size)⟩

theorem hit_any (k : Int) (hk : k = 2 ∨ k = 3 ∨ k = 4) (ws : List ByteArray) (T : List (List UInt8)) (hT6 : T.length ≤ 1048576) (h32 : ∀ x ∈ T, x.length ≤ 1048576) (hm6 : ws.length ≤ 8796093021952) : HitOk k ws T := by
  rcases hk with rfl | rfl | rfl
  · by_cases h : ws.length = 1
    · exact hit2_one ws T h32 h
    · exact hit2_no ws T h
  · by_cases h : ws.length = 1
    · exact hit3_one ws T h32 h
    · exact hit3_no ws T h
  · exact hit4_any ws T hT6 hm6
end Go.Proofs.Ytjfconddkfihcaa.Mk
end

section
/- loggiaref34.marks, Spans: the walks (printed by gen_mku.py). -/
namespace Go.Proofs.Ytjfconddkfihcaa.Mk
open Go.RowKit Go.Proofs.Ytjfconddkfihcaa Go.Proofs.Ytjfconddkfihcaa.Ut Go.Proofs.Ytjfconddkfihcaa.Tk Go.Proofs.Ytjfconddkfihcaa.Qy
set_option maxRecDepth 20000
set_option linter.unusedSimpArgs false

def MarksOk (name : ByteArray) (T : List (List UInt8)) (q : Q) : Prop := ∀ (i : Nat) (_ : i < T.length) (A : Option Addr) (c : Nat) (w : World) (a0 a1 a2 a3 : Value), QAt w w.heap.size q [a0, a1, a2, a3] → Reads w w.heap.size 1 A T.length (sv T) →
  Calls Try.prog 68 #[.agg #[a0, a1, a2, a3], .string name, .slice A T.length c, .int .i64 (i : Nat)] w fun e w' => e = .returned (.bool (markB name T i q)) ∧ Below w.heap.size w w'


set_option maxHeartbeats 6400000 in
theorem marks_leaf2 (name : ByteArray) (T : List (List UInt8)) (hT6 : T.length ≤ 1048576) (h32 : ∀ x ∈ T, x.length ≤ 1048576) (nm : ByteArray) (ws : List ByteArray) (l : List Q) (hm6 : ws.length ≤ 8796093021952) : MarksOk name T (.mk 2 nm ws l) := by
  intro i hi A c w a0 a1 a2 a3 hQ hT
  obtain ⟨WA, m, wc, CA, n, c2, e, hI⟩ := hQ.is
  simp only [List.cons.injEq, and_true] at e
  obtain ⟨rfl, rfl, rfl, rfl⟩ := e
  have hb1 : Below w.heap.size w (w.alloc (.cells #[.int .i64 2, .string nm, .slice WA m wc, .slice CA n c2] 37)) := (Below.refl _ _).alloc (Nat.le_refl _) _
  have hB1 := Blk.new w 37 #[.int .i64 2, .string nm, .slice WA m wc, .slice CA n c2]
  have hz1 : w.heap.size < (w.alloc (.cells #[.int .i64 2, .string nm, .slice WA m wc, .slice CA n c2] 37)).heap.size := by simp
  have Hb1 := Lib.hid hb1
  have HB1 := Lib.hid hB1
  have hmk : markB name T i (.mk 2 nm ws l) = ((nm.toList == name.toList) && leafM 2 ws T i) := by
    rw [markB_eq, if_pos (by decide), beq_toList]
  have ch := hit_any 2 (by decide) ws T hT6 h32 hm6 nm l i hi A c _ _ _ _ _ (hQ.grow hb1) (reads_grow hb1 hT)
  rw [hmk]
  generalize leafM 2 ws T i = r at *
  have Ch := Lib.hid ch
  clear hQ hT hI hb1 hB1 hmk ch hm6 h32 hz1
  cases hxy : (nm.toList == name.toList)
  · clear Ch HB1
    go_enter Try.func68, Try.ntmps68
    go_wp2
    go_ret
    exact ⟨by simp, Hb1.out⟩
  · clear HB1
    go_enter Try.func68, Try.ntmps68
    go_wp2_with fail
    refine Ch.out.mono ?_
    rintro e w2 ⟨rfl, hb2⟩
    have Fin := Lib.hid (Hb1.out.trans (hb2.mono Hb1.out.size))
    clear hb2 Ch Hb1
    go_wp2
    go_ret
    exact ⟨by simp, Fin.out⟩

set_option maxHeartbeats 6400000 in
theorem marks_leaf3 (name : ByteArray) (T : List (List UInt8)) (hT6 : T.length ≤ 1048576) (h32 : ∀ x ∈ T, x.length ≤ 1048576) (nm : ByteArray) (ws : List ByteArray) (l : List Q) (hm6 : ws.length ≤ 8796093021952) : MarksOk name T (.mk 3 nm ws l) := by
  intro i hi A c w a0 a1 a2 a3 hQ hT
  obtain ⟨WA, m, wc, CA, n, c2, e, hI⟩ := hQ.is
  simp only [List.cons.injEq, and_true] at e
  obtain ⟨rfl, rfl, rfl, rfl⟩ := e
  have hb1 : Below w.heap.size w (w.alloc (.cells #[.int .i64 3, .string nm, .slice WA m wc, .slice CA n c2] 37)) := (Below.refl _ _).alloc (Nat.le_refl _) _
  have hB1 := Blk.new w 37 #[.int .i64 3, .string nm, .slice WA m wc, .slice CA n c2]
  have hz1 : w.heap.size < (w.alloc (.cells #[.int .i64 3, .string nm, .slice WA m wc, .slice CA n c2] 37)).heap.size := by simp
  have Hb1 := Lib.hid hb1
  have HB1 := Lib.hid hB1
  have hmk : markB name T i (.mk 3 nm ws l) = ((nm.toList == name.toList) && leafM 3 ws T i) := by
    rw [markB_eq, if_pos (by decide), beq_toList]
  have ch := hit_any 3 (by decide) ws T hT6 h32 hm6 nm l i hi A c _ _ _ _ _ (hQ.grow hb1) (reads_grow hb1 hT)
  rw [hmk]
  generalize leafM 3 ws T i = r at *
  have Ch := Lib.hid ch
  clear hQ hT hI hb1 hB1 hmk ch hm6 h32 hz1
  cases hxy : (nm.toList == name.toList)
  · clear Ch HB1
    go_enter Try.func68, Try.ntmps68
    go_wp2
    go_ret
    exact ⟨by simp, Hb1.out⟩
  · clear HB1
    go_enter Try.func68, Try.ntmps68
    go_wp2_with fail
    refine Ch.out.mono ?_
    rintro e w2 ⟨rfl, hb2⟩
    have Fin := Lib.hid (Hb1.out.trans (hb2.mono Hb1.out.size))
    clear hb2 Ch Hb1
    go_wp2
    go_ret
    exact ⟨by simp, Fin.out⟩

set_option maxHeartbeats 6400000 in
theorem marks_leaf4 (name : ByteArray) (T : List (List UInt8)) (hT6 : T.length ≤ 1048576) (h32 : ∀ x ∈ T, x.length ≤ 1048576) (nm : ByteArray) (ws : List ByteArray) (l : List Q) (hm6 : ws.length ≤ 8796093021952) : MarksOk name T (.mk 4 nm ws l) := by
  intro i hi A c w a0 a1 a2 a3 hQ hT
  obtain ⟨WA, m, wc, CA, n, c2, e, hI⟩ := hQ.is
  simp only [List.cons.injEq, and_true] at e
  obtain ⟨rfl, rfl, rfl, rfl⟩ := e
  have hb1 : Below w.heap.size w (w.alloc (.cells #[.int .i64 4, .string nm, .slice WA m wc, .slice CA n c2] 37)) := (Below.refl _ _).alloc (Nat.le_refl _) _
  have hB1 := Blk.new w 37 #[.int .i64 4, .string nm, .slice WA m wc, .slice CA n c2]
  have hz1 : w.heap.size < (w.alloc (.cells #[.int .i64 4, .string nm, .slice WA m wc, .slice CA n c2] 37)).heap.size := by simp
  have Hb1 := Lib.hid hb1
  have HB1 := Lib.hid hB1
  have hmk : markB name T i (.mk 4 nm ws l) = ((nm.toList == name.toList) && leafM 4 ws T i) := by
    rw [markB_eq, if_pos (by decide), beq_toList]
  have ch := hit_any 4 (by decide) ws T hT6 h32 hm6 nm l i hi A c _ _ _ _ _ (hQ.grow hb1) (reads_grow hb1 hT)
  rw [hmk]
  generalize leafM 4 ws T i = r at *
  have Ch := Lib.hid ch
  clear hQ hT hI hb1 hB1 hmk ch hm6 h32 hz1
  cases hxy : (nm.toList == name.toList)
  · clear Ch HB1
    go_enter Try.func68, Try.ntmps68
    go_wp2
    go_ret
    exact ⟨by simp, Hb1.out⟩
  · clear HB1
    go_enter Try.func68, Try.ntmps68
    go_wp2_with fail
    refine Ch.out.mono ?_
    rintro e w2 ⟨rfl, hb2⟩
    have Fin := Lib.hid (Hb1.out.trans (hb2.mono Hb1.out.size))
    clear hb2 Ch Hb1
    go_wp2
    go_ret
    exact ⟨by simp, Fin.out⟩

set_option maxHeartbeats 6400000 in
theorem marks_inner5 (name : ByteArray) (T : List (List UInt8)) (nm : ByteArray) (ws : List ByteArray) (l : List Q) (hl6 : l.length ≤ 8796093021952) (ih : ∀ x ∈ l, MarksOk name T x) : MarksOk name T (.mk 5 nm ws l) := by
  intro i hi A c w a0 a1 a2 a3 hQ hT
  obtain ⟨WA, m, wc, CA, n, c2, e, hI⟩ := hQ.is
  simp only [List.cons.injEq, and_true] at e
  obtain ⟨rfl, rfl, rfl, rfl⟩ := e
  have hb1 : Below w.heap.size w (w.alloc (.cells #[.int .i64 5, .string nm, .slice WA m wc, .slice CA n c2] 37)) := (Below.refl _ _).alloc (Nat.le_refl _) _
  have hB1 := Blk.new w 37 #[.int .i64 5, .string nm, .slice WA m wc, .slice CA n c2]
  have hz1 : w.heap.size < (w.alloc (.cells #[.int .i64 5, .string nm, .slice WA m wc, .slice CA n c2] 37)).heap.size := by simp
  have Hb1 := Lib.hid hb1
  have HB1 := Lib.hid hB1
  have hmk : markB name T i (.mk 5 nm ws l) = l.any (markB name T i) := by
    rw [markB_eq, if_neg (by decide), if_pos (by decide)]
  rw [hmk]
  have hlm := hI.lm
  have hn6 : n ≤ 8796093021952 := by omega
  have hkid : ∀ j (hj : j < l.length), ∀ w1, Below w.heap.size w w1 → ∃ b o A' n' c' C' m' d', CA = some ⟨b, o, none⟩ ∧ b < w.heap.size ∧
      w1.cell? ⟨b, o + j * 4, none⟩ = some (.int .i64 l[j].kind) ∧ w1.cell? ⟨b, o + j * 4 + 1, none⟩ = some (.string l[j].name) ∧ w1.cell? ⟨b, o + j * 4 + 2, none⟩ = some (.slice A' n' c') ∧ w1.cell? ⟨b, o + j * 4 + 3, none⟩ = some (.slice C' m' d') ∧
      Calls Try.prog 68 #[.agg #[.int .i64 l[j].kind, .string l[j].name, .slice A' n' c', .slice C' m' d'], .string name, .slice A T.length c, .int .i64 (i : Nat)] w1 fun e w' => e = .returned (.bool (markB name T i l[j])) ∧ Below w1.heap.size w1 w' := by
    intro j hj w1 hb
    obtain ⟨tb, tq, A', n', c', C', m', d', rfl, htb, hq, hc0, hc1, hc2, hc3⟩ := hI.at_ hj
    exact ⟨tb, tq, A', n', c', C', m', d', rfl, htb, (hb.cell (p := ⟨tb, tq + j * 4, none⟩) htb).trans hc0, (hb.cell (p := ⟨tb, tq + j * 4 + 1, none⟩) htb).trans hc1, (hb.cell (p := ⟨tb, tq + j * 4 + 2, none⟩) htb).trans hc2, (hb.cell (p := ⟨tb, tq + j * 4 + 3, none⟩) htb).trans hc3, ih _ (List.getElem_mem hj) i hi A c w1 _ _ _ _ (hq.grow hb) (reads_grow hb hT)⟩
  have hts : ∀ j (hj : j < l.length), (l.take (j + 1)).any (markB name T i) = ((l.take j).any (markB name T i) || markB name T i l[j]) := fun j hj => by
    rw [List.take_succ_eq_append_getElem hj, List.any_append]; simp
  have hmem : ∀ j (hj : j < l.length), markB name T i l[j] = true → l.any (markB name T i) = true := fun j hj h => List.any_eq_true.2 ⟨_, List.getElem_mem hj, h⟩
  have hall : (l.take n).any (markB name T i) = l.any (markB name T i) := by rw [← hlm, List.take_length]
  have Hlm := Lib.hid hlm
  have Hkid := Lib.hid hkid
  have Hts := Lib.hid hts
  have Hmem := Lib.hid hmem
  have Hall := Lib.hid hall
  clear hQ hT hI hb1 hB1 hmk hkid hts hmem hall ih hl6 hlm
  go_enter Try.func68, Try.ntmps68
  go_wp2_with fail
  generalize hw1 : (w.alloc (.cells #[.int .i64 5, .string nm, .slice WA m wc, .slice CA n c2] 37)) = w1 at *
  clear hw1
  go_loopw [9] (fun v wr => ∃ j : Nat, j ≤ n ∧ v = .int .i64 (j : Nat) ∧ Hid ((l.take j).any (markB name T i) = false) ∧ Below w1.heap.size w1 wr) (fun v _ => n - (intOf v).toNat)
  case atStart => exact ⟨0, Nat.zero_le _, rfl, Lib.hid rfl, Below.refl _ _⟩
  case round =>
    obtain ⟨j, hj, rfl, hS, hb⟩ := hrel
    have Hb := Lib.hid hb
    have hls := (hb.cell (p := ⟨w.heap.size, 3, none⟩) (by show w.heap.size < _; exact hz1)).trans (HB1.out.cell 3)
    simp at hls
    by_cases hlt : j < n
    · have hjl : j < l.length := by rw [Hlm.out]; exact hlt
      have hji : (j : Int) < (n : Int) := by omega
      have hji0 : (0 : Int) ≤ (j : Int) := by omega
      obtain ⟨tb, tq, A', n', c', C', m', d', rfl, htb, hc0, hc1, hc2', hc3, c1⟩ := Hkid.out j hjl wr (Hb1.out.trans (hb.mono Hb1.out.size))
      have hnx := Hts.out j hjl
      rw [hS.out, Bool.false_or] at hnx
      have hmm := Hmem.out j hjl
      have Hnx := Lib.hid hnx
      have Hmm := Lib.hid hmm
      clear hb hnx hmm hS hlt
      generalize markB name T i l[j] = r at *
      generalize (l[j]).kind = x0 at *
      generalize (l[j]).name = x1 at *
      cases r with
      | true =>
        have Fin := Lib.hid (Hmm.out rfl)
        go_wp2_with fail
        refine c1.mono ?_
        rintro e w2 ⟨rfl, hb2⟩
        have FinB := Lib.hid (Hb1.out.trans ((Hb.out.trans (hb2.mono Hb.out.size)).mono Hb1.out.size))
        clear hb2 c1
        go_wp2
        go_ret
        exact ⟨by rw [Fin.out]; rfl, FinB.out⟩
      | false =>
        go_wp2_with fail
        refine c1.mono ?_
        rintro e w2 ⟨rfl, hb2⟩
        have FinB := Lib.hid (Hb.out.trans (hb2.mono Hb.out.size))
        clear hb2 c1
        go_wp2
        go_roundw
        case rel => exact ⟨j + 1, by omega, by go_num, Lib.hid Hnx.out, FinB.out⟩
        case measure => simp [intOf]; omega
    · have hji : (n : Int) ≤ (j : Int) := by omega
      have e : n = j := by omega
      have Fin : Hid (l.any (markB name T i) = false) := Lib.hid (by rw [← Hall.out, e]; exact hS.out)
      clear e
      clear hb hS
      go_wp2
      go_ret
      exact ⟨by rw [Fin.out]; rfl, Hb1.out.trans (Hb.out.mono Hb1.out.size)⟩

set_option maxHeartbeats 6400000 in
theorem marks_inner6 (name : ByteArray) (T : List (List UInt8)) (nm : ByteArray) (ws : List ByteArray) (l : List Q) (hl6 : l.length ≤ 8796093021952) (ih : ∀ x ∈ l, MarksOk name T x) : MarksOk name T (.mk 6 nm ws l) := by
  intro i hi A c w a0 a1 a2 a3 hQ hT
  obtain ⟨WA, m, wc, CA, n, c2, e, hI⟩ := hQ.is
  simp only [List.cons.injEq, and_true] at e
  obtain ⟨rfl, rfl, rfl, rfl⟩ := e
  have hb1 : Below w.heap.size w (w.alloc (.cells #[.int .i64 6, .string nm, .slice WA m wc, .slice CA n c2] 37)) := (Below.refl _ _).alloc (Nat.le_refl _) _
  have hB1 := Blk.new w 37 #[.int .i64 6, .string nm, .slice WA m wc, .slice CA n c2]
  have hz1 : w.heap.size < (w.alloc (.cells #[.int .i64 6, .string nm, .slice WA m wc, .slice CA n c2] 37)).heap.size := by simp
  have Hb1 := Lib.hid hb1
  have HB1 := Lib.hid hB1
  have hmk : markB name T i (.mk 6 nm ws l) = l.any (markB name T i) := by
    rw [markB_eq, if_neg (by decide), if_pos (by decide)]
  rw [hmk]
  have hlm := hI.lm
  have hn6 : n ≤ 8796093021952 := by omega
  have hkid : ∀ j (hj : j < l.length), ∀ w1, Below w.heap.size w w1 → ∃ b o A' n' c' C' m' d', CA = some ⟨b, o, none⟩ ∧ b < w.heap.size ∧
      w1.cell? ⟨b, o + j * 4, none⟩ = some (.int .i64 l[j].kind) ∧ w1.cell? ⟨b, o + j * 4 + 1, none⟩ = some (.string l[j].name) ∧ w1.cell? ⟨b, o + j * 4 + 2, none⟩ = some (.slice A' n' c') ∧ w1.cell? ⟨b, o + j * 4 + 3, none⟩ = some (.slice C' m' d') ∧
      Calls Try.prog 68 #[.agg #[.int .i64 l[j].kind, .string l[j].name, .slice A' n' c', .slice C' m' d'], .string name, .slice A T.length c, .int .i64 (i : Nat)] w1 fun e w' => e = .returned (.bool (markB name T i l[j])) ∧ Below w1.heap.size w1 w' := by
    intro j hj w1 hb
    obtain ⟨tb, tq, A', n', c', C', m', d', rfl, htb, hq, hc0, hc1, hc2, hc3⟩ := hI.at_ hj
    exact ⟨tb, tq, A', n', c', C', m', d', rfl, htb, (hb.cell (p := ⟨tb, tq + j * 4, none⟩) htb).trans hc0, (hb.cell (p := ⟨tb, tq + j * 4 + 1, none⟩) htb).trans hc1, (hb.cell (p := ⟨tb, tq + j * 4 + 2, none⟩) htb).trans hc2, (hb.cell (p := ⟨tb, tq + j * 4 + 3, none⟩) htb).trans hc3, ih _ (List.getElem_mem hj) i hi A c w1 _ _ _ _ (hq.grow hb) (reads_grow hb hT)⟩
  have hts : ∀ j (hj : j < l.length), (l.take (j + 1)).any (markB name T i) = ((l.take j).any (markB name T i) || markB name T i l[j]) := fun j hj => by
    rw [List.take_succ_eq_append_getElem hj, List.any_append]; simp
  have hmem : ∀ j (hj : j < l.length), markB name T i l[j] = true → l.any (markB name T i) = true := fun j hj h => List.any_eq_true.2 ⟨_, List.getElem_mem hj, h⟩
  have hall : (l.take n).any (markB name T i) = l.any (markB name T i) := by rw [← hlm, List.take_length]
  have Hlm := Lib.hid hlm
  have Hkid := Lib.hid hkid
  have Hts := Lib.hid hts
  have Hmem := Lib.hid hmem
  have Hall := Lib.hid hall
  clear hQ hT hI hb1 hB1 hmk hkid hts hmem hall ih hl6 hlm
  go_enter Try.func68, Try.ntmps68
  go_wp2_with fail
  generalize hw1 : (w.alloc (.cells #[.int .i64 6, .string nm, .slice WA m wc, .slice CA n c2] 37)) = w1 at *
  clear hw1
  go_loopw [9] (fun v wr => ∃ j : Nat, j ≤ n ∧ v = .int .i64 (j : Nat) ∧ Hid ((l.take j).any (markB name T i) = false) ∧ Below w1.heap.size w1 wr) (fun v _ => n - (intOf v).toNat)
  case atStart => exact ⟨0, Nat.zero_le _, rfl, Lib.hid rfl, Below.refl _ _⟩
  case round =>
    obtain ⟨j, hj, rfl, hS, hb⟩ := hrel
    have Hb := Lib.hid hb
    have hls := (hb.cell (p := ⟨w.heap.size, 3, none⟩) (by show w.heap.size < _; exact hz1)).trans (HB1.out.cell 3)
    simp at hls
    by_cases hlt : j < n
    · have hjl : j < l.length := by rw [Hlm.out]; exact hlt
      have hji : (j : Int) < (n : Int) := by omega
      have hji0 : (0 : Int) ≤ (j : Int) := by omega
      obtain ⟨tb, tq, A', n', c', C', m', d', rfl, htb, hc0, hc1, hc2', hc3, c1⟩ := Hkid.out j hjl wr (Hb1.out.trans (hb.mono Hb1.out.size))
      have hnx := Hts.out j hjl
      rw [hS.out, Bool.false_or] at hnx
      have hmm := Hmem.out j hjl
      have Hnx := Lib.hid hnx
      have Hmm := Lib.hid hmm
      clear hb hnx hmm hS hlt
      generalize markB name T i l[j] = r at *
      generalize (l[j]).kind = x0 at *
      generalize (l[j]).name = x1 at *
      cases r with
      | true =>
        have Fin := Lib.hid (Hmm.out rfl)
        go_wp2_with fail
        refine c1.mono ?_
        rintro e w2 ⟨rfl, hb2⟩
        have FinB := Lib.hid (Hb1.out.trans ((Hb.out.trans (hb2.mono Hb.out.size)).mono Hb1.out.size))
        clear hb2 c1
        go_wp2
        go_ret
        exact ⟨by rw [Fin.out]; rfl, FinB.out⟩
      | false =>
        go_wp2_with fail
        refine c1.mono ?_
        rintro e w2 ⟨rfl, hb2⟩
        have FinB := Lib.hid (Hb.out.trans (hb2.mono Hb.out.size))
        clear hb2 c1
        go_wp2
        go_roundw
        case rel => exact ⟨j + 1, by omega, by go_num, Lib.hid Hnx.out, FinB.out⟩
        case measure => simp [intOf]; omega
    · have hji : (n : Int) ≤ (j : Int) := by omega
      have e : n = j := by omega
      have Fin : Hid (l.any (markB name T i) = false) := Lib.hid (by rw [← Hall.out, e]; exact hS.out)
      clear e
      clear hb hS
      go_wp2
      go_ret
      exact ⟨by rw [Fin.out]; rfl, Hb1.out.trans (Hb.out.mono Hb1.out.size)⟩

set_option maxHeartbeats 6400000 in
theorem marks_other (name : ByteArray) (T : List (List UInt8)) (k : Int) (nm : ByteArray) (ws : List ByteArray) (l : List Q) (h2 : k ≠ 2) (h3 : k ≠ 3) (h4 : k ≠ 4) (h5 : k ≠ 5) (h6 : k ≠ 6) : MarksOk name T (.mk k nm ws l) := by
  intro i hi A c w a0 a1 a2 a3 hQ hT
  obtain ⟨WA, m, wc, CA, n, c2, e, hI⟩ := hQ.is
  simp only [List.cons.injEq, and_true] at e
  obtain ⟨rfl, rfl, rfl, rfl⟩ := e
  have hb1 : Below w.heap.size w (w.alloc (.cells #[.int .i64 k, .string nm, .slice WA m wc, .slice CA n c2] 37)) := (Below.refl _ _).alloc (Nat.le_refl _) _
  have hB1 := Blk.new w 37 #[.int .i64 k, .string nm, .slice WA m wc, .slice CA n c2]
  have hz1 : w.heap.size < (w.alloc (.cells #[.int .i64 k, .string nm, .slice WA m wc, .slice CA n c2] 37)).heap.size := by simp
  have Hb1 := Lib.hid hb1
  have HB1 := Lib.hid hB1
  have hmk : markB name T i (.mk k nm ws l) = false := by
    rw [markB_eq, if_neg (by omega), if_neg (by omega)]
  rw [hmk]
  have h2' : (k == 2) = false := by simpa using h2
  have h3' : (k == 3) = false := by simpa using h3
  have h4' : (k == 4) = false := by simpa using h4
  have h5' : (k == 5) = false := by simpa using h5
  have h6' : (k == 6) = false := by simpa using h6
  clear hQ hT hI hb1 hB1 hmk hi hz1 h2 h3 h4 h5 h6 HB1
  go_enter Try.func68, Try.ntmps68
  go_wp2
  go_ret
  exact ⟨rfl, Hb1.out⟩

theorem marks_any (name : ByteArray) (T : List (List UInt8)) (hT6 : T.length ≤ 1048576) (h32 : ∀ x ∈ T, x.length ≤ 1048576) : ∀ q, QSz q → MarksOk name T q := by
  refine Q.ind (p := fun q => QSz q → MarksOk name T q) (fun k nm ws l ih h => ?_)
  cases h with
  | mk g1 g2 g3 =>
    by_cases h2 : k = 2
    · subst h2; exact marks_leaf2 name T hT6 h32 nm ws l g1
    by_cases h3 : k = 3
    · subst h3; exact marks_leaf3 name T hT6 h32 nm ws l g1
    by_cases h4 : k = 4
    · subst h4; exact marks_leaf4 name T hT6 h32 nm ws l g1
    by_cases h5 : k = 5
    · subst h5; exact marks_inner5 name T nm ws l g2 (fun x hx => ih x hx (g3 x hx))
    by_cases h6 : k = 6
    · subst h6; exact marks_inner6 name T nm ws l g2 (fun x hx => ih x hx (g3 x hx))
    exact marks_other name T k nm ws l h2 h3 h4 h5 h6
end Go.Proofs.Ytjfconddkfihcaa.Mk
end
