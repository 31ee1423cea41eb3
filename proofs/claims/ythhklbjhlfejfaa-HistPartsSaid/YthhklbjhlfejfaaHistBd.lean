/- The reference's Merge. -/
import Derived.Test.YthhklbjhlfejfaaHistBc
import Derived.Deep.RegionHeld3
import Derived.BigRegion
namespace Go.Proofs.Ythhklbjhlfejfaa.Hi
open Go.RowKit
set_option maxRecDepth 20000
theorem putsF_go2 {l : List Bk} (pre bs : List Bk) (k : Nat) (h : k < bs.length) (h1 : putsF [] (pre ++ bs.take k) = some l) (h2 : (putF l bs[k].1 bs[k].2).2 = true) : putsF [] (pre ++ bs.take (k + 1)) = some (putF l bs[k].1 bs[k].2).1 := by
  rw [List.take_succ_eq_append_getElem h, ← List.append_assoc, putsF_app, h1]
  show (if (putF l bs[k].1 bs[k].2).2 = true then some (putF l bs[k].1 bs[k].2).1 else none) = _
  rw [if_pos h2]
theorem putsF_no2 {l : List Bk} (pre bs cs : List Bk) (k : Nat) (h : k < bs.length) (h1 : putsF [] (pre ++ bs.take k) = some l) (h2 : (putF l bs[k].1 bs[k].2).2 = false) : putsF [] (pre ++ bs ++ cs) = none := by
  have e : bs = bs.take k ++ bs[k] :: bs.drop (k + 1) := by rw [List.getElem_cons_drop, List.take_append_drop]
  have e2 : pre ++ bs = (pre ++ bs.take k) ++ bs[k] :: bs.drop (k + 1) := by rw [List.append_assoc, ← e]
  rw [e2, List.append_assoc, putsF_app, h1]
  show (if (putF l bs[k].1 bs[k].2).2 = true then _ else none) = _
  rw [if_neg (by rw [h2]; simp)]
theorem flatF_split (rs : List Rw) (i : Nat) (h : i < rs.length) : flatF rs = flatF (rs.take i) ++ rs[i].l ++ flatF (rs.drop (i + 1)) := by
  rw [← flatF_take rs i h]
  unfold flatF
  rw [← List.flatMap_append, List.take_append_drop]

set_option maxHeartbeats 6400000 in
theorem rmerge_any (most : Int) (A : Option Addr) (c : Nat) (rs : List Rw) (w : World) (h : RowsIn w w.heap.size A rs) (hl : rs.length ≤ 100) (h64 : ∀ b ∈ flatF rs, b.2 ≤ 9223372036854775807) :
    Calls Try.prog 26 #[.int .i64 most, .slice A rs.length c] w (AddPost w (mergeF most rs)) := by
  unfold AddPost
  by_cases hm : most < 0
  · have F := Lib.hid (mergeF_neg (rs := rs) hm)
    clear h h64
    go_enter Try.func26, Try.ntmps26
    go_wp2
    go_ret2
    exact ⟨.slice none 0 0, by rw [F.out]; rfl, Below.refl _ _, by rw [F.out]; exact .inl ⟨rfl, rfl⟩⟩
  · have H := Lib.hid h
    have H64 := Lib.hid h64
    have Hm := Lib.hid hm
    clear h h64
    go_enter Try.func26, Try.ntmps26
    go_wp2
    go_loopw [6] (fun i wr => ∃ k : Nat, k ≤ rs.length ∧ i = .int .i64 k ∧ Below w.heap.size w wr ∧ Hid (∀ j (hj : j < rs.length), j < k → Fine rs[j].l)) (fun i _ => rs.length - (intOf i).toNat)
    case atStart => exact ⟨0, Nat.zero_le _, rfl, Below.refl _ _, Lib.hid (fun j _ h => by omega)⟩
    case round =>
      obtain ⟨k, hk, rfl, hb, hF⟩ := hrel
      by_cases hlt : k < rs.length
      · obtain ⟨bb, o, rfl, hbb, d1⟩ := rows_at H.out.rd hlt
        have d2 := (hb.cell (p := ⟨bb, o + k, none⟩) hbb).trans d1
        have hin := H.out.row _ (List.getElem_mem hlt)
        have c1 := is_any rs[k].A rs[k].c w.heap.size rs[k].l wr (hin.1.rd.below hb) hb.size (by omega)
        have Hb := Lib.hid hb
        have Bad := Lib.hid (mergeF_bad (most := most) (rs := rs) (by have := Hm.out; omega) k hlt)
        have Nxt : Hid (Fine rs[k].l → ∀ j (hj : j < rs.length), j < k + 1 → Fine rs[j].l) := Lib.hid (fun hf j hj h => by
          by_cases e : j = k
          · subst e; exact hf
          · exact hF.out j hj (by omega))
        clear d1 hin hb hF
        generalize rs[k] = r at *
        obtain ⟨ra, rc, rl⟩ := r
        simp only at d2 c1 Bad Nxt
        by_cases hf : Fine rl
        · rw [fineB_t hf] at c1
          have N := Lib.hid (Nxt.out hf)
          clear hf Nxt Bad
          go_wp2_with fail
          refine c1.mono ?_
          rintro e w1 ⟨rfl, hb1⟩
          have Hb1 := Lib.hid (Hb.out.trans (hb1.mono Hb.out.size))
          clear hb1 c1
          go_wp2
          go_roundw
          case rel => exact ⟨k + 1, by omega, by go_num, Hb1.out, N⟩
          case measure => simp [intOf]; omega
        · rw [fineB_f hf] at c1
          have F := Lib.hid (Bad.out hf)
          clear hf Nxt Bad
          go_wp2_with fail
          refine c1.mono ?_
          rintro e w1 ⟨rfl, hb1⟩
          have Hb1 := Lib.hid (Hb.out.trans (hb1.mono Hb.out.size))
          clear hb1 c1
          go_wp2
          go_ret2
          exact ⟨.slice none 0 0, by rw [F.out]; rfl, Hb1.out, by rw [F.out]; exact .inl ⟨rfl, rfl⟩⟩
      · have FA := Lib.hid (fine_upto hF.out hlt)
        have Hb := Lib.hid hb
        have One := Lib.hid (flat_one FA.out)
        have N5 := Lib.hid (mergeF_none (most := most) (rs := rs) (by have := Hm.out; omega) FA.out)
        have S5 := fun l => Lib.hid (mergeF_some (most := most) (rs := rs) (l := l) (by have := Hm.out; omega) FA.out)
        clear hb hF FA
        obtain ⟨wo, rfl⟩ : ∃ wo : World, wo = wr := ⟨_, rfl⟩
        go_wp2
        go_loopw [7, 8] (fun v i wx => ∃ (j : Nat) (l : List Bk), j ≤ rs.length ∧ i = .int .i64 j ∧ Below w.heap.size w wx ∧ Bks wx wx.heap.size v l ∧ Hid (putsF [] (flatF (rs.take j)) = some l) ∧ Fine l ∧ l.length ≤ j * 1000) (fun _ i _ => rs.length - (intOf i).toNat)
        case atStart => exact ⟨0, [], Nat.zero_le _, rfl, Hb.out, .inl ⟨rfl, rfl⟩, Lib.hid rfl, Fine.nil, Nat.le_refl _⟩
        case round =>
          obtain ⟨j, l, hj, rfl, hbx, hV, hP, hG, hll⟩ := hrel
          by_cases hjl : j < rs.length
          · obtain ⟨bb, o, rfl, hbb, d1⟩ := rows_at H.out.rd hjl
            obtain ⟨hin, hb2⟩ := H.out.row _ (List.getElem_mem hjl)
            have Split := Lib.hid (flatF_split rs j hjl)
            have Tk := Lib.hid (flatF_take rs j hjl)
            have HIN := Lib.hid hin
            have Hbx := Lib.hid hbx
            have HV := Lib.hid hV
            have HG := Lib.hid hG
            clear hin hbx hV hG
            generalize rs[j] = r at *
            obtain ⟨ra, rc, rl⟩ := r
            simp only at d1 Split Tk hb2 HIN
            generalize flatF (rs.drop (j + 1)) = post at *
            generalize flatF (rs.take j) = pre at *
            obtain ⟨wp, rfl⟩ : ∃ wp : World, wp = wr := ⟨_, rfl⟩
            go_wp2
            go_loopw [7, 9] (fun v i wy => ∃ (q : Nat) (m : List Bk), q ≤ rl.length ∧ i = .int .i64 q ∧ Below w.heap.size w wy ∧ Bks wy wy.heap.size v m ∧ Hid (putsF [] (pre ++ rl.take q) = some m) ∧ Fine m ∧ m.length ≤ j * 1000 + q) (fun _ i _ => rl.length - (intOf i).toNat)
            case atStart => exact ⟨0, l, Nat.zero_le _, rfl, Hbx.out, HV.out, Lib.hid (by rw [List.take_zero, List.append_nil]; exact hP.out), HG.out, by omega⟩
            case round =>
              obtain ⟨q, m, hq, rfl, hby, hW, hQ, hGm, hml⟩ := hrel
              have d2 := (hby.cell (p := ⟨bb, o + j, none⟩) hbb).trans d1
              by_cases hql : q < rl.length
              · obtain ⟨cb, co, rfl, hcb, hc1, hc2⟩ := bks_at HIN.out.rd rfl hql
                have d3 := (hby.cell (p := ⟨cb, co + q * 2, none⟩) hcb).trans hc1
                have d4 := (hby.cell (p := ⟨cb, co + q * 2 + 1, none⟩) hcb).trans hc2
                have Go1 := Lib.hid (putsF_go2 pre rl q hql hQ.out)
                have No1 := Lib.hid (putsF_no2 pre rl post q hql hQ.out)
                have hmem : rl[q] ∈ flatF rs := by rw [Split.out]; exact List.mem_append_left _ (List.mem_append_right _ (List.getElem_mem hql))
                have c2 := with_any _ m rl[q].1 rl[q].2 wr.drew (hW.below (Below.refl _ _).drew) (by omega) hGm.one (One.out _ hmem) (H64.out _ hmem)
                have Gx := Lib.hid (putF_fine hGm rl[q].1 rl[q].2 (One.out _ hmem))
                have Lx := Lib.hid (putF_len m rl[q].1 rl[q].2)
                have Hby := Lib.hid hby
                unfold WithPost at c2
                clear hc1 hc2 hW hQ hGm hmem hby d1
                generalize rl[q] = b at *
                obtain ⟨x, y⟩ := b
                simp only at d3 d4 Go1 No1 c2 Gx Lx
                have hbbw : bb < wr.heap.size := Nat.lt_of_lt_of_le hbb Hby.out.size
                have hcbw : cb < wr.heap.size := Nat.lt_of_lt_of_le hcb Hby.out.size
                cases hb : (putF m x y).2
                · have F := Lib.hid (N5.out (by rw [Split.out]; exact No1.out hb))
                  rw [hb] at c2
                  clear Go1 No1 N5 S5 Gx Lx Split One
                  go_wp2
                  go_region_held3 (fun w' => w'.cell? ⟨bb, o + j, none⟩ = some (.slice (some ⟨cb, co, none⟩) rl.length rc) ∧ w'.cell? ⟨cb, co + q * 2, none⟩ = some (.int .i64 x) ∧ w'.cell? ⟨cb, co + q * 2 + 1, none⟩ = some (.int .i64 y)) (first | go_keep | exact ⟨(hv3.bel.cell (p := ⟨bb, o + j, none⟩) hbbw).trans d2, (hv3.bel.cell (p := ⟨cb, co + q * 2, none⟩) hcbw).trans d3, (hv3.bel.cell (p := ⟨cb, co + q * 2 + 1, none⟩) hcbw).trans d4⟩) (first | (go_at_call 29; (with_reducible refine c2.mono ?_); rintro e w3 ⟨v3, rfl, hv3⟩))
                  have Hb3 := Lib.hid (Hby.out.drew.trans (hv3.bel.mono Hby.out.size))
                  clear hv3 c2
                  go_wp2
                  go_ret2
                  exact ⟨.slice none 0 0, by rw [F.out]; rfl, Hb3.out, by rw [F.out]; exact .inl ⟨rfl, rfl⟩⟩
                · have G2 := Lib.hid (Go1.out hb)
                  rw [hb] at c2
                  clear Go1 No1 Split
                  generalize (putF m x y).1 = l3 at *
                  go_wp2
                  go_region_held3 (fun w' => w'.cell? ⟨bb, o + j, none⟩ = some (.slice (some ⟨cb, co, none⟩) rl.length rc) ∧ w'.cell? ⟨cb, co + q * 2, none⟩ = some (.int .i64 x) ∧ w'.cell? ⟨cb, co + q * 2 + 1, none⟩ = some (.int .i64 y)) (first | go_keep | exact ⟨(hv3.bel.cell (p := ⟨bb, o + j, none⟩) hbbw).trans d2, (hv3.bel.cell (p := ⟨cb, co + q * 2, none⟩) hcbw).trans d3, (hv3.bel.cell (p := ⟨cb, co + q * 2 + 1, none⟩) hcbw).trans d4⟩) (first | (go_at_call 29; (with_reducible refine c2.mono ?_); rintro e w3 ⟨v3, rfl, hv3⟩))
                  have Hb3 := Lib.hid (Hby.out.drew.trans (hv3.bel.mono Hby.out.size))
                  have HB3 := Lib.hid (Bks.of_own hv3.own)
                  have hl3 : l3.length ≤ j * 1000 + (q + 1) := by have := Lx.out; omega
                  clear hv3 c2
                  go_wp2
                  go_roundw
                  case rel => exact ⟨q + 1, l3, by omega, by go_num, Hb3.out, HB3.out, G2, Gx.out, hl3⟩
                  case measure => simp [intOf]; omega
              · have hall : rl.take q = rl := List.take_of_length_le (by omega)
                have hq2 := hQ.out
                rw [hall] at hq2
                have HQ : Hid (putsF [] (flatF (rs.take (j + 1))) = some m) := Lib.hid (by rw [Tk.out]; exact hq2)
                have Hby := Lib.hid hby
                have HW := Lib.hid hW
                have HGm := Lib.hid hGm
                clear hall hq2 hQ hby hW hGm
                go_wp2
                go_roundw
                case rel => exact ⟨j + 1, m, by omega, by go_num, Hby.out, HW.out, HQ, HGm.out, by omega⟩
                case measure => simp [intOf]; omega
          · have hall : rs.take j = rs := List.take_of_length_le (by omega)
            have hp := hP.out
            rw [hall] at hp
            have F := (S5 l).out hp
            have HB := Lib.hid hV
            obtain ⟨A3, c3, rfl, hA3⟩ := hV.reads
            have Hb3 := Lib.hid hbx
            clear hA3 hV hP hp hall S5 N5 hG hbx
            by_cases hlm : most < (l.length : Int)
            · rw [if_pos hlm] at F
              have F' := Lib.hid F
              clear F
              go_wp2
              go_ret2
              exact ⟨.slice none 0 0, by rw [F'.out]; rfl, Hb3.out, by rw [F'.out]; exact .inl ⟨rfl, rfl⟩⟩
            · rw [if_neg hlm] at F
              have F' := Lib.hid F
              clear F
              go_wp2
              go_ret2
              exact ⟨_, by rw [F'.out]; rfl, Hb3.out, by rw [F'.out]; exact HB.out⟩
end Go.Proofs.Ythhklbjhlfejfaa.Hi
