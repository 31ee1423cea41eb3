/- slices.Concat of rows of buckets. -/
import Derived.Test.YthhklbjhlfejfaaHistBa
namespace Go.Proofs.Ythhklbjhlfejfaa.Hi
open Go.RowKit
set_option maxRecDepth 20000
theorem rows_at {w : World} {B : Nat} {A : Option Addr} {rs : List Rw} (h : Reads w B 1 A rs.length (rs.map Rw.val)) {k : Nat} (hk : k < rs.length) : ∃ b o, A = some ⟨b, o, none⟩ ∧ b < B ∧ w.cell? ⟨b, o + k, none⟩ = some (.slice rs[k].A rs[k].l.length rs[k].c) := by
  obtain ⟨b, o, _, e, hb, hc⟩ := h.at_map hk
  exact ⟨b, o, e, hb, hc⟩

set_option maxHeartbeats 6400000 in
theorem concat_any (A : Option Addr) (c : Nat) (rs : List Rw) (w : World) (h : RowsIn w w.heap.size A rs) (hl : rs.length ≤ 100) :
    Calls Try.prog 32 #[.slice A rs.length c] w fun e w' => ∃ v, e = .returned v ∧ Row w.heap.size w w' v (flatF rs) := by
  obtain ⟨inf, hi0, hz0, hz1, hz2⟩ := info_parts bk_info
  have HR := Lib.hid h.rd
  have HI := Lib.hid h.row
  have hle := lensF_le rs (fun r hr => (h.row r hr).2)
  have Hle := Lib.hid hle
  have htot := hle rs.length (Nat.le_refl _)
  rw [List.take_length] at htot
  have c1 := grow_any (lensF rs) w (by omega)
  clear h hle
  go_enter Try.func32, Try.ntmps32
  go_wp2
  go_loopw [3, 11] (fun v i wr => ∃ k : Nat, k ≤ rs.length ∧ i = .int .i64 k ∧ v = .int .i64 (lensF (rs.take k) : Nat) ∧ wr = w) (fun _ i _ => rs.length - (intOf i).toNat)
  case atStart => exact ⟨0, Nat.zero_le _, rfl, rfl, rfl⟩
  case round =>
    obtain ⟨k, hk, rfl, rfl, rfl⟩ := hrel
    by_cases hlt : k < rs.length
    · obtain ⟨bb, o, rfl, hbb, d1⟩ := rows_at HR.out hlt
      have T := Lib.hid (lensF_take rs k hlt)
      have hb1 := Hle.out k hk
      have hb2 := (HI.out _ (List.getElem_mem hlt)).2
      generalize rs[k] = r at *
      obtain ⟨ra, rc, rl⟩ := r
      simp only at d1 T hb2
      generalize lensF (rs.take k) = t at *
      generalize rl.length = m at *
      have hw : IntKind.i64.wrap ((t : Int) + (m : Int)) = ((t + m : Nat) : Int) := by rw [IntWalk.i64_in _ (by omega)]; omega
      have hnn : ¬ ((t : Int) + (m : Int)) < 0 := by omega
      go_wp2
      go_roundw
      case rel => exact ⟨k + 1, by omega, by go_num, by rw [T.out, Int.natCast_add], trivial⟩
      case measure => simp [intOf]; omega
    · have hall : rs.take k = rs := List.take_of_length_le (by omega)
      rw [hall]
      obtain ⟨wo, rfl⟩ : ∃ wo : World, wo = wr := ⟨_, rfl⟩
      go_wp2_with fail
      refine c1.mono ?_
      rintro e w1 ⟨v1, rfl, hv1⟩
      have HV1 := Lib.hid hv1
      clear hv1 c1 hall hlt hk
      go_wp2
      go_loopw [6, 27] (fun v i wx => ∃ j : Nat, j ≤ rs.length ∧ i = .int .i64 j ∧ Row wo.heap.size wo wx v (flatF (rs.take j))) (fun _ i _ => rs.length - (intOf i).toNat)
      case atStart => exact ⟨0, Nat.zero_le _, rfl, HV1.out⟩
      case round =>
        obtain ⟨j, hj, rfl, hV⟩ := hrel
        by_cases hjl : j < rs.length
        · obtain ⟨bb, o, rfl, hbb, d1⟩ := rows_at HR.out hjl
          have d2 := (hV.bel.cell (p := ⟨bb, o + j, none⟩) hbb).trans d1
          have T := Lib.hid (flatF_take rs j hjl)
          have hb1 := Hle.out j hj
          rw [← flatF_len] at hb1
          obtain ⟨hin, hb2⟩ := HI.out _ (List.getElem_mem hjl)
          have HV := Lib.hid hV
          have HIN := Lib.hid hin
          have hsz := hV.bel.size
          clear hV hin d1
          generalize rs[j] = r at *
          obtain ⟨ra, rc, rl⟩ := r
          simp only at d2 T hb2 HIN
          generalize flatF (rs.take j) = fl at *
          rcases ra with _ | a
          · have hrc := HIN.out.nil rfl
            have hrl : rl = [] := List.eq_nil_of_length_eq_zero (by have := HIN.out.cap; omega)
            subst hrc hrl
            go_wp2_with (at_builtin; refine wpList_append_own_none rfl _ _ 29 rfl wo.heap.size 48 inf 2 Try.underlying29 hi0 u6 fl.length (bkC fl) rfl HV.out.own rfl ?_)
            go_wp2
            go_roundw
            case rel => exact ⟨j + 1, by omega, by go_num, by rw [T.out, List.append_nil]; exact HV.out⟩
            case measure => simp [intOf]; omega
          · rcases Nat.eq_zero_or_pos rl.length with h0 | h0
            · have hrl : rl = [] := List.eq_nil_of_length_eq_zero h0
              subst hrl
              go_wp2_with (at_builtin; refine wpList_append_own _ rfl _ _ 29 rfl wo.heap.size 48 inf _ 2 16 Try.underlying29 hi0 hz0 hz1 hz2 rfl (by decide) u6 fl.length (bkC fl) rfl HV.out.own _ 0 _ (bkC []) rfl rfl ?b1 (bkC_one _) ?b3 ?b4 ?b5 ?_)
              case b1 => intro j u hu; cases hu
              case b3 => unfold maxLen; omega
              case b4 => omega
              case b5 => exact hsz
              intro v3 w3 ho3 hg3 _
              have R3 : Hid (Row wo.heap.size wo w3 v3 fl) := Lib.hid (by
                have := HV.out.app (X := []) (m := 0) hsz rfl ho3 hg3
                rw [List.append_nil] at this
                exact this)
              clear ho3 hg3
              go_wp2
              go_roundw
              case rel => exact ⟨j + 1, by omega, by go_num, by rw [T.out, List.append_nil]; exact R3.out⟩
              case measure => simp [intOf]; omega
            · obtain ⟨rb, ro, e⟩ := reads_addr HIN.out.rd h0
              cases e
              have L1 := Lib.hid (bkC_len rl)
              go_wp2_with (at_builtin; refine wpList_append_own _ rfl _ _ 29 rfl wo.heap.size 48 inf _ 2 16 Try.underlying29 hi0 hz0 hz1 hz2 rfl (by decide) u6 fl.length (bkC fl) rfl HV.out.own ⟨rb, ro, none⟩ rl.length rc (bkC rl) rfl L1.out ?b1 (bkC_one _) ?b3 ?b4 ?b5 ?_)
              case b1 =>
                intro i u hu
                obtain ⟨h1, h2⟩ := reads_cell HIN.out.rd i u hu
                rw [add_lit]
                exact (HV.out.bel.cell (p := ⟨rb, _, none⟩) h1).trans h2
              case b3 => unfold maxLen; omega
              case b4 => omega
              case b5 => exact hsz
              intro v3 w3 ho3 hg3 _
              have R3 : Hid (Row wo.heap.size wo w3 v3 (fl ++ rl)) := Lib.hid (HV.out.app hsz rfl ho3 hg3)
              clear ho3 hg3
              go_wp2
              go_roundw
              case rel => exact ⟨j + 1, by omega, by go_num, by rw [T.out]; exact R3.out⟩
              case measure => simp [intOf]; omega
        · have hall : rs.take j = rs := List.take_of_length_le (by omega)
          rw [hall] at hV
          have HV := Lib.hid hV
          clear hV
          go_wp2
          go_ret
          exact ⟨_, rfl, HV.out⟩
end Go.Proofs.Ythhklbjhlfejfaa.Hi
