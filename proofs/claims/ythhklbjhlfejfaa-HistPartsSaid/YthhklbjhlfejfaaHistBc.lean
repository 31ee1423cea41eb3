/- Plain: rows as one; hist.Merge. -/
import Derived.Test.YthhklbjhlfejfaaHistBb
namespace Go.Proofs.Ythhklbjhlfejfaa.Hi
open Go.RowKit
set_option maxRecDepth 20000
/-- More in bucket after bucket; none: one would have too many. -/
def putsF (l : List Bk) : List Bk → Option (List Bk)
  | [] => some l
  | b :: bs => if (putF l b.1 b.2).2 = true then putsF (putF l b.1 b.2).1 bs else none
theorem putsF_app (l : List Bk) (bs cs : List Bk) : putsF l (bs ++ cs) = (putsF l bs).bind fun m => putsF m cs := by
  induction bs generalizing l with
  | nil => rfl
  | cons b bs ih =>
    show (if (putF l b.1 b.2).2 = true then putsF (putF l b.1 b.2).1 (bs ++ cs) else none) = (if (putF l b.1 b.2).2 = true then putsF (putF l b.1 b.2).1 bs else none).bind _
    split
    · exact ih _
    · rfl
theorem putsF_go {l : List Bk} (bs : List Bk) (k : Nat) (h : k < bs.length) (h1 : putsF [] (bs.take k) = some l) (h2 : (putF l bs[k].1 bs[k].2).2 = true) : putsF [] (bs.take (k + 1)) = some (putF l bs[k].1 bs[k].2).1 := by
  rw [List.take_succ_eq_append_getElem h, putsF_app, h1]
  show (if (putF l bs[k].1 bs[k].2).2 = true then some (putF l bs[k].1 bs[k].2).1 else none) = _
  rw [if_pos h2]
theorem putsF_no {l : List Bk} (bs : List Bk) (k : Nat) (h : k < bs.length) (h1 : putsF [] (bs.take k) = some l) (h2 : (putF l bs[k].1 bs[k].2).2 = false) : putsF [] bs = none := by
  have e : bs = bs.take k ++ bs[k] :: bs.drop (k + 1) := by rw [List.getElem_cons_drop, List.take_append_drop]
  rw [e, putsF_app, h1]
  show (if (putF l bs[k].1 bs[k].2).2 = true then _ else none) = _
  rw [if_neg (by rw [h2]; simp)]
open Classical in
noncomputable def mergeF (most : Int) (rs : List Rw) : List Bk × Int :=
  if most < 0 then ([], 1) else if ¬ ∀ r ∈ rs, Fine r.l then ([], 240) else
    match putsF [] (flatF rs) with
    | none => ([], 5)
    | some l => if most < l.length then ([], 241) else (l, 0)
theorem mergeF_neg {most : Int} {rs : List Rw} (h : most < 0) : mergeF most rs = ([], 1) := by unfold mergeF; rw [if_pos h]
theorem mergeF_bad {most : Int} {rs : List Rw} (h : ¬ most < 0) (k : Nat) (hk : k < rs.length) (h2 : ¬ Fine rs[k].l) : mergeF most rs = ([], 240) := by
  unfold mergeF
  rw [if_neg h, if_pos (fun ha => h2 (ha _ (List.getElem_mem hk)))]
theorem mergeF_none {most : Int} {rs : List Rw} (h : ¬ most < 0) (ha : ∀ r ∈ rs, Fine r.l) (h2 : putsF [] (flatF rs) = none) : mergeF most rs = ([], 5) := by
  unfold mergeF
  rw [if_neg h, if_neg (fun hn => hn ha), h2]
theorem mergeF_some {most : Int} {rs : List Rw} {l : List Bk} (h : ¬ most < 0) (ha : ∀ r ∈ rs, Fine r.l) (h2 : putsF [] (flatF rs) = some l) : mergeF most rs = if most < l.length then ([], 241) else (l, 0) := by
  unfold mergeF
  rw [if_neg h, if_neg (fun hn => hn ha), h2]
theorem fine_upto {rs : List Rw} {k : Nat} (h : ∀ j (hj : j < rs.length), j < k → Fine rs[j].l) (hk : ¬ k < rs.length) : ∀ r ∈ rs, Fine r.l := fun r hr => by
  obtain ⟨j, hj, rfl⟩ := List.getElem_of_mem hr
  exact h j hj (by omega)
theorem flat_one {rs : List Rw} (h : ∀ r ∈ rs, Fine r.l) : ∀ b ∈ flatF rs, 1 ≤ b.2 := fun b hb => by
  obtain ⟨r, hr, hb⟩ := List.mem_flatMap.1 hb
  exact (h r hr).one b hb

set_option maxHeartbeats 6400000 in
theorem merge_any (most : Int) (A : Option Addr) (c : Nat) (rs : List Rw) (w : World) (h : RowsIn w w.heap.size A rs) (hl : rs.length ≤ 100) (h64 : ∀ b ∈ flatF rs, b.2 ≤ 9223372036854775807) :
    Calls Try.prog 25 #[.int .i64 most, .slice A rs.length c] w (AddPost w (mergeF most rs)) := by
  unfold AddPost
  by_cases hm : most < 0
  · have F := Lib.hid (mergeF_neg (rs := rs) hm)
    clear h h64
    go_enter Try.func25, Try.ntmps25
    go_wp2
    go_ret2
    exact ⟨.slice none 0 0, by rw [F.out]; rfl, Below.refl _ _, by rw [F.out]; exact .inl ⟨rfl, rfl⟩⟩
  · have H := Lib.hid h
    have H64 := Lib.hid h64
    have Hm := Lib.hid hm
    have htot := lensF_le rs (fun r hr => (h.row r hr).2) rs.length (Nat.le_refl _)
    rw [List.take_length, ← flatF_len] at htot
    clear h h64
    go_enter Try.func25, Try.ntmps25
    go_wp2
    go_loopw [18] (fun i wr => ∃ k : Nat, k ≤ rs.length ∧ i = .int .i64 k ∧ Below w.heap.size w wr ∧ Hid (∀ j (hj : j < rs.length), j < k → Fine rs[j].l)) (fun i _ => rs.length - (intOf i).toNat)
    case atStart => exact ⟨0, Nat.zero_le _, rfl, Below.refl _ _, Lib.hid (fun j _ h => by omega)⟩
    case round =>
      obtain ⟨k, hk, rfl, hb, hF⟩ := hrel
      by_cases hlt : k < rs.length
      · obtain ⟨bb, o, rfl, hbb, d1⟩ := rows_at H.out.rd hlt
        have d2 := (hb.cell (p := ⟨bb, o + k, none⟩) hbb).trans d1
        have hin := H.out.row _ (List.getElem_mem hlt)
        have c1 := check_any rs[k].A rs[k].c w.heap.size rs[k].l wr (hin.1.rd.below hb) hb.size (by omega)
        have Hb := Lib.hid hb
        have Bad := Lib.hid (mergeF_bad (most := most) (rs := rs) (by have := Hm.out; omega) k hlt)
        have Nxt : Hid (Fine rs[k].l → ∀ j (hj : j < rs.length), j < k + 1 → Fine rs[j].l) := Lib.hid (fun hf j hj h => by
          by_cases e : j = k
          · subst e; exact hf
          · exact hF.out j hj (by omega))
        clear d1 hin hb hF
        generalize rs[k] = r at *
        obtain ⟨ra, rc, rl⟩ := r
        simp only at d2 c1 Bad Nxt
        by_cases hf : Fine rl
        · rw [fineB_t hf, errF_t] at c1
          have N := Lib.hid (Nxt.out hf)
          clear hf Nxt Bad
          go_wp2_with fail
          refine c1.mono ?_
          rintro e w1 ⟨rfl, hb1⟩
          have Hb1 := Lib.hid (Hb.out.trans (hb1.mono Hb.out.size))
          clear hb1 c1
          go_wp2
          go_roundw
          case rel => exact ⟨k + 1, by omega, by go_num, Hb1.out, N⟩
          case measure => simp [intOf]; omega
        · rw [fineB_f hf, errF_f] at c1
          have F := Lib.hid (Bad.out hf)
          clear hf Nxt Bad
          go_wp2_with fail
          refine c1.mono ?_
          rintro e w1 ⟨rfl, hb1⟩
          have Hb1 := Lib.hid (Hb.out.trans (hb1.mono Hb.out.size))
          clear hb1 c1
          go_wp2
          go_ret2
          exact ⟨.slice none 0 0, by rw [F.out]; rfl, Hb1.out, by rw [F.out]; exact .inl ⟨rfl, rfl⟩⟩
      · have FA := Lib.hid (fine_upto hF.out hlt)
        have Hb := Lib.hid hb
        have hin := H.out.below hb
        have c1 := concat_any A c rs wr ⟨hin.rd.more hb.size, fun r hr => ⟨⟨(hin.row r hr).1.rd.more hb.size, (hin.row r hr).1.cap, (hin.row r hr).1.nil⟩, (hin.row r hr).2⟩⟩ hl
        clear hin hb hF
        obtain ⟨wo, rfl⟩ : ∃ wo : World, wo = wr := ⟨_, rfl⟩
        go_wp2_with fail
        refine c1.mono ?_
        rintro e w2 ⟨v2, rfl, hv2⟩
        obtain ⟨A2, c2, rfl, hA2⟩ := own_reads hv2.own
        have HA2 := Lib.hid hA2
        have Hb2 := Lib.hid (Hb.out.trans (hv2.bel.mono Hb.out.size))
        have One := Lib.hid (flat_one FA.out)
        have N5 := Lib.hid (mergeF_none (most := most) (rs := rs) (by have := Hm.out; omega) FA.out)
        have S5 := fun l => Lib.hid (mergeF_some (most := most) (rs := rs) (l := l) (by have := Hm.out; omega) FA.out)
        clear hA2 hv2 c1 FA Hb
        generalize flatF rs = fl at *
        go_wp2
        go_loopw [9, 31] (fun v i wx => ∃ (k : Nat) (l : List Bk), k ≤ fl.length ∧ i = .int .i64 k ∧ Row w2.heap.size w2 wx v l ∧ Hid (putsF [] (fl.take k) = some l) ∧ Fine l ∧ l.length ≤ k) (fun _ i _ => fl.length - (intOf i).toNat)
        case atStart => exact ⟨0, [], Nat.zero_le _, rfl, Row.start _ _ _ (Below.refl _ _), Lib.hid rfl, Fine.nil, Nat.le_refl _⟩
        case round =>
          obtain ⟨k, l, hk, rfl, hV, hP, hG, hll⟩ := hrel
          by_cases hlt : k < fl.length
          · obtain ⟨bb, o, rfl, hbb, hc1, hc2⟩ := bks_at HA2.out rfl hlt
            have d1 := (hV.bel.cell (p := ⟨bb, o + k * 2, none⟩) hbb).trans hc1
            have d2 := (hV.bel.cell (p := ⟨bb, o + k * 2 + 1, none⟩) hbb).trans hc2
            have hmem := List.getElem_mem hlt
            have Go1 := Lib.hid (putsF_go fl k hlt hP.out)
            have No1 := Lib.hid (putsF_no fl k hlt hP.out)
            have hsz := hV.bel.size
            have R1 := hV.more hsz (.cells #[.int .i64 fl[k].1, .int .i64 fl[k].2] 48)
            have c2 := put_any w2.heap.size _ l fl[k].1 fl[k].2 _ R1.own R1.bel.size (by omega) hG.up hG.one (One.out _ hmem) (H64.out _ hmem)
            have Rb := Lib.hid R1.bel
            have Gx := Lib.hid (putF_fine hG fl[k].1 fl[k].2 (One.out _ hmem))
            have Lx := Lib.hid (putF_len l fl[k].1 fl[k].2)
            unfold PutPost at c2
            clear hc1 hc2 hV hP hG R1 hmem
            generalize fl[k] = b at *
            obtain ⟨x, y⟩ := b
            simp only at d1 d2 Go1 No1 c2 Rb Gx Lx
            cases hb : (putF l x y).2
            · have F := Lib.hid (N5.out (No1.out hb))
              rw [hb] at c2
              clear Go1 No1 N5 Gx Lx S5
              go_wp2_with fail
              refine c2.mono ?_
              rintro e w3 ⟨v3, rfl, hv3⟩
              have Hb3 := Lib.hid (Hb2.out.trans ((Rb.out.trans hv3.bel).mono Hb2.out.size))
              clear hv3 c2
              go_wp2
              go_ret2
              exact ⟨.slice none 0 0, by rw [F.out]; rfl, Hb3.out, by rw [F.out]; exact .inl ⟨rfl, rfl⟩⟩
            · have G2 := Lib.hid (Go1.out hb)
              rw [hb] at c2
              clear Go1 No1
              generalize (putF l x y).1 = l3 at *
              go_wp2_with fail
              refine c2.mono ?_
              rintro e w3 ⟨v3, rfl, hv3⟩
              have R3 : Hid (Row w2.heap.size w2 w3 v3 l3) := Lib.hid ⟨hv3.own, Rb.out.trans hv3.bel⟩
              have hl3 : l3.length ≤ k + 1 := by have := Lx.out; omega
              clear hv3 c2
              go_wp2
              go_roundw
              case rel => exact ⟨k + 1, l3, by omega, by go_num, R3.out, G2, Gx.out, hl3⟩
              case measure => simp [intOf]; omega
          · have hall : fl.take k = fl := List.take_of_length_le (by omega)
            have hp := hP.out
            rw [hall] at hp
            have F := (S5 l).out hp
            obtain ⟨A3, c3, rfl, hA3⟩ := own_reads hV.own
            have HB := Lib.hid (Bks.of_own hV.own)
            have Hb3 := Lib.hid (Hb2.out.trans (hV.bel.mono Hb2.out.size))
            clear hA3 hV hP hp hall S5 N5 hG
            by_cases hlm : most < (l.length : Int)
            · rw [if_pos hlm] at F
              have F' := Lib.hid F
              clear F
              go_wp2
              go_ret2
              exact ⟨.slice none 0 0, by rw [F'.out]; rfl, Hb3.out, by rw [F'.out]; exact .inl ⟨rfl, rfl⟩⟩
            · rw [if_neg hlm] at F
              have F' := Lib.hid F
              clear F
              go_wp2
              go_ret2
              exact ⟨_, by rw [F'.out]; rfl, Hb3.out, by rw [F'.out]; exact HB.out⟩
end Go.Proofs.Ythhklbjhlfejfaa.Hi
