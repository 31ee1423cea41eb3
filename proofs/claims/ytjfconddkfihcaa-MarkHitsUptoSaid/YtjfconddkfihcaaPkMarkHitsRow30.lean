/- loggialaw19.weigh: it answers, whatever the query. -/
import Derived.Test.YtjfconddkfihcaaNeedBPk
section
namespace Go.Proofs.Ytjfconddkfihcaa.Qy
open Go.RowKit Go.Proofs.Ytjfconddkfihcaa Go.Proofs.Ytjfconddkfihcaa.Ut Go.Proofs.Ytjfconddkfihcaa.Tk
set_option maxRecDepth 20000
set_option linter.unusedSimpArgs false

def WeighOk (q : Q) : Prop := ∀ (w : World) (a0 a1 a2 a3 : Value), QAt w w.heap.size q [a0, a1, a2, a3] →
  Calls Try.prog 51 #[.agg #[a0, a1, a2, a3]] w fun e w' => (∃ r : Int, e = .returned (.int .i64 r)) ∧ Below w.heap.size w w'

set_option maxHeartbeats 1600000 in
theorem weigh_step (k : Int) (nm : ByteArray) (ws : List ByteArray) (l : List Q) (hl2 : ws.length ≤ 8796093021952) (hl3 : l.length ≤ 8796093021952) (ih : ∀ x ∈ l, WeighOk x) : WeighOk (.mk k nm ws l) := by
  intro w a0 a1 a2 a3 hQ
  obtain ⟨WA, m, wc, CA, n, c2, e, hI⟩ := hQ.is
  simp only [List.cons.injEq, and_true] at e
  obtain ⟨rfl, rfl, rfl, rfl⟩ := e
  have hb1 : Below w.heap.size w (w.alloc (.cells #[.int .i64 k, .string nm, .slice WA m wc, .slice CA n c2] 37)) := (Below.refl _ _).alloc (Nat.le_refl _) _
  have hB1 := (Blk.new w 37 #[.int .i64 k, .string nm, .slice WA m wc, .slice CA n c2])
  have hz1 : (w.alloc (.cells #[.int .i64 k, .string nm, .slice WA m wc, .slice CA n c2] 37)).heap.size = w.heap.size + 1 := by simp
  have hm : m ≤ 8796093021952 := by rw [← hI.wn]; exact hl2
  have hn : n ≤ 8796093021952 := by rw [← hI.lm]; exact hl3
  have HB1 := Lib.hid hB1
  have Hb1 := Lib.hid hb1
  have HI := Lib.hid hI
  have IH := Lib.hid ih
  clear hQ hB1 hb1 hI ih hl2 hl3
  go_enter Try.func51, Try.ntmps51
  go_wp2_with fail
  generalize hw0 : (w.alloc (.cells #[.int .i64 k, .string nm, .slice WA m wc, .slice CA n c2] 37)) = w0 at *
  clear hw0
  go_loopw [3, 4] (fun s i wr => ∃ (j : Nat) (z : Int), j ≤ n ∧ i = .int .i64 j ∧ s = .int .i64 z ∧ Below (w.heap.size + 1) w0 wr) (fun _ i _ => n - (intOf i).toNat)
  case atStart => exact ⟨0, _, Nat.zero_le _, rfl, rfl, Below.refl _ _⟩
  case round =>
    obtain ⟨j, z, hj, rfl, rfl, hb⟩ := hrel
    have Hb := Lib.hid hb
    have hls := (hb.cell (p := ⟨w.heap.size, 3, none⟩) (by show w.heap.size < _; omega)).trans (HB1.out.cell 3)
    simp at hls
    have hbz := hb.size
    by_cases hlt : j < n
    · have hjl : j < l.length := by rw [HI.out.lm]; exact hlt
      have hji : (j : Int) < (n : Int) := by omega
      by_cases hz : z ≤ 300
      · have hqk := HI.out.at_ hjl
        obtain ⟨tb, tq, A', n', c', C', m', d', rfl, htb, hq, hc0, hc1, hc2, hc3⟩ := hqk
        have htb' : tb < w.heap.size + 1 := by omega
        have hbw := Hb1.out.trans (hb.mono (by omega))
        have hd0 := (hbw.cell (p := ⟨tb, tq + j * 4, none⟩) htb).trans hc0
        have hd1 := (hbw.cell (p := ⟨tb, tq + j * 4 + 1, none⟩) htb).trans hc1
        have hd2 := (hbw.cell (p := ⟨tb, tq + j * 4 + 2, none⟩) htb).trans hc2
        have hd3 := (hbw.cell (p := ⟨tb, tq + j * 4 + 3, none⟩) htb).trans hc3
        have c1 := IH.out _ (List.getElem_mem hjl) wr _ _ _ _ (hq.grow hbw)
        have hji0 : (0 : Int) ≤ (j : Int) := by omega
        clear hq hc0 hc1 hc2 hc3 hb hbw
        generalize (l[j]).kind = x0 at *
        generalize (l[j]).name = x1 at *
        go_wp2_with (go_at_call 51; refine c1.mono ?_; rintro e wa ⟨⟨r, rfl⟩, hba⟩)
        have Fin := Lib.hid (Hb.out.trans (hba.mono (by omega)))
        clear c1 hba
        go_roundw
        case rel => exact ⟨j + 1, _, by omega, by go_num, rfl, Fin.out⟩
        case measure => simp [intOf]; omega
      · have hz' : 300 < z := by omega
        clear hb
        go_wp2
        go_ret
        exact ⟨⟨z, rfl⟩, Hb1.out.trans (Hb.out.mono (by omega))⟩
    · obtain rfl : j = n := by omega
      clear hb
      go_wp2
      go_ret
      exact ⟨⟨z, rfl⟩, Hb1.out.trans (Hb.out.mono (by omega))⟩
theorem weigh_any : ∀ q, QSz q → WeighOk q := by
  refine Q.ind (p := fun q => QSz q → WeighOk q) (fun k nm ws l ih h => ?_)
  cases h with
  | mk h1 h2 h3 => exact weigh_step k nm ws l h1 h2 (fun x hx => ih x hx (h3 x hx))
end Go.Proofs.Ytjfconddkfihcaa.Qy
end

section
/- The document's has, with: the walks. -/
namespace Go.Proofs.Ytjfconddkfihcaa.Qy
open Go.RowKit Go.Proofs.Ytjfconddkfihcaa Go.Proofs.Ytjfconddkfihcaa.Ut Go.Proofs.Ytjfconddkfihcaa.Tk
set_option maxRecDepth 20000
set_option linter.unusedSimpArgs false

theorem ba_toList_inj {x y : ByteArray} (h : x.toList = y.toList) : x = y := by
  rw [tl, tl] at h
  cases x; cases y
  simpa using h
set_option maxHeartbeats 800000 in
theorem has_any (A : Option Addr) (n c : Nat) (l : List ByteArray) (x : ByteArray) (w : World) (hR : Reads w w.heap.size 1 A n (bsv l)) (hn : l.length = n) (hn2 : n ≤ 4194304) :
    Calls Try.prog 117 #[.slice A n c, .string x] w fun e w' => e = .returned (.bool (Lib.containsS l x)) ∧ Below w.heap.size w w' := by
  have HR := Lib.hid hR
  have Hn := Lib.hid hn
  clear hR hn
  go_enter Try.func117, Try.ntmps117
  go_wp2
  go_loopw [5] (fun i wr => ∃ k : Nat, k ≤ n ∧ i = .int .i64 k ∧ (∀ j (h : j < l.length), j < k → l[j] ≠ x) ∧ Below w.heap.size w wr) (fun i _ => n - (intOf i).toNat)
  case atStart => exact ⟨0, Nat.zero_le _, rfl, fun j _ hj => by omega, Below.refl _ _⟩
  case round =>
    obtain ⟨k, hk, rfl, hal, hb⟩ := hrel
    have Hal := Lib.hid hal
    have Hb := Lib.hid hb
    by_cases hlt : k < n
    · have hkl : k < l.length := by rw [Hn.out]; exact hlt
      have hki : (k : Int) < (n : Int) := by omega
      have hki0 : (0 : Int) ≤ (k : Int) := by omega
      obtain ⟨tb, tq, rfl, htb, hc⟩ := HR.out.2 (by omega)
      have hck := hc k (.string l[k]) (by unfold bsv; rw [List.getElem?_map, List.getElem?_eq_getElem hkl]; rfl)
      have hd := (hb.cell (p := ⟨tb, tq + k, none⟩) htb).trans hck
      by_cases he : l[k] = x
      · have Fin : Hid (Lib.containsS l x = true) := Lib.hid ((Lib.containsS_iff l x).2 (he ▸ List.getElem_mem hkl))
        rw [he] at hd
        clear hc hck hal hb he
        go_wp2
        go_ret
        exact ⟨by rw [Fin.out]; rfl, Hb.out⟩
      · have hne : (l[k].toList == x.toList) = false := beq_eq_false_iff_ne.2 (fun e => he (ba_toList_inj e))
        have Hnx : Hid (∀ j (h : j < l.length), j < k + 1 → l[j] ≠ x) := Lib.hid (fun j h hj => by
          by_cases hjk : j = k
          · subst hjk; exact he
          · exact Hal.out j h (by omega))
        clear hc hck hal hb he
        generalize l[k] = y at *
        go_wp2
        go_roundw
        case rel => exact ⟨k + 1, by omega, by go_num, Hnx.out, Hb.out⟩
        case measure => simp [intOf]; omega
    · obtain rfl : k = n := by omega
      have Fin : Hid (Lib.containsS l x = false) := Lib.hid (by
        rw [← Bool.not_eq_true, Lib.containsS_iff]
        intro hm
        obtain ⟨j, hj, e⟩ := List.getElem_of_mem hm
        exact Hal.out j hj (by rw [← Hn.out]; exact hj) e)
      clear hal hb
      go_wp2
      go_ret
      exact ⟨by rw [Fin.out]; rfl, Hb.out⟩

/-- More terms, apart from a row. -/
structure MoR (w : World) (v : Value) (S : Option Addr) (ts : List ByteArray) : Prop where
  at_ : 0 < ts.length → ∃ b o, S = some ⟨b, o, none⟩ ∧ b < w.heap.size ∧ v.ownBlock ≠ some b ∧ ∀ j (h : j < ts.length), w.cell? ⟨b, o + j, none⟩ = some (.string ts[j])
theorem MoR.below {w w' : World} {v : Value} {S : Option Addr} {ts : List ByteArray} (h : MoR w v S ts) (hb : Below w.heap.size w w') : MoR w' v S ts :=
  ⟨fun hp => by
    obtain ⟨b, o, e, h1, h2, h3⟩ := h.at_ hp
    exact ⟨b, o, e, Nat.lt_of_lt_of_le h1 hb.size, h2, fun j hj => (hb.cell (p := ⟨b, o + j, none⟩) h1).trans (h3 j hj)⟩⟩

set_option maxHeartbeats 1600000 in
theorem with_any (B : Nat) (v : Value) (old : List ByteArray) (S : Option Addr) (n c : Nat) (ts : List ByteArray) (w : World) (hN : w.ownsRow B 9 1 v old.length (bsv old)) (hB : B ≤ w.heap.size) (hM : MoR w v S ts) (hn : ts.length = n) (hbig : old.length + n ≤ 4194304) :
    Calls Try.prog 91 #[v, .slice S n c] w fun e w' => ∃ v', e = .returned v' ∧ w'.ownsRow B 9 1 v' (addL old ts).length (bsv (addL old ts)) ∧ Below B w w' := by
  obtain ⟨i0, hi0, hz0, hz1, hz2⟩ := info_parts str_info
  have HN := Lib.hid hN
  have HM := Lib.hid hM
  have Hn := Lib.hid hn
  clear hN hM hn
  go_enter Try.func91, Try.ntmps91
  go_wp2
  go_loopw [0, 5] (fun u i wr => ∃ (k : Nat), k ≤ n ∧ i = .int .i64 k ∧ wr.ownsRow B 9 1 u (addL old (ts.take k)).length (bsv (addL old (ts.take k))) ∧ MoR wr u S ts ∧ Below B w wr) (fun _ i _ => n - (intOf i).toNat)
  case atStart => exact ⟨0, Nat.zero_le _, rfl, HN.out, HM.out, Below.refl _ _⟩
  case round =>
    obtain ⟨k, hk, rfl, hN, hM, hb⟩ := hrel
    have HN := Lib.hid hN
    have HM := Lib.hid hM
    have Hb := Lib.hid hb
    have hbz := hb.size
    by_cases hlt : k < n
    · have hkl : k < ts.length := by rw [Hn.out]; exact hlt
      have hki : (k : Int) < (n : Int) := by omega
      have hki0 : (0 : Int) ≤ (k : Int) := by omega
      obtain ⟨b, o, rfl, hbl, hub, hc⟩ := hM.at_ (by omega)
      have hck := hc k hkl
      have hts := addL_take old ts k hkl
      have hll : (addL old (ts.take k)).length ≤ 4194304 - 1 := by
        have h1 := addL_len (ts.take k) old
        rw [List.length_take] at h1
        omega
      have Hts := Lib.hid hts
      have Hc := Lib.hid hc
      clear hts hc hM hb
      generalize addL old (ts.take k) = l at *
      generalize ts[k] = x at *
      obtain ⟨A2, q2, rfl, hR2⟩ := own_shape hN
      have cc := has_any A2 l.length q2 l x wr hR2 rfl (by omega)
      by_cases hin : Lib.containsS l x = true
      · rw [hin] at cc
        have hl1 : add1 l x = l := by unfold add1; rw [if_pos hin]
        rw [hl1] at Hts
        clear hN hin hl1 hR2
        go_wp2_with (go_at_call 117; refine cc.mono ?_; rintro e wx ⟨rfl, hbx⟩)
        have Fin := Lib.hid (HN.out.kept (grow_of_below hbx none) (by cases hv : (Value.slice A2 l.length q2).ownBlock <;> simp))
        have Fin2 := Lib.hid (HM.out.below hbx)
        have Fin3 := Lib.hid (Hb.out.trans (hbx.mono (by omega)))
        clear hbx cc
        go_roundw
        case rel => exact ⟨k + 1, by omega, by go_num, by rw [Hts.out]; exact Fin.out, Fin2.out, Fin3.out⟩
        case measure => simp [intOf]; omega
      · have hin' : Lib.containsS l x = false := by simpa using hin
        rw [hin'] at cc
        have hl1 : add1 l x = l ++ [x] := by unfold add1; rw [if_neg hin]
        rw [hl1] at Hts
        have HNx := Lib.hid (fun wx (hbx : Below wr.heap.size wr wx) => (HN.out.kept (grow_of_below hbx none) (by cases hv : (Value.slice A2 l.length q2).ownBlock <;> simp) : wx.ownsRow B 9 1 (.slice A2 l.length q2) l.length (bsv l)))
        clear hN hin hl1 hin' hR2
        go_wp2_with (first
          | (go_at_call 117; refine cc.mono ?_; rintro e wx ⟨rfl, hbx⟩; have hckx := (hbx.cell (p := ⟨b, o + k, none⟩) hbl).trans hck; have hown := HNx.out wx hbx; have hzx := hbx.size; have hMx := Lib.hid (HM.out.below hbx); have hbw := Lib.hid (Hb.out.trans (hbx.mono (by omega))); clear hbx cc)
          | (at_builtin; go_loud (refine wpList_append_own_at _ rfl _ _ 28 rfl B 9 i0 _ 1 16 Try.underlying28 hi0 hz0 hz1 hz2 rfl (by decide) _ _ _ rfl (hown.alloc _) ⟨wx.heap.size, 0, none⟩ 1 1 [.string x] rfl rfl ?d1 ?d2 ?d3 ?d4 ?d5 ?_)))
        case d1 => exact World.news_of_block (cs := #[.string x]) (t := 9) (fr := (0, 0)) (heap_alloc_new wx _)
        case d2 => intro y hy; simp at hy; subst hy; rfl
        case d3 => unfold maxLen; omega
        case d4 => omega
        case d5 => simp; omega
        intro v' w5 hown5 hg5 _ hat
        obtain ⟨g5, q5, rfl⟩ := own_succ hown5
        have Fin : Hid (w5.ownsRow B 9 1 (.slice (some ⟨g5, 0, none⟩) (l.length + 1) q5) (l ++ [x]).length (bsv (l ++ [x]))) := Lib.hid (by rw [List.length_append, bsv_snoc]; exact hown5)
        have hblx : b < wx.heap.size := by omega
        have hz5 := hg5.size
        simp at hz5
        have Fin2 : Hid (MoR w5 (.slice (some ⟨g5, 0, none⟩) (l.length + 1) q5) (some ⟨b, o, none⟩) ts) := Lib.hid ⟨fun hp => by
          obtain ⟨b', o', e, h1, h2, h3⟩ := hMx.out.at_ hp
          injection e with e
          injection e with e1 e2
          subst e1
          subst e2
          refine ⟨b, o, rfl, by omega, ?_, fun j hj => hg5.cell ((World.cell?_alloc_lt wx _ ⟨b, o + j, none⟩ h1).trans (h3 j hj)) (fun e => h2 e.symm)⟩
          rcases hat with h | h
          · rw [h]; exact h2
          · rw [h]; simp; omega⟩
        have Fin3 : Hid (Below B w w5) := Lib.hid ((hbw.out.alloc (by omega) (.cells #[.string x] 9)).grown hg5 (by simp; omega) (fun e he => (hown.lt _ he).1))
        clear hown5 hg5 hown hat hz5
        go_wp2
        go_roundw
        case rel => exact ⟨k + 1, by omega, by go_num, by rw [Hts.out]; exact Fin.out, Fin2.out, Fin3.out⟩
        case measure => simp [intOf]; omega
    · obtain rfl : k = n := by omega
      have htk : ts.take k = ts := List.take_of_length_le (by rw [Hn.out]; exact Nat.le_refl _)
      rw [htk] at HN
      clear hN hM hb htk
      go_wp2
      go_ret
      exact ⟨_, rfl, HN.out, Hb.out⟩
end Go.Proofs.Ytjfconddkfihcaa.Qy
end
