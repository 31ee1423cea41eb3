/- loggiaref14.merge, loggiaref07.Begins, loggiaref14.Of, Posts: the walks (seat k; printed by gen_mxo.py). -/
import Derived.BigQuiet
import Derived.Test.YtioekhiaoajgfaaGreatPkMemidxForksRow33
import Derived.Test.YtioekhiaoajgfaaGreatPkMemidxForksRow27
import Derived.Test.YtioekhiaoajgfaaGreatMxGPk
import Derived.Test.YtioekhiaoajgfaaGreatEvYPk
import Derived.Test.YtioekhiaoajgfaaGreatPkMemidxForksRow30
import Derived.Test.YtioekhiaoajgfaaGreatPkMemidxForksRow26
namespace Go.Proofs.YtioekhiaoajgfaaGreat.Mx
open Go.RowKit Go.Proofs.YtioekhiaoajgfaaGreat Go.Proofs.YtioekhiaoajgfaaGreat.Ut Go.Proofs.YtioekhiaoajgfaaGreat.Tk Go.Proofs.YtioekhiaoajgfaaGreat.Qy Go.Proofs.YtioekhiaoajgfaaGreat.Ev Go.Proofs.YtioekhiaoajgfaaGreat.Qp Go.Proofs.YtioekhiaoajgfaaGreat.Mv
set_option linter.unusedVariables false
set_option linter.unusedSimpArgs false
set_option maxRecDepth 20000

theorem int_info : (Tryz.prog.info? 3).map (fun i => (i.zero, i.size, i.bytes)) = some (some (.int .i64 0), 1, 8) := by kernel_rfl
theorem ints_at {w : World} {B n k : Nat} {A : Option Addr} {a : List Nat} (h : Reads w B 1 A n (nC a)) (hl : a.length = n) (hk : k < a.length) : ∃ b o, A = some ⟨b, o, none⟩ ∧ b < B ∧ w.cell? ⟨b, o + k, none⟩ = some (.int .i64 (a[k] : Nat)) := by
  obtain ⟨b, o, e, hb, hc⟩ := h.2 (by omega)
  refine ⟨b, o, e, hb, hc k _ ?_⟩
  unfold nC
  rw [List.getElem?_map, List.getElem?_eq_getElem hk]
  rfl
theorem own_shape2R {w : World} {base : Nat} {e : TypeId} {size n c : Nat} {A : Option Addr} {xs : List Value} (h : w.ownsRow base e size (.slice A n c) n xs) : Reads w w.heap.size size A n xs := by
  obtain ⟨A', c', e, hr, _⟩ := own_shape2 h
  injection e with e1 _ _
  rw [e1]
  exact hr
set_option maxHeartbeats 3200000 in
theorem merge_any (A1 : Option Addr) (n1 c1 : Nat) (a : List Nat) (A2 : Option Addr) (n2 c2 : Nat) (b : List Nat) (w : World) (h1 : Reads w w.heap.size 1 A1 n1 (nC a)) (hl1 : a.length = n1) (h2 : Reads w w.heap.size 1 A2 n2 (nC b)) (hl2 : b.length = n2) (hn : n1 + n2 ≤ 4398046511104) :
    Calls Tryz.prog 59 #[.slice A1 n1 c1, .slice A2 n2 c2] w (IntsP w (mrgN a b)) := by
  obtain ⟨i0, hi0, hz0, hz1, hz2⟩ := info_parts int_info
  have H1 : Hid (∀ wx, Below w.heap.size w wx → ∀ i (hi : i < a.length), ∃ g o, A1 = some ⟨g, o, none⟩ ∧ wx.cell? ⟨g, o + i, none⟩ = some (.int .i64 (a[i] : Nat))) := Lib.hid (fun wx hb i hi => by
    obtain ⟨g, o, e, hlt, hc⟩ := ints_at h1 hl1 hi
    exact ⟨g, o, e, (hb.cell hlt).trans hc⟩)
  have H2 : Hid (∀ wx, Below w.heap.size w wx → ∀ i (hi : i < b.length), ∃ g o, A2 = some ⟨g, o, none⟩ ∧ wx.cell? ⟨g, o + i, none⟩ = some (.int .i64 (b[i] : Nat))) := Lib.hid (fun wx hb i hi => by
    obtain ⟨g, o, e, hlt, hc⟩ := ints_at h2 hl2 hi
    exact ⟨g, o, e, (hb.cell hlt).trans hc⟩)
  have q1 : a.length ≤ n1 := by omega
  have q2 : n1 ≤ a.length := by omega
  have q3 : b.length ≤ n2 := by omega
  have q4 : n2 ≤ b.length := by omega
  clear h1 h2 hl1 hl2
  go_enter Tryz.func59, Tryz.ntmps59
  go_wp2
  go_loopw [5, 6, 7] (fun v i k wr => ∃ (ci ck : Nat) (out : List Nat), ci ≤ n1 ∧ ck ≤ n2 ∧ out.length ≤ ci + ck ∧ i = .int .i64 (ci : Nat) ∧ k = .int .i64 (ck : Nat) ∧ Hid (out ++ mrgN (a.drop ci) (b.drop ck) = mrgN a b) ∧ Hid (Rg.Row 3 1 w.heap.size w wr v out.length (nC out))) (fun _ i k _ => (n1 + n2) - ((intOf i).toNat + (intOf k).toNat))
  case atStart => exact ⟨0, 0, [], Nat.zero_le _, Nat.zero_le _, Nat.zero_le _, rfl, rfl, Lib.hid rfl, Lib.hid (Rg.Row.start (Below.refl _ _))⟩
  case round =>
    obtain ⟨ci, ck, out, hci, hck, hol, rfl, rfl, HS, HO⟩ := hrel
    have HB := Lib.hid HO.out.bel
    have hi0' : (0 : Int) ≤ (ci : Int) := by omega
    have hk0' : (0 : Int) ≤ (ck : Int) := by omega
    by_cases hi : ci < n1
    · have hib : (ci : Int) < (n1 : Int) := by omega
      have hia : ci < a.length := by omega
      obtain ⟨g1, o1, rfl, x1⟩ := H1.out wr HB.out ci hia
      by_cases hk : ck < n2
      · have hkb : (ck : Int) < (n2 : Int) := by omega
        have hke : ((ck : Int) == (n2 : Int)) = false := beq_eq_false_iff_ne.2 (by omega)
        have hka : ck < b.length := by omega
        obtain ⟨g2, o2, rfl, x2⟩ := H2.out wr HB.out ck hka
        by_cases hc : a[ci] < b[ck]
        · have HS' : Hid ((out ++ [a[ci]]) ++ mrgN (a.drop (ci + 1)) (b.drop ck) = mrgN a b) := Lib.hid (by rw [← HS.out, mrg_a hia (.inr ⟨hka, hc⟩)]; simp)
          generalize a[ci] = x at *
          generalize b[ck] = y at *
          have hd1 : decide ((x : Int) < (y : Int)) = true := decide_eq_true (by omega)
          have hd1n : decide (x < y) = true := decide_eq_true hc
          clear HS hc
          go_wp2_with fail
          go_quiet (fail)
          have HOq : Hid (Rg.Row 3 1 w.heap.size w (wr.drewN nq) _ out.length (nC out)) := Lib.hid (HO.out.below HB.out.size (below_dn wr nq))
          have HBq := Lib.hid HOq.out.bel
          go_wp2_with (at_builtin; refine wpList_append_own _ rfl _ _ 72 rfl w.heap.size 3 i0 _ 1 8 Tryz.underlying72 hi0 hz0 hz1 hz2 rfl (by decide) _ out.length (nC out) rfl (HOq.out.own.alloc _) ⟨(wr.drewN nq).heap.size, 0, none⟩ 1 1 [.int .i64 (x : Nat)] rfl rfl (World.news_of_block (cs := #[.int .i64 (x : Nat)]) (t := 3) (fr := (0, 0)) (heap_alloc_new (wr.drewN nq) _)) (by simp [Value.oneCell']) ?c1a ?c2a ?c3a ?_)
          case c1a => unfold maxLen; omega
          case c2a => omega
          case c3a => rw [World.size_alloc]; have := HBq.out.size; first | omega | (simp; omega)
          intro v' w3 hown' hgrow _
          have HP : Hid (Rg.Row 3 1 w.heap.size w w3 v' (out ++ [x]).length (nC (out ++ [x]))) := Lib.hid (by
            have h1 := (HOq.out.alloc HBq.out.size (.cells #[.int .i64 (x : Nat)] 3))
            have h2 := h1.app (Y := [.int .i64 (x : Nat)]) (m := 1) (by rw [World.size_alloc]; have := HBq.out.size; first | omega | (simp; omega)) hown' hgrow
            have e1 : (out ++ [x]).length = out.length + 1 := by simp
            have e2 : nC (out ++ [x]) = nC out ++ [.int .i64 (x : Nat)] := by simp [nC]
            rw [e1, e2]
            exact h2)
          clear hown' hgrow
          go_wp2
          go_roundw
          case rel => exact ⟨ci + 1, ck, out ++ [x], by omega, by omega, by simp; omega, by first | rfl | go_num, by first | rfl | go_num, HS', HP⟩
          case measure => simp [intOf]; omega
        · have HS' : Hid ((out ++ [b[ck]]) ++ mrgN (a.drop ci) (b.drop (ck + 1)) = mrgN a b) := Lib.hid (by rw [← HS.out, mrg_b hka (.inr ⟨hia, hc⟩)]; simp)
          generalize a[ci] = x at *
          generalize b[ck] = y at *
          have hd1 : decide ((x : Int) < (y : Int)) = false := decide_eq_false (by omega)
          have hd1n : decide (x < y) = false := decide_eq_false hc
          clear HS hc
          go_wp2_with fail
          go_quiet (fail)
          have HOq : Hid (Rg.Row 3 1 w.heap.size w (wr.drewN nq) _ out.length (nC out)) := Lib.hid (HO.out.below HB.out.size (below_dn wr nq))
          have HBq := Lib.hid HOq.out.bel
          go_wp2_with (at_builtin; refine wpList_append_own _ rfl _ _ 72 rfl w.heap.size 3 i0 _ 1 8 Tryz.underlying72 hi0 hz0 hz1 hz2 rfl (by decide) _ out.length (nC out) rfl (HOq.out.own.alloc _) ⟨(wr.drewN nq).heap.size, 0, none⟩ 1 1 [.int .i64 (y : Nat)] rfl rfl (World.news_of_block (cs := #[.int .i64 (y : Nat)]) (t := 3) (fr := (0, 0)) (heap_alloc_new (wr.drewN nq) _)) (by simp [Value.oneCell']) ?c1b ?c2b ?c3b ?_)
          case c1b => unfold maxLen; omega
          case c2b => omega
          case c3b => rw [World.size_alloc]; have := HBq.out.size; first | omega | (simp; omega)
          intro v' w3 hown' hgrow _
          have HP : Hid (Rg.Row 3 1 w.heap.size w w3 v' (out ++ [y]).length (nC (out ++ [y]))) := Lib.hid (by
            have h1 := (HOq.out.alloc HBq.out.size (.cells #[.int .i64 (y : Nat)] 3))
            have h2 := h1.app (Y := [.int .i64 (y : Nat)]) (m := 1) (by rw [World.size_alloc]; have := HBq.out.size; first | omega | (simp; omega)) hown' hgrow
            have e1 : (out ++ [y]).length = out.length + 1 := by simp
            have e2 : nC (out ++ [y]) = nC out ++ [.int .i64 (y : Nat)] := by simp [nC]
            rw [e1, e2]
            exact h2)
          clear hown' hgrow
          go_wp2
          go_roundw
          case rel => exact ⟨ci, ck + 1, out ++ [y], by omega, by omega, by simp; omega, by first | rfl | go_num, by first | rfl | go_num, HS', HP⟩
          case measure => simp [intOf]; omega
      · have hke : ((ck : Int) == (n2 : Int)) = true := beq_iff_eq.2 (by omega)
        have HS' : Hid ((out ++ [a[ci]]) ++ mrgN (a.drop (ci + 1)) (b.drop ck) = mrgN a b) := Lib.hid (by rw [← HS.out, mrg_a hia (.inl (by omega))]; simp)
        obtain rfl : ck = n2 := by omega
        generalize a[ci] = x at *
        clear HS
        go_wp2_with fail
        go_quiet (fail)
        have HOq : Hid (Rg.Row 3 1 w.heap.size w (wr.drewN nq) _ out.length (nC out)) := Lib.hid (HO.out.below HB.out.size (below_dn wr nq))
        have HBq := Lib.hid HOq.out.bel
        go_wp2_with (at_builtin; refine wpList_append_own _ rfl _ _ 72 rfl w.heap.size 3 i0 _ 1 8 Tryz.underlying72 hi0 hz0 hz1 hz2 rfl (by decide) _ out.length (nC out) rfl (HOq.out.own.alloc _) ⟨(wr.drewN nq).heap.size, 0, none⟩ 1 1 [.int .i64 (x : Nat)] rfl rfl (World.news_of_block (cs := #[.int .i64 (x : Nat)]) (t := 3) (fr := (0, 0)) (heap_alloc_new (wr.drewN nq) _)) (by simp [Value.oneCell']) ?c1c ?c2c ?c3c ?_)
        case c1c => unfold maxLen; omega
        case c2c => omega
        case c3c => rw [World.size_alloc]; have := HBq.out.size; first | omega | (simp; omega)
        intro v' w3 hown' hgrow _
        have HP : Hid (Rg.Row 3 1 w.heap.size w w3 v' (out ++ [x]).length (nC (out ++ [x]))) := Lib.hid (by
          have h1 := (HOq.out.alloc HBq.out.size (.cells #[.int .i64 (x : Nat)] 3))
          have h2 := h1.app (Y := [.int .i64 (x : Nat)]) (m := 1) (by rw [World.size_alloc]; have := HBq.out.size; first | omega | (simp; omega)) hown' hgrow
          have e1 : (out ++ [x]).length = out.length + 1 := by simp
          have e2 : nC (out ++ [x]) = nC out ++ [.int .i64 (x : Nat)] := by simp [nC]
          rw [e1, e2]
          exact h2)
        clear hown' hgrow
        go_wp2
        go_roundw
        case rel => exact ⟨ci + 1, ck, out ++ [x], by omega, by omega, by simp; omega, by first | rfl | go_num, by first | rfl | go_num, HS', HP⟩
        case measure => simp [intOf]; omega
    · have hib : ¬ (ci : Int) < (n1 : Int) := by omega
      by_cases hk : ck < n2
      · have hkb : (ck : Int) < (n2 : Int) := by omega
        have hke : ((ck : Int) == (n2 : Int)) = false := beq_eq_false_iff_ne.2 (by omega)
        have hka : ck < b.length := by omega
        have hd0 : decide ((ci : Int) < (n1 : Int)) = false := decide_eq_false hib
        have hd0n : decide (ci < n1) = false := decide_eq_false hi
        obtain ⟨g2, o2, rfl, x2⟩ := H2.out wr HB.out ck hka
        have HS' : Hid ((out ++ [b[ck]]) ++ mrgN (a.drop ci) (b.drop (ck + 1)) = mrgN a b) := Lib.hid (by rw [← HS.out, mrg_b hka (.inl (by omega))]; simp)
        generalize b[ck] = y at *
        clear HS
        go_wp2_with fail
        go_quiet (fail)
        have HOq : Hid (Rg.Row 3 1 w.heap.size w (wr.drewN nq) _ out.length (nC out)) := Lib.hid (HO.out.below HB.out.size (below_dn wr nq))
        have HBq := Lib.hid HOq.out.bel
        go_wp2_with (at_builtin; refine wpList_append_own _ rfl _ _ 72 rfl w.heap.size 3 i0 _ 1 8 Tryz.underlying72 hi0 hz0 hz1 hz2 rfl (by decide) _ out.length (nC out) rfl (HOq.out.own.alloc _) ⟨(wr.drewN nq).heap.size, 0, none⟩ 1 1 [.int .i64 (y : Nat)] rfl rfl (World.news_of_block (cs := #[.int .i64 (y : Nat)]) (t := 3) (fr := (0, 0)) (heap_alloc_new (wr.drewN nq) _)) (by simp [Value.oneCell']) ?c1d ?c2d ?c3d ?_)
        case c1d => unfold maxLen; omega
        case c2d => omega
        case c3d => rw [World.size_alloc]; have := HBq.out.size; first | omega | (simp; omega)
        intro v' w3 hown' hgrow _
        have HP : Hid (Rg.Row 3 1 w.heap.size w w3 v' (out ++ [y]).length (nC (out ++ [y]))) := Lib.hid (by
          have h1 := (HOq.out.alloc HBq.out.size (.cells #[.int .i64 (y : Nat)] 3))
          have h2 := h1.app (Y := [.int .i64 (y : Nat)]) (m := 1) (by rw [World.size_alloc]; have := HBq.out.size; first | omega | (simp; omega)) hown' hgrow
          have e1 : (out ++ [y]).length = out.length + 1 := by simp
          have e2 : nC (out ++ [y]) = nC out ++ [.int .i64 (y : Nat)] := by simp [nC]
          rw [e1, e2]
          exact h2)
        clear hown' hgrow
        go_wp2
        go_roundw
        case rel => exact ⟨ci, ck + 1, out ++ [y], by omega, by omega, by simp; omega, by first | rfl | go_num, by first | rfl | go_num, HS', HP⟩
        case measure => simp [intOf]; omega
      · have hkb : ¬ (ck : Int) < (n2 : Int) := by omega
        have hF : out = mrgN a b := by
          have := HS.out
          rw [List.drop_eq_nil_of_le (by omega), List.drop_eq_nil_of_le (by omega), mrgN_nil, List.append_nil] at this
          exact this
        obtain ⟨A, c, rfl, _, r1, r2, _⟩ := own_shape2 HO.out.own
        have HR := Lib.hid (And.intro r1 r2)
        have HFF := Lib.hid hF
        clear hF r1 r2
        go_wp2
        go_ret
        rw [← HFF.out]
        exact ⟨A, c, rfl, HO.out.own, HR.out.1, HR.out.2, HB.out⟩
theorem isPrefix_take (p t : List UInt8) : p.isPrefixOf t = (decide (p.length ≤ t.length) && (t.take p.length == p)) := by
  rw [Bool.eq_iff_iff]
  simp only [List.isPrefixOf_iff_prefix, Bool.and_eq_true, decide_eq_true_eq, beq_iff_eq]
  constructor
  · rintro ⟨r, rfl⟩
    simp
  · rintro ⟨_, h⟩
    exact ⟨t.drop p.length, by have := List.take_append_drop p.length t; rw [h] at this; exact this⟩
set_option maxHeartbeats 400000 in
theorem begins_any (s p : ByteArray) (w : World) (hs : s.size ≤ 1048576) :
    Calls Tryz.prog 58 #[.string s, .string p] w fun e w' => e = .returned (.bool (begB s p)) ∧ w = w' := by
  have hb : begB s p = (decide (p.size ≤ s.size) && (s.extract 0 p.size).toList == p.toList) := by
    unfold begB
    rw [isPrefix_take, ByteArray.toList_eq, ByteArray.toList_eq, Lib.extract_data, bsize, bsize]
    simp
  have HB := Lib.hid hb
  clear hb
  generalize begB s p = r at *
  by_cases hl : p.size ≤ s.size
  · have hl' : (p.size : Int) ≤ (s.size : Int) := by omega
    have HB2 : Hid (r = ((s.extract 0 p.size).toList == p.toList)) := Lib.hid (by rw [HB.out, decide_eq_true hl, Bool.true_and])
    go_enter Tryz.func58, Tryz.ntmps58
    go_wp2
    go_ret
    exact ⟨by rw [HB2.out]; rfl, rfl⟩
  · have hl' : ¬ (p.size : Int) ≤ (s.size : Int) := by omega
    have HB2 : Hid (r = false) := Lib.hid (by rw [HB.out, decide_eq_false hl, Bool.false_and])
    go_enter Tryz.func58, Tryz.ntmps58
    go_wp2
    go_ret
    exact ⟨by rw [HB2.out]; rfl, rfl⟩
/-- A row of places that reads. -/
structure NRd (w : World) (v : Value) (ps : List Nat) : Prop where
  ex : ∃ A c, v = .slice A ps.length c ∧ ReadsS w (fun b => Tg w 3 b) 1 A ps.length (nC ps) ∧ ps.length ≤ c ∧ (A = none → c = 0)
theorem NRd.same {w w' : World} {v : Value} {ps : List Nat} (h : NRd w v ps) (hk : ∀ b, Tg w 3 b → w'.heap[b]? = w.heap[b]?) : NRd w' v ps := by
  obtain ⟨A, c, e, h1, h2⟩ := h.ex
  exact ⟨A, c, e, h1.same (fun b hb => ⟨hb.same (hk b hb), hk b hb⟩), h2⟩
theorem NRd.grow {w w' : World} {v : Value} {ps : List Nat} (h : NRd w v ps) (hb : Below w.heap.size w w') : NRd w' v ps := h.same (fun b ht => hb.block b ht.lt)
theorem NRd.nil (w : World) : NRd w (.slice none 0 0) [] := ⟨none, 0, rfl, ⟨rfl, fun h => by simp at h⟩, Nat.le_refl _, fun _ => rfl⟩
/-- What Of hands back. -/
def OfP (w : World) (ps : List Nat) (e : Ending) (w' : World) : Prop := ∃ v, e = .returned v ∧ NRd w' v ps ∧ Below w.heap.size w w'
theorem addAll_szp {fs : List Fl} (h : chkE fs = 0) : (addAll (raw fs)).length ≤ 65536 := by
  have hk := chkE_ok h
  have h1 := rawN_len fs (fun f hf => (hk.2 f hf).2.2) fs.length (Nat.le_refl _)
  rw [rawN_all] at h1
  have := addAll_len (raw fs)
  omega
set_option maxHeartbeats 3200000 in
theorem of_any (t : Int) (F : Option Addr) (fn fc : Nat) (fs : List Fl) (s : ByteArray) (whole : Bool) (w : World) (h : FlAt w w.heap.size F fn fc fs) (hok : chkE fs = 0) (hs : s.size ≤ 1048576) :
    Calls Tryz.prog 39 #[.agg #[.int .i64 t, .slice F fn fc], .string s, .bool whole] w (OfP w (ofE s whole fs)) := by
  have hB1 : Below w.heap.size w (w.alloc (.cells #[.int .i64 t, .slice F fn fc] 51)) := (Below.refl _ _).alloc (Nat.le_refl _) _
  have hX := Blk.new w 51 #[.int .i64 t, .slice F fn fc]
  have C1 := Lib.hid (rterms_any t F fn fc fs _ (h.grow hB1) hok)
  have x0 := hX.cell 0
  have x1 := hX.cell 1
  simp only [List.getElem?_toArray, List.getElem?_cons_zero, List.getElem?_cons_succ] at x0 x1
  have HB1 := Lib.hid hB1
  have hT := addAll_szp hok
  obtain ⟨T, hTT⟩ : ∃ T, addAll (raw fs) = T := ⟨_, rfl⟩
  have HE : Hid (ofE s whole fs = ofT s whole T) := Lib.hid (by unfold ofE; rw [hTT])
  rw [hTT] at hT C1
  rw [HE.out]
  clear hX h hB1 hTT HE hok
  go_enter Tryz.func39, Tryz.ntmps39
  go_wp2_with fail
  refine C1.out.mono ?_
  rintro e w2 ⟨A2, n2, c2, O, rfl, hO, hTm, hb2⟩
  have HB2 := Lib.hid (HB1.out.trans (hb2.mono HB1.out.size))
  have hln : O.length = T.length := by rw [← hO, List.length_map]
  have hln2 : n2 = T.length := by rw [← hTm.ln, hln]
  have HTk : Hid (∀ k (hk : k < T.length) (hk' : k < O.length), T[k] = (O[k].1, O[k].2.2)) := Lib.hid (fun k hk hk' => by
    have h4 : T[k]? = (O.map prj)[k]? := by rw [hO]
    rw [List.getElem?_eq_getElem hk, List.getElem?_map, List.getElem?_eq_getElem hk'] at h4
    injection h4)
  have HTM := Lib.hid hTm
  have hn1 : T.length ≤ n2 := by omega
  have hn2 : n2 ≤ T.length := by omega
  have ho1 : T.length ≤ O.length := by omega
  have HK : Hid (∀ t ∈ T, t.2.length ≤ 65536) := Lib.hid (fun t ht => by
    rw [← hO] at ht
    obtain ⟨x, hx, rfl⟩ := List.mem_map.1 ht
    exact (hTm.po x hx).szp)
  clear hTm hb2 hO x0 x1 hln hln2 C1
  go_wp2_with fail
  go_loopw [7, 9] (fun v i wr => ∃ k : Nat, k ≤ T.length ∧ i = .int .i64 (k : Nat) ∧ Hid (NRd wr v (ofT s whole (T.take k))) ∧ Hid (Below w2.heap.size w2 wr)) (fun _ i _ => T.length - (intOf i).toNat)
  case atStart => exact ⟨0, Nat.zero_le _, rfl, Lib.hid (NRd.nil _), Lib.hid (Below.refl _ _)⟩
  case round =>
    obtain ⟨k, hk, rfl, hV, hB⟩ := hrel
    by_cases hlt : k < T.length
    · have hkz : (k : Int) < (n2 : Int) := by omega
      have hk0 : (0 : Int) ≤ (k : Int) := by omega
      have hko : k < O.length := by omega
      obtain ⟨b, o, rfl, hb, c0, c1⟩ := (HTM.out.grow hB.out hB.out.size).at_ hko
      have hsn : ofT s whole (T.take (k + 1)) = if selT s whole T[k].1 then mrgN (ofT s whole (T.take k)) T[k].2 else ofT s whole (T.take k) := by
        rw [List.take_succ_eq_append_getElem hlt, ofT_snoc]
      have hlen := ofT_len s whole 65536 k (T.take k) (by rw [List.length_take]; omega) (fun t ht => HK.out t (List.mem_of_mem_take ht))
      have hpo := HTM.out.po _ (List.getElem_mem hko)
      have hszs := hpo.szs
      have hszp := hpo.szp
      obtain ⟨P, pc, e2, hrp, _⟩ := (hpo.grow hB.out hB.out.size).ex
      rw [HTk.out k hlt hko] at hsn
      rw [e2] at c1
      have HSN := Lib.hid hsn
      have HRP := Lib.hid hrp
      clear hsn hpo e2 hrp
      generalize O[k].1 = x at *
      generalize O[k].2.2 = ps at *
      generalize ofT s whole (T.take k) = out at *
      obtain ⟨A8, c8, rfl, hr8', hc8, hn8⟩ := hV.out.ex
      have hr8 := hr8'.reads (fun b hb => hb.lt)
      have hlen2 : out.length + ps.length ≤ 4398046511104 := by
        have : k * 65536 ≤ 65536 * 65536 := Nat.mul_le_mul_right _ (by omega)
        omega
      have CM := Lib.hid (merge_any A8 out.length c8 out P ps.length pc ps wr hr8 rfl HRP.out rfl hlen2)
      have CB := Lib.hid (begins_any x s wr hszs)
      have hbe : (x.toList == s.toList) = decide (x = s) := beq_dec x s
      clear hr8 hr8' hc8 hn8
      cases hsel : selT s whole x with
      | true =>
        have HN : Hid (ofT s whole (T.take (k + 1)) = mrgN out ps) := Lib.hid (by rw [HSN.out, hsel]; rfl)
        cases whole with
        | true =>
          have hd : decide (x = s) = true := by simpa [selT] using hsel
          rw [hd] at hbe
          clear hsel hd
          go_wp2_with fail
          refine CM.out.mono ?_
          rintro e w3 ⟨A9, c9, rfl, ho9, h91, h92, hb9⟩
          have HN9 : Hid (NRd w3 (.slice A9 (mrgN out ps).length c9) (mrgN out ps)) := Lib.hid ⟨A9, c9, rfl, (ReadsS.of_own ho9).mono (fun b hb => tg_own ho9 hb.2.2), h91, h92⟩
          have HB9 := Lib.hid (hB.out.trans (hb9.mono hB.out.size))
          clear ho9 hb9
          go_wp2_with fail
          go_roundw
          case rel => exact ⟨k + 1, by omega, by go_num, by rw [HN.out]; exact HN9, HB9⟩
          case measure => simp [intOf]; omega
        | false =>
          have hd : begB x s = true := by simpa [selT] using hsel
          rw [hd] at CB
          clear hsel hd
          go_wp2_with fail
          refine CB.out.mono ?_
          rintro e wb ⟨rfl, rfl⟩
          go_wp2_with fail
          refine CM.out.mono ?_
          rintro e w3 ⟨A9, c9, rfl, ho9, h91, h92, hb9⟩
          have HN9 : Hid (NRd w3 (.slice A9 (mrgN out ps).length c9) (mrgN out ps)) := Lib.hid ⟨A9, c9, rfl, (ReadsS.of_own ho9).mono (fun b hb => tg_own ho9 hb.2.2), h91, h92⟩
          have HB9 := Lib.hid (hB.out.trans (hb9.mono hB.out.size))
          clear ho9 hb9
          go_wp2_with fail
          go_roundw
          case rel => exact ⟨k + 1, by omega, by go_num, by rw [HN.out]; exact HN9, HB9⟩
          case measure => simp [intOf]; omega
      | false =>
        have HN : Hid (ofT s whole (T.take (k + 1)) = out) := Lib.hid (by rw [HSN.out, hsel]; rfl)
        cases whole with
        | true =>
          have hd : decide (x = s) = false := by simpa [selT] using hsel
          rw [hd] at hbe
          clear hsel hd
          go_wp2_with fail
          go_roundw
          case rel => exact ⟨k + 1, by omega, by go_num, by rw [HN.out]; exact hV, hB⟩
          case measure => simp [intOf]; omega
        | false =>
          have hd : begB x s = false := by simpa [selT] using hsel
          rw [hd] at CB
          clear hsel hd
          go_wp2_with fail
          refine CB.out.mono ?_
          rintro e wb ⟨rfl, rfl⟩
          go_wp2_with fail
          go_roundw
          case rel => exact ⟨k + 1, by omega, by go_num, by rw [HN.out]; exact hV, hB⟩
          case measure => simp [intOf]; omega
    · obtain rfl : k = T.length := by omega
      rw [List.take_length] at hV
      have HF := Lib.hid (HB2.out.trans (hB.out.mono HB2.out.size))
      go_wp2
      go_ret
      exact ⟨_, rfl, hV.out, HF.out⟩
/-- A row of posts of the call's own; the places as they stand. -/
structure QRow (w : World) (base : Nat) (v : Value) (l : List Po) : Prop where
  ex : ∃ xs : List Pr, xs.map prP = l ∧ w.ownsRow base 74 2 v l.length (xs.flatMap encP) ∧ ∀ x ∈ xs, NRd w x.2.1 x.2.2 ∧ x.2.2.length ≤ 8796093021952
theorem QRow.start (w : World) (base : Nat) : QRow w base (.slice none 0 0) [] := ⟨[], rfl, World.ownsRow_nil _ _ _ _, fun x hx => (nomatch hx)⟩
theorem QRow.below {w w' : World} {base : Nat} {v : Value} {l : List Po} (h : QRow w base v l) (hb : Below w.heap.size w w') : QRow w' base v l := by
  obtain ⟨xs, h1, h2, h3⟩ := h.ex
  exact ⟨xs, h1, own_same h2 (fun b e => hb.block b (h2.lt b e).2), fun x hx => ⟨(h3 x hx).1.grow hb, (h3 x hx).2⟩⟩
theorem QRow.put {w w5 : World} {base n : Nat} {u v' : Value} {l : List Po} {xs : List Pr} {x : Pr} (h : w.ownsRow base 74 2 u n (xs.flatMap encP)) (hn : l.length = n) (hxs : xs.map prP = l) (hxp : ∀ y ∈ xs, NRd w y.2.1 y.2.2 ∧ y.2.2.length ≤ 8796093021952) (hx : NRd w x.2.1 x.2.2 ∧ x.2.2.length ≤ 8796093021952) (hg : w.grownBy w5 u.ownBlock) (ho : w5.ownsRow base 74 2 v' (n + 1) (xs.flatMap encP ++ encP x)) : QRow w5 base v' (l ++ [prP x]) := by
  have kt : ∀ b, Tg w 3 b → w5.heap[b]? = w.heap[b]? := fun b hb => hg.block b hb.lt (fun e => absurd ((tg_own h e.symm).one hb) (by decide))
  refine ⟨xs ++ [x], by simp [hxs], ?_, fun y hy => ?_⟩
  · rw [List.flatMap_append, List.length_append, hn]
    simpa using ho
  · rcases List.mem_append.1 hy with hy | hy
    · exact ⟨(hxp y hy).1.same kt, (hxp y hy).2⟩
    · rw [List.mem_singleton] at hy; subst hy
      exact ⟨hx.1.same kt, hx.2⟩
theorem QRow.rd {w : World} {base : Nat} {v : Value} {l : List Po} (h : QRow w base v l) : ∃ A c, v = .slice A l.length c ∧ PostRd w A l.length l := by
  obtain ⟨xs, h1, h2, h3⟩ := h.ex
  have hl : xs.length = l.length := by rw [← h1, List.length_map]
  obtain ⟨A, c, rfl, hR, _⟩ := own_shape2 h2
  refine ⟨A, c, rfl, rfl, fun {i} hi => ?_⟩
  have hix : i < xs.length := by omega
  obtain ⟨b, o, e, hb, hc⟩ := hR.2 (by omega)
  have f0 := Ss.encs_get (enc := encP) (k := 2) (fun _ => rfl) xs i 0 hix (by omega)
  have f1 := Ss.encs_get (enc := encP) (k := 2) (fun _ => rfl) xs i 1 hix (by omega)
  have c0 := hc _ _ (f0.trans rfl)
  have c1 := hc _ _ (f1.trans rfl)
  have hx := h3 _ (List.getElem_mem hix)
  obtain ⟨P, pc, e2, e3, _⟩ := hx.1.ex
  have e1 : l[i] = prP xs[i] := by
    have h4 : l[i]? = (xs.map prP)[i]? := by rw [h1]
    rw [List.getElem?_eq_getElem hi, List.getElem?_map, List.getElem?_eq_getElem hix] at h4
    injection h4
  rw [e1]
  refine ⟨b, o, P, _, pc, e, hb, ?_, ?_, e3.reads (fun b hb => hb.lt), rfl, hx.2⟩
  · simpa [prP] using c0
  · rw [← Nat.add_assoc] at c1
    rw [← e2]; exact c1
/-- What the document's Posts hands back. -/
def PostsQ (w : World) (l : List Po) (e : Ending) (w' : World) : Prop := ∃ A c, e = .returned (.slice A l.length c) ∧ PostRd w' A l.length l ∧ Below w.heap.size w w'
set_option maxHeartbeats 3200000 in
theorem rposts_any (A : Option Addr) (n c : Nat) (ds : List Dc) (Rr : Nat → Prop) (B : Nat) (s : ByteArray) (whole : Bool) (w : World) (h : RIx w Rr B A n c ds) (hok : Dok ds) (hfew : ds.length ≤ 65536) (hs : s.size ≤ 1048576) :
    Calls Tryz.prog 15 #[.agg #[.slice A n c], .string s, .bool whole] w (PostsQ w (postsR (ds.map (·.fs)) s whole)) := by
  obtain ⟨j0, hj0, hy0, hy1, hy2⟩ := info_parts post_info
  have hn1 : n = ds.length := h.rd.ln.symm
  subst hn1
  have hB1 : Below w.heap.size w (w.alloc (.cells #[.slice A ds.length c] 30)) := (Below.refl _ _).alloc (Nat.le_refl _) _
  have hX := Blk.new w 30 #[.slice A ds.length c]
  have HG : Hid (∀ wx, Below w.heap.size w wx → ∀ k (hk : k < ds.length), ∃ b o F fn f, A = some ⟨b, o, none⟩ ∧ wx.cell? ⟨b, o + k * 3 + 1, none⟩ = some (.int .i64 ds[k].at_) ∧ wx.cell? ⟨b, o + k * 3 + 2, none⟩ = some (.slice F fn f) ∧ FlAt wx wx.heap.size F fn f ds[k].fs) := Lib.hid (fun wx hb k hk => by
    obtain ⟨b, o, F, fn, f, e, hR, k0, k1, k2, r, q1, q2, q3, q4⟩ := h.rd.at_ hk
    have hkk := chkE_ok (hok _ (List.getElem_mem hk)).1
    have hlt := h.lt b hR
    exact ⟨b, o, F, fn, f, e, (hb.cell hlt).trans k1, (hb.cell hlt).trans k2, ((r.reads (fun b hb => hb.elim (h.lt b) (fun q => Nat.lt_of_lt_of_le q h.bw))).below hb).more hb.size, q1, q2, q3, fun g hg => ⟨by have := (hkk.2 g hg).2.1; omega, by have := (hkk.2 g hg).2.2; omega⟩, q4⟩)
  have HX := Lib.hid hX
  have HB1 := Lib.hid hB1
  have OK := Lib.hid hok
  clear h hX hB1 hok
  go_enter Tryz.func15, Tryz.ntmps15
  go_wp2_with fail
  generalize hw1 : w.alloc (.cells #[.slice A ds.length c] 30) = w1 at *
  clear hw1
  go_loopw [7, 8] (fun v i wr => ∃ k : Nat, k ≤ ds.length ∧ i = .int .i64 (k : Nat) ∧ Hid (QRow wr w1.heap.size v (postsR ((ds.take k).map (·.fs)) s whole)) ∧ Hid (Below w1.heap.size w1 wr)) (fun _ i _ => ds.length - (intOf i).toNat)
  case atStart => exact ⟨0, Nat.zero_le _, rfl, Lib.hid (QRow.start _ _), Lib.hid (Below.refl _ _)⟩
  case round =>
    obtain ⟨k, hk, rfl, hV, hB⟩ := hrel
    have x0 := (HX.out.below hB.out HX.out.lt).cell 0
    simp only [List.getElem?_toArray, List.getElem?_cons_zero] at x0
    by_cases hlt : k < ds.length
    · have hkz : (k : Int) < (ds.length : Int) := by omega
      have hk0 : (0 : Int) ≤ (k : Int) := by omega
      obtain ⟨b, o, F, fn, f, rfl, c1, c2, hF⟩ := HG.out wr (HB1.out.trans (hB.out.mono HB1.out.size)) k hlt
      have hsn : postsR ((ds.take (k + 1)).map (·.fs)) s whole = postsR ((ds.take k).map (·.fs)) s whole ++ (postE s whole (ds[k].fs, k)).toList := by
        rw [List.take_succ_eq_append_getElem hlt, List.map_append, List.map_cons, List.map_nil, postsR_snoc, List.length_map, List.length_take, Nat.min_eq_left (by omega)]
      have hpl := postsR_len ((ds.take k).map (·.fs)) s whole
      rw [List.length_map, List.length_take] at hpl
      have hok := (OK.out _ (List.getElem_mem hlt)).1
      have hlE : (ofE s whole ds[k].fs).length ≤ 4294967296 := by
        have hk := addAll_szp hok
        have h2 := ofT_len s whole 65536 _ (addAll (raw ds[k].fs)) rfl (fun t ht => by
          have hm := ((isTm_all (raw ds[k].fs)).mem t).1 ht
          rw [hm.2, List.length_map]
          have h3 := List.length_filter_le (fun y => decide (y.1 = t.1)) (raw ds[k].fs)
          have hkk := chkE_ok hok
          have h4 := rawN_len ds[k].fs (fun f hf => (hkk.2 f hf).2.2) ds[k].fs.length (Nat.le_refl _)
          rw [rawN_all] at h4
          omega)
        have h5 : (addAll (raw ds[k].fs)).length * 65536 ≤ 65536 * 65536 := Nat.mul_le_mul_right _ hk
        unfold ofE
        exact Nat.le_trans h2 h5
      have C1 := Lib.hid (of_any ds[k].at_ F fn f ds[k].fs s whole wr hF hok hs)
      have HSN := Lib.hid hsn
      clear hF hsn hok
      unfold postE at HSN
      clear OK HG
      generalize ds[k].at_ = ta at *
      generalize ofE s whole ds[k].fs = ps at *
      generalize postsR ((ds.take k).map (·.fs)) s whole = out at *
      go_wp2_with fail
      refine C1.out.mono ?_
      rintro e w2 ⟨v2, rfl, hv2, hb2⟩
      obtain ⟨A2, c2', rfl, _⟩ := hv2.ex
      have hV2 := hV.out.below hb2
      have HV2 := Lib.hid hv2
      have HB2 := Lib.hid (hB.out.trans (hb2.mono hB.out.size))
      have HVV := Lib.hid hV2
      have hs1 := HB2.out.size
      clear hv2 hb2 C1 c1 c2 x0 hV
      by_cases h0 : ps = []
      · have HN : Hid (postsR ((ds.take (k + 1)).map (·.fs)) s whole = out) := Lib.hid (by rw [HSN.out]; simp [h0])
        subst h0
        clear HSN hV2
        go_wp2_with fail
        go_roundw
        case rel => exact ⟨k + 1, by omega, by go_num, by rw [HN.out]; exact HVV, HB2⟩
        case measure => simp [intOf]; omega
      · have hpz : (0 : Int) < (ps.length : Int) := by have := List.length_pos_iff.2 h0; omega
        have HN : Hid (postsR ((ds.take (k + 1)).map (·.fs)) s whole = out ++ [(k, ps)]) := Lib.hid (by rw [HSN.out]; simp [h0])
        have hb3 : Below w2.heap.size w2 (w2.alloc (.cells #[.int .i64 (k : Nat), .slice A2 ps.length c2'] 74)) := (Below.refl _ _).alloc (Nat.le_refl _) _
        obtain ⟨xs, y1, y2, y3⟩ := hV2.ex
        have hy2' := y2.alloc (.cells #[.int .i64 (k : Nat), .slice A2 ps.length c2'] 74)
        have HY3 : Hid (∀ y ∈ xs, NRd (w2.alloc (.cells #[.int .i64 (k : Nat), .slice A2 ps.length c2'] 74)) y.2.1 y.2.2 ∧ y.2.2.length ≤ 8796093021952) := Lib.hid (fun y hy => ⟨(y3 y hy).1.grow hb3, (y3 y hy).2⟩)
        have HV3 := Lib.hid (HV2.out.grow hb3)
        have HB3 := Lib.hid (HB2.out.trans (hb3.mono HB2.out.size))
        have hol : out.length ≤ 65536 := by omega
        clear HSN hV2 y2 y3 hb3 h0
        go_wp2_with (at_builtin; refine wpList_append_own _ rfl _ _ 33 rfl w1.heap.size 74 j0 _ 2 32 Tryz.underlying33 hj0 hy0 hy1 hy2 rfl (by decide) _ out.length (xs.flatMap encP) rfl hy2' ⟨w2.heap.size, 0, none⟩ 1 1 [.int .i64 (k : Nat), .slice A2 ps.length c2'] rfl rfl (World.news_of_block (cs := #[.int .i64 (k : Nat), .slice A2 ps.length c2']) (t := 74) (fr := (0, 0)) (heap_alloc_new w2 _)) (by simp [Value.oneCell']) ?c1 ?c2 ?c3 ?_)
        case c1 => unfold maxLen; omega
        case c2 => omega
        case c3 => rw [World.size_alloc]; omega
        intro v' w5 hown5 hg5 _
        have Fin : Hid (QRow w5 w1.heap.size v' (out ++ [(k, ps)])) := Lib.hid (QRow.put (x := (k, .slice A2 ps.length c2', ps)) hy2' rfl y1 HY3.out ⟨HV3.out, by show ps.length ≤ _; omega⟩ hg5 hown5)
        have HB5 := Lib.hid (HB3.out.grown hg5 (by rw [World.size_alloc]; omega) (fun b hb => (hy2'.lt b hb).1))
        clear hown5 hg5 hy2'
        go_wp2
        go_roundw
        case rel => exact ⟨k + 1, by omega, by go_num, by rw [HN.out]; exact Fin, HB5⟩
        case measure => simp [intOf]; omega
    · obtain rfl : k = ds.length := by omega
      rw [List.take_length] at hV
      obtain ⟨A9, c9, rfl, hr9⟩ := hV.out.rd
      have HR9 := Lib.hid hr9
      have HF := Lib.hid (HB1.out.trans (hB.out.mono HB1.out.size))
      clear hr9
      go_wp2
      go_ret
      exact ⟨A9, c9, rfl, HR9.out, HF.out⟩
end Go.Proofs.YtioekhiaoajgfaaGreat.Mx
