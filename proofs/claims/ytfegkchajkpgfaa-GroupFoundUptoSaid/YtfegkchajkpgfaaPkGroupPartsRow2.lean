/- Parts of docs, counted and merged: plain. -/
import Derived.Test.YtfegkchajkpgfaaPkGroupMergesRow1
import Derived.Test.YtfegkchajkpgfaaPkGroupRowsRow35
import Derived.Test.YtfegkchajkpgfaaTokQPk
import Derived.Test.YtfegkchajkpgfaaPkGroupRowsRow37
import Derived.Test.YtfegkchajkpgfaaPkGroupPartsRow1
import Derived.Test.YtfegkchajkpgfaaPkGroupMergesRow2
section
namespace Go.Proofs.Ytfegkchajkpgfaa.Gr
open Go.RowKit Go.Proofs.Ytfegkchajkpgfaa Go.Proofs.Ytfegkchajkpgfaa.Ut Go.Proofs.Ytfegkchajkpgfaa.Tk Go.Proofs.Ytfegkchajkpgfaa.Qy
set_option linter.unusedSimpArgs false
set_option linter.unusedVariables false

theorem w_isW (s : List UInt8) : ∀ x ∈ words s, isW x = true := fun x hx => by
  unfold isW
  rw [(words_word s x hx).1]
  simp
def sumC : List Ct → ByteArray → Int
  | [], _ => 0
  | c :: cs, s => (if c.1 = s then c.2 else 0) + sumC cs s
theorem sumC_app : ∀ (a b : List Ct) (s : ByteArray), sumC (a ++ b) s = sumC a s + sumC b s
  | [], b, s => by simp [sumC]
  | c :: a, b, s => by
    show _ + sumC (a ++ b) s = _ + sumC a s + sumC b s
    rw [sumC_app a b s]
    omega
theorem sumC_pos : ∀ (cs : List Ct) (s : ByteArray), (∀ c ∈ cs, 1 ≤ c.2) → 0 ≤ sumC cs s
  | [], s, _ => Int.le_refl _
  | c :: cs, s, h => by
    have h1 := sumC_pos cs s (fun x hx => h x (List.mem_cons_of_mem _ hx))
    have h2 := h c (List.mem_cons_self ..)
    show 0 ≤ (if c.1 = s then c.2 else 0) + sumC cs s
    split <;> omega
theorem addT_get (f : Tb) (s t : ByteArray) (n : Int) : ((addT f s n) t).getD 0 = (f t).getD 0 + (if s = t then n else 0) := by
  unfold addT putT
  by_cases e : t = s
  · subst e
    rw [if_pos rfl, if_pos rfl]
    rfl
  · rw [if_neg e, if_neg (fun h => e h.symm)]
    omega
theorem mrgT_sum : ∀ (cs : List Ct) (f : Tb), TabOk f → (∀ c ∈ cs, 1 ≤ c.2 ∧ c.2 ≤ 1099511627776) → (∀ s, (f s).getD 0 + sumC cs s ≤ 1099511627776) → ∃ g, mrgT cs f = some g ∧ TabOk g ∧ ∀ s, (g s).getD 0 = (f s).getD 0 + sumC cs s
  | [], f, hf, _, _ => ⟨f, rfl, hf, fun s => by show _ = _ + (0 : Int); omega⟩
  | c :: cs, f, hf, hc, hs => by
    have h1 := hc c (List.mem_cons_self ..)
    have hp := sumC_pos cs c.1 (fun x hx => (hc x (List.mem_cons_of_mem _ hx)).1)
    have hb := hs c.1
    have e : sumC (c :: cs) c.1 = c.2 + sumC cs c.1 := by
      show (if c.1 = c.1 then c.2 else 0) + _ = _
      rw [if_pos rfl]
    rw [e] at hb
    have ht : tooT f c.1 c.2 = false := by
      rw [tooT_iff h1.2]
      exact decide_eq_false (by omega)
    obtain ⟨g, g1, g2, g3⟩ := mrgT_sum cs (addT f c.1 c.2) (hf.add h1 ht) (fun x hx => hc x (List.mem_cons_of_mem _ hx)) (fun s => by
      have := hs s
      rw [addT_get]
      have e : sumC (c :: cs) s = (if c.1 = s then c.2 else 0) + sumC cs s := rfl
      rw [e] at this
      omega)
    refine ⟨g, ?_, g2, fun s => ?_⟩
    · show (if tooT f c.1 c.2 = true then none else mrgT cs (addT f c.1 c.2)) = _
      rw [ht, if_neg (by decide)]
      exact g1
    · rw [g3, addT_get]
      show _ = _ + ((if c.1 = s then c.2 else 0) + sumC cs s)
      omega
theorem sumC_none : ∀ (cs : List Ct) (s : ByteArray), (∀ c ∈ cs, c.1 ≠ s) → sumC cs s = 0
  | [], s, _ => rfl
  | c :: cs, s, h => by
    show (if c.1 = s then c.2 else 0) + sumC cs s = 0
    rw [if_neg (h c (List.mem_cons_self ..)), sumC_none cs s (fun x hx => h x (List.mem_cons_of_mem _ hx))]
    omega
theorem sumC_mem : ∀ (cs : List Ct) (x : Ct), cs.Pairwise (fun x y => x.1 ≠ y.1) → x ∈ cs → sumC cs x.1 = x.2
  | [], x, _, h => (nomatch h)
  | c :: cs, x, hp, h => by
    obtain ⟨h1, h2⟩ := List.pairwise_cons.1 hp
    show (if c.1 = x.1 then c.2 else 0) + sumC cs x.1 = x.2
    rcases List.mem_cons.1 h with rfl | h
    · rw [if_pos rfl, sumC_none cs x.1 (fun y hy e => h1 y hy e.symm)]
      omega
    · rw [if_neg (h1 x h), sumC_mem cs x h2 h]
      omega
theorem tab_ne {f : Tb} {l : List Ct} (h : IsTab f l) : l.Pairwise (fun x y => x.1 ≠ y.1) := h.1.imp (fun {x y} hxy e => by rw [e, ltS_irrefl] at hxy; cases hxy)
theorem sumC_tab {f : Tb} {l : List Ct} (h : IsTab f l) (s : ByteArray) : sumC l s = (f s).getD 0 := by
  cases e : f s with
  | none =>
    exact sumC_none l s (fun c hc ec => by
      have := (h.2 c).1 hc
      rw [ec, e] at this
      cases this)
  | some n =>
    have := sumC_mem l (s, n) (tab_ne h) ((h.2 (s, n)).2 e)
    exact this
theorem tab_eq {f g : Tb} (hf : TabOk f) (hg : TabOk g) (h : ∀ s, (f s).getD 0 = (g s).getD 0) : f = g := by
  funext s
  have hs := h s
  cases e : f s with
  | none =>
    cases e2 : g s with
    | none => rfl
    | some n =>
      rw [e, e2] at hs
      have := hg s n e2
      have hs : (0 : Int) = n := hs
      omega
  | some m =>
    cases e2 : g s with
    | none =>
      rw [e, e2] at hs
      have := hf s m e
      have hs : m = (0 : Int) := hs
      omega
    | some n =>
      rw [e, e2] at hs
      have hs : m = n := hs
      rw [hs]
theorem tabOf_ok {g : ByteArray → Nat} (h : ∀ s, g s ≤ 1099511627776) : TabOk (tabOf g) := by
  intro s n hn
  unfold tabOf at hn
  split at hn
  · cases hn
  · injection hn with hn
    have := h s
    omega
theorem inL_mem {l : List ByteArray} {s : ByteArray} (h : inL l s = true) : s ∈ l := by
  unfold inL at h
  obtain ⟨x, hx, e⟩ := List.any_eq_true.1 h
  rw [← of_decide_eq_true e]
  exact hx
theorem wds_isW (name : ByteArray) (fs : List (ByteArray × ByteArray)) : ∀ s ∈ wdsF name fs, isW s.data.toList = true := by
  intro s hs
  unfold wdsF at hs
  obtain ⟨f, _, hf⟩ := List.mem_flatMap.1 hs
  split at hf
  · obtain ⟨w, hw, rfl⟩ := List.mem_map.1 hf
    rw [str_data]
    exact w_isW _ w hw
  · cases hf
theorem cnt_isW {name : ByteArray} {ds : List Dc} {s : ByteArray} (h : cntN name ds s ≠ 0) : isW s.data.toList = true := by
  have : 0 < ds.countP fun d => inL (wdsF name d.fs) s := Nat.pos_of_ne_zero h
  obtain ⟨d, _, hd⟩ := List.countP_pos_iff.1 this
  exact wds_isW name d.fs s (inL_mem hd)
theorem row_ok {name : ByteArray} {ds : List Dc} {l : List Ct} (h : IsTab (tabOf (cntN name ds)) l) (hl : ds.length ≤ 1099511627776) : okR l = true := by
  refine okR_yes (fun k hk => ?_)
  rw [okK_eq hk]
  have hm := (h.2 l[k]).1 (List.getElem_mem hk)
  have hb := tabOf_ok (fun s => Nat.le_trans (cntN_le name ds s) hl) _ _ hm
  have hne : cntN name ds l[k].1 ≠ 0 := fun e => by
    unfold tabOf at hm
    rw [if_pos e] at hm
    cases hm
  rw [cnt_isW hne, decide_eq_true hb.1, decide_eq_true hb.2]
  by_cases hk0 : k = 0
  · rw [decide_eq_true hk0]; rfl
  · rw [decide_eq_false hk0]
    have := List.pairwise_iff_getElem.1 h.1 (k - 1) k (by omega) hk (by omega)
    rw [this]
    rfl
theorem cntN_app (name : ByteArray) (a b : List Dc) (s : ByteArray) : cntN name (a ++ b) s = cntN name a s + cntN name b s := by
  unfold cntN
  rw [List.countP_append]
/-- Parts, merged, are the whole. -/
theorem parts_law {name : ByteArray} {ds : List Dc} {k : Nat} {a b c : List Ct} {P Q : Option Addr} {p q : Nat} (hl : ds.length ≤ 1099511627776) (ha : IsTab (tabOf (cntN name (ds.take k))) a) (hb : IsTab (tabOf (cntN name (ds.drop k))) b) (hc : IsTab (tabOf (cntN name ds)) c) :
    outM [⟨P, p, a⟩, ⟨Q, q, b⟩] = (c, 0) := by
  have la : (ds.take k).length ≤ 1099511627776 := by rw [List.length_take]; omega
  have lb : (ds.drop k).length ≤ 1099511627776 := by rw [List.length_drop]; omega
  have oa := row_ok ha la
  have ob := row_ok hb lb
  have hok : ∀ j (hj : j < [(⟨P, p, a⟩ : Rw), ⟨Q, q, b⟩].length), okR ([(⟨P, p, a⟩ : Rw), ⟨Q, q, b⟩][j]).l = true := fun j hj => by
    have : j = 0 ∨ j = 1 := by simp at hj; omega
    rcases this with rfl | rfl
    · exact oa
    · exact ob
  have hfl : flatF [⟨P, p, a⟩, ⟨Q, q, b⟩] = a ++ b := by simp [flatF]
  have hsum : ∀ s, sumC (a ++ b) s = (cntN name ds s : Int) := fun s => by
    rw [sumC_app, sumC_tab ha, sumC_tab hb, tabOf_get, tabOf_get]
    have := cntN_app name (ds.take k) (ds.drop k) s
    rw [List.take_append_drop] at this
    omega
  obtain ⟨g, g1, g2, g3⟩ := mrgT_sum (a ++ b) noT TabOk.none (fun x hx => by
    rcases List.mem_append.1 hx with hx | hx
    · exact okR_few oa x hx
    · exact okR_few ob x hx) (fun s => by
    rw [hsum]
    have := cntN_le name ds s
    show (0 : Int) + _ ≤ _
    omega)
  have hg : g = tabOf (cntN name ds) := tab_eq g2 (tabOf_ok (fun s => Nat.le_trans (cntN_le name ds s) hl)) (fun s => by
    rw [g3, hsum, tabOf_get]
    show (0 : Int) + _ = _
    omega)
  refine outM_tab hok (f := g) ?_ (by rw [hg]; exact hc)
  rw [hfl]
  exact g1
theorem few_of : ∀ (l m : List ByteArray), l.Pairwise (fun x y => x ≠ y) → (∀ x ∈ l, x ∈ m) → l.length ≤ m.length
  | [], m, _, _ => Nat.zero_le _
  | x :: l, m, hp, hs => by
    obtain ⟨h1, h2⟩ := List.pairwise_cons.1 hp
    have ih := few_of l (m.filter fun y => !decide (y = x)) h2 (fun y hy => by
      rw [List.mem_filter]
      exact ⟨hs y (List.mem_cons_of_mem _ hy), by have e : ¬ y = x := fun e => h1 y hy e.symm; simp [e]⟩)
    have hlt : (m.filter fun y => !decide (y = x)).length < m.length := by
      rw [List.length_filter_lt_length_iff_exists]
      exact ⟨x, hs x (List.mem_cons_self ..), by simp⟩
    rw [List.length_cons]
    omega
theorem totW_flat (name : ByteArray) (ds : List Dc) : (ds.flatMap fun d => wdsF name d.fs).length = totW name ds := by
  unfold totW
  rw [List.length_flatMap]
theorem tab_len {name : ByteArray} {ds : List Dc} {l : List Ct} (h : IsTab (tabOf (cntN name ds)) l) : l.length ≤ totW name ds := by
  have h1 := few_of (l.map Prod.fst) (ds.flatMap fun d => wdsF name d.fs) (List.pairwise_map.2 (tab_ne h)) (fun s hs => by
    obtain ⟨x, hx, rfl⟩ := List.mem_map.1 hs
    have hm := (h.2 x).1 hx
    have hne : cntN name ds x.1 ≠ 0 := fun e => by
      unfold tabOf at hm
      rw [if_pos e] at hm
      cases hm
    obtain ⟨d, hd, hin⟩ := List.countP_pos_iff.1 (Nat.pos_of_ne_zero hne)
    exact List.mem_flatMap.2 ⟨d, hd, inL_mem hin⟩)
  rw [List.length_map, totW_flat] at h1
  exact h1
theorem totW_app (name : ByteArray) (a b : List Dc) : totW name (a ++ b) = totW name a + totW name b := by
  unfold totW
  rw [List.map_append, List.sum_append]
end Go.Proofs.Ytfegkchajkpgfaa.Gr
end

section
/- loggialaw30.GroupParts: the walk. -/
namespace Go.Proofs.Ytfegkchajkpgfaa.Gr
open Go.RowKit Go.Proofs.Ytfegkchajkpgfaa Go.Proofs.Ytfegkchajkpgfaa.Ut Go.Proofs.Ytfegkchajkpgfaa.Tk Go.Proofs.Ytfegkchajkpgfaa.Qy Go.Sort Go.Shelf Go.Lib
set_option maxRecDepth 20000
set_option linter.unusedSimpArgs false
set_option linter.unusedVariables false

set_option maxHeartbeats 1600000 in
theorem of_badIn (name : ByteArray) (A : Option Addr) (n c : Nat) (w : World) (hname : name.size ≤ 140737488351232) (hN : isN name.data.toList = false) :
    CallsIn Fence.wide 4 Try.prog 35 #[.string name, .slice A n c] w fun e w' => e = .returned (.tuple #[.slice none 0 0, .int .i64 1]) ∧ Below w.heap.size w w' := by
  have c1 := isName_anyB name w hname
  rw [hN] at c1
  refine callsIn_of_wp_marks Try.func35 rfl trivial ?_ rfl
  simp only [Try.ntmps35, List.size_toArray, List.length_cons, List.length_nil, Nat.reduceAdd, Nat.reduceSub, Array.replicate_succ, Array.replicate_zero, List.push_toArray, List.append_toArray, List.nil_append, List.cons_append]
  gi_wp2_with fail
  refine ⟨trivial, (callsIn_wide.2 c1).mono ?_⟩
  rintro e w1 ⟨rfl, hb1⟩
  have Hb1 := Lib.hid hb1
  clear c1 hb1
  gi_wp2
  exact ⟨_, results_tmp2 rfl _ _ _, rfl, Hb1.out⟩
theorem of_bad (name : ByteArray) (A : Option Addr) (n c : Nat) (w : World) (hname : name.size ≤ 140737488351232) (hN : isN name.data.toList = false) :
    Calls Try.prog 35 #[.string name, .slice A n c] w fun e w' => e = .returned (.tuple #[.slice none 0 0, .int .i64 1]) ∧ Below w.heap.size w w' := callsIn_wide.1 (of_badIn name A n c w hname hN)

set_option maxHeartbeats 1000000 in
theorem groupParts_walk (name : ByteArray) (A : Option Addr) (n c : Nat) (ds : List Dc) (at_ : Int) (w : World) (hD : DocsAt w w.heap.size A n ds) (hn : n ≤ 8796093021952) (hs : ∀ d ∈ ds, ∀ f ∈ d.fs, f.2.size ≤ 1048576) (htot : totW name ds ≤ 1048576) (hname : name.size ≤ 140737488351232) (ha : 0 ≤ at_ ∧ at_ ≤ 255) :
    Calls Try.prog 8 #[.string name, .slice A n c, .int .u8 at_] w fun e w' => e = .returned (.bool true) ∧ Below w.heap.size w w' := by
  have c1 := few_any A n c ds w hD hn
  clear hD
  go_enter Try.func8, Try.ntmps8
  go_wp2_with fail
  refine c1.mono ?_
  rintro e w1 (⟨⟨v, rfl⟩, hb1⟩ | ⟨v, rfl, hO⟩)
  · have c2 := awake_any w1
    have Hb1 := Lib.hid hb1
    clear c1 hb1
    go_wp2_with fail
    refine c2.mono ?_
    rintro e w2 ⟨rfl, hb2⟩
    have Hb2 := Lib.hid (Hb1.out.trans (hb2.mono Hb1.out.size))
    clear c2 hb2
    go_wp2
    go_ret
    exact ⟨rfl, Hb2.out⟩
  · have Hs : Hid (∀ d ∈ ds.take 25, ∀ f ∈ d.fs, f.2.size ≤ 1048576) := Lib.hid (fun d hd => hs d (List.mem_of_mem_take hd))
    have ht25 := Nat.le_trans (totW_le name ds 25) htot
    have hl25 : (ds.take 25).length ≤ 25 := by rw [List.length_take]; omega
    have Hb1 := Lib.hid hO.bel
    obtain ⟨A1, q1, rfl, hD1⟩ := hO.read
    have hcap : (ds.take 25).length ≤ q1 ∧ (A1 = none → q1 = 0) := by
      obtain ⟨vss, h1, h2, _⟩ := hO.ex
      obtain ⟨A2, q2, e2, _, h3, _, h4, _⟩ := own_shp h2
      injection e2 with e2 _ e3
      subst e2 e3
      exact ⟨h3, fun e => (h4 e).1⟩
    have HD1 := Lib.hid hD1
    have Hcap := Lib.hid hcap
    clear c1 hO hs htot hD1
    generalize ds.take 25 = dx at *
    have hm1 : IntKind.i64.wrap ((dx.length : Int) + 1) = (dx.length : Int) + 1 := IntWalk.i64_in _ (by omega)
    have hm0 : ¬ ((dx.length : Int) + 1 = 0) := by omega
    obtain ⟨kk, hkk⟩ : ∃ kk : Nat, at_.tmod ((dx.length : Int) + 1) = (kk : Int) := ⟨(at_.tmod ((dx.length : Int) + 1)).toNat, by
      have := Int.tmod_nonneg ((dx.length : Int) + 1) ha.1
      omega⟩
    have hk2 : kk ≤ dx.length := by
      have := Int.tmod_lt_of_pos at_ (show (0 : Int) < (dx.length : Int) + 1 by omega)
      omega
    have hk3 : IntKind.i64.wrap (kk : Int) = (kk : Int) := IntWalk.i64_in _ (by omega)
    have hk4 : (kk : Int) ≤ (dx.length : Int) := by omega
    have hk5 : (0 : Int) ≤ (kk : Int) := by omega
    have hk6 : (kk : Int) ≤ (q1 : Int) := by omega
    have hcv : IntKind.i64.wrap at_ = at_ := IntWalk.i64_in _ (by omega)
    cases hN : isN name.data.toList with
    | false =>
      have Ob := Lib.hid (fun A n c w => of_bad name A n c w hname hN)
      clear hN HD1 Hs
      go_wp2_with fail
      refine (Ob.out _ _ _ _).mono ?_
      rintro e w2 ⟨rfl, hb2⟩
      have Hb2 := Lib.hid (Hb1.out.trans (hb2.mono Hb1.out.size))
      clear hb2
      by_cases hq : q1 = kk
      · go_wp2_with fail
        refine (Ob.out _ _ _ _).mono ?_
        rintro e w3 ⟨rfl, hb3⟩
        have Hb3 := Lib.hid (Hb2.out.trans (hb3.mono Hb2.out.size))
        clear hb3
        go_wp2_with fail
        refine (Ob.out _ _ _ _).mono ?_
        rintro e w4 ⟨rfl, hb4⟩
        have Hb4 := Lib.hid (Hb3.out.trans (hb4.mono Hb3.out.size))
        have c5 := awake_any w4
        clear hb4
        go_wp2_with fail
        refine c5.mono ?_
        rintro e w5 ⟨rfl, hb5⟩
        have Hb5 := Lib.hid (Hb4.out.trans (hb5.mono Hb4.out.size))
        clear hb5 c5
        go_wp2
        go_ret
        exact ⟨by first | rfl | simp, Hb5.out⟩
      · go_wp2_with fail
        refine (Ob.out _ _ _ _).mono ?_
        rintro e w3 ⟨rfl, hb3⟩
        have Hb3 := Lib.hid (Hb2.out.trans (hb3.mono Hb2.out.size))
        clear hb3
        go_wp2_with fail
        refine (Ob.out _ _ _ _).mono ?_
        rintro e w4 ⟨rfl, hb4⟩
        have Hb4 := Lib.hid (Hb3.out.trans (hb4.mono Hb3.out.size))
        have c5 := awake_any w4
        clear hb4
        go_wp2_with fail
        refine c5.mono ?_
        rintro e w5 ⟨rfl, hb5⟩
        have Hb5 := Lib.hid (Hb4.out.trans (hb5.mono Hb4.out.size))
        clear hb5 c5
        go_wp2
        go_ret
        exact ⟨by first | rfl | simp, Hb5.out⟩
    | true =>
      have hs1 : ∀ d ∈ dx.take kk, ∀ f ∈ d.fs, f.2.size ≤ 1048576 := fun d hd => Hs.out d (List.mem_of_mem_take hd)
      have hs2 : ∀ d ∈ dx.drop kk, ∀ f ∈ d.fs, f.2.size ≤ 1048576 := fun d hd => Hs.out d (List.mem_of_mem_drop hd)
      have ht1 := Nat.le_trans (totW_le name dx kk) ht25
      have ht2 : totW name (dx.drop kk) ≤ 1048576 := by
        have h : totW name (dx.take kk ++ dx.drop kk) = totW name (dx.take kk) + totW name (dx.drop kk) := by
          unfold totW
          rw [List.map_append, List.sum_append]
        rw [List.take_append_drop] at h
        omega
      have c2 := groupOf_any name A1 kk q1 (dx.take kk) w1 (docs_take HD1.out hk2) (by omega) hs1 ht1 hname hN
      have O3 := Lib.hid (fun (A0 : Option Addr) (c0 : Nat) (w2 : World) (hD : DocsAt w2 w2.heap.size A0 (dx.length - kk) (dx.drop kk)) => groupOf_any name A0 (dx.length - kk) c0 (dx.drop kk) w2 hD (by omega) hs2 ht2 hname hN)
      have O4 := Lib.hid (fun (w2 : World) (hD : DocsAt w2 w2.heap.size A1 dx.length dx) => groupOf_any name A1 dx.length q1 dx w2 hD (by omega) Hs.out ht25 hname hN)
      have Hsp : Hid (totW name (dx.take kk) + totW name (dx.drop kk) = totW name dx) := Lib.hid (by rw [← totW_app, List.take_append_drop])
      have Hs2 := Lib.hid hs2
      clear hs1 hs2
      go_wp2_with fail
      refine c2.mono ?_
      rintro e w2 ⟨a, hTa, hla, va, rfl, hoa, hb2⟩
      obtain ⟨P, p, rfl, hP, hPn, _, hP0, _⟩ := own_shp hoa
      have HP := Lib.hid hP
      have HPc : Hid (a.length ≤ p ∧ (P = none → p = 0)) := Lib.hid ⟨hPn, fun e => (hP0 e).1⟩
      have HTa := Lib.hid hTa
      have HD2 := Lib.hid (HD1.out.grow hb2)
      have Hb2 := Lib.hid (Hb1.out.trans (hb2.mono Hb1.out.size))
      clear c2 hTa hoa hb2 hP hPn hP0 HD1
      by_cases hq : q1 = kk
      · subst hq
        have Hdrop : Hid (dx.drop q1 = []) := Lib.hid (List.drop_eq_nil_of_le (by have := Hcap.out.1; omega))
        have Hdd := Lib.hid (groupOf_any name A1 0 0 (dx.drop q1) w2 (by rw [Hdrop.out]; exact DocsAt.nil) (by omega) Hs2.out ht2 hname hN)
        go_wp2_with fail
        refine (Hdd.out).mono ?_
        rintro e w3 ⟨b, hTb, hlb, vb, rfl, hob, hb3⟩
        obtain ⟨Q, q, rfl, hQ, hQn, _, hQ0, _⟩ := own_shp hob
        have HQ := Lib.hid hQ
        have HQc : Hid (b.length ≤ q ∧ (Q = none → q = 0)) := Lib.hid ⟨hQn, fun e => (hQ0 e).1⟩
        have HTb := Lib.hid hTb
        have HD3 := Lib.hid (HD2.out.grow hb3)
        have HP3 := Lib.hid (rd_grow hb3 HP.out)
        have Hb3 := Lib.hid (Hb2.out.trans (hb3.mono Hb2.out.size))
        clear hTb hob hb3 hQ hQn hQ0 HD2 HP Hdd
        have c4 := O4.out w3 HD3.out
        go_wp2_with fail
        refine c4.mono ?_
        rintro e w4 ⟨cc, hTc, hlc, vc, rfl, hoc, hb4⟩
        obtain ⟨R, r, rfl, hR, _, _, _, _⟩ := own_shp hoc
        have HR := Lib.hid hR
        have HTc := Lib.hid hTc
        have HP4 := Lib.hid (rd_grow hb4 HP3.out)
        have HQ4 := Lib.hid (rd_grow hb4 HQ.out)
        have Hb4 := Lib.hid (Hb3.out.trans (hb4.mono Hb3.out.size))
        clear c4 hTc hoc hb4 hR HP3 HQ HD3
        have hbA : Below w4.heap.size w4 (w4.alloc (.cells #[.slice P a.length p, .slice Q b.length q] 61)) := (Below.refl _ _).alloc (Nat.le_refl _) _
        have oa := row_ok HTa.out (show (dx.take _).length ≤ 1099511627776 by rw [List.length_take]; omega)
        have ob := row_ok HTb.out (show (dx.drop _).length ≤ 1099511627776 by rw [List.length_drop]; omega)
        have hrs : RowsIn (w4.alloc (.cells #[.slice P a.length p, .slice Q b.length q] 61)) (w4.alloc (.cells #[.slice P a.length p, .slice Q b.length q] 61)).heap.size (some ⟨w4.heap.size, 0, none⟩) [⟨P, p, a⟩, ⟨Q, q, b⟩] := by
          refine ⟨?_, fun x hx => ?_⟩
          · rw [World.size_alloc]
            exact rd_blk (Blk.new w4 61 #[.slice P a.length p, .slice Q b.length q]) 2 1 rfl _ rfl
          · simp only [List.mem_cons, List.not_mem_nil, or_false] at hx
            rcases hx with rfl | rfl
            · exact ⟨rd_grow hbA HP4.out, HPc.out⟩
            · exact ⟨rd_grow hbA HQ4.out, HQc.out⟩
        have c5 := merge_any (some ⟨w4.heap.size, 0, none⟩) 2 [⟨P, p, a⟩, ⟨Q, q, b⟩] _ hrs (show (2 : Nat) ≤ 100 by omega) (by
          have h1 := tab_len HTa.out
          have h2 := tab_len HTb.out
          have h3 := Hsp.out
          simp [lensF]; omega) (fun x hx => by
          simp only [List.mem_cons, List.not_mem_nil, or_false] at hx
          rcases hx with rfl | rfl
          · exact fun y hy => Nat.le_trans (okR_w oa y hy) (by omega)
          · exact fun y hy => Nat.le_trans (okR_w ob y hy) (by omega))
        rw [parts_law (show dx.length ≤ 1099511627776 by omega) HTa.out HTb.out HTc.out] at c5
        have HbA := Lib.hid (Hb4.out.trans (hbA.mono Hb4.out.size))
        have HR5 := Lib.hid (rd_grow hbA HR.out)
        clear hbA hrs oa ob HR
        go_wp2_with fail
        refine c5.mono ?_
        rintro e w5 ⟨X, x, rfl, hX, hb5⟩
        have HR6 := Lib.hid (rd_grow hb5 HR5.out)
        have HX := Lib.hid hX
        have Hb5 := Lib.hid (HbA.out.trans (hb5.mono HbA.out.size))
        have e8 : decide (cc = cc) = true := decide_eq_true rfl
        have c6 := gsame_any X R x r _ _ cc cc w5 HX.out HR6.out hlc hlc
        rw [e8] at c6
        clear c5 hX hb5 HR5 e8
        go_wp2_with fail
        refine c6.mono ?_
        rintro e w6 ⟨rfl, hb6⟩
        have Hb6 := Lib.hid (Hb5.out.trans (hb6.mono Hb5.out.size))
        have c7 := awake_any w6
        clear c6 hb6
        go_wp2_with fail
        refine c7.mono ?_
        rintro e w7 ⟨rfl, hb7⟩
        have Hb7 := Lib.hid (Hb6.out.trans (hb7.mono Hb6.out.size))
        clear c7 hb7
        go_wp2
        go_ret
        exact ⟨by first | rfl | simp, Hb7.out⟩
      · have hdd := docs_drop (k := kk) HD2.out hk2 Hcap.out.1
        rw [if_neg hq] at hdd
        have Hdd := Lib.hid (O3.out _ (q1 - kk) _ hdd)
        clear hdd
        go_wp2_with fail
        refine (Hdd.out).mono ?_
        rintro e w3 ⟨b, hTb, hlb, vb, rfl, hob, hb3⟩
        obtain ⟨Q, q, rfl, hQ, hQn, _, hQ0, _⟩ := own_shp hob
        have HQ := Lib.hid hQ
        have HQc : Hid (b.length ≤ q ∧ (Q = none → q = 0)) := Lib.hid ⟨hQn, fun e => (hQ0 e).1⟩
        have HTb := Lib.hid hTb
        have HD3 := Lib.hid (HD2.out.grow hb3)
        have HP3 := Lib.hid (rd_grow hb3 HP.out)
        have Hb3 := Lib.hid (Hb2.out.trans (hb3.mono Hb2.out.size))
        clear hTb hob hb3 hQ hQn hQ0 HD2 HP Hdd
        have c4 := O4.out w3 HD3.out
        go_wp2_with fail
        refine c4.mono ?_
        rintro e w4 ⟨cc, hTc, hlc, vc, rfl, hoc, hb4⟩
        obtain ⟨R, r, rfl, hR, _, _, _, _⟩ := own_shp hoc
        have HR := Lib.hid hR
        have HTc := Lib.hid hTc
        have HP4 := Lib.hid (rd_grow hb4 HP3.out)
        have HQ4 := Lib.hid (rd_grow hb4 HQ.out)
        have Hb4 := Lib.hid (Hb3.out.trans (hb4.mono Hb3.out.size))
        clear c4 hTc hoc hb4 hR HP3 HQ HD3
        have hbA : Below w4.heap.size w4 (w4.alloc (.cells #[.slice P a.length p, .slice Q b.length q] 61)) := (Below.refl _ _).alloc (Nat.le_refl _) _
        have oa := row_ok HTa.out (show (dx.take kk).length ≤ 1099511627776 by rw [List.length_take]; omega)
        have ob := row_ok HTb.out (show (dx.drop kk).length ≤ 1099511627776 by rw [List.length_drop]; omega)
        have hrs : RowsIn (w4.alloc (.cells #[.slice P a.length p, .slice Q b.length q] 61)) (w4.alloc (.cells #[.slice P a.length p, .slice Q b.length q] 61)).heap.size (some ⟨w4.heap.size, 0, none⟩) [⟨P, p, a⟩, ⟨Q, q, b⟩] := by
          refine ⟨?_, fun x hx => ?_⟩
          · rw [World.size_alloc]
            exact rd_blk (Blk.new w4 61 #[.slice P a.length p, .slice Q b.length q]) 2 1 rfl _ rfl
          · simp only [List.mem_cons, List.not_mem_nil, or_false] at hx
            rcases hx with rfl | rfl
            · exact ⟨rd_grow hbA HP4.out, HPc.out⟩
            · exact ⟨rd_grow hbA HQ4.out, HQc.out⟩
        have c5 := merge_any (some ⟨w4.heap.size, 0, none⟩) 2 [⟨P, p, a⟩, ⟨Q, q, b⟩] _ hrs (show (2 : Nat) ≤ 100 by omega) (by
          have h1 := tab_len HTa.out
          have h2 := tab_len HTb.out
          have h3 := Hsp.out
          simp [lensF]; omega) (fun x hx => by
          simp only [List.mem_cons, List.not_mem_nil, or_false] at hx
          rcases hx with rfl | rfl
          · exact fun y hy => Nat.le_trans (okR_w oa y hy) (by omega)
          · exact fun y hy => Nat.le_trans (okR_w ob y hy) (by omega))
        rw [parts_law (show dx.length ≤ 1099511627776 by omega) HTa.out HTb.out HTc.out] at c5
        have HbA := Lib.hid (Hb4.out.trans (hbA.mono Hb4.out.size))
        have HR5 := Lib.hid (rd_grow hbA HR.out)
        clear hbA hrs oa ob HR
        go_wp2_with fail
        refine c5.mono ?_
        rintro e w5 ⟨X, x, rfl, hX, hb5⟩
        have HR6 := Lib.hid (rd_grow hb5 HR5.out)
        have HX := Lib.hid hX
        have Hb5 := Lib.hid (HbA.out.trans (hb5.mono HbA.out.size))
        have e8 : decide (cc = cc) = true := decide_eq_true rfl
        have c6 := gsame_any X R x r _ _ cc cc w5 HX.out HR6.out hlc hlc
        rw [e8] at c6
        clear c5 hX hb5 HR5 e8
        go_wp2_with fail
        refine c6.mono ?_
        rintro e w6 ⟨rfl, hb6⟩
        have Hb6 := Lib.hid (Hb5.out.trans (hb6.mono Hb5.out.size))
        have c7 := awake_any w6
        clear c6 hb6
        go_wp2_with fail
        refine c7.mono ?_
        rintro e w7 ⟨rfl, hb7⟩
        have Hb7 := Lib.hid (Hb6.out.trans (hb7.mono Hb6.out.size))
        clear c7 hb7
        go_wp2
        go_ret
        exact ⟨by first | rfl | simp, Hb7.out⟩
end Go.Proofs.Ytfegkchajkpgfaa.Gr
end
