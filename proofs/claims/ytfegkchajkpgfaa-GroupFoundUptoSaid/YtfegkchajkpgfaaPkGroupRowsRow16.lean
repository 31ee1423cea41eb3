/- Counts of words: plain. No program in sight (but for the cells of a row). -/
import Derived.Deep.Strs
import Derived.Outline
import Derived.BigQuiet
import Derived.Deep.QuietTactic
import Derived.Test.YtfegkchajkpgfaaTokEPk
import Derived.Test.YtfegkchajkpgfaaPkGroupRowsRow2
import Derived.Test.YtfegkchajkpgfaaDocsInPk
section
namespace Go.Proofs.Ytfegkchajkpgfaa.Gr
open Go.RowKit Go.Proofs.Ytfegkchajkpgfaa Go.Proofs.Ytfegkchajkpgfaa.Ut Go.Proofs.Ytfegkchajkpgfaa.Tk
set_option linter.unusedVariables false
set_option linter.unusedSimpArgs false

/-- A word, and how many. -/
abbrev Ct := ByteArray × Int
def ctC (l : List Ct) : List Value := l.flatMap fun c => [.string c.1, .int .i64 c.2]
theorem ctC_len (l : List Ct) : (ctC l).length = l.length * 2 := by
  induction l with
  | nil => rfl
  | cons f fs ih => simp [ctC] at *; omega
theorem ctC_app (l m : List Ct) : ctC (l ++ m) = ctC l ++ ctC m := by simp [ctC]
theorem ctC_snoc (l : List Ct) (c : Ct) : ctC (l ++ [c]) = ctC l ++ [.string c.1, .int .i64 c.2] := by simp [ctC]
theorem ctC_get : ∀ (l : List Ct) (k : Nat) (h : k < l.length), (ctC l)[k * 2]? = some (.string l[k].1) ∧ (ctC l)[k * 2 + 1]? = some (.int .i64 l[k].2)
  | f :: fs, 0, _ => ⟨rfl, rfl⟩
  | f :: fs, k + 1, h => by
    have ih := ctC_get fs k (by simpa using h)
    have e1 : (k + 1) * 2 = k * 2 + 2 := by omega
    have e2 : (k + 1) * 2 + 1 = (k * 2 + 1) + 2 := by omega
    rw [e2, e1]
    exact ih
theorem ctC_one (l : List Ct) : ∀ u ∈ ctC l, u.oneCell' = true := by
  intro u hu
  unfold ctC at hu
  obtain ⟨f, _, hf⟩ := List.mem_flatMap.1 hu
  simp at hf
  rcases hf with rfl | rfl <;> rfl
theorem cts_at {w : World} {B n : Nat} {A : Option Addr} {l : List Ct} (h : Reads w B 2 A n (ctC l)) {k : Nat} (hk : k < l.length) :
    ∃ b o, A = some ⟨b, o, none⟩ ∧ b < B ∧ w.cell? ⟨b, o + k * 2, none⟩ = some (.string l[k].1) ∧ w.cell? ⟨b, o + k * 2 + 1, none⟩ = some (.int .i64 l[k].2) := by
  have hl := h.1
  rw [ctC_len] at hl
  obtain ⟨b, o, e, hb, hc⟩ := h.2 (by omega)
  have g := ctC_get l k hk
  refine ⟨b, o, e, hb, hc _ _ g.1, ?_⟩
  have := hc _ _ g.2
  rwa [← Nat.add_assoc] at this
theorem cts_len {w : World} {B n : Nat} {A : Option Addr} {l : List Ct} (h : Reads w B 2 A n (ctC l)) : l.length = n := by
  have := h.1
  rw [ctC_len] at this
  omega

def cut60 (s : ByteArray) : ByteArray := s.extract 0 60
theorem cut60_size (s : ByteArray) : (cut60 s).size ≤ 60 := by unfold cut60; rw [ByteArray.size_extract]; omega
theorem cut60_few (s : ByteArray) (h : s.size ≤ 60) : cut60 s = s := by
  unfold cut60
  rw [← of_str (s.extract 0 60), Lib.extract_data, List.drop_zero, List.take_of_length_le (by rw [bsize]; omega), of_str]
def shortR (l : List Ct) : List Ct := (l.take 30).map fun c => (cut60 c.1, c.2)
theorem shortR_len (l : List Ct) : (shortR l).length ≤ 30 := by unfold shortR; rw [List.length_map, List.length_take]; omega
theorem shortR_sz (l : List Ct) : ∀ c ∈ shortR l, c.1.size ≤ 60 := by
  intro c hc
  obtain ⟨x, _, rfl⟩ := List.mem_map.1 hc
  exact cut60_size _

/-- What one count must be, the one before it known. -/
def ltS (a b : ByteArray) : Bool := Op.bytesLess a.toList b.toList
def okK (l : List Ct) (k : Nat) : Bool :=
  match l[k]? with
  | none => true
  | some c => isW c.1.data.toList && decide (1 ≤ c.2) && decide (c.2 ≤ 1099511627776) && (decide (k = 0) || (match l[k - 1]? with | none => true | some p => ltS p.1 c.1))
def okR (l : List Ct) : Bool := (List.range l.length).all (okK l)
theorem okR_no {l : List Ct} {k : Nat} (hk : k < l.length) (h : okK l k = false) : okR l = false := by
  unfold okR
  rw [List.all_eq_false]
  exact ⟨k, List.mem_range.2 hk, by rw [h]; decide⟩
theorem okR_yes {l : List Ct} (h : ∀ k, k < l.length → okK l k = true) : okR l = true := by
  unfold okR
  rw [List.all_eq_true]
  exact fun k hk => h k (List.mem_range.1 hk)
theorem okK_eq {l : List Ct} {k : Nat} (hk : k < l.length) : okK l k = (isW l[k].1.data.toList && decide (1 ≤ l[k].2) && decide (l[k].2 ≤ 1099511627776) && (decide (k = 0) || ltS (l[k - 1]'(by omega)).1 l[k].1)) := by
  unfold okK
  rw [List.getElem?_eq_getElem hk, List.getElem?_eq_getElem (show k - 1 < l.length by omega)]

/-- The sum, as a machine makes it. -/
def totR (l : List Ct) : Int := l.foldl (fun n c => IntKind.i64.wrap (n + c.2)) 0
theorem totR_snoc (l : List Ct) (k : Nat) (h : k < l.length) : totR (l.take (k + 1)) = IntKind.i64.wrap (totR (l.take k) + l[k].2) := by
  unfold totR
  rw [List.take_succ_eq_append_getElem h, List.foldl_append]
  rfl

/-- A row of the call's own. -/
def CtPost (ty : TypeId) (w : World) (l : List Ct) (e : Ending) (w' : World) : Prop := ∃ v, e = .returned v ∧ w'.ownsRow w.heap.size ty 2 v l.length (ctC l) ∧ Below w.heap.size w w'
/-- The same, on the way. -/
structure Cts (ty : TypeId) (w wr : World) (v : Value) (l : List Ct) : Prop where
  own : wr.ownsRow w.heap.size ty 2 v l.length (ctC l)
  bel : Below w.heap.size w wr
theorem Cts.start (ty : TypeId) (w : World) : Cts ty w w (.slice none 0 0) [] := ⟨World.ownsRow_nil _ _ _ _, Below.refl _ _⟩
theorem Cts.below {ty : TypeId} {w wr w2 : World} {v : Value} {l : List Ct} (h : Cts ty w wr v l) (hb : Below wr.heap.size wr w2) : Cts ty w w2 v l := ⟨h.own.kept (grow_of_below hb none) (by cases hv : v.ownBlock <;> simp), h.bel.trans (hb.mono h.bel.size)⟩
theorem Cts.put {ty : TypeId} {w wr w2 : World} {v v' : Value} {l : List Ct} {x : Ct} (h : Cts ty w wr v l)
    (hp : w2.ownsRow w.heap.size ty 2 v' (l.length + 1) (ctC l ++ [.string x.1, .int .i64 x.2])) (hg : wr.grownBy w2 v.ownBlock) : Cts ty w w2 v' (l ++ [x]) := by
  refine ⟨?_, h.bel.grown hg h.bel.size (fun k hk => (h.own.lt k hk).1)⟩
  rw [ctC_snoc, List.length_append]
  exact hp
theorem rcount_info : (Try.prog.info? 119).map (fun i => (i.zero, i.size, i.bytes)) = some (some (.agg #[.string ByteArray.empty, .int .i64 0]), 2, 24) := by kernel_rfl
theorem gcount_info : (Try.prog.info? 81).map (fun i => (i.zero, i.size, i.bytes)) = some (some (.agg #[.string ByteArray.empty, .int .i64 0]), 2, 24) := by kernel_rfl
end Go.Proofs.Ytfegkchajkpgfaa.Gr
end

section
/- A row of counts that came in, opened. -/
namespace Go.Proofs.Ytfegkchajkpgfaa.Gr
set_option maxRecDepth 20000
set_option linter.unusedSimpArgs false
set_option linter.unusedVariables false
open Go.RowKit Go.ChangeShapes Go.WideShapes Go.ChangeAt Go.Deep Go.Joins Go.Proofs.Ytfegkchajkpgfaa Go.Proofs.Ytfegkchajkpgfaa.Qy Go.Proofs.Ytfegkchajkpgfaa.Ut
section
variable {H : Type} {enc : TypeId × Value → H} {W : World} {base : Nat}
theorem count_cells : Try.prog.cellsOf 119 = 2 := by kernel_rfl
theorem count_bytes : Try.prog.bytesOf 119 = 24 := by kernel_rfl
theorem str_cells : Try.prog.cellsOf 9 = 1 := by kernel_rfl
theorem counts_in {v : Value} {d : DataW H} {p : List MemPlace} (hv : Value.okWide Try.prog W .any base 59 v) (h : DataW.Trod enc Try.prog W 0 (fun _ => true) true 59 v d p) (hw : ∀ n ∈ d.weights Try.prog 59, n ≤ 140737488351232) :
    ∃ (A : Option Addr) (n c : Nat) (l : List Ct), v = .slice A n c ∧ Reads W W.heap.size 2 A n (ctC l) ∧ n ≤ 8796093021952 ∧ ∀ x ∈ l, x.1.size ≤ 140737488351232 := by
  obtain ⟨A0, n0, c0, rfl⟩ := okWide_slice Try.underlying59 hv
  obtain ⟨fuel, hf⟩ := h
  have hf : DataW.trod enc Try.prog W 0 (fun _ => true) true fuel 59 [.slice A0 n0 c0] = some (d, p) := by simpa [Value.cells] using hf
  obtain ⟨A, len, cap, vss, ds, spare, e, hl, hvl, h2, hR, hd, hx, hall⟩ := slice_at Try.underlying59 count_cells (by omega) hf
  injection e with ea el ec
  subst ea el ec
  have each : ∀ i : Nat, ∃ f : Ct, ∀ (h1 : i < vss.length) (h2 : i < ds.length), vss[i] = [.string f.1, .int .i64 f.2] ∧ ds[i] = .agg [.lit (.string f.1.data.toList), .lit (.int .i64 f.2)] := fun i => by
    by_cases hi : i < vss.length ∧ i < ds.length
    · obtain ⟨n, y, g1, g2⟩ := hall i hi.1 hi.2
      obtain ⟨y0, y1, n', rfl, hlen, t0, t1⟩ := trod_struct2 Try.underlying119 g1
      have hvl := h2 _ (List.getElem_mem hi.1)
      obtain ⟨u0, u1, hu⟩ := len_two hvl
      rw [hu] at t0 t1
      simp only [str_cells, int_cells, List.drop_zero, List.drop_succ_cons, List.take_succ_cons, List.take_zero] at t0 t1
      obtain ⟨s0, e0, rfl, _⟩ := DataW.trod_string Try.underlying9 t0
      obtain ⟨s1, e1, rfl, _⟩ := DataW.trod_int Try.underlying3 t1
      simp only [List.cons.injEq, and_true] at e0 e1
      subst e0 e1
      exact ⟨(s0, s1), fun _ _ => ⟨hu, g2.symm⟩⟩
    · exact ⟨(ByteArray.empty, 0), fun h1 h2 => absurd ⟨h1, h2⟩ hi⟩
  obtain ⟨f, hf'⟩ := Classical.skolem.1 each
  have hlen : ((List.range n0).map f).length = n0 := by simp
  have e : vss.flatten = ctC ((List.range n0).map f) := by
    apply List.ext_getElem?
    intro j
    by_cases hj : j < n0 * 2
    · have hi : j / 2 < vss.length := by omega
      have hg := ctC_get ((List.range n0).map f) (j / 2) (by rw [hlen]; omega)
      have hfi := (hf' (j / 2) hi (by omega)).1
      have hget : ((List.range n0).map f)[j / 2]'(by rw [hlen]; omega) = f (j / 2) := by simp
      rw [hget] at hg
      rcases Nat.mod_two_eq_zero_or_one j with e0 | e1
      · have h0 := flat_get h2 (j / 2) 0 hi (by omega)
        have e : j = j / 2 * 2 := by omega
        rw [hfi, Nat.add_zero] at h0
        rw [e, h0, hg.1]
        rfl
      · have h0 := flat_get h2 (j / 2) 1 hi (by omega)
        have e : j = j / 2 * 2 + 1 := by omega
        rw [hfi] at h0
        rw [e, h0, hg.2]
        rfl
    · rw [List.getElem?_eq_none (by rw [flat_len h2]; omega), List.getElem?_eq_none (by rw [ctC_len, hlen]; omega)]
  rw [e] at hR
  have hbd : n0 ≤ 8796093021952 ∧ ∀ i, i < n0 → (f i).1.size ≤ 140737488351232 := by
    rcases hx with hx | ⟨h0, _⟩
    · have hx : d = .slice ds spare := hx
      rw [hx] at hw
      have h3 := weights_len Try.underlying59 hw
      rw [count_bytes] at h3
      refine ⟨by omega, fun i hi => ?_⟩
      have hm : ds[i]'(by omega) ∈ ds := List.getElem_mem _
      have h4 := weights_elem Try.underlying59 hw hm
      rw [(hf' i (by omega) (by omega)).2] at h4
      have g0 := weights_part (j := 0) Try.underlying119 h4 rfl rfl (f i).1.data.toList.length (by simp [DataW.weights])
      rw [bsize] at g0
      exact g0
    · exact ⟨by omega, fun i hi => by omega⟩
  exact ⟨_, n0, c0, _, rfl, hR, hbd.1, fun s hs => by
    obtain ⟨i, hi, rfl⟩ := List.mem_map.1 hs
    exact hbd.2 i (by simpa using hi)⟩
end
end Go.Proofs.Ytfegkchajkpgfaa.Gr
end

section
/- loggialaw30.short, of; Total, twice: the walks. -/
namespace Go.Proofs.Ytfegkchajkpgfaa.Gr
open Go.RowKit Go.Proofs.Ytfegkchajkpgfaa Go.Proofs.Ytfegkchajkpgfaa.Ut Go.Proofs.Ytfegkchajkpgfaa.Tk
set_option linter.unusedVariables false
set_option maxRecDepth 20000
set_option linter.unusedSimpArgs false

set_option maxHeartbeats 1600000 in
theorem short_any (A : Option Addr) (n c : Nat) (l : List Ct) (w : World) (hR : Reads w w.heap.size 2 A n (ctC l)) (hn : n ≤ 8796093021952) (hs : ∀ x ∈ l, x.1.size ≤ 140737488351232) :
    Calls Try.prog 22 #[.slice A n c] w (CtPost 119 w (shortR l)) := by
  obtain ⟨i0, hi0, hz0, hz1, hz2⟩ := info_parts rcount_info
  have hl := cts_len hR
  have HR := Lib.hid hR
  have Hl := Lib.hid hl
  have Hs := Lib.hid hs
  have HS0 := Lib.hid (Cts.start 119 w)
  have he : ∀ k, k ≤ n → k ≤ 30 → (k < n → k = 30) → (l.take k).map (fun c => ((cut60 c.1, c.2) : Ct)) = shortR l := fun k h1 h30 h2 => by
    unfold shortR
    by_cases h : k < n
    · rw [h2 h]
    · rw [List.take_of_length_le (by omega), List.take_of_length_le (by omega)]
  have He := Lib.hid he
  clear hR hl hs he
  go_enter Try.func22, Try.ntmps22
  go_wp2_with fail
  go_loopw [3, 4] (fun v i wr => ∃ k : Nat, k ≤ n ∧ k ≤ 30 ∧ i = .int .i64 (k : Nat) ∧ Cts 119 w wr v ((l.take k).map fun c => (cut60 c.1, c.2))) (fun _ i _ => n - (intOf i).toNat)
  case atStart => exact ⟨0, Nat.zero_le _, by omega, rfl, HS0.out⟩
  case round =>
    obtain ⟨k, hk, hk30, rfl, hT⟩ := hrel
    by_cases hlt : k < n ∧ k < 30
    · obtain ⟨hlt, hl30⟩ := hlt
      have hki : (k : Int) < (n : Int) := by omega
      have hki0 : (0 : Int) ≤ (k : Int) := by omega
      have hk30i : (k : Int) < 30 := by omega
      have hkl : k < l.length := by rw [Hl.out]; exact hlt
      obtain ⟨tb, tq, rfl, htb, hd1, hd2⟩ := cts_at HR.out hkl
      have hc1 := (hT.bel.cell (p := ⟨tb, tq + k * 2, none⟩) htb).trans hd1
      have hc2 := (hT.bel.cell (p := ⟨tb, tq + k * 2 + 1, none⟩) htb).trans hd2
      have hts : (l.take (k + 1)).map (fun c => ((cut60 c.1, c.2) : Ct)) = (l.take k).map (fun c => ((cut60 c.1, c.2) : Ct)) ++ [(cut60 l[k].1, l[k].2)] := by rw [List.take_succ_eq_append_getElem hkl, List.map_append]; rfl
      have Hts := Lib.hid hts
      have hsz := Hs.out _ (List.getElem_mem hkl)
      have hlen : ((l.take k).map (fun c => ((cut60 c.1, c.2) : Ct))).length ≤ 30 := by rw [List.length_map, List.length_take]; omega
      have hcr : 60 < l[k].1.size → l[k].1.extract 0 60 = cut60 l[k].1 := fun _ => rfl
      have hcf : ¬ 60 < l[k].1.size → l[k].1 = cut60 l[k].1 := fun h => (cut60_few _ (by omega)).symm
      have hown := hT.own
      have hbs := hT.bel.size
      have HT := Lib.hid hT
      clear hd1 hd2 hts hT He
      generalize cut60 l[k].1 = r at *
      generalize l[k].1 = x at *
      generalize l[k].2 = y at *
      generalize (l.take k).map (fun c => ((cut60 c.1, c.2) : Ct)) = P at *
      have fin : ∀ v' w5, w5.ownsRow w.heap.size 119 2 v' (P.length + 1) (ctC P ++ [.string r, .int .i64 y]) → ((wr.alloc (.cells #[.string r, .int .i64 y] 119)).alloc (.cells #[.string r, .int .i64 y] 119)).grownBy w5 u3.ownBlock → Cts 119 w w5 v' (P ++ [(r, y)]) :=
        fun v' w5 h1 h2 => Cts.put (x := (r, y)) (HT.out.below (((Below.refl _ _).alloc (Nat.le_refl _) _).alloc (by simp) _)) h1 h2
      have Fin := Lib.hid fin
      clear fin
      by_cases h60 : 60 < x.size
      · have h60' : (60 : Int) < (x.size : Int) := by omega
        have hcr := hcr h60
        clear hcf
        go_wp2_with (at_builtin; refine wpList_append_own _ rfl _ _ 59 rfl w.heap.size 119 i0 _ 2 24 Try.underlying59 hi0 hz0 hz1 hz2 rfl (by decide) _ _ _ rfl ((hown.alloc _).alloc _) ⟨wr.heap.size + 1, 0, none⟩ 1 1 [.string r, .int .i64 y] rfl rfl ?d1 ?d2 ?d3 ?d4 ?d5 ?_)
        case d1 => exact World.news_of_block (cs := #[.string r, .int .i64 y]) (t := 119) (fr := (0, 0)) (new2 wr _ _)
        case d2 => intro u hu; simp at hu; rcases hu with rfl | rfl <;> rfl
        case d3 => unfold maxLen; omega
        case d4 => omega
        case d5 => simp; omega
        intro v' w5 hown5 hg5 _
        have FinA := Lib.hid (Fin.out v' w5 hown5 hg5)
        clear hown5 hg5 hown
        go_wp2
        go_roundw
        case rel => exact ⟨k + 1, by omega, by omega, by go_num, by rw [Hts.out]; exact FinA.out⟩
        case measure => simp [intOf]; omega
      · have h60' : (x.size : Int) ≤ (60 : Int) := by omega
        obtain rfl := hcf h60
        clear hcr hcf
        go_wp2_with (at_builtin; refine wpList_append_own _ rfl _ _ 59 rfl w.heap.size 119 i0 _ 2 24 Try.underlying59 hi0 hz0 hz1 hz2 rfl (by decide) _ _ _ rfl ((hown.alloc _).alloc _) ⟨wr.heap.size + 1, 0, none⟩ 1 1 [.string x, .int .i64 y] rfl rfl ?d1 ?d2 ?d3 ?d4 ?d5 ?_)
        case d1 => exact World.news_of_block (cs := #[.string x, .int .i64 y]) (t := 119) (fr := (0, 0)) (new2 wr _ _)
        case d2 => intro u hu; simp at hu; rcases hu with rfl | rfl <;> rfl
        case d3 => unfold maxLen; omega
        case d4 => omega
        case d5 => simp; omega
        intro v' w5 hown5 hg5 _
        have FinA := Lib.hid (Fin.out v' w5 hown5 hg5)
        clear hown5 hg5 hown
        go_wp2
        go_roundw
        case rel => exact ⟨k + 1, by omega, by omega, by go_num, by rw [Hts.out]; exact FinA.out⟩
        case measure => simp [intOf]; omega
    · have hx := He.out k hk hk30 (fun h => by omega)
      rw [hx] at hT
      have HT := Lib.hid hT
      clear hT hx
      by_cases hkn : k < n
      · have h1 : (k : Int) < (n : Int) := by omega
        have h2 : (30 : Int) ≤ (k : Int) := by omega
        go_wp2
        go_ret
        exact ⟨_, rfl, HT.out.own, HT.out.bel⟩
      · have h1 : (n : Int) ≤ (k : Int) := by omega
        go_wp2
        go_ret
        exact ⟨_, rfl, HT.out.own, HT.out.bel⟩
end Go.Proofs.Ytfegkchajkpgfaa.Gr
end
