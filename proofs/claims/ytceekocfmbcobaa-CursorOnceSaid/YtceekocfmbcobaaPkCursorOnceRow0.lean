/- Docs told once each: plain words. No program. -/
import Derived.Maps.AppendAt
import Derived.Test.YtceekocfmbcobaaPkCursorFollowsRow14
import Derived.Test.YtceekocfmbcobaaPkCursorFollowsRow34
import Derived.Test.YtceekocfmbcobaaGrowTPk
section
namespace Go.Proofs.Ytceekocfmbcobaa.Cu
open Go.RowKit Go.Proofs.Ytceekocfmbcobaa Go.Proofs.Ytceekocfmbcobaa.Qy
set_option linter.unusedSimpArgs false

/-- Docs that rise by their numbers. -/
def Rise (ds : List Dc) : Prop := ds.Pairwise (fun a b => a.seq < b.seq)
theorem sel_cons (a k : Int) (d : Dc) (t : List Dc) : sel a k (d :: t) = if a < d.seq ∧ d.seq ≤ k then d :: sel a k t else sel a k t := by
  unfold sel
  rw [List.filter_cons]
  by_cases h : a < d.seq ∧ d.seq ≤ k
  · rw [if_pos h, if_pos (by simpa using h)]
  · rw [if_neg h, if_neg (by simpa using h)]
theorem sel_nil_of {a k : Int} {ds : List Dc} (h : ∀ d ∈ ds, k < d.seq ∨ d.seq ≤ a) : sel a k ds = [] := by
  unfold sel
  rw [List.filter_eq_nil_iff]
  intro d hd
  have := h d hd
  simp
  omega
theorem sel_empty {a k : Int} (ds : List Dc) (h : k ≤ a) : sel a k ds = [] := sel_nil_of fun d _ => by omega
theorem sel_split {f c k : Int} (h1 : f ≤ c) (h2 : c ≤ k) : ∀ {ds : List Dc}, Rise ds → sel f c ds ++ sel c k ds = sel f k ds
  | [], _ => rfl
  | d :: t, hr => by
    obtain ⟨hd, ht⟩ := List.pairwise_cons.1 hr
    have ih := sel_split (ds := t) h1 h2 ht
    rw [sel_cons, sel_cons, sel_cons]
    by_cases hc : d.seq ≤ c
    · rw [if_neg (by omega : ¬ (c < d.seq ∧ d.seq ≤ k))]
      by_cases hf : f < d.seq
      · rw [if_pos ⟨hf, hc⟩, if_pos ⟨hf, by omega⟩, List.cons_append, ih]
      · rw [if_neg (by omega), if_neg (by omega), ih]
    · have e : sel f c t = [] := sel_nil_of fun x hx => by have := hd x hx; omega
      rw [e] at ih ⊢
      rw [if_neg (by omega : ¬ (f < d.seq ∧ d.seq ≤ c)), List.nil_append]
      rw [List.nil_append] at ih
      rw [ih]
      by_cases hk : d.seq ≤ k
      · rw [if_pos ⟨by omega, hk⟩, if_pos ⟨by omega, hk⟩]
      · rw [if_neg (by omega), if_neg (by omega)]
theorem sel_rise {a k : Int} {ds : List Dc} (h : Rise ds) : Rise (sel a k ds) := List.Pairwise.filter _ h
theorem sel_mem {a k : Int} {ds : List Dc} {d : Dc} (h : d ∈ sel a k ds) : a < d.seq ∧ d.seq ≤ k := by
  have := (List.mem_filter.1 h).2
  simpa using this
theorem lastP_ge (a : Int) (out : List Dc) : a ≤ lastP a out ∧ ∀ d ∈ out, d.seq ≤ lastP a out := by
  unfold lastP
  induction out generalizing a with
  | nil => exact ⟨Int.le_refl _, fun d hd => by cases hd⟩
  | cons x t ih =>
    obtain ⟨h1, h2⟩ := ih (max a x.seq)
    refine ⟨by simp only [List.foldl_cons]; omega, fun d hd => ?_⟩
    simp only [List.foldl_cons]
    rcases List.mem_cons.1 hd with rfl | hd
    · omega
    · exact h2 d hd
theorem lastP_of (a : Int) (out : List Dc) : lastP a out = a ∨ ∃ d ∈ out, lastP a out = d.seq := by
  unfold lastP
  induction out generalizing a with
  | nil => exact .inl rfl
  | cons x t ih =>
    simp only [List.foldl_cons]
    rcases ih (max a x.seq) with h | ⟨d, hd, h⟩
    · rcases Int.le_total a x.seq with hx | hx
      · right; exact ⟨x, List.mem_cons_self, by rw [h]; omega⟩
      · left; rw [h]; omega
    · right; exact ⟨d, List.mem_cons_of_mem _ hd, h⟩
/-- What is told by a look, that tells as many as asked for. -/
theorem sel_taken {c k : Int} {ds : List Dc} (hr : Rise ds) (n : Nat) (h0 : 0 < n) (hn : n ≤ (sel c k ds).length) :
    (sel c k ds).take n = sel c (lastP c ((sel c k ds).take n)) ds ∧ c ≤ lastP c ((sel c k ds).take n) ∧ lastP c ((sel c k ds).take n) ≤ k := by
  have hs := sel_rise (a := c) (k := k) hr
  have e : (sel c k ds).take n ++ (sel c k ds).drop n = sel c k ds := List.take_append_drop n _
  have hne : (sel c k ds).take n ≠ [] := by
    intro h
    have := congrArg List.length h
    rw [List.length_take, List.length_nil] at this
    omega
  have hmem : ∀ d ∈ (sel c k ds).take n, c < d.seq ∧ d.seq ≤ k := fun d hd => sel_mem (List.mem_of_mem_take hd)
  generalize hout : (sel c k ds).take n = out at *
  generalize hrest : (sel c k ds).drop n = rest at *
  obtain ⟨g1, g2⟩ := lastP_ge c out
  have hlast : ∃ d ∈ out, lastP c out = d.seq := by
    rcases lastP_of c out with h | h
    · obtain ⟨d, hd⟩ := List.exists_mem_of_ne_nil _ hne
      have := g2 d hd
      have := (hmem d hd).1
      omega
    · exact h
  obtain ⟨x, hx, hxe⟩ := hlast
  have hxk := (hmem x hx).2
  rw [← e] at hs
  have hcross := (List.pairwise_append.1 hs).2.2
  generalize lastP c out = last at *
  refine ⟨?_, g1, by omega⟩
  have e1 : sel c last ds = (sel c k ds).filter (fun d => decide (d.seq ≤ last)) := by
    unfold sel
    rw [List.filter_filter]
    apply List.filter_congr
    intro d _
    rw [Bool.eq_iff_iff]
    simp
    omega
  rw [e1, ← e, List.filter_append]
  have e2 : out.filter (fun d => decide (d.seq ≤ last)) = out := List.filter_eq_self.2 fun d hd => by simpa using g2 d hd
  have e3 : rest.filter (fun d => decide (d.seq ≤ last)) = [] := List.filter_eq_nil_iff.2 fun d hd => by
    have := hcross x hx d hd
    simp
    omega
  rw [e2, e3, List.append_nil]
/-- A look goes on where the last one stood. -/
theorem fol_step {f c k l : Int} {ds : List Dc} (hr : Rise ds) (hf : f ≤ c) (hl : 1 ≤ l) :
    sel f c ds ++ (folP c k l ds).1 = sel f (folP c k l ds).2 ds ∧ c ≤ (folP c k l ds).2 ∧ (folP c k l ds).2 ≤ max c k ∧ (((folP c k l ds).1.length : Int) < l → (folP c k l ds).2 = max c k) ∧ ((folP c k l ds).1.length : Int) ≤ l := by
  unfold folP
  rw [if_neg (by omega)]
  dsimp only
  have hlen : ((outP c k l ds).length : Int) ≤ l := by unfold outP; rw [List.length_take]; omega
  by_cases h : ((outP c k l ds).length : Int) < l
  · rw [if_pos h]
    have e : outP c k l ds = sel c k ds := by
      unfold outP at h ⊢
      rw [List.length_take] at h
      exact List.take_of_length_le (by omega)
    refine ⟨?_, by omega, by omega, fun _ => rfl, hlen⟩
    rw [e]
    rcases Int.le_total c k with hk | hk
    · rw [show max c k = k by omega]
      exact sel_split hf hk hr
    · rw [show max c k = c by omega, sel_empty ds hk, List.append_nil]
  · rw [if_neg h]
    have hn : l.toNat ≤ (sel c k ds).length := by
      unfold outP at h
      rw [List.length_take] at h
      omega
    obtain ⟨h1, h2, h3⟩ := sel_taken (k := k) hr l.toNat (by omega) hn
    have e : outP c k l ds = (sel c k ds).take l.toNat := rfl
    rw [← e] at h1 h2 h3
    refine ⟨?_, h2, by omega, fun h' => absurd h' h, hlen⟩
    conv => lhs; rw [h1]
    exact sel_split hf h2 hr
/-- In the end all is told. -/
theorem told_all {f c k : Int} (ds : List Dc) (hc : c ≤ max f k) : sel f (max c k) ds = sel f k ds := by
  by_cases h : c ≤ k
  · rw [show max c k = k by omega]
  · rw [show max c k = c by omega, sel_empty ds (show c ≤ f by omega), sel_empty ds (show k ≤ f by omega)]
/-- The docs of gaps: the last number, and the docs. -/
def mkD (g : List UInt8) : Int × List Dc := g.foldl (fun p x => (p.1 + (1 + (x.toNat : Int) % 3), p.2 ++ [⟨p.1 + (1 + (x.toNat : Int) % 3), 0, []⟩])) (0, [])
theorem mkD_snoc (g : List UInt8) (x : UInt8) : mkD (g ++ [x]) = ((mkD g).1 + (1 + (x.toNat : Int) % 3), (mkD g).2 ++ [⟨(mkD g).1 + (1 + (x.toNat : Int) % 3), 0, []⟩]) := by
  unfold mkD; rw [List.foldl_append]; rfl
theorem mkD_ok : ∀ (n : Nat) (g : List UInt8), g.length = n → Rise (mkD g).2 ∧ (∀ d ∈ (mkD g).2, d.seq ≤ (mkD g).1 ∧ d.fs = []) ∧ (mkD g).2.length = n ∧ 0 ≤ (mkD g).1 ∧ (mkD g).1 ≤ 3 * n
  | 0, g, h => by
    obtain rfl := List.eq_nil_of_length_eq_zero h
    exact ⟨List.Pairwise.nil, fun d hd => by simp [mkD] at hd, rfl, Int.le_refl _, by simp [mkD]⟩
  | n + 1, g, h => by
    obtain ⟨m, x, rfl⟩ : ∃ m x, g = m ++ [x] := ⟨g.dropLast, g.getLast (by intro e; rw [e] at h; simp at h), (List.dropLast_concat_getLast _).symm⟩
    obtain ⟨h1, h2, h3, h4, h5⟩ := mkD_ok n m (by simpa using h)
    rw [mkD_snoc]
    dsimp only
    have hx : 0 ≤ (x.toNat : Int) % 3 ∧ (x.toNat : Int) % 3 < 3 := by omega
    refine ⟨?_, ?_, by rw [List.length_append, h3]; rfl, by omega, by omega⟩
    · refine List.pairwise_append.2 ⟨h1, List.pairwise_singleton _ _, fun a ha b hb => ?_⟩
      obtain rfl := List.mem_singleton.1 hb
      have := (h2 a ha).1
      dsimp only
      omega
    · intro d hd
      rcases List.mem_append.1 hd with hd | hd
      · have := h2 d hd
        exact ⟨by omega, this.2⟩
      · obtain rfl := List.mem_singleton.1 hd
        exact ⟨Int.le_refl _, rfl⟩
end Go.Proofs.Ytceekocfmbcobaa.Cu
end

section
/- Docs appended to docs; docs without fields. -/
namespace Go.Proofs.Ytceekocfmbcobaa.Cu
open Go.RowKit Go.Proofs.Ytceekocfmbcobaa Go.Proofs.Ytceekocfmbcobaa.Qy Go.Proofs.Ytceekocfmbcobaa.Ph
set_option linter.unusedSimpArgs false

section
variable {w wr w2 : World} {v v' : Value} {ds es : List Dc}
/-- Docs behind docs. -/
theorem docs_puts {vss2 : List (List Value)} {xs : List Value} (h : DocsOwn w wr v ds) (hx : ∃ vss : List (List Value), vss.length = ds.length ∧ wr.ownsRow w.heap.size 71 3 v ds.length vss.flatten ∧ (∀ i (h : i < ds.length) (h' : i < vss.length), DcV wr wr.heap.size ds[i] vss[i] ∧ Far wr w.heap.size vss[i]) ∧ xs = vss.flatten)
    (hv2 : vss2.length = es.length) (hp : w2.ownsRow w.heap.size 71 3 v' (ds.length + es.length) (xs ++ vss2.flatten)) (hg : wr.grownBy w2 v.ownBlock) (hd : ∀ i (h : i < es.length) (h' : i < vss2.length), DcV wr wr.heap.size es[i] vss2[i] ∧ Far wr w.heap.size vss2[i]) : DocsOwn w w2 v' (ds ++ es) := by
  obtain ⟨vss, h1, h2, h3, rfl⟩ := hx
  have hown := own_block h2
  have hr : ∀ b, v.ownBlock = some b → w.heap.size ≤ b ∧ ∀ cs fr, wr.heap[b]? ≠ some (.cells cs 107 fr) := fun b hb => by
    obtain ⟨h4, cur, h5⟩ := hown b hb
    refine ⟨h4, fun cs fr e => ?_⟩
    rw [h5] at e
    injection e with e
    injection e with _ e
    exact absurd e (by decide)
  have keep : ∀ (d : Dc) (u : List Value), DcV wr wr.heap.size d u → Far wr w.heap.size u → DcV w2 w2.heap.size d u := fun d u hd hf => by
    obtain ⟨F, fn, fc, rfl, g1, g2, g3, g4⟩ := hd
    refine ⟨F, fn, fc, rfl, (g1.grown hg (Nat.le_refl _) ?_).more hg.size, g2, g3, g4⟩
    intro b o e hn er
    obtain ⟨b', o', e', h4⟩ := hf F fn fc rfl hn
    rw [e] at e'
    injection e' with e'
    injection e' with e1 e2
    subst e1
    obtain ⟨h5, h6⟩ := hr b er.symm
    rcases h4 with h4 | ⟨cs, fr, h4⟩
    · omega
    · exact h6 cs fr h4
  refine ⟨⟨vss ++ vss2, by simp [h1, hv2], ?_, fun i a b => ?_⟩, h.bel.grown hg h.bel.size (fun k hk => (hr k hk).1)⟩
  · rw [List.flatten_append, List.length_append]
    exact hp
  · by_cases hi : i < ds.length
    · rw [List.getElem_append_left hi, List.getElem_append_left (by omega)]
      have := h3 i hi (by omega)
      exact ⟨keep _ _ this.1 this.2, this.2.grown hg hr⟩
    · have hi2 : i - ds.length < es.length := by rw [List.length_append] at a; omega
      have := hd (i - ds.length) hi2 (by omega)
      rw [List.getElem_append_right (by omega), List.getElem_append_right (by omega)]
      simp only [h1]
      exact ⟨keep _ _ this.1 this.2, this.2.grown hg hr⟩
theorem far_nil {d : Dc} {B base : Nat} {u : List Value} (h : DcV wr B d u) (hf : d.fs = []) : Far wr base u := by
  obtain ⟨F, fn, fc, rfl, hR, hl, _⟩ := h
  intro F' fn' fc' hv hn
  simp only [List.getElem?_cons_succ, List.getElem?_cons_zero, Option.some.injEq, Value.slice.injEq] at hv
  obtain ⟨rfl, rfl, rfl⟩ := hv
  rw [hf] at hl
  simp at hl
  omega
end
section
variable {P : Program} {o : Oper} {a : Act} {w : World} {R : Value → World → Prop}
/-- An append of a row that is read, or of nil, to a row of the call's own, inside a region that draws its order. -/
theorem give_append_reads (s x : Operand) (t : TypeId) (ho : o.op = .call { callee := .builtin .append, args := #[s, x], argTypes := #[t, t] })
    (base : Nat) (e : TypeId) (i : TypeInfo) (z : Value) (size bytes : Nat) (ht : P.underlying t = some (.slice e)) (hi : P.info? e = some i) (hz : i.zero = some z)
    (hsize : i.size = size) (hby : i.bytes = bytes) (hzs : z.cells.size = size) (hsz : 0 < size)
    (v : Value) (n : Nat) (xs : List Value) (hs : a.eval s = v) (hown : w.ownsRow base e size v n xs)
    {Bd : Nat} (A : Option Addr) (m c : Nat) (news : List Value) (hx : a.eval x = .slice A m c) (hR : Reads w Bd size A m news) (hnil : A = none → c = 0) (h1 : ∀ u ∈ news, u.oneCell' = true)
    (h63 : n + m ≤ maxLen) (hbytes : (n + m) * bytes ≤ 140737488355328) (hbase : base ≤ w.heap.size)
    (h : ∀ v' w', w'.ownsRow base e size v' (n + m) (xs ++ news) → w.grownBy w' v.ownBlock → R v' w') : growUpon P Tr w R ((execOp a.eval o).run P w) := by
  cases A with
  | none =>
    have hm : m = 0 := by
      rcases Nat.eq_zero_or_pos m with h | h
      · exact h
      · obtain ⟨b, o, e, _⟩ := hR.2 h
        cases e
    subst hm
    obtain rfl := hnil rfl
    obtain rfl : news = [] := List.eq_nil_of_length_eq_zero (by have := hR.1; omega)
    have hr := run_append_owned_none (P := P) (w := w) base t o.type e i size ht hi v n xs hown
    unfold execOp
    simp only [ho, resolve, invoke, builtin, Sem.run_bind, Sem.run_pure, Result.andThen_ok, List.map_toArray, List.map_cons, List.map_nil, hs, hx, hr]
    exact ⟨trivial, h v w (by simpa using hown) (World.grownBy.refl w _)⟩
  | some ad =>
    refine give_append s x t ho base e i z size bytes ht hi hz hsize hby hzs hsz v n xs hs hown ad m c news hx hR.1 (fun j u hu => ?_) h1 h63 hbytes hbase h
    have hp : 0 < m := by
      have := (List.getElem?_eq_some_iff.1 hu).1
      have := hR.1
      rcases Nat.eq_zero_or_pos m with h | h
      · subst h; omega
      · exact h
    obtain ⟨b, o', e', _, hc⟩ := hR.2 hp
    injection e' with e'
    subst e'
    rw [Addr.add_lit]
    exact hc j u hu
end
/-- What has been told, beside the cursor. -/
structure Onc (w wr : World) (c : Int) (q : ByteArray) (v : Value) (told : List Dc) : Prop where
  box : Blk wr w.heap.size 45 #[.int .i64 c, .string q]
  own : DocsOwn w wr v told
section
variable {w wr w2 : World} {c b : Int} {q : ByteArray} {v v' : Value} {told : List Dc}
theorem Onc.below (h : Onc w wr c q v told) (hb : Below wr.heap.size wr w2) : Onc w w2 c q v told := ⟨h.box.below hb h.box.lt, h.own.below hb⟩
theorem Onc.drew (h : Onc w wr c q v told) : Onc w wr.drew c q v told := h.below (Below.refl _ _).drew
theorem Onc.next (h : Onc w wr c q v told) (b : Int) (q' : ByteArray) : Onc w ((wr.setCell ⟨w.heap.size, 0, none⟩ (.int .i64 b)).setCell ⟨w.heap.size, 1, none⟩ (.string q')) b q' v told := by
  have h1 := h.box.set_ 0 (.int .i64 b)
  have h2 := h1.set_ 1 (.string q')
  exact ⟨by simpa using h2, docs_box (docs_box h.own h.box (Nat.le_refl _) 0 _) h1 (Nat.le_refl _) 1 _⟩
end
theorem docs_cells {w : World} {B n : Nat} {A : Option Addr} {ds : List Dc} (h : DocsAt w B A n ds) : ∃ vss : List (List Value), vss.length = ds.length ∧ Reads w B 3 A n vss.flatten ∧ (∀ i (h : i < ds.length) (h' : i < vss.length), DcV w B ds[i] vss[i]) ∧ ∀ u ∈ vss.flatten, u.oneCell' = true := by
  obtain ⟨vss, h1, h2, h3⟩ := h.ex
  refine ⟨vss, by rw [h1, h.ln], h2, h3, fun u hu => ?_⟩
  obtain ⟨l, hl, hu⟩ := List.mem_flatten.1 hu
  obtain ⟨i, hi, rfl⟩ := List.mem_iff_getElem.1 hl
  obtain ⟨F, fn, fc, e, _⟩ := h3 i (by rw [h.ln]; omega) hi
  rw [e] at hu
  simp at hu
  rcases hu with rfl | rfl | rfl <;> rfl
/-- Docs without fields read the same behind a write to a cursor's place. -/
theorem docs_beside {wb wr w2 : World} {v : Value} {ds : List Dc} (h : DocsOwn wb wr v ds) (hf : ∀ d ∈ ds, d.fs = []) {g : Nat} {cs : Array Value} (hB : Blk wr g 45 cs) (hw : ∀ b, b ≠ g → w2.heap[b]? = wr.heap[b]?) (hz : wr.heap.size ≤ w2.heap.size) :
    ∃ A c, v = .slice A ds.length c ∧ (A = none → c = 0) ∧ DocsAt w2 w2.heap.size A ds.length ds := by
  have hrow := docs_row h hB (by decide)
  obtain ⟨vss, h1, h2, h3⟩ := h.ex
  obtain ⟨A, c, rfl, hR, _, hn, hg⟩ := own_shape2 h2
  refine ⟨A, c, rfl, hn, rfl, vss, h1, ⟨hR.1, fun hp => ?_⟩, fun i a b => ?_⟩
  · obtain ⟨b, o, e, hlt, hc⟩ := hR.2 hp
    obtain ⟨g', e', _⟩ := hg hp
    rw [e] at e'
    injection e' with e'
    injection e' with e1 e2
    have hb : b ≠ g := fun e3 => hrow (by
      subst e3
      rw [e, e2]
      rfl)
    refine ⟨b, o, e, by omega, fun j u hu => ?_⟩
    rw [World.cell?_of_block (w := wr) (hw b hb)]
    exact hc j u hu
  · obtain ⟨F, fn, fc, e, hRf, hl, h4⟩ := (h3 i a b).1
    have h0 : fn = 0 := by rw [← hl, hf _ (List.getElem_mem a)]; rfl
    subst h0
    exact ⟨F, 0, fc, e, ⟨hRf.1, fun hp => absurd hp (by omega)⟩, hl, h4⟩
/-- Docs told by a look are told. -/
theorem Onc.puts {w wr w2 : World} {c : Int} {q : ByteArray} {v v' : Value} {told es : List Dc} {vss2 : List (List Value)} {xs : List Value} (h : Onc w wr c q v told)
    (hx : ∃ vss : List (List Value), vss.length = told.length ∧ wr.ownsRow w.heap.size 71 3 v told.length vss.flatten ∧ (∀ i (h : i < told.length) (h' : i < vss.length), DcV wr wr.heap.size told[i] vss[i] ∧ Far wr w.heap.size vss[i]) ∧ xs = vss.flatten)
    (hv2 : vss2.length = es.length) (hp : w2.ownsRow w.heap.size 71 3 v' (told.length + es.length) (xs ++ vss2.flatten)) (hg : wr.grownBy w2 v.ownBlock) (hd : ∀ i (h : i < es.length) (h' : i < vss2.length), DcV wr wr.heap.size es[i] vss2[i]) (hf : ∀ d ∈ es, d.fs = []) : Onc w w2 c q v' (told ++ es) :=
  ⟨h.box.grown hg (docs_row h.own h.box (by decide)), docs_puts h.own hx hv2 hp hg fun i a b => ⟨hd i a b, far_nil (hd i a b) (hf _ (List.getElem_mem a))⟩⟩
/-- What a look tells is of the docs that it looked at. -/
theorem fol_sub (c k l : Int) (ds : List Dc) (hf : ∀ d ∈ ds, d.fs = []) : ∀ d ∈ (folP c k l ds).1, d.fs = [] := by
  intro d hd
  unfold folP at hd
  split at hd
  · cases hd
  · exact hf d (List.mem_filter.1 (List.mem_of_mem_take hd)).1
/-- Steps, as values. -/
def stC (l : List (UInt8 × UInt8)) : List Value := l.flatMap fun s => [.int .u8 (s.1.toNat : Int), .int .u8 (s.2.toNat : Int)]
theorem stC_get : ∀ (l : List (UInt8 × UInt8)) (k : Nat) (h : k < l.length), (stC l)[k * 2]? = some (.int .u8 (l[k].1.toNat : Int)) ∧ (stC l)[k * 2 + 1]? = some (.int .u8 (l[k].2.toNat : Int))
  | s :: t, 0, _ => ⟨rfl, rfl⟩
  | s :: t, k + 1, h => by
    have ih := stC_get t k (by simpa using h)
    have e : stC (s :: t) = [.int .u8 (s.1.toNat : Int), .int .u8 (s.2.toNat : Int)] ++ stC t := rfl
    rw [e, List.getElem_cons_succ]
    constructor
    · rw [show (k + 1) * 2 = k * 2 + 2 by omega, List.getElem?_append_right (by simp)]
      exact ih.1
    · rw [show (k + 1) * 2 + 1 = k * 2 + 1 + 2 by omega, List.getElem?_append_right (by simp)]
      exact ih.2
theorem stC_len (l : List (UInt8 × UInt8)) : (stC l).length = l.length * 2 := by
  induction l with
  | nil => rfl
  | cons s t ih =>
    have e : stC (s :: t) = [.int .u8 (s.1.toNat : Int), .int .u8 (s.2.toNat : Int)] ++ stC t := rfl
    rw [e, List.length_append, ih, List.length_cons]
    simp
    omega
theorem step_at {w : World} {B n : Nat} {A : Option Addr} {l : List (UInt8 × UInt8)} (h : Reads w B 2 A n (stC l)) {k : Nat} (hk : k < l.length) :
    ∃ b o, A = some ⟨b, o, none⟩ ∧ b < B ∧ w.cell? ⟨b, o + k * 2, none⟩ = some (.int .u8 (l[k].1.toNat : Int)) ∧ w.cell? ⟨b, o + k * 2 + 1, none⟩ = some (.int .u8 (l[k].2.toNat : Int)) := by
  have hl := h.1
  rw [stC_len] at hl
  obtain ⟨b, o, e, hb, hc⟩ := h.2 (by omega)
  obtain ⟨g1, g2⟩ := stC_get l k hk
  exact ⟨b, o, e, hb, hc _ _ g1, by rw [Nat.add_assoc]; exact hc _ _ g2⟩
end Go.Proofs.Ytceekocfmbcobaa.Cu
end
