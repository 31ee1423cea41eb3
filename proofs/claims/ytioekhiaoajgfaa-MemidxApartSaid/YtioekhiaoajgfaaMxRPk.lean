/- The hot index: the steps of Add. (No walk.) -/
import Derived.Test.YtioekhiaoajgfaaPkMemidxAddsRow26
namespace Go.Proofs.Ytioekhiaoajgfaa.Mx
open Go.RowKit Go.Maps Go.Proofs.Ytioekhiaoajgfaa Go.Proofs.Ytioekhiaoajgfaa.Ut Go.Proofs.Ytioekhiaoajgfaa.Tk Go.Proofs.Ytioekhiaoajgfaa.Qy Go.Proofs.Ytioekhiaoajgfaa.Ev Go.Proofs.Ytioekhiaoajgfaa.Qp Go.Proofs.Ytioekhiaoajgfaa.Mv
set_option linter.unusedVariables false
set_option linter.unusedSimpArgs false
set_option maxRecDepth 20000

/-- The fields of a doc. -/
theorem dcs_fl {w : World} {S : Nat → Prop} {d : Dc} {Fa : Option Addr} {fn fc : Nat} (h : DcS w S d [.int .i64 d.seq, .int .i64 d.at_, .slice Fa fn fc]) (hS : ∀ b, S b → b < w.heap.size) (hok : chkE d.fs = 0) : FlAt w w.heap.size Fa fn fc d.fs := by
  obtain ⟨F, n, c, e, h1, h2, h3, h4, h5⟩ := h.ex
  injection e with _ e
  injection e with _ e
  injection e with e _
  injection e with e1 e2 e3
  subst e1 e2 e3
  exact ⟨h1.reads hS, h2, h3, h4, fun f hf => by
    have h6 := chkE_ok hok
    have h7 := h6.2 f hf
    omega, h5⟩
section
variable {w W1 wr : World} {n0 X : Nat} {O : Nat → Prop} {ds D0 : List Dc} {b0 j M cn : Nat} {v : Value} {F : ByteArray → Option Value} {sz lo hi : Int} {f : ByteArray → List Po}
theorem tg_blk {w : World} {T : TypeId} {b : Nat} {cs : Array Value} (h : Blk w b T cs) : Tg w T b := ⟨_, _, h⟩
theorem AddAt.nums (h : AddAt w W1 wr n0 X O ds D0 b0 j M cn v F sz lo hi f) (ht : Tg W1 43 b0) {w' : World} {sz' lo' hi' : Int} (hg : wr.grownBy w' (some X)) (hb : Blk w' X 66 #[.int .i64 sz', .int .i64 lo', .int .i64 hi', v, .map (some M)]) (hL : w'.heap.size = wr.heap.size) :
    AddAt w W1 w' n0 X O ds D0 b0 j M cn v F sz' lo' hi' f := by
  have kp : ∀ {T : TypeId} (b : Nat), Tg wr T b → T ≠ 66 → w'.heap[b]? = wr.heap[b]? := fun {T} b ht hT => hg.block b ht.lt (fun e => by
    injection e with e
    subst e
    exact hT (ht.one h.ix.tgX))
  refine ⟨?_, h.chg.trans (Chg.of_grown (O := Ow O w wr) hg (fun k e => by injection e with e; subst e; exact h.ix.oX)) (fun x hx => hx.elim .inl (fun h => .inr h.1)), (kp b0 (ht.same h.same) (by decide)).trans h.same, h.ne, fun b hb => (kp b (hb.same (h.fld b hb)) (by decide)).trans (h.fld b hb), by rw [hL]; exact h.le⟩
  have := h.ix.nums hg hb hL
  rw [show Ow O w w' = Ow O w wr from by unfold Ow; rw [hL]]
  exact this
theorem AddAt.post (h : AddAt w W1 wr n0 X O ds D0 b0 j M cn v F sz lo hi f) (ht : Tg W1 43 b0) (hn : n0 ≤ w.heap.size) {w1 w' : World} {s : ByteArray} {u : Value} {xs : List Pr} {x : Pr} {u' : Value} (hu : F s = some u ∨ (F s = Option.none ∧ u = .slice Option.none 0 0)) (hxs : xs.map prP = f s) (hxp : ∀ y ∈ xs, PosV wr y) (hx : PosV wr x)
    (hown : wr.ownsRow n0 52 2 u (f s).length (xs.flatMap encP)) (hg : wr.grownBy w1 u.ownBlock) (hown' : w1.ownsRow n0 52 2 u' ((f s).length + 1) (xs.flatMap encP ++ encP x)) (hat : u'.ownBlock = u.ownBlock ∨ u'.ownBlock = some wr.heap.size)
    (hgm : w1.grownBy w' (some M)) (hm : MapV Try.prog 9 litS w' M (cn + 1) (putV F s u')) :
    AddAt w W1 w' n0 X O ds D0 b0 j M (cn + 1) v (putV F s u') sz lo hi (fun t => if t = s then f t ++ [prP x] else f t) ∧ ∀ {T : TypeId} (b : Nat), Tg wr T b → T ≠ 52 → w'.heap[b]? = wr.heap[b]? := by
  have kt : ∀ {T : TypeId} (b : Nat), Tg wr T b → T ≠ 52 → w'.heap[b]? = wr.heap[b]? := fun {T} b ht hT => by
    have e1 : w1.heap[b]? = wr.heap[b]? := hg.block b ht.lt (fun e => hT (ht.one (tg_own hown e.symm)))
    refine (hgm.block b (by have := hg.size; have := ht.lt; omega) (fun e => ?_)).trans e1
    injection e with e
    exact h.ix.notM ht e
  have hw : w.heap.size ≤ wr.heap.size := h.chg.size
  have c1 : Chg (Ow O w wr) wr w1 := Chg.of_grown hg (fun k e => by
    rcases hu with hu | ⟨_, rfl⟩
    · exact h.ix.oF s u k hu e
    · cases e)
  have c2 : Chg (Ow O w wr) w1 w' := Chg.of_grown hgm (fun k e => by injection e with e; subst e; exact h.ix.oM)
  refine ⟨⟨h.ix.post hu hxs hxp hx hown hg hown' hat hgm hm (Ow.mono (by have := hg.size; have := hgm.size; omega)) (fun hnew => .inr ⟨hw, hnew⟩) (fun b hO => ?_), (h.chg.trans c1 (fun x hx => hx.elim .inl (fun h => .inr h.1))).trans c2 (fun x hx => hx.elim .inl (fun h => .inr h.1)), (kt b0 (ht.same h.same) (by decide)).trans h.same, h.ne, fun b hb => (kt b (hb.same (h.fld b hb)) (by decide)).trans (h.fld b hb), by have := h.le; have := hg.size; have := hgm.size; omega⟩, kt⟩
  rcases hO with hO | ⟨h1, h2⟩
  · have := h.ix.lt b (.inl hO)
    exact ⟨this.1, by have := hg.size; have := hgm.size; omega⟩
  · exact ⟨by omega, h2⟩
theorem AddAt.docs (h : AddAt w W1 wr n0 X O ds D0 b0 j M cn v F sz lo hi f) (ht : Tg W1 43 b0) (hn : n0 ≤ w.heap.size) {w1 w' : World} {v' : Value} {d : Dc} {vss : List (List Value)} {u : List Value} (hv : vss.length = (ds ++ D0.take j).length ∧ wr.ownsRow n0 43 3 v (ds ++ D0.take j).length vss.flatten ∧ ∀ i (h : i < (ds ++ D0.take j).length) (h' : i < vss.length), DcS wr (fun b => Tg wr 87 b) (ds ++ D0.take j)[i] vss[i])
    (hd : DcS wr (fun b => Tg wr 87 b) d u) (hg : wr.grownBy w1 v.ownBlock) (hown : w1.ownsRow n0 43 3 v' ((ds ++ D0.take j).length + 1) (vss.flatten ++ u)) (hat : v'.ownBlock = v.ownBlock ∨ v'.ownBlock = some wr.heap.size)
    (hgx : w1.grownBy w' (some X)) (hbx : Blk w' X 66 #[.int .i64 sz, .int .i64 lo, .int .i64 hi, v', .map (some M)]) (he : ds ++ D0.take (j + 1) = (ds ++ D0.take j) ++ [d]) :
    AddAt w W1 w' n0 X O ds D0 b0 (j + 1) M cn v' F sz lo hi f := by
  have hw : w.heap.size ≤ wr.heap.size := h.chg.size
  have kp1 : ∀ {T : TypeId} (b : Nat), Tg wr T b → (∀ k, v.ownBlock = some k → k ≠ b) → w1.heap[b]? = wr.heap[b]? := fun {T} b ht hT => hg.block b ht.lt (fun e => hT b e.symm rfl)
  have kp2 : ∀ {T : TypeId} (b : Nat), Tg w1 T b → T ≠ 66 → w'.heap[b]? = w1.heap[b]? := fun {T} b ht hT => hgx.block b ht.lt (fun e => by
    injection e with e
    subst e
    exact hT (ht.one (h.ix.tgX.same (kp1 _ h.ix.tgX (fun k hk e => by subst e; exact absurd ((tg_own hv.2.1 hk).one h.ix.tgX) (by decide))))))
  have kp : ∀ {T : TypeId} (b : Nat), Tg wr T b → (∀ k, v.ownBlock = some k → k ≠ b) → T ≠ 66 → w'.heap[b]? = wr.heap[b]? := fun {T} b ht h1 h2 => (kp2 b (ht.same (kp1 b ht h1)) h2).trans (kp1 b ht h1)
  have c1 : Chg (Ow O w wr) wr w1 := Chg.of_grown hg (fun k e => h.ix.oV k e)
  have c2 : Chg (Ow O w wr) w1 w' := Chg.of_grown hgx (fun k e => by injection e with e; subst e; exact h.ix.oX)
  have hb0 := ht.same h.same
  refine ⟨?_, (h.chg.trans c1 (fun x hx => hx.elim .inl (fun h => .inr h.1))).trans c2 (fun x hx => hx.elim .inl (fun h => .inr h.1)), (kp b0 hb0 (fun k hk e => h.ne (by rw [hk, e])) (by decide)).trans h.same, fun e => ?_, fun b hb => (kp b (hb.same (h.fld b hb)) (fun k hk e => by subst e; exact absurd ((tg_own hv.2.1 hk).one (hb.same (h.fld _ hb))) (by decide)) (by decide)).trans (h.fld b hb), by have := h.le; have := hg.size; have := hgx.size; omega⟩
  · rw [he]
    refine h.ix.docs hv hd hg hown hat hgx hbx (Ow.mono (by have := hg.size; have := hgx.size; omega)) (fun hnew => .inr ⟨hw, hnew⟩) (fun b hO => ?_)
    rcases hO with hO | ⟨h1, h2⟩
    · have := h.ix.lt b (.inl hO)
      exact ⟨this.1, by have := hg.size; have := hgx.size; omega⟩
    · exact ⟨by omega, h2⟩
  · rcases hat with q | q
    · exact h.ne (by rw [← q]; exact e)
    · rw [q] at e
      injection e with e
      have := hb0.lt
      omega
theorem AddAt.congr (h : AddAt w W1 wr n0 X O ds D0 b0 j M cn v F sz lo hi f) {f' : ByteArray → List Po} (e : ∀ s, f s = f' s) : AddAt w W1 wr n0 X O ds D0 b0 j M cn v F sz lo hi f' := ⟨h.ix.congr e, h.chg, h.same, h.ne, h.fld, h.le⟩
end
/-- On the way through the terms of a doc. -/
structure TermsAt (w W1 W2 wr : World) (n0 X : Nat) (O : Nat → Prop) (ds D0 : List Dc) (b0 j M cn : Nat) (v : Value) (sz lo hi : Int) (f : ByteArray → List Po) : Prop where
  ex : ∃ F, AddAt w W1 wr n0 X O ds D0 b0 j M cn v F sz lo hi f
  kp : ∀ {T : TypeId} (b : Nat), Tg W2 T b → T ≠ 52 → wr.heap[b]? = W2.heap[b]?
  le : W2.heap.size ≤ wr.heap.size
/-- A term's post in memory. -/
theorem pos_v {w w' : World} {n0 i : Nat} {x : Tr} (h : x.2.2 ≠ [] ∧ ∃ P pc, x.2.1 = .slice P x.2.2.length pc ∧ x.2.2.length ≤ pc ∧ ReadsS w (fun b => n0 ≤ b ∧ Tg w 3 b) 1 P x.2.2.length (nC x.2.2)) (hsz : x.2.2.length ≤ 65536) (hk : ∀ b, Tg w 3 b → w'.heap[b]? = w.heap[b]?) : PosV w' (i, x.2.1, x.2.2) := by
  obtain ⟨h1, P, pc, h2, h3, h4⟩ := h
  exact ⟨⟨P, pc, h2, h3, h4.same (fun b hb => ⟨hb.2.same (hk b hb.2), hk b hb.2⟩)⟩, h1, hsz⟩
/-- What a map of posts tells at a key. -/
theorem Idx.row_at {w : World} {n0 X M cn : Nat} {v : Value} {F : ByteArray → Option Value} {O : Nat → Prop} {ds : List Dc} {sz lo hi : Int} {f : ByteArray → List Po} (h : Idx w n0 X M cn v F O ds sz lo hi f) (s : ByteArray) :
    ∃ (u : Value) (xs : List Pr), (F s).getD (.slice Option.none 0 0) = u ∧ (F s = some u ∨ (F s = Option.none ∧ u = .slice Option.none 0 0)) ∧ xs.map prP = f s ∧ w.ownsRow n0 52 2 u (f s).length (xs.flatMap encP) ∧ ∀ x ∈ xs, PosV w x := by
  cases e : F s with
  | none =>
    refine ⟨_, [], rfl, .inr ⟨rfl, rfl⟩, by rw [h.nof s e]; rfl, ?_, fun x hx => by cases hx⟩
    rw [h.nof s e]
    exact World.ownsRow_nil _ _ _ _
  | some u =>
    obtain ⟨xs, h1, h2, h3⟩ := (h.rows s u e).1.ex
    exact ⟨u, xs, rfl, .inl rfl, h1, h2, h3⟩
/-- Whether a batch leaves a gap. -/
def gapB (ds : List Dc) (seq : Int) : Bool := match ds.getLast? with
  | some d => decide (seq ≠ d.seq + 1)
  | none => false
theorem addE_bad {ds : List Dc} {seq : Int} {l : List Evn} (h : chkB seq l ≠ 0) : addE ds seq l = chkB seq l := by unfold addE; rw [if_neg h]
theorem gapB_true {ds : List Dc} {seq : Int} (h : gapB ds seq = true) : ∃ d, ds.getLast? = some d ∧ seq ≠ d.seq + 1 := by
  unfold gapB at h
  split at h
  · rename_i d e; exact ⟨d, e, of_decide_eq_true h⟩
  · cases h
theorem gapB_false {ds : List Dc} {seq : Int} (h : gapB ds seq = false) : ¬ ∃ d, ds.getLast? = some d ∧ seq ≠ d.seq + 1 := by
  unfold gapB at h
  split at h
  · rename_i d e; rintro ⟨d', e', h'⟩; rw [e] at e'; injection e' with e'; subst e'; exact of_decide_eq_false h h'
  · rename_i e; rintro ⟨d', e', h'⟩; rw [e] at e'; cases e'
theorem gapB_snoc (ds : List Dc) (d : Dc) (seq : Int) : gapB (ds ++ [d]) seq = decide (seq ≠ d.seq + 1) := by unfold gapB; rw [List.getLast?_concat]
theorem addE_gap {ds : List Dc} {seq : Int} {l : List Evn} (h : chkB seq l = 0) (h2 : gapB ds seq = true) : addE ds seq l = 140 := by
  unfold addE
  rw [if_pos h, if_pos (gapB_true h2)]
theorem addE_many {ds : List Dc} {seq : Int} {l : List Evn} (h : chkB seq l = 0) (h2 : gapB ds seq = false) (h3 : 65536 < ds.length + l.length) : addE ds seq l = 3 := by
  unfold addE
  rw [if_pos h, if_neg (gapB_false h2), if_pos h3]
theorem addE_ok {ds : List Dc} {seq : Int} {l : List Evn} (h : chkB seq l = 0) (h2 : gapB ds seq = false) (h3 : ¬ 65536 < ds.length + l.length) : addE ds seq l = 0 := by
  unfold addE
  rw [if_pos h, if_neg (gapB_false h2), if_neg h3]
/-- How many docs a term's posts can name. -/
theorem postsT_len (ds : List (List Fl)) (s : ByteArray) : (postsT ds s).length ≤ ds.length := by
  unfold postsT
  refine Nat.le_trans (List.length_filterMap_le _ _) ?_
  rw [List.length_zipIdx]
  exact Nat.le_refl _
/-- The posts that terms bring grow by as many at most. -/
theorem addP_len (k : Nat) : ∀ (T : List Tr) (f : ByteArray → List Po) (s : ByteArray), ((T.foldl (fun f t => addP f k (t.1, t.2.2)) f) s).length ≤ (f s).length + T.length
  | [], f, s => Nat.le_refl _
  | t :: T, f, s => by
    rw [List.foldl_cons]
    have h := addP_len k T (addP f k (t.1, t.2.2)) s
    have h2 : (addP f k (t.1, t.2.2) s).length ≤ (f s).length + 1 := by
      unfold addP
      split <;> simp
    simp only [List.length_cons]
    omega
/-- The k-th term in memory. -/
theorem term_at {w : World} {n0 n : Nat} {A : Option Addr} {O : List Tr} (h : ReadsS w (fun b => n0 ≤ b ∧ Tg w 74 b) 2 A n (O.flatMap encO)) (hp : ∀ x ∈ O, x.2.2 ≠ [] ∧ ∃ P pc, x.2.1 = .slice P x.2.2.length pc ∧ x.2.2.length ≤ pc ∧ ReadsS w (fun b => n0 ≤ b ∧ Tg w 3 b) 1 P x.2.2.length (nC x.2.2)) (hl : O.length = n) {i : Nat} (hi : i < O.length) :
    ∃ bt o P pc, A = some ⟨bt, o, none⟩ ∧ Tg w 74 bt ∧ w.cell? ⟨bt, o + i * 2, none⟩ = some (.string O[i].1) ∧ w.cell? ⟨bt, o + i * 2 + 1, none⟩ = some (.slice P O[i].2.2.length pc) ∧ O[i].2.1 = .slice P O[i].2.2.length pc := by
  obtain ⟨b, o, e, hb, hc⟩ := h.2 (by omega)
  have f0 := Ss.encs_get (enc := encO) (k := 2) (fun _ => rfl) O i 0 hi (by omega)
  have f1 := Ss.encs_get (enc := encO) (k := 2) (fun _ => rfl) O i 1 hi (by omega)
  have c0 := hc _ _ (f0.trans rfl)
  have c1 := hc _ _ (f1.trans rfl)
  obtain ⟨_, P, pc, e2, _⟩ := hp _ (List.getElem_mem hi)
  rw [← Nat.add_assoc] at c1
  refine ⟨b, o, P, pc, e, hb.2, ?_, ?_, e2⟩
  · simpa using c0
  · rw [← e2]; exact c1
theorem run_look_v {κ : Type} {P : Program} {k : TypeId} {L : KeyLit κ} {w : World} {o : Oper} {a : Act}
    (m x : Operand) (t e : TypeId) (hop : o.op = Op.lookup t m x false) (K : Keyed P k) (ht : P.underlying t = some (.map k e)) {z : Value} (hz : (zeroValue e).run P w = .ok z w) (b n : Nat) (f : κ → Option Value)
    (hm : a.eval m = .map (some b)) (h : MapV P k L w b n f) (s : κ) (hx : a.eval x = L.val s) (hkey : keyOf P k (L.val s) = some (L.lit s)) (v : Value) (hfv : (f s).getD z = v) : (execOp a.eval o).run P w = .ok (.value v) w := by
  have hrun := h.look K ht hz s hkey
  simp [execOp, hop, hm, hx, hrun, Result.andThen, hfv]
theorem AddLoop.fin {w W1 wr : World} {n0 X : Nat} {O : Nat → Prop} {ds D0 : List Dc} {b0 j : Nat} (h : AddLoop w W1 wr n0 X O ds D0 b0 j) (hj : j = D0.length) {seq : Int} {l : List Evn} (he : addE ds seq l = 0) (hD : mkD seq l = D0) (h1 : Dok ds) (h2 : Dok D0) (hm : ds.length + D0.length ≤ 65536) : AddPost w n0 X O ds seq l (.returned (.int .i64 0)) wr := by
  obtain ⟨M, cn, v, F, hA, hcn⟩ := h.ex
  have e : ds ++ D0.take j = addD ds seq l := by unfold addD; rw [if_pos he, hD, List.take_of_length_le (by omega)]
  have hl : (addD ds seq l).length = ds.length + D0.length := by unfold addD; rw [if_pos he, hD, List.length_append]
  have hix := hA.ix
  rw [e] at hix
  rw [e] at hA
  refine ⟨by rw [he], ⟨⟨M, cn, v, F, hix, by rw [hl, ← hj]; exact hcn⟩, ?_, by omega⟩, hA.chg⟩
  · intro d hd
    rw [← e] at hd
    rcases List.mem_append.1 hd with hd | hd
    · exact h1 d hd
    · exact h2 d (List.mem_of_mem_take hd)
end Go.Proofs.Ytioekhiaoajgfaa.Mx
