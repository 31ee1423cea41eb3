/- The hot index: the steps of Add. (No walk.) -/
import Derived.BigQuiet
import Derived.OwnWalk
import Derived.Laws.ResultCell
import Derived.Test.YtioekhiaoajgfaaGreatPkMemidxForksRow24
section
namespace Go.Proofs.YtioekhiaoajgfaaGreat.Mx
open Go.RowKit Go.Maps Go.Proofs.YtioekhiaoajgfaaGreat Go.Proofs.YtioekhiaoajgfaaGreat.Ut Go.Proofs.YtioekhiaoajgfaaGreat.Tk Go.Proofs.YtioekhiaoajgfaaGreat.Qy Go.Proofs.YtioekhiaoajgfaaGreat.Ev Go.Proofs.YtioekhiaoajgfaaGreat.Qp Go.Proofs.YtioekhiaoajgfaaGreat.Mv
set_option linter.unusedVariables false
set_option linter.unusedSimpArgs false
set_option maxRecDepth 20000

/-- The fields of a doc. -/
theorem dcs_fl {w : World} {S : Nat → Prop} {d : Dc} {Fa : Option Addr} {fn fc : Nat} (h : DcS w S d [.int .i64 d.seq, .int .i64 d.at_, .slice Fa fn fc]) (hS : ∀ b, S b → b < w.heap.size) (hok : chkE d.fs = 0) : FlAt w w.heap.size Fa fn fc d.fs := by
  obtain ⟨F, n, c, e, h1, h2, h3, h4, h5⟩ := h.ex
  injection e with _ e
  injection e with _ e
  injection e with e _
  injection e with e1 e2 e3
  subst e1 e2 e3
  exact ⟨h1.reads hS, h2, h3, h4, fun f hf => by
    have h6 := chkE_ok hok
    have h7 := h6.2 f hf
    omega, h5⟩
section
variable {w W1 wr : World} {n0 X : Nat} {O : Nat → Prop} {ds D0 : List Dc} {b0 j M cn : Nat} {v : Value} {F : ByteArray → Option Value} {sz lo hi : Int} {f : ByteArray → List Po}
theorem tg_blk {w : World} {T : TypeId} {b : Nat} {cs : Array Value} (h : Blk w b T cs) : Tg w T b := ⟨_, _, h⟩
theorem AddAt.nums (h : AddAt w W1 wr n0 X O ds D0 b0 j M cn v F sz lo hi f) (ht : Tg W1 66 b0) {w' : World} {sz' lo' hi' : Int} (hg : wr.grownBy w' (some X)) (hb : Blk w' X 59 #[.int .i64 sz', .int .i64 lo', .int .i64 hi', v, .map (some M)]) (hL : w'.heap.size = wr.heap.size) :
    AddAt w W1 w' n0 X O ds D0 b0 j M cn v F sz' lo' hi' f := by
  have kp : ∀ {T : TypeId} (b : Nat), Tg wr T b → T ≠ 59 → w'.heap[b]? = wr.heap[b]? := fun {T} b ht hT => hg.block b ht.lt (fun e => by
    injection e with e
    subst e
    exact hT (ht.one h.ix.tgX))
  refine ⟨?_, h.chg.trans (Chg.of_grown (O := Ow O w wr) hg (fun k e => by injection e with e; subst e; exact h.ix.oX)) (fun x hx => hx.elim .inl (fun h => .inr h.1)), (kp b0 (ht.same h.same) (by decide)).trans h.same, h.ne, fun b hb => (kp b (hb.same (h.fld b hb)) (by decide)).trans (h.fld b hb), by rw [hL]; exact h.le⟩
  have := h.ix.nums hg hb hL
  rw [show Ow O w w' = Ow O w wr from by unfold Ow; rw [hL]]
  exact this
theorem AddAt.post (h : AddAt w W1 wr n0 X O ds D0 b0 j M cn v F sz lo hi f) (ht : Tg W1 66 b0) (hn : n0 ≤ w.heap.size) {w1 w' : World} {s : ByteArray} {u : Value} {xs : List Pr} {x : Pr} {u' : Value} (hu : F s = some u ∨ (F s = Option.none ∧ u = .slice Option.none 0 0)) (hxs : xs.map prP = f s) (hxp : ∀ y ∈ xs, PosV wr y) (hx : PosV wr x)
    (hown : wr.ownsRow n0 74 2 u (f s).length (xs.flatMap encP)) (hg : wr.grownBy w1 u.ownBlock) (hown' : w1.ownsRow n0 74 2 u' ((f s).length + 1) (xs.flatMap encP ++ encP x)) (hat : u'.ownBlock = u.ownBlock ∨ u'.ownBlock = some wr.heap.size)
    (hgm : w1.grownBy w' (some M)) (hm : MapV Tryz.prog 9 litS w' M (cn + 1) (putV F s u')) :
    AddAt w W1 w' n0 X O ds D0 b0 j M (cn + 1) v (putV F s u') sz lo hi (fun t => if t = s then f t ++ [prP x] else f t) ∧ ∀ {T : TypeId} (b : Nat), Tg wr T b → T ≠ 74 → w'.heap[b]? = wr.heap[b]? := by
  have kt : ∀ {T : TypeId} (b : Nat), Tg wr T b → T ≠ 74 → w'.heap[b]? = wr.heap[b]? := fun {T} b ht hT => by
    have e1 : w1.heap[b]? = wr.heap[b]? := hg.block b ht.lt (fun e => hT (ht.one (tg_own hown e.symm)))
    refine (hgm.block b (by have := hg.size; have := ht.lt; omega) (fun e => ?_)).trans e1
    injection e with e
    exact h.ix.notM ht e
  have hw : w.heap.size ≤ wr.heap.size := h.chg.size
  have c1 : Chg (Ow O w wr) wr w1 := Chg.of_grown hg (fun k e => by
    rcases hu with hu | ⟨_, rfl⟩
    · exact h.ix.oF s u k hu e
    · cases e)
  have c2 : Chg (Ow O w wr) w1 w' := Chg.of_grown hgm (fun k e => by injection e with e; subst e; exact h.ix.oM)
  refine ⟨⟨h.ix.post hu hxs hxp hx hown hg hown' hat hgm hm (Ow.mono (by have := hg.size; have := hgm.size; omega)) (fun hnew => .inr ⟨hw, hnew⟩) (fun b hO => ?_), (h.chg.trans c1 (fun x hx => hx.elim .inl (fun h => .inr h.1))).trans c2 (fun x hx => hx.elim .inl (fun h => .inr h.1)), (kt b0 (ht.same h.same) (by decide)).trans h.same, h.ne, fun b hb => (kt b (hb.same (h.fld b hb)) (by decide)).trans (h.fld b hb), by have := h.le; have := hg.size; have := hgm.size; omega⟩, kt⟩
  rcases hO with hO | ⟨h1, h2⟩
  · have := h.ix.lt b (.inl hO)
    exact ⟨this.1, by have := hg.size; have := hgm.size; omega⟩
  · exact ⟨by omega, h2⟩
theorem AddAt.docs (h : AddAt w W1 wr n0 X O ds D0 b0 j M cn v F sz lo hi f) (ht : Tg W1 66 b0) (hn : n0 ≤ w.heap.size) {w1 w' : World} {v' : Value} {d : Dc} {vss : List (List Value)} {u : List Value} (hv : vss.length = (ds ++ D0.take j).length ∧ wr.ownsRow n0 66 3 v (ds ++ D0.take j).length vss.flatten ∧ ∀ i (h : i < (ds ++ D0.take j).length) (h' : i < vss.length), DcS wr (fun b => Tg wr 97 b) (ds ++ D0.take j)[i] vss[i])
    (hd : DcS wr (fun b => Tg wr 97 b) d u) (hg : wr.grownBy w1 v.ownBlock) (hown : w1.ownsRow n0 66 3 v' ((ds ++ D0.take j).length + 1) (vss.flatten ++ u)) (hat : v'.ownBlock = v.ownBlock ∨ v'.ownBlock = some wr.heap.size)
    (hgx : w1.grownBy w' (some X)) (hbx : Blk w' X 59 #[.int .i64 sz, .int .i64 lo, .int .i64 hi, v', .map (some M)]) (he : ds ++ D0.take (j + 1) = (ds ++ D0.take j) ++ [d]) :
    AddAt w W1 w' n0 X O ds D0 b0 (j + 1) M cn v' F sz lo hi f := by
  have hw : w.heap.size ≤ wr.heap.size := h.chg.size
  have kp1 : ∀ {T : TypeId} (b : Nat), Tg wr T b → (∀ k, v.ownBlock = some k → k ≠ b) → w1.heap[b]? = wr.heap[b]? := fun {T} b ht hT => hg.block b ht.lt (fun e => hT b e.symm rfl)
  have kp2 : ∀ {T : TypeId} (b : Nat), Tg w1 T b → T ≠ 59 → w'.heap[b]? = w1.heap[b]? := fun {T} b ht hT => hgx.block b ht.lt (fun e => by
    injection e with e
    subst e
    exact hT (ht.one (h.ix.tgX.same (kp1 _ h.ix.tgX (fun k hk e => by subst e; exact absurd ((tg_own hv.2.1 hk).one h.ix.tgX) (by decide))))))
  have kp : ∀ {T : TypeId} (b : Nat), Tg wr T b → (∀ k, v.ownBlock = some k → k ≠ b) → T ≠ 59 → w'.heap[b]? = wr.heap[b]? := fun {T} b ht h1 h2 => (kp2 b (ht.same (kp1 b ht h1)) h2).trans (kp1 b ht h1)
  have c1 : Chg (Ow O w wr) wr w1 := Chg.of_grown hg (fun k e => h.ix.oV k e)
  have c2 : Chg (Ow O w wr) w1 w' := Chg.of_grown hgx (fun k e => by injection e with e; subst e; exact h.ix.oX)
  have hb0 := ht.same h.same
  refine ⟨?_, (h.chg.trans c1 (fun x hx => hx.elim .inl (fun h => .inr h.1))).trans c2 (fun x hx => hx.elim .inl (fun h => .inr h.1)), (kp b0 hb0 (fun k hk e => h.ne (by rw [hk, e])) (by decide)).trans h.same, fun e => ?_, fun b hb => (kp b (hb.same (h.fld b hb)) (fun k hk e => by subst e; exact absurd ((tg_own hv.2.1 hk).one (hb.same (h.fld _ hb))) (by decide)) (by decide)).trans (h.fld b hb), by have := h.le; have := hg.size; have := hgx.size; omega⟩
  · rw [he]
    refine h.ix.docs hv hd hg hown hat hgx hbx (Ow.mono (by have := hg.size; have := hgx.size; omega)) (fun hnew => .inr ⟨hw, hnew⟩) (fun b hO => ?_)
    rcases hO with hO | ⟨h1, h2⟩
    · have := h.ix.lt b (.inl hO)
      exact ⟨this.1, by have := hg.size; have := hgx.size; omega⟩
    · exact ⟨by omega, h2⟩
  · rcases hat with q | q
    · exact h.ne (by rw [← q]; exact e)
    · rw [q] at e
      injection e with e
      have := hb0.lt
      omega
theorem AddAt.congr (h : AddAt w W1 wr n0 X O ds D0 b0 j M cn v F sz lo hi f) {f' : ByteArray → List Po} (e : ∀ s, f s = f' s) : AddAt w W1 wr n0 X O ds D0 b0 j M cn v F sz lo hi f' := ⟨h.ix.congr e, h.chg, h.same, h.ne, h.fld, h.le⟩
end
/-- On the way through the terms of a doc. -/
structure TermsAt (w W1 W2 wr : World) (n0 X : Nat) (O : Nat → Prop) (ds D0 : List Dc) (b0 j M cn : Nat) (v : Value) (sz lo hi : Int) (f : ByteArray → List Po) : Prop where
  ex : ∃ F, AddAt w W1 wr n0 X O ds D0 b0 j M cn v F sz lo hi f
  kp : ∀ {T : TypeId} (b : Nat), Tg W2 T b → T ≠ 74 → wr.heap[b]? = W2.heap[b]?
  le : W2.heap.size ≤ wr.heap.size
/-- A term's post in memory. -/
theorem pos_v {w w' : World} {n0 i : Nat} {x : Tr} (h : x.2.2 ≠ [] ∧ ∃ P pc, x.2.1 = .slice P x.2.2.length pc ∧ x.2.2.length ≤ pc ∧ ReadsS w (fun b => n0 ≤ b ∧ Tg w 3 b) 1 P x.2.2.length (nC x.2.2)) (hsz : x.2.2.length ≤ 65536) (hk : ∀ b, Tg w 3 b → w'.heap[b]? = w.heap[b]?) : PosV w' (i, x.2.1, x.2.2) := by
  obtain ⟨h1, P, pc, h2, h3, h4⟩ := h
  exact ⟨⟨P, pc, h2, h3, h4.same (fun b hb => ⟨hb.2.same (hk b hb.2), hk b hb.2⟩)⟩, h1, hsz⟩
/-- What a map of posts tells at a key. -/
theorem Idx.row_at {w : World} {n0 X M cn : Nat} {v : Value} {F : ByteArray → Option Value} {O : Nat → Prop} {ds : List Dc} {sz lo hi : Int} {f : ByteArray → List Po} (h : Idx w n0 X M cn v F O ds sz lo hi f) (s : ByteArray) :
    ∃ (u : Value) (xs : List Pr), (F s).getD (.slice Option.none 0 0) = u ∧ (F s = some u ∨ (F s = Option.none ∧ u = .slice Option.none 0 0)) ∧ xs.map prP = f s ∧ w.ownsRow n0 74 2 u (f s).length (xs.flatMap encP) ∧ ∀ x ∈ xs, PosV w x := by
  cases e : F s with
  | none =>
    refine ⟨_, [], rfl, .inr ⟨rfl, rfl⟩, by rw [h.nof s e]; rfl, ?_, fun x hx => by cases hx⟩
    rw [h.nof s e]
    exact World.ownsRow_nil _ _ _ _
  | some u =>
    obtain ⟨xs, h1, h2, h3⟩ := (h.rows s u e).1.ex
    exact ⟨u, xs, rfl, .inl rfl, h1, h2, h3⟩
/-- Whether a batch leaves a gap. -/
def gapB (ds : List Dc) (seq : Int) : Bool := match ds.getLast? with
  | some d => decide (seq ≠ d.seq + 1)
  | none => false
theorem addE_bad {ds : List Dc} {seq : Int} {l : List Evn} (h : chkB seq l ≠ 0) : addE ds seq l = chkB seq l := by unfold addE; rw [if_neg h]
theorem gapB_true {ds : List Dc} {seq : Int} (h : gapB ds seq = true) : ∃ d, ds.getLast? = some d ∧ seq ≠ d.seq + 1 := by
  unfold gapB at h
  split at h
  · rename_i d e; exact ⟨d, e, of_decide_eq_true h⟩
  · cases h
theorem gapB_false {ds : List Dc} {seq : Int} (h : gapB ds seq = false) : ¬ ∃ d, ds.getLast? = some d ∧ seq ≠ d.seq + 1 := by
  unfold gapB at h
  split at h
  · rename_i d e; rintro ⟨d', e', h'⟩; rw [e] at e'; injection e' with e'; subst e'; exact of_decide_eq_false h h'
  · rename_i e; rintro ⟨d', e', h'⟩; rw [e] at e'; cases e'
theorem gapB_snoc (ds : List Dc) (d : Dc) (seq : Int) : gapB (ds ++ [d]) seq = decide (seq ≠ d.seq + 1) := by unfold gapB; rw [List.getLast?_concat]
theorem addE_gap {ds : List Dc} {seq : Int} {l : List Evn} (h : chkB seq l = 0) (h2 : gapB ds seq = true) : addE ds seq l = 140 := by
  unfold addE
  rw [if_pos h, if_pos (gapB_true h2)]
theorem addE_many {ds : List Dc} {seq : Int} {l : List Evn} (h : chkB seq l = 0) (h2 : gapB ds seq = false) (h3 : 65536 < ds.length + l.length) : addE ds seq l = 3 := by
  unfold addE
  rw [if_pos h, if_neg (gapB_false h2), if_pos h3]
theorem addE_ok {ds : List Dc} {seq : Int} {l : List Evn} (h : chkB seq l = 0) (h2 : gapB ds seq = false) (h3 : ¬ 65536 < ds.length + l.length) : addE ds seq l = 0 := by
  unfold addE
  rw [if_pos h, if_neg (gapB_false h2), if_neg h3]
/-- How many docs a term's posts can name. -/
theorem postsT_len (ds : List (List Fl)) (s : ByteArray) : (postsT ds s).length ≤ ds.length := by
  unfold postsT
  refine Nat.le_trans (List.length_filterMap_le _ _) ?_
  rw [List.length_zipIdx]
  exact Nat.le_refl _
/-- The posts that terms bring grow by as many at most. -/
theorem addP_len (k : Nat) : ∀ (T : List Tr) (f : ByteArray → List Po) (s : ByteArray), ((T.foldl (fun f t => addP f k (t.1, t.2.2)) f) s).length ≤ (f s).length + T.length
  | [], f, s => Nat.le_refl _
  | t :: T, f, s => by
    rw [List.foldl_cons]
    have h := addP_len k T (addP f k (t.1, t.2.2)) s
    have h2 : (addP f k (t.1, t.2.2) s).length ≤ (f s).length + 1 := by
      unfold addP
      split <;> simp
    simp only [List.length_cons]
    omega
/-- The k-th term in memory. -/
theorem term_at {w : World} {n0 n : Nat} {A : Option Addr} {O : List Tr} (h : ReadsS w (fun b => n0 ≤ b ∧ Tg w 95 b) 2 A n (O.flatMap encO)) (hp : ∀ x ∈ O, x.2.2 ≠ [] ∧ ∃ P pc, x.2.1 = .slice P x.2.2.length pc ∧ x.2.2.length ≤ pc ∧ ReadsS w (fun b => n0 ≤ b ∧ Tg w 3 b) 1 P x.2.2.length (nC x.2.2)) (hl : O.length = n) {i : Nat} (hi : i < O.length) :
    ∃ bt o P pc, A = some ⟨bt, o, none⟩ ∧ Tg w 95 bt ∧ w.cell? ⟨bt, o + i * 2, none⟩ = some (.string O[i].1) ∧ w.cell? ⟨bt, o + i * 2 + 1, none⟩ = some (.slice P O[i].2.2.length pc) ∧ O[i].2.1 = .slice P O[i].2.2.length pc := by
  obtain ⟨b, o, e, hb, hc⟩ := h.2 (by omega)
  have f0 := Ss.encs_get (enc := encO) (k := 2) (fun _ => rfl) O i 0 hi (by omega)
  have f1 := Ss.encs_get (enc := encO) (k := 2) (fun _ => rfl) O i 1 hi (by omega)
  have c0 := hc _ _ (f0.trans rfl)
  have c1 := hc _ _ (f1.trans rfl)
  obtain ⟨_, P, pc, e2, _⟩ := hp _ (List.getElem_mem hi)
  rw [← Nat.add_assoc] at c1
  refine ⟨b, o, P, pc, e, hb.2, ?_, ?_, e2⟩
  · simpa using c0
  · rw [← e2]; exact c1
theorem run_look_v {κ : Type} {P : Program} {k : TypeId} {L : KeyLit κ} {w : World} {o : Oper} {a : Act}
    (m x : Operand) (t e : TypeId) (hop : o.op = Op.lookup t m x false) (K : Keyed P k) (ht : P.underlying t = some (.map k e)) {z : Value} (hz : (zeroValue e).run P w = .ok z w) (b n : Nat) (f : κ → Option Value)
    (hm : a.eval m = .map (some b)) (h : MapV P k L w b n f) (s : κ) (hx : a.eval x = L.val s) (hkey : keyOf P k (L.val s) = some (L.lit s)) (v : Value) (hfv : (f s).getD z = v) : (execOp a.eval o).run P w = .ok (.value v) w := by
  have hrun := h.look K ht hz s hkey
  simp [execOp, hop, hm, hx, hrun, Result.andThen, hfv]
theorem AddLoop.fin {w W1 wr : World} {n0 X : Nat} {O : Nat → Prop} {ds D0 : List Dc} {b0 j : Nat} (h : AddLoop w W1 wr n0 X O ds D0 b0 j) (hj : j = D0.length) {seq : Int} {l : List Evn} (he : addE ds seq l = 0) (hD : mkD seq l = D0) (h1 : Dok ds) (h2 : Dok D0) (hm : ds.length + D0.length ≤ 65536) : AddPost w n0 X O ds seq l (.returned (.int .i64 0)) wr := by
  obtain ⟨M, cn, v, F, hA, hcn⟩ := h.ex
  have e : ds ++ D0.take j = addD ds seq l := by unfold addD; rw [if_pos he, hD, List.take_of_length_le (by omega)]
  have hl : (addD ds seq l).length = ds.length + D0.length := by unfold addD; rw [if_pos he, hD, List.length_append]
  have hix := hA.ix
  rw [e] at hix
  rw [e] at hA
  refine ⟨by rw [he], ⟨⟨M, cn, v, F, hix, by rw [hl, ← hj]; exact hcn⟩, ?_, by omega⟩, hA.chg⟩
  · intro d hd
    rw [← e] at hd
    rcases List.mem_append.1 hd with hd | hd
    · exact h1 d hd
    · exact h2 d (List.mem_of_mem_take hd)
end Go.Proofs.YtioekhiaoajgfaaGreat.Mx
end

section
/- memidx: Len, Size, Times, Seqs: the walks. -/
namespace Go.Proofs.YtioekhiaoajgfaaGreat.Mx
open Go.RowKit Go.Proofs.YtioekhiaoajgfaaGreat Go.Proofs.YtioekhiaoajgfaaGreat.Ut Go.Proofs.YtioekhiaoajgfaaGreat.Tk Go.Proofs.YtioekhiaoajgfaaGreat.Qy Go.Proofs.YtioekhiaoajgfaaGreat.Ev Go.Proofs.YtioekhiaoajgfaaGreat.Qp Go.Proofs.YtioekhiaoajgfaaGreat.Mv
set_option linter.unusedVariables false
set_option linter.unusedSimpArgs false
set_option maxRecDepth 20000

section
variable {w : World} {n0 X M cn : Nat} {v : Value} {F : ByteArray → Option Value} {O : Nat → Prop} {ds : List Dc} {sz lo hi : Int} {f : ByteArray → List Po}
theorem len_any (h : Idx w n0 X M cn v F O ds sz lo hi f) :
    Calls Tryz.prog 26 #[.pointer (some ⟨X, 0, none⟩)] w fun e w' => e = .returned (.int .i64 (ds.length : Nat)) ∧ w = w' := by
  have c1 := Lib.hid (none_no h)
  obtain ⟨A8, c8, rfl, _, _⟩ := h.docs_v
  have c3 := h.blk.cell 3
  simp only [List.getElem?_toArray, List.getElem?_cons_zero, List.getElem?_cons_succ] at c3
  clear h
  go_enter Tryz.func26, Tryz.ntmps26
  go_wp2_with fail
  refine c1.out.mono ?_
  rintro e w' ⟨rfl, rfl⟩
  go_wp2
  go_ret
  exact ⟨rfl, rfl⟩
theorem all_any (w : World) (X : Nat) (sz : Int) (h : w.cell? ⟨X, 0, none⟩ = some (.int .i64 sz)) :
    Calls Tryz.prog 47 #[.pointer (some ⟨X, 0, none⟩)] w fun e w' => e = .returned (.int .i64 sz) ∧ w = w' := by
  go_enter Tryz.func47, Tryz.ntmps47
  go_wp2
  go_ret
  exact ⟨rfl, rfl⟩
theorem sizeX_any (h : Idx w n0 X M cn v F O ds sz lo hi f) :
    Calls Tryz.prog 27 #[.pointer (some ⟨X, 0, none⟩)] w fun e w' => e = .returned (.int .i64 sz) ∧ w = w' := by
  have c1 := Lib.hid (none_no h)
  have c0 := h.blk.cell 0
  simp only [List.getElem?_toArray, List.getElem?_cons_zero, List.getElem?_cons_succ] at c0
  have c2 := Lib.hid (all_any w X sz c0)
  clear h c0
  go_enter Tryz.func27, Tryz.ntmps27
  go_wp2_with fail
  refine c1.out.mono ?_
  rintro e w' ⟨rfl, rfl⟩
  go_wp2_with fail
  refine c2.out.mono ?_
  rintro e w' ⟨rfl, rfl⟩
  go_wp2
  go_ret
  exact ⟨rfl, rfl⟩
/-- What Times tells. -/
def timesV (ds : List Dc) (lo hi : Int) : Value := .tuple #[.int .i64 (if ds = [] then 0 else lo), .int .i64 (if ds = [] then 0 else hi), .bool (decide (ds ≠ []))]
theorem times_any (h : Idx w n0 X M cn v F O ds sz lo hi f) :
    Calls Tryz.prog 23 #[.pointer (some ⟨X, 0, none⟩)] w fun e w' => e = .returned (timesV ds lo hi) ∧ Below w.heap.size w w' := by
  have c2 := Lib.hid (len_any h)
  have H := Lib.hid h
  have k1 := h.blk.cell 1
  have k2 := h.blk.cell 2
  simp only [List.getElem?_toArray, List.getElem?_cons_zero, List.getElem?_cons_succ] at k1 k2
  clear h
  go_enter Tryz.func23, Tryz.ntmps23
  go_wp2_with fail
  refine c2.out.mono ?_
  rintro e w' ⟨rfl, rfl⟩
  by_cases h0 : ds = []
  · subst h0
    have hz : ((0 : Int) == 0) = true := rfl
    go_wp2
    go_ret3
    exact ⟨rfl, Below.refl _ _⟩
  · have hp := List.length_pos_iff.2 h0
    have hz : ((ds.length : Int) == 0) = false := beq_eq_false_iff_ne.2 (by omega)
    have hzn : (ds.length == 0) = false := beq_eq_false_iff_ne.2 (by omega)
    have H0 : Hid (timesV ds lo hi = .tuple #[.int .i64 lo, .int .i64 hi, .bool true]) := Lib.hid (by unfold timesV; rw [if_neg h0, if_neg h0, decide_eq_true h0])
    clear h0
    go_wp2_with fail
    go_quiet (fail)
    go_wp2
    go_ret3
    exact ⟨congrArg Ending.returned H0.out.symm, below_dn w nq⟩
/-- What Seqs tells. -/
def seqsV (ds : List Dc) : Value := .tuple #[.int .i64 ((ds.head?.map (·.seq)).getD 0), .int .i64 ((ds.getLast?.map (·.seq)).getD 0)]
theorem seqs_any (h : Idx w n0 X M cn v F O ds sz lo hi f) (hfew : ds.length ≤ 65536) :
    Calls Tryz.prog 24 #[.pointer (some ⟨X, 0, none⟩)] w fun e w' => e = .returned (seqsV ds) ∧ Below w.heap.size w w' := by
  have c2 := Lib.hid (len_any h)
  obtain ⟨A8, c8, rfl, hc8, hn8⟩ := h.docs_v
  have H := Lib.hid h
  have k3 := h.blk.cell 3
  simp only [List.getElem?_toArray, List.getElem?_cons_zero, List.getElem?_cons_succ] at k3
  clear h
  go_enter Tryz.func24, Tryz.ntmps24
  go_wp2_with fail
  refine c2.out.mono ?_
  rintro e w' ⟨rfl, rfl⟩
  by_cases h0 : ds = []
  · subst h0
    have hz : ((0 : Int) == 0) = true := rfl
    go_wp2
    go_ret2
    exact ⟨rfl, Below.refl _ _⟩
  · have hp := List.length_pos_iff.2 h0
    have hz : ((ds.length : Int) == 0) = false := beq_eq_false_iff_ne.2 (by omega)
    have hzn : (ds.length == 0) = false := beq_eq_false_iff_ne.2 (by omega)
    obtain ⟨g, Fa, fn, fc, e1, hg, q0, qr⟩ := H.out.doc_at hp
    obtain ⟨g', Fa', fn', fc', e2, hg', r0, rr⟩ := H.out.doc_at (i := ds.length - 1) (by omega)
    clear qr rr
    rw [e1] at e2
    injection e2 with e2
    injection e2 with e2 _
    subst e2 e1
    have hs : seqsV ds = .tuple #[.int .i64 ds[0].seq, .int .i64 ds[ds.length - 1].seq] := by
      unfold seqsV
      rw [List.head?_eq_getElem?, List.getLast?_eq_getElem?, List.getElem?_eq_getElem hp, List.getElem?_eq_getElem (by omega)]
      rfl
    have HS := Lib.hid hs
    have hd1 : (ds.length : Int) - 1 = ((ds.length - 1 : Nat) : Int) := by omega
    generalize ds[0].seq = s0 at *
    generalize ds[ds.length - 1].seq = s1 at *
    have hm1 : ds.length - 1 < ds.length := by omega
    have hpz : (0 : Int) < (ds.length : Int) := by omega
    clear hs h0 H c2
    generalize hm : ds.length = m at *
    clear hm
    generalize hm' : m - 1 = m1 at *
    clear hm'
    have hd2 : IntKind.i64.wrap (m1 : Int) = (m1 : Int) := by rw [IntKind.wrap_i64]; omega
    have hd3 : (0 : Int) ≤ (m1 : Int) := by omega
    have hd4 : (m1 : Int) < (m : Int) := by omega
    have q0' : w.cell? ⟨g, 0, none⟩ = some (.int .i64 s0) := by simpa using q0
    clear q0
    go_wp2_with fail
    go_quiet (fail)
    go_wp2
    go_ret2
    exact ⟨congrArg Ending.returned HS.out.symm, below_dn w nq⟩
end
end Go.Proofs.YtioekhiaoajgfaaGreat.Mx
end

section
/- memidx: copied, Doc, Docs: the walks. -/
namespace Go.Proofs.YtioekhiaoajgfaaGreat.Mx
open Go.RowKit Go.Proofs.YtioekhiaoajgfaaGreat Go.Proofs.YtioekhiaoajgfaaGreat.Ut Go.Proofs.YtioekhiaoajgfaaGreat.Tk Go.Proofs.YtioekhiaoajgfaaGreat.Qy Go.Proofs.YtioekhiaoajgfaaGreat.Ev Go.Proofs.YtioekhiaoajgfaaGreat.Qp Go.Proofs.YtioekhiaoajgfaaGreat.Mv
set_option linter.unusedVariables false
set_option linter.unusedSimpArgs false
set_option maxRecDepth 20000

def CopPost (w : World) (d : Dc) (e : Ending) (w' : World) : Prop := ∃ A c, e = .returned (.agg #[.int .i64 d.seq, .int .i64 d.at_, .slice A d.fs.length c]) ∧ d.fs.length ≤ c ∧ (A = none → c = 0) ∧ w'.ownsRow w.heap.size 97 2 (.slice A d.fs.length c) d.fs.length (fldC d.fs) ∧ Below w.heap.size w w'
set_option maxHeartbeats 800000 in
theorem copied_any (d : Dc) (Fa : Option Addr) (fn fc : Nat) (w : World) (hF : Reads w w.heap.size 2 Fa fn (fldC d.fs)) (hl : d.fs.length = fn) (hn : fn ≤ 1048576) (hnil : Fa = none → fc = 0) :
    Calls Tryz.prog 46 #[.agg #[.int .i64 d.seq, .int .i64 d.at_, .slice Fa fn fc]] w (CopPost w d) := by
  subst hl
  obtain ⟨i0, hi0, hz0, hz1, hz2⟩ := info_parts doc_info
  have hB1 : Below w.heap.size w ((w.alloc (.cells #[.int .i64 d.seq, .int .i64 d.at_, .slice Fa d.fs.length fc] 66)).alloc (.cells #[.int .i64 0, .int .i64 0, .slice none 0 0] 66)) := ((Below.refl _ _).alloc (Nat.le_refl _) _).alloc (by simp) _
  have hX := (Blk.new w 66 #[.int .i64 d.seq, .int .i64 d.at_, .slice Fa d.fs.length fc]).alloc (.cells #[.int .i64 0, .int .i64 0, .slice none 0 0] 66)
  have hR := Blk.new (w.alloc (.cells #[.int .i64 d.seq, .int .i64 d.at_, .slice Fa d.fs.length fc] 66)) 66 #[.int .i64 0, .int .i64 0, .slice none 0 0]
  rw [World.size_alloc] at hR
  have c1 := cloneF_any Fa d.fs.length fc d.fs _ ((hF.below hB1).more hB1.size) rfl hn hnil
  have C1 := Lib.hid c1
  have H := Lib.hid (And.intro hX (And.intro hR hB1))
  have x2 := hX.cell 2
  simp only [List.getElem?_toArray, List.getElem?_cons_zero, List.getElem?_cons_succ] at x2
  clear c1 hX hR hB1
  go_enter Tryz.func46, Tryz.ntmps46
  go_wp2_with fail
  refine C1.out.mono ?_
  rintro e w3 ⟨v3, rfl, hown, hb⟩
  obtain ⟨A3, q3, rfl, hR3, hnq3, hnl3, hg3⟩ := own_shape2 hown
  have hX3 := H.out.1.below hb H.out.1.lt
  have hR3' := H.out.2.1.below hb H.out.2.1.lt
  have y0 := hX3.cell 0
  have y1 := hX3.cell 1
  have y2 := hX3.cell 2
  have y2f := hX3.frozen 2
  have z0 := hR3'.cell 0
  simp only [List.getElem?_toArray, List.getElem?_cons_zero, List.getElem?_cons_succ] at y0 y1 y2 z0
  clear x2
  go_upto_region 2 with fail
  have hX4 := hX3.set_ 2 (.slice A3 d.fs.length q3)
  have hR4 : Blk (w3.setCell ⟨w.heap.size, 2, none⟩ (.slice A3 d.fs.length q3)) (w.heap.size + 1) 66 #[.int .i64 0, .int .i64 0, .slice none 0 0] := hR3'.far (by show w.heap.size + 1 ≠ w.heap.size; omega) _
  have hown4 : (w3.setCell ⟨w.heap.size, 2, none⟩ (.slice A3 d.fs.length q3)).ownsRow w.heap.size 97 2 (.slice A3 d.fs.length q3) d.fs.length (fldC d.fs) := own_mono (hown.kept (grownBy_setC w3 w.heap.size 2 _) (.inr (fun e => by have := (hown.lt _ e).1; have := H.out.1.lt; omega))) H.out.2.2.size
  have hb4 : Below w.heap.size w (w3.setCell ⟨w.heap.size, 2, none⟩ (.slice A3 d.fs.length q3)) := (H.out.2.2.trans (hb.mono H.out.2.2.size)).setCell (p := ⟨w.heap.size, 2, none⟩) (Nat.le_refl _) _
  generalize (w3.setCell ⟨w.heap.size, 2, none⟩ (.slice A3 d.fs.length q3)) = w4 at *
  clear y0 y1 y2 y2f z0
  have y0 := hX4.cell 0
  have y1 := hX4.cell 1
  have y2 := hX4.cell 2
  have z0 := hR4.cell 0
  have z1 := hR4.cell 1
  have z2 := hR4.cell 2
  have z0f := hR4.frozen 0
  have z1f := hR4.frozen 1
  have z2f := hR4.frozen 2
  simp at y0 y1 y2 z0 z1 z2
  have HR4 := Lib.hid hR4
  have HO4 := Lib.hid hown4
  have HB4 := Lib.hid hb4
  clear hX4 hR4 hown4 hb4 hX3 hR3' hown hb hR3 hg3 C1 H hF
  go_wp2_with fail
  have hh : Blk (((w4.setCell ⟨w.heap.size + 1, 0, none⟩ (.int .i64 d.seq)).setCell ⟨w.heap.size + 1, 1, none⟩ (.int .i64 d.at_)).setCell ⟨w.heap.size + 1, 2, none⟩ (.slice A3 d.fs.length q3)) (w.heap.size + 1) 66 #[.int .i64 d.seq, .int .i64 d.at_, .slice A3 d.fs.length q3] := by
    have := ((HR4.out.set_ 0 (.int .i64 d.seq)).set_ 1 (.int .i64 d.at_)).set_ 2 (.slice A3 d.fs.length q3)
    simpa using this
  refine bodyPost_ret (results_cell rfl rfl (run_loadVar_row _ (w.heap.size + 1) 66 66 #[.int .i64 d.seq, .int .i64 d.at_, .slice A3 d.fs.length q3] (0, 0) _ hh Tryz.underlying66 rfl (by kernel_rfl))) rfl ⟨A3, q3, rfl, hnq3, hnl3, own_same HO4.out (fun b hb => ?_), ((HB4.out.setCell (p := ⟨w.heap.size + 1, 0, none⟩) (Nat.le_succ _) _).setCell (p := ⟨w.heap.size + 1, 1, none⟩) (Nat.le_succ _) _).setCell (p := ⟨w.heap.size + 1, 2, none⟩) (Nat.le_succ _) _⟩
  have hne : b ≠ w.heap.size + 1 := fun e => by
    subst e
    exact absurd ((tg_own HO4.out hb).one (tg_blk HR4.out)) (by decide)
  exact ((Below.heap_setCell _ ⟨w.heap.size + 1, 2, none⟩ _ b hne).trans (Below.heap_setCell _ ⟨w.heap.size + 1, 1, none⟩ _ b hne)).trans (Below.heap_setCell _ ⟨w.heap.size + 1, 0, none⟩ _ b hne)
/-- What the docs of an index read. -/
theorem Idx.fl_at {w : World} {n0 X M cn : Nat} {A : Option Addr} {m c : Nat} {F : ByteArray → Option Value} {O : Nat → Prop} {ds : List Dc} {sz lo hi : Int} {f : ByteArray → List Po} (h : Idx w n0 X M cn (.slice A m c) F O ds sz lo hi f) {i : Nat} (hi' : i < ds.length) :
    ∃ g Fa fc, A = some ⟨g, 0, none⟩ ∧ g < w.heap.size ∧ w.cell? ⟨g, i * 3, none⟩ = some (.int .i64 ds[i].seq) ∧ w.cell? ⟨g, i * 3 + 1, none⟩ = some (.int .i64 ds[i].at_) ∧ w.cell? ⟨g, i * 3 + 2, none⟩ = some (.slice Fa ds[i].fs.length fc) ∧
      Reads w w.heap.size 2 Fa ds[i].fs.length (fldC ds[i].fs) ∧ (Fa = none → fc = 0) := by
  obtain ⟨g, Fa, fn, fc, e, hg, c0, c1, c2, hr, hl, hn, hc, hnl⟩ := h.doc_at hi'
  subst hl
  exact ⟨g, Fa, fc, e, hg, c0, c1, c2, hr.reads (fun b hb => hb.lt), hnl⟩
/-- What Docs hands back. -/
def DocsP (w : World) (ds : List Dc) (e : Ending) (w' : World) : Prop := ∃ v, e = .returned v ∧ DOwn w' w.heap.size v ds ∧ Below w.heap.size w w'
set_option maxHeartbeats 3200000 in
theorem docsX_any {w : World} {n0 X M cn : Nat} {v : Value} {F : ByteArray → Option Value} {O : Nat → Prop} {ds : List Dc} {sz lo hi : Int} {f : ByteArray → List Po} (h : Idx w n0 X M cn v F O ds sz lo hi f) (hok : Dok ds) (hfew : ds.length ≤ 65536) :
    Calls Tryz.prog 21 #[.pointer (some ⟨X, 0, none⟩)] w (DocsP w ds) := by
  obtain ⟨i0, hi0, hz0, hz1, hz2⟩ := info_parts doc_info
  have c1 := Lib.hid (none_no h)
  obtain ⟨A8, c8, rfl, hc8, hn8⟩ := h.docs_v
  have k3 := h.blk.cell 3
  simp only [List.getElem?_toArray, List.getElem?_cons_zero, List.getElem?_cons_succ] at k3
  have HG : Hid (∀ wx, Below w.heap.size w wx → ∀ i (hi' : i < ds.length), ∃ g Fa fc, A8 = some ⟨g, 0, none⟩ ∧ g < wx.heap.size ∧ wx.cell? ⟨g, i * 3, none⟩ = some (.int .i64 ds[i].seq) ∧ wx.cell? ⟨g, i * 3 + 1, none⟩ = some (.int .i64 ds[i].at_) ∧ wx.cell? ⟨g, i * 3 + 2, none⟩ = some (.slice Fa ds[i].fs.length fc) ∧
      Reads wx wx.heap.size 2 Fa ds[i].fs.length (fldC ds[i].fs) ∧ (Fa = none → fc = 0)) := Lib.hid (fun wx hb i hi' => by
    obtain ⟨g, Fa, fc, e, hg, q0, q1, q2, hr, hnl⟩ := h.fl_at hi'
    exact ⟨g, Fa, fc, e, Nat.lt_of_lt_of_le hg hb.size, (hb.cell hg).trans q0, (hb.cell hg).trans q1, (hb.cell hg).trans q2, (hr.below hb).more hb.size, hnl⟩)
  have OK := Lib.hid hok
  clear h hok
  go_enter Tryz.func21, Tryz.ntmps21
  go_wp2_with fail
  refine c1.out.mono ?_
  rintro e w' ⟨rfl, rfl⟩
  go_wp2_with fail
  go_loopw [3, 13] (fun v i wr => ∃ k : Nat, k ≤ ds.length ∧ i = .int .i64 (k : Nat) ∧ Hid (DOwn wr w.heap.size v (ds.take k)) ∧ Hid (Below w.heap.size w wr)) (fun _ i _ => ds.length - (intOf i).toNat)
  case atStart => exact ⟨0, Nat.zero_le _, rfl, Lib.hid (DOwn.start _ _), Lib.hid (Below.refl _ _)⟩
  case round =>
    obtain ⟨k, hk, rfl, hO, hB⟩ := hrel
    by_cases hlt : k < ds.length
    · have hkz : (k : Int) < (ds.length : Int) := by omega
      have hk0 : (0 : Int) ≤ (k : Int) := by omega
      obtain ⟨g, Fa, fc, rfl, hg, q0, q1, q2, hr, hnl⟩ := HG.out wr hB.out k hlt
      have htk : ds.take (k + 1) = ds.take k ++ [ds[k]] := List.take_succ_eq_append_getElem hlt
      have hlnk : (ds.take k).length = k := by rw [List.length_take]; omega
      have hdk := OK.out _ (List.getElem_mem hlt)
      have hf16 := (chkE_ok hdk.1).1
      have HTK := Lib.hid htk
      have HLK := Lib.hid hlnk
      clear htk hlnk
      generalize ds[k] = d at *
      have hBx : Below wr.heap.size wr (wr.alloc (.cells #[.int .i64 d.seq, .int .i64 d.at_, .slice Fa d.fs.length fc] 66)) := (Below.refl _ _).alloc (Nat.le_refl _) _
      have hbx := Blk.new wr 66 #[.int .i64 d.seq, .int .i64 d.at_, .slice Fa d.fs.length fc]
      have b0 := hbx.cell 0
      have b1 := hbx.cell 1
      have b2 := hbx.cell 2
      simp only [List.getElem?_toArray, List.getElem?_cons_zero, List.getElem?_cons_succ] at b0 b1 b2
      have C2 := Lib.hid (copied_any d Fa d.fs.length fc _ ((hr.below hBx).more hBx.size) rfl (by omega) hnl)
      have HBX := Lib.hid hBx
      have hw := hB.out.size
      clear hr hnl hbx hBx
      go_wp2_with fail
      refine C2.out.mono ?_
      rintro e w3 ⟨A3, q3, rfl, hnq3, hnl3, hown3, hb3⟩
      have hbW : Below wr.heap.size wr w3 := HBX.out.trans (hb3.mono HBX.out.size)
      have hbS : Below wr.heap.size wr (w3.alloc (.cells #[.int .i64 d.seq, .int .i64 d.at_, .slice A3 d.fs.length q3] 66)) := hbW.alloc hbW.size _
      have hO6 := hO.out.below hbS
      obtain ⟨vss, g1, g2, g3⟩ := hO6.ex
      have hown6 := hown3.alloc (.cells #[.int .i64 d.seq, .int .i64 d.at_, .slice A3 d.fs.length q3] 66)
      have hd6 : DcS (w3.alloc (.cells #[.int .i64 d.seq, .int .i64 d.at_, .slice A3 d.fs.length q3] 66)) (Go.Proofs.YtioekhiaoajgfaaGreat.Ev.Fd _ w.heap.size) d [.int .i64 d.seq, .int .i64 d.at_, .slice A3 d.fs.length q3] :=
        ⟨A3, _, q3, rfl, (ReadsS.of_own hown6).mono (fun b hb => ⟨by have := hb.1; have := HBX.out.size; omega, tg_own hown6 hb.2.2⟩), rfl, by omega, hnq3, hnl3⟩
      have Put : Hid (∀ v' w5, w5.ownsRow w.heap.size 66 3 v' (k + 1) (vss.flatten ++ [.int .i64 d.seq, .int .i64 d.at_, .slice A3 d.fs.length q3]) → _ → DOwn w5 w.heap.size v' (ds.take (k + 1))) := Lib.hid (fun v' w5 p1 p2 => by
        rw [HTK.out]
        exact DOwn.put ⟨vss, g1, g2, g3, rfl⟩ (by rw [HLK.out]; exact p1) p2 hd6)
      rw [HLK.out] at g2
      have G2 := Lib.hid g2
      have hzs := hbS.size
      have HBS := Lib.hid hbS
      clear hown6 hbS hO6 g1 g2 g3 hd6 hown3 hnq3 hnl3 hbW q0 q1 q2 b0 b1 b2
      go_wp2_with (at_builtin; refine wpList_append_own _ rfl _ _ 28 rfl w.heap.size 66 i0 _ 3 40 Tryz.underlying28 hi0 hz0 hz1 hz2 rfl (by decide) _ _ _ rfl G2.out ⟨w3.heap.size, 0, none⟩ 1 1 [.int .i64 d.seq, .int .i64 d.at_, .slice A3 d.fs.length q3] rfl rfl ?d1 ?d2 ?d3 ?d4 ?d5 ?_)
      case d1 => exact World.news_of_block (cs := #[.int .i64 d.seq, .int .i64 d.at_, .slice A3 d.fs.length q3]) (t := 66) (fr := (0, 0)) (heap_alloc_new w3 (.cells #[.int .i64 d.seq, .int .i64 d.at_, .slice A3 d.fs.length q3] 66))
      case d2 => simp [Value.oneCell']
      case d3 => unfold maxLen; omega
      case d4 => omega
      case d5 => first | omega | (simp; omega)
      intro v' w5 hown5 hg5 _
      have Fin := Lib.hid (Put.out v' w5 hown5 hg5)
      have hbF : Hid (Below w.heap.size w w5) := Lib.hid ((hB.out.trans (HBS.out.mono hB.out.size)).grown hg5 (by omega) (fun j hj => (G2.out.lt j hj).1))
      clear hown5 hg5
      go_wp2
      go_roundw
      case rel => exact ⟨k + 1, by omega, by go_num, Fin, hbF⟩
      case measure => simp [intOf]; omega
    · obtain rfl : k = ds.length := by omega
      rw [List.take_length] at hO
      go_wp2
      go_ret
      exact ⟨_, rfl, hO.out, hB.out⟩
end Go.Proofs.YtioekhiaoajgfaaGreat.Mx
end
