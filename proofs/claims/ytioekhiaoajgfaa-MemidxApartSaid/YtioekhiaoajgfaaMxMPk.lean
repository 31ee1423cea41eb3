/- The hot index in memory. (No walk.) -/
import Derived.Test.YtioekhiaoajgfaaPkMemidxAddsRow13
import Derived.Test.YtioekhiaoajgfaaEvVPk
import Derived.Test.YtioekhiaoajgfaaEvUPk
namespace Go.Proofs.Ytioekhiaoajgfaa.Mx
open Go.RowKit Go.Proofs.Ytioekhiaoajgfaa Go.Proofs.Ytioekhiaoajgfaa.Ut Go.Proofs.Ytioekhiaoajgfaa.Tk Go.Proofs.Ytioekhiaoajgfaa.Qy Go.Proofs.Ytioekhiaoajgfaa.Ev Go.Proofs.Ytioekhiaoajgfaa.Qp Go.Proofs.Ytioekhiaoajgfaa.Mv
set_option linter.unusedVariables false
set_option linter.unusedSimpArgs false
set_option maxRecDepth 20000

/-- A post in memory: the doc, the row of places, the places. -/
abbrev Pr := Nat × Value × List Nat
def encP (x : Pr) : List Value := [.int .i64 (x.1 : Nat), x.2.1]
def prP (x : Pr) : Po := (x.1, x.2.2)
/-- A row of places that nobody writes. -/
structure PosV (w : World) (x : Pr) : Prop where
  ex : ∃ P pc, x.2.1 = .slice P x.2.2.length pc ∧ x.2.2.length ≤ pc ∧ ReadsS w (fun b => Tg w 3 b) 1 P x.2.2.length (nC x.2.2)
  ne : x.2.2 ≠ []
  sz : x.2.2.length ≤ 65536
theorem PosV.same {w w' : World} {x : Pr} (h : PosV w x) (hk : ∀ b, Tg w 3 b → w'.heap[b]? = w.heap[b]?) : PosV w' x := by
  obtain ⟨P, pc, h1, h2, h3⟩ := h.ex
  exact ⟨⟨P, pc, h1, h2, h3.same (fun b hb => ⟨hb.same (hk b hb), hk b hb⟩)⟩, h.ne, h.sz⟩
/-- A row of posts of the index's own. -/
structure PRow (w : World) (n0 : Nat) (u : Value) (l : List Po) : Prop where
  ex : ∃ xs : List Pr, xs.map prP = l ∧ w.ownsRow n0 52 2 u l.length (xs.flatMap encP) ∧ ∀ x ∈ xs, PosV w x
theorem own_same {w w' : World} {base k n : Nat} {T : TypeId} {v : Value} {xs : List Value} (h : w.ownsRow base T k v n xs) (hk : ∀ b, v.ownBlock = some b → w'.heap[b]? = w.heap[b]?) : w'.ownsRow base T k v n xs :=
  ⟨h.1, h.2.elim .inl (fun ⟨g, cap, cur, hv, hg, hh, r⟩ => .inr ⟨g, cap, cur, hv, hg, (hk g (by rw [hv]; rfl)).trans hh, r⟩)⟩
theorem PRow.same {w w' : World} {n0 : Nat} {u : Value} {l : List Po} (h : PRow w n0 u l) (hk : ∀ b, Tg w 3 b → w'.heap[b]? = w.heap[b]?) (hu : ∀ b, u.ownBlock = some b → w'.heap[b]? = w.heap[b]?) : PRow w' n0 u l := by
  obtain ⟨xs, h1, h2, h3⟩ := h.ex
  exact ⟨xs, h1, own_same h2 hu, fun x hx => (h3 x hx).same hk⟩
theorem PRow.tag {w : World} {n0 : Nat} {u : Value} {l : List Po} (h : PRow w n0 u l) : ∀ b, u.ownBlock = some b → Tg w 52 b ∧ n0 ≤ b := by
  obtain ⟨xs, _, h2, _⟩ := h.ex
  exact fun b hb => ⟨tg_own h2 hb, (h2.lt b hb).1⟩

/-- The index in block X: its row of docs v, its map in block M with the rows F; blocks of O are its own to write. -/
structure Idx (w : World) (n0 X M cn : Nat) (v : Value) (F : ByteArray → Option Value) (O : Nat → Prop) (ds : List Dc) (sz lo hi : Int) (f : ByteArray → List Po) : Prop where
  blk : Blk w X 66 #[.int .i64 sz, .int .i64 lo, .int .i64 hi, v, .map (some M)]
  mp : MapV Try.prog 9 litS w M cn F
  own : ∃ vss : List (List Value), vss.length = ds.length ∧ w.ownsRow n0 43 3 v ds.length vss.flatten ∧ ∀ i (h : i < ds.length) (h' : i < vss.length), DcS w (fun b => Tg w 87 b) ds[i] vss[i]
  rows : ∀ s u, F s = some u → PRow w n0 u (f s) ∧ f s ≠ []
  nof : ∀ s, F s = none → f s = []
  apart : ∀ s t u u' b, s ≠ t → F s = some u → F t = some u' → u.ownBlock = some b → u'.ownBlock ≠ some b
  oX : O X
  oM : O M
  oV : ∀ b, v.ownBlock = some b → O b
  oF : ∀ s u b, F s = some u → u.ownBlock = some b → O b
  lt : ∀ b, O b → n0 ≤ b ∧ b < w.heap.size
section
variable {w w' : World} {n0 X M cn : Nat} {v : Value} {F : ByteArray → Option Value} {O O' : Nat → Prop} {ds : List Dc} {sz lo hi : Int} {f : ByteArray → List Po}
theorem Idx.tgX (h : Idx w n0 X M cn v F O ds sz lo hi f) : Tg w 66 X := ⟨_, _, h.blk⟩
theorem Idx.tgV (h : Idx w n0 X M cn v F O ds sz lo hi f) : ∀ b, v.ownBlock = some b → Tg w 43 b := by
  obtain ⟨vss, _, h2, _⟩ := h.own
  exact fun b hb => tg_own h2 hb
theorem Idx.notM (h : Idx w n0 X M cn v F O ds sz lo hi f) {T : TypeId} {b : Nat} (hb : Tg w T b) : b ≠ M := fun e => by
  subst e
  obtain ⟨es, ck, h1⟩ := h.mp.obj
  obtain ⟨cs, fr, h2⟩ := hb
  rw [h1] at h2
  injection h2 with h2
  cases h2
/-- What stays where only one block is written, of a type that is told, and new ones are made. -/
theorem Idx.turn (h : Idx w n0 X M cn v F O ds sz lo hi f) {r : Nat} (hg : w.grownBy w' (some r)) (hO : ∀ b, O b → O' b) (hL : ∀ b, O' b → n0 ≤ b ∧ b < w'.heap.size)
    (hX : r ≠ X) (hM : r ≠ M) (hV : ∀ b, v.ownBlock = some b → r ≠ b) (hf : ¬ Tg w 87 r) (hi' : ¬ Tg w 3 r) (hF : ∀ s u b, F s = some u → u.ownBlock = some b → r ≠ b) : Idx w' n0 X M cn v F O' ds sz lo hi f := by
  have kp : ∀ b, b < w.heap.size → r ≠ b → w'.heap[b]? = w.heap[b]? := fun b hb hne => hg.block b hb (fun e => hne (by injection e with e; exact e.symm))
  obtain ⟨vss, o1, o2, o3⟩ := h.own
  refine ⟨(kp X h.tgX.lt hX).trans h.blk, h.mp.same (kp M h.mp.lt hM), ⟨vss, o1, own_same o2 (fun b hb => kp b (o2.lt b hb).2 (hV b hb)), fun i a b => (o3 i a b).same (fun b hb => ?_)⟩, fun s u hs => ⟨(h.rows s u hs).1.same (fun b hb => kp b hb.lt (fun e => hi' (e ▸ hb))) (fun b hb => kp b ((h.rows s u hs).1.tag b hb).1.lt (hF s u b hs hb)), (h.rows s u hs).2⟩, h.nof, h.apart, hO _ h.oX, hO _ h.oM, fun b hb => hO _ (h.oV b hb), fun s u b hs hb => hO _ (h.oF s u b hs hb), hL⟩
  have e := kp b hb.lt (fun e => hf (e ▸ hb))
  exact ⟨hb.same e, e⟩
/-- .. where new blocks are made alone. -/
theorem Idx.below (h : Idx w n0 X M cn v F O ds sz lo hi f) (hb : Below w.heap.size w w') (hO : ∀ b, O b → O' b) (hL : ∀ b, O' b → n0 ≤ b ∧ b < w'.heap.size) : Idx w' n0 X M cn v F O' ds sz lo hi f := by
  have kp : ∀ b, b < w.heap.size → w'.heap[b]? = w.heap[b]? := fun b hlt => hb.block b hlt
  obtain ⟨vss, o1, o2, o3⟩ := h.own
  exact ⟨(kp X h.tgX.lt).trans h.blk, h.mp.same (kp M h.mp.lt), ⟨vss, o1, own_same o2 (fun b hb => kp b (o2.lt b hb).2), fun i a b => (o3 i a b).same (fun b hb => ⟨hb.same (kp b hb.lt), kp b hb.lt⟩)⟩, fun s u hs => ⟨(h.rows s u hs).1.same (fun b hb => kp b hb.lt) (fun b hb => kp b ((h.rows s u hs).1.tag b hb).1.lt), (h.rows s u hs).2⟩, h.nof, h.apart, hO _ h.oX, hO _ h.oM, fun b hb => hO _ (h.oV b hb), fun s u b hs hb => hO _ (h.oF s u b hs hb), hL⟩
/-- The numbers are set anew. -/
theorem Idx.nums (h : Idx w n0 X M cn v F O ds sz lo hi f) {sz' lo' hi' : Int} (hg : w.grownBy w' (some X)) (hb : Blk w' X 66 #[.int .i64 sz', .int .i64 lo', .int .i64 hi', v, .map (some M)]) (hL : w'.heap.size = w.heap.size) : Idx w' n0 X M cn v F O ds sz' lo' hi' f := by
  have kp : ∀ {T : TypeId} (b : Nat), Tg w T b → T ≠ 66 → w'.heap[b]? = w.heap[b]? := fun {T} b ht hT => hg.block b ht.lt (fun e => by
    injection e with e
    subst e
    exact hT (ht.one h.tgX))
  obtain ⟨vss, o1, o2, o3⟩ := h.own
  refine ⟨hb, h.mp.same (hg.block M h.mp.lt (fun e => ?_)), ⟨vss, o1, own_same o2 (fun b hb => kp b (tg_own o2 hb) (by decide)), fun i a b => (o3 i a b).same (fun b hb => ⟨hb.same (kp b hb (by decide)), kp b hb (by decide)⟩)⟩, fun s u hs => ⟨(h.rows s u hs).1.same (fun b hb => kp b hb (by decide)) (fun b hb => kp b ((h.rows s u hs).1.tag b hb).1 (by decide)), (h.rows s u hs).2⟩, h.nof, h.apart, h.oX, h.oM, h.oV, h.oF, fun b hb => by rw [hL]; exact h.lt b hb⟩
  injection e with e
  exact h.notM h.tgX e.symm
/-- The row of docs is set anew, behind an append. -/
theorem Idx.docs (h : Idx w n0 X M cn v F O ds sz lo hi f) {w1 : World} {v' : Value} {d : Dc} {vss : List (List Value)} {u : List Value} (hv : vss.length = ds.length ∧ w.ownsRow n0 43 3 v ds.length vss.flatten ∧ ∀ i (h : i < ds.length) (h' : i < vss.length), DcS w (fun b => Tg w 87 b) ds[i] vss[i])
    (hd : DcS w (fun b => Tg w 87 b) d u) (hg : w.grownBy w1 v.ownBlock) (hown : w1.ownsRow n0 43 3 v' (ds.length + 1) (vss.flatten ++ u)) (hat : v'.ownBlock = v.ownBlock ∨ v'.ownBlock = some w.heap.size)
    (hgx : w1.grownBy w' (some X)) (hbx : Blk w' X 66 #[.int .i64 sz, .int .i64 lo, .int .i64 hi, v', .map (some M)]) (hO : ∀ b, O b → O' b) (hN : w.heap.size < w'.heap.size → O' w.heap.size) (hL : ∀ b, O' b → n0 ≤ b ∧ b < w'.heap.size) : Idx w' n0 X M cn v' F O' (ds ++ [d]) sz lo hi f := by
  obtain ⟨o1, o2, o3⟩ := hv
  have kp1 : ∀ {T : TypeId} (b : Nat), Tg w T b → T ≠ 43 → w1.heap[b]? = w.heap[b]? := fun {T} b ht hT => hg.block b ht.lt (fun e => hT (ht.one (tg_own o2 e.symm)))
  have kp2 : ∀ {T : TypeId} (b : Nat), Tg w1 T b → T ≠ 66 → w'.heap[b]? = w1.heap[b]? := fun {T} b ht hT => hgx.block b ht.lt (fun e => by
    injection e with e
    subst e
    exact hT (ht.one (h.tgX.same (kp1 _ h.tgX (by decide)))))
  have kp : ∀ {T : TypeId} (b : Nat), Tg w T b → T ≠ 43 → T ≠ 66 → w'.heap[b]? = w.heap[b]? := fun {T} b ht h1 h2 => (kp2 b (ht.same (kp1 b ht h1)) h2).trans (kp1 b ht h1)
  have hM : w'.heap[M]? = w.heap[M]? := by
    have e1 : w1.heap[M]? = w.heap[M]? := hg.block M h.mp.lt (fun e => h.notM (tg_own o2 e.symm) rfl)
    refine (hgx.block M (by have := hg.size; have := h.mp.lt; omega) (fun e => ?_)).trans e1
    injection e with e
    exact h.notM h.tgX e.symm
  have fl : ∀ b, Tg w 87 b → Tg w' 87 b ∧ w'.heap[b]? = w.heap[b]? := fun b hb => ⟨hb.same (kp b hb (by decide) (by decide)), kp b hb (by decide) (by decide)⟩
  refine ⟨hbx, h.mp.same hM, ⟨vss ++ [u], by simp [o1], ?_, fun i a b => ?_⟩, fun s u hs => ⟨(h.rows s u hs).1.same (fun b hb => kp b hb (by decide) (by decide)) (fun b hb => kp b ((h.rows s u hs).1.tag b hb).1 (by decide) (by decide)), (h.rows s u hs).2⟩, h.nof, h.apart, hO _ h.oX, hO _ h.oM, fun b hb => ?_, fun s u b hs hb => hO _ (h.oF s u b hs hb), hL⟩
  · rw [List.flatten_append, List.length_append]
    have := own_same (w' := w') hown (fun b hb => kp2 b (tg_own hown hb) (by decide))
    simpa using this
  · by_cases hi : i < ds.length
    · rw [List.getElem_append_left hi, List.getElem_append_left (by omega)]
      exact (o3 i hi (by omega)).same fl
    · have hi' : i = ds.length := by simp at a; omega
      subst hi'
      rw [List.getElem_append_right (by omega), List.getElem_append_right (by omega)]
      simp only [Nat.sub_self, o1, List.getElem_cons_zero]
      exact hd.same fl
  · rcases hat with e | e
    · exact hO _ (h.oV b (e ▸ hb))
    · have h9 := (hown.lt _ e).2
      rw [e] at hb
      injection hb with hb
      subst hb
      have := hgx.size
      exact hN (by omega)
/-- A post more: an append, and the store into the map. -/
theorem Idx.post (h : Idx w n0 X M cn v F O ds sz lo hi f) {w1 : World} {s : ByteArray} {u : Value} {xs : List Pr} {x : Pr} {u' : Value} (hu : F s = some u ∨ (F s = Option.none ∧ u = .slice Option.none 0 0)) (hxs : xs.map prP = f s) (hxp : ∀ y ∈ xs, PosV w y) (hx : PosV w x)
    (hown : w.ownsRow n0 52 2 u (f s).length (xs.flatMap encP)) (hg : w.grownBy w1 u.ownBlock) (hown' : w1.ownsRow n0 52 2 u' ((f s).length + 1) (xs.flatMap encP ++ encP x)) (hat : u'.ownBlock = u.ownBlock ∨ u'.ownBlock = some w.heap.size)
    (hgm : w1.grownBy w' (some M)) (hm : MapV Try.prog 9 litS w' M (cn + 1) (putV F s u')) (hO : ∀ b, O b → O' b) (hN : w.heap.size < w'.heap.size → O' w.heap.size) (hL : ∀ b, O' b → n0 ≤ b ∧ b < w'.heap.size) : Idx w' n0 X M (cn + 1) v (putV F s u') O' ds sz lo hi (fun t => if t = s then f t ++ [prP x] else f t) := by
  obtain ⟨vss, o1, o2, o3⟩ := h.own
  have hut : ∀ b, u.ownBlock = some b → Tg w 52 b := fun b hb => tg_own hown hb
  have kp : ∀ {T : TypeId} (b : Nat), Tg w T b → u.ownBlock ≠ some b → w'.heap[b]? = w.heap[b]? := fun {T} b ht hne => by
    have e1 : w1.heap[b]? = w.heap[b]? := hg.block b ht.lt (fun e => hne e.symm)
    refine (hgm.block b (by have := hg.size; have := ht.lt; omega) (fun e => ?_)).trans e1
    injection e with e
    exact h.notM ht e
  have kt : ∀ {T : TypeId} (b : Nat), Tg w T b → T ≠ 52 → w'.heap[b]? = w.heap[b]? := fun {T} b ht hT => kp b ht (fun e => hT (ht.one (hut b e)))
  have fl : ∀ b, Tg w 87 b → Tg w' 87 b ∧ w'.heap[b]? = w.heap[b]? := fun b hb => ⟨hb.same (kt b hb (by decide)), kt b hb (by decide)⟩
  -- what the other rows' blocks are not
  have oth : ∀ t r b, t ≠ s → F t = some r → r.ownBlock = some b → u.ownBlock ≠ some b := fun t r b hne ht hb e => by
    rcases hu with hu | ⟨_, rfl⟩
    · exact h.apart s t u r b (fun e => hne e.symm) hu ht e hb
    · cases e
  have hown3 : w'.ownsRow n0 52 2 u' ((f s).length + 1) (xs.flatMap encP ++ encP x) := own_same hown' (fun b hb => by
    have ht := tg_own hown' hb
    refine hgm.block b ht.lt (fun e => ?_)
    injection e with e
    subst e
    obtain ⟨es, ck, h1⟩ := h.mp.obj
    have e1 : w1.heap[b]? = w.heap[b]? := hg.block b h.mp.lt (fun e => h.notM (hut b e.symm) rfl)
    obtain ⟨cs, fr, h2⟩ := ht
    rw [e1, h1] at h2
    injection h2 with h2
    cases h2)
  refine ⟨(kt X h.tgX (by decide)).trans h.blk, hm, ⟨vss, o1, own_same o2 (fun b hb => kt b (tg_own o2 hb) (by decide)), fun i a b => (o3 i a b).same fl⟩, fun t r ht => ?_, fun t ht => ?_, fun t t' r r' b hne ht ht' hb => ?_, hO _ h.oX, hO _ h.oM, fun b hb => hO _ (h.oV b hb), fun t r b ht hb => ?_, hL⟩
  · unfold putV at ht
    by_cases e : t = s
    · subst e
      rw [if_pos rfl] at ht
      injection ht with ht
      subst ht
      simp only [if_true]
      refine ⟨⟨xs ++ [x], by simp [hxs], ?_, fun y hy => ?_⟩, by simp⟩
      · rw [List.flatMap_append, List.length_append]
        simpa using hown3
      · rcases List.mem_append.1 hy with hy | hy
        · exact (hxp y hy).same (fun b hb => kt b hb (by decide))
        · rw [List.mem_singleton] at hy; subst hy
          exact hx.same (fun b hb => kt b hb (by decide))
    · rw [if_neg e] at ht
      simp only [e, if_false]
      have hr := h.rows t r ht
      exact ⟨hr.1.same (fun b hb => kt b hb (by decide)) (fun b hb => kp b (hr.1.tag b hb).1 (oth t r b e ht hb)), hr.2⟩
  · unfold putV at ht
    by_cases e : t = s
    · rw [if_pos e] at ht; cases ht
    · rw [if_neg e] at ht
      simp only [e, if_false]
      exact h.nof t ht
  · unfold putV at ht ht'
    -- a new row's block is that of the elder row, or a new one
    have nw : ∀ b, u'.ownBlock = some b → u.ownBlock = some b ∨ b = w.heap.size := fun b hb => by
      rcases hat with e | e
      · exact .inl (e ▸ hb)
      · rw [e] at hb; injection hb with hb; exact .inr hb.symm
    by_cases e : t = s
    · rw [if_pos e] at ht
      injection ht with ht
      subst ht
      have e' : t' ≠ s := fun e2 => hne (by rw [e, e2])
      rw [if_neg e'] at ht'
      intro hb'
      rcases nw b hb with h1 | h1
      · exact oth t' r' b e' ht' hb' h1
      · have := ((h.rows t' r' ht').1.tag b hb').1.lt
        omega
    · rw [if_neg e] at ht
      by_cases e' : t' = s
      · rw [if_pos e'] at ht'
        injection ht' with ht'
        subst ht'
        intro hb'
        rcases nw b hb' with h1 | h1
        · exact oth t r b e ht hb h1
        · have := ((h.rows t r ht).1.tag b hb).1.lt
          omega
      · rw [if_neg e'] at ht'
        exact h.apart t t' r r' b hne ht ht' hb
  · unfold putV at ht
    by_cases e : t = s
    · rw [if_pos e] at ht
      injection ht with ht
      subst ht
      rcases hat with e2 | e2
      · rw [e2] at hb
        rcases hu with hu | ⟨_, rfl⟩
        · exact hO _ (h.oF s u b hu hb)
        · cases hb
      · have h9 := (hown'.lt _ e2).2
        rw [e2] at hb
        injection hb with hb
        subst hb
        have := hgm.size
        exact hN (by omega)
    · rw [if_neg e] at ht
      exact hO _ (h.oF t r b ht hb)
theorem Idx.congr (h : Idx w n0 X M cn v F O ds sz lo hi f) {f' : ByteArray → List Po} (e : ∀ s, f s = f' s) : Idx w n0 X M cn v F O ds sz lo hi f' :=
  ⟨h.blk, h.mp, h.own, fun s u hs => by rw [← e]; exact h.rows s u hs, fun s hs => by rw [← e]; exact h.nof s hs, h.apart, h.oX, h.oM, h.oV, h.oF, h.lt⟩
end
end Go.Proofs.Ytioekhiaoajgfaa.Mx
