/- The hot index in memory. (No walk.) -/
import Derived.Deep.RegionHeld3
import Derived.Deep.RegionLaw
import Derived.Test.YtdloacfoegjnmaaGreatPkGroupIndexesRow13
import Derived.Test.YtdloacfoegjnmaaGreatEvVPk
import Derived.Test.YtdloacfoegjnmaaGreatEvUPk
import Derived.Test.YtdloacfoegjnmaaGreatPkGroupIndexesRow12
section
namespace Go.Proofs.YtdloacfoegjnmaaGreat.Mx
open Go.RowKit Go.Proofs.YtdloacfoegjnmaaGreat Go.Proofs.YtdloacfoegjnmaaGreat.Ut Go.Proofs.YtdloacfoegjnmaaGreat.Tk Go.Proofs.YtdloacfoegjnmaaGreat.Qy Go.Proofs.YtdloacfoegjnmaaGreat.Ev Go.Proofs.YtdloacfoegjnmaaGreat.Qp Go.Proofs.YtdloacfoegjnmaaGreat.Mv
set_option linter.unusedVariables false
set_option linter.unusedSimpArgs false
set_option maxRecDepth 20000

/-- A post in memory: the doc, the row of places, the places. -/
abbrev Pr := Nat × Value × List Nat
def encP (x : Pr) : List Value := [.int .i64 (x.1 : Nat), x.2.1]
def prP (x : Pr) : Po := (x.1, x.2.2)
/-- A row of places that nobody writes. -/
structure PosV (w : World) (x : Pr) : Prop where
  ex : ∃ P pc, x.2.1 = .slice P x.2.2.length pc ∧ x.2.2.length ≤ pc ∧ ReadsS w (fun b => Tg w 3 b) 1 P x.2.2.length (nC x.2.2)
  ne : x.2.2 ≠ []
  sz : x.2.2.length ≤ 65536
theorem PosV.same {w w' : World} {x : Pr} (h : PosV w x) (hk : ∀ b, Tg w 3 b → w'.heap[b]? = w.heap[b]?) : PosV w' x := by
  obtain ⟨P, pc, h1, h2, h3⟩ := h.ex
  exact ⟨⟨P, pc, h1, h2, h3.same (fun b hb => ⟨hb.same (hk b hb), hk b hb⟩)⟩, h.ne, h.sz⟩
/-- A row of posts of the index's own. -/
structure PRow (w : World) (n0 : Nat) (u : Value) (l : List Po) : Prop where
  ex : ∃ xs : List Pr, xs.map prP = l ∧ w.ownsRow n0 73 2 u l.length (xs.flatMap encP) ∧ ∀ x ∈ xs, PosV w x
theorem own_same {w w' : World} {base k n : Nat} {T : TypeId} {v : Value} {xs : List Value} (h : w.ownsRow base T k v n xs) (hk : ∀ b, v.ownBlock = some b → w'.heap[b]? = w.heap[b]?) : w'.ownsRow base T k v n xs :=
  ⟨h.1, h.2.elim .inl (fun ⟨g, cap, cur, hv, hg, hh, r⟩ => .inr ⟨g, cap, cur, hv, hg, (hk g (by rw [hv]; rfl)).trans hh, r⟩)⟩
theorem PRow.same {w w' : World} {n0 : Nat} {u : Value} {l : List Po} (h : PRow w n0 u l) (hk : ∀ b, Tg w 3 b → w'.heap[b]? = w.heap[b]?) (hu : ∀ b, u.ownBlock = some b → w'.heap[b]? = w.heap[b]?) : PRow w' n0 u l := by
  obtain ⟨xs, h1, h2, h3⟩ := h.ex
  exact ⟨xs, h1, own_same h2 hu, fun x hx => (h3 x hx).same hk⟩
theorem PRow.tag {w : World} {n0 : Nat} {u : Value} {l : List Po} (h : PRow w n0 u l) : ∀ b, u.ownBlock = some b → Tg w 73 b ∧ n0 ≤ b := by
  obtain ⟨xs, _, h2, _⟩ := h.ex
  exact fun b hb => ⟨tg_own h2 hb, (h2.lt b hb).1⟩

/-- The index in block X: its row of docs v, its map in block M with the rows F; blocks of O are its own to write. -/
structure Idx (w : World) (n0 X M cn : Nat) (v : Value) (F : ByteArray → Option Value) (O : Nat → Prop) (ds : List Dc) (sz lo hi : Int) (f : ByteArray → List Po) : Prop where
  blk : Blk w X 48 #[.int .i64 sz, .int .i64 lo, .int .i64 hi, v, .map (some M)]
  mp : MapV Tryz.prog 9 litS w M cn F
  own : ∃ vss : List (List Value), vss.length = ds.length ∧ w.ownsRow n0 57 3 v ds.length vss.flatten ∧ ∀ i (h : i < ds.length) (h' : i < vss.length), DcS w (fun b => Tg w 89 b) ds[i] vss[i]
  rows : ∀ s u, F s = some u → PRow w n0 u (f s) ∧ f s ≠ []
  nof : ∀ s, F s = none → f s = []
  apart : ∀ s t u u' b, s ≠ t → F s = some u → F t = some u' → u.ownBlock = some b → u'.ownBlock ≠ some b
  oX : O X
  oM : O M
  oV : ∀ b, v.ownBlock = some b → O b
  oF : ∀ s u b, F s = some u → u.ownBlock = some b → O b
  lt : ∀ b, O b → n0 ≤ b ∧ b < w.heap.size
section
variable {w w' : World} {n0 X M cn : Nat} {v : Value} {F : ByteArray → Option Value} {O O' : Nat → Prop} {ds : List Dc} {sz lo hi : Int} {f : ByteArray → List Po}
theorem Idx.tgX (h : Idx w n0 X M cn v F O ds sz lo hi f) : Tg w 48 X := ⟨_, _, h.blk⟩
theorem Idx.tgV (h : Idx w n0 X M cn v F O ds sz lo hi f) : ∀ b, v.ownBlock = some b → Tg w 57 b := by
  obtain ⟨vss, _, h2, _⟩ := h.own
  exact fun b hb => tg_own h2 hb
theorem Idx.notM (h : Idx w n0 X M cn v F O ds sz lo hi f) {T : TypeId} {b : Nat} (hb : Tg w T b) : b ≠ M := fun e => by
  subst e
  obtain ⟨es, ck, h1⟩ := h.mp.obj
  obtain ⟨cs, fr, h2⟩ := hb
  rw [h1] at h2
  injection h2 with h2
  cases h2
/-- What stays where only one block is written, of a type that is told, and new ones are made. -/
theorem Idx.turn (h : Idx w n0 X M cn v F O ds sz lo hi f) {r : Nat} (hg : w.grownBy w' (some r)) (hO : ∀ b, O b → O' b) (hL : ∀ b, O' b → n0 ≤ b ∧ b < w'.heap.size)
    (hX : r ≠ X) (hM : r ≠ M) (hV : ∀ b, v.ownBlock = some b → r ≠ b) (hf : ¬ Tg w 89 r) (hi' : ¬ Tg w 3 r) (hF : ∀ s u b, F s = some u → u.ownBlock = some b → r ≠ b) : Idx w' n0 X M cn v F O' ds sz lo hi f := by
  have kp : ∀ b, b < w.heap.size → r ≠ b → w'.heap[b]? = w.heap[b]? := fun b hb hne => hg.block b hb (fun e => hne (by injection e with e; exact e.symm))
  obtain ⟨vss, o1, o2, o3⟩ := h.own
  refine ⟨(kp X h.tgX.lt hX).trans h.blk, h.mp.same (kp M h.mp.lt hM), ⟨vss, o1, own_same o2 (fun b hb => kp b (o2.lt b hb).2 (hV b hb)), fun i a b => (o3 i a b).same (fun b hb => ?_)⟩, fun s u hs => ⟨(h.rows s u hs).1.same (fun b hb => kp b hb.lt (fun e => hi' (e ▸ hb))) (fun b hb => kp b ((h.rows s u hs).1.tag b hb).1.lt (hF s u b hs hb)), (h.rows s u hs).2⟩, h.nof, h.apart, hO _ h.oX, hO _ h.oM, fun b hb => hO _ (h.oV b hb), fun s u b hs hb => hO _ (h.oF s u b hs hb), hL⟩
  have e := kp b hb.lt (fun e => hf (e ▸ hb))
  exact ⟨hb.same e, e⟩
/-- .. where new blocks are made alone. -/
theorem Idx.below (h : Idx w n0 X M cn v F O ds sz lo hi f) (hb : Below w.heap.size w w') (hO : ∀ b, O b → O' b) (hL : ∀ b, O' b → n0 ≤ b ∧ b < w'.heap.size) : Idx w' n0 X M cn v F O' ds sz lo hi f := by
  have kp : ∀ b, b < w.heap.size → w'.heap[b]? = w.heap[b]? := fun b hlt => hb.block b hlt
  obtain ⟨vss, o1, o2, o3⟩ := h.own
  exact ⟨(kp X h.tgX.lt).trans h.blk, h.mp.same (kp M h.mp.lt), ⟨vss, o1, own_same o2 (fun b hb => kp b (o2.lt b hb).2), fun i a b => (o3 i a b).same (fun b hb => ⟨hb.same (kp b hb.lt), kp b hb.lt⟩)⟩, fun s u hs => ⟨(h.rows s u hs).1.same (fun b hb => kp b hb.lt) (fun b hb => kp b ((h.rows s u hs).1.tag b hb).1.lt), (h.rows s u hs).2⟩, h.nof, h.apart, hO _ h.oX, hO _ h.oM, fun b hb => hO _ (h.oV b hb), fun s u b hs hb => hO _ (h.oF s u b hs hb), hL⟩
/-- The numbers are set anew. -/
theorem Idx.nums (h : Idx w n0 X M cn v F O ds sz lo hi f) {sz' lo' hi' : Int} (hg : w.grownBy w' (some X)) (hb : Blk w' X 48 #[.int .i64 sz', .int .i64 lo', .int .i64 hi', v, .map (some M)]) (hL : w'.heap.size = w.heap.size) : Idx w' n0 X M cn v F O ds sz' lo' hi' f := by
  have kp : ∀ {T : TypeId} (b : Nat), Tg w T b → T ≠ 48 → w'.heap[b]? = w.heap[b]? := fun {T} b ht hT => hg.block b ht.lt (fun e => by
    injection e with e
    subst e
    exact hT (ht.one h.tgX))
  obtain ⟨vss, o1, o2, o3⟩ := h.own
  refine ⟨hb, h.mp.same (hg.block M h.mp.lt (fun e => ?_)), ⟨vss, o1, own_same o2 (fun b hb => kp b (tg_own o2 hb) (by decide)), fun i a b => (o3 i a b).same (fun b hb => ⟨hb.same (kp b hb (by decide)), kp b hb (by decide)⟩)⟩, fun s u hs => ⟨(h.rows s u hs).1.same (fun b hb => kp b hb (by decide)) (fun b hb => kp b ((h.rows s u hs).1.tag b hb).1 (by decide)), (h.rows s u hs).2⟩, h.nof, h.apart, h.oX, h.oM, h.oV, h.oF, fun b hb => by rw [hL]; exact h.lt b hb⟩
  injection e with e
  exact h.notM h.tgX e.symm
/-- The row of docs is set anew, behind an append. -/
theorem Idx.docs (h : Idx w n0 X M cn v F O ds sz lo hi f) {w1 : World} {v' : Value} {d : Dc} {vss : List (List Value)} {u : List Value} (hv : vss.length = ds.length ∧ w.ownsRow n0 57 3 v ds.length vss.flatten ∧ ∀ i (h : i < ds.length) (h' : i < vss.length), DcS w (fun b => Tg w 89 b) ds[i] vss[i])
    (hd : DcS w (fun b => Tg w 89 b) d u) (hg : w.grownBy w1 v.ownBlock) (hown : w1.ownsRow n0 57 3 v' (ds.length + 1) (vss.flatten ++ u)) (hat : v'.ownBlock = v.ownBlock ∨ v'.ownBlock = some w.heap.size)
    (hgx : w1.grownBy w' (some X)) (hbx : Blk w' X 48 #[.int .i64 sz, .int .i64 lo, .int .i64 hi, v', .map (some M)]) (hO : ∀ b, O b → O' b) (hN : w.heap.size < w'.heap.size → O' w.heap.size) (hL : ∀ b, O' b → n0 ≤ b ∧ b < w'.heap.size) : Idx w' n0 X M cn v' F O' (ds ++ [d]) sz lo hi f := by
  obtain ⟨o1, o2, o3⟩ := hv
  have kp1 : ∀ {T : TypeId} (b : Nat), Tg w T b → T ≠ 57 → w1.heap[b]? = w.heap[b]? := fun {T} b ht hT => hg.block b ht.lt (fun e => hT (ht.one (tg_own o2 e.symm)))
  have kp2 : ∀ {T : TypeId} (b : Nat), Tg w1 T b → T ≠ 48 → w'.heap[b]? = w1.heap[b]? := fun {T} b ht hT => hgx.block b ht.lt (fun e => by
    injection e with e
    subst e
    exact hT (ht.one (h.tgX.same (kp1 _ h.tgX (by decide)))))
  have kp : ∀ {T : TypeId} (b : Nat), Tg w T b → T ≠ 57 → T ≠ 48 → w'.heap[b]? = w.heap[b]? := fun {T} b ht h1 h2 => (kp2 b (ht.same (kp1 b ht h1)) h2).trans (kp1 b ht h1)
  have hM : w'.heap[M]? = w.heap[M]? := by
    have e1 : w1.heap[M]? = w.heap[M]? := hg.block M h.mp.lt (fun e => h.notM (tg_own o2 e.symm) rfl)
    refine (hgx.block M (by have := hg.size; have := h.mp.lt; omega) (fun e => ?_)).trans e1
    injection e with e
    exact h.notM h.tgX e.symm
  have fl : ∀ b, Tg w 89 b → Tg w' 89 b ∧ w'.heap[b]? = w.heap[b]? := fun b hb => ⟨hb.same (kp b hb (by decide) (by decide)), kp b hb (by decide) (by decide)⟩
  refine ⟨hbx, h.mp.same hM, ⟨vss ++ [u], by simp [o1], ?_, fun i a b => ?_⟩, fun s u hs => ⟨(h.rows s u hs).1.same (fun b hb => kp b hb (by decide) (by decide)) (fun b hb => kp b ((h.rows s u hs).1.tag b hb).1 (by decide) (by decide)), (h.rows s u hs).2⟩, h.nof, h.apart, hO _ h.oX, hO _ h.oM, fun b hb => ?_, fun s u b hs hb => hO _ (h.oF s u b hs hb), hL⟩
  · rw [List.flatten_append, List.length_append]
    have := own_same (w' := w') hown (fun b hb => kp2 b (tg_own hown hb) (by decide))
    simpa using this
  · by_cases hi : i < ds.length
    · rw [List.getElem_append_left hi, List.getElem_append_left (by omega)]
      exact (o3 i hi (by omega)).same fl
    · have hi' : i = ds.length := by simp at a; omega
      subst hi'
      rw [List.getElem_append_right (by omega), List.getElem_append_right (by omega)]
      simp only [Nat.sub_self, o1, List.getElem_cons_zero]
      exact hd.same fl
  · rcases hat with e | e
    · exact hO _ (h.oV b (e ▸ hb))
    · have h9 := (hown.lt _ e).2
      rw [e] at hb
      injection hb with hb
      subst hb
      have := hgx.size
      exact hN (by omega)
/-- A post more: an append, and the store into the map. -/
theorem Idx.post (h : Idx w n0 X M cn v F O ds sz lo hi f) {w1 : World} {s : ByteArray} {u : Value} {xs : List Pr} {x : Pr} {u' : Value} (hu : F s = some u ∨ (F s = Option.none ∧ u = .slice Option.none 0 0)) (hxs : xs.map prP = f s) (hxp : ∀ y ∈ xs, PosV w y) (hx : PosV w x)
    (hown : w.ownsRow n0 73 2 u (f s).length (xs.flatMap encP)) (hg : w.grownBy w1 u.ownBlock) (hown' : w1.ownsRow n0 73 2 u' ((f s).length + 1) (xs.flatMap encP ++ encP x)) (hat : u'.ownBlock = u.ownBlock ∨ u'.ownBlock = some w.heap.size)
    (hgm : w1.grownBy w' (some M)) (hm : MapV Tryz.prog 9 litS w' M (cn + 1) (putV F s u')) (hO : ∀ b, O b → O' b) (hN : w.heap.size < w'.heap.size → O' w.heap.size) (hL : ∀ b, O' b → n0 ≤ b ∧ b < w'.heap.size) : Idx w' n0 X M (cn + 1) v (putV F s u') O' ds sz lo hi (fun t => if t = s then f t ++ [prP x] else f t) := by
  obtain ⟨vss, o1, o2, o3⟩ := h.own
  have hut : ∀ b, u.ownBlock = some b → Tg w 73 b := fun b hb => tg_own hown hb
  have kp : ∀ {T : TypeId} (b : Nat), Tg w T b → u.ownBlock ≠ some b → w'.heap[b]? = w.heap[b]? := fun {T} b ht hne => by
    have e1 : w1.heap[b]? = w.heap[b]? := hg.block b ht.lt (fun e => hne e.symm)
    refine (hgm.block b (by have := hg.size; have := ht.lt; omega) (fun e => ?_)).trans e1
    injection e with e
    exact h.notM ht e
  have kt : ∀ {T : TypeId} (b : Nat), Tg w T b → T ≠ 73 → w'.heap[b]? = w.heap[b]? := fun {T} b ht hT => kp b ht (fun e => hT (ht.one (hut b e)))
  have fl : ∀ b, Tg w 89 b → Tg w' 89 b ∧ w'.heap[b]? = w.heap[b]? := fun b hb => ⟨hb.same (kt b hb (by decide)), kt b hb (by decide)⟩
  -- what the other rows' blocks are not
  have oth : ∀ t r b, t ≠ s → F t = some r → r.ownBlock = some b → u.ownBlock ≠ some b := fun t r b hne ht hb e => by
    rcases hu with hu | ⟨_, rfl⟩
    · exact h.apart s t u r b (fun e => hne e.symm) hu ht e hb
    · cases e
  have hown3 : w'.ownsRow n0 73 2 u' ((f s).length + 1) (xs.flatMap encP ++ encP x) := own_same hown' (fun b hb => by
    have ht := tg_own hown' hb
    refine hgm.block b ht.lt (fun e => ?_)
    injection e with e
    subst e
    obtain ⟨es, ck, h1⟩ := h.mp.obj
    have e1 : w1.heap[b]? = w.heap[b]? := hg.block b h.mp.lt (fun e => h.notM (hut b e.symm) rfl)
    obtain ⟨cs, fr, h2⟩ := ht
    rw [e1, h1] at h2
    injection h2 with h2
    cases h2)
  refine ⟨(kt X h.tgX (by decide)).trans h.blk, hm, ⟨vss, o1, own_same o2 (fun b hb => kt b (tg_own o2 hb) (by decide)), fun i a b => (o3 i a b).same fl⟩, fun t r ht => ?_, fun t ht => ?_, fun t t' r r' b hne ht ht' hb => ?_, hO _ h.oX, hO _ h.oM, fun b hb => hO _ (h.oV b hb), fun t r b ht hb => ?_, hL⟩
  · unfold putV at ht
    by_cases e : t = s
    · subst e
      rw [if_pos rfl] at ht
      injection ht with ht
      subst ht
      simp only [if_true]
      refine ⟨⟨xs ++ [x], by simp [hxs], ?_, fun y hy => ?_⟩, by simp⟩
      · rw [List.flatMap_append, List.length_append]
        simpa using hown3
      · rcases List.mem_append.1 hy with hy | hy
        · exact (hxp y hy).same (fun b hb => kt b hb (by decide))
        · rw [List.mem_singleton] at hy; subst hy
          exact hx.same (fun b hb => kt b hb (by decide))
    · rw [if_neg e] at ht
      simp only [e, if_false]
      have hr := h.rows t r ht
      exact ⟨hr.1.same (fun b hb => kt b hb (by decide)) (fun b hb => kp b (hr.1.tag b hb).1 (oth t r b e ht hb)), hr.2⟩
  · unfold putV at ht
    by_cases e : t = s
    · rw [if_pos e] at ht; cases ht
    · rw [if_neg e] at ht
      simp only [e, if_false]
      exact h.nof t ht
  · unfold putV at ht ht'
    -- a new row's block is that of the elder row, or a new one
    have nw : ∀ b, u'.ownBlock = some b → u.ownBlock = some b ∨ b = w.heap.size := fun b hb => by
      rcases hat with e | e
      · exact .inl (e ▸ hb)
      · rw [e] at hb; injection hb with hb; exact .inr hb.symm
    by_cases e : t = s
    · rw [if_pos e] at ht
      injection ht with ht
      subst ht
      have e' : t' ≠ s := fun e2 => hne (by rw [e, e2])
      rw [if_neg e'] at ht'
      intro hb'
      rcases nw b hb with h1 | h1
      · exact oth t' r' b e' ht' hb' h1
      · have := ((h.rows t' r' ht').1.tag b hb').1.lt
        omega
    · rw [if_neg e] at ht
      by_cases e' : t' = s
      · rw [if_pos e'] at ht'
        injection ht' with ht'
        subst ht'
        intro hb'
        rcases nw b hb' with h1 | h1
        · exact oth t r b e ht hb h1
        · have := ((h.rows t r ht).1.tag b hb).1.lt
          omega
      · rw [if_neg e'] at ht'
        exact h.apart t t' r r' b hne ht ht' hb
  · unfold putV at ht
    by_cases e : t = s
    · rw [if_pos e] at ht
      injection ht with ht
      subst ht
      rcases hat with e2 | e2
      · rw [e2] at hb
        rcases hu with hu | ⟨_, rfl⟩
        · exact hO _ (h.oF s u b hu hb)
        · cases hb
      · have h9 := (hown'.lt _ e2).2
        rw [e2] at hb
        injection hb with hb
        subst hb
        have := hgm.size
        exact hN (by omega)
    · rw [if_neg e] at ht
      exact hO _ (h.oF t r b ht hb)
theorem Idx.congr (h : Idx w n0 X M cn v F O ds sz lo hi f) {f' : ByteArray → List Po} (e : ∀ s, f s = f' s) : Idx w n0 X M cn v F O ds sz lo hi f' :=
  ⟨h.blk, h.mp, h.own, fun s u hs => by rw [← e]; exact h.rows s u hs, fun s hs => by rw [← e]; exact h.nof s hs, h.apart, h.oX, h.oM, h.oV, h.oF, h.lt⟩
end
end Go.Proofs.YtdloacfoegjnmaaGreat.Mx
end

section
/- memidx.New, none: the walks. -/
namespace Go.Proofs.YtdloacfoegjnmaaGreat.Mx
open Go.RowKit Go.Proofs.YtdloacfoegjnmaaGreat Go.Proofs.YtdloacfoegjnmaaGreat.Ut Go.Proofs.YtdloacfoegjnmaaGreat.Tk Go.Proofs.YtdloacfoegjnmaaGreat.Qy Go.Proofs.YtdloacfoegjnmaaGreat.Ev Go.Proofs.YtdloacfoegjnmaaGreat.Qp Go.Proofs.YtdloacfoegjnmaaGreat.Mv
set_option linter.unusedVariables false
set_option linter.unusedSimpArgs false
set_option maxRecDepth 20000

theorem eql_some (b : Nat) (w : World) : (binOp .eql 46 (.map (some b)) (.map none)).run Tryz.prog w = .ok (.bool false) w := by kernel_rfl
theorem eql_none (w : World) : (binOp .eql 46 (.map none) (.map none)).run Tryz.prog w = .ok (.bool true) w := by kernel_rfl
theorem mk_map (w : World) : (Instr.makeMap 46 none).run Tryz.prog w = .ok (.map (some w.heap.size)) (w.alloc (.map #[] 0)) := rfl
def NewPost (w : World) (e : Ending) (w' : World) : Prop := e = .returned (.pointer (some ⟨w.heap.size + 1, 0, none⟩)) ∧ Below w.heap.size w w' ∧ Idx w' w.heap.size (w.heap.size + 1) w.heap.size 0 (.slice none 0 0) noV (fun b => w.heap.size ≤ b ∧ b < w'.heap.size) [] 0 0 0 (fun _ => [])
theorem new_any (w : World) : Calls Tryz.prog 5 #[] w (NewPost w) := by
  have hmk := mk_map w
  go_enter Tryz.func5, Tryz.ntmps5
  go_wp2
  go_ret
  have hb : Below w.heap.size w ((w.alloc (.map #[] 0)).alloc (.cells #[.int .i64 0, .int .i64 0, .int .i64 0, .slice none 0 0, .map (some w.heap.size)] 48)) := ((Below.refl _ _).alloc (Nat.le_refl _) _).alloc (by simp) _
  refine ⟨rfl, hb, ⟨?_, ?_, ⟨[], rfl, World.ownsRow_nil _ _ _ _, fun i h => absurd h (by simp)⟩, fun s u h => (nomatch h), fun s _ => rfl, fun s t u u' b _ h => (nomatch h), ⟨by omega, by simp⟩, ⟨Nat.le_refl _, by simp; omega⟩, fun b h => (nomatch h), fun s u b h => (nomatch h), fun b h => h⟩⟩
  · have := Blk.new (w.alloc (.map #[] 0)) 48 #[.int .i64 0, .int .i64 0, .int .i64 0, .slice none 0 0, .map (some w.heap.size)]
    rwa [World.size_alloc] at this
  · exact (MapV.made Tryz.prog 9 litS w).below ((Below.refl _ _).alloc (Nat.le_refl _) _)
set_option maxHeartbeats 400000 in
theorem none_no {w : World} {n0 X M cn : Nat} {v : Value} {F : ByteArray → Option Value} {O : Nat → Prop} {ds : List Dc} {sz lo hi : Int} {f : ByteArray → List Po} (h : Idx w n0 X M cn v F O ds sz lo hi f) :
    Calls Tryz.prog 18 #[.pointer (some ⟨X, 0, none⟩)] w fun e w' => e = .returned (.bool false) ∧ w = w' := by
  have c4 := h.blk.cell 4
  simp only [List.getElem?_toArray, List.getElem?_cons_zero, List.getElem?_cons_succ] at c4
  clear h
  have e1 := fun b => eql_some b w
  go_enter Tryz.func18, Tryz.ntmps18
  go_wp2
  go_ret
  exact ⟨rfl, rfl⟩
theorem none_nil (w : World) : Calls Tryz.prog 18 #[.pointer none] w fun e w' => e = .returned (.bool true) ∧ w = w' := by
  go_enter Tryz.func18, Tryz.ntmps18
  go_wp2
  go_ret
  exact ⟨rfl, rfl⟩
theorem none_zero (X : Nat) (w : World) (h : w.cell? ⟨X, 4, none⟩ = some (.map none)) : Calls Tryz.prog 18 #[.pointer (some ⟨X, 0, none⟩)] w fun e w' => e = .returned (.bool true) ∧ w = w' := by
  have e1 := eql_none w
  go_enter Tryz.func18, Tryz.ntmps18
  go_wp2
  go_ret
  exact ⟨rfl, rfl⟩
end Go.Proofs.YtdloacfoegjnmaaGreat.Mx
end

section
/- event.Docs, loggiaref10.Docs: the walks. -/
namespace Go.Proofs.YtdloacfoegjnmaaGreat.Ev
open Go.RowKit Go.Proofs.YtdloacfoegjnmaaGreat Go.Proofs.YtdloacfoegjnmaaGreat.Ut Go.Proofs.YtdloacfoegjnmaaGreat.Tk Go.Proofs.YtdloacfoegjnmaaGreat.Qy Go.Proofs.YtdloacfoegjnmaaGreat.Qp
set_option maxRecDepth 20000
set_option linter.unusedVariables false
set_option linter.unusedSimpArgs false

/-- Docs of the call's own, handed back. -/
def DocsPost (w : World) (ds : List Dc) (e : Ending) (w' : World) : Prop := ∃ v, e = .returned v ∧ DOwn w' w.heap.size v ds ∧ Below w.heap.size w w'

set_option maxHeartbeats 6400000 in
theorem docs_any (seq : Int) (A : Option Addr) (n c : Nat) (l : List Evn) (w : World) (h : EvsAt w w.heap.size A n c l) (hok : chkB seq l = 0) :
    Calls Tryz.prog 20 #[.agg #[.int .i64 seq, .slice A n c]] w (DocsPost w (mkD seq l)) := by
  obtain ⟨i0, hi0, hz0, hz1, hz2⟩ := info_parts doc_info
  have hl := h.ln
  have hl1 : l.length ≤ n := by omega
  have hl2 : n ≤ l.length := by omega
  have hcap := h.cap
  have hok' := chkB_ok hok
  have hn64 : n ≤ 64 := by have := hok'.2.1; omega
  have hs1 : 1 ≤ seq := hok'.2.2.2.2.1
  have hs2 : seq ≤ 1099511627777 := by have := hok'.2.2.2.2.2; omega
  have hB1 : Below w.heap.size w (w.alloc (.cells #[.int .i64 seq, .slice A n c] 35)) := (Below.refl _ _).alloc (Nat.le_refl _) _
  have hF1 := h.grow hB1
  have hX := (Blk.new w 35 #[.int .i64 seq, .slice A n c])
  have c1 := checkBatch_any seq A n c l _ hF1
  rw [hok] at c1
  have C1 := Lib.hid c1
  have OK := Lib.hid hok'.2.2.1
  have H := Lib.hid (And.intro hF1 (And.intro hX hB1))
  clear hl h hF1 hX hB1 c1 hok hok'
  go_enter Tryz.func20, Tryz.ntmps20
  go_wp2_with fail
  refine C1.out.mono ?_
  rintro e W0 ⟨rfl, hb0⟩
  have H0 : Hid (EvsAt W0 W0.heap.size A n c l ∧ Blk W0 w.heap.size 35 #[.int .i64 seq, .slice A n c] ∧ Below w.heap.size w W0) := Lib.hid ⟨H.out.1.grow hb0, H.out.2.1.below hb0 H.out.2.1.lt, H.out.2.2.trans (hb0.mono H.out.2.2.size)⟩
  have e1 := H0.out.2.1.cell 1
  simp only [List.getElem?_toArray, List.getElem?_cons_zero, List.getElem?_cons_succ] at e1
  clear hb0 H C1
  go_wp2_with fail
  clear e1
  go_loopw [3, 12] (fun v i wr => ∃ k : Nat, k ≤ l.length ∧ i = .int .i64 (k : Nat) ∧ Hid (DOwn wr W0.heap.size v (mkD seq (l.take k))) ∧ Hid (Below W0.heap.size W0 wr)) (fun _ i _ => l.length - (intOf i).toNat)
  case atStart => exact ⟨0, Nat.zero_le _, rfl, Lib.hid (DOwn.start _ _), Lib.hid (Below.refl _ _)⟩
  case round =>
    obtain ⟨k, hk, rfl, hO, hB⟩ := hrel
    have hBlk := H0.out.2.1.below hB.out H0.out.2.1.lt
    have d0 := hBlk.cell 0
    have d1 := hBlk.cell 1
    simp only [List.getElem?_toArray, List.getElem?_cons_zero, List.getElem?_cons_succ] at d0 d1
    have HBK := Lib.hid hBlk
    clear hBlk
    have hBw : Hid (Below w.heap.size w wr) := Lib.hid (H0.out.2.2.trans (hB.out.mono H0.out.2.2.size))
    by_cases hlt : k < l.length
    · have hkz : (k : Int) < (n : Int) := by omega
      have hk0 : (0 : Int) ≤ (k : Int) := by omega
      have hG := H0.out.1.grow hB.out
      obtain ⟨b, o, F, fn, fc, rfl, hbb, ca, cf, hFl⟩ := hG.at_ hlt
      have hmk := mkD_take seq l k hlt
      have hfew := (chkE_ok (OK.out _ (List.getElem_mem hlt))).1
      have hlnk : (mkD seq (l.take k)).length = k := by rw [mkD_len, List.length_take]; omega
      have hBx : Below wr.heap.size wr (wr.alloc (.cells #[.int .i64 l[k].1, .slice F fn fc] 54)) := (Below.refl _ wr).alloc (Nat.le_refl _) _
      have hx := Blk.new wr 54 #[.int .i64 l[k].1, .slice F fn fc]
      have c2 := cloneF_any F fn fc l[k].2 _ (hFl.grow hBx).rd hFl.len (by have := hFl.len; omega) hFl.nl
      have hfl : Hid (l[k].2.length = fn) := Lib.hid hFl.len
      have hf16 : fn ≤ 16 := by have := hFl.len; omega
      generalize hev : l[k] = ev at *
      clear hev hG hFl
      obtain ⟨ta, fs⟩ := ev
      simp only at ca c2 hmk hfl hx hBx
      have HX := Lib.hid (And.intro hx hBx)
      have HMK := Lib.hid hmk
      have HLK := Lib.hid hlnk
      have C2 := Lib.hid c2
      clear hx hBx hmk c2 hfew hlnk
      go_wp2_with fail
      generalize hw1 : wr.alloc (.cells #[.int .i64 ta, .slice F fn fc] 54) = w1 at *
      clear hw1 ca cf
      refine C2.out.mono ?_
      rintro e w3 ⟨v3, rfl, hown3, hb3⟩
      obtain ⟨A3, q3, rfl, hR3, hnq3, hnl3, hg3⟩ := own_shape2 hown3
      have h7 := HX.out.1.below hb3 HX.out.1.lt
      have h7s := h7.set_ 1 (.slice A3 fs.length q3)
      have h7c := h7.cell 1
      have h7f := h7.frozen 1
      have h7s0 := h7s.cell 0
      have h7s1 := h7s.cell 1
      simp at h7c h7s0 h7s1
      have hbt := HBK.out.below (HX.out.2) HBK.out.lt |>.below hb3 (by have := HBK.out.lt; have := HX.out.2.size; omega)
      have t0 : (w3.setCell ⟨wr.heap.size, 1, none⟩ (.slice A3 fs.length q3)).cell? ⟨w.heap.size, 0, none⟩ = some (.int .i64 seq) := by
        have e := hbt.cell 0
        simp only [List.getElem?_toArray, List.getElem?_cons_zero] at e
        have hlt := HBK.out.lt
        exact (World.cell?_of_block (Below.heap_setCell _ _ _ _ (by show w.heap.size ≠ wr.heap.size; omega))).trans e
      have hlw : wr.heap.size < w3.heap.size := by have := h7.lt; exact this
      have hown6 : (((w3.setCell ⟨wr.heap.size, 1, none⟩ (.slice A3 fs.length q3)).alloc (.cells #[.int .i64 (seq + (k : Int)), .int .i64 ta, .slice A3 fs.length q3] 57))).ownsRow w1.heap.size 89 2 (.slice A3 fs.length q3) fs.length (fldC fs) :=
        (hown3.kept (grownBy_setC w3 wr.heap.size 1 _) (.inr (fun e => by have := (hown3.lt _ e).1; have := HX.out.1.lt; omega))).alloc _
      have hbS : Below wr.heap.size wr ((w3.setCell ⟨wr.heap.size, 1, none⟩ (.slice A3 fs.length q3)).alloc (.cells #[.int .i64 (seq + (k : Int)), .int .i64 ta, .slice A3 fs.length q3] 57)) := ((HX.out.2.trans (hb3.mono HX.out.2.size)).setCell (p := ⟨wr.heap.size, 1, none⟩) (Nat.le_refl _) _).alloc (by have := HX.out.2.size; have := hb3.size; simp; omega) _
      have hO6 := hO.out.below hbS
      obtain ⟨vss, g1, g2, g3⟩ := hO6.ex
      have hd6 : DcS ((w3.setCell ⟨wr.heap.size, 1, none⟩ (.slice A3 fs.length q3)).alloc (.cells #[.int .i64 (seq + (k : Int)), .int .i64 ta, .slice A3 fs.length q3] 57)) (Fd _ W0.heap.size) ⟨seq + (k : Int), ta, fs⟩ [.int .i64 (seq + (k : Int)), .int .i64 ta, .slice A3 fs.length q3] :=
        ⟨A3, _, q3, rfl, (ReadsS.of_own hown6).mono (fun b hb => ⟨by have := hb.1; have := hB.out.size; have := HX.out.2.size; omega, tg_own hown6 hb.2.2⟩), rfl, by have := hfl.out; omega, hnq3, hnl3⟩
      have Put : Hid (∀ v' w5, w5.ownsRow W0.heap.size 57 3 v' (k + 1) (vss.flatten ++ [.int .i64 (seq + (k : Int)), .int .i64 ta, .slice A3 fs.length q3]) → _ → DOwn w5 W0.heap.size v' (mkD seq (l.take (k + 1)))) := Lib.hid (fun v' w5 p1 p2 => by
        rw [HMK.out]
        exact DOwn.put ⟨vss, g1, g2, g3, rfl⟩ (by rw [HLK.out]; exact p1) p2 hd6)
      rw [HLK.out] at g2
      have G2 := Lib.hid g2
      have hzs := hbS.size
      have hBS := Lib.hid hbS
      have hw5 : W0.heap.size ≤ wr.heap.size := hB.out.size
      have hsq : 0 ≤ seq + (k : Int) := by omega
      clear hown6 hbS hO6 g1 g2 g3 hd6 hown3 hR3 hnq3 hnl3 hg3 h7 h7s hbt C2 d0 d1
      go_wp2_with (at_builtin; refine wpList_append_own _ rfl _ _ 28 rfl W0.heap.size 57 i0 _ 3 40 Tryz.underlying28 hi0 hz0 hz1 hz2 rfl (by decide) _ _ _ rfl G2.out ⟨w3.heap.size, 0, none⟩ 1 1 [.int .i64 (seq + (k : Int)), .int .i64 ta, .slice A3 fs.length q3] rfl rfl ?d1 ?d2 ?d3 ?d4 ?d5 ?_)
      case d1 => exact World.news_of_block (cs := #[.int .i64 (seq + (k : Int)), .int .i64 ta, .slice A3 fs.length q3]) (t := 57) (fr := (0, 0)) (by have := heap_alloc_new (w3.setCell ⟨wr.heap.size, 1, none⟩ (.slice A3 fs.length q3)) (.cells #[.int .i64 (seq + (k : Int)), .int .i64 ta, .slice A3 fs.length q3] 57); simpa using this)
      case d2 => simp [Value.oneCell']
      case d3 => unfold maxLen; omega
      case d4 => omega
      case d5 => first | omega | (simp; omega)
      intro v' w5 hown5 hg5 _
      have Fin := Lib.hid (Put.out v' w5 hown5 hg5)
      have hbF : Hid (Below W0.heap.size W0 w5) := Lib.hid ((hB.out.trans (hBS.out.mono hB.out.size)).grown hg5 (by omega) (fun j hj => (G2.out.lt j hj).1))
      clear hown5 hg5
      go_wp2
      go_roundw
      case rel => exact ⟨k + 1, by omega, by go_num, Fin, hbF⟩
      case measure => simp [intOf]; omega
    · obtain rfl : k = l.length := by omega
      have hkz : ¬ (l.length : Int) < (n : Int) := by omega
      rw [List.take_length] at hO
      go_wp2
      go_ret
      exact ⟨_, rfl, hO.out.mono H0.out.2.2.size, hBw.out⟩
end Go.Proofs.YtdloacfoegjnmaaGreat.Ev
end
