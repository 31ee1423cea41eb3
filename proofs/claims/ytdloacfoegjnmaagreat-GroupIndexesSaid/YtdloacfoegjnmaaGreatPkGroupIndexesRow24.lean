/- Rows of the call's own, of whatever elements: appends of what may be nil, cuts. (No program in sight.) -/
import Derived.Maps.AppendAt
import Derived.Laws.AppendOwnNone
import Derived.RegionTactic
import Derived.ChangeAlike
import Derived.Test.YtdloacfoegjnmaaGreatPkGroupIndexesRow0
import Derived.Test.YtdloacfoegjnmaaGreatPkGroupIndexesRow11
import Derived.Test.YtdloacfoegjnmaaGreatEvVPk
import Derived.Test.YtdloacfoegjnmaaGreatPkGroupIndexesRow23
section
namespace Go.Proofs.YtdloacfoegjnmaaGreat.Rg
open Go.RowKit Go.Proofs.YtdloacfoegjnmaaGreat
set_option linter.unusedVariables false
set_option linter.unusedSimpArgs false

theorem add_lit (b o n : Nat) : (⟨b, o, none⟩ : Addr).add n = ⟨b, o + n, none⟩ := by unfold Addr.add; split <;> simp_all
/-- An append of a row that reads, nil or not. -/
theorem wpList_append_any {P : Program} {w : World} {ops : Array Oper} {rest : List Oper} {o : Oper} {a : Act} {Q : Exit → Act → World → Prop} (hgd : o.guard = none) (s x : Operand) (t : TypeId)
    (ho : o.op = .call { callee := .builtin .append, args := #[s, x], argTypes := #[t, t] })
    (base : Nat) (e : TypeId) (i : TypeInfo) (z : Value) (size bytes : Nat) (ht : P.underlying t = some (.slice e)) (hi : P.info? e = some i) (hz : i.zero = some z)
    (hsize : i.size = size) (hby : i.bytes = bytes) (hzs : z.cells.size = size) (hsz : 0 < size)
    (v : Value) (n : Nat) (xs : List Value) (hs : a.eval s = v) (hown : w.ownsRow base e size v n xs) (A : Option Addr) (m c : Nat) (X : List Value) (hx : a.eval x = .slice A m c) (hR : Reads w w.heap.size size A m X) (hnil : A = none → c = 0) (h1 : ∀ u ∈ X, u.oneCell' = true)
    (h63 : n + m ≤ maxLen) (hbytes : (n + m) * bytes ≤ 140737488355328) (hbase : base ≤ w.heap.size)
    (h : ∀ v' w', w'.ownsRow base e size v' (n + m) (xs ++ X) → w.grownBy w' v.ownBlock → (v'.ownBlock = v.ownBlock ∨ v'.ownBlock = some w.heap.size) → wpList P ops Q rest (a.put o.dst v') w') : wpList P ops Q (o :: rest) a w := by
  have hXl := hR.1
  cases A with
  | none =>
    have hm0 : m = 0 := by
      by_cases h0 : 0 < m
      · obtain ⟨b, o, e, _⟩ := hR.2 h0; cases e
      · omega
    subst hm0
    obtain rfl : c = 0 := hnil rfl
    have hX : X = [] := List.length_eq_zero_iff.1 (by omega)
    subst hX
    refine wpList_append_own_none hgd s x t ho base e i size ht hi v n xs hs hown hx ?_
    exact h v w (by simpa using hown) (grow_of_below (Below.refl _ _) _) (.inl rfl)
  | some ad =>
    refine wpList_append_own_at w hgd s x t ho base e i z size bytes ht hi hz hsize hby hzs hsz v n xs hs hown ad m c X hx hXl (fun j u hj => ?_) h1 h63 hbytes hbase (fun v' w' h1 h2 _ h4 => h v' w' h1 h2 h4)
    have hjl : j < m * size := by
      have := (List.getElem?_eq_some_iff.1 hj).1
      omega
    have hm0 : 0 < m := by
      rcases Nat.eq_zero_or_pos m with h0 | h0
      · subst h0; omega
      · exact h0
    obtain ⟨b, o, e, hb, hc⟩ := hR.2 hm0
    injection e with e
    subst e
    rw [add_lit]
    exact hc j u hj
section
variable {w : World} {B n c p k : Nat} {A : Option Addr} {X : List Value}
/-- The beginning of a row. -/
theorem reads_take (h : Reads w B k A n X) (hp : p ≤ n) : Reads w B k A p (X.take (p * k)) := by
  have hl := h.1
  have hle : p * k ≤ n * k := Nat.mul_le_mul_right k hp
  refine ⟨by rw [List.length_take]; omega, fun h0 => ?_⟩
  obtain ⟨b, o, e, hb, hc⟩ := h.2 (by omega)
  refine ⟨b, o, e, hb, fun j u hj => hc j u ?_⟩
  rw [List.getElem?_take] at hj
  split at hj
  · exact hj
  · cases hj
/-- The rest of a row, from a place on. -/
theorem reads_cut (h : Reads w B k A n X) (hp : p ≤ n) (hc : n ≤ c) : Reads w B k (if c = p then A else A.map (·.add (p * k))) (n - p) (X.drop (p * k)) := by
  have hl := h.1
  refine ⟨by rw [List.length_drop, Nat.sub_mul]; omega, fun h0 => ?_⟩
  rw [if_neg (by omega)]
  obtain ⟨b, o, rfl, hb, hcl⟩ := h.2 (by omega)
  refine ⟨b, o + p * k, ?_, hb, fun j u hj => ?_⟩
  · show some ((⟨b, o, none⟩ : Addr).add (p * k)) = _
    rw [add_lit]
  · rw [List.getElem?_drop] at hj
    have := hcl _ _ hj
    rwa [← Nat.add_assoc] at this
end
/-- A row of the call's own that is being collected. -/
structure Row (T : TypeId) (k B : Nat) (w wr : World) (v : Value) (n : Nat) (X : List Value) : Prop where
  own : wr.ownsRow B T k v n X
  bel : Below B w wr
section
variable {T : TypeId} {k B n : Nat} {w wr w' : World} {v : Value} {X : List Value}
theorem Row.start (hb : Below B w wr) : Row T k B w wr (.slice none 0 0) 0 [] := ⟨World.ownsRow_nil _ _ _ _, hb⟩
theorem Row.empty (T : TypeId) (k : Nat) (hk : 0 < k) (w : World) : Row T k w.heap.size w (w.alloc (.cells #[] T)) (.slice (some ⟨w.heap.size, 0, none⟩) 0 0) 0 [] :=
  ⟨World.ownsRow_lit (base := w.heap.size) (e := T) (size := k) w #[] 0 (by simp) (by unfold maxLen; omega) (by simp), (Below.refl _ _).alloc (Nat.le_refl _) _⟩
theorem Row.below (h : Row T k B w wr v n X) (hB : B ≤ wr.heap.size) (hb : Below wr.heap.size wr w') : Row T k B w w' v n X :=
  ⟨h.own.kept (grow_of_below hb none) (by cases v.ownBlock <;> simp), h.bel.trans (hb.mono hB)⟩
theorem Row.alloc (h : Row T k B w wr v n X) (hB : B ≤ wr.heap.size) (o : Obj) : Row T k B w (wr.alloc o) v n X := h.below hB ((Below.refl _ _).alloc (Nat.le_refl _) _)
theorem Row.app {w5 : World} {v5 : Value} {m : Nat} {Y : List Value} (h : Row T k B w wr v n X) (hB : B ≤ wr.heap.size) (ho : w5.ownsRow B T k v5 (n + m) (X ++ Y)) (hg : wr.grownBy w5 v.ownBlock) : Row T k B w w5 v5 (n + m) (X ++ Y) :=
  ⟨ho, h.bel.grown hg hB (fun b hb => (h.own.lt b hb).1)⟩
theorem own_base {w : World} {B B' n : Nat} {T : TypeId} {v : Value} {xs : List Value} (h : w.ownsRow B T k v n xs) (hB : B' ≤ B) : w.ownsRow B' T k v n xs := by
  obtain ⟨h1, h2 | ⟨g, cap, cur, q1, q2, q3⟩⟩ := h
  · exact ⟨h1, .inl h2⟩
  · exact ⟨h1, .inr ⟨g, cap, cur, q1, by omega, q3⟩⟩
theorem Row.over {w2 : World} (h : Row T k B wr w2 v n X) (hw : Below w.heap.size w wr) (hB : w.heap.size ≤ B) : Row T k w.heap.size w w2 v n X := ⟨own_base h.own hB, hw.trans (h.bel.mono hB)⟩
theorem new_row (w : World) (T : TypeId) (cs : List Value) (m : Nat) (hl : cs.length = m * k) (h0 : 0 < m) : Reads (w.alloc (.cells cs.toArray T)) (w.alloc (.cells cs.toArray T)).heap.size k (some ⟨w.heap.size, 0, none⟩) m cs :=
  ⟨hl, fun _ => ⟨_, 0, rfl, by simp, fun j u hj => by
    rw [Nat.zero_add, (Blk.new w T cs.toArray).cell j]
    simpa using hj⟩⟩
end
end Go.Proofs.YtdloacfoegjnmaaGreat.Rg
end

section
/- SLICED by slice.py -/
/- The document's rows of terms; its order of texts. -/
namespace Go.Proofs.YtdloacfoegjnmaaGreat.Ev
open Go.RowKit Go.Proofs.YtdloacfoegjnmaaGreat Go.Proofs.YtdloacfoegjnmaaGreat.Ut Go.Proofs.YtdloacfoegjnmaaGreat.Tk Go.Proofs.YtdloacfoegjnmaaGreat.Qy Go.Proofs.YtdloacfoegjnmaaGreat.Qp Go.Proofs.YtdloacfoegjnmaaGreat.Rg
set_option maxRecDepth 20000
set_option linter.unusedVariables false
set_option linter.unusedSimpArgs false

/-- How many stand ahead. -/
def posB : List ByteArray → ByteArray → Nat
  | [], _ => 0
  | x :: l, s => if ltB x s = true then posB l s + 1 else 0
theorem posB_le : ∀ (l : List ByteArray) (s : ByteArray), posB l s ≤ l.length
  | [], _ => Nat.le_refl _
  | x :: l, s => by
    unfold posB
    split
    · have := posB_le l s; simp; omega
    · simp
theorem posB_lt : ∀ {l : List ByteArray} {s : ByteArray} {i : Nat} (h : i < posB l s) (h2 : i < l.length), ltB l[i] s = true
  | x :: l, s, i, h, h2 => by
    unfold posB at h
    by_cases c : ltB x s = true
    · rw [if_pos c] at h
      cases i with
      | zero => exact c
      | succ i => exact posB_lt (l := l) (by omega) (by simpa using h2)
    · rw [if_neg c] at h; omega
theorem posB_at : ∀ {l : List ByteArray} {s : ByteArray} (h : posB l s < l.length), ltB l[posB l s] s = false
  | x :: l, s, h => by
    by_cases c : ltB x s = true
    · have e : posB (x :: l) s = posB l s + 1 := by rw [posB]; exact if_pos c
      have h2 : posB l s < l.length := by rw [e] at h; simpa using h
      have := posB_at h2
      simp only [e, List.getElem_cons_succ]
      exact this
    · have e : posB (x :: l) s = 0 := by rw [posB]; exact if_neg c
      simp only [e, List.getElem_cons_zero]
      simpa using c
def keysT (l : List Tm) : List ByteArray := l.map (·.1)
theorem addT_hit : ∀ (l : List Tm) (s : ByteArray) (p : Nat) (h : posB (keysT l) s < l.length), l[posB (keysT l) s].1 = s → addT l s p = l.take (posB (keysT l) s) ++ [(s, l[posB (keysT l) s].2 ++ [p])] ++ l.drop (posB (keysT l) s + 1)
  | x :: l, s, p, h, he => by
    by_cases c : ltB x.1 s = true
    · have e : posB (keysT (x :: l)) s = posB (keysT l) s + 1 := by show posB (x.1 :: keysT l) s = _; rw [posB]; exact if_pos c
      have h2 : posB (keysT l) s < l.length := by rw [e] at h; simpa using h
      simp only [e, List.getElem_cons_succ] at he ⊢
      have ih := addT_hit l s p h2 he
      unfold addT
      rw [if_pos c, ih]
      simp
    · have e : posB (keysT (x :: l)) s = 0 := by show posB (x.1 :: keysT l) s = _; rw [posB]; exact if_neg c
      simp only [e, List.getElem_cons_zero] at he ⊢
      unfold addT
      rw [if_neg c, if_pos he]
      simp
theorem addT_miss : ∀ (l : List Tm) (s : ByteArray) (p : Nat), (∀ h : posB (keysT l) s < l.length, l[posB (keysT l) s].1 ≠ s) → addT l s p = l.take (posB (keysT l) s) ++ [(s, [p])] ++ l.drop (posB (keysT l) s)
  | [], s, p, _ => rfl
  | x :: l, s, p, h => by
    by_cases c : ltB x.1 s = true
    · have e : posB (keysT (x :: l)) s = posB (keysT l) s + 1 := by show posB (x.1 :: keysT l) s = _; rw [posB]; exact if_pos c
      have ih := addT_miss l s p (fun h2 => by
        have := h (by rw [e]; simpa using h2)
        simp only [e, List.getElem_cons_succ] at this
        exact this)
      simp only [e]
      unfold addT
      rw [if_pos c, ih]
      simp
    · have e : posB (keysT (x :: l)) s = 0 := by show posB (x.1 :: keysT l) s = _; rw [posB]; exact if_neg c
      have := h (by rw [e]; simp)
      simp only [e, List.getElem_cons_zero] at this ⊢
      unfold addT
      rw [if_neg c, if_neg this]
      simp
/-- A row of places that reads. -/
structure PosR (w : World) (B : Nat) (x : Tr) : Prop where
  ex : ∃ P pc, x.2.1 = .slice P x.2.2.length pc ∧ Reads w B 1 P x.2.2.length (nC x.2.2) ∧ x.2.2.length ≤ pc ∧ (P = none → pc = 0)
  szs : x.1.size ≤ 1048576
  szp : x.2.2.length ≤ 65536
theorem PosR.grow {w w' : World} {B B' : Nat} {x : Tr} (h : PosR w B x) (hk : Below B w w') (hB : B ≤ B') : PosR w' B' x := by
  obtain ⟨P, pc, h1, h2, h3⟩ := h.ex
  exact ⟨⟨P, pc, h1, (h2.below hk).more hB, h3⟩, h.szs, h.szp⟩
/-- A row of terms that reads. -/
structure TmO (w : World) (B : Nat) (A : Option Addr) (n c : Nat) (O : List Tr) : Prop where
  rd : Reads w B 2 A n (O.flatMap encO)
  ln : O.length = n
  cap : n ≤ c
  nl : A = none → c = 0
  po : ∀ x ∈ O, PosR w B x
theorem TmO.grow {w w' : World} {B B' n c : Nat} {A : Option Addr} {O : List Tr} (h : TmO w B A n c O) (hk : Below B w w') (hB : B ≤ B') : TmO w' B' A n c O :=
  ⟨(h.rd.below hk).more hB, h.ln, h.cap, h.nl, fun x hx => (h.po x hx).grow hk hB⟩
/-- The k-th term. -/
theorem TmO.at_ {w : World} {B n c : Nat} {A : Option Addr} {O : List Tr} (h : TmO w B A n c O) {k : Nat} (hk : k < O.length) :
    ∃ b o, A = some ⟨b, o, none⟩ ∧ b < B ∧ w.cell? ⟨b, o + k * 2, none⟩ = some (.string O[k].1) ∧ w.cell? ⟨b, o + k * 2 + 1, none⟩ = some O[k].2.1 := by
  obtain ⟨b, o, e, hb, hc⟩ := h.rd.2 (by have := h.ln; omega)
  have f0 := Ss.encs_get (enc := encO) (k := 2) (fun _ => rfl) O k 0 hk (by omega)
  have f1 := Ss.encs_get (enc := encO) (k := 2) (fun _ => rfl) O k 1 hk (by omega)
  have c0 := hc _ _ (f0.trans rfl)
  have c1 := hc _ _ (f1.trans rfl)
  rw [← Nat.add_assoc] at c1
  exact ⟨b, o, e, hb, c0, c1⟩
def prj (x : Tr) : Tm := (x.1, x.2.2)
theorem beq_dec (s t : ByteArray) : (s.toList == t.toList) = decide (s = t) := by
  by_cases h : s = t
  · subst h; simp
  · rw [decide_eq_false h, beq_eq_false_iff_ne]; exact fun e => h (toList_inj e)
theorem encO_take (O : List Tr) (k : Nat) : (O.take k).flatMap encO = (O.flatMap encO).take (k * 2) := by
  induction O generalizing k with
  | nil => simp
  | cons x O ih =>
    cases k with
    | zero => simp
    | succ k =>
      rw [List.take_succ_cons, List.flatMap_cons, List.flatMap_cons, ih, show (k + 1) * 2 = k * 2 + 2 by omega, show encO x = [.string x.1, x.2.1] from rfl]
      rfl
theorem encO_drop (O : List Tr) (k : Nat) : (O.drop k).flatMap encO = (O.flatMap encO).drop (k * 2) := by
  induction O generalizing k with
  | nil => simp
  | cons x O ih =>
    cases k with
    | zero => simp
    | succ k =>
      rw [List.drop_succ_cons, List.flatMap_cons, ih, show (k + 1) * 2 = k * 2 + 2 by omega, show encO x = [.string x.1, x.2.1] from rfl]
      rfl
theorem encO_one {w : World} {B : Nat} {O : List Tr} (h : ∀ x ∈ O, PosR w B x) : ∀ u ∈ O.flatMap encO, u.oneCell' = true := by
  intro u hu
  obtain ⟨x, hx, hux⟩ := List.mem_flatMap.1 hu
  obtain ⟨P, pc, e, _⟩ := (h x hx).ex
  simp only [encO, List.mem_cons, List.not_mem_nil, or_false] at hux
  rcases hux with rfl | rfl
  · rfl
  · rw [e]; rfl
theorem nC_one (l : List Nat) : ∀ u ∈ nC l, u.oneCell' = true := by
  intro u hu
  obtain ⟨n, _, rfl⟩ := List.mem_map.1 hu
  rfl
/-- Two rows of other elements. -/
theorem own_apart {w w' : World} {B B' k k' n n' : Nat} {T T' : TypeId} {v v' : Value} {X X' : List Value} (h : w.ownsRow B T k v n X) (h' : w.ownsRow B' T' k' v' n' X') (hT : T ≠ T') (hg : w.grownBy w' v'.ownBlock) : w'.ownsRow B T k v n X :=
  h.kept hg (by
    cases hv : v.ownBlock with
    | none => exact .inl rfl
    | some b => exact .inr (fun e => hT ((tg_own h hv).one (tg_own h' e.symm))))
end Go.Proofs.YtdloacfoegjnmaaGreat.Ev
end

section
/- The hot index: the steps of Add. (No walk.) -/
namespace Go.Proofs.YtdloacfoegjnmaaGreat.Mx
open Go.RowKit Go.Maps Go.Proofs.YtdloacfoegjnmaaGreat Go.Proofs.YtdloacfoegjnmaaGreat.Ut Go.Proofs.YtdloacfoegjnmaaGreat.Tk Go.Proofs.YtdloacfoegjnmaaGreat.Qy Go.Proofs.YtdloacfoegjnmaaGreat.Ev Go.Proofs.YtdloacfoegjnmaaGreat.Qp Go.Proofs.YtdloacfoegjnmaaGreat.Mv
set_option linter.unusedVariables false
set_option linter.unusedSimpArgs false
set_option maxRecDepth 20000

/-- The fields of a doc. -/
theorem dcs_fl {w : World} {S : Nat → Prop} {d : Dc} {Fa : Option Addr} {fn fc : Nat} (h : DcS w S d [.int .i64 d.seq, .int .i64 d.at_, .slice Fa fn fc]) (hS : ∀ b, S b → b < w.heap.size) (hok : chkE d.fs = 0) : FlAt w w.heap.size Fa fn fc d.fs := by
  obtain ⟨F, n, c, e, h1, h2, h3, h4, h5⟩ := h.ex
  injection e with _ e
  injection e with _ e
  injection e with e _
  injection e with e1 e2 e3
  subst e1 e2 e3
  exact ⟨h1.reads hS, h2, h3, h4, fun f hf => by
    have h6 := chkE_ok hok
    have h7 := h6.2 f hf
    omega, h5⟩
section
variable {w W1 wr : World} {n0 X : Nat} {O : Nat → Prop} {ds D0 : List Dc} {b0 j M cn : Nat} {v : Value} {F : ByteArray → Option Value} {sz lo hi : Int} {f : ByteArray → List Po}
theorem tg_blk {w : World} {T : TypeId} {b : Nat} {cs : Array Value} (h : Blk w b T cs) : Tg w T b := ⟨_, _, h⟩
theorem AddAt.nums (h : AddAt w W1 wr n0 X O ds D0 b0 j M cn v F sz lo hi f) (ht : Tg W1 57 b0) {w' : World} {sz' lo' hi' : Int} (hg : wr.grownBy w' (some X)) (hb : Blk w' X 48 #[.int .i64 sz', .int .i64 lo', .int .i64 hi', v, .map (some M)]) (hL : w'.heap.size = wr.heap.size) :
    AddAt w W1 w' n0 X O ds D0 b0 j M cn v F sz' lo' hi' f := by
  have kp : ∀ {T : TypeId} (b : Nat), Tg wr T b → T ≠ 48 → w'.heap[b]? = wr.heap[b]? := fun {T} b ht hT => hg.block b ht.lt (fun e => by
    injection e with e
    subst e
    exact hT (ht.one h.ix.tgX))
  refine ⟨?_, h.chg.trans (Chg.of_grown (O := Ow O w wr) hg (fun k e => by injection e with e; subst e; exact h.ix.oX)) (fun x hx => hx.elim .inl (fun h => .inr h.1)), (kp b0 (ht.same h.same) (by decide)).trans h.same, h.ne, fun b hb => (kp b (hb.same (h.fld b hb)) (by decide)).trans (h.fld b hb), by rw [hL]; exact h.le⟩
  have := h.ix.nums hg hb hL
  rw [show Ow O w w' = Ow O w wr from by unfold Ow; rw [hL]]
  exact this
theorem AddAt.post (h : AddAt w W1 wr n0 X O ds D0 b0 j M cn v F sz lo hi f) (ht : Tg W1 57 b0) (hn : n0 ≤ w.heap.size) {w1 w' : World} {s : ByteArray} {u : Value} {xs : List Pr} {x : Pr} {u' : Value} (hu : F s = some u ∨ (F s = Option.none ∧ u = .slice Option.none 0 0)) (hxs : xs.map prP = f s) (hxp : ∀ y ∈ xs, PosV wr y) (hx : PosV wr x)
    (hown : wr.ownsRow n0 73 2 u (f s).length (xs.flatMap encP)) (hg : wr.grownBy w1 u.ownBlock) (hown' : w1.ownsRow n0 73 2 u' ((f s).length + 1) (xs.flatMap encP ++ encP x)) (hat : u'.ownBlock = u.ownBlock ∨ u'.ownBlock = some wr.heap.size)
    (hgm : w1.grownBy w' (some M)) (hm : MapV Tryz.prog 9 litS w' M (cn + 1) (putV F s u')) :
    AddAt w W1 w' n0 X O ds D0 b0 j M (cn + 1) v (putV F s u') sz lo hi (fun t => if t = s then f t ++ [prP x] else f t) ∧ ∀ {T : TypeId} (b : Nat), Tg wr T b → T ≠ 73 → w'.heap[b]? = wr.heap[b]? := by
  have kt : ∀ {T : TypeId} (b : Nat), Tg wr T b → T ≠ 73 → w'.heap[b]? = wr.heap[b]? := fun {T} b ht hT => by
    have e1 : w1.heap[b]? = wr.heap[b]? := hg.block b ht.lt (fun e => hT (ht.one (tg_own hown e.symm)))
    refine (hgm.block b (by have := hg.size; have := ht.lt; omega) (fun e => ?_)).trans e1
    injection e with e
    exact h.ix.notM ht e
  have hw : w.heap.size ≤ wr.heap.size := h.chg.size
  have c1 : Chg (Ow O w wr) wr w1 := Chg.of_grown hg (fun k e => by
    rcases hu with hu | ⟨_, rfl⟩
    · exact h.ix.oF s u k hu e
    · cases e)
  have c2 : Chg (Ow O w wr) w1 w' := Chg.of_grown hgm (fun k e => by injection e with e; subst e; exact h.ix.oM)
  refine ⟨⟨h.ix.post hu hxs hxp hx hown hg hown' hat hgm hm (Ow.mono (by have := hg.size; have := hgm.size; omega)) (fun hnew => .inr ⟨hw, hnew⟩) (fun b hO => ?_), (h.chg.trans c1 (fun x hx => hx.elim .inl (fun h => .inr h.1))).trans c2 (fun x hx => hx.elim .inl (fun h => .inr h.1)), (kt b0 (ht.same h.same) (by decide)).trans h.same, h.ne, fun b hb => (kt b (hb.same (h.fld b hb)) (by decide)).trans (h.fld b hb), by have := h.le; have := hg.size; have := hgm.size; omega⟩, kt⟩
  rcases hO with hO | ⟨h1, h2⟩
  · have := h.ix.lt b (.inl hO)
    exact ⟨this.1, by have := hg.size; have := hgm.size; omega⟩
  · exact ⟨by omega, h2⟩
theorem AddAt.docs (h : AddAt w W1 wr n0 X O ds D0 b0 j M cn v F sz lo hi f) (ht : Tg W1 57 b0) (hn : n0 ≤ w.heap.size) {w1 w' : World} {v' : Value} {d : Dc} {vss : List (List Value)} {u : List Value} (hv : vss.length = (ds ++ D0.take j).length ∧ wr.ownsRow n0 57 3 v (ds ++ D0.take j).length vss.flatten ∧ ∀ i (h : i < (ds ++ D0.take j).length) (h' : i < vss.length), DcS wr (fun b => Tg wr 89 b) (ds ++ D0.take j)[i] vss[i])
    (hd : DcS wr (fun b => Tg wr 89 b) d u) (hg : wr.grownBy w1 v.ownBlock) (hown : w1.ownsRow n0 57 3 v' ((ds ++ D0.take j).length + 1) (vss.flatten ++ u)) (hat : v'.ownBlock = v.ownBlock ∨ v'.ownBlock = some wr.heap.size)
    (hgx : w1.grownBy w' (some X)) (hbx : Blk w' X 48 #[.int .i64 sz, .int .i64 lo, .int .i64 hi, v', .map (some M)]) (he : ds ++ D0.take (j + 1) = (ds ++ D0.take j) ++ [d]) :
    AddAt w W1 w' n0 X O ds D0 b0 (j + 1) M cn v' F sz lo hi f := by
  have hw : w.heap.size ≤ wr.heap.size := h.chg.size
  have kp1 : ∀ {T : TypeId} (b : Nat), Tg wr T b → (∀ k, v.ownBlock = some k → k ≠ b) → w1.heap[b]? = wr.heap[b]? := fun {T} b ht hT => hg.block b ht.lt (fun e => hT b e.symm rfl)
  have kp2 : ∀ {T : TypeId} (b : Nat), Tg w1 T b → T ≠ 48 → w'.heap[b]? = w1.heap[b]? := fun {T} b ht hT => hgx.block b ht.lt (fun e => by
    injection e with e
    subst e
    exact hT (ht.one (h.ix.tgX.same (kp1 _ h.ix.tgX (fun k hk e => by subst e; exact absurd ((tg_own hv.2.1 hk).one h.ix.tgX) (by decide))))))
  have kp : ∀ {T : TypeId} (b : Nat), Tg wr T b → (∀ k, v.ownBlock = some k → k ≠ b) → T ≠ 48 → w'.heap[b]? = wr.heap[b]? := fun {T} b ht h1 h2 => (kp2 b (ht.same (kp1 b ht h1)) h2).trans (kp1 b ht h1)
  have c1 : Chg (Ow O w wr) wr w1 := Chg.of_grown hg (fun k e => h.ix.oV k e)
  have c2 : Chg (Ow O w wr) w1 w' := Chg.of_grown hgx (fun k e => by injection e with e; subst e; exact h.ix.oX)
  have hb0 := ht.same h.same
  refine ⟨?_, (h.chg.trans c1 (fun x hx => hx.elim .inl (fun h => .inr h.1))).trans c2 (fun x hx => hx.elim .inl (fun h => .inr h.1)), (kp b0 hb0 (fun k hk e => h.ne (by rw [hk, e])) (by decide)).trans h.same, fun e => ?_, fun b hb => (kp b (hb.same (h.fld b hb)) (fun k hk e => by subst e; exact absurd ((tg_own hv.2.1 hk).one (hb.same (h.fld _ hb))) (by decide)) (by decide)).trans (h.fld b hb), by have := h.le; have := hg.size; have := hgx.size; omega⟩
  · rw [he]
    refine h.ix.docs hv hd hg hown hat hgx hbx (Ow.mono (by have := hg.size; have := hgx.size; omega)) (fun hnew => .inr ⟨hw, hnew⟩) (fun b hO => ?_)
    rcases hO with hO | ⟨h1, h2⟩
    · have := h.ix.lt b (.inl hO)
      exact ⟨this.1, by have := hg.size; have := hgx.size; omega⟩
    · exact ⟨by omega, h2⟩
  · rcases hat with q | q
    · exact h.ne (by rw [← q]; exact e)
    · rw [q] at e
      injection e with e
      have := hb0.lt
      omega
theorem AddAt.congr (h : AddAt w W1 wr n0 X O ds D0 b0 j M cn v F sz lo hi f) {f' : ByteArray → List Po} (e : ∀ s, f s = f' s) : AddAt w W1 wr n0 X O ds D0 b0 j M cn v F sz lo hi f' := ⟨h.ix.congr e, h.chg, h.same, h.ne, h.fld, h.le⟩
end
/-- On the way through the terms of a doc. -/
structure TermsAt (w W1 W2 wr : World) (n0 X : Nat) (O : Nat → Prop) (ds D0 : List Dc) (b0 j M cn : Nat) (v : Value) (sz lo hi : Int) (f : ByteArray → List Po) : Prop where
  ex : ∃ F, AddAt w W1 wr n0 X O ds D0 b0 j M cn v F sz lo hi f
  kp : ∀ {T : TypeId} (b : Nat), Tg W2 T b → T ≠ 73 → wr.heap[b]? = W2.heap[b]?
  le : W2.heap.size ≤ wr.heap.size
/-- A term's post in memory. -/
theorem pos_v {w w' : World} {n0 i : Nat} {x : Tr} (h : x.2.2 ≠ [] ∧ ∃ P pc, x.2.1 = .slice P x.2.2.length pc ∧ x.2.2.length ≤ pc ∧ ReadsS w (fun b => n0 ≤ b ∧ Tg w 3 b) 1 P x.2.2.length (nC x.2.2)) (hsz : x.2.2.length ≤ 65536) (hk : ∀ b, Tg w 3 b → w'.heap[b]? = w.heap[b]?) : PosV w' (i, x.2.1, x.2.2) := by
  obtain ⟨h1, P, pc, h2, h3, h4⟩ := h
  exact ⟨⟨P, pc, h2, h3, h4.same (fun b hb => ⟨hb.2.same (hk b hb.2), hk b hb.2⟩)⟩, h1, hsz⟩
/-- What a map of posts tells at a key. -/
theorem Idx.row_at {w : World} {n0 X M cn : Nat} {v : Value} {F : ByteArray → Option Value} {O : Nat → Prop} {ds : List Dc} {sz lo hi : Int} {f : ByteArray → List Po} (h : Idx w n0 X M cn v F O ds sz lo hi f) (s : ByteArray) :
    ∃ (u : Value) (xs : List Pr), (F s).getD (.slice Option.none 0 0) = u ∧ (F s = some u ∨ (F s = Option.none ∧ u = .slice Option.none 0 0)) ∧ xs.map prP = f s ∧ w.ownsRow n0 73 2 u (f s).length (xs.flatMap encP) ∧ ∀ x ∈ xs, PosV w x := by
  cases e : F s with
  | none =>
    refine ⟨_, [], rfl, .inr ⟨rfl, rfl⟩, by rw [h.nof s e]; rfl, ?_, fun x hx => by cases hx⟩
    rw [h.nof s e]
    exact World.ownsRow_nil _ _ _ _
  | some u =>
    obtain ⟨xs, h1, h2, h3⟩ := (h.rows s u e).1.ex
    exact ⟨u, xs, rfl, .inl rfl, h1, h2, h3⟩
/-- Whether a batch leaves a gap. -/
def gapB (ds : List Dc) (seq : Int) : Bool := match ds.getLast? with
  | some d => decide (seq ≠ d.seq + 1)
  | none => false
theorem addE_bad {ds : List Dc} {seq : Int} {l : List Evn} (h : chkB seq l ≠ 0) : addE ds seq l = chkB seq l := by unfold addE; rw [if_neg h]
theorem gapB_true {ds : List Dc} {seq : Int} (h : gapB ds seq = true) : ∃ d, ds.getLast? = some d ∧ seq ≠ d.seq + 1 := by
  unfold gapB at h
  split at h
  · rename_i d e; exact ⟨d, e, of_decide_eq_true h⟩
  · cases h
theorem gapB_false {ds : List Dc} {seq : Int} (h : gapB ds seq = false) : ¬ ∃ d, ds.getLast? = some d ∧ seq ≠ d.seq + 1 := by
  unfold gapB at h
  split at h
  · rename_i d e; rintro ⟨d', e', h'⟩; rw [e] at e'; injection e' with e'; subst e'; exact of_decide_eq_false h h'
  · rename_i e; rintro ⟨d', e', h'⟩; rw [e] at e'; cases e'
theorem gapB_snoc (ds : List Dc) (d : Dc) (seq : Int) : gapB (ds ++ [d]) seq = decide (seq ≠ d.seq + 1) := by unfold gapB; rw [List.getLast?_concat]
theorem addE_gap {ds : List Dc} {seq : Int} {l : List Evn} (h : chkB seq l = 0) (h2 : gapB ds seq = true) : addE ds seq l = 140 := by
  unfold addE
  rw [if_pos h, if_pos (gapB_true h2)]
theorem addE_many {ds : List Dc} {seq : Int} {l : List Evn} (h : chkB seq l = 0) (h2 : gapB ds seq = false) (h3 : 65536 < ds.length + l.length) : addE ds seq l = 3 := by
  unfold addE
  rw [if_pos h, if_neg (gapB_false h2), if_pos h3]
theorem addE_ok {ds : List Dc} {seq : Int} {l : List Evn} (h : chkB seq l = 0) (h2 : gapB ds seq = false) (h3 : ¬ 65536 < ds.length + l.length) : addE ds seq l = 0 := by
  unfold addE
  rw [if_pos h, if_neg (gapB_false h2), if_neg h3]
/-- How many docs a term's posts can name. -/
theorem postsT_len (ds : List (List Fl)) (s : ByteArray) : (postsT ds s).length ≤ ds.length := by
  unfold postsT
  refine Nat.le_trans (List.length_filterMap_le _ _) ?_
  rw [List.length_zipIdx]
  exact Nat.le_refl _
/-- The posts that terms bring grow by as many at most. -/
theorem addP_len (k : Nat) : ∀ (T : List Tr) (f : ByteArray → List Po) (s : ByteArray), ((T.foldl (fun f t => addP f k (t.1, t.2.2)) f) s).length ≤ (f s).length + T.length
  | [], f, s => Nat.le_refl _
  | t :: T, f, s => by
    rw [List.foldl_cons]
    have h := addP_len k T (addP f k (t.1, t.2.2)) s
    have h2 : (addP f k (t.1, t.2.2) s).length ≤ (f s).length + 1 := by
      unfold addP
      split <;> simp
    simp only [List.length_cons]
    omega
/-- The k-th term in memory. -/
theorem term_at {w : World} {n0 n : Nat} {A : Option Addr} {O : List Tr} (h : ReadsS w (fun b => n0 ≤ b ∧ Tg w 70 b) 2 A n (O.flatMap encO)) (hp : ∀ x ∈ O, x.2.2 ≠ [] ∧ ∃ P pc, x.2.1 = .slice P x.2.2.length pc ∧ x.2.2.length ≤ pc ∧ ReadsS w (fun b => n0 ≤ b ∧ Tg w 3 b) 1 P x.2.2.length (nC x.2.2)) (hl : O.length = n) {i : Nat} (hi : i < O.length) :
    ∃ bt o P pc, A = some ⟨bt, o, none⟩ ∧ Tg w 70 bt ∧ w.cell? ⟨bt, o + i * 2, none⟩ = some (.string O[i].1) ∧ w.cell? ⟨bt, o + i * 2 + 1, none⟩ = some (.slice P O[i].2.2.length pc) ∧ O[i].2.1 = .slice P O[i].2.2.length pc := by
  obtain ⟨b, o, e, hb, hc⟩ := h.2 (by omega)
  have f0 := Ss.encs_get (enc := encO) (k := 2) (fun _ => rfl) O i 0 hi (by omega)
  have f1 := Ss.encs_get (enc := encO) (k := 2) (fun _ => rfl) O i 1 hi (by omega)
  have c0 := hc _ _ (f0.trans rfl)
  have c1 := hc _ _ (f1.trans rfl)
  obtain ⟨_, P, pc, e2, _⟩ := hp _ (List.getElem_mem hi)
  rw [← Nat.add_assoc] at c1
  refine ⟨b, o, P, pc, e, hb.2, ?_, ?_, e2⟩
  · simpa using c0
  · rw [← e2]; exact c1
theorem run_look_v {κ : Type} {P : Program} {k : TypeId} {L : KeyLit κ} {w : World} {o : Oper} {a : Act}
    (m x : Operand) (t e : TypeId) (hop : o.op = Op.lookup t m x false) (K : Keyed P k) (ht : P.underlying t = some (.map k e)) {z : Value} (hz : (zeroValue e).run P w = .ok z w) (b n : Nat) (f : κ → Option Value)
    (hm : a.eval m = .map (some b)) (h : MapV P k L w b n f) (s : κ) (hx : a.eval x = L.val s) (hkey : keyOf P k (L.val s) = some (L.lit s)) (v : Value) (hfv : (f s).getD z = v) : (execOp a.eval o).run P w = .ok (.value v) w := by
  have hrun := h.look K ht hz s hkey
  simp [execOp, hop, hm, hx, hrun, Result.andThen, hfv]
theorem AddLoop.fin {w W1 wr : World} {n0 X : Nat} {O : Nat → Prop} {ds D0 : List Dc} {b0 j : Nat} (h : AddLoop w W1 wr n0 X O ds D0 b0 j) (hj : j = D0.length) {seq : Int} {l : List Evn} (he : addE ds seq l = 0) (hD : mkD seq l = D0) (h1 : Dok ds) (h2 : Dok D0) (hm : ds.length + D0.length ≤ 65536) : AddPost w n0 X O ds seq l (.returned (.int .i64 0)) wr := by
  obtain ⟨M, cn, v, F, hA, hcn⟩ := h.ex
  have e : ds ++ D0.take j = addD ds seq l := by unfold addD; rw [if_pos he, hD, List.take_of_length_le (by omega)]
  have hl : (addD ds seq l).length = ds.length + D0.length := by unfold addD; rw [if_pos he, hD, List.length_append]
  have hix := hA.ix
  rw [e] at hix
  rw [e] at hA
  refine ⟨by rw [he], ⟨⟨M, cn, v, F, hix, by rw [hl, ← hj]; exact hcn⟩, ?_, by omega⟩, hA.chg⟩
  · intro d hd
    rw [← e] at hd
    rcases List.mem_append.1 hd with hd | hd
    · exact h1 d hd
    · exact h2 d (List.mem_of_mem_take hd)
end Go.Proofs.YtdloacfoegjnmaaGreat.Mx
end
