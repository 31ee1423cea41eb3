/- The hot index: what Add knows. (No walk.) -/
import Derived.Test.YtdloacfoegjnmaaGreatPkGroupIndexesRow22
import Derived.Test.YtdloacfoegjnmaaGreatPkGroupIndexesRow20
import Derived.Test.YtdloacfoegjnmaaGreatPkGroupIndexesRow17
section
namespace Go.Proofs.YtdloacfoegjnmaaGreat.Mx
open Go.RowKit Go.Proofs.YtdloacfoegjnmaaGreat Go.Proofs.YtdloacfoegjnmaaGreat.Ut Go.Proofs.YtdloacfoegjnmaaGreat.Tk Go.Proofs.YtdloacfoegjnmaaGreat.Qy Go.Proofs.YtdloacfoegjnmaaGreat.Ev Go.Proofs.YtdloacfoegjnmaaGreat.Qp Go.Proofs.YtdloacfoegjnmaaGreat.Mv
set_option linter.unusedVariables false
set_option linter.unusedSimpArgs false
set_option maxRecDepth 20000

/-- Docs that may be. -/
def Dok (ds : List Dc) : Prop := ∀ d ∈ ds, chkE d.fs = 0 ∧ 1 ≤ d.seq ∧ d.seq ≤ 1099511627777
theorem szD_le {ds : List Dc} (h : Dok ds) : szD ds ≤ ds.length * 70000 := by
  induction ds with
  | nil => exact Nat.le_refl _
  | cons d l ih =>
    have h1 := szE_le (h d (List.mem_cons_self ..)).1
    have h2 := ih (fun e he => h e (List.mem_cons_of_mem _ he))
    simp only [szD, List.length_cons]
    omega
/-- An index whose docs are these. -/
structure IxD (w : World) (n0 X : Nat) (O : Nat → Prop) (ds : List Dc) : Prop where
  ex : ∃ M cn v F, Idx w n0 X M cn v F O ds (szD ds) (loD ds) (hiD ds) (postsT (ds.map (·.fs))) ∧ cn ≤ ds.length * 65536
  ok : Dok ds
  few : ds.length ≤ 65536
theorem IxD.below {w w' : World} {n0 X : Nat} {O O' : Nat → Prop} {ds : List Dc} (h : IxD w n0 X O ds) (hb : Below w.heap.size w w') (hO : ∀ b, O b → O' b) (hL : ∀ b, O' b → n0 ≤ b ∧ b < w'.heap.size) : IxD w' n0 X O' ds := by
  obtain ⟨M, cn, v, F, h1, h2⟩ := h.ex
  exact ⟨⟨M, cn, v, F, h1.below hb hO hL, h2⟩, h.ok, h.few⟩
/-- The own blocks behind a call. -/
def Ow (O : Nat → Prop) (w0 w : World) : Nat → Prop := fun b => O b ∨ (w0.heap.size ≤ b ∧ b < w.heap.size)
/-- What Add tells. -/
def AddPost (w : World) (n0 X : Nat) (O : Nat → Prop) (ds : List Dc) (seq : Int) (l : List Evn) (e : Ending) (w' : World) : Prop :=
  e = .returned (.int .i64 (addE ds seq l)) ∧ IxD w' n0 X (Ow O w w') (addD ds seq l) ∧ Chg O w w'
theorem mkD_ok {seq : Int} {l : List Evn} (h : chkB seq l = 0) : Dok (mkD seq l) := by
  have h' := chkB_ok h
  intro d hd
  obtain ⟨i, hi, rfl⟩ := List.mem_iff_getElem.1 hd
  rw [mkD_len] at hi
  have := h'.2.2.2.2.2
  simp only [mkD, List.getElem_mapIdx]
  exact ⟨h'.2.2.1 _ (List.getElem_mem hi), by omega, by omega⟩
/-- On the way through the docs that are added. -/
structure AddAt (w W1 wr : World) (n0 X : Nat) (O : Nat → Prop) (ds D0 : List Dc) (b0 : Nat) (j : Nat) (M cn : Nat) (v : Value) (F : ByteArray → Option Value) (sz lo hi : Int) (f : ByteArray → List Po) : Prop where
  ix : Idx wr n0 X M cn v F (Ow O w wr) (ds ++ D0.take j) sz lo hi f
  chg : Chg O w wr
  same : wr.heap[b0]? = W1.heap[b0]?
  ne : v.ownBlock ≠ some b0
  fld : ∀ b, Tg W1 89 b → wr.heap[b]? = W1.heap[b]?
  le : W1.heap.size ≤ wr.heap.size
theorem AddAt.below {w W1 wr w2 : World} {n0 X : Nat} {O : Nat → Prop} {ds D0 : List Dc} {b0 j M cn : Nat} {v : Value} {F : ByteArray → Option Value} {sz lo hi : Int} {f : ByteArray → List Po}
    (h : AddAt w W1 wr n0 X O ds D0 b0 j M cn v F sz lo hi f) (hb : Below wr.heap.size wr w2) (hb0 : b0 < wr.heap.size) (hn : n0 ≤ w.heap.size) : AddAt w W1 w2 n0 X O ds D0 b0 j M cn v F sz lo hi f := by
  have hw : w.heap.size ≤ wr.heap.size := h.chg.size
  refine ⟨h.ix.below hb (fun b hO => ?_) (fun b hO => ?_), h.chg.then_new hb, (hb.block b0 hb0).trans h.same, h.ne, fun b ht => (hb.block b (by have := ht.lt; have := h.le; omega)).trans (h.fld b ht), Nat.le_trans h.le hb.size⟩
  · rcases hO with hO | ⟨h1, h2⟩
    · exact .inl hO
    · exact .inr ⟨h1, Nat.lt_of_lt_of_le h2 hb.size⟩
  · rcases hO with hO | ⟨h1, h2⟩
    · have := h.ix.lt b (.inl hO)
      exact ⟨this.1, Nat.lt_of_lt_of_le this.2 hb.size⟩
    · exact ⟨by omega, h2⟩
theorem Ow.mono {O : Nat → Prop} {w wr w2 : World} (h : wr.heap.size ≤ w2.heap.size) : ∀ b, Ow O w wr b → Ow O w w2 b := fun b hb => by
  rcases hb with hb | ⟨h1, h2⟩
  · exact .inl hb
  · exact .inr ⟨h1, Nat.lt_of_lt_of_le h2 h⟩
/-- The loop's state. -/
structure AddLoop (w W1 wr : World) (n0 X : Nat) (O : Nat → Prop) (ds D0 : List Dc) (b0 : Nat) (j : Nat) : Prop where
  ex : ∃ M cn v F, AddAt w W1 wr n0 X O ds D0 b0 j M cn v F (szD (ds ++ D0.take j)) (loD (ds ++ D0.take j)) (hiD (ds ++ D0.take j)) (postsT ((ds ++ D0.take j).map (·.fs))) ∧ cn ≤ (ds.length + j) * 65536
theorem Idx.docs_v {w : World} {n0 X M cn : Nat} {v : Value} {F : ByteArray → Option Value} {O : Nat → Prop} {ds : List Dc} {sz lo hi : Int} {f : ByteArray → List Po} (h : Idx w n0 X M cn v F O ds sz lo hi f) : ∃ A c, v = .slice A ds.length c ∧ ds.length ≤ c ∧ (A = none → c = 0) := by
  obtain ⟨vss, _, o2, _⟩ := h.own
  obtain ⟨A, c, e, _, q1, q2, _⟩ := own_shape2 o2
  exact ⟨A, c, e, q1, q2⟩
/-- The i-th doc. -/
theorem Idx.doc_at {w : World} {n0 X M cn : Nat} {A : Option Addr} {m c : Nat} {F : ByteArray → Option Value} {O : Nat → Prop} {ds : List Dc} {sz lo hi : Int} {f : ByteArray → List Po} (h : Idx w n0 X M cn (.slice A m c) F O ds sz lo hi f) {i : Nat} (hi' : i < ds.length) :
    ∃ g Fa fn fc, A = some ⟨g, 0, none⟩ ∧ g < w.heap.size ∧ w.cell? ⟨g, i * 3, none⟩ = some (.int .i64 ds[i].seq) ∧ w.cell? ⟨g, i * 3 + 1, none⟩ = some (.int .i64 ds[i].at_) ∧ w.cell? ⟨g, i * 3 + 2, none⟩ = some (.slice Fa fn fc) ∧
      ReadsS w (fun b => Tg w 89 b) 2 Fa fn (fldC ds[i].fs) ∧ ds[i].fs.length = fn ∧ fn ≤ 8796093021952 ∧ fn ≤ fc ∧ (Fa = none → fc = 0) := by
  obtain ⟨vss, o1, o2, o3⟩ := h.own
  rcases o2.2 with ⟨hv, h0⟩ | ⟨g, cap, cur, hv, _, hg, _, _, _, ht⟩
  · omega
  · injection hv with hA hm hc
    subst hA
    have hd : DocsS w (fun b => b < w.heap.size) (fun b => Tg w 89 b) (some ⟨g, 0, none⟩) ds.length ds := ⟨rfl, vss, o1, (ReadsS.of_own (by rw [← hm] at o2 ⊢; exact o2)).mono (fun b hb => hb.2.1), fun i a b => o3 i a b⟩
    obtain ⟨b, o, Fa, fn, fc, e, hb, c0, c1, c2, r⟩ := hd.at_ hi'
    injection e with e
    injection e with e1 e2
    subst e1 e2
    rw [Nat.zero_add] at c0 c1 c2
    exact ⟨g, Fa, fn, fc, rfl, hb, c0, c1, c2, r⟩
end Go.Proofs.YtdloacfoegjnmaaGreat.Mx
end

section
/- Where a term stands in a doc alone: plain. (No program in sight.) -/
namespace Go.Proofs.YtdloacfoegjnmaaGreat.Mx
open Go.RowKit Go.Proofs.YtdloacfoegjnmaaGreat Go.Proofs.YtdloacfoegjnmaaGreat.Ut Go.Proofs.YtdloacfoegjnmaaGreat.Tk Go.Proofs.YtdloacfoegjnmaaGreat.Qy Go.Proofs.YtdloacfoegjnmaaGreat.Ev
set_option linter.unusedVariables false
set_option linter.unusedSimpArgs false

/-- The places that stand at a doc in a row. -/
def findP (l : List Po) (i : Int) : Option (List Nat) := (l.find? (fun p => decide ((p.1 : Int) = i))).map (·.2)
theorem postsT_lt : ∀ (ds : List (List Fl)) (s : ByteArray), ∀ p ∈ postsT ds s, p.1 < ds.length := by
  intro ds s p hp
  unfold postsT at hp
  obtain ⟨q, hq, h⟩ := List.mem_filterMap.1 hp
  have := List.mem_zipIdx hq
  obtain ⟨r, _, rfl⟩ := Option.map_eq_some_iff.1 h
  simp at this ⊢
  omega
/-- One post, or none. -/
def oneP (i : Nat) : Option (List Nat) → List Po
  | some q => [(i, q)]
  | none => []
theorem postsT_snoc2 (ds : List (List Fl)) (fs : List Fl) (s : ByteArray) : postsT (ds ++ [fs]) s = postsT ds s ++ oneP ds.length (posOf fs s) := by
  rw [postsT_snoc]
  cases posOf fs s <;> rfl
theorem find_posts (s : ByteArray) (i : Nat) : ∀ (n : Nat) (ds : List (List Fl)), ds.length = n → findP (postsT ds s) (i : Int) = ds[i]?.bind (fun fs => posOf fs s)
  | 0, ds, h => by
    obtain rfl := List.length_eq_zero_iff.1 h
    rfl
  | n + 1, ds, h => by
    obtain ⟨dl, d, rfl⟩ : ∃ dl d, ds = dl ++ [d] := by
      rcases List.eq_nil_or_concat ds with h0 | ⟨dl, d, h0⟩
      · subst h0; simp at h
      · exact ⟨dl, d, by rw [h0, List.concat_eq_append]⟩
    have hl : dl.length = n := by simpa using h
    have ih := find_posts s i n dl hl
    rw [postsT_snoc2]
    unfold findP at ih ⊢
    rw [List.find?_append]
    by_cases hi : i < dl.length
    · rw [List.getElem?_append_left hi]
      have hnone : (oneP dl.length (posOf d s)).find? (fun p : Po => decide ((p.1 : Int) = (i : Int))) = none := by
        cases posOf d s with
        | none => rfl
        | some q =>
          have : decide ((dl.length : Int) = (i : Int)) = false := decide_eq_false (by omega)
          simp only [oneP, List.find?_cons, this]
          rfl
      rw [hnone, Option.or_none]
      exact ih
    · have hnone : (postsT dl s).find? (fun p => decide ((p.1 : Int) = (i : Int))) = none := by
        rw [List.find?_eq_none]
        intro p hp
        have := postsT_lt dl s p hp
        simp only [decide_eq_true_eq]
        omega
      rw [hnone, Option.none_or, List.getElem?_append_right (by omega)]
      by_cases he : i = dl.length
      · subst he
        simp only [Nat.sub_self, List.getElem?_cons_zero, Option.bind_some]
        cases posOf d s with
        | none => rfl
        | some q => simp [oneP]
      · rw [List.getElem?_eq_none (by simp; omega)]
        cases posOf d s with
        | none => rfl
        | some q =>
          have : decide ((dl.length : Int) = (i : Int)) = false := decide_eq_false (by omega)
          simp only [oneP, List.find?_cons, this]
          rfl
theorem postsT_one (fs : List Fl) (s : ByteArray) : postsT [fs] s = oneP 0 (posOf fs s) := by
  have h := postsT_snoc2 [] fs s
  simpa [postsT_nil] using h
theorem postsT_le (ds : List (List Fl)) (s : ByteArray) : (postsT ds s).length ≤ ds.length := by
  unfold postsT
  refine Nat.le_trans (List.length_filterMap_le _ _) ?_
  simp
/-- A doc that an index took, added to another one alone. -/
def Small (ds : List Dc) : Prop := ∀ d ∈ ds, chkE d.fs = 0 ∧ szE d.fs ≤ 65536
theorem szL_mem : ∀ (l : List Evn), ∀ e ∈ l, szE e.2 ≤ szL l
  | [], e, h => (nomatch h)
  | a :: l, e, h => by
    simp only [szL]
    rcases List.mem_cons.1 h with rfl | h
    · omega
    · have := szL_mem l e h; omega
theorem addD_small {ds : List Dc} {seq : Int} {l : List Evn} (h : Small ds) : Small (addD ds seq l) := by
  unfold addD
  split
  · rename_i he
    have hc : chkB seq l = 0 := by
      unfold addE at he
      split at he
      · assumption
      · exact he
    have hk := chkB_ok hc
    intro d hd
    rcases List.mem_append.1 hd with hd | hd
    · exact h d hd
    · obtain ⟨i, hi, rfl⟩ := List.mem_iff_getElem.1 hd
      rw [mkD_len] at hi
      have hm := List.getElem_mem hi
      have h1 := szL_mem l _ hm
      simp only [mkD, List.getElem_mapIdx]
      exact ⟨hk.2.2.1 _ hm, by have := hk.2.2.2.1; omega⟩
  · exact h
theorem add_alone {d : Dc} (h1 : chkE d.fs = 0) (h2 : szE d.fs ≤ 65536) : addE [] 1 [(d.at_, d.fs)] = 0 ∧ addD [] 1 [(d.at_, d.fs)] = [⟨1, d.at_, d.fs⟩] := by
  have hc : chkB 1 [(d.at_, d.fs)] = 0 := by
    unfold chkB
    rw [if_neg (by simp), if_neg (by simp)]
    have hf : fstE [(d.at_, d.fs)] = 0 := by simp [fstE, h1]
    rw [if_pos hf]
    have hs : szL [(d.at_, d.fs)] = szE d.fs := by simp [szL]
    rw [hs, if_neg (by omega), if_neg (by simp)]
  have he : addE [] 1 [(d.at_, d.fs)] = 0 := by
    unfold addE
    rw [if_pos hc]
    simp
  refine ⟨he, ?_⟩
  unfold addD
  rw [if_pos he]
  simp [mkD]
end Go.Proofs.YtdloacfoegjnmaaGreat.Mx
end

section
/- The document's rows of places: plain. (No program in sight.) -/
namespace Go.Proofs.YtdloacfoegjnmaaGreat.Mx
open Go.RowKit Go.Proofs.YtdloacfoegjnmaaGreat Go.Proofs.YtdloacfoegjnmaaGreat.Ut Go.Proofs.YtdloacfoegjnmaaGreat.Tk Go.Proofs.YtdloacfoegjnmaaGreat.Qy Go.Proofs.YtdloacfoegjnmaaGreat.Ev
set_option linter.unusedVariables false
set_option linter.unusedSimpArgs false

/-- Two rows as one. -/
def mrgN : List Nat → List Nat → List Nat
  | [], b => b
  | x :: a, [] => x :: a
  | x :: a, y :: b => if x < y then x :: mrgN a (y :: b) else y :: mrgN (x :: a) b
termination_by a b => a.length + b.length
theorem mrgN_nil (a : List Nat) : mrgN a [] = a := by cases a <;> simp [mrgN]
theorem nil_mrgN (b : List Nat) : mrgN [] b = b := by simp [mrgN]
theorem mrgN_len : ∀ (n : Nat) (a b : List Nat), a.length + b.length = n → (mrgN a b).length = n
  | n, [], b, h => by simp [mrgN] at h ⊢; omega
  | n, x :: a, [], h => by simp [mrgN] at h ⊢; omega
  | 0, x :: a, y :: b, h => by simp at h
  | n + 1, x :: a, y :: b, h => by
    have h' : a.length + (b.length + 1) = n := by simp at h; omega
    have h2 : a.length + 1 + b.length = n := by simp at h; omega
    unfold mrgN
    split
    · rw [List.length_cons, mrgN_len n a (y :: b) (by simpa using h')]
    · rw [List.length_cons, mrgN_len n (x :: a) b (by simpa using h2)]
theorem mrg_a {a b : List Nat} {i k : Nat} (hi : i < a.length) (h : b.length ≤ k ∨ ∃ hk : k < b.length, a[i] < b[k]) : mrgN (a.drop i) (b.drop k) = a[i] :: mrgN (a.drop (i + 1)) (b.drop k) := by
  rw [List.drop_eq_getElem_cons hi]
  rcases h with h | ⟨hk, h⟩
  · rw [List.drop_eq_nil_of_le h, mrgN_nil, mrgN_nil]
  · rw [List.drop_eq_getElem_cons hk]
    conv => lhs; unfold mrgN
    rw [if_pos h]
theorem mrg_b {a b : List Nat} {i k : Nat} (hk : k < b.length) (h : a.length ≤ i ∨ ∃ hi : i < a.length, ¬ a[i] < b[k]) : mrgN (a.drop i) (b.drop k) = b[k] :: mrgN (a.drop i) (b.drop (k + 1)) := by
  rw [List.drop_eq_getElem_cons hk]
  rcases h with h | ⟨hi, h⟩
  · rw [List.drop_eq_nil_of_le h, nil_mrgN, nil_mrgN]
  · rw [List.drop_eq_getElem_cons hi]
    conv => lhs; unfold mrgN
    rw [if_neg h]
/-- Does a text begin so? -/
def begB (t s : ByteArray) : Bool := s.data.toList.isPrefixOf t.data.toList
/-- Which terms are asked for. -/
def selT (s : ByteArray) (whole : Bool) (t : ByteArray) : Bool := if whole then decide (t = s) else begB t s
def ofT (s : ByteArray) (whole : Bool) (T : List Tm) : List Nat := T.foldl (fun l t => if selT s whole t.1 then mrgN l t.2 else l) []
theorem ofT_snoc (s : ByteArray) (whole : Bool) (T : List Tm) (t : Tm) : ofT s whole (T ++ [t]) = if selT s whole t.1 then mrgN (ofT s whole T) t.2 else ofT s whole T := by simp [ofT]
theorem ofT_len (s : ByteArray) (whole : Bool) (K : Nat) : ∀ (n : Nat) (T : List Tm), T.length = n → (∀ t ∈ T, t.2.length ≤ K) → (ofT s whole T).length ≤ n * K
  | 0, T, h, _ => by
    obtain rfl := List.length_eq_zero_iff.1 h
    simp [ofT]
  | n + 1, T, h, hk => by
    obtain ⟨dl, d, rfl⟩ : ∃ dl d, T = dl ++ [d] := by
      rcases List.eq_nil_or_concat T with h0 | ⟨dl, d, h0⟩
      · subst h0; simp at h
      · exact ⟨dl, d, by rw [h0, List.concat_eq_append]⟩
    have ih := ofT_len s whole K n dl (by simpa using h) (fun t ht => hk t (List.mem_append_left _ ht))
    have hd := hk d (by simp)
    rw [ofT_snoc, Nat.add_mul, Nat.one_mul]
    split
    · rw [mrgN_len _ _ _ rfl]; omega
    · omega
/-- Of an event. -/
def ofE (s : ByteArray) (whole : Bool) (fs : List Fl) : List Nat := ofT s whole (addAll (raw fs))
theorem ofT_none (s : ByteArray) (l0 : List Nat) : ∀ (T : List Tm), (∀ t ∈ T, t.1 ≠ s) → T.foldl (fun l t => if selT s true t.1 then mrgN l t.2 else l) l0 = l0
  | [], _ => rfl
  | t :: T, h => by
    have h1 : selT s true t.1 = false := by unfold selT; simp; exact h t (by simp)
    rw [List.foldl_cons, h1]
    exact ofT_none s l0 T (fun x hx => h x (List.mem_cons_of_mem _ hx))
theorem ofT_whole (s : ByteArray) : ∀ (T : List Tm), T.Pairwise (fun x y => x.1 ≠ y.1) → ofT s true T = ((T.find? (fun t => decide (t.1 = s))).map (·.2)).getD []
  | [], _ => rfl
  | t :: T, h => by
    obtain ⟨h1, h2⟩ := List.pairwise_cons.1 h
    unfold ofT
    rw [List.foldl_cons, List.find?_cons]
    by_cases e : t.1 = s
    · have hs : selT s true t.1 = true := by unfold selT; simp [e]
      have hd : decide (t.1 = s) = true := decide_eq_true e
      simp only [hs, hd, if_true, nil_mrgN]
      rw [ofT_none s _ T (fun x hx e2 => h1 x hx (by rw [e, e2]))]
      rfl
    · have hs : selT s true t.1 = false := by unfold selT; simp [e]
      have hd : decide (t.1 = s) = false := decide_eq_false e
      simp only [hs, hd]
      exact ofT_whole s T h2
theorem ofE_whole (s : ByteArray) (fs : List Fl) : ofE s true fs = (posOf fs s).getD [] := by
  unfold ofE posOf
  exact ofT_whole s _ (terms_ne fs)
/-- The document's posts. -/
def postE (s : ByteArray) (whole : Bool) (p : List Fl × Nat) : Option Po := if ofE s whole p.1 = [] then none else some (p.2, ofE s whole p.1)
def postsR (ds : List (List Fl)) (s : ByteArray) (whole : Bool) : List Po := ds.zipIdx.filterMap (postE s whole)
theorem postsR_snoc (ds : List (List Fl)) (fs : List Fl) (s : ByteArray) (whole : Bool) : postsR (ds ++ [fs]) s whole = postsR ds s whole ++ (postE s whole (fs, ds.length)).toList := by
  unfold postsR
  rw [List.zipIdx_append, List.filterMap_append]
  congr 1
  simp only [List.zipIdx_cons, List.zipIdx_nil, List.filterMap_cons, List.filterMap_nil, Nat.zero_add]
  cases postE s whole (fs, ds.length) <;> rfl
theorem postsR_len (ds : List (List Fl)) (s : ByteArray) (whole : Bool) : (postsR ds s whole).length ≤ ds.length := by
  unfold postsR
  refine Nat.le_trans (List.length_filterMap_le _ _) ?_
  simp
theorem postsR_whole (ds : List (List Fl)) (s : ByteArray) : postsR ds s true = postsT ds s := by
  unfold postsR postsT
  congr 1
  funext p
  unfold postE
  rw [ofE_whole]
  cases h : posOf p.1 s with
  | none => rfl
  | some q => simp [posOf_ne h]
end Go.Proofs.YtdloacfoegjnmaaGreat.Mx
end
