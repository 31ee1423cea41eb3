/- (*memidx.Index).Prefix where there is no term (seat k; printed by gen_mxx.py). -/
import Derived.RegionTactic
import Derived.ChangeAlike
import Derived.Test.YtioekhiaoajgfaaGreatPkMemidxForksRow27
import Derived.Test.YtioekhiaoajgfaaGreatPkMemidxForksRow32
import Derived.Test.YtioekhiaoajgfaaGreatPkMemidxForksRow24
import Derived.Test.YtioekhiaoajgfaaGreatPkMemidxForksRow19
import Derived.Test.YtioekhiaoajgfaaGreatPkMemidxForksRow12
import Derived.Test.YtioekhiaoajgfaaGreatEvVPk
import Derived.Test.YtioekhiaoajgfaaGreatPkMemidxForksRow26
section
namespace Go.Proofs.YtioekhiaoajgfaaGreat.Mx
open Go.RowKit Go.Maps Go.Proofs.YtioekhiaoajgfaaGreat Go.Proofs.YtioekhiaoajgfaaGreat.Ut Go.Proofs.YtioekhiaoajgfaaGreat.Tk Go.Proofs.YtioekhiaoajgfaaGreat.Qy Go.Proofs.YtioekhiaoajgfaaGreat.Ev Go.Proofs.YtioekhiaoajgfaaGreat.Qp Go.Proofs.YtioekhiaoajgfaaGreat.Mv
set_option linter.unusedVariables false
set_option linter.unusedSimpArgs false
set_option maxRecDepth 40000

theorem prefix_nil {w : World} {p : Option Addr} (s : ByteArray) (hT : ∀ wx, Below w.heap.size w wx → Calls Tryz.prog 12 #[.pointer p] wx fun e w' => (∃ A c, e = .returned (.slice A 0 c)) ∧ Below wx.heap.size wx w')
    (hL : ∀ wx, Below w.heap.size w wx → Calls Tryz.prog 26 #[.pointer p] wx fun e w' => e = .returned (.int .i64 0) ∧ wx = w') :
    Calls Tryz.prog 10 #[.pointer p, .string s] w fun e w' => e = .returned (.slice none 0 0) ∧ Below w.heap.size w w' := by
  have hB1 : Below w.heap.size w (w.alloc (.map #[] 0)) := (Below.refl _ _).alloc (Nat.le_refl _) _
  have hmk : (Instr.makeMap 78 none).run Tryz.prog w = .ok (.map (some w.heap.size)) (w.alloc (.map #[] 0)) := rfl
  have c1 := Lib.hid (hT _ hB1)
  have HL := Lib.hid hL
  have HB1 := Lib.hid hB1
  clear hT hL hB1
  go_enter Tryz.func10, Tryz.ntmps10
  go_wp2_with fail
  refine c1.out.mono ?_
  rintro e w2 ⟨⟨A, c, rfl⟩, hb2⟩
  have HB2 := Lib.hid (HB1.out.trans (hb2.mono HB1.out.size))
  clear hb2 c1
  go_wp2_with fail
  go_loopw [18] (fun i wr => i = .int .i64 0 ∧ wr = w2) (fun _ _ => 0)
  case atStart => exact ⟨rfl, rfl⟩
  case round =>
    obtain ⟨rfl, rfl⟩ := hrel
    have c2 := Lib.hid (HL.out wr HB2.out)
    go_wp2_with fail
    refine c2.out.mono ?_
    rintro e w' ⟨rfl, rfl⟩
    obtain ⟨wo, rfl⟩ : ∃ wo : World, wo = wr := ⟨_, rfl⟩
    go_wp2_with fail
    go_loopw [10, 51] (fun v i wr => v = .slice none 0 0 ∧ i = .int .i64 0 ∧ wr = wo) (fun _ _ _ => 0)
    case atStart => exact ⟨rfl, rfl, rfl⟩
    case round =>
      obtain ⟨rfl, rfl, rfl⟩ := hrel
      go_wp2
      go_ret
      exact ⟨rfl, HB2.out⟩
end Go.Proofs.YtioekhiaoajgfaaGreat.Mx
end

section
/- Where a term stands in a doc alone: plain. (No program in sight.) -/
namespace Go.Proofs.YtioekhiaoajgfaaGreat.Mx
open Go.RowKit Go.Proofs.YtioekhiaoajgfaaGreat Go.Proofs.YtioekhiaoajgfaaGreat.Ut Go.Proofs.YtioekhiaoajgfaaGreat.Tk Go.Proofs.YtioekhiaoajgfaaGreat.Qy Go.Proofs.YtioekhiaoajgfaaGreat.Ev
set_option linter.unusedVariables false
set_option linter.unusedSimpArgs false

/-- The places that stand at a doc in a row. -/
def findP (l : List Po) (i : Int) : Option (List Nat) := (l.find? (fun p => decide ((p.1 : Int) = i))).map (·.2)
theorem postsT_lt : ∀ (ds : List (List Fl)) (s : ByteArray), ∀ p ∈ postsT ds s, p.1 < ds.length := by
  intro ds s p hp
  unfold postsT at hp
  obtain ⟨q, hq, h⟩ := List.mem_filterMap.1 hp
  have := List.mem_zipIdx hq
  obtain ⟨r, _, rfl⟩ := Option.map_eq_some_iff.1 h
  simp at this ⊢
  omega
/-- One post, or none. -/
def oneP (i : Nat) : Option (List Nat) → List Po
  | some q => [(i, q)]
  | none => []
theorem postsT_snoc2 (ds : List (List Fl)) (fs : List Fl) (s : ByteArray) : postsT (ds ++ [fs]) s = postsT ds s ++ oneP ds.length (posOf fs s) := by
  rw [postsT_snoc]
  cases posOf fs s <;> rfl
theorem find_posts (s : ByteArray) (i : Nat) : ∀ (n : Nat) (ds : List (List Fl)), ds.length = n → findP (postsT ds s) (i : Int) = ds[i]?.bind (fun fs => posOf fs s)
  | 0, ds, h => by
    obtain rfl := List.length_eq_zero_iff.1 h
    rfl
  | n + 1, ds, h => by
    obtain ⟨dl, d, rfl⟩ : ∃ dl d, ds = dl ++ [d] := by
      rcases List.eq_nil_or_concat ds with h0 | ⟨dl, d, h0⟩
      · subst h0; simp at h
      · exact ⟨dl, d, by rw [h0, List.concat_eq_append]⟩
    have hl : dl.length = n := by simpa using h
    have ih := find_posts s i n dl hl
    rw [postsT_snoc2]
    unfold findP at ih ⊢
    rw [List.find?_append]
    by_cases hi : i < dl.length
    · rw [List.getElem?_append_left hi]
      have hnone : (oneP dl.length (posOf d s)).find? (fun p : Po => decide ((p.1 : Int) = (i : Int))) = none := by
        cases posOf d s with
        | none => rfl
        | some q =>
          have : decide ((dl.length : Int) = (i : Int)) = false := decide_eq_false (by omega)
          simp only [oneP, List.find?_cons, this]
          rfl
      rw [hnone, Option.or_none]
      exact ih
    · have hnone : (postsT dl s).find? (fun p => decide ((p.1 : Int) = (i : Int))) = none := by
        rw [List.find?_eq_none]
        intro p hp
        have := postsT_lt dl s p hp
        simp only [decide_eq_true_eq]
        omega
      rw [hnone, Option.none_or, List.getElem?_append_right (by omega)]
      by_cases he : i = dl.length
      · subst he
        simp only [Nat.sub_self, List.getElem?_cons_zero, Option.bind_some]
        cases posOf d s with
        | none => rfl
        | some q => simp [oneP]
      · rw [List.getElem?_eq_none (by simp; omega)]
        cases posOf d s with
        | none => rfl
        | some q =>
          have : decide ((dl.length : Int) = (i : Int)) = false := decide_eq_false (by omega)
          simp only [oneP, List.find?_cons, this]
          rfl
theorem postsT_one (fs : List Fl) (s : ByteArray) : postsT [fs] s = oneP 0 (posOf fs s) := by
  have h := postsT_snoc2 [] fs s
  simpa [postsT_nil] using h
theorem postsT_le (ds : List (List Fl)) (s : ByteArray) : (postsT ds s).length ≤ ds.length := by
  unfold postsT
  refine Nat.le_trans (List.length_filterMap_le _ _) ?_
  simp
/-- A doc that an index took, added to another one alone. -/
def Small (ds : List Dc) : Prop := ∀ d ∈ ds, chkE d.fs = 0 ∧ szE d.fs ≤ 65536
theorem szL_mem : ∀ (l : List Evn), ∀ e ∈ l, szE e.2 ≤ szL l
  | [], e, h => (nomatch h)
  | a :: l, e, h => by
    simp only [szL]
    rcases List.mem_cons.1 h with rfl | h
    · omega
    · have := szL_mem l e h; omega
theorem addD_small {ds : List Dc} {seq : Int} {l : List Evn} (h : Small ds) : Small (addD ds seq l) := by
  unfold addD
  split
  · rename_i he
    have hc : chkB seq l = 0 := by
      unfold addE at he
      split at he
      · assumption
      · exact he
    have hk := chkB_ok hc
    intro d hd
    rcases List.mem_append.1 hd with hd | hd
    · exact h d hd
    · obtain ⟨i, hi, rfl⟩ := List.mem_iff_getElem.1 hd
      rw [mkD_len] at hi
      have hm := List.getElem_mem hi
      have h1 := szL_mem l _ hm
      simp only [mkD, List.getElem_mapIdx]
      exact ⟨hk.2.2.1 _ hm, by have := hk.2.2.2.1; omega⟩
  · exact h
theorem add_alone {d : Dc} (h1 : chkE d.fs = 0) (h2 : szE d.fs ≤ 65536) : addE [] 1 [(d.at_, d.fs)] = 0 ∧ addD [] 1 [(d.at_, d.fs)] = [⟨1, d.at_, d.fs⟩] := by
  have hc : chkB 1 [(d.at_, d.fs)] = 0 := by
    unfold chkB
    rw [if_neg (by simp), if_neg (by simp)]
    have hf : fstE [(d.at_, d.fs)] = 0 := by simp [fstE, h1]
    rw [if_pos hf]
    have hs : szL [(d.at_, d.fs)] = szE d.fs := by simp [szL]
    rw [hs, if_neg (by omega), if_neg (by simp)]
  have he : addE [] 1 [(d.at_, d.fs)] = 0 := by
    unfold addE
    rw [if_pos hc]
    simp
  refine ⟨he, ?_⟩
  unfold addD
  rw [if_pos he]
  simp [mkD]
end Go.Proofs.YtioekhiaoajgfaaGreat.Mx
end

section
/- The document's rows of places: plain. (No program in sight.) -/
namespace Go.Proofs.YtioekhiaoajgfaaGreat.Mx
open Go.RowKit Go.Proofs.YtioekhiaoajgfaaGreat Go.Proofs.YtioekhiaoajgfaaGreat.Ut Go.Proofs.YtioekhiaoajgfaaGreat.Tk Go.Proofs.YtioekhiaoajgfaaGreat.Qy Go.Proofs.YtioekhiaoajgfaaGreat.Ev
set_option linter.unusedVariables false
set_option linter.unusedSimpArgs false

/-- Two rows as one. -/
def mrgN : List Nat → List Nat → List Nat
  | [], b => b
  | x :: a, [] => x :: a
  | x :: a, y :: b => if x < y then x :: mrgN a (y :: b) else y :: mrgN (x :: a) b
termination_by a b => a.length + b.length
theorem mrgN_nil (a : List Nat) : mrgN a [] = a := by cases a <;> simp [mrgN]
theorem nil_mrgN (b : List Nat) : mrgN [] b = b := by simp [mrgN]
theorem mrgN_len : ∀ (n : Nat) (a b : List Nat), a.length + b.length = n → (mrgN a b).length = n
  | n, [], b, h => by simp [mrgN] at h ⊢; omega
  | n, x :: a, [], h => by simp [mrgN] at h ⊢; omega
  | 0, x :: a, y :: b, h => by simp at h
  | n + 1, x :: a, y :: b, h => by
    have h' : a.length + (b.length + 1) = n := by simp at h; omega
    have h2 : a.length + 1 + b.length = n := by simp at h; omega
    unfold mrgN
    split
    · rw [List.length_cons, mrgN_len n a (y :: b) (by simpa using h')]
    · rw [List.length_cons, mrgN_len n (x :: a) b (by simpa using h2)]
theorem mrg_a {a b : List Nat} {i k : Nat} (hi : i < a.length) (h : b.length ≤ k ∨ ∃ hk : k < b.length, a[i] < b[k]) : mrgN (a.drop i) (b.drop k) = a[i] :: mrgN (a.drop (i + 1)) (b.drop k) := by
  rw [List.drop_eq_getElem_cons hi]
  rcases h with h | ⟨hk, h⟩
  · rw [List.drop_eq_nil_of_le h, mrgN_nil, mrgN_nil]
  · rw [List.drop_eq_getElem_cons hk]
    conv => lhs; unfold mrgN
    rw [if_pos h]
theorem mrg_b {a b : List Nat} {i k : Nat} (hk : k < b.length) (h : a.length ≤ i ∨ ∃ hi : i < a.length, ¬ a[i] < b[k]) : mrgN (a.drop i) (b.drop k) = b[k] :: mrgN (a.drop i) (b.drop (k + 1)) := by
  rw [List.drop_eq_getElem_cons hk]
  rcases h with h | ⟨hi, h⟩
  · rw [List.drop_eq_nil_of_le h, nil_mrgN, nil_mrgN]
  · rw [List.drop_eq_getElem_cons hi]
    conv => lhs; unfold mrgN
    rw [if_neg h]
/-- Does a text begin so? -/
def begB (t s : ByteArray) : Bool := s.data.toList.isPrefixOf t.data.toList
/-- Which terms are asked for. -/
def selT (s : ByteArray) (whole : Bool) (t : ByteArray) : Bool := if whole then decide (t = s) else begB t s
def ofT (s : ByteArray) (whole : Bool) (T : List Tm) : List Nat := T.foldl (fun l t => if selT s whole t.1 then mrgN l t.2 else l) []
theorem ofT_snoc (s : ByteArray) (whole : Bool) (T : List Tm) (t : Tm) : ofT s whole (T ++ [t]) = if selT s whole t.1 then mrgN (ofT s whole T) t.2 else ofT s whole T := by simp [ofT]
theorem ofT_len (s : ByteArray) (whole : Bool) (K : Nat) : ∀ (n : Nat) (T : List Tm), T.length = n → (∀ t ∈ T, t.2.length ≤ K) → (ofT s whole T).length ≤ n * K
  | 0, T, h, _ => by
    obtain rfl := List.length_eq_zero_iff.1 h
    simp [ofT]
  | n + 1, T, h, hk => by
    obtain ⟨dl, d, rfl⟩ : ∃ dl d, T = dl ++ [d] := by
      rcases List.eq_nil_or_concat T with h0 | ⟨dl, d, h0⟩
      · subst h0; simp at h
      · exact ⟨dl, d, by rw [h0, List.concat_eq_append]⟩
    have ih := ofT_len s whole K n dl (by simpa using h) (fun t ht => hk t (List.mem_append_left _ ht))
    have hd := hk d (by simp)
    rw [ofT_snoc, Nat.add_mul, Nat.one_mul]
    split
    · rw [mrgN_len _ _ _ rfl]; omega
    · omega
/-- Of an event. -/
def ofE (s : ByteArray) (whole : Bool) (fs : List Fl) : List Nat := ofT s whole (addAll (raw fs))
theorem ofT_none (s : ByteArray) (l0 : List Nat) : ∀ (T : List Tm), (∀ t ∈ T, t.1 ≠ s) → T.foldl (fun l t => if selT s true t.1 then mrgN l t.2 else l) l0 = l0
  | [], _ => rfl
  | t :: T, h => by
    have h1 : selT s true t.1 = false := by unfold selT; simp; exact h t (by simp)
    rw [List.foldl_cons, h1]
    exact ofT_none s l0 T (fun x hx => h x (List.mem_cons_of_mem _ hx))
theorem ofT_whole (s : ByteArray) : ∀ (T : List Tm), T.Pairwise (fun x y => x.1 ≠ y.1) → ofT s true T = ((T.find? (fun t => decide (t.1 = s))).map (·.2)).getD []
  | [], _ => rfl
  | t :: T, h => by
    obtain ⟨h1, h2⟩ := List.pairwise_cons.1 h
    unfold ofT
    rw [List.foldl_cons, List.find?_cons]
    by_cases e : t.1 = s
    · have hs : selT s true t.1 = true := by unfold selT; simp [e]
      have hd : decide (t.1 = s) = true := decide_eq_true e
      simp only [hs, hd, if_true, nil_mrgN]
      rw [ofT_none s _ T (fun x hx e2 => h1 x hx (by rw [e, e2]))]
      rfl
    · have hs : selT s true t.1 = false := by unfold selT; simp [e]
      have hd : decide (t.1 = s) = false := decide_eq_false e
      simp only [hs, hd]
      exact ofT_whole s T h2
theorem ofE_whole (s : ByteArray) (fs : List Fl) : ofE s true fs = (posOf fs s).getD [] := by
  unfold ofE posOf
  exact ofT_whole s _ (terms_ne fs)
/-- The document's posts. -/
def postE (s : ByteArray) (whole : Bool) (p : List Fl × Nat) : Option Po := if ofE s whole p.1 = [] then none else some (p.2, ofE s whole p.1)
def postsR (ds : List (List Fl)) (s : ByteArray) (whole : Bool) : List Po := ds.zipIdx.filterMap (postE s whole)
theorem postsR_snoc (ds : List (List Fl)) (fs : List Fl) (s : ByteArray) (whole : Bool) : postsR (ds ++ [fs]) s whole = postsR ds s whole ++ (postE s whole (fs, ds.length)).toList := by
  unfold postsR
  rw [List.zipIdx_append, List.filterMap_append]
  congr 1
  simp only [List.zipIdx_cons, List.zipIdx_nil, List.filterMap_cons, List.filterMap_nil, Nat.zero_add]
  cases postE s whole (fs, ds.length) <;> rfl
theorem postsR_len (ds : List (List Fl)) (s : ByteArray) (whole : Bool) : (postsR ds s whole).length ≤ ds.length := by
  unfold postsR
  refine Nat.le_trans (List.length_filterMap_le _ _) ?_
  simp
theorem postsR_whole (ds : List (List Fl)) (s : ByteArray) : postsR ds s true = postsT ds s := by
  unfold postsR postsT
  congr 1
  funext p
  unfold postE
  rw [ofE_whole]
  cases h : posOf p.1 s with
  | none => rfl
  | some q => simp [posOf_ne h]
end Go.Proofs.YtioekhiaoajgfaaGreat.Mx
end

section
/- The document's rows of terms; its order of texts. -/
namespace Go.Proofs.YtioekhiaoajgfaaGreat.Ev
open Go.RowKit Go.Proofs.YtioekhiaoajgfaaGreat Go.Proofs.YtioekhiaoajgfaaGreat.Ut Go.Proofs.YtioekhiaoajgfaaGreat.Tk Go.Proofs.YtioekhiaoajgfaaGreat.Qy Go.Proofs.YtioekhiaoajgfaaGreat.Qp Go.Proofs.YtioekhiaoajgfaaGreat.Rg
set_option maxRecDepth 20000
set_option linter.unusedVariables false
set_option linter.unusedSimpArgs false

/-- How many stand ahead. -/
def posB : List ByteArray → ByteArray → Nat
  | [], _ => 0
  | x :: l, s => if ltB x s = true then posB l s + 1 else 0
theorem posB_le : ∀ (l : List ByteArray) (s : ByteArray), posB l s ≤ l.length
  | [], _ => Nat.le_refl _
  | x :: l, s => by
    unfold posB
    split
    · have := posB_le l s; simp; omega
    · simp
theorem posB_lt : ∀ {l : List ByteArray} {s : ByteArray} {i : Nat} (h : i < posB l s) (h2 : i < l.length), ltB l[i] s = true
  | x :: l, s, i, h, h2 => by
    unfold posB at h
    by_cases c : ltB x s = true
    · rw [if_pos c] at h
      cases i with
      | zero => exact c
      | succ i => exact posB_lt (l := l) (by omega) (by simpa using h2)
    · rw [if_neg c] at h; omega
theorem posB_at : ∀ {l : List ByteArray} {s : ByteArray} (h : posB l s < l.length), ltB l[posB l s] s = false
  | x :: l, s, h => by
    by_cases c : ltB x s = true
    · have e : posB (x :: l) s = posB l s + 1 := by rw [posB]; exact if_pos c
      have h2 : posB l s < l.length := by rw [e] at h; simpa using h
      have := posB_at h2
      simp only [e, List.getElem_cons_succ]
      exact this
    · have e : posB (x :: l) s = 0 := by rw [posB]; exact if_neg c
      simp only [e, List.getElem_cons_zero]
      simpa using c
def keysT (l : List Tm) : List ByteArray := l.map (·.1)
theorem addT_hit : ∀ (l : List Tm) (s : ByteArray) (p : Nat) (h : posB (keysT l) s < l.length), l[posB (keysT l) s].1 = s → addT l s p = l.take (posB (keysT l) s) ++ [(s, l[posB (keysT l) s].2 ++ [p])] ++ l.drop (posB (keysT l) s + 1)
  | x :: l, s, p, h, he => by
    by_cases c : ltB x.1 s = true
    · have e : posB (keysT (x :: l)) s = posB (keysT l) s + 1 := by show posB (x.1 :: keysT l) s = _; rw [posB]; exact if_pos c
      have h2 : posB (keysT l) s < l.length := by rw [e] at h; simpa using h
      simp only [e, List.getElem_cons_succ] at he ⊢
      have ih := addT_hit l s p h2 he
      unfold addT
      rw [if_pos c, ih]
      simp
    · have e : posB (keysT (x :: l)) s = 0 := by show posB (x.1 :: keysT l) s = _; rw [posB]; exact if_neg c
      simp only [e, List.getElem_cons_zero] at he ⊢
      unfold addT
      rw [if_neg c, if_pos he]
      simp
theorem addT_miss : ∀ (l : List Tm) (s : ByteArray) (p : Nat), (∀ h : posB (keysT l) s < l.length, l[posB (keysT l) s].1 ≠ s) → addT l s p = l.take (posB (keysT l) s) ++ [(s, [p])] ++ l.drop (posB (keysT l) s)
  | [], s, p, _ => rfl
  | x :: l, s, p, h => by
    by_cases c : ltB x.1 s = true
    · have e : posB (keysT (x :: l)) s = posB (keysT l) s + 1 := by show posB (x.1 :: keysT l) s = _; rw [posB]; exact if_pos c
      have ih := addT_miss l s p (fun h2 => by
        have := h (by rw [e]; simpa using h2)
        simp only [e, List.getElem_cons_succ] at this
        exact this)
      simp only [e]
      unfold addT
      rw [if_pos c, ih]
      simp
    · have e : posB (keysT (x :: l)) s = 0 := by show posB (x.1 :: keysT l) s = _; rw [posB]; exact if_neg c
      have := h (by rw [e]; simp)
      simp only [e, List.getElem_cons_zero] at this ⊢
      unfold addT
      rw [if_neg c, if_neg this]
      simp
set_option maxHeartbeats 1600000 in
theorem rless_any (a b : ByteArray) (w : World) (ha : a.size ≤ 140737488351232) (hb6 : b.size ≤ 140737488351232) :
    Calls Tryz.prog 92 #[.string a, .string b] w fun e w' => e = .returned (.bool (ltB a b)) ∧ Below w.heap.size w w' := by
  have hst : Hid (ltB a b = Op.bytesLess (a.data.toList.drop 0) (b.data.toList.drop 0)) := Lib.hid (by unfold ltB; rw [tl, tl, List.drop_zero, List.drop_zero])
  generalize ltB a b = r at *
  go_enter Tryz.func92, Tryz.ntmps92
  go_wp2_with fail
  go_loopw [5] (fun i wr => ∃ k : Nat, k ≤ a.size ∧ k ≤ b.size ∧ i = .int .i64 (k : Nat) ∧ Hid (r = Op.bytesLess (a.data.toList.drop k) (b.data.toList.drop k)) ∧ Below w.heap.size w wr) (fun i _ => a.size - (intOf i).toNat)
  case atStart => exact ⟨0, Nat.zero_le _, Nat.zero_le _, rfl, hst, Below.refl _ _⟩
  case round =>
    obtain ⟨k, hka, hkb, rfl, hS, hb⟩ := hrel
    have Hb := Lib.hid hb
    clear hb hst
    by_cases hlt : k < a.size ∧ k < b.size
    · obtain ⟨h1, h2⟩ := hlt
      have hk0 : (0 : Int) ≤ (k : Int) := by omega
      have hk1 : (k : Int) < (a.size : Int) := by omega
      have hk2 : (k : Int) < (b.size : Int) := by omega
      have da : a.data.toList.drop k = a[k] :: a.data.toList.drop (k + 1) := List.drop_eq_getElem_cons (by rw [bsize]; exact h1)
      have db : b.data.toList.drop k = b[k] :: b.data.toList.drop (k + 1) := List.drop_eq_getElem_cons (by rw [bsize]; exact h2)
      have hS2 := hS.out
      rw [da, db] at hS2
      have hx := (a[k]).toNat_lt
      have hy := (b[k]).toNat_lt
      by_cases e : a[k] = b[k]
      · have hS3 : Hid (r = Op.bytesLess (a.data.toList.drop (k + 1)) (b.data.toList.drop (k + 1))) := Lib.hid (by rw [hS2, e, bl_same])
        have hne : (((a[k]).toNat : Int) != ((b[k]).toNat : Int)) = false := by rw [e]; simp
        clear hS hS2 da db
        go_wp2
        go_region
        go_wp2
        go_roundw
        case rel => exact ⟨k + 1, by omega, by omega, by go_num, hS3, Hb.out.drew⟩
        case measure => simp [intOf]; omega
      · have hS3 : Hid (r = decide ((a[k]).toNat < (b[k]).toNat)) := Lib.hid (by rw [hS2, bl_cons _ _ _ _ e])
        have hne : (((a[k]).toNat : Int) != ((b[k]).toNat : Int)) = true := by
          rw [bne_iff_ne]
          intro h
          exact e (UInt8.toNat_inj.1 (by omega))
        clear hS hS2 da db e
        go_wp2
        go_region
        go_wp2
        go_region
        go_wp2
        go_ret
        exact ⟨by rw [hS3.out]; simp, Hb.out.drew.drew⟩
    · have hS3 : Hid (r = decide (a.size < b.size)) := Lib.hid (by
        rw [hS.out]
        by_cases h1 : k < a.size
        · have e : k = b.size := by omega
          have eb : b.data.toList.drop k = [] := List.drop_eq_nil_of_le (by rw [bsize]; omega)
          rw [eb, List.drop_eq_getElem_cons (by rw [bsize]; exact h1), decide_eq_false (by omega)]
          simp [Op.bytesLess]
        · have ea : a.data.toList.drop k = [] := List.drop_eq_nil_of_le (by rw [bsize]; omega)
          rw [ea]
          by_cases h2 : k < b.size
          · rw [List.drop_eq_getElem_cons (by rw [bsize]; exact h2), decide_eq_true (by omega)]
            simp [Op.bytesLess]
          · have eb : b.data.toList.drop k = [] := List.drop_eq_nil_of_le (by rw [bsize]; omega)
            rw [eb, decide_eq_false (by omega)]
            simp [Op.bytesLess])
      clear hS
      by_cases h1 : k < a.size
      · have hk1 : (k : Int) < (a.size : Int) := by omega
        have hk2 : (b.size : Int) ≤ (k : Int) := by omega
        go_wp2
        go_ret
        exact ⟨by rw [hS3.out]; simp, Hb.out⟩
      · have hk1 : (a.size : Int) ≤ (k : Int) := by omega
        go_wp2
        go_ret
        exact ⟨by rw [hS3.out]; simp, Hb.out⟩

/-- A row of places that reads. -/
structure PosR (w : World) (B : Nat) (x : Tr) : Prop where
  ex : ∃ P pc, x.2.1 = .slice P x.2.2.length pc ∧ Reads w B 1 P x.2.2.length (nC x.2.2) ∧ x.2.2.length ≤ pc ∧ (P = none → pc = 0)
  szs : x.1.size ≤ 1048576
  szp : x.2.2.length ≤ 65536
theorem PosR.grow {w w' : World} {B B' : Nat} {x : Tr} (h : PosR w B x) (hk : Below B w w') (hB : B ≤ B') : PosR w' B' x := by
  obtain ⟨P, pc, h1, h2, h3⟩ := h.ex
  exact ⟨⟨P, pc, h1, (h2.below hk).more hB, h3⟩, h.szs, h.szp⟩
/-- A row of terms that reads. -/
structure TmO (w : World) (B : Nat) (A : Option Addr) (n c : Nat) (O : List Tr) : Prop where
  rd : Reads w B 2 A n (O.flatMap encO)
  ln : O.length = n
  cap : n ≤ c
  nl : A = none → c = 0
  po : ∀ x ∈ O, PosR w B x
theorem TmO.grow {w w' : World} {B B' n c : Nat} {A : Option Addr} {O : List Tr} (h : TmO w B A n c O) (hk : Below B w w') (hB : B ≤ B') : TmO w' B' A n c O :=
  ⟨(h.rd.below hk).more hB, h.ln, h.cap, h.nl, fun x hx => (h.po x hx).grow hk hB⟩
/-- The k-th term. -/
theorem TmO.at_ {w : World} {B n c : Nat} {A : Option Addr} {O : List Tr} (h : TmO w B A n c O) {k : Nat} (hk : k < O.length) :
    ∃ b o, A = some ⟨b, o, none⟩ ∧ b < B ∧ w.cell? ⟨b, o + k * 2, none⟩ = some (.string O[k].1) ∧ w.cell? ⟨b, o + k * 2 + 1, none⟩ = some O[k].2.1 := by
  obtain ⟨b, o, e, hb, hc⟩ := h.rd.2 (by have := h.ln; omega)
  have f0 := Ss.encs_get (enc := encO) (k := 2) (fun _ => rfl) O k 0 hk (by omega)
  have f1 := Ss.encs_get (enc := encO) (k := 2) (fun _ => rfl) O k 1 hk (by omega)
  have c0 := hc _ _ (f0.trans rfl)
  have c1 := hc _ _ (f1.trans rfl)
  rw [← Nat.add_assoc] at c1
  exact ⟨b, o, e, hb, c0, c1⟩
def prj (x : Tr) : Tm := (x.1, x.2.2)
theorem beq_dec (s t : ByteArray) : (s.toList == t.toList) = decide (s = t) := by
  by_cases h : s = t
  · subst h; simp
  · rw [decide_eq_false h, beq_eq_false_iff_ne]; exact fun e => h (toList_inj e)
theorem encO_take (O : List Tr) (k : Nat) : (O.take k).flatMap encO = (O.flatMap encO).take (k * 2) := by
  induction O generalizing k with
  | nil => simp
  | cons x O ih =>
    cases k with
    | zero => simp
    | succ k =>
      rw [List.take_succ_cons, List.flatMap_cons, List.flatMap_cons, ih, show (k + 1) * 2 = k * 2 + 2 by omega, show encO x = [.string x.1, x.2.1] from rfl]
      rfl
theorem encO_drop (O : List Tr) (k : Nat) : (O.drop k).flatMap encO = (O.flatMap encO).drop (k * 2) := by
  induction O generalizing k with
  | nil => simp
  | cons x O ih =>
    cases k with
    | zero => simp
    | succ k =>
      rw [List.drop_succ_cons, List.flatMap_cons, ih, show (k + 1) * 2 = k * 2 + 2 by omega, show encO x = [.string x.1, x.2.1] from rfl]
      rfl
theorem encO_one {w : World} {B : Nat} {O : List Tr} (h : ∀ x ∈ O, PosR w B x) : ∀ u ∈ O.flatMap encO, u.oneCell' = true := by
  intro u hu
  obtain ⟨x, hx, hux⟩ := List.mem_flatMap.1 hu
  obtain ⟨P, pc, e, _⟩ := (h x hx).ex
  simp only [encO, List.mem_cons, List.not_mem_nil, or_false] at hux
  rcases hux with rfl | rfl
  · rfl
  · rw [e]; rfl
theorem nC_one (l : List Nat) : ∀ u ∈ nC l, u.oneCell' = true := by
  intro u hu
  obtain ⟨n, _, rfl⟩ := List.mem_map.1 hu
  rfl
/-- Two rows of other elements. -/
theorem own_apart {w w' : World} {B B' k k' n n' : Nat} {T T' : TypeId} {v v' : Value} {X X' : List Value} (h : w.ownsRow B T k v n X) (h' : w.ownsRow B' T' k' v' n' X') (hT : T ≠ T') (hg : w.grownBy w' v'.ownBlock) : w'.ownsRow B T k v n X :=
  h.kept hg (by
    cases hv : v.ownBlock with
    | none => exact .inl rfl
    | some b => exact .inr (fun e => hT ((tg_own h hv).one (tg_own h' e.symm))))
theorem rterm_info : (Tryz.prog.info? 87).map (fun i => (i.zero, i.size, i.bytes)) = some (some (.agg #[.string ByteArray.empty, .slice none 0 0]), 2, 40) := by kernel_rfl
end Go.Proofs.YtioekhiaoajgfaaGreat.Ev
end
