/- Events: which may be, how great, their terms: plain. (No program in sight.) -/
import Derived.Test.YtlfpfkallgkjdaaGreatPkAlertManyRow2
import Derived.Test.YtlfpfkallgkjdaaGreatPkAlertManyRow4
import Derived.Test.YtlfpfkallgkjdaaGreatPkAlertManyRow0
import Derived.Test.YtlfpfkallgkjdaaGreatPkAlertManyRow1
section
namespace Go.Proofs.YtlfpfkallgkjdaaGreat.Ev
open Go.RowKit Go.Proofs.YtlfpfkallgkjdaaGreat Go.Proofs.YtlfpfkallgkjdaaGreat.Ut Go.Proofs.YtlfpfkallgkjdaaGreat.Tk
set_option linter.unusedVariables false
set_option linter.unusedSimpArgs false

/-- A field: its name, its text. -/
abbrev Fl := ByteArray × ByteArray
/-- An event: its time, its fields. -/
abbrev Evn := Int × List Fl
theorem bl_irrefl : ∀ x : List UInt8, Op.bytesLess x x = false
  | [] => by simp [Op.bytesLess]
  | a :: x => by simp [Op.bytesLess, bl_irrefl x]
theorem bl_trans : ∀ x y z : List UInt8, Op.bytesLess x y = true → Op.bytesLess y z = true → Op.bytesLess x z = true
  | [], [], _, h, _ => by simp [Op.bytesLess] at h
  | [], b :: y, [], _, h => by simp [Op.bytesLess] at h
  | [], b :: y, c :: z, _, _ => by simp [Op.bytesLess]
  | a :: x, [], _, h, _ => by simp [Op.bytesLess] at h
  | a :: x, b :: y, [], _, h => by simp [Op.bytesLess] at h
  | a :: x, b :: y, c :: z, h1, h2 => by
    simp only [Op.bytesLess, Bool.or_eq_true, Bool.and_eq_true, decide_eq_true_eq, beq_iff_eq] at h1 h2 ⊢
    rcases h1 with h1 | ⟨rfl, h1⟩
    · rcases h2 with h2 | ⟨rfl, h2⟩
      · exact .inl (UInt8.lt_trans h1 h2)
      · exact .inl h1
    · rcases h2 with h2 | ⟨rfl, h2⟩
      · exact .inl h2
      · exact .inr ⟨rfl, bl_trans x y z h1 h2⟩
theorem bl_total : ∀ x y : List UInt8, Op.bytesLess x y = true ∨ x = y ∨ Op.bytesLess y x = true
  | [], [] => .inr (.inl rfl)
  | [], b :: y => .inl (by simp [Op.bytesLess])
  | a :: x, [] => .inr (.inr (by simp [Op.bytesLess]))
  | a :: x, b :: y => by
    simp only [Op.bytesLess, Bool.or_eq_true, Bool.and_eq_true, decide_eq_true_eq, beq_iff_eq, List.cons.injEq]
    rcases UInt8.lt_or_lt_of_ne (a := a) (b := b) |> fun f => Classical.em (a = b) |>.elim (fun e => Or.inr e) (fun e => Or.inl (f e)) with h | rfl
    · rcases h with h | h
      · exact .inl (.inl h)
      · exact .inr (.inr (.inl h))
    · rcases bl_total x y with h | rfl | h
      · exact .inl (.inr ⟨rfl, h⟩)
      · exact .inr (.inl ⟨rfl, rfl⟩)
      · exact .inr (.inr (.inr ⟨rfl, h⟩))
theorem bl_cons (x y : UInt8) (a b : List UInt8) (h : x ≠ y) : Op.bytesLess (x :: a) (y :: b) = decide (x.toNat < y.toNat) := by
  have h2 : (x == y) = false := by simpa using h
  simp only [Op.bytesLess, h2, Bool.false_and, Bool.or_false]
  rfl
theorem bl_same (x : UInt8) (a b : List UInt8) : Op.bytesLess (x :: a) (x :: b) = Op.bytesLess a b := by
  simp [Op.bytesLess]


def ltB (a b : ByteArray) : Bool := Op.bytesLess a.toList b.toList
theorem ltB_trans {a b c : ByteArray} (h1 : ltB a b = true) (h2 : ltB b c = true) : ltB a c = true := bl_trans _ _ _ h1 h2
theorem ltB_irrefl (a : ByteArray) : ltB a a = false := bl_irrefl _
theorem toList_inj {a b : ByteArray} (h : a.toList = b.toList) : a = b := by
  have h2 : a.data.toList = b.data.toList := by rw [← ByteArray.toList_eq, ← ByteArray.toList_eq]; exact h
  have h3 : a.data = b.data := Array.toList_inj.1 h2
  cases a; cases b; simp at h3; rw [h3]
theorem ltB_total {a b : ByteArray} (h : ltB a b = false) : a = b ∨ ltB b a = true := by
  rcases bl_total a.toList b.toList with g | g | g
  · unfold ltB at h; rw [h] at g; cases g
  · exact .inl (toList_inj g)
  · exact .inr g
theorem ltB_asymm {a b : ByteArray} (h : ltB a b = true) : ltB b a = false := by
  cases hb : ltB b a
  · rfl
  · have := ltB_trans h hb; rw [ltB_irrefl] at this; cases this

/-- Which fields may be. -/
def chkF : List Fl → Int
  | [] => 0
  | f :: fs => if isN f.1.data.toList = false then 100 else if 4096 < f.2.size then 2 else chkF fs
/-- Which events may be. -/
def chkE (fs : List Fl) : Int := if 16 < fs.length then 3 else chkF fs
def szF : List Fl → Nat
  | [] => 0
  | f :: fs => (f.1.size + f.2.size) + szF fs
/-- An event's size. -/
def szE (fs : List Fl) : Nat := 16 + szF fs
theorem szF_snoc (fs : List Fl) (f : Fl) : szF (fs ++ [f]) = szF fs + (f.1.size + f.2.size) := by
  induction fs with
  | nil => simp [szF]
  | cons g fs ih => simp only [List.cons_append, szF, ih]; omega
theorem isN_len {s : ByteArray} (h : isN s.data.toList = true) : s.size ≤ 32 := by
  unfold isN at h
  simp only [Bool.and_eq_true, decide_eq_true_eq] at h
  rw [bsize] at h
  exact h.1.2
theorem chkF_ok {fs : List Fl} (h : chkF fs = 0) : ∀ f ∈ fs, isN f.1.data.toList = true ∧ f.1.size ≤ 32 ∧ f.2.size ≤ 4096 := by
  induction fs with
  | nil => intro f hf; cases hf
  | cons g fs ih =>
    unfold chkF at h
    by_cases c1 : isN g.1.data.toList = false
    · rw [if_pos c1] at h; cases h
    · rw [if_neg c1] at h
      by_cases c2 : 4096 < g.2.size
      · rw [if_pos c2] at h; cases h
      · rw [if_neg c2] at h
        have hn : isN g.1.data.toList = true := by simpa using c1
        intro f hf
        rcases List.mem_cons.1 hf with rfl | hf
        · exact ⟨hn, isN_len hn, by omega⟩
        · exact ih h f hf
theorem chkE_ok {fs : List Fl} (h : chkE fs = 0) : fs.length ≤ 16 ∧ ∀ f ∈ fs, isN f.1.data.toList = true ∧ f.1.size ≤ 32 ∧ f.2.size ≤ 4096 := by
  unfold chkE at h
  by_cases c1 : 16 < fs.length
  · rw [if_pos c1] at h; cases h
  · rw [if_neg c1] at h
    exact ⟨by omega, chkF_ok h⟩
theorem szF_le {fs : List Fl} (h : ∀ f ∈ fs, f.1.size ≤ 32 ∧ f.2.size ≤ 4096) : szF fs ≤ fs.length * 4128 := by
  induction fs with
  | nil => exact Nat.le_refl _
  | cons g fs ih =>
    have h1 := h g (List.mem_cons_self ..)
    have h2 := ih (fun f hf => h f (List.mem_cons_of_mem _ hf))
    simp only [szF, List.length_cons]
    omega
theorem szE_le {fs : List Fl} (h : chkE fs = 0) : szE fs ≤ 70000 := by
  have h1 := chkE_ok h
  have h2 := szF_le (fun f hf => (h1.2 f hf).2)
  unfold szE
  omega
theorem szF_take (fs : List Fl) : ∀ k, szF (fs.take k) ≤ szF fs := by
  induction fs with
  | nil => intro k; simp [szF]
  | cons g fs ih =>
    intro k
    cases k with
    | zero => simp [szF]
    | succ k => have := ih k; simp only [List.take_succ_cons, szF]; omega
/-- The first error of a row of events. -/
def fstE : List Evn → Int
  | [] => 0
  | e :: l => if chkE e.2 = 0 then fstE l else chkE e.2
def szL : List Evn → Nat
  | [] => 0
  | e :: l => szE e.2 + szL l
theorem szL_snoc (l : List Evn) (e : Evn) : szL (l ++ [e]) = szL l + szE e.2 := by
  induction l with
  | nil => simp [szL]
  | cons g l ih => simp only [List.cons_append, szL, ih]; omega
theorem szL_le {l : List Evn} (h : ∀ e ∈ l, chkE e.2 = 0) : szL l ≤ l.length * 70000 := by
  induction l with
  | nil => exact Nat.le_refl _
  | cons g l ih =>
    have h1 := szE_le (h g (List.mem_cons_self ..))
    have h2 := ih (fun f hf => h f (List.mem_cons_of_mem _ hf))
    simp only [szL, List.length_cons]
    omega
theorem fstE_ok {l : List Evn} (h : ∀ e ∈ l, chkE e.2 = 0) : fstE l = 0 := by
  induction l with
  | nil => rfl
  | cons g l ih =>
    unfold fstE
    rw [if_pos (h g (List.mem_cons_self ..))]
    exact ih (fun f hf => h f (List.mem_cons_of_mem _ hf))
theorem fstE_all {l : List Evn} (h : fstE l = 0) : ∀ e ∈ l, chkE e.2 = 0 := by
  induction l with
  | nil => intro e he; cases he
  | cons g l ih =>
    unfold fstE at h
    by_cases c : chkE g.2 = 0
    · rw [if_pos c] at h
      intro e he
      rcases List.mem_cons.1 he with rfl | he
      · exact c
      · exact ih h e he
    · rw [if_neg c] at h; exact absurd h c
/-- At the k-th event, where those ahead of it may be. -/
theorem fstE_at {l : List Evn} : ∀ {k : Nat} (hk : k < l.length), (∀ e ∈ l.take k, chkE e.2 = 0) → chkE l[k].2 ≠ 0 → fstE l = chkE l[k].2 := by
  induction l with
  | nil => intro k hk; exact absurd hk (by simp)
  | cons g l ih =>
    intro k hk h hne
    unfold fstE
    cases k with
    | zero =>
      have hne2 : chkE g.2 ≠ 0 := hne
      rw [if_neg hne2]; rfl
    | succ k =>
      have h1 := h g (by simp)
      rw [if_pos h1]
      exact ih (by simpa using hk) (fun e he => h e (by simp [he])) hne
/-- Which batches may be. -/
def chkB (seq : Int) (l : List Evn) : Int :=
  if l = [] then 1 else if 64 < l.length then 3 else if fstE l = 0 then (if 65536 < szL l then 2 else if seq < 1 ∨ 1099511627776 - (l.length : Int) + 1 < seq then 5 else 0) else fstE l
theorem chkB_ok {seq : Int} {l : List Evn} (h : chkB seq l = 0) : l ≠ [] ∧ l.length ≤ 64 ∧ (∀ e ∈ l, chkE e.2 = 0) ∧ szL l ≤ 65536 ∧ 1 ≤ seq ∧ seq ≤ 1099511627776 - (l.length : Int) + 1 := by
  unfold chkB at h
  by_cases c1 : l = []
  · rw [if_pos c1] at h; cases h
  rw [if_neg c1] at h
  by_cases c2 : 64 < l.length
  · rw [if_pos c2] at h; cases h
  rw [if_neg c2] at h
  by_cases c3 : fstE l = 0
  · rw [if_pos c3] at h
    by_cases c4 : 65536 < szL l
    · rw [if_pos c4] at h; cases h
    rw [if_neg c4] at h
    by_cases c5 : seq < 1 ∨ 1099511627776 - (l.length : Int) + 1 < seq
    · rw [if_pos c5] at h; cases h
    · exact ⟨c1, by omega, fstE_all c3, by omega, by omega, by omega⟩
  · rw [if_neg c3] at h; exact absurd h c3

/-- Fields, with the bases of their words' places. -/
def basedL (b : Nat) : List Fl → List (Nat × Fl)
  | [] => []
  | f :: fs => (b, f) :: basedL (b + (64 + (words f.2.data.toList).length)) fs
/-- A term: its text; where it stands. -/
abbrev T1 := ByteArray × Nat
abbrev Tm := ByteArray × List Nat
def termT (n : ByteArray) (x : List UInt8) : ByteArray := str (term n.data.toList x)
/-- The terms of one field. -/
def rawO (x : Nat × Fl) : List T1 := ((words x.2.2.data.toList).zipIdx x.1).map fun p => (termT x.2.1 p.1, p.2)
/-- All terms, as they come. -/
def raw (fs : List Fl) : List T1 := (basedL 0 fs).flatMap rawO
theorem basedL_len : ∀ (fs : List Fl) (b : Nat), (basedL b fs).length = fs.length
  | [], _ => rfl
  | f :: fs, b => by simp [basedL, basedL_len fs]
/-- A place more. -/
def addT : List Tm → ByteArray → Nat → List Tm
  | [], s, p => [(s, [p])]
  | x :: l, s, p => if ltB x.1 s = true then x :: addT l s p else if x.1 = s then (s, x.2 ++ [p]) :: l else (s, [p]) :: x :: l
def addAll (L : List T1) : List Tm := L.foldl (fun l x => addT l x.1 x.2) []
theorem addT_len : ∀ (l : List Tm) (s : ByteArray) (p : Nat), (addT l s p).length ≤ l.length + 1
  | [], s, p => by simp [addT]
  | x :: l, s, p => by
    have ih := addT_len l s p
    unfold addT
    by_cases c1 : ltB x.1 s = true
    · rw [if_pos c1]; simp only [List.length_cons]; omega
    · rw [if_neg c1]
      by_cases c2 : x.1 = s
      · rw [if_pos c2]; simp only [List.length_cons]; omega
      · rw [if_neg c2]; simp only [List.length_cons]; omega
theorem addAll_len (L : List T1) : (addAll L).length ≤ L.length := by
  have go : ∀ (L : List T1) (l : List Tm), (L.foldl (fun l x => addT l x.1 x.2) l).length ≤ l.length + L.length := by
    intro L
    induction L with
    | nil => intro l; simp
    | cons x L ih =>
      intro l
      have h1 := ih (addT l x.1 x.2)
      have h2 := addT_len l x.1 x.2
      rw [List.foldl_cons, List.length_cons]
      omega
  have := go L []
  simpa [addAll] using this
theorem addAll_snoc (L : List T1) (x : T1) : addAll (L ++ [x]) = addT (addAll L) x.1 x.2 := by simp [addAll]
/-- An event's terms. -/
def terms (fs : List Fl) : List Tm := if chkE fs = 0 then addAll (raw fs) else []

/-- A row of terms: by rising texts, each with all places where it stands. -/
structure IsTm (L : List T1) (l : List Tm) : Prop where
  up : l.Pairwise (fun x y => ltB x.1 y.1 = true)
  mem : ∀ x : Tm, x ∈ l ↔ x.2 ≠ [] ∧ x.2 = (L.filter (fun y => decide (y.1 = x.1))).map (·.2)
theorem addT_up : ∀ (l : List Tm) (s : ByteArray) (p : Nat), l.Pairwise (fun x y => ltB x.1 y.1 = true) → (addT l s p).Pairwise (fun x y => ltB x.1 y.1 = true) ∧ ∀ x ∈ addT l s p, x.1 = s ∨ x ∈ l
  | [], s, p, _ => ⟨by simp [addT], fun x hx => by simp [addT] at hx; exact .inl (by rw [hx])⟩
  | y :: l, s, p, h => by
    obtain ⟨h1, h2⟩ := List.pairwise_cons.1 h
    obtain ⟨g1, g2⟩ := addT_up l s p h2
    unfold addT
    by_cases c1 : ltB y.1 s = true
    · rw [if_pos c1]
      refine ⟨List.pairwise_cons.2 ⟨fun x hx => ?_, g1⟩, fun x hx => ?_⟩
      · rcases g2 x hx with e | e
        · rw [e]; exact c1
        · exact h1 x e
      · rcases List.mem_cons.1 hx with rfl | hx
        · exact .inr (List.mem_cons_self ..)
        · rcases g2 x hx with e | e
          · exact .inl e
          · exact .inr (List.mem_cons_of_mem _ e)
    · rw [if_neg c1]
      by_cases c2 : y.1 = s
      · rw [if_pos c2]
        refine ⟨List.pairwise_cons.2 ⟨fun x hx => by rw [← c2]; exact h1 x hx, h2⟩, fun x hx => ?_⟩
        rcases List.mem_cons.1 hx with rfl | hx
        · exact .inl rfl
        · exact .inr (List.mem_cons_of_mem _ hx)
      · rw [if_neg c2]
        have c3 : ltB s y.1 = true := by
          rcases ltB_total (by simpa using c1 : ltB y.1 s = false) with e | e
          · exact absurd e c2
          · exact e
        refine ⟨List.pairwise_cons.2 ⟨fun x hx => ?_, h⟩, fun x hx => ?_⟩
        · rcases List.mem_cons.1 hx with rfl | hx
          · exact c3
          · exact ltB_trans c3 (h1 x hx)
        · rcases List.mem_cons.1 hx with rfl | hx
          · exact .inl rfl
          · exact .inr hx
theorem up_ne {l : List Tm} {y : Tm} (h : ∀ x ∈ l, ltB y.1 x.1 = true) {s : ByteArray} (e : ltB y.1 s = false) : ∀ x ∈ l, x.1 ≠ s := fun x hx e2 => by
  have := h x hx; rw [e2, e] at this; cases this
theorem addT_mem : ∀ (l : List Tm) (s : ByteArray) (p : Nat), l.Pairwise (fun x y => ltB x.1 y.1 = true) → ∀ x : Tm, x ∈ addT l s p ↔ (x ∈ l ∧ x.1 ≠ s) ∨ ∃ q, x = (s, q ++ [p]) ∧ ((s, q) ∈ l ∨ (q = [] ∧ ∀ y ∈ l, y.1 ≠ s))
  | [], s, p, _, x => by simp [addT]
  | y :: l, s, p, h, x => by
    obtain ⟨h1, h2⟩ := List.pairwise_cons.1 h
    have ih := addT_mem l s p h2 x
    unfold addT
    by_cases c1 : ltB y.1 s = true
    · have hys : y.1 ≠ s := fun e => by rw [e, ltB_irrefl] at c1; cases c1
      rw [if_pos c1, List.mem_cons, ih]
      constructor
      · rintro (rfl | ⟨a, b⟩ | ⟨q, a, b⟩)
        · exact .inl ⟨List.mem_cons_self .., hys⟩
        · exact .inl ⟨List.mem_cons_of_mem _ a, b⟩
        · refine .inr ⟨q, a, ?_⟩
          rcases b with b | ⟨b, c⟩
          · exact .inl (List.mem_cons_of_mem _ b)
          · exact .inr ⟨b, fun z hz => by
              rcases List.mem_cons.1 hz with rfl | hz
              · exact hys
              · exact c z hz⟩
      · rintro (⟨a, b⟩ | ⟨q, a, b⟩)
        · rcases List.mem_cons.1 a with rfl | a
          · exact .inl rfl
          · exact .inr (.inl ⟨a, b⟩)
        · refine .inr (.inr ⟨q, a, ?_⟩)
          rcases b with b | ⟨b, c⟩
          · rcases List.mem_cons.1 b with rfl | b
            · exact absurd rfl hys
            · exact .inl b
          · exact .inr ⟨b, fun z hz => c z (List.mem_cons_of_mem _ hz)⟩
    · have c1' : ltB y.1 s = false := by simpa using c1
      rw [if_neg c1]
      by_cases c2 : y.1 = s
      · have hne := up_ne h1 c1'
        rw [if_pos c2, List.mem_cons]
        constructor
        · rintro (rfl | a)
          · exact .inr ⟨y.2, rfl, .inl (by rw [← c2]; exact List.mem_cons_self ..)⟩
          · exact .inl ⟨List.mem_cons_of_mem _ a, hne x a⟩
        · rintro (⟨a, b⟩ | ⟨q, a, b⟩)
          · rcases List.mem_cons.1 a with rfl | a
            · exact absurd c2 b
            · exact .inr a
          · rcases b with b | ⟨b, c⟩
            · rcases List.mem_cons.1 b with e | b
              · rw [← e]; exact .inl a
              · exact absurd rfl (hne _ b)
            · exact absurd c2 (c y (List.mem_cons_self ..))
      · have c3 : ltB s y.1 = true := by
          rcases ltB_total c1' with e | e
          · exact absurd e c2
          · exact e
        have hne : ∀ z ∈ y :: l, z.1 ≠ s := fun z hz => by
          rcases List.mem_cons.1 hz with rfl | hz
          · exact c2
          · exact up_ne h1 c1' z hz
        rw [if_neg c2, List.mem_cons]
        constructor
        · rintro (rfl | a)
          · exact .inr ⟨[], rfl, .inr ⟨rfl, hne⟩⟩
          · exact .inl ⟨a, hne x a⟩
        · rintro (⟨a, b⟩ | ⟨q, a, b⟩)
          · exact .inr a
          · rcases b with b | ⟨rfl, c⟩
            · exact absurd rfl (hne _ b)
            · exact .inl a
theorem IsTm.nil : IsTm [] [] := ⟨List.Pairwise.nil, fun x => ⟨fun h => (nomatch h), fun h => absurd h.2 h.1⟩⟩
theorem IsTm.add {L : List T1} {l : List Tm} (h : IsTm L l) (s : ByteArray) (p : Nat) : IsTm (L ++ [(s, p)]) (addT l s p) := by
  refine ⟨(addT_up l s p h.up).1, fun x => ?_⟩
  rw [addT_mem l s p h.up x, List.filter_append, List.map_append]
  by_cases e : s = x.1
  · subst e
    have hs : List.filter (fun y : T1 => decide (y.1 = x.1)) [(x.1, p)] = [(x.1, p)] := by simp
    rw [hs]
    constructor
    · rintro (⟨_, b⟩ | ⟨q, a, b⟩)
      · exact absurd rfl b
      · have e2 : x.2 = q ++ [p] := by rw [a]
        rw [e2]
        refine ⟨by simp, ?_⟩
        rcases b with b | ⟨rfl, b⟩
        · have := ((h.mem _).1 b).2
          simp only at this
          rw [← this]; rfl
        · have : (L.filter (fun y => decide (y.1 = x.1))).map (·.2) = [] := by
            apply Classical.byContradiction
            intro hc
            exact b (x.1, _) ((h.mem (x.1, (L.filter (fun y => decide (y.1 = x.1))).map (·.2))).2 ⟨hc, rfl⟩) rfl
          rw [this]; rfl
    · rintro ⟨_, a⟩
      refine .inr ⟨(L.filter (fun y => decide (y.1 = x.1))).map (·.2), Prod.ext rfl a, ?_⟩
      by_cases hc : (L.filter (fun y => decide (y.1 = x.1))).map (·.2) = []
      · refine .inr ⟨hc, fun y hy e => ?_⟩
        have := (h.mem y).1 hy
        rw [e, hc] at this
        exact this.1 this.2
      · exact .inl ((h.mem (x.1, _)).2 ⟨hc, rfl⟩)
  · have hs : List.filter (fun y : T1 => decide (y.1 = x.1)) [(s, p)] = [] := by simp [e]
    rw [hs, List.map_nil, List.append_nil, ← h.mem]
    constructor
    · rintro (⟨a, _⟩ | ⟨q, a, _⟩)
      · exact a
      · exact absurd (by rw [a]) e
    · intro a
      exact .inl ⟨a, fun e2 => e e2.symm⟩
theorem isTm_all : ∀ L : List T1, IsTm L (addAll L) := by
  intro L
  have go : ∀ (n : Nat) (L : List T1), L.length = n → IsTm L (addAll L) := by
    intro n
    induction n with
    | zero => intro L h; rw [List.length_eq_zero_iff.1 h]; exact IsTm.nil
    | succ n ih =>
      intro L h
      obtain ⟨M, x, rfl⟩ : ∃ M x, L = M ++ [x] := ⟨L.dropLast, L.getLast (by intro e; rw [e] at h; cases h), (List.dropLast_concat_getLast _).symm⟩
      rw [addAll_snoc]
      exact (ih M (by simpa using h)).add x.1 x.2
  exact go _ L rfl
theorem mem_one {α : Type} {r : α → α → Prop} (hi : ∀ x, ¬ r x x) (ht : ∀ x y z, r x y → r y z → r x z) : ∀ {l m : List α}, (∀ x, x ∈ l ↔ x ∈ m) → l.Pairwise r → m.Pairwise r → l = m
  | [], [], _, _, _ => rfl
  | [], y :: m, h, _, _ => by have := (h y).2 (List.mem_cons_self ..); cases this
  | x :: l, [], h, _, _ => by have := (h x).1 (List.mem_cons_self ..); cases this
  | x :: l, y :: m, h, hl, hm => by
    obtain ⟨a1, a2⟩ := List.pairwise_cons.1 hl
    obtain ⟨b1, b2⟩ := List.pairwise_cons.1 hm
    have e : x = y := by
      rcases List.mem_cons.1 ((h x).1 (List.mem_cons_self ..)) with e | h1
      · exact e
      · rcases List.mem_cons.1 ((h y).2 (List.mem_cons_self ..)) with e | h2
        · exact e.symm
        · exact absurd (ht _ _ _ (a1 y h2) (b1 x h1)) (hi x)
    subst e
    have hne : ∀ z ∈ l, z ≠ x := fun z hz e => hi x (e ▸ a1 z hz)
    have hne2 : ∀ z ∈ m, z ≠ x := fun z hz e => hi x (e ▸ b1 z hz)
    rw [mem_one hi ht (fun z => ⟨fun hz => by
      rcases List.mem_cons.1 ((h z).1 (List.mem_cons_of_mem _ hz)) with e | h1
      · exact absurd e (hne z hz)
      · exact h1, fun hz => by
      rcases List.mem_cons.1 ((h z).2 (List.mem_cons_of_mem _ hz)) with e | h1
      · exact absurd e (hne2 z hz)
      · exact h1⟩) a2 b2]
theorem IsTm.one {L M : List T1} {l m : List Tm} (h : IsTm L l) (g : IsTm M m) (e : ∀ s, L.filter (fun y => decide (y.1 = s)) = M.filter (fun y => decide (y.1 = s))) : l = m :=
  mem_one (r := fun x y => ltB x.1 y.1 = true) (fun x => by rw [ltB_irrefl]; decide) (fun _ _ _ => ltB_trans) (fun x => by rw [h.mem, g.mem, e]) h.up g.up

/-- What the program does with the sorted terms. -/
def mrg (l : List Tm) (x : T1) : List Tm :=
  match l.getLast? with
  | some y => if y.1 = x.1 then l.dropLast ++ [(y.1, y.2 ++ [x.2])] else l ++ [(x.1, [x.2])]
  | none => l ++ [(x.1, [x.2])]
theorem addT_last : ∀ (l : List Tm) (s : ByteArray) (p : Nat), (∀ y ∈ l, ltB y.1 s = true) → addT l s p = l ++ [(s, [p])]
  | [], s, p, _ => rfl
  | y :: l, s, p, h => by
    unfold addT
    rw [if_pos (h y (List.mem_cons_self ..)), addT_last l s p (fun z hz => h z (List.mem_cons_of_mem _ hz))]
    rfl
theorem addT_mid : ∀ (l : List Tm) (y : Tm) (p : Nat), (∀ z ∈ l, ltB z.1 y.1 = true) → addT (l ++ [y]) y.1 p = l ++ [(y.1, y.2 ++ [p])]
  | [], y, p, _ => by
    have : addT [y] y.1 p = [(y.1, y.2 ++ [p])] := by unfold addT; rw [ltB_irrefl, if_neg (by decide), if_pos rfl]
    exact this
  | z :: l, y, p, h => by
    rw [List.cons_append]
    unfold addT
    rw [if_pos (h z (List.mem_cons_self ..)), addT_mid l y p (fun u hu => h u (List.mem_cons_of_mem _ hu))]
    rfl
theorem mrg_add {l : List Tm} {x : T1} (hu : l.Pairwise (fun x y => ltB x.1 y.1 = true)) (hx : ∀ y ∈ l, ltB x.1 y.1 = false) : mrg l x = addT l x.1 x.2 := by
  unfold mrg
  cases e : l.getLast? with
  | none =>
    rw [List.getLast?_eq_none_iff.1 e]
    rfl
  | some y =>
    obtain ⟨m, rfl⟩ : ∃ m, l = m ++ [y] := List.getLast?_eq_some_iff.1 e
    have h1 : ∀ z ∈ m, ltB z.1 y.1 = true := fun z hz => (List.pairwise_append.1 hu).2.2 z hz y (by simp)
    have h2 := hx y (by simp)
    by_cases c : y.1 = x.1
    · simp only [c, if_true]
      rw [← c, addT_mid m y x.2 h1, List.dropLast_concat]
    · simp only [c, if_false]
      have h3 : ltB y.1 x.1 = true := by
        rcases ltB_total h2 with e | e
        · exact absurd e.symm c
        · exact e
      rw [addT_last _ _ _ (fun z hz => ?_)]
      rcases List.mem_append.1 hz with hz | hz
      · exact ltB_trans (h1 z hz) h3
      · rw [List.mem_singleton.1 hz]; exact h3
theorem mrg_all : ∀ (n : Nat) (M : List T1), M.length = n → M.Pairwise (fun x y => ltB y.1 x.1 = false) → M.foldl mrg [] = addAll M := by
  intro n
  induction n with
  | zero => intro M h _; rw [List.length_eq_zero_iff.1 h]; rfl
  | succ n ih =>
    intro L h hp
    obtain ⟨M, x, rfl⟩ : ∃ M x, L = M ++ [x] := ⟨L.dropLast, L.getLast (by intro e; rw [e] at h; cases h), (List.dropLast_concat_getLast _).symm⟩
    obtain ⟨p1, p2, p3⟩ := List.pairwise_append.1 hp
    rw [List.foldl_append, ih M (by simpa using h) p1, addAll_snoc]
    have hT := isTm_all M
    refine mrg_add hT.up (fun y hy => ?_)
    obtain ⟨g1, g2⟩ := (hT.mem y).1 hy
    have : M.filter (fun z => decide (z.1 = y.1)) ≠ [] := fun e => g1 (by rw [g2, e]; rfl)
    obtain ⟨z, hz⟩ := List.exists_mem_of_ne_nil _ this
    obtain ⟨hz1, hz2⟩ := List.mem_filter.1 hz
    have := p3 z hz1 x (by simp)
    rwa [of_decide_eq_true hz2] at this
/-- The sorted terms, merged, are the terms. -/
theorem sorted_terms {L M : List T1} (hp : M.Pairwise (fun x y => ltB y.1 x.1 = false)) (e : ∀ s, L.filter (fun y => decide (y.1 = s)) = M.filter (fun y => decide (y.1 = s))) : M.foldl mrg [] = addAll L := by
  rw [mrg_all _ M rfl hp]
  exact (isTm_all M).one (isTm_all L) (fun s => (e s).symm)
end Go.Proofs.YtlfpfkallgkjdaaGreat.Ev
end

section
/- Plain facts on phrases, beginnings, and what a query matches. No program. -/
namespace Go.Proofs.YtlfpfkallgkjdaaGreat.Qy
open Go.RowKit Go.Proofs.YtlfpfkallgkjdaaGreat Go.Proofs.YtlfpfkallgkjdaaGreat.Ut

/-- Do words stand from the i-th on? -/
def stands (T : List (List UInt8)) (ws : List ByteArray) (i : Nat) : Bool := ((T.drop i).take ws.length) == ws.map (fun s => s.data.toList)
/-- Where words stand, of the first k places. -/
def phrTo (T : List (List UInt8)) (ws : List ByteArray) (k : Nat) : List Nat := (List.range k).filter (stands T ws)
def phr (T : List (List UInt8)) (ws : List ByteArray) : List Nat := if ws = [] then [] else phrTo T ws T.length
theorem phrTo_succ (T : List (List UInt8)) (ws : List ByteArray) (k : Nat) : phrTo T ws (k + 1) = phrTo T ws k ++ if stands T ws k then [k] else [] := by
  unfold phrTo
  rw [List.range_succ, List.filter_append]
  by_cases h : stands T ws k <;> simp [h]
theorem phrTo_len (T : List (List UInt8)) (ws : List ByteArray) (k : Nat) : (phrTo T ws k).length ≤ k := by
  have := List.length_filter_le (stands T ws) (List.range k)
  rwa [List.length_range] at this
theorem stands_short (T : List (List UInt8)) (ws : List ByteArray) (i : Nat) (h : T.length - i < ws.length) : stands T ws i = false := by
  unfold stands
  rw [beq_eq_false_iff_ne]
  intro e
  have := congrArg List.length e
  simp at this
  omega
/-- Once too few words are left, none more stand. -/
theorem phrTo_short (T : List (List UInt8)) (ws : List ByteArray) (k : Nat) (h : T.length - k < ws.length) : ∀ j, k ≤ j → phrTo T ws j = phrTo T ws k := by
  intro j hj
  induction j with
  | zero => obtain rfl : k = 0 := by omega
            rfl
  | succ j ih =>
    by_cases e : k = j + 1
    · rw [e]
    · rw [phrTo_succ, stands_short T ws j (by omega), if_neg (by decide), List.append_nil]
      exact ih (by omega)
/-- So far the words stand. -/
def standsTo (T : List (List UInt8)) (ws : List ByteArray) (i k : Nat) : Bool := ((T.drop i).take k) == (ws.take k).map (fun s => s.data.toList)
theorem standsTo_zero (T : List (List UInt8)) (ws : List ByteArray) (i : Nat) : standsTo T ws i 0 = true := by simp [standsTo]
theorem standsTo_all (T : List (List UInt8)) (ws : List ByteArray) (i : Nat) : standsTo T ws i ws.length = stands T ws i := by unfold standsTo stands; rw [List.take_length]
theorem standsTo_succ (T : List (List UInt8)) (ws : List ByteArray) (i k : Nat) (h1 : i + k < T.length) (h2 : k < ws.length) : standsTo T ws i (k + 1) = (standsTo T ws i k && (T[i + k] == ws[k].data.toList)) := by
  unfold standsTo
  have e1 : (T.drop i).take (k + 1) = (T.drop i).take k ++ [T[i + k]] := by
    rw [List.take_succ_eq_append_getElem (by simp; omega)]
    simp
  have e2 : (ws.take (k + 1)).map (fun s => s.data.toList) = (ws.take k).map (fun s => s.data.toList) ++ [ws[k].data.toList] := by
    rw [List.take_succ_eq_append_getElem h2, List.map_append]; rfl
  have hl : ((T.drop i).take k).length = ((ws.take k).map (fun s => s.data.toList)).length := by simp; omega
  rw [e1, e2, Bool.eq_iff_iff]
  simp only [beq_iff_eq, Bool.and_eq_true]
  constructor
  · intro e
    have := List.append_inj e hl
    exact ⟨this.1, by simpa using this.2⟩
  · rintro ⟨a, b⟩
    rw [a, b]
theorem standsTo_no (T : List (List UInt8)) (ws : List ByteArray) (i k : Nat) (hk : k ≤ ws.length) (h : standsTo T ws i k = false) : stands T ws i = false := by
  unfold standsTo stands at *
  rw [beq_eq_false_iff_ne] at *
  intro e
  apply h
  have := congrArg (List.take k) e
  rw [List.take_take, Nat.min_eq_left hk] at this
  rw [this, List.map_take]

/-- Does a text begin so? -/
def begins (t : List UInt8) (p : ByteArray) : Bool := p.data.toList.isPrefixOf t
/-- Does a leaf match a text? -/
def leafT (k : Int) (ws : List ByteArray) (T : List (List UInt8)) : Bool :=
  if k = 3 then (match ws with | [p] => T.any (begins · p) | _ => false)
  else if k = 2 then decide (ws.length = 1) && decide (0 < (phr T ws).length)
  else decide (0 < (phr T ws).length)
def leafB (k : Int) (nm : ByteArray) (ws : List ByteArray) (fs : List (ByteArray × ByteArray)) : Bool := fs.any fun f => f.1.data.toList == nm.data.toList && leafT k ws (Tk.words f.2.data.toList)
mutual
/-- Does a query match fields? -/
def matchB (fs : List (ByteArray × ByteArray)) : Q → Bool
  | .mk k nm ws l => if k = 1 then true else if k = 2 ∨ k = 3 ∨ k = 4 then leafB k nm ws fs else if k = 5 then matchAll fs l else if k = 6 then matchSome fs l else if k = 7 then matchNone fs l else false
def matchAll (fs : List (ByteArray × ByteArray)) : List Q → Bool
  | [] => true
  | q :: l => matchB fs q && matchAll fs l
def matchSome (fs : List (ByteArray × ByteArray)) : List Q → Bool
  | [] => false
  | q :: l => matchB fs q || matchSome fs l
def matchNone (fs : List (ByteArray × ByteArray)) : List Q → Bool
  | [q] => !matchB fs q
  | _ => false
end
theorem matchAll_eq (fs : List (ByteArray × ByteArray)) : ∀ l, matchAll fs l = l.all (matchB fs)
  | [] => by simp [matchAll]
  | q :: l => by simp [matchAll, matchAll_eq fs l]
theorem matchSome_eq (fs : List (ByteArray × ByteArray)) : ∀ l, matchSome fs l = l.any (matchB fs)
  | [] => by simp [matchSome]
  | q :: l => by simp [matchSome, matchSome_eq fs l]
theorem matchB_eq (fs : List (ByteArray × ByteArray)) (k : Int) (nm : ByteArray) (ws : List ByteArray) (l : List Q) :
    matchB fs (.mk k nm ws l) = if k = 1 then true else if k = 2 ∨ k = 3 ∨ k = 4 then leafB k nm ws fs else if k = 5 then l.all (matchB fs) else if k = 6 then l.any (matchB fs) else if k = 7 then matchNone fs l else false := by
  rw [matchB, matchAll_eq, matchSome_eq]
end Go.Proofs.YtlfpfkallgkjdaaGreat.Qy
end
