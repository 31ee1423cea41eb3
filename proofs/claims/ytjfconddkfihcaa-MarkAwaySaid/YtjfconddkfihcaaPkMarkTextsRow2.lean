/- Plain facts on words of texts. No program. -/
import Derived.Test.YtjfconddkfihcaaUtfPPk
import Derived.Test.YtjfconddkfihcaaPkMarkTextsRow0
section
namespace Go.Proofs.Ytjfconddkfihcaa.Tk
open Go.RowKit Go.Proofs.Ytjfconddkfihcaa.Ut

/-- A word of runes, cut: as many runes, lower case, as have 32 bytes at most. -/
def wordGo (a : List UInt8) : List Nat → List UInt8
  | [] => a
  | r :: t => if 32 < a.length + (enc (lower (r : Int))).length then a else wordGo (a ++ enc (lower (r : Int))) t
def word (l : List Nat) : List UInt8 := wordGo [] l
theorem wordGo_cons (a : List UInt8) (r : Nat) (t : List Nat) : wordGo a (r :: t) = if 32 < a.length + (enc (lower (r : Int))).length then a else wordGo (a ++ enc (lower (r : Int))) t := rfl
theorem wordGo_len : ∀ (l : List Nat) (a : List UInt8), a.length ≤ 32 → (wordGo a l).length ≤ 32
  | [], a, h => h
  | r :: t, a, h => by
    rw [wordGo_cons]
    split
    · exact h
    · exact wordGo_len t _ (by rw [List.length_append]; omega)
theorem word_len (l : List Nat) : (word l).length ≤ 32 := wordGo_len l [] (by simp)
/-- The runs of runes that are parts of words. -/
def last (c : List Nat) : List (List Nat) := if c = [] then [] else [c]
def runs (c : List Nat) : List Nat → List (List Nat)
  | [] => last c
  | r :: t => if isWord (r : Int) then runs (c ++ [r]) t else last c ++ runs [] t
theorem runs_nil (c : List Nat) : runs c [] = last c := rfl
theorem runs_cons (c : List Nat) (r : Nat) (t : List Nat) : runs c (r :: t) = if isWord (r : Int) then runs (c ++ [r]) t else last c ++ runs [] t := rfl
theorem runs_end : ∀ (l c : List Nat) (b : Nat), isWord (b : Int) = false → runs c (l ++ [b]) = runs c l
  | [], c, b, h => by
    rw [List.nil_append, runs_cons, h, if_neg (by decide), runs_nil, runs_nil]
    simp [last]
  | r :: t, c, b, h => by
    rw [List.cons_append, runs_cons, runs_cons, runs_end t _ b h, runs_end t _ b h]
/-- A text's words. -/
def words (s : List UInt8) : List (List UInt8) := (runs [] (runes s)).map word
end Go.Proofs.Ytjfconddkfihcaa.Tk
end

section
/- Where a text's words stand: plain. No program. -/
namespace Go.Proofs.Ytjfconddkfihcaa.Mk
open Go.RowKit Go.Proofs.Ytjfconddkfihcaa Go.Proofs.Ytjfconddkfihcaa.Ut

def tailS (f : Option Nat) (k : Nat) : List (Nat × Nat) := match f with | none => [] | some a => [(a, k)]
def spF : Nat → List UInt8 → Nat → Option Nat → List (Nat × Nat)
  | 0, _, k, f => tailS f k
  | n + 1, l, k, f => if l = [] then tailS f k else
    if isWord ((dec l).1 : Int) then spF n (l.drop (dec l).2) (k + (dec l).2) (some (f.getD k)) else tailS f k ++ spF n (l.drop (dec l).2) (k + (dec l).2) none
/-- The spans of the runs of what is left, from place k on; a run may have begun. -/
def sp (l : List UInt8) (k : Nat) (f : Option Nat) : List (Nat × Nat) := spF l.length l k f
theorem spF_eq : ∀ (n m : Nat) (l : List UInt8) (k : Nat) (f : Option Nat), l.length ≤ n → l.length ≤ m → spF n l k f = spF m l k f
  | 0, 0, _, _, _, _, _ => rfl
  | 0, m + 1, l, k, f, h, _ => by
    obtain rfl : l = [] := List.length_eq_zero_iff.1 (by omega)
    simp [spF]
  | n + 1, 0, l, k, f, _, h => by
    obtain rfl : l = [] := List.length_eq_zero_iff.1 (by omega)
    simp [spF]
  | n + 1, m + 1, l, k, f, h1, h2 => by
    unfold spF
    by_cases hl : l = []
    · rw [if_pos hl, if_pos hl]
    · rw [if_neg hl, if_neg hl]
      have hd := dec_size l hl
      have h3 : (l.drop (dec l).2).length = l.length - (dec l).2 := List.length_drop
      rw [spF_eq n m _ _ _ (by omega) (by omega), spF_eq n m _ _ _ (by omega) (by omega)]
theorem sp_nil (k : Nat) (f : Option Nat) : sp [] k f = tailS f k := rfl
theorem sp_word (l : List UInt8) (k : Nat) (f : Option Nat) (h : l ≠ []) (hw : isWord ((dec l).1 : Int) = true) : sp l k f = sp (l.drop (dec l).2) (k + (dec l).2) (some (f.getD k)) := by
  have hd := dec_size l h
  have h3 : (l.drop (dec l).2).length = l.length - (dec l).2 := List.length_drop
  unfold sp
  obtain ⟨n, hn⟩ : ∃ n, l.length = n + 1 := ⟨l.length - 1, by omega⟩
  rw [hn, spF, if_neg h, if_pos hw]
  exact spF_eq _ _ _ _ _ (by omega) (Nat.le_refl _)
theorem sp_gap (l : List UInt8) (k : Nat) (f : Option Nat) (h : l ≠ []) (hw : isWord ((dec l).1 : Int) = false) : sp l k f = tailS f k ++ sp (l.drop (dec l).2) (k + (dec l).2) none := by
  have hd := dec_size l h
  have h3 : (l.drop (dec l).2).length = l.length - (dec l).2 := List.length_drop
  unfold sp
  obtain ⟨n, hn⟩ : ∃ n, l.length = n + 1 := ⟨l.length - 1, by omega⟩
  rw [hn, spF, if_neg h, hw, if_neg (by decide)]
  rw [spF_eq n _ _ _ none (by omega) (Nat.le_refl _)]
/-- One span a word. -/
theorem sp_len : ∀ (n : Nat) (l : List UInt8) (k : Nat) (f : Option Nat) (c : List Nat), l.length ≤ n → (f = none ↔ c = []) → (sp l k f).length = (Tk.runs c (runes l)).length := by
  intro n
  induction n with
  | zero =>
    intro l k f c h hf
    obtain rfl : l = [] := List.length_eq_zero_iff.1 (by omega)
    rw [sp_nil, runes_nil, Tk.runs_nil]
    unfold tailS Tk.last
    cases f with
    | none => rw [if_pos (hf.1 rfl)]; rfl
    | some a => rw [if_neg (fun e => by have := hf.2 e; cases this)]; rfl
  | succ n ih =>
    intro l k f c h hf
    by_cases hl : l = []
    · subst hl
      rw [sp_nil, runes_nil, Tk.runs_nil]
      unfold tailS Tk.last
      cases f with
      | none => rw [if_pos (hf.1 rfl)]; rfl
      | some a => rw [if_neg (fun e => by have := hf.2 e; cases this)]; rfl
    · have hd := dec_size l hl
      have h3 : (l.drop (dec l).2).length = l.length - (dec l).2 := List.length_drop
      rw [runes_cons l hl, Tk.runs_cons]
      cases hw : isWord ((dec l).1 : Int)
      · rw [sp_gap l k f hl hw, if_neg (by decide), List.length_append, List.length_append, ih _ _ none [] (by omega) (by simp)]
        congr 1
        unfold tailS Tk.last
        cases f with
        | none => rw [if_pos (hf.1 rfl)]; rfl
        | some a => rw [if_neg (fun e => by have := hf.2 e; cases this)]; rfl
      · rw [sp_word l k f hl hw, if_pos rfl]
        exact ih _ _ _ _ (by omega) (by simp)
theorem sp_words (s : List UInt8) : (sp s 0 none).length = (Tk.words s).length := by
  unfold Tk.words
  rw [List.length_map]
  exact sp_len s.length s 0 none [] (Nat.le_refl _) (by simp)
/-- Spans that rise, from place e on, in a text of n bytes. -/
def okS (e n : Nat) : List (Nat × Nat) → Prop
  | [] => True
  | x :: t => e ≤ x.1 ∧ x.1 < x.2 ∧ x.2 ≤ n ∧ okS x.2 n t
theorem okS_from {e e' n : Nat} (h : e' ≤ e) : ∀ {l : List (Nat × Nat)}, okS e n l → okS e' n l
  | [], _ => trivial
  | _ :: _, ⟨h1, h2, h3, h4⟩ => ⟨Nat.le_trans h h1, h2, h3, h4⟩
theorem sp_ok : ∀ (n : Nat) (l : List UInt8) (k : Nat) (f : Option Nat) (e : Nat), l.length ≤ n → (∀ a, f = some a → e ≤ a ∧ a < k) → e ≤ k → okS e (k + l.length) (sp l k f) := by
  intro n
  induction n with
  | zero =>
    intro l k f e h hf he
    obtain rfl : l = [] := List.length_eq_zero_iff.1 (by omega)
    rw [sp_nil]
    cases f with
    | none => trivial
    | some a => exact ⟨(hf a rfl).1, (hf a rfl).2, Nat.le_refl _, trivial⟩
  | succ n ih =>
    intro l k f e h hf he
    by_cases hl : l = []
    · subst hl
      rw [sp_nil]
      cases f with
      | none => trivial
      | some a => exact ⟨(hf a rfl).1, (hf a rfl).2, Nat.le_refl _, trivial⟩
    · have hd := dec_size l hl
      have h3 : (l.drop (dec l).2).length = l.length - (dec l).2 := List.length_drop
      have h4 : k + (dec l).2 + (l.drop (dec l).2).length = k + l.length := by omega
      cases hw : isWord ((dec l).1 : Int)
      · rw [sp_gap l k f hl hw]
        have hr := ih (l.drop (dec l).2) (k + (dec l).2) none k (by omega) (fun a h => by cases h) (by omega)
        rw [h4] at hr
        cases f with
        | none => exact okS_from he hr
        | some a => exact ⟨(hf a rfl).1, (hf a rfl).2, by omega, hr⟩
      · rw [sp_word l k f hl hw]
        have hr := ih (l.drop (dec l).2) (k + (dec l).2) (some (f.getD k)) e (by omega) (fun a h => by
          injection h with h
          subst h
          cases f with
          | none => simp; omega
          | some a => have := hf a rfl; simp; omega) (by omega)
        rw [h4] at hr
        exact hr
theorem spans_ok (s : List UInt8) : okS 0 s.length (sp s 0 none) := by
  have := sp_ok s.length s 0 none 0 (Nat.le_refl _) (fun a h => by cases h) (Nat.le_refl _)
  rwa [Nat.zero_add] at this
theorem okS_get {n : Nat} : ∀ {e : Nat} {l : List (Nat × Nat)}, okS e n l → ∀ i (h : i < l.length), e ≤ l[i].1 ∧ l[i].1 < l[i].2 ∧ l[i].2 ≤ n ∧ ∀ h' : i + 1 < l.length, l[i].2 ≤ l[i + 1].1
  | e, x :: t, h, 0, _ => ⟨h.1, h.2.1, h.2.2.1, fun h' => by
    have := okS_get h.2.2.2 0 (by simpa using h')
    exact this.1⟩
  | e, x :: t, h, i + 1, hi => by
    have := okS_get h.2.2.2 i (by simpa using hi)
    have h1 := h.1
    have h2 := h.2.1
    refine ⟨by simp only [List.getElem_cons_succ]; omega, this.2.1, this.2.2.1, fun h' => this.2.2.2 (by simpa using h')⟩
theorem sp_count (s : List UInt8) : (sp s 0 none).length ≤ s.length := by
  rw [sp_words]
  unfold Tk.words
  rw [List.length_map]
  have h1 : ∀ (l c : List Nat), (Tk.runs c l).length ≤ l.length + (if c = [] then 0 else 1) := by
    intro l
    induction l with
    | nil => intro c; rw [Tk.runs_nil]; unfold Tk.last; split <;> simp
    | cons r t ih =>
      intro c
      rw [Tk.runs_cons]
      split
      · have := ih (c ++ [r])
        rw [if_neg (by simp)] at this
        rw [List.length_cons]
        split <;> omega
      · have := ih []
        rw [if_pos rfl] at this
        rw [List.length_append, List.length_cons]
        unfold Tk.last
        by_cases hc : c = []
        · rw [if_pos hc, if_pos hc, List.length_nil]; omega
        · rw [if_neg hc, if_neg hc, List.length_singleton]; omega
  have h2 := h1 (runes s) []
  have h3 := runes_len s
  rw [if_pos rfl] at h2
  omega
/-- Spans as cells. -/
def spC (l : List (Nat × Nat)) : List Value := l.flatMap fun x => [.int .i64 (x.1 : Nat), .int .i64 (x.2 : Nat)]
theorem spC_snoc (l : List (Nat × Nat)) (x : Nat × Nat) : spC (l ++ [x]) = spC l ++ [.int .i64 (x.1 : Nat), .int .i64 (x.2 : Nat)] := by simp [spC]
theorem spC_len (l : List (Nat × Nat)) : (spC l).length = l.length * 2 := by
  induction l with
  | nil => rfl
  | cons f fs ih => simp [spC] at *; omega
theorem spC_get : ∀ (l : List (Nat × Nat)) (k : Nat) (h : k < l.length), (spC l)[k * 2]? = some (.int .i64 (l[k].1 : Nat)) ∧ (spC l)[k * 2 + 1]? = some (.int .i64 (l[k].2 : Nat))
  | f :: fs, 0, _ => ⟨rfl, rfl⟩
  | f :: fs, k + 1, h => by
    have ih := spC_get fs k (by simpa using h)
    have e1 : (k + 1) * 2 = k * 2 + 2 := by omega
    have e2 : (k + 1) * 2 + 1 = (k * 2 + 1) + 2 := by omega
    rw [e2, e1]
    exact ih
end Go.Proofs.Ytjfconddkfihcaa.Mk
end

section
/- Queries, as they lie in memory. No program. -/
namespace Go.Proofs.Ytjfconddkfihcaa.Qy
open Go.RowKit Go.Proofs.Ytjfconddkfihcaa

/-- A query. -/
inductive Q where
  | mk (kind : Int) (name : ByteArray) (words : List ByteArray) (l : List Q)
def Q.kind : Q → Int | .mk k _ _ _ => k
def Q.name : Q → ByteArray | .mk _ n _ _ => n
def Q.words : Q → List ByteArray | .mk _ _ w _ => w
def Q.l : Q → List Q | .mk _ _ _ l => l
theorem Q.ind {p : Q → Prop} (h : ∀ k n ws l, (∀ x ∈ l, p x) → p (.mk k n ws l)) : ∀ q, p q := by
  intro q
  refine Q.rec (motive_1 := p) (motive_2 := fun l => ∀ x ∈ l, p x) (fun k n ws l hl => h k n ws l hl) (by simp) (fun x l hx hl => ?_) q
  intro y hy
  rcases List.mem_cons.1 hy with rfl | hy
  · exact hx
  · exact hl y hy

theorem flat_get {k : Nat} : ∀ {vss : List (List Value)} (_ : ∀ v ∈ vss, v.length = k) (i j : Nat) (hi : i < vss.length) (_ : j < k), vss.flatten[i * k + j]? = (vss[i])[j]?
  | v :: vss, h, 0, j, _, _ => by
    have hv := h v (by simp)
    rw [List.flatten_cons, Nat.zero_mul, Nat.zero_add, List.getElem?_append_left (by omega)]
    rfl
  | v :: vss, h, i + 1, j, hi, hj => by
    have hv := h v (by simp)
    have ih := flat_get (fun x hx => h x (List.mem_cons_of_mem _ hx)) i j (by simpa using hi) hj
    have e : (i + 1) * k + j = v.length + (i * k + j) := by rw [hv, Nat.add_mul, Nat.one_mul]; omega
    rw [List.flatten_cons, e, List.getElem?_append_right (by omega), Nat.add_sub_cancel_left, ih]
    rfl

/-- A query's four cells, and what lies behind them, below block B. -/
inductive QAt (w : World) (B : Nat) : Q → List Value → Prop
  | mk {k : Int} {nm : ByteArray} {ws : List ByteArray} {l : List Q} {A C : Option Addr} {n c m d : Nat} (vss : List (List Value)) (hn : ws.length = n) (hw : Reads w B 1 A n (ws.map Value.string)) (hm : l.length = m) (hv : vss.length = m)
      (h4 : ∀ v ∈ vss, v.length = 4) (hl : Reads w B 4 C m vss.flatten) (kids : ∀ i (h : i < l.length) (h' : i < vss.length), QAt w B l[i] vss[i]) : QAt w B (.mk k nm ws l) [.int .i64 k, .string nm, .slice A n c, .slice C m d]
theorem QAt.keep {w w' : World} {B : Nat} (hk : ∀ b o, b < B → w'.cell? ⟨b, o, none⟩ = w.cell? ⟨b, o, none⟩) {q : Q} {vs : List Value} (h : QAt w B q vs) : QAt w' B q vs := by
  induction h with
  | mk vss hn hw hm hv h4 hl _ ih => exact .mk vss hn (hw.keep hk) hm hv h4 (hl.keep hk) ih
theorem QAt.lower {w w' : World} {B : Nat} {q : Q} {vs : List Value} (h : QAt w B q vs) (hb : Below B w w') : QAt w' B q vs := h.keep fun _ _ hp => hb.cell hp
theorem QAt.more {w : World} {B B' : Nat} {q : Q} {vs : List Value} (h : QAt w B q vs) (hB : B ≤ B') : QAt w B' q vs := by
  induction h with
  | mk vss hn hw hm hv h4 hl _ ih => exact .mk vss hn (hw.more hB) hm hv h4 (hl.more hB) ih
theorem QAt.grow {w w' : World} {q : Q} {vs : List Value} (h : QAt w w.heap.size q vs) (hb : Below w.heap.size w w') : QAt w' w'.heap.size q vs := (h.lower hb).more hb.size
/-- The parts. -/
structure QIs (w : World) (B : Nat) (k : Int) (nm : ByteArray) (ws : List ByteArray) (l : List Q) (A : Option Addr) (n : Nat) (C : Option Addr) (m : Nat) : Prop where
  wn : ws.length = n
  wds : Reads w B 1 A n (ws.map Value.string)
  lm : l.length = m
  kid : ∀ i (h : i < l.length), ∃ b o v, C = some ⟨b, o, none⟩ ∧ b < B ∧ QAt w B l[i] v ∧ ∀ j u, v[j]? = some u → w.cell? ⟨b, o + (i * 4 + j), none⟩ = some u
theorem QAt.is {w : World} {B : Nat} {k : Int} {nm : ByteArray} {ws : List ByteArray} {l : List Q} {vs : List Value} (h : QAt w B (.mk k nm ws l) vs) :
    ∃ A n c C m d, vs = [.int .i64 k, .string nm, .slice A n c, .slice C m d] ∧ QIs w B k nm ws l A n C m := by
  cases h with
  | @mk _ _ _ _ A C n c m d vss hn hw hm hv h4 hl kids =>
    refine ⟨A, n, c, C, m, d, rfl, hn, hw, hm, fun i hi => ?_⟩
    obtain ⟨b, o, e, hb, hc⟩ := hl.2 (by omega)
    have hi' : i < vss.length := by omega
    refine ⟨b, o, vss[i], e, hb, kids i hi hi', fun j u hu => ?_⟩
    have hj : j < 4 := by
      have h1 := (List.getElem?_eq_some_iff.1 hu).1
      rw [h4 _ (List.getElem_mem hi')] at h1
      exact h1
    exact hc _ _ ((flat_get h4 i j hi' hj).trans hu)
theorem QAt.len {w : World} {B : Nat} {q : Q} {vs : List Value} (h : QAt w B q vs) : vs.length = 4 := by cases h; rfl
/-- The cells of the i-th part. -/
theorem QIs.at_ {w : World} {B : Nat} {k : Int} {nm : ByteArray} {ws : List ByteArray} {l : List Q} {A C : Option Addr} {n m : Nat} (h : QIs w B k nm ws l A n C m) {i : Nat} (hi : i < l.length) :
    ∃ b o A' n' c' C' m' d', C = some ⟨b, o, none⟩ ∧ b < B ∧ QAt w B l[i] [.int .i64 l[i].kind, .string l[i].name, .slice A' n' c', .slice C' m' d'] ∧
      w.cell? ⟨b, o + i * 4, none⟩ = some (.int .i64 l[i].kind) ∧ w.cell? ⟨b, o + i * 4 + 1, none⟩ = some (.string l[i].name) ∧ w.cell? ⟨b, o + i * 4 + 2, none⟩ = some (.slice A' n' c') ∧ w.cell? ⟨b, o + i * 4 + 3, none⟩ = some (.slice C' m' d') := by
  obtain ⟨b, o, v, e, hb, hq, hc⟩ := h.kid i hi
  generalize l[i] = q at *
  obtain ⟨k', nm', ws', l'⟩ := q
  obtain ⟨A', n', c', C', m', d', rfl, _⟩ := hq.is
  exact ⟨b, o, A', n', c', C', m', d', e, hb, hq, by simpa [Q.kind] using hc 0 _ rfl, by simpa [Nat.add_assoc, Q.name] using hc 1 _ rfl, by simpa [Nat.add_assoc] using hc 2 _ rfl, by simpa [Nat.add_assoc] using hc 3 _ rfl⟩

/-- Fields of an event, as cells. -/
def fldC (fs : List (ByteArray × ByteArray)) : List Value := fs.flatMap fun f => [.string f.1, .string f.2]
theorem fldC_len (fs : List (ByteArray × ByteArray)) : (fldC fs).length = fs.length * 2 := by
  induction fs with
  | nil => rfl
  | cons f fs ih => simp [fldC] at *; omega
theorem fldC_get : ∀ (fs : List (ByteArray × ByteArray)) (k : Nat) (h : k < fs.length), (fldC fs)[k * 2]? = some (.string fs[k].1) ∧ (fldC fs)[k * 2 + 1]? = some (.string fs[k].2)
  | f :: fs, 0, _ => ⟨rfl, rfl⟩
  | f :: fs, k + 1, h => by
    have ih := fldC_get fs k (by simpa using h)
    have e1 : (k + 1) * 2 = k * 2 + 2 := by omega
    have e2 : (k + 1) * 2 + 1 = (k * 2 + 1) + 2 := by omega
    rw [e2, e1]
    exact ih
theorem fields_at {w : World} {B n : Nat} {A : Option Addr} {fs : List (ByteArray × ByteArray)} (h : Reads w B 2 A n (fldC fs)) {k : Nat} (hk : k < fs.length) :
    ∃ b o, A = some ⟨b, o, none⟩ ∧ b < B ∧ w.cell? ⟨b, o + k * 2, none⟩ = some (.string fs[k].1) ∧ w.cell? ⟨b, o + k * 2 + 1, none⟩ = some (.string fs[k].2) := by
  have hl := h.1
  rw [fldC_len] at hl
  obtain ⟨b, o, e, hb, hc⟩ := h.2 (by omega)
  have g := fldC_get fs k hk
  refine ⟨b, o, e, hb, hc _ _ g.1, ?_⟩
  have := hc _ _ g.2
  rwa [← Nat.add_assoc] at this
theorem fields_len {w : World} {B n : Nat} {A : Option Addr} {fs : List (ByteArray × ByteArray)} (h : Reads w B 2 A n (fldC fs)) : fs.length = n := by
  have := h.1
  rw [fldC_len] at this
  omega
end Go.Proofs.Ytjfconddkfihcaa.Qy
end

section
/- Plain facts on phrases, beginnings, and what a query matches. No program. -/
namespace Go.Proofs.Ytjfconddkfihcaa.Qy
open Go.RowKit Go.Proofs.Ytjfconddkfihcaa Go.Proofs.Ytjfconddkfihcaa.Ut

/-- Do words stand from the i-th on? -/
def stands (T : List (List UInt8)) (ws : List ByteArray) (i : Nat) : Bool := ((T.drop i).take ws.length) == ws.map (fun s => s.data.toList)
/-- Where words stand, of the first k places. -/
def phrTo (T : List (List UInt8)) (ws : List ByteArray) (k : Nat) : List Nat := (List.range k).filter (stands T ws)
def phr (T : List (List UInt8)) (ws : List ByteArray) : List Nat := if ws = [] then [] else phrTo T ws T.length
theorem phrTo_succ (T : List (List UInt8)) (ws : List ByteArray) (k : Nat) : phrTo T ws (k + 1) = phrTo T ws k ++ if stands T ws k then [k] else [] := by
  unfold phrTo
  rw [List.range_succ, List.filter_append]
  by_cases h : stands T ws k <;> simp [h]
theorem phrTo_len (T : List (List UInt8)) (ws : List ByteArray) (k : Nat) : (phrTo T ws k).length ≤ k := by
  have := List.length_filter_le (stands T ws) (List.range k)
  rwa [List.length_range] at this
theorem stands_short (T : List (List UInt8)) (ws : List ByteArray) (i : Nat) (h : T.length - i < ws.length) : stands T ws i = false := by
  unfold stands
  rw [beq_eq_false_iff_ne]
  intro e
  have := congrArg List.length e
  simp at this
  omega
/-- Once too few words are left, none more stand. -/
theorem phrTo_short (T : List (List UInt8)) (ws : List ByteArray) (k : Nat) (h : T.length - k < ws.length) : ∀ j, k ≤ j → phrTo T ws j = phrTo T ws k := by
  intro j hj
  induction j with
  | zero => obtain rfl : k = 0 := by omega
            rfl
  | succ j ih =>
    by_cases e : k = j + 1
    · rw [e]
    · rw [phrTo_succ, stands_short T ws j (by omega), if_neg (by decide), List.append_nil]
      exact ih (by omega)
/-- So far the words stand. -/
def standsTo (T : List (List UInt8)) (ws : List ByteArray) (i k : Nat) : Bool := ((T.drop i).take k) == (ws.take k).map (fun s => s.data.toList)
theorem standsTo_zero (T : List (List UInt8)) (ws : List ByteArray) (i : Nat) : standsTo T ws i 0 = true := by simp [standsTo]
theorem standsTo_all (T : List (List UInt8)) (ws : List ByteArray) (i : Nat) : standsTo T ws i ws.length = stands T ws i := by unfold standsTo stands; rw [List.take_length]
theorem standsTo_succ (T : List (List UInt8)) (ws : List ByteArray) (i k : Nat) (h1 : i + k < T.length) (h2 : k < ws.length) : standsTo T ws i (k + 1) = (standsTo T ws i k && (T[i + k] == ws[k].data.toList)) := by
  unfold standsTo
  have e1 : (T.drop i).take (k + 1) = (T.drop i).take k ++ [T[i + k]] := by
    rw [List.take_succ_eq_append_getElem (by simp; omega)]
    simp
  have e2 : (ws.take (k + 1)).map (fun s => s.data.toList) = (ws.take k).map (fun s => s.data.toList) ++ [ws[k].data.toList] := by
    rw [List.take_succ_eq_append_getElem h2, List.map_append]; rfl
  have hl : ((T.drop i).take k).length = ((ws.take k).map (fun s => s.data.toList)).length := by simp; omega
  rw [e1, e2, Bool.eq_iff_iff]
  simp only [beq_iff_eq, Bool.and_eq_true]
  constructor
  · intro e
    have := List.append_inj e hl
    exact ⟨this.1, by simpa using this.2⟩
  · rintro ⟨a, b⟩
    rw [a, b]
theorem standsTo_no (T : List (List UInt8)) (ws : List ByteArray) (i k : Nat) (hk : k ≤ ws.length) (h : standsTo T ws i k = false) : stands T ws i = false := by
  unfold standsTo stands at *
  rw [beq_eq_false_iff_ne] at *
  intro e
  apply h
  have := congrArg (List.take k) e
  rw [List.take_take, Nat.min_eq_left hk] at this
  rw [this, List.map_take]

/-- Does a text begin so? -/
def begins (t : List UInt8) (p : ByteArray) : Bool := p.data.toList.isPrefixOf t
/-- Does a leaf match a text? -/
def leafT (k : Int) (ws : List ByteArray) (T : List (List UInt8)) : Bool :=
  if k = 3 then (match ws with | [p] => T.any (begins · p) | _ => false)
  else if k = 2 then decide (ws.length = 1) && decide (0 < (phr T ws).length)
  else decide (0 < (phr T ws).length)
def leafB (k : Int) (nm : ByteArray) (ws : List ByteArray) (fs : List (ByteArray × ByteArray)) : Bool := fs.any fun f => f.1.data.toList == nm.data.toList && leafT k ws (Tk.words f.2.data.toList)
mutual
/-- Does a query match fields? -/
def matchB (fs : List (ByteArray × ByteArray)) : Q → Bool
  | .mk k nm ws l => if k = 1 then true else if k = 2 ∨ k = 3 ∨ k = 4 then leafB k nm ws fs else if k = 5 then matchAll fs l else if k = 6 then matchSome fs l else if k = 7 then matchNone fs l else false
def matchAll (fs : List (ByteArray × ByteArray)) : List Q → Bool
  | [] => true
  | q :: l => matchB fs q && matchAll fs l
def matchSome (fs : List (ByteArray × ByteArray)) : List Q → Bool
  | [] => false
  | q :: l => matchB fs q || matchSome fs l
def matchNone (fs : List (ByteArray × ByteArray)) : List Q → Bool
  | [q] => !matchB fs q
  | _ => false
end
theorem matchAll_eq (fs : List (ByteArray × ByteArray)) : ∀ l, matchAll fs l = l.all (matchB fs)
  | [] => by simp [matchAll]
  | q :: l => by simp [matchAll, matchAll_eq fs l]
theorem matchSome_eq (fs : List (ByteArray × ByteArray)) : ∀ l, matchSome fs l = l.any (matchB fs)
  | [] => by simp [matchSome]
  | q :: l => by simp [matchSome, matchSome_eq fs l]
theorem matchB_eq (fs : List (ByteArray × ByteArray)) (k : Int) (nm : ByteArray) (ws : List ByteArray) (l : List Q) :
    matchB fs (.mk k nm ws l) = if k = 1 then true else if k = 2 ∨ k = 3 ∨ k = 4 then leafB k nm ws fs else if k = 5 then l.all (matchB fs) else if k = 6 then l.any (matchB fs) else if k = 7 then matchNone fs l else false := by
  rw [matchB, matchAll_eq, matchSome_eq]
end Go.Proofs.Ytjfconddkfihcaa.Qy
end
