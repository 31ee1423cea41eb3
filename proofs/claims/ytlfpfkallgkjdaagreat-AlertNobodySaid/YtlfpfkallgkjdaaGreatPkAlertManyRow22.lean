/- What is read of a text is small, and its texts are short: plain. (No program in sight.) -/
import Derived.BigQuiet
import Derived.Deep.QuietTactic
import Derived.Test.YtlfpfkallgkjdaaGreatQpOPk
import Derived.Test.YtlfpfkallgkjdaaGreatPkAlertManyRow21
import Derived.Test.YtlfpfkallgkjdaaGreatPkAlertManyRow5
import Derived.Test.YtlfpfkallgkjdaaGreatPkAlertManyRow1
import Derived.Test.YtlfpfkallgkjdaaGreatPkAlertManyRow18
import Derived.Test.YtlfpfkallgkjdaaGreatPkAlertManyRow17
section
namespace Go.Proofs.YtlfpfkallgkjdaaGreat.Al
open Go.RowKit Go.Proofs.YtlfpfkallgkjdaaGreat Go.Proofs.YtlfpfkallgkjdaaGreat.Ut Go.Proofs.YtlfpfkallgkjdaaGreat.Tk Go.Proofs.YtlfpfkallgkjdaaGreat.Qy Go.Proofs.YtlfpfkallgkjdaaGreat.Qp
set_option linter.unusedVariables false
set_option linter.unusedSimpArgs false

/-- How much pieces are. -/
def SP (l : List P) : Nat := (l.map (fun s => s.length + 4)).sum
theorem SP_cons (s : P) (l : List P) : SP (s :: l) = s.length + 4 + SP l := by simp [SP]
theorem pieces_sum : ∀ (n : Nat) (s : P) (l : List P), s.length ≤ n → pieces s = some l → SP l ≤ 5 * s.length := by
  intro n
  induction n with
  | zero =>
    intro s l h e
    have : s = [] := List.length_eq_zero_iff.1 (by omega)
    subst this
    rw [pieces_nil] at e
    injection e with e
    subst e
    simp [SP]
  | succ n ih =>
    intro s l h e
    cases s with
    | nil =>
      rw [pieces_nil] at e
      injection e with e
      subst e
      simp [SP]
    | cons c t =>
      rw [List.length_cons] at h ⊢
      by_cases hb : Qp.blank c = true
      · rw [pieces_blank c t hb] at e
        have := ih t l (by omega) e
        omega
      · have hb' : Qp.blank c = false := by simpa using hb
        rw [pieces_cons c t hb'] at e
        by_cases h0 : pieceN (c :: t) = 0
        · rw [if_pos h0] at e; cases e
        · rw [if_neg h0] at e
          obtain ⟨l', h1, h2⟩ := Option.map_eq_some_iff.1 e
          subst h2
          have h3 := ih _ l' (by rw [List.length_drop, List.length_cons]; omega) h1
          have h4 := pieceN_le (c :: t)
          rw [List.length_drop, List.length_cons] at h3
          rw [List.length_cons] at h4
          rw [SP_cons, List.length_take, List.length_cons, Nat.min_eq_left h4]
          omega
theorem wqs_snoc (a : List Q) (q : Q) : wqs (a ++ [q]) = wqs a + wq q := by
  rw [wqs_append]
  simp [wqs]
theorem oneQ_le (k : Int) (a : List Q) : wq (oneQ k a) ≤ 1 + wqs a := by
  match a with
  | [q] =>
    show wq q ≤ 1 + wqs [q]
    simp [wqs]
  | [] => simp [oneQ, wq_eq, wqs]
  | q :: q' :: a => simp [oneQ, wq_eq]
theorem wordsQ_le (nm : P) (l : List P) (q : Q) (h : wordsQ nm l = some q) : wq q ≤ 1 + l.length := by
  unfold wordsQ at h
  split at h
  · cases h
  · split at h
    · injection h with h
      subst h
      simp [wq_eq, wqs]
    · injection h with h
      subst h
      simp [wq_eq, wqs]
theorem leafQ_le (s : P) (q : Q) (h : leafQ s = some q) : wq q ≤ 2 + s.length := by
  unfold leafQ at h
  have hr := rest_len s
  split at h
  · injection h with h
    subst h
    simp [wq_eq, wqs]
    omega
  · split at h
    · cases h
    · split at h
      · have h1 := wordsQ_le _ _ q h
        have := words_few (((restOf s).take ((restOf s).length - 1)).drop 1)
        rw [List.length_drop, List.length_take] at this
        omega
      · split at h
        · split at h
          · injection h with h
            subst h
            simp [wq_eq, wqs]
          · split at h
            · injection h with h
              subst h
              have := words_few (restOf s).dropLast
              rw [List.length_dropLast] at this
              simp only [wq_eq, wqs, List.length_map]
              omega
            · cases h
        · have h1 := wordsQ_le _ _ q h
          have := words_few (restOf s)
          omega
/-- How large is what is read. -/
def Sml (m : Md) (l : List P) (q : Q) (r : List P) : Prop :=
  match m with
  | .part => wq q + SP r + 2 ≤ SP l
  | .and a => wq q + SP r + 1 ≤ wqs a + SP l
  | .andT a => wq q + SP r ≤ 1 + wqs a + SP l
  | .or a => wq q + SP r ≤ wqs a + SP l
  | .orT a => wq q + SP r ≤ 1 + wqs a + SP l
theorem R.small {m : Md} {l : List P} {o : Option (Q × List P)} (h : R m l o) : ∀ q r, o = some (q, r) → Sml m l q r := by
  induction h with
  | pnil => intro q r e; cases e
  | pnot hs h ih =>
    intro q r e
    obtain ⟨⟨q', r'⟩, h1, h2⟩ := Option.map_eq_some_iff.1 e
    simp only [Prod.mk.injEq] at h2
    obtain ⟨rfl, rfl⟩ := h2
    have := ih q' r' h1
    unfold Sml at this ⊢
    simp only at this ⊢
    rw [SP_cons]
    have e2 : wq (notQ q') = 1 + wq q' := by simp [notQ, wq_eq, wqs]
    omega
  | @plp s t o hs h ih =>
    intro q r e
    match o, e, h, ih with
    | some (q', s' :: r'), e, h, ih =>
      by_cases hp' : s' = RP
      · have e2 : closed (some (q', s' :: r')) = some (q', r') := if_pos hp'
        rw [e2] at e
        simp only [Option.some.injEq, Prod.mk.injEq] at e
        obtain ⟨rfl, rfl⟩ := e
        have := ih q' _ rfl
        unfold Sml at this ⊢
        simp only [SP_cons, wqs] at this ⊢
        omega
      · have e2 : closed (some (q', s' :: r')) = none := if_neg hp'
        rw [e2] at e
        cases e
    | some (q', []), e, _, _ => cases e
    | none, e, _, _ => cases e
  | pbad hs => intro q r e; cases e
  | pleaf hs =>
    intro q r e
    obtain ⟨q', h1, h2⟩ := Option.map_eq_some_iff.1 e
    simp only [Prod.mk.injEq] at h2
    obtain ⟨rfl, rfl⟩ := h2
    have := leafQ_le _ _ h1
    unfold Sml
    simp only [SP_cons]
    omega
  | and0 h ih => intro q r e; cases e
  | and1 h h2 ih ih2 =>
    intro q r e
    have h3 := ih _ _ rfl
    have h4 := ih2 q r e
    unfold Sml at h3 h4 ⊢
    simp only [wqs_snoc] at h3 h4 ⊢
    omega
  | @andE a l h =>
    intro q r e
    simp only [Option.some.injEq, Prod.mk.injEq] at e
    obtain ⟨rfl, rfl⟩ := e
    have := oneQ_le 5 a
    unfold Sml
    simp only
    omega
  | andA hs h ih =>
    intro q r e
    have := ih q r e
    unfold Sml at this ⊢
    simp only [SP_cons] at this ⊢
    omega
  | andN hs hn h ih =>
    intro q r e
    have := ih q r e
    unfold Sml at this ⊢
    simp only at this ⊢
    omega
  | or0 h ih => intro q r e; cases e
  | or1 h h2 ih ih2 =>
    intro q r e
    have h3 := ih _ _ rfl
    have h4 := ih2 q r e
    unfold Sml at h3 h4 ⊢
    simp only [wqs_snoc, wqs] at h3 h4 ⊢
    omega
  | @orE a l h =>
    intro q r e
    simp only [Option.some.injEq, Prod.mk.injEq] at e
    obtain ⟨rfl, rfl⟩ := e
    have := oneQ_le 6 a
    unfold Sml
    simp only
    omega
  | orO hs h ih =>
    intro q r e
    have := ih q r e
    unfold Sml at this ⊢
    simp only [SP_cons] at this ⊢
    omega
theorem QTx.all {b : Nat} {k : Int} {l : List Q} (h : ∀ x ∈ l, QTx b x) : QTx b (oneQ k l) := by
  match l, h with
  | [q], h => exact h q (by simp)
  | [], h => exact .mk (by simp) (by simp) (by simp)
  | q :: q' :: a, h => exact .mk (by simp) (by simp) h
theorem str_sz (s : P) : (str s).size = s.length := str_size s
theorem wordsQ_tx (nm : P) (l : List P) (q : Q) (hn : nm.length ≤ 1048576) (hl : ∀ x ∈ l, x.length ≤ 1048576) (h : wordsQ nm l = some q) : QTx 1048576 q := by
  have hw : ∀ x ∈ l.map str, x.size ≤ 1048576 := fun x hx => by
    obtain ⟨y, hy, rfl⟩ := List.mem_map.1 hx
    rw [str_sz]
    exact hl y hy
  unfold wordsQ at h
  split at h
  · cases h
  · split at h
    · injection h with h
      subst h
      exact .mk (by rw [str_sz]; exact hn) hw (by simp)
    · injection h with h
      subst h
      exact .mk (by rw [str_sz]; exact hn) hw (by simp)
theorem words_short (s : P) : ∀ x ∈ words s, x.length ≤ 1048576 := fun x hx => by
  have := (words_word s x hx).2
  omega
theorem name_len (s : P) : (nameOf s).length ≤ s.length + 3 := by
  unfold nameOf
  split
  · rw [List.length_take]; omega
  · simp [msg]
theorem leafQ_tx (s : P) (q : Q) (hs : s.length ≤ 1024) (h : leafQ s = some q) : QTx 1048576 q := by
  have hn := name_len s
  unfold leafQ at h
  split at h
  · injection h with h
    subst h
    exact .mk (by simp) (by simp) (by simp)
  · split at h
    · cases h
    · split at h
      · exact wordsQ_tx _ _ q (by omega) (words_short _) h
      · split at h
        · split at h
          · injection h with h
            subst h
            exact .mk (by rw [str_sz]; omega) (by simp) (by simp)
          · split at h
            · injection h with h
              subst h
              refine .mk (by rw [str_sz]; omega) (fun x hx => ?_) (by simp)
              obtain ⟨y, hy, rfl⟩ := List.mem_map.1 hx
              rw [str_sz]
              exact words_short _ y hy
            · cases h
        · exact wordsQ_tx _ _ q (by omega) (words_short _) h
def acc : Md → List Q
  | .part => []
  | .and a => a
  | .or a => a
  | .andT a => a
  | .orT a => a
theorem R.tx {m : Md} {l : List P} {o : Option (Q × List P)} (h : R m l o) : (∀ x ∈ l, x.length ≤ 1024) → (∀ x ∈ acc m, QTx 1048576 x) → ∀ q r, o = some (q, r) → QTx 1048576 q ∧ ∀ x ∈ r, x.length ≤ 1024 := by
  induction h with
  | pnil => intro _ _ q r e; cases e
  | pnot hs h ih =>
    intro hl ha q r e
    obtain ⟨⟨q', r'⟩, h1, h2⟩ := Option.map_eq_some_iff.1 e
    simp only [Prod.mk.injEq] at h2
    obtain ⟨rfl, rfl⟩ := h2
    obtain ⟨g1, g2⟩ := ih (fun x hx => hl x (List.mem_cons_of_mem _ hx)) ha q' r' h1
    exact ⟨.mk (by simp) (by simp) (fun x hx => by rw [List.mem_singleton] at hx; rw [hx]; exact g1), g2⟩
  | @plp s t o hs h ih =>
    intro hl ha q r e
    match o, e, h, ih with
    | some (q', s' :: r'), e, h, ih =>
      by_cases hp' : s' = RP
      · have e2 : closed (some (q', s' :: r')) = some (q', r') := if_pos hp'
        rw [e2] at e
        simp only [Option.some.injEq, Prod.mk.injEq] at e
        obtain ⟨rfl, rfl⟩ := e
        obtain ⟨g1, g2⟩ := ih (fun x hx => hl x (List.mem_cons_of_mem _ hx)) (by simp [acc]) q' _ rfl
        exact ⟨g1, fun x hx => g2 x (List.mem_cons_of_mem _ hx)⟩
      · have e2 : closed (some (q', s' :: r')) = none := if_neg hp'
        rw [e2] at e
        cases e
    | some (q', []), e, _, _ => cases e
    | none, e, _, _ => cases e
  | pbad hs => intro _ _ q r e; cases e
  | pleaf hs =>
    intro hl ha q r e
    obtain ⟨q', h1, h2⟩ := Option.map_eq_some_iff.1 e
    simp only [Prod.mk.injEq] at h2
    obtain ⟨rfl, rfl⟩ := h2
    exact ⟨leafQ_tx _ _ (hl _ (List.mem_cons_self ..)) h1, fun x hx => hl x (List.mem_cons_of_mem _ hx)⟩
  | and0 h ih => intro _ _ q r e; cases e
  | and1 h h2 ih ih2 =>
    intro hl ha q r e
    obtain ⟨g1, g2⟩ := ih hl (by simp [acc]) _ _ rfl
    exact ih2 g2 (fun x hx => by
      rcases List.mem_append.1 hx with hx | hx
      · exact ha x hx
      · rw [List.mem_singleton] at hx; rw [hx]; exact g1) q r e
  | @andE a l h =>
    intro hl ha q r e
    simp only [Option.some.injEq, Prod.mk.injEq] at e
    obtain ⟨rfl, rfl⟩ := e
    exact ⟨QTx.all ha, hl⟩
  | andA hs h ih =>
    intro hl ha q r e
    exact ih (fun x hx => hl x (List.mem_cons_of_mem _ hx)) ha q r e
  | andN hs hn h ih =>
    intro hl ha q r e
    exact ih hl ha q r e
  | or0 h ih => intro _ _ q r e; cases e
  | or1 h h2 ih ih2 =>
    intro hl ha q r e
    obtain ⟨g1, g2⟩ := ih hl (by simp [acc]) _ _ rfl
    exact ih2 g2 (fun x hx => by
      rcases List.mem_append.1 hx with hx | hx
      · exact ha x hx
      · rw [List.mem_singleton] at hx; rw [hx]; exact g1) q r e
  | @orE a l h =>
    intro hl ha q r e
    simp only [Option.some.injEq, Prod.mk.injEq] at e
    obtain ⟨rfl, rfl⟩ := e
    exact ⟨QTx.all ha, hl⟩
  | orO hs h ih =>
    intro hl ha q r e
    exact ih (fun x hx => hl x (List.mem_cons_of_mem _ hx)) ha q r e
theorem QTx.more {b b' : Nat} {q : Q} (h : QTx b q) (hb : b ≤ b') : QTx b' q := by
  induction h with
  | mk h1 h2 h3 ih => exact .mk (by omega) (fun x hx => by have := h2 x hx; omega) ih
theorem qw_sz {K : Nat} {q : Q} (h : QW K q) : QSz q := by
  induction h with
  | mk h1 h2 h3 ih => exact .mk h1 h2 ih
/-- A parsed query: its sizes. -/
structure QOk (q : Q) : Prop where
  tx : QTx 1048576 q
  sz : QSz q
  wq : wq q ≤ 1048576
theorem prs_wide {s : P} {q : Q} (h : PrsR s 0 (some q)) : ∃ K, K ≤ 16777216 ∧ QW K q := by
  cases h with
  | @ok l _ h hp hr hm hd =>
    have h1 := pieces_pc s.length s l (Nat.le_refl _) hp
    have h2 := pieces_many s.length s l (Nat.le_refl _) hp
    exact or_wide hr (fun x hx => by have := (h1 x hx).2; omega) (by omega)
theorem prs_ok {s : P} {E : Int} {q : Q} (h : PrsR s E (some q)) : E = 0 ∧ s.length ≤ 1024 ∧ QOk q := by
  cases h with
  | @ok l _ h hp hr hm hd =>
    obtain ⟨K, _, hK⟩ := prs_wide (.ok h hp hr hm hd)
    have h1 := pieces_pc s.length s l (Nat.le_refl _) hp
    have h2 := pieces_sum s.length s l (Nat.le_refl _) hp
    have h3 := R.small hr q [] rfl
    obtain ⟨h4, _⟩ := R.tx hr (fun x hx => by have := (h1 x hx).2; omega) (by simp [acc]) q [] rfl
    unfold Sml at h3
    simp only [wqs] at h3
    exact ⟨rfl, h, h4, qw_sz hK, by omega⟩
theorem prs_none {s : P} {E : Int} (h : PrsR s E none) : E ≠ 0 := by cases h <;> decide
end Go.Proofs.YtlfpfkallgkjdaaGreat.Al
end

section
/- event.Check, Size, CheckBatch, and the document's: the walks. -/
namespace Go.Proofs.YtlfpfkallgkjdaaGreat.Ev
open Go.RowKit Go.Proofs.YtlfpfkallgkjdaaGreat Go.Proofs.YtlfpfkallgkjdaaGreat.Ut Go.Proofs.YtlfpfkallgkjdaaGreat.Tk Go.Proofs.YtlfpfkallgkjdaaGreat.Qy
set_option maxRecDepth 20000
set_option linter.unusedVariables false
set_option linter.unusedSimpArgs false

/-- An event's fields, as they lie in memory. -/
structure FlAt (w : World) (B : Nat) (F : Option Addr) (fn fc : Nat) (fs : List Fl) : Prop where
  rd : Reads w B 2 F fn (fldC fs)
  len : fs.length = fn
  few : fn ≤ 8796093021952
  cap : fn ≤ fc
  sz : ∀ f ∈ fs, f.1.size ≤ 140737488351232 ∧ f.2.size ≤ 140737488351232
  nl : F = none → fc = 0
theorem FlAt.keep {w w' : World} {B : Nat} {F : Option Addr} {fn fc : Nat} {fs : List Fl} (h : FlAt w B F fn fc fs) (hk : ∀ b o, b < B → w'.cell? ⟨b, o, none⟩ = w.cell? ⟨b, o, none⟩) : FlAt w' B F fn fc fs := ⟨h.rd.keep hk, h.len, h.few, h.cap, h.sz, h.nl⟩
theorem FlAt.more {w : World} {B B' : Nat} {F : Option Addr} {fn fc : Nat} {fs : List Fl} (h : FlAt w B F fn fc fs) (hB : B ≤ B') : FlAt w B' F fn fc fs := ⟨h.rd.more hB, h.len, h.few, h.cap, h.sz, h.nl⟩
theorem FlAt.grow {w w' : World} {F : Option Addr} {fn fc : Nat} {fs : List Fl} (h : FlAt w w.heap.size F fn fc fs) (hb : Below w.heap.size w w') : FlAt w' w'.heap.size F fn fc fs := (h.keep fun _ _ hp => hb.cell hp).more hb.size
theorem FlAt.at_ {w : World} {B : Nat} {F : Option Addr} {fn fc : Nat} {fs : List Fl} (h : FlAt w B F fn fc fs) {k : Nat} (hk : k < fs.length) :
    ∃ b o, F = some ⟨b, o, none⟩ ∧ b < B ∧ w.cell? ⟨b, o + k * 2, none⟩ = some (.string fs[k].1) ∧ w.cell? ⟨b, o + k * 2 + 1, none⟩ = some (.string fs[k].2) := Qy.fields_at h.rd hk
theorem drop_at {α : Type} (l : List α) (k : Nat) (h : k < l.length) : l.drop k = l[k] :: l.drop (k + 1) := List.drop_eq_getElem_cons h

theorem name_any (s : ByteArray) (w : World) (hs : s.size ≤ 140737488351232) : Calls Tryz.prog 71 #[.string s] w fun e w' => e = .returned (.bool (isN s.data.toList)) ∧ Below w.heap.size w w' := by
  have c := isName_anyB s w hs
  go_enter Tryz.func71, Tryz.ntmps71
  go_wp2_with fail
  refine c.mono ?_
  rintro e w' ⟨rfl, hb⟩
  go_wp2
  go_ret
  exact ⟨rfl, hb⟩

set_option maxHeartbeats 1600000 in
theorem check_any (t : Int) (F : Option Addr) (fn fc : Nat) (fs : List Fl) (w : World) (h : FlAt w w.heap.size F fn fc fs) :
    Calls Tryz.prog 39 #[.agg #[.int .i64 t, .slice F fn fc]] w fun e w' => e = .returned (.int .i64 (chkE fs)) ∧ Below w.heap.size w w' := by
  have hl := h.len
  have hl1 : fs.length ≤ fn := by omega
  have hl2 : fn ≤ fs.length := by omega
  have hcap := h.cap
  have hfew := h.few
  have Fin : Hid (chkE fs = if 16 < fs.length then 3 else chkF fs) := rfl
  have H := Lib.hid h
  have hB1 : Hid (Below w.heap.size w (w.alloc (.cells #[.int .i64 t, .slice F fn fc] 33))) := Lib.hid ((Below.refl _ _).alloc (Nat.le_refl _) _)
  clear hl h
  generalize chkE fs = r at *
  by_cases hbig : 16 < fs.length
  · have hb16 : (16 : Int) < (fn : Int) := by omega
    go_enter Tryz.func39, Tryz.ntmps39
    go_wp2
    go_ret
    exact ⟨by rw [Fin.out, if_pos hbig]; rfl, hB1.out⟩
  · have hb16 : ¬ (16 : Int) < (fn : Int) := by omega
    have Fin2 : Hid (r = chkF (fs.drop 0)) := Lib.hid (by rw [Fin.out, if_neg hbig, List.drop_zero])
    clear Fin hbig
    go_enter Tryz.func39, Tryz.ntmps39
    go_wp2
    go_loopw [12] (fun i wr => ∃ k : Nat, k ≤ fs.length ∧ i = .int .i64 (k : Nat) ∧ Hid (r = chkF (fs.drop k)) ∧ Hid (Below w.heap.size w wr)) (fun i _ => fs.length - (intOf i).toNat)
    case atStart => exact ⟨0, Nat.zero_le _, rfl, Fin2, hB1⟩
    case round =>
      clear Fin2 hB1
      obtain ⟨k, hk, rfl, hR, hB⟩ := hrel
      by_cases hlt : k < fs.length
      · have hkz : (k : Int) < (fn : Int) := by omega
        obtain ⟨b, o, rfl, hbb, cn, ct⟩ := (H.out.keep (w' := wr) (fun b o hp => hB.out.cell (p := ⟨b, o, none⟩) hp)).at_ hlt
        have hsz := H.out.sz _ (List.getElem_mem hlt)
        have hR2 : Hid (r = if isN fs[k].1.data.toList = false then 100 else if 4096 < fs[k].2.size then 2 else chkF (fs.drop (k + 1))) := Lib.hid (by rw [hR.out, drop_at _ _ hlt]; rfl)
        clear hR
        generalize hfk : fs[k] = f at *
        clear hfk
        obtain ⟨nm, tx⟩ := f
        simp only at cn ct hsz hR2
        obtain ⟨hs1, hs2⟩ := hsz
        go_wp2_with fail
        have hbW : Hid (Below w.heap.size w (wr.alloc (.cells #[.string nm, .string tx] 99))) := Lib.hid (hB.out.alloc hB.out.size _)
        have c := name_any nm (wr.alloc (.cells #[.string nm, .string tx] 99)) hs1
        have d1 := (Blk.new wr 99 #[.string nm, .string tx]).cell 1
        have hlt1 : wr.heap.size < (wr.alloc (.cells #[.string nm, .string tx] 99)).heap.size := by simp
        simp only [List.getElem?_toArray, List.getElem?_cons_zero, List.getElem?_cons_succ] at d1
        generalize wr.alloc (.cells #[.string nm, .string tx] 99) = w1 at *
        clear hB cn ct
        refine c.mono ?_
        rintro e w2 ⟨rfl, hb2⟩
        have d2 := (hb2.cell (p := ⟨wr.heap.size, 1, none⟩) hlt1).trans d1
        have hB2 : Hid (Below w.heap.size w w2) := Lib.hid (hbW.out.trans (hb2.mono hbW.out.size))
        clear c d1 hb2 hbW
        by_cases hn : isN nm.data.toList = false
        · rw [hn]
          go_wp2
          go_ret
          exact ⟨by rw [hR2.out, if_pos hn]; rfl, hB2.out⟩
        · have hn2 : isN nm.data.toList = true := by simpa using hn
          rw [hn2]
          by_cases ht : 4096 < tx.size
          · have htz : (4096 : Int) < (tx.size : Int) := by omega
            go_wp2
            go_ret
            exact ⟨by rw [hR2.out, if_neg hn, if_pos ht]; rfl, hB2.out⟩
          · have htz : ¬ (4096 : Int) < (tx.size : Int) := by omega
            have hR3 : Hid (r = chkF (fs.drop (k + 1))) := Lib.hid (by rw [hR2.out, if_neg hn, if_neg ht])
            clear hR2 hn hn2
            go_wp2
            go_roundw
            case rel => exact ⟨k + 1, by omega, by go_num, hR3, hB2⟩
            case measure => simp [intOf]; omega
      · have hkz : ¬ (k : Int) < (fn : Int) := by omega
        go_wp2
        go_ret
        exact ⟨by rw [hR.out, List.drop_eq_nil_of_le (by omega)]; rfl, hB.out⟩
end Go.Proofs.YtlfpfkallgkjdaaGreat.Ev
end

section
/- event.Size, loggiaref10.Check, Size: the walks. -/
namespace Go.Proofs.YtlfpfkallgkjdaaGreat.Ev
open Go.RowKit Go.Proofs.YtlfpfkallgkjdaaGreat Go.Proofs.YtlfpfkallgkjdaaGreat.Ut Go.Proofs.YtlfpfkallgkjdaaGreat.Tk Go.Proofs.YtlfpfkallgkjdaaGreat.Qy
set_option maxRecDepth 20000
set_option linter.unusedVariables false
set_option linter.unusedSimpArgs false

theorem below_dn {B : Nat} (w : World) (n : Nat) : Below B w (w.drewN n) := ⟨rfl, rfl, rfl, Nat.le_refl _, fun _ _ => rfl⟩
theorem szF_at (fs : List Fl) (k : Nat) (h : k < fs.length) : szF (fs.take (k + 1)) = szF (fs.take k) + (fs[k].1.size + fs[k].2.size) := by
  rw [List.take_succ_eq_append_getElem h, szF_snoc]

set_option maxHeartbeats 1600000 in
theorem size_any (t : Int) (F : Option Addr) (fn fc : Nat) (fs : List Fl) (w : World) (h : FlAt w w.heap.size F fn fc fs) (hok : chkE fs = 0) :
    Calls Tryz.prog 95 #[.agg #[.int .i64 t, .slice F fn fc]] w fun e w' => e = .returned (.int .i64 (szE fs)) ∧ Below w.heap.size w w' := by
  have hl := h.len
  have hl1 : fs.length ≤ fn := by omega
  have hl2 : fn ≤ fs.length := by omega
  have hcap := h.cap
  have hsz := szE_le hok
  have Fin : Hid ((szE fs : Int) = ((16 + szF (fs.take fs.length) : Nat) : Int)) := Lib.hid (by rw [List.take_length]; rfl)
  unfold szE at hsz
  have HZ := fun k => szF_take fs k
  have hfew : fn ≤ 16 := by have := (chkE_ok hok).1; omega
  have H := Lib.hid h
  have HZ := Lib.hid HZ
  have hB1 : Hid (Below w.heap.size w (w.alloc (.cells #[.int .i64 t, .slice F fn fc] 33))) := Lib.hid ((Below.refl _ _).alloc (Nat.le_refl _) _)
  clear hl h hok
  generalize szE fs = r at *
  go_enter Tryz.func95, Tryz.ntmps95
  go_wp2
  go_loopw [3, 9] (fun n i wr => ∃ k : Nat, k ≤ fs.length ∧ i = .int .i64 (k : Nat) ∧ n = .int .i64 ((16 + szF (fs.take k) : Nat) : Int) ∧ Hid (Below w.heap.size w wr)) (fun _ i _ => fs.length - (intOf i).toNat)
  case atStart => exact ⟨0, Nat.zero_le _, rfl, rfl, hB1⟩
  case round =>
    clear hB1
    obtain ⟨k, hk, rfl, rfl, hB⟩ := hrel
    by_cases hlt : k < fs.length
    · have hkz : (k : Int) < (fn : Int) := by omega
      obtain ⟨b, o, rfl, hbb, cn, ct⟩ := (H.out.keep (w' := wr) (fun b o hp => hB.out.cell (p := ⟨b, o, none⟩) hp)).at_ hlt
      have hat := szF_at fs k hlt
      have hz1 := HZ.out (k + 1)
      rw [hat] at hz1
      have HAT : Hid (szF (fs.take (k + 1)) = szF (fs.take k) + (fs[k].1.size + fs[k].2.size)) := Lib.hid hat
      clear hat
      generalize hfk : fs[k] = f at *
      clear hfk
      obtain ⟨nm, tx⟩ := f
      simp only at cn ct hz1 HAT
      generalize hzk : szF (fs.take k) = zk at *
      have hB2 : Hid (Below w.heap.size w (wr.alloc (.cells #[.string nm, .string tx] 99))) := Lib.hid (hB.out.alloc hB.out.size _)
      clear hzk
      go_wp2
      go_roundw
      case rel => exact ⟨k + 1, by omega, by go_num, by rw [HAT.out]; go_num, hB2⟩
      case measure => simp [intOf]; omega
    · have hkz : ¬ (k : Int) < (fn : Int) := by omega
      have e : k = fs.length := by omega
      have Fin2 : Hid ((r : Int) = ((16 + szF (fs.take k) : Nat) : Int)) := Lib.hid (by rw [e]; exact Fin.out)
      clear Fin e
      go_wp2
      go_ret
      exact ⟨by rw [Fin2.out]; rfl, hB.out⟩

set_option maxHeartbeats 1600000 in
theorem rcheck_any (t : Int) (F : Option Addr) (fn fc : Nat) (fs : List Fl) (w : World) (h : FlAt w w.heap.size F fn fc fs) :
    Calls Tryz.prog 22 #[.agg #[.int .i64 t, .slice F fn fc]] w fun e w' => e = .returned (.int .i64 (chkE fs)) ∧ Below w.heap.size w w' := by
  have hl := h.len
  have hl1 : fs.length ≤ fn := by omega
  have hl2 : fn ≤ fs.length := by omega
  have hcap := h.cap
  have hfew := h.few
  have Fin : Hid (chkE fs = if 16 < fs.length then 3 else chkF fs) := rfl
  have hB1 : Below w.heap.size w (w.alloc (.cells #[.int .i64 t, .slice F fn fc] 33)) := (Below.refl _ _).alloc (Nat.le_refl _) _
  have hF1 := h.grow hB1
  have hX := (Blk.new w 33 #[.int .i64 t, .slice F fn fc])
  have H := Lib.hid (And.intro hF1 (And.intro hX hB1))
  clear hl h hF1 hX hB1
  generalize chkE fs = r at *
  by_cases hbig : 16 < fs.length
  · have hb16 : (16 : Int) < (fn : Int) := by omega
    go_enter Tryz.func22, Tryz.ntmps22
    go_wp2
    go_ret
    exact ⟨by rw [Fin.out, if_pos hbig]; rfl, H.out.2.2⟩
  · have hb16 : ¬ (16 : Int) < (fn : Int) := by omega
    have Fin2 : Hid (r = chkF (fs.drop 0)) := Lib.hid (by rw [Fin.out, if_neg hbig, List.drop_zero])
    clear Fin hbig
    go_enter Tryz.func22, Tryz.ntmps22
    go_wp2
    generalize w.alloc (.cells #[.int .i64 t, .slice F fn fc] 33) = W0 at *
    go_loopw [3] (fun i wr => ∃ k : Nat, k ≤ fs.length ∧ i = .int .i64 (k : Nat) ∧ Hid (r = chkF (fs.drop k)) ∧ Hid (Below W0.heap.size W0 wr)) (fun i _ => fs.length - (intOf i).toNat)
    case atStart => exact ⟨0, Nat.zero_le _, rfl, Fin2, Lib.hid (Below.refl _ _)⟩
    case round =>
      clear Fin2
      obtain ⟨k, hk, rfl, hR, hB⟩ := hrel
      have d1 := (H.out.2.1.below hB.out H.out.2.1.lt).cell 1
      simp only [List.getElem?_toArray, List.getElem?_cons_zero, List.getElem?_cons_succ] at d1
      have hBw : Hid (Below w.heap.size w wr) := Lib.hid (H.out.2.2.trans (hB.out.mono H.out.2.2.size))
      by_cases hlt : k < fs.length
      · have hkz : (k : Int) < (fn : Int) := by omega
        obtain ⟨b, o, rfl, hbb, cn, ct⟩ := (H.out.1.grow hB.out).at_ hlt
        have hsz := H.out.1.sz _ (List.getElem_mem hlt)
        have hR2 : Hid (r = if isN fs[k].1.data.toList = false then 100 else if 4096 < fs[k].2.size then 2 else chkF (fs.drop (k + 1))) := Lib.hid (by rw [hR.out, drop_at _ _ hlt]; rfl)
        clear hR
        generalize hfk : fs[k] = f at *
        clear hfk
        obtain ⟨nm, tx⟩ := f
        simp only at cn ct hsz hR2
        obtain ⟨hs1, hs2⟩ := hsz
        have c := isName_refB nm wr hs1
        by_cases hn : isN nm.data.toList = false
        · rw [hn] at c
          go_wp2_with fail
          refine c.mono ?_
          rintro e w2 ⟨rfl, rfl⟩
          go_wp2
          go_ret
          exact ⟨by rw [hR2.out, if_pos hn]; rfl, hBw.out⟩
        · have hn2 : isN nm.data.toList = true := by simpa using hn
          rw [hn2] at c
          by_cases ht : 4096 < tx.size
          · have htz : (4096 : Int) < (tx.size : Int) := by omega
            go_wp2_with fail
            refine c.mono ?_
            rintro e w2 ⟨rfl, rfl⟩
            go_wp2
            go_ret
            exact ⟨by rw [hR2.out, if_neg hn, if_pos ht]; rfl, hBw.out⟩
          · have htz : ¬ (4096 : Int) < (tx.size : Int) := by omega
            have hR3 : Hid (r = chkF (fs.drop (k + 1))) := Lib.hid (by rw [hR2.out, if_neg hn, if_neg ht])
            clear hR2 hn hn2
            go_wp2_with fail
            refine c.mono ?_
            rintro e w2 ⟨rfl, rfl⟩
            go_wp2
            go_roundw
            case rel => exact ⟨k + 1, by omega, by go_num, hR3, hB⟩
            case measure => simp [intOf]; omega
      · have hkz : ¬ (k : Int) < (fn : Int) := by omega
        go_wp2
        go_ret
        exact ⟨by rw [hR.out, List.drop_eq_nil_of_le (by omega)]; rfl, hBw.out⟩

set_option maxHeartbeats 1600000 in
theorem rsize_any (t : Int) (F : Option Addr) (fn fc : Nat) (fs : List Fl) (w : World) (h : FlAt w w.heap.size F fn fc fs) (hok : chkE fs = 0) :
    Calls Tryz.prog 97 #[.agg #[.int .i64 t, .slice F fn fc]] w fun e w' => e = .returned (.int .i64 (szE fs)) ∧ Below w.heap.size w w' := by
  have hl := h.len
  have hl1 : fs.length ≤ fn := by omega
  have hl2 : fn ≤ fs.length := by omega
  have hcap := h.cap
  have hsz := szE_le hok
  have Fin : Hid ((szE fs : Int) = ((16 + szF (fs.take fs.length) : Nat) : Int)) := Lib.hid (by rw [List.take_length]; rfl)
  unfold szE at hsz
  have HZ := fun k => szF_take fs k
  have hfew : fn ≤ 16 := by have := (chkE_ok hok).1; omega
  have HZ := Lib.hid HZ
  have hB1 : Below w.heap.size w (w.alloc (.cells #[.int .i64 t, .slice F fn fc] 33)) := (Below.refl _ _).alloc (Nat.le_refl _) _
  have hF1 := h.grow hB1
  have hX := (Blk.new w 33 #[.int .i64 t, .slice F fn fc])
  have H := Lib.hid (And.intro hF1 (And.intro hX hB1))
  clear hl h hok hF1 hX hB1
  generalize szE fs = r at *
  go_enter Tryz.func97, Tryz.ntmps97
  go_wp2
  generalize w.alloc (.cells #[.int .i64 t, .slice F fn fc] 33) = W0 at *
  go_loopw [3, 4] (fun n i wr => ∃ k : Nat, k ≤ fs.length ∧ i = .int .i64 (k : Nat) ∧ n = .int .i64 ((16 + szF (fs.take k) : Nat) : Int) ∧ Hid (Below W0.heap.size W0 wr)) (fun _ i _ => fs.length - (intOf i).toNat)
  case atStart => exact ⟨0, Nat.zero_le _, rfl, rfl, Lib.hid (Below.refl _ _)⟩
  case round =>
    obtain ⟨k, hk, rfl, rfl, hB⟩ := hrel
    have d1 := (H.out.2.1.below hB.out H.out.2.1.lt).cell 1
    simp only [List.getElem?_toArray, List.getElem?_cons_zero, List.getElem?_cons_succ] at d1
    by_cases hlt : k < fs.length
    · have hkz : (k : Int) < (fn : Int) := by omega
      have hk0 : (0 : Int) ≤ (k : Int) := by omega
      obtain ⟨b, o, rfl, hbb, cn, ct⟩ := (H.out.1.grow hB.out).at_ hlt
      have hat := szF_at fs k hlt
      have hz1 := HZ.out (k + 1)
      rw [hat] at hz1
      have HAT : Hid (szF (fs.take (k + 1)) = szF (fs.take k) + (fs[k].1.size + fs[k].2.size)) := Lib.hid hat
      clear hat
      generalize hfk : fs[k] = f at *
      clear hfk
      obtain ⟨nm, tx⟩ := f
      simp only at cn ct hz1 HAT
      generalize hzk : szF (fs.take k) = zk at *
      clear hzk
      have p1 : IntKind.i64.wrap (16 + (zk : Int) + (nm.size : Int)) = 16 + (zk : Int) + (nm.size : Int) := by rw [IntKind.wrap_i64]; omega
      have p2 : IntKind.i64.wrap (16 + (zk : Int) + (nm.size : Int) + (tx.size : Int)) = 16 + (zk : Int) + (nm.size : Int) + (tx.size : Int) := by rw [IntKind.wrap_i64]; omega
      go_wp2
      go_quiet (fail)
      clear p1 p2
      have hB2 : Hid (Below W0.heap.size W0 (wr.drewN nq)) := Lib.hid (hB.out.trans (below_dn wr nq))
      clear hB d1 cn ct
      generalize wr.drewN nq = w2 at *
      go_wp2
      go_roundw
      case rel => exact ⟨k + 1, by omega, by go_num, by rw [HAT.out]; go_num, hB2⟩
      case measure => simp [intOf]; omega
    · have hkz : ¬ (k : Int) < (fn : Int) := by omega
      have e : k = fs.length := by omega
      have Fin2 : Hid ((r : Int) = ((16 + szF (fs.take k) : Nat) : Int)) := Lib.hid (by rw [e]; exact Fin.out)
      clear Fin e
      go_wp2
      go_ret
      exact ⟨by rw [Fin2.out]; rfl, H.out.2.2.trans (hB.out.mono H.out.2.2.size)⟩
end Go.Proofs.YtlfpfkallgkjdaaGreat.Ev
end
