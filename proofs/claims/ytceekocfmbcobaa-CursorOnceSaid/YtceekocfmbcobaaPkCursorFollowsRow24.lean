/- What is read of pieces is not too great: plain. -/
import Derived.Defers
import Derived.Recover
import Derived.Test.YtceekocfmbcobaaQpKPk
section
namespace Go.Proofs.Ytceekocfmbcobaa.Qp
open Go.RowKit Go.Proofs.Ytceekocfmbcobaa Go.Proofs.Ytceekocfmbcobaa.Ut Go.Proofs.Ytceekocfmbcobaa.Tk Go.Proofs.Ytceekocfmbcobaa.Qy

theorem words_few (s : P) : (words s).length ≤ s.length := by
  have := words_len (str s)
  rw [str_data, ← bsize, str_data] at this
  exact this
theorem wordsQ_w (nm : P) (l : List P) (q : Q) (hl : l.length ≤ 1048576) (h : wordsQ nm l = some q) : QW 1 q := by
  unfold wordsQ at h
  split at h
  · cases h
  · split at h
    · injection h with h
      subst h
      exact .mk (by rw [List.length_map]; omega) (by simp) (by simp)
    · injection h with h
      subst h
      exact .mk (by rw [List.length_map]; omega) (by simp) (by simp)
theorem rest_len (s : P) : (restOf s).length ≤ s.length := by
  unfold restOf
  split
  · rw [List.length_drop]; omega
  · exact Nat.le_refl _
theorem leafQ_w (s : P) (q : Q) (hl : s.length ≤ 1048576) (h : leafQ s = some q) : QW 1 q := by
  unfold leafQ at h
  have hr := rest_len s
  split at h
  · injection h with h
    subst h
    exact .mk (by simp) (by simp) (by simp)
  · split at h
    · cases h
    · split at h
      · refine wordsQ_w _ _ q ?_ h
        have := words_few (((restOf s).take ((restOf s).length - 1)).drop 1)
        rw [List.length_drop, List.length_take] at this
        omega
      · split at h
        · split at h
          · injection h with h
            subst h
            exact .mk (by simp) (by simp) (by simp)
          · split at h
            · injection h with h
              subst h
              have := words_few (restOf s).dropLast
              rw [List.length_dropLast] at this
              exact .mk (by rw [List.length_map]; omega) (by simp) (by simp)
            · cases h
        · refine wordsQ_w _ _ q ?_ h
          have := words_few (restOf s)
          omega
theorem oneQ_w (k : Int) (a : List Q) (K : Nat) (hl : a.length ≤ 8796093021952) (h : ∀ x ∈ a, QW K x) : QW (K + 1) (oneQ k a) := by
  match a, hl, h with
  | [q], _, h => exact (h q (by simp)).more _ (by omega)
  | [], hl, h => exact .mk (by simp) hl h
  | q :: q' :: a, hl, h => exact .mk (by simp) hl h
/-- What is read of so many pieces. -/
def Wide (m : Md) (l : List P) (q : Q) : Prop :=
  match m with
  | .part => ∀ K, 4 * l.length ≤ K + 3 → QW K q
  | .and a => ∀ K, 4 * l.length ≤ K + 3 → (∀ x ∈ a, QW K x) → a.length + l.length ≤ 1048577 → QW (K + 1) q
  | .andT a => ∀ K, 4 * l.length ≤ K + 3 → (∀ x ∈ a, QW K x) → a.length + l.length ≤ 1048577 → QW (K + 1) q
  | .or a => ∀ K, 4 * l.length ≤ K + 3 → (∀ x ∈ a, QW (K + 1) x) → a.length + l.length ≤ 1048577 → QW (K + 2) q
  | .orT a => ∀ K, 4 * l.length ≤ K + 3 → (∀ x ∈ a, QW (K + 1) x) → a.length + l.length ≤ 1048577 → QW (K + 2) q
theorem R.wide {m : Md} {l : List P} {o : Option (Q × List P)} (h : R m l o) (hp : ∀ x ∈ l, x.length ≤ 1048576) (hm : l.length ≤ 1048576) : ∀ q r, o = some (q, r) → Wide m l q := by
  induction h with
  | pnil => intro q r e; cases e
  | pnot hs h ih =>
    intro q r e K hK
    obtain ⟨⟨q', r'⟩, h1, h2⟩ := Option.map_eq_some_iff.1 e
    simp only [Prod.mk.injEq] at h2
    obtain ⟨rfl, _⟩ := h2
    rw [List.length_cons] at hK hm
    have := ih (fun x hx => hp x (by simp [hx])) (by omega) q' r' h1
    obtain ⟨K2, rfl⟩ : ∃ K2, K = K2 + 1 := ⟨K - 1, by omega⟩
    exact .mk (by simp) (by simp) fun x hx => by rw [List.mem_singleton] at hx; rw [hx]; exact this K2 (by omega)
  | @plp s t o hs h ih =>
    intro q r e K hK
    match o, e, h, ih with
    | some (q', s' :: r'), e, h, ih =>
      by_cases hp' : s' = RP
      · have e2 : closed (some (q', s' :: r')) = some (q', r') := if_pos hp'
        rw [e2] at e
        simp only [Option.some.injEq, Prod.mk.injEq] at e
        obtain ⟨rfl, _⟩ := e
        rw [List.length_cons] at hK hm
        obtain ⟨k, hk1, hk2, hk3⟩ := h.less _ _ rfl
        have hk4 : 1 ≤ k := hk3 (.inr (.inr ⟨_, rfl⟩))
        have := ih (fun x hx => hp x (by simp [hx])) (by omega) q' _ rfl (4 * t.length - 3) (by omega) (by simp) (by simp; omega)
        exact this.more _ (by omega)
      · have e2 : closed (some (q', s' :: r')) = none := if_neg hp'
        rw [e2] at e
        cases e
    | some (q', []), e, _, _ => cases e
    | none, e, _, _ => cases e
  | pbad hs => intro q r e; cases e
  | pleaf hs =>
    intro q r e K hK
    obtain ⟨q', h1, h2⟩ := Option.map_eq_some_iff.1 e
    simp only [Prod.mk.injEq] at h2
    obtain ⟨rfl, _⟩ := h2
    rw [List.length_cons] at hK
    exact (leafQ_w _ _ (hp _ (by simp)) h1).more _ (by omega)
  | and0 h ih => intro q r e; cases e
  | and1 h h2 ih ih2 =>
    intro q r e K hK ha hn
    obtain ⟨k, rfl, hk, h1⟩ := h.less _ _ rfl
    have hk1 := h1 (.inl rfl)
    have hq := ih hp hm _ _ rfl K hK
    rw [List.length_drop] at ih2
    have := ih2 (fun x hx => hp x (List.mem_of_mem_drop hx)) (by omega) q r e K (by rw [List.length_drop]; omega) (fun x hx => by
      rcases List.mem_append.1 hx with hx | hx
      · exact ha x hx
      · rw [List.mem_singleton] at hx; rw [hx]; exact hq) (by rw [List.length_append, List.length_singleton, List.length_drop]; omega)
    exact this
  | andE h =>
    intro q r e K hK ha hn
    simp only [Option.some.injEq, Prod.mk.injEq] at e
    obtain ⟨rfl, _⟩ := e
    exact oneQ_w _ _ K (by omega) ha
  | andA hs h ih =>
    intro q r e K hK ha hn
    rw [List.length_cons] at hK hm hn
    exact ih (fun x hx => hp x (by simp [hx])) (by omega) q r e K (by omega) ha (by omega)
  | andN hs hn h ih =>
    intro q r e K hK ha hn
    exact ih hp hm q r e K hK ha hn
  | or0 h ih => intro q r e; cases e
  | or1 h h2 ih ih2 =>
    intro q r e K hK ha hn
    obtain ⟨k, rfl, hk, h1⟩ := h.less _ _ rfl
    have hk1 := h1 (.inr (.inl ⟨_, rfl⟩))
    have hq := ih hp hm _ _ rfl K hK (by simp) (by simp; omega)
    rw [List.length_drop] at ih2
    exact ih2 (fun x hx => hp x (List.mem_of_mem_drop hx)) (by omega) q r e K (by rw [List.length_drop]; omega) (fun x hx => by
      rcases List.mem_append.1 hx with hx | hx
      · exact ha x hx
      · rw [List.mem_singleton] at hx; rw [hx]; exact hq) (by rw [List.length_append, List.length_singleton, List.length_drop]; omega)
  | orE h =>
    intro q r e K hK ha hn
    simp only [Option.some.injEq, Prod.mk.injEq] at e
    obtain ⟨rfl, _⟩ := e
    exact oneQ_w _ _ (K + 1) (by omega) ha
  | orO hs h ih =>
    intro q r e K hK ha hn
    rw [List.length_cons] at hK hm hn
    exact ih (fun x hx => hp x (by simp [hx])) (by omega) q r e K (by omega) ha (by omega)
/-- What is read of a text. -/
theorem or_wide {l : List P} {q : Q} {r : List P} (h : R (.or []) l (some (q, r))) (hp : ∀ x ∈ l, x.length ≤ 1048576) (hm : l.length ≤ 1048576) : ∃ K, K ≤ 16777216 ∧ QW K q :=
  ⟨4 * l.length + 2, by omega, h.wide hp hm q r rfl (4 * l.length) (by omega) (by simp) (by simp; omega)⟩
/-- A text's query, or why there is none: 0, or the error's number. -/
inductive PrsR : P → Int → Option Q → Prop
  | long {s} (h : 1024 < s.length) : PrsR s 2 none
  | noPieces {s} (h : s.length ≤ 1024) (hp : pieces s = none) : PrsR s 170 none
  | bad {s l} (h : s.length ≤ 1024) (hp : pieces s = some l) (hr : R (.or []) l none) : PrsR s 170 none
  | left {s l q r} (h : s.length ≤ 1024) (hp : pieces s = some l) (hr : R (.or []) l (some (q, r))) (hl : r ≠ []) : PrsR s 170 none
  | many {s l q} (h : s.length ≤ 1024) (hp : pieces s = some l) (hr : R (.or []) l (some (q, []))) (hm : manyB q = true) : PrsR s 3 none
  | deep {s l q} (h : s.length ≤ 1024) (hp : pieces s = some l) (hr : R (.or []) l (some (q, []))) (hm : manyB q = false) (hd : 16 < depthN q) : PrsR s 171 none
  | ok {s l q} (h : s.length ≤ 1024) (hp : pieces s = some l) (hr : R (.or []) l (some (q, []))) (hm : manyB q = false) (hd : depthN q ≤ 16) : PrsR s 0 (some q)
theorem PrsR.det {s : P} {e e' : Int} {o o' : Option Q} (h : PrsR s e o) (h' : PrsR s e' o') : e = e' ∧ o = o' := by
  have key : ∀ {l l' : List P} {x x' : Option (Q × List P)}, pieces s = some l → pieces s = some l' → R (.or []) l x → R (.or []) l' x' → x = x' := fun hp hp' hr hr' => by
    rw [hp] at hp'
    injection hp' with hp'
    subst hp'
    exact hr.det _ hr'
  cases h with
  | long h => cases h' with
    | long _ => exact ⟨rfl, rfl⟩
    | _ => omega
  | noPieces h hp => cases h' with
    | long _ => omega
    | noPieces _ _ => exact ⟨rfl, rfl⟩
    | bad _ _ _ => exact ⟨rfl, rfl⟩
    | left _ _ _ _ => exact ⟨rfl, rfl⟩
    | many _ hp' _ _ => rw [hp] at hp'; cases hp'
    | deep _ hp' _ _ _ => rw [hp] at hp'; cases hp'
    | ok _ hp' _ _ _ => rw [hp] at hp'; cases hp'
  | bad h hp hr => cases h' with
    | long _ => omega
    | noPieces _ _ => exact ⟨rfl, rfl⟩
    | bad _ _ _ => exact ⟨rfl, rfl⟩
    | left _ _ _ _ => exact ⟨rfl, rfl⟩
    | many _ hp' hr' _ => exact absurd (key hp hp' hr hr') (by simp)
    | deep _ hp' hr' _ _ => exact absurd (key hp hp' hr hr') (by simp)
    | ok _ hp' hr' _ _ => exact absurd (key hp hp' hr hr') (by simp)
  | left h hp hr hl => cases h' with
    | long _ => omega
    | noPieces _ _ => exact ⟨rfl, rfl⟩
    | bad _ _ _ => exact ⟨rfl, rfl⟩
    | left _ _ _ _ => exact ⟨rfl, rfl⟩
    | many _ hp' hr' _ => have := key hp hp' hr hr'; simp at this; exact absurd this.2 hl
    | deep _ hp' hr' _ _ => have := key hp hp' hr hr'; simp at this; exact absurd this.2 hl
    | ok _ hp' hr' _ _ => have := key hp hp' hr hr'; simp at this; exact absurd this.2 hl
  | many h hp hr hm => cases h' with
    | long _ => omega
    | noPieces _ hp' => rw [hp] at hp'; cases hp'
    | bad _ hp' hr' => exact absurd (key hp hp' hr hr') (by simp)
    | left _ hp' hr' hl => have := key hp hp' hr hr'; simp at this; exact absurd this.2 hl
    | many _ _ _ _ => exact ⟨rfl, rfl⟩
    | deep _ hp' hr' hm' _ => have := key hp hp' hr hr'; simp at this; subst this; rw [hm] at hm'; cases hm'
    | ok _ hp' hr' hm' _ => have := key hp hp' hr hr'; simp at this; subst this; rw [hm] at hm'; cases hm'
  | deep h hp hr hm hd => cases h' with
    | long _ => omega
    | noPieces _ hp' => rw [hp] at hp'; cases hp'
    | bad _ hp' hr' => exact absurd (key hp hp' hr hr') (by simp)
    | left _ hp' hr' hl => have := key hp hp' hr hr'; simp at this; exact absurd this.2 hl
    | many _ hp' hr' hm' => have := key hp hp' hr hr'; simp at this; subst this; rw [hm] at hm'; cases hm'
    | deep _ _ _ _ _ => exact ⟨rfl, rfl⟩
    | ok _ hp' hr' _ hd' => have := key hp hp' hr hr'; simp at this; subst this; omega
  | ok h hp hr hm hd => cases h' with
    | long _ => omega
    | noPieces _ hp' => rw [hp] at hp'; cases hp'
    | bad _ hp' hr' => exact absurd (key hp hp' hr hr') (by simp)
    | left _ hp' hr' hl => have := key hp hp' hr hr'; simp at this; exact absurd this.2 hl
    | many _ hp' hr' hm' => have := key hp hp' hr hr'; simp at this; subst this; rw [hm] at hm'; cases hm'
    | deep _ hp' hr' _ hd' => have := key hp hp' hr hr'; simp at this; subst this; omega
    | ok _ hp' hr' _ _ => have := key hp hp' hr hr'; simp at this; subst this; exact ⟨rfl, rfl⟩
end Go.Proofs.Ytceekocfmbcobaa.Qp
end

section
/- qparse.Parse's deferred closure: its two contracts. -/
namespace Go.Proofs.Ytceekocfmbcobaa.Qp
open Go.RowKit Go.Proofs.Ytceekocfmbcobaa Go.Proofs.Ytceekocfmbcobaa.Ut Go.Proofs.Ytceekocfmbcobaa.Tk Go.Proofs.Ytceekocfmbcobaa.Qy
set_option maxRecDepth 20000
set_option linter.unusedSimpArgs false

theorem bad_is (v : Value) (xT : TypeId) (w : World) : (Instr.typeAssert (.iface 80 v) xT 80 true).run Try.prog w = .ok (.tuple #[v, .bool true]) w := by
  have hu := Try.underlying80
  simp [Instr.typeAssert, run_underlying hu, go_sem, Result.andThen]
theorem catch_idle (p1 p2 : Addr) (w : World) :
    CallsD Try.prog 33 #[.pointer (some p1), .pointer (some p2)] .returning w fun e u' w' => e = .returned (.tuple #[]) ∧ u' = .returning ∧ w' = w := by
  refine callsD_of_wpS Try.func33 rfl fun c₀ cs hu => ?_
  apply wpS_seq
  apply wpS_region
  simp [wpOpsS, go_sem, recoverD, hu, Try.ntmps33, Exit.thenS]
  refine wpS_of_wp ?_
  go_wp2
  cases c₀
  simp_all [bodyPostS, results, Try.results33]
set_option maxHeartbeats 1600000 in
theorem catch_bad (b1 b2 : Nat) (x0 x1 x2 x3 x4 : Value) (z : Int) (older : List PanicEntry) (w : World)
    (h1 : Blk w b1 29 #[x0, x1, x2, x3]) (h2 : Blk w b2 30 #[x4]) :
    CallsD Try.prog 33 #[.pointer (some ⟨b1, 0, none⟩), .pointer (some ⟨b2, 0, none⟩)] (.panicking ({ v := .iface 80 (.agg #[.int .i64 z]), recovered := false } :: older)) w fun e u' w' =>
      e = .returned (.tuple #[]) ∧ u' = .panicking ({ v := .iface 80 (.agg #[.int .i64 z]), recovered := true } :: older) ∧
      Blk w' b1 29 #[.int .i64 0, .string ⟨#[]⟩, .slice none 0 0, .slice none 0 0] ∧ Blk w' b2 30 #[.int .i64 z] ∧ (∀ B, B ≤ b1 → B ≤ b2 → B ≤ w.heap.size → Below B w w') := by
  refine callsD_of_wpS Try.func33 rfl fun c₀ cs hu => ?_
  apply wpS_seq
  apply wpS_region
  simp [wpOpsS, go_sem, recoverD, hu, Try.ntmps33, Exit.thenS]
  refine wpS_of_wp ?_
  obtain ⟨q0, q1, q2, q3, f0, f1, f2, f3⟩ := h1.four
  have q4 := h2.cell 0
  have f4 := h2.frozen 0
  simp at q4
  have hta := bad_is
  have hl1 := h1.lt
  have hl2 := h2.lt
  have hne := h1.ne_ h2 (by decide)
  have hne1 : b1 ≠ w.heap.size := by omega
  have hne2 : b2 ≠ w.heap.size := by omega
  have H1 := Lib.hid h1
  have H2 := Lib.hid h2
  clear h1 h2
  simp only [show Array.replicate 12 undef = #[undef, undef, undef, undef, undef, undef, undef, undef, undef, undef, undef, undef] from rfl, List.setIfInBounds_toArray, List.set_cons_succ, List.set_cons_zero, List.append_toArray, List.cons_append, List.nil_append]
  go_wp2
  go_region
  have g1 := (((H1.out.set4 (.int .i64 0) (.string ⟨#[]⟩) (.slice none 0 0) (.slice none 0 0)).far (p := ⟨b2, 0, none⟩) hne (.int .i64 z)).alloc (.cells #[.int .i64 z] 80)).drew
  have g2 : Blk (set4 w b1 (.int .i64 0) (.string ⟨#[]⟩) (.slice none 0 0) (.slice none 0 0)) b2 30 #[x4] := (set4_other w b1 b2 _ _ _ _ (fun e => hne e.symm)).trans H2.out
  have g3 := ((g2.set_ 0 (.int .i64 z)).alloc (.cells #[.int .i64 z] 80)).drew
  have g4 : ∀ B, B ≤ b1 → B ≤ b2 → B ≤ w.heap.size → Below B w (((set4 w b1 (.int .i64 0) (.string ⟨#[]⟩) (.slice none 0 0) (.slice none 0 0)).setCell ⟨b2, 0, none⟩ (.int .i64 z)).alloc (.cells #[.int .i64 z] 80)).drew := fun B h1 h2 h3 =>
    ((((below_set4 (Below.refl B w) h1 _ _ _ _).setCell (p := ⟨b2, 0, none⟩) h2 _).alloc (by simpa [World.setCell, set4_size] using h3) _).drew)
  unfold set4 at g1 g3 g4
  generalize (World.alloc _ (.cells #[.int .i64 z] 80)).drew = X at *
  rename_i QQ
  simp [QQ, Exit.inBlock, bodyPostS, results, Try.results33]
  exact ⟨g1, by simpa using g3, g4⟩
end Go.Proofs.Ytceekocfmbcobaa.Qp
end
