/- Docs, as they lie in memory: rows that came in, rows of the call's own. -/
import Derived.Test.YtlfpfkallgkjdaaGreatProg
import Derived.Lib.Hide
import Derived.Test.YtlfpfkallgkjdaaGreatPkAlertManyRow1
import Derived.Test.YtlfpfkallgkjdaaGreatPkAlertManyRow4
section
namespace Go.Proofs.YtlfpfkallgkjdaaGreat.Qy
open Go.RowKit Go.Proofs.YtlfpfkallgkjdaaGreat

/-- A doc: its number, its time, its fields. -/
structure Dc where
  seq : Int
  at_ : Int
  fs : List (ByteArray × ByteArray)
/-- A doc's three cells, and its fields. -/
def DcV (w : World) (B : Nat) (d : Dc) (v : List Value) : Prop := ∃ F fn fc, v = [.int .i64 d.seq, .int .i64 d.at_, .slice F fn fc] ∧ Reads w B 2 F fn (fldC d.fs) ∧ d.fs.length = fn ∧ fn ≤ 8796093021952 ∧ fn ≤ fc ∧ (F = none → fc = 0)
theorem DcV.len {w : World} {B : Nat} {d : Dc} {v : List Value} (h : DcV w B d v) : v.length = 3 := by obtain ⟨F, fn, fc, rfl, _⟩ := h; rfl
theorem DcV.keep {w w' : World} {B : Nat} {d : Dc} {v : List Value} (h : DcV w B d v) (hk : ∀ b o, b < B → w'.cell? ⟨b, o, none⟩ = w.cell? ⟨b, o, none⟩) : DcV w' B d v := by
  obtain ⟨F, fn, fc, e, h1, h2⟩ := h
  exact ⟨F, fn, fc, e, h1.keep hk, h2⟩
theorem DcV.more {w : World} {B B' : Nat} {d : Dc} {v : List Value} (h : DcV w B d v) (hB : B ≤ B') : DcV w B' d v := by
  obtain ⟨F, fn, fc, e, h1, h2⟩ := h
  exact ⟨F, fn, fc, e, h1.more hB, h2⟩
/-- A row of docs. -/
structure DocsAt (w : World) (B : Nat) (A : Option Addr) (n : Nat) (ds : List Dc) : Prop where
  ln : ds.length = n
  ex : ∃ vss : List (List Value), vss.length = n ∧ Reads w B 3 A n vss.flatten ∧ ∀ i (h : i < ds.length) (h' : i < vss.length), DcV w B ds[i] vss[i]
theorem DocsAt.keep {w w' : World} {B n : Nat} {A : Option Addr} {ds : List Dc} (h : DocsAt w B A n ds) (hk : ∀ b o, b < B → w'.cell? ⟨b, o, none⟩ = w.cell? ⟨b, o, none⟩) : DocsAt w' B A n ds := by
  obtain ⟨vss, h1, h2, h3⟩ := h.ex
  exact ⟨h.ln, vss, h1, h2.keep hk, fun i a b => (h3 i a b).keep hk⟩
theorem DocsAt.more {w : World} {B B' n : Nat} {A : Option Addr} {ds : List Dc} (h : DocsAt w B A n ds) (hB : B ≤ B') : DocsAt w B' A n ds := by
  obtain ⟨vss, h1, h2, h3⟩ := h.ex
  exact ⟨h.ln, vss, h1, h2.more hB, fun i a b => (h3 i a b).more hB⟩
theorem DocsAt.grow {w w' : World} {n : Nat} {A : Option Addr} {ds : List Dc} (h : DocsAt w w.heap.size A n ds) (hb : Below w.heap.size w w') : DocsAt w' w'.heap.size A n ds := (h.keep fun _ _ hp => hb.cell hp).more hb.size
theorem DocsAt.nil {w : World} {B : Nat} {A : Option Addr} : DocsAt w B A 0 [] := ⟨rfl, [], rfl, ⟨by simp, fun h => absurd h (by omega)⟩, fun i h => absurd h (by simp)⟩
/-- The i-th doc. -/
theorem DocsAt.at_ {w : World} {B n : Nat} {A : Option Addr} {ds : List Dc} (h : DocsAt w B A n ds) {i : Nat} (hi : i < ds.length) :
    ∃ b o F fn fc, A = some ⟨b, o, none⟩ ∧ b < B ∧ w.cell? ⟨b, o + i * 3, none⟩ = some (.int .i64 ds[i].seq) ∧ w.cell? ⟨b, o + i * 3 + 1, none⟩ = some (.int .i64 ds[i].at_) ∧ w.cell? ⟨b, o + i * 3 + 2, none⟩ = some (.slice F fn fc) ∧
      Reads w B 2 F fn (fldC ds[i].fs) ∧ ds[i].fs.length = fn ∧ fn ≤ 8796093021952 ∧ fn ≤ fc ∧ (F = none → fc = 0) := by
  obtain ⟨vss, h1, h2, h3⟩ := h.ex
  have hl := h.ln
  have hi' : i < vss.length := by omega
  have h4 : ∀ v ∈ vss, v.length = 3 := fun v hv => by
    obtain ⟨j, hj, rfl⟩ := List.mem_iff_getElem.1 hv
    exact (h3 j (by omega) hj).len
  obtain ⟨F, fn, fc, e, g1, g2, g3, g4⟩ := h3 i hi hi'
  obtain ⟨b, o, eA, hb, hc⟩ := h2.2 (by omega)
  have f0 := flat_get h4 i 0 hi' (by omega)
  have f1 := flat_get h4 i 1 hi' (by omega)
  have f2 := flat_get h4 i 2 hi' (by omega)
  rw [e] at f0 f1 f2
  have c0 := hc _ _ f0
  have c1 := hc _ _ f1
  have c2 := hc _ _ f2
  rw [← Nat.add_assoc] at c1 c2
  exact ⟨b, o, F, fn, fc, eA, hb, c0, c1, c2, g1, g2, g3, g4⟩

/-- The fields of a doc do not lie in the row of docs that is being built. -/
def Far (w : World) (base : Nat) (v : List Value) : Prop := ∀ F fn fc, v[2]? = some (.slice F fn fc) → 0 < fn → ∃ b o, F = some ⟨b, o, none⟩ ∧ (b < base ∨ ∃ cs fr, w.heap[b]? = some (.cells cs 99 fr))
/-- Docs of the call's own. -/
structure DocsOwn (w wr : World) (v : Value) (ds : List Dc) : Prop where
  ex : ∃ vss : List (List Value), vss.length = ds.length ∧ wr.ownsRow w.heap.size 132 3 v ds.length vss.flatten ∧ ∀ i (h : i < ds.length) (h' : i < vss.length), DcV wr wr.heap.size ds[i] vss[i] ∧ Far wr w.heap.size vss[i]
  bel : Below w.heap.size w wr
theorem DocsOwn.start (w : World) : DocsOwn w w (.slice none 0 0) [] := ⟨⟨[], rfl, World.ownsRow_nil _ _ _ _, fun i h => absurd h (by simp)⟩, Below.refl _ _⟩
theorem Far.grown {w w' : World} {base : Nat} {v : List Value} {row : Option Nat} (h : Far w base v) (hg : w.grownBy w' row) (hr : ∀ b, row = some b → base ≤ b ∧ ∀ cs fr, w.heap[b]? ≠ some (.cells cs 99 fr)) : Far w' base v := by
  intro F fn fc hv hn
  obtain ⟨b, o, e, h1 | ⟨cs, fr, h1⟩⟩ := h F fn fc hv hn
  · exact ⟨b, o, e, .inl h1⟩
  · refine ⟨b, o, e, .inr ⟨cs, fr, ?_⟩⟩
    have hlt : b < w.heap.size := (Array.getElem?_eq_some_iff.1 h1).1
    rw [hg.block b hlt (fun er => (hr b er.symm).2 cs fr h1)]
    exact h1
theorem Far.below {w w' : World} {base : Nat} {v : List Value} (h : Far w base v) (hb : Below w.heap.size w w') : Far w' base v := h.grown (grow_of_below hb none) (fun b e => by cases e)
theorem DocsOwn.below {w wr w2 : World} {v : Value} {ds : List Dc} (h : DocsOwn w wr v ds) (hb : Below wr.heap.size wr w2) : DocsOwn w w2 v ds := by
  obtain ⟨vss, h1, h2, h3⟩ := h.ex
  exact ⟨⟨vss, h1, h2.kept (grow_of_below hb none) (by cases hv : v.ownBlock <;> simp), fun i a b => ⟨((h3 i a b).1.keep fun _ _ hp => hb.cell hp).more hb.size, (h3 i a b).2.below hb⟩⟩, h.bel.trans (hb.mono h.bel.size)⟩
/-- The row's own block, if it has one. -/
theorem own_block {w : World} {base : Nat} {e : TypeId} {size n : Nat} {v : Value} {xs : List Value} (h : w.ownsRow base e size v n xs) : ∀ b, v.ownBlock = some b → base ≤ b ∧ ∃ cur, w.heap[b]? = some (.cells cur e (0, 0)) := by
  intro b hb
  rcases h.2 with ⟨rfl, _⟩ | ⟨g, cap, cur, rfl, h1, h2, _⟩
  · cases hb
  · injection hb with hb
    subst hb
    exact ⟨h1, cur, h2⟩
theorem DocsOwn.put {w wr w2 : World} {v v' : Value} {ds : List Dc} {d : Dc} {u : List Value} {xs : List Value} (h : DocsOwn w wr v ds) (hx : ∃ vss : List (List Value), vss.length = ds.length ∧ wr.ownsRow w.heap.size 132 3 v ds.length vss.flatten ∧ (∀ i (h : i < ds.length) (h' : i < vss.length), DcV wr wr.heap.size ds[i] vss[i] ∧ Far wr w.heap.size vss[i]) ∧ xs = vss.flatten)
    (hp : w2.ownsRow w.heap.size 132 3 v' (ds.length + 1) (xs ++ u)) (hg : wr.grownBy w2 v.ownBlock) (hd : DcV wr wr.heap.size d u) (hf : Far wr w.heap.size u) : DocsOwn w w2 v' (ds ++ [d]) := by
  obtain ⟨vss, h1, h2, h3, rfl⟩ := hx
  have hown := own_block h2
  have hr : ∀ b, v.ownBlock = some b → w.heap.size ≤ b ∧ ∀ cs fr, wr.heap[b]? ≠ some (.cells cs 99 fr) := fun b hb => by
    obtain ⟨h4, cur, h5⟩ := hown b hb
    refine ⟨h4, fun cs fr e => ?_⟩
    rw [h5] at e
    injection e with e
    injection e with _ e
    exact absurd e (by decide)
  -- a doc's fields read as before
  have keep : ∀ (d : Dc) (u : List Value), DcV wr wr.heap.size d u → Far wr w.heap.size u → DcV w2 w2.heap.size d u := fun d u hd hf => by
    obtain ⟨F, fn, fc, rfl, g1, g2, g3, g4⟩ := hd
    refine ⟨F, fn, fc, rfl, (g1.grown hg (Nat.le_refl _) ?_).more hg.size, g2, g3, g4⟩
    intro b o e hn er
    obtain ⟨b', o', e', h4⟩ := hf F fn fc rfl hn
    rw [e] at e'
    injection e' with e'
    injection e' with e1 e2
    subst e1
    obtain ⟨h5, h6⟩ := hr b er.symm
    rcases h4 with h4 | ⟨cs, fr, h4⟩
    · omega
    · exact h6 cs fr h4
  refine ⟨⟨vss ++ [u], by simp [h1], ?_, fun i a b => ?_⟩, h.bel.grown hg h.bel.size (fun k hk => (hr k hk).1)⟩
  · rw [List.flatten_append, List.length_append]
    simpa using hp
  · by_cases hi : i < ds.length
    · rw [List.getElem_append_left hi, List.getElem_append_left (by omega)]
      have := h3 i hi (by omega)
      exact ⟨keep _ _ this.1 this.2, this.2.grown hg hr⟩
    · have hi' : i = ds.length := by simp at a; omega
      subst hi'
      rw [List.getElem_append_right (by omega), List.getElem_append_right (by omega)]
      simp only [Nat.sub_self, h1, List.getElem_cons_zero]
      exact ⟨keep _ _ hd hf, hf.grown hg hr⟩
theorem DocsOwn.read {w wr : World} {v : Value} {ds : List Dc} (h : DocsOwn w wr v ds) : ∃ A c, v = .slice A ds.length c ∧ DocsAt wr wr.heap.size A ds.length ds := by
  obtain ⟨vss, h1, h2, h3⟩ := h.ex
  obtain ⟨A, c, e, hR⟩ := own_shape h2
  exact ⟨A, c, e, rfl, vss, h1, hR, fun i a b => (h3 i a b).1⟩
end Go.Proofs.YtlfpfkallgkjdaaGreat.Qy
end

section
/- The reference's runes: more, row, Decode, by the same plain words. -/
namespace Go.Proofs.YtlfpfkallgkjdaaGreat.Ut
open Go.RowKit
set_option maxRecDepth 20000

theorem more_no (s : ByteArray) (p n : Nat) (w : World) (h : s.size ≤ p) : Calls Tryz.prog 194 #[.string s, .int .i64 (p : Int), .int .i64 (n : Int)] w fun e w' => e = .returned (.tuple #[.int .i64 0, .bool false]) ∧ w = w' := by
  have h1 : (s.size : Int) ≤ (p : Int) := by omega
  go_enter Tryz.func194, Tryz.ntmps194
  go_wp2
  go_ret2
  exact ⟨rfl, rfl⟩
theorem more_not (s : ByteArray) (p n m : Nat) (w : World) (h : p < s.size) (hm : (s[p]).toNat = m) (hc : ¬ m / 64 = 2) (h256 : m < 256) : Calls Tryz.prog 194 #[.string s, .int .i64 (p : Int), .int .i64 (n : Int)] w fun e w' => e = .returned (.tuple #[.int .i64 0, .bool false]) ∧ w = w' := by
  have h1 : ¬ (s.size : Int) ≤ (p : Int) := by omega
  have h2 : ¬ ((m : Int) / 64 = 2) := by omega
  go_enter Tryz.func194, Tryz.ntmps194
  go_wp2
  go_ret2
  exact ⟨rfl, rfl⟩
theorem more_yes (s : ByteArray) (p n m : Nat) (w : World) (h : p < s.size) (hm : (s[p]).toNat = m) (hc : m / 64 = 2) (h256 : m < 256) (hn : n < 1000000000) : Calls Tryz.prog 194 #[.string s, .int .i64 (p : Int), .int .i64 (n : Int)] w fun e w' => e = .returned (.tuple #[.int .i64 ((n * 64 + m % 64 : Nat) : Int), .bool true]) ∧ w = w' := by
  have h1 : ¬ (s.size : Int) ≤ (p : Int) := by omega
  have h2 : ((m : Int) / 64 = 2) := by omega
  go_enter Tryz.func194, Tryz.ntmps194
  go_wp2
  go_ret2
  exact ⟨by go_num, rfl⟩
theorem lo1 (r : Int) (h : (65 ≤ r ∧ r ≤ 90) ∨ (192 ≤ r ∧ r ≤ 222 ∧ r ≠ 215) ∨ (913 ≤ r ∧ r ≤ 939 ∧ r ≠ 930) ∨ (1040 ≤ r ∧ r ≤ 1071)) : r + 32 = lower r := by unfold lower; rw [if_pos h]
theorem lo2 (r : Int) (h : 1024 ≤ r ∧ r ≤ 1039) : r + 80 = lower r := by unfold lower; rw [if_neg (by omega), if_pos h]
theorem lo3 (r : Int) (h : ¬ ((65 ≤ r ∧ r ≤ 90) ∨ (192 ≤ r ∧ r ≤ 222 ∧ r ≠ 215) ∨ (913 ≤ r ∧ r ≤ 939 ∧ r ≠ 930) ∨ (1040 ≤ r ∧ r ≤ 1071))) (h2 : ¬ (1024 ≤ r ∧ r ≤ 1039)) : r = lower r := by unfold lower; rw [if_neg h, if_neg h2]

set_option maxHeartbeats 1600000 in
theorem lower_ref (r : Int) (w : World) : Calls Tryz.prog 170 #[.int .i64 r] w fun e w' => e = .returned (.int .i64 (lower r)) ∧ w = w' := by
  go_enter Tryz.func170, Tryz.ntmps170
  go_wp2
  all_goals
    go_ret
    refine ⟨congrArg (fun x => Ending.returned (Value.int .i64 x)) ?_, rfl⟩
    try simp only [bne_iff_ne, ne_eq, bne_eq_false_iff_eq] at *
    first | exact lo1 r (by omega) | exact lo2 r (by omega) | exact lo3 r (by omega) (by omega)

/-- What 'row' tells of the bytes behind a first one. -/
def rowOk (t : List UInt8) (k : Nat) : Bool := decide (k - 1 ≤ t.length) && (t.take (k - 1)).all cont
def rowOf (m : Nat) (t : List UInt8) (k : Nat) : Nat := if rowOk t k then acc m (t.take (k - 1)) else 0

theorem more_any (s : ByteArray) (p n : Nat) (w : World) (hn : n < 1000000000) : Calls Tryz.prog 194 #[.string s, .int .i64 (p : Int), .int .i64 (n : Int)] w fun e w' => w = w' ∧
    ((∃ h : p < s.size, cont s[p] = true ∧ e = .returned (.tuple #[.int .i64 ((n * 64 + (s[p]).toNat % 64 : Nat) : Int), .bool true])) ∨ (¬ (∃ h : p < s.size, cont s[p] = true) ∧ e = .returned (.tuple #[.int .i64 0, .bool false]))) := by
  by_cases h : p < s.size
  · have h256 := (s[p]).toNat_lt
    by_cases hc : (s[p]).toNat / 64 = 2
    · refine (more_yes s p n _ w h rfl hc h256 hn).mono ?_
      rintro e w' ⟨rfl, rfl⟩
      exact ⟨rfl, Or.inl ⟨h, by simp [cont, hc], rfl⟩⟩
    · refine (more_not s p n _ w h rfl hc h256).mono ?_
      rintro e w' ⟨rfl, rfl⟩
      exact ⟨rfl, Or.inr ⟨fun ⟨h', h2⟩ => hc (by simpa [cont] using h2), rfl⟩⟩
  · refine (more_no s p n w (by omega)).mono ?_
    rintro e w' ⟨rfl, rfl⟩
    exact ⟨rfl, Or.inr ⟨fun ⟨h', _⟩ => h h', rfl⟩⟩

theorem take_at (s : ByteArray) (k j : Nat) (hj : 1 ≤ j) (h : k + j < s.size) : (s.data.toList.drop (k + 1)).take j = (s.data.toList.drop (k + 1)).take (j - 1) ++ [s[k + j]] := by
  obtain ⟨i, rfl⟩ : ∃ i, j = i + 1 := ⟨j - 1, by omega⟩
  have hl : i < (s.data.toList.drop (k + 1)).length := by rw [List.length_drop, bsize]; omega
  rw [List.take_succ_eq_append_getElem hl, Nat.add_sub_cancel]
  congr 2
  rw [List.getElem_drop, Array.getElem_toList]
  have : k + 1 + i = k + (i + 1) := by omega
  simp only [this]
  rfl
theorem row_more (s : ByteArray) (k j m : Nat) (hj : 1 ≤ j) (h : k + j < s.size) (hc : cont s[k + j] = true) (hok : rowOk (s.data.toList.drop (k + 1)) j = true) :
    rowOk (s.data.toList.drop (k + 1)) (j + 1) = true ∧ acc m ((s.data.toList.drop (k + 1)).take j) = acc m ((s.data.toList.drop (k + 1)).take (j - 1)) * 64 + (s[k + j]).toNat % 64 := by
  have ht := take_at s k j hj h
  refine ⟨?_, by rw [ht, acc_snoc]⟩
  simp only [rowOk, Bool.and_eq_true, decide_eq_true_eq, Nat.add_sub_cancel] at hok ⊢
  refine ⟨by rw [List.length_drop, bsize]; omega, ?_⟩
  rw [ht, List.all_append, hok.2]
  simp [hc]
theorem row_stop (s : ByteArray) (k j z : Nat) (hj : 1 ≤ j) (hz : j < z) (hno : ¬ ∃ h : k + j < s.size, cont s[k + j] = true) : rowOk (s.data.toList.drop (k + 1)) z = false := by
  cases hr : rowOk (s.data.toList.drop (k + 1)) z with
  | false => rfl
  | true =>
    exfalso
    simp only [rowOk, Bool.and_eq_true, decide_eq_true_eq] at hr
    have hl := hr.1
    rw [List.length_drop, bsize] at hl
    have h : k + j < s.size := by omega
    refine hno ⟨h, List.all_eq_true.1 hr.2 _ ?_⟩
    have ht := take_at s k j hj h
    have : s[k + j] ∈ (s.data.toList.drop (k + 1)).take j := by rw [ht]; simp
    exact (List.take_subset_take_left _ (by omega)) this

set_option maxHeartbeats 1600000 in
theorem row_any (s : ByteArray) (k m z : Nat) (w : World) (hk : k < s.size) (hs : s.size ≤ 140737488351232) (hm : m < 32) (hz : 1 ≤ z) (hz4 : z ≤ 4) : Calls Tryz.prog 184 #[.string s, .int .i64 (k : Int), .int .i64 (m : Int), .int .i64 (z : Int)] w fun e w' => e = .returned (.tuple #[.int .i64 (rowOf m (s.data.toList.drop (k + 1)) z : Nat), .bool (rowOk (s.data.toList.drop (k + 1)) z)]) ∧ w = w' := by
  have r0 : rowOk (s.data.toList.drop (k + 1)) 1 = true := by simp [rowOk]
  have R0 := Lib.hid r0
  have hyes := fun (j : Nat) (hj : 1 ≤ j) (h : k + j < s.size) (hc : cont s[k + j] = true) (hok : rowOk (s.data.toList.drop (k + 1)) j = true) => row_more s k j m hj h hc hok
  have hno := fun (j : Nat) (hj : 1 ≤ j) (hz : j < z) (h : ¬ ∃ h : k + j < s.size, cont s[k + j] = true) => row_stop s k j z hj hz h
  have hlt := fun (j : Nat) (hj : j ≤ 4) => acc_lt m ((s.data.toList.drop (k + 1)).take (j - 1)) hm (by rw [List.length_take]; omega)
  have hof : rowOf m (s.data.toList.drop (k + 1)) z = if rowOk (s.data.toList.drop (k + 1)) z then acc m ((s.data.toList.drop (k + 1)).take (z - 1)) else 0 := rfl
  have Hof := Lib.hid hof
  have Hyes := Lib.hid hyes
  have Hno := Lib.hid hno
  have Hlt := Lib.hid hlt
  clear r0 hyes hno hlt hof
  go_enter Tryz.func184, Tryz.ntmps184
  go_wp2
  go_loopw [2, 10] (fun n i wr => ∃ j : Nat, 1 ≤ j ∧ j ≤ z ∧ i = .int .i64 j ∧ n = .int .i64 (acc m ((s.data.toList.drop (k + 1)).take (j - 1)) : Nat) ∧ Hid (rowOk (s.data.toList.drop (k + 1)) j = true) ∧ wr = w)
    (fun _ i _ => z - (intOf i).toNat)
  case atStart => exact ⟨1, by omega, by omega, rfl, rfl, R0, rfl⟩
  case round =>
    obtain ⟨j, hj1, hjz, rfl, rfl, Hok, rfl⟩ := hrel
    by_cases hjl : j < z
    · have hal := Hlt.out j (by omega)
      have c := more_any s (k + j) (acc m ((s.data.toList.drop (k + 1)).take (j - 1))) wr (by omega)
      have Hst := Lib.hid (Hno.out j hj1 hjl)
      have Hgo := Lib.hid (fun h hc => (Hyes.out j hj1 h hc Hok.out))
      generalize acc m ((s.data.toList.drop (k + 1)).take (j - 1)) = a at *
      go_wp2_with fail
      refine c.mono ?_
      rintro e w' ⟨rfl, h⟩
      rcases h with ⟨h, hc, rfl⟩ | ⟨h, rfl⟩
      · have Hg := Lib.hid (Hgo.out h hc)
        clear hc Hgo Hst
        go_wp2
        go_roundw
        case rel => exact ⟨j + 1, by omega, by omega, by go_num, by rw [Nat.add_sub_cancel, Hg.out.2]; go_num, Lib.hid Hg.out.1, trivial⟩
        case measure => simp [intOf]; omega
      · have Hg := Lib.hid (Hst.out h)
        clear h Hgo Hst
        go_wp2
        go_ret2
        exact ⟨by rw [Hof.out, Hg.out]; rfl, rfl⟩
    · obtain rfl : j = z := by omega
      generalize hac : acc m ((s.data.toList.drop (k + 1)).take (j - 1)) = a at *
      have Hac := Lib.hid hac
      clear hac
      go_wp2
      go_ret2
      exact ⟨by rw [Hof.out, Hok.out, if_pos rfl]; rfl, rfl⟩
theorem fits_row (m : Nat) (t : List UInt8) (k lo hi : Nat) : fits m t k lo hi = (rowOk t k && (decide (lo ≤ rowOf m t k) && (decide (rowOf m t k ≤ hi) && !(decide (55296 ≤ rowOf m t k) && decide (rowOf m t k ≤ 57343))))) := by
  unfold fits rowOf
  cases h : rowOk t k with
  | true =>
    rw [if_pos rfl]
    unfold rowOk at h
    rw [Bool.and_eq_true] at h
    rw [h.1, h.2, Bool.true_and]
  | false =>
    rw [Bool.false_and]
    unfold rowOk at h
    rw [← Bool.and_assoc, h, Bool.false_and]
theorem form_row (m : Nat) (t : List UInt8) (k lo hi a : Nat) (ok : Bool) (ha : rowOf m t k = a) (ho : rowOk t k = ok) :
    (ok = true → lo ≤ a → a ≤ hi → ¬ (55296 ≤ a ∧ a ≤ 57343) → form m t k lo hi = (a, k)) ∧ ((ok = false ∨ a < lo ∨ hi < a ∨ (55296 ≤ a ∧ a ≤ 57343)) → form m t k lo hi = (65533, 1)) := by
  have hf := fits_row m t k lo hi
  rw [ha, ho] at hf
  refine ⟨fun h1 h2 h3 h4 => ?_, fun h => ?_⟩
  · have hff : fits m t k lo hi = true := by
      rw [hf]; simp only [Bool.and_eq_true, decide_eq_true_eq, Bool.not_eq_true', Bool.and_eq_false_iff, decide_eq_false_iff_not]
      exact ⟨h1, h2, h3, by omega⟩
    unfold form
    rw [if_pos hff]
    have : rowOf m t k = acc m (t.take (k - 1)) := by unfold rowOf; rw [if_pos (by rw [ho]; exact h1)]
    rw [← ha, this]
  · have hff : fits m t k lo hi = false := by
      cases hx : fits m t k lo hi with
      | false => rfl
      | true =>
        exfalso
        rw [hf] at hx
        simp only [Bool.and_eq_true, decide_eq_true_eq, Bool.not_eq_true', Bool.and_eq_false_iff, decide_eq_false_iff_not] at hx
        obtain ⟨x1, x2, x3, x4⟩ := hx
        rcases h with h | h | h | h
        · rw [h] at x1; cases x1
        · omega
        · omega
        · omega
    unfold form
    rw [if_neg (by rw [hff]; decide)]
theorem row_lt (m M : Nat) (t : List UInt8) (k : Nat) (hm : m < M) (hM : M ≤ 32) (hk : 1 ≤ k) (hk4 : k ≤ 4) : rowOf m t k < M * 64 ^ (k - 1) := by
  unfold rowOf
  split
  · have hl : (t.take (k - 1)).length ≤ k - 1 := by rw [List.length_take]; omega
    have hp : 0 < 64 ^ (k - 1) := Nat.pow_pos (by decide)
    have key : ∀ l : List UInt8, l.length ≤ k - 1 → acc m l < M * 64 ^ (k - 1) := by
      intro l hl
      have h2 : k - 1 = 0 ∨ k - 1 = 1 ∨ k - 1 = 2 ∨ k - 1 = 3 := by omega
      match l, hl with
      | [], _ => simp only [acc, List.foldl_nil]; rcases h2 with h | h | h | h <;> rw [h] <;> omega
      | [a], hl => simp only [acc, List.foldl_cons, List.foldl_nil]; simp only [List.length_cons, List.length_nil] at hl; rcases h2 with h | h | h | h <;> rw [h] at hl ⊢ <;> omega
      | [a, b], hl => simp only [acc, List.foldl_cons, List.foldl_nil]; simp only [List.length_cons, List.length_nil] at hl; rcases h2 with h | h | h | h <;> rw [h] at hl ⊢ <;> omega
      | [a, b, c], hl => simp only [acc, List.foldl_cons, List.foldl_nil]; simp only [List.length_cons, List.length_nil] at hl; rcases h2 with h | h | h | h <;> rw [h] at hl ⊢ <;> omega
      | a :: b :: c :: d :: l, hl => simp only [List.length_cons] at hl; omega
    exact key _ hl
  · exact Nat.mul_pos (by omega) (Nat.pow_pos (by decide))
end Go.Proofs.YtlfpfkallgkjdaaGreat.Ut
end

section
/- The reference's Decode. -/
namespace Go.Proofs.YtlfpfkallgkjdaaGreat.Ut
open Go.RowKit
set_option maxRecDepth 20000

set_option maxRecDepth 20000 in
set_option maxHeartbeats 1600000 in
theorem decr_2 (s : ByteArray) (k m : Nat) (w : World) (hk : k < s.size) (hs : s.size ≤ 140737488351232) (hm : (s[k]).toNat = m) (h6 : m / 32 = 6) :
    Calls Tryz.prog 168 #[.string s, .int .i64 (k : Int)] w fun e w' => e = .returned (.tuple #[.int .i64 ((form (m % 32) (s.data.toList.drop (k + 1)) 2 128 2047).1 : Nat), .int .i64 ((form (m % 32) (s.data.toList.drop (k + 1)) 2 128 2047).2 : Nat)]) ∧ w = w' := by
  have h0 : ¬ (k : Int) < 0 := by omega
  have h1 : ¬ (s.size : Int) ≤ (k : Int) := by omega
  have h2 : ¬ (m : Int) < 128 := by omega
  have h3 : (m : Int) / 32 = 6 := by omega
  have h4 : ¬ (m : Int) / 16 = 14 := by omega
  have h5 : ¬ (m : Int) / 8 = 30 := by omega
  have c := row_any s k (m % 32) 2 w hk hs (by omega) (by omega) (by omega)
  have hlt := row_lt (m % 32) 32 (s.data.toList.drop (k + 1)) 2 (by omega) (by omega) (by omega) (by omega)
  have hfo := form_row (m % 32) (s.data.toList.drop (k + 1)) 2 128 2047 _ _ rfl rfl
  rw [show ((m % 32 : Nat) : Int) = (m : Int) % 32 from by omega] at c
  generalize form (m % 32) (s.data.toList.drop (k + 1)) 2 128 2047 = F at *
  generalize rowOf (m % 32) (s.data.toList.drop (k + 1)) 2 = a at *
  generalize rowOk (s.data.toList.drop (k + 1)) 2 = ok at *
  clear h6
  by_cases hcase : ok = true ∧ 128 ≤ a
  · obtain ⟨rfl, h128⟩ := hcase
    have hF := hfo.1 rfl h128 (by omega) (by omega)
    subst hF
    have h129 : ¬ (a : Int) < 128 := by omega
    clear hfo
    go_enter Tryz.func168, Tryz.ntmps168
    go_wp2_with fail
    refine c.mono ?_
    rintro e w1 ⟨rfl, rfl⟩
    go_wp2
    go_ret2
    exact ⟨rfl, rfl⟩
  · have hF := hfo.2 (by rcases Bool.eq_false_or_eq_true ok with h | h; (· exact Or.inr (Or.inl (by have : ¬ 128 ≤ a := fun h' => hcase ⟨h, h'⟩; omega))); exact Or.inl h)
    subst hF
    clear hfo
    rcases Bool.eq_false_or_eq_true ok with rfl | rfl
    · have h129 : (a : Int) < 128 := by have : ¬ 128 ≤ a := fun h' => hcase ⟨rfl, h'⟩; omega
      clear hcase
      go_enter Tryz.func168, Tryz.ntmps168
      go_wp2_with fail
      refine c.mono ?_
      rintro e w1 ⟨rfl, rfl⟩
      go_wp2
      go_ret2
      exact ⟨rfl, rfl⟩
    · clear hcase
      go_enter Tryz.func168, Tryz.ntmps168
      go_wp2_with fail
      refine c.mono ?_
      rintro e w1 ⟨rfl, rfl⟩
      go_wp2
      go_ret2
      exact ⟨rfl, rfl⟩

set_option maxRecDepth 20000 in
set_option maxHeartbeats 1600000 in
theorem decr_3 (s : ByteArray) (k m : Nat) (w : World) (hk : k < s.size) (hs : s.size ≤ 140737488351232) (hm : (s[k]).toNat = m) (h6 : m / 16 = 14) :
    Calls Tryz.prog 168 #[.string s, .int .i64 (k : Int)] w fun e w' => e = .returned (.tuple #[.int .i64 ((form (m % 16) (s.data.toList.drop (k + 1)) 3 2048 65535).1 : Nat), .int .i64 ((form (m % 16) (s.data.toList.drop (k + 1)) 3 2048 65535).2 : Nat)]) ∧ w = w' := by
  have h0 : ¬ (k : Int) < 0 := by omega
  have h1 : ¬ (s.size : Int) ≤ (k : Int) := by omega
  have h2 : ¬ (m : Int) < 128 := by omega
  have h3 : ¬ (m : Int) / 32 = 6 := by omega
  have h4 : (m : Int) / 16 = 14 := by omega
  have h5 : ¬ (m : Int) / 8 = 30 := by omega
  have c := row_any s k (m % 16) 3 w hk hs (by omega) (by omega) (by omega)
  have hlt := row_lt (m % 16) 16 (s.data.toList.drop (k + 1)) 3 (by omega) (by omega) (by omega) (by omega)
  have hfo := form_row (m % 16) (s.data.toList.drop (k + 1)) 3 2048 65535 _ _ rfl rfl
  rw [show ((m % 16 : Nat) : Int) = (m : Int) % 16 from by omega] at c
  generalize form (m % 16) (s.data.toList.drop (k + 1)) 3 2048 65535 = F at *
  generalize rowOf (m % 16) (s.data.toList.drop (k + 1)) 3 = a at *
  generalize rowOk (s.data.toList.drop (k + 1)) 3 = ok at *
  clear h6
  have Hlt : Hid (a ≤ 65535) := Lib.hid (by omega)
  clear hlt
  rcases Bool.eq_false_or_eq_true ok with rfl | rfl
  · by_cases g1 : 2048 ≤ a
    · have g1' : ¬ (a : Int) < 2048 := by omega
      by_cases g2 : 55296 ≤ a
      · by_cases g3 : a ≤ 57343
        · have hF := hfo.2 (Or.inr (Or.inr (Or.inr ⟨g2, g3⟩)))
          subst hF
          have g2' : ¬ (a : Int) < 55296 := by omega
          have g3' : ¬ (57343 : Int) < a := by omega
          clear hfo g1 g2 g3
          try dsimp only
          generalize (a : Int) = z at *
          go_enter Tryz.func168, Tryz.ntmps168
          go_wp2_with fail
          refine c.mono ?_
          rintro e w1 ⟨rfl, rfl⟩
          go_wp2
          go_ret2
          exact ⟨rfl, rfl⟩
        · have hF := hfo.1 rfl g1 Hlt.out (by omega)
          subst hF
          have g2' : ¬ (a : Int) < 55296 := by omega
          have g3' : (57343 : Int) < a := by omega
          clear hfo g1 g2 g3
          try dsimp only
          generalize (a : Int) = z at *
          go_enter Tryz.func168, Tryz.ntmps168
          go_wp2_with fail
          refine c.mono ?_
          rintro e w1 ⟨rfl, rfl⟩
          go_wp2
          go_ret2
          exact ⟨rfl, rfl⟩
      · have hF := hfo.1 rfl g1 Hlt.out (by omega)
        subst hF
        have g2' : (a : Int) < 55296 := by omega
        clear hfo g1 g2
        try dsimp only
        generalize (a : Int) = z at *
        go_enter Tryz.func168, Tryz.ntmps168
        go_wp2_with fail
        refine c.mono ?_
        rintro e w1 ⟨rfl, rfl⟩
        go_wp2
        go_ret2
        exact ⟨rfl, rfl⟩
    · have hF := hfo.2 (Or.inr (Or.inl (by omega)))
      subst hF
      have g1' : (a : Int) < 2048 := by omega
      clear hfo g1
      try dsimp only
      generalize (a : Int) = z at *
      go_enter Tryz.func168, Tryz.ntmps168
      go_wp2_with fail
      refine c.mono ?_
      rintro e w1 ⟨rfl, rfl⟩
      go_wp2
      go_ret2
      exact ⟨rfl, rfl⟩
  · have hF := hfo.2 (Or.inl rfl)
    subst hF
    clear hfo
    try dsimp only
    generalize (a : Int) = z at *
    go_enter Tryz.func168, Tryz.ntmps168
    go_wp2_with fail
    refine c.mono ?_
    rintro e w1 ⟨rfl, rfl⟩
    go_wp2
    go_ret2
    exact ⟨rfl, rfl⟩

set_option maxRecDepth 20000 in
set_option maxHeartbeats 1600000 in
theorem decr_4 (s : ByteArray) (k m : Nat) (w : World) (hk : k < s.size) (hs : s.size ≤ 140737488351232) (hm : (s[k]).toNat = m) (h6 : m / 8 = 30) :
    Calls Tryz.prog 168 #[.string s, .int .i64 (k : Int)] w fun e w' => e = .returned (.tuple #[.int .i64 ((form (m % 8) (s.data.toList.drop (k + 1)) 4 65536 1114111).1 : Nat), .int .i64 ((form (m % 8) (s.data.toList.drop (k + 1)) 4 65536 1114111).2 : Nat)]) ∧ w = w' := by
  have h0 : ¬ (k : Int) < 0 := by omega
  have h1 : ¬ (s.size : Int) ≤ (k : Int) := by omega
  have h2 : ¬ (m : Int) < 128 := by omega
  have h3 : ¬ (m : Int) / 32 = 6 := by omega
  have h4 : ¬ (m : Int) / 16 = 14 := by omega
  have h5 : (m : Int) / 8 = 30 := by omega
  have c := row_any s k (m % 8) 4 w hk hs (by omega) (by omega) (by omega)
  have hfo := form_row (m % 8) (s.data.toList.drop (k + 1)) 4 65536 1114111 _ _ rfl rfl
  rw [show ((m % 8 : Nat) : Int) = (m : Int) % 8 from by omega] at c
  generalize form (m % 8) (s.data.toList.drop (k + 1)) 4 65536 1114111 = F at *
  generalize rowOf (m % 8) (s.data.toList.drop (k + 1)) 4 = a at *
  generalize rowOk (s.data.toList.drop (k + 1)) 4 = ok at *
  clear h6
  rcases Bool.eq_false_or_eq_true ok with rfl | rfl
  · by_cases g1 : 65536 ≤ a
    · have g1' : ¬ (a : Int) < 65536 := by omega
      by_cases g2 : a ≤ 1114111
      · have hF := hfo.1 rfl g1 g2 (by omega)
        subst hF
        have g2' : ¬ (1114111 : Int) < a := by omega
        clear hfo g1 g2
        try dsimp only
        generalize (a : Int) = z at *
        go_enter Tryz.func168, Tryz.ntmps168
        go_wp2_with fail
        refine c.mono ?_
        rintro e w1 ⟨rfl, rfl⟩
        go_wp2
        go_ret2
        exact ⟨rfl, rfl⟩
      · have hF := hfo.2 (Or.inr (Or.inr (Or.inl (by omega))))
        subst hF
        have g2' : (1114111 : Int) < a := by omega
        clear hfo g1 g2
        try dsimp only
        generalize (a : Int) = z at *
        go_enter Tryz.func168, Tryz.ntmps168
        go_wp2_with fail
        refine c.mono ?_
        rintro e w1 ⟨rfl, rfl⟩
        go_wp2
        go_ret2
        exact ⟨rfl, rfl⟩
    · have hF := hfo.2 (Or.inr (Or.inl (by omega)))
      subst hF
      have g1' : (a : Int) < 65536 := by omega
      clear hfo g1
      try dsimp only
      generalize (a : Int) = z at *
      go_enter Tryz.func168, Tryz.ntmps168
      go_wp2_with fail
      refine c.mono ?_
      rintro e w1 ⟨rfl, rfl⟩
      go_wp2
      go_ret2
      exact ⟨rfl, rfl⟩
  · have hF := hfo.2 (Or.inl rfl)
    subst hF
    clear hfo
    try dsimp only
    generalize (a : Int) = z at *
    go_enter Tryz.func168, Tryz.ntmps168
    go_wp2_with fail
    refine c.mono ?_
    rintro e w1 ⟨rfl, rfl⟩
    go_wp2
    go_ret2
    exact ⟨rfl, rfl⟩

theorem decr_out (s : ByteArray) (a : Int) (w : World) (h : a < 0 ∨ (s.size : Int) ≤ a) :
    Calls Tryz.prog 168 #[.string s, .int .i64 a] w fun e w' => e = .returned (.tuple #[.int .i64 0, .int .i64 0]) ∧ w = w' := by
  by_cases h0 : a < 0
  · clear h
    go_enter Tryz.func168, Tryz.ntmps168
    go_wp2
    go_ret2
    exact ⟨rfl, rfl⟩
  · have h1 : (s.size : Int) ≤ a := by omega
    clear h
    go_enter Tryz.func168, Tryz.ntmps168
    go_wp2
    go_ret2
    exact ⟨rfl, rfl⟩
theorem decr_low (s : ByteArray) (k m : Nat) (w : World) (hk : k < s.size) (hm : (s[k]).toNat = m) (h : m < 128) :
    Calls Tryz.prog 168 #[.string s, .int .i64 (k : Int)] w fun e w' => e = .returned (.tuple #[.int .i64 (m : Int), .int .i64 1]) ∧ w = w' := by
  have h0 : ¬ (k : Int) < 0 := by omega
  have h1 : ¬ (s.size : Int) ≤ (k : Int) := by omega
  have h2 : (m : Int) < 128 := by omega
  go_enter Tryz.func168, Tryz.ntmps168
  go_wp2
  go_ret2
  exact ⟨rfl, rfl⟩
theorem decr_none (s : ByteArray) (k m : Nat) (w : World) (hk : k < s.size) (hm : (s[k]).toNat = m) (h128 : 128 ≤ m) (h256 : m < 256) (h6 : ¬ m / 32 = 6) (h14 : ¬ m / 16 = 14) (h30 : ¬ m / 8 = 30) :
    Calls Tryz.prog 168 #[.string s, .int .i64 (k : Int)] w fun e w' => e = .returned (.tuple #[.int .i64 65533, .int .i64 1]) ∧ w = w' := by
  have h0 : ¬ (k : Int) < 0 := by omega
  have h1 : ¬ (s.size : Int) ≤ (k : Int) := by omega
  have h2 : ¬ (m : Int) < 128 := by omega
  have h3 : ¬ (m : Int) / 32 = 6 := by omega
  have h4 : ¬ (m : Int) / 16 = 14 := by omega
  have h5 : ¬ (m : Int) / 8 = 30 := by omega
  go_enter Tryz.func168, Tryz.ntmps168
  go_wp2
  go_ret2
  exact ⟨rfl, rfl⟩
/-- The reference's Decode at any place of any text. -/
theorem decr_any (s : ByteArray) (a : Int) (w : World) (hs : s.size ≤ 140737488351232) :
    Calls Tryz.prog 168 #[.string s, .int .i64 a] w fun e w' => e = .returned (.tuple #[.int .i64 ((decAt s a).1 : Nat), .int .i64 ((decAt s a).2 : Nat)]) ∧ w = w' := by
  by_cases h : a < 0 ∨ (s.size : Int) ≤ a
  · have e : decAt s a = (0, 0) := by
      unfold decAt
      by_cases h0 : a < 0
      · rw [if_pos h0]
      · rw [if_neg h0, drop_out s a.toNat (by omega)]; rfl
    rw [e]
    exact decr_out s a w h
  · obtain ⟨k, rfl⟩ := Int.eq_ofNat_of_zero_le (show 0 ≤ a by omega)
    have hk : k < s.size := by omega
    have e : decAt s (k : Int) = dec (s[k] :: s.data.toList.drop (k + 1)) := by
      unfold decAt
      rw [if_neg (by omega), Int.toNat_natCast, drop_cons s k hk]
    rw [e, dec_cons]
    by_cases h1 : (s[k]).toNat < 128
    · rw [if_pos h1]; exact decr_low s k _ w hk rfl h1
    · rw [if_neg h1]
      by_cases h2 : (s[k]).toNat / 32 = 6
      · rw [if_pos h2]; exact decr_2 s k _ w hk hs rfl h2
      · rw [if_neg h2]
        by_cases h3 : (s[k]).toNat / 16 = 14
        · rw [if_pos h3]; exact decr_3 s k _ w hk hs rfl h3
        · rw [if_neg h3]
          by_cases h4 : (s[k]).toNat / 8 = 30
          · rw [if_pos h4]; exact decr_4 s k _ w hk hs rfl h4
          · rw [if_neg h4]; exact decr_none s k _ w hk rfl (by omega) (s[k]).toNat_lt h2 h3 h4
end Go.Proofs.YtlfpfkallgkjdaaGreat.Ut
end

section
namespace Go.Proofs.YtlfpfkallgkjdaaGreat.Ut
open Go.RowKit
set_option linter.unusedSimpArgs false in
set_option maxHeartbeats 1600000 in
theorem word_ref (r : Int) (w : World) : Calls Tryz.prog 136 #[.int .i64 r] w fun e w' => e = .returned (.bool (isWord r)) ∧ w = w' := by
  go_enter Tryz.func136, Tryz.ntmps136
  go_wp2
  all_goals
    go_ret
    refine ⟨congrArg (fun x => Ending.returned (Value.bool x)) ?_, rfl⟩
    unfold isWord
    rw [Bool.eq_iff_iff]
    try simp only [bne_iff_ne, ne_eq, bne_eq_false_iff_eq] at *
    simp only [Bool.or_eq_true, Bool.and_eq_true, decide_eq_true_eq, bne_iff_ne, ne_eq, Bool.false_eq_true, true_iff, false_iff, reduceCtorEq]
    first | omega | decide
end Go.Proofs.YtlfpfkallgkjdaaGreat.Ut
end

section
/- The reference's Runes, put, Encode, Fold, Valid, SameInts. -/
namespace Go.Proofs.YtlfpfkallgkjdaaGreat.Ut
open Go.RowKit
set_option maxRecDepth 20000

set_option maxHeartbeats 800000 in
theorem runes_ref (s : ByteArray) (w : World) (hs : s.size ≤ 4398046511104) :
    Calls Tryz.prog 135 #[.string s] w fun e w' => ∃ v, e = .returned v ∧ w'.ownsRow w.heap.size 3 1 v (runes s.data.toList).length (rv (runes s.data.toList)) ∧ Below w.heap.size w w' := by
  obtain ⟨i0, hi0, hz0, hz1, hz2⟩ := info_parts int_info
  go_enter Tryz.func135, Tryz.ntmps135
  go_wp2
  go_loopw [3, 4] (fun v i wr => ∃ (k : Nat) (l : List Nat), k ≤ s.size ∧ i = .int .i64 k ∧ l.length ≤ k ∧ runes s.data.toList = l ++ runes (s.data.toList.drop k) ∧ wr.ownsRow w.heap.size 3 1 v l.length (rv l) ∧ Below w.heap.size w wr)
    (fun _ i _ => s.size - (intOf i).toNat)
  case atStart => exact ⟨0, [], Nat.zero_le _, rfl, by simp, rfl, World.ownsRow_nil _ _ _ _, Below.refl _ _⟩
  case round =>
    obtain ⟨k, l, hk, rfl, hlk, hru, hown, hb⟩ := hrel
    by_cases hlt : k < s.size
    · have hne : s.data.toList.drop k ≠ [] := by rw [drop_cons s k hlt]; simp
      have hsz := dec_size _ hne
      rw [List.length_drop, bsize] at hsz
      have hrc := runes_cons _ hne
      rw [hrc, List.drop_drop] at hru
      have c := decr_any s (k : Int) wr (by omega)
      rw [decAt_nat] at c
      have Hru := Lib.hid hru
      clear hrc hru hne
      generalize dec (s.data.toList.drop k) = d at *
      have hd1 := hsz.1
      have hd2 := hsz.2.1
      have hd4 := hsz.2.2
      clear hsz
      go_wp2_with fail
      refine c.mono ?_
      rintro e wr ⟨rfl, rfl⟩
      have hbw := hb
      have hown2 := hown
      have hsz2 := hbw.size
      go_wp2_with (at_builtin; refine wpList_append_own _ rfl _ _ 38 rfl w.heap.size 3 i0 (.int .i64 0) 1 8 Tryz.underlying38 hi0 hz0 hz1 hz2 rfl (by decide) _ _ _ rfl (hown2.alloc _) ⟨wr.heap.size, 0, none⟩ 1 1 [.int .i64 (d.1 : Int)] rfl rfl ?c1 ?c2 ?c3 ?c4 ?c5 ?_)
      case c1 => exact World.news_of_block (cs := #[.int .i64 (d.1 : Int)]) (t := 3) (fr := (0, 0)) (heap_alloc_new wr _)
      case c2 => intro u hu; simp at hu; subst hu; rfl
      case c3 => unfold maxLen; omega
      case c4 => omega
      case c5 => simp; omega
      intro v' w3 hown3 hg3 _
      have hb3 : Below w.heap.size w w3 := (hbw.alloc hsz2 _).grown hg3 (by simp; omega) (fun j hj => (hown2.lt _ hj).1)
      have Hb3 := Lib.hid hb3
      have Hown3 := Lib.hid hown3
      clear hb3 hown3 hg3 hown2 hbw hown hb
      go_wp2
      go_roundw
      case rel => exact ⟨k + d.2, l ++ [d.1], by omega, by go_num, by rw [List.length_append]; simp; omega, by rw [Hru.out]; simp, by
          rw [List.length_append]
          have := Hown3.out
          simpa [rv] using this, Hb3.out⟩
      case measure => simp [intOf]; omega
    · have hd0 : s.data.toList.drop k = [] := drop_out s k (by omega)
      rw [hd0, runes_nil, List.append_nil] at hru
      have Hru := Lib.hid hru
      clear hru hd0
      go_wp2
      go_ret
      exact ⟨_, rfl, by rw [Hru.out]; exact hown, hb⟩
end Go.Proofs.YtlfpfkallgkjdaaGreat.Ut
end

section
/- The reference's put. -/
namespace Go.Proofs.YtlfpfkallgkjdaaGreat.Ut
open Go.RowKit
set_option maxRecDepth 20000


set_option maxRecDepth 100000 in
set_option maxHeartbeats 1600000 in
theorem rput_1 (base n : Nat) (v : Value) (xs : List Value) (z : Int) (h0 : 0 ≤ z) (h1 : z < 128) (w : World) (hown : w.ownsRow base 5 1 v n xs) (hbase : base ≤ w.heap.size) (hn : n ≤ 140737488000000) :
    Calls Tryz.prog 185 #[v, .int .i64 z] w (PutPost w base n v xs (encN z.toNat)) := by
  obtain ⟨i0, hi0, hz0, hz1, hz2⟩ := info_parts u8_info
  have Hown := Lib.hid hown
  clear hown
  have fin : Hid ([.int .u8 z] = bv (encN z.toNat) ∧ 1 = (encN z.toNat).length) := by
    show _ ∧ _
    obtain ⟨r, rfl⟩ := Int.eq_ofNat_of_zero_le (show 0 ≤ z by omega)
    rw [Int.toNat_natCast]
    unfold encN
    rw [if_pos (by omega)]
    simp only [bv, List.map_cons, List.map_nil, List.length_cons, List.length_nil, and_true, Nat.zero_add, List.cons.injEq, Value.int.injEq, true_and]
    rw [B_int _ (by omega)]
  go_enter Tryz.func185, Tryz.ntmps185
  go_wp2_with (refine wpList_append_own (o := ⟨some 29, _, _, _, _, _⟩) _ rfl _ _ 205 rfl base 5 i0 (.int .u8 0) 1 1 Tryz.underlying205 hi0 hz0 hz1 hz2 rfl (by decide) v n xs rfl (Hown.out.alloc _) ⟨w.heap.size, 0, none⟩ 1 1 [.int .u8 z] rfl rfl (World.news_of_block (cs := [.int .u8 z].toArray) (t := 5) (fr := (0, 0)) (heap_alloc_new w _)) (by simp [Value.oneCell']) (by unfold maxLen; omega) (by omega) (by simp; omega) ?_; intro v' w3 hown3 hg3 _)
  go_ret
  exact put_end Hown.out hown3 hg3 fin.out

set_option maxRecDepth 100000 in
set_option maxHeartbeats 1600000 in
theorem rput_2 (base n : Nat) (v : Value) (xs : List Value) (z : Int) (h0 : 128 ≤ z) (h1 : z < 2048) (w : World) (hown : w.ownsRow base 5 1 v n xs) (hbase : base ≤ w.heap.size) (hn : n ≤ 140737488000000) :
    Calls Tryz.prog 185 #[v, .int .i64 z] w (PutPost w base n v xs (encN z.toNat)) := by
  obtain ⟨i0, hi0, hz0, hz1, hz2⟩ := info_parts u8_info
  have Hown := Lib.hid hown
  clear hown
  have fin : Hid ([.int .u8 (192 + z / 64), .int .u8 (128 + z % 64)] = bv (encN z.toNat) ∧ 2 = (encN z.toNat).length) := by
    show _ ∧ _
    obtain ⟨r, rfl⟩ := Int.eq_ofNat_of_zero_le (show 0 ≤ z by omega)
    rw [Int.toNat_natCast]
    unfold encN
    rw [if_neg (by omega), if_pos (by omega)]
    simp only [bv, List.map_cons, List.map_nil, List.length_cons, List.length_nil, and_true, Nat.zero_add, List.cons.injEq, Value.int.injEq, true_and]
    refine ⟨by rw [B_int _ (by omega)]; omega, by rw [B_int _ (by omega)]; omega⟩
  go_enter Tryz.func185, Tryz.ntmps185
  go_wp2_with (refine wpList_append_own (o := ⟨some 43, _, _, _, _, _⟩) _ rfl _ _ 205 rfl base 5 i0 (.int .u8 0) 1 1 Tryz.underlying205 hi0 hz0 hz1 hz2 rfl (by decide) v n xs rfl (Hown.out.alloc _) ⟨w.heap.size, 0, none⟩ 2 2 [.int .u8 (192 + z / 64), .int .u8 (128 + z % 64)] rfl rfl (World.news_of_block (cs := [.int .u8 (192 + z / 64), .int .u8 (128 + z % 64)].toArray) (t := 5) (fr := (0, 0)) (heap_alloc_new w _)) (by simp [Value.oneCell']) (by unfold maxLen; omega) (by omega) (by simp; omega) ?_; intro v' w3 hown3 hg3 _)
  go_ret
  exact put_end Hown.out hown3 hg3 fin.out

set_option maxRecDepth 100000 in
set_option maxHeartbeats 1600000 in
theorem rput_3 (base n : Nat) (v : Value) (xs : List Value) (z : Int) (h0 : 2048 ≤ z) (h1 : z ≤ 65535) (h2 : z < 55296 ∨ 57343 < z) (w : World) (hown : w.ownsRow base 5 1 v n xs) (hbase : base ≤ w.heap.size) (hn : n ≤ 140737488000000) :
    Calls Tryz.prog 185 #[v, .int .i64 z] w (PutPost w base n v xs (encN z.toNat)) := by
  obtain ⟨i0, hi0, hz0, hz1, hz2⟩ := info_parts u8_info
  have Hown := Lib.hid hown
  clear hown
  have fin : Hid ([.int .u8 (224 + z / 4096), .int .u8 (128 + z / 64 % 64), .int .u8 (128 + z % 64)] = bv (encN z.toNat) ∧ 3 = (encN z.toNat).length) := by
    show _ ∧ _
    obtain ⟨r, rfl⟩ := Int.eq_ofNat_of_zero_le (show 0 ≤ z by omega)
    rw [Int.toNat_natCast]
    unfold encN
    rw [if_neg (by omega), if_neg (by omega), if_pos (by omega)]
    simp only [bv, List.map_cons, List.map_nil, List.length_cons, List.length_nil, and_true, Nat.zero_add, List.cons.injEq, Value.int.injEq, true_and]
    refine ⟨by rw [B_int _ (by omega)]; omega, by rw [B_int _ (by omega)]; omega, by rw [B_int _ (by omega)]; omega⟩
  rcases h2 with h2 | h2
  · go_enter Tryz.func185, Tryz.ntmps185
    go_wp2_with (refine wpList_append_own (o := ⟨some 62, _, _, _, _, _⟩) _ rfl _ _ 205 rfl base 5 i0 (.int .u8 0) 1 1 Tryz.underlying205 hi0 hz0 hz1 hz2 rfl (by decide) v n xs rfl (Hown.out.alloc _) ⟨w.heap.size, 0, none⟩ 3 3 [.int .u8 (224 + z / 4096), .int .u8 (128 + z / 64 % 64), .int .u8 (128 + z % 64)] rfl rfl (World.news_of_block (cs := [.int .u8 (224 + z / 4096), .int .u8 (128 + z / 64 % 64), .int .u8 (128 + z % 64)].toArray) (t := 5) (fr := (0, 0)) (heap_alloc_new w _)) (by simp [Value.oneCell']) (by unfold maxLen; omega) (by omega) (by simp; omega) ?_; intro v' w3 hown3 hg3 _)
    go_ret
    exact put_end Hown.out hown3 hg3 fin.out
  · go_enter Tryz.func185, Tryz.ntmps185
    go_wp2_with (refine wpList_append_own (o := ⟨some 62, _, _, _, _, _⟩) _ rfl _ _ 205 rfl base 5 i0 (.int .u8 0) 1 1 Tryz.underlying205 hi0 hz0 hz1 hz2 rfl (by decide) v n xs rfl (Hown.out.alloc _) ⟨w.heap.size, 0, none⟩ 3 3 [.int .u8 (224 + z / 4096), .int .u8 (128 + z / 64 % 64), .int .u8 (128 + z % 64)] rfl rfl (World.news_of_block (cs := [.int .u8 (224 + z / 4096), .int .u8 (128 + z / 64 % 64), .int .u8 (128 + z % 64)].toArray) (t := 5) (fr := (0, 0)) (heap_alloc_new w _)) (by simp [Value.oneCell']) (by unfold maxLen; omega) (by omega) (by simp; omega) ?_; intro v' w3 hown3 hg3 _)
    go_ret
    exact put_end Hown.out hown3 hg3 fin.out

set_option maxRecDepth 100000 in
set_option maxHeartbeats 1600000 in
theorem rput_4 (base n : Nat) (v : Value) (xs : List Value) (z : Int) (h0 : 65535 < z) (h1 : z ≤ 1114111) (w : World) (hown : w.ownsRow base 5 1 v n xs) (hbase : base ≤ w.heap.size) (hn : n ≤ 140737488000000) :
    Calls Tryz.prog 185 #[v, .int .i64 z] w (PutPost w base n v xs (encN z.toNat)) := by
  obtain ⟨i0, hi0, hz0, hz1, hz2⟩ := info_parts u8_info
  have Hown := Lib.hid hown
  clear hown
  have fin : Hid ([.int .u8 (240 + z / 262144), .int .u8 (128 + z / 4096 % 64), .int .u8 (128 + z / 64 % 64), .int .u8 (128 + z % 64)] = bv (encN z.toNat) ∧ 4 = (encN z.toNat).length) := by
    show _ ∧ _
    obtain ⟨r, rfl⟩ := Int.eq_ofNat_of_zero_le (show 0 ≤ z by omega)
    rw [Int.toNat_natCast]
    unfold encN
    rw [if_neg (by omega), if_neg (by omega), if_neg (by omega)]
    simp only [bv, List.map_cons, List.map_nil, List.length_cons, List.length_nil, and_true, Nat.zero_add, List.cons.injEq, Value.int.injEq, true_and]
    refine ⟨by rw [B_int _ (by omega)]; omega, by rw [B_int _ (by omega)]; omega, by rw [B_int _ (by omega)]; omega, by rw [B_int _ (by omega)]; omega⟩
  go_enter Tryz.func185, Tryz.ntmps185
  go_wp2_with (refine wpList_append_own (o := ⟨some 83, _, _, _, _, _⟩) _ rfl _ _ 205 rfl base 5 i0 (.int .u8 0) 1 1 Tryz.underlying205 hi0 hz0 hz1 hz2 rfl (by decide) v n xs rfl (Hown.out.alloc _) ⟨w.heap.size, 0, none⟩ 4 4 [.int .u8 (240 + z / 262144), .int .u8 (128 + z / 4096 % 64), .int .u8 (128 + z / 64 % 64), .int .u8 (128 + z % 64)] rfl rfl (World.news_of_block (cs := [.int .u8 (240 + z / 262144), .int .u8 (128 + z / 4096 % 64), .int .u8 (128 + z / 64 % 64), .int .u8 (128 + z % 64)].toArray) (t := 5) (fr := (0, 0)) (heap_alloc_new w _)) (by simp [Value.oneCell']) (by unfold maxLen; omega) (by omega) (by simp; omega) ?_; intro v' w3 hown3 hg3 _)
  go_ret
  exact put_end Hown.out hown3 hg3 fin.out

set_option maxRecDepth 100000 in
set_option maxHeartbeats 1600000 in
theorem rput_bad (base n : Nat) (v : Value) (xs : List Value) (z : Int) (hbad : z < 0 ∨ 1114111 < z ∨ (55296 ≤ z ∧ z ≤ 57343)) (w : World) (hown : w.ownsRow base 5 1 v n xs) (hbase : base ≤ w.heap.size) (hn : n ≤ 140737488000000) :
    Calls Tryz.prog 185 #[v, .int .i64 z] w (PutPost w base n v xs (encN 65533)) := by
  have c := rput_3 base n v xs 65533 (by omega) (by omega) (by omega) w hown hbase hn
  rw [show (65533 : Int).toNat = 65533 from rfl] at c
  clear hown
  rcases hbad with h | h | ⟨h, h'⟩
  · go_enter Tryz.func185, Tryz.ntmps185
    go_wp2_with fail
    refine c.mono ?_
    rintro e w3 ⟨v', rfl, ho, hg⟩
    go_wp2
    go_ret
    exact ⟨v', rfl, ho, hg⟩
  · go_enter Tryz.func185, Tryz.ntmps185
    go_wp2_with fail
    refine c.mono ?_
    rintro e w3 ⟨v', rfl, ho, hg⟩
    go_wp2
    go_ret
    exact ⟨v', rfl, ho, hg⟩
  · go_enter Tryz.func185, Tryz.ntmps185
    go_wp2_with fail
    refine c.mono ?_
    rintro e w3 ⟨v', rfl, ho, hg⟩
    go_wp2
    go_ret
    exact ⟨v', rfl, ho, hg⟩

theorem rput_any (base n : Nat) (v : Value) (xs : List Value) (z : Int) (w : World) (hown : w.ownsRow base 5 1 v n xs) (hbase : base ≤ w.heap.size) (hn : n ≤ 140737488000000) :
    Calls Tryz.prog 185 #[v, .int .i64 z] w (PutPost w base n v xs (enc z)) := by
  unfold enc fix
  by_cases hb : z < 0 ∨ 1114111 < z ∨ (55296 ≤ z ∧ z ≤ 57343)
  · rw [if_pos hb]; exact rput_bad base n v xs z hb w hown hbase hn
  · rw [if_neg hb]
    by_cases h1 : z < 128
    · exact rput_1 base n v xs z (by omega) h1 w hown hbase hn
    · by_cases h2 : z < 2048
      · exact rput_2 base n v xs z (by omega) h2 w hown hbase hn
      · by_cases h3 : z ≤ 65535
        · exact rput_3 base n v xs z (by omega) h3 (by omega) w hown hbase hn
        · exact rput_4 base n v xs z (by omega) (by omega) w hown hbase hn
end Go.Proofs.YtlfpfkallgkjdaaGreat.Ut
end

section
/- The reference's Encode. -/
namespace Go.Proofs.YtlfpfkallgkjdaaGreat.Ut
open Go.RowKit
set_option maxRecDepth 20000

set_option maxHeartbeats 800000 in
theorem encode_ref (A : Option Addr) (n c : Nat) (rs : List Int) (w : World) (hR : Reads w w.heap.size 1 A n (rs.map (Value.int .i64))) (hn : n ≤ 35000000000000) :
    Calls Tryz.prog 169 #[.slice A n c] w fun e w' => e = .returned (.string (str (encode rs))) ∧ Below w.heap.size w w' := by
  have hlen : rs.length = n := by have := hR.1; simpa using this
  have HR := Lib.hid hR
  have Hl := Lib.hid hlen
  have St := Lib.hid (Putting.start w)
  clear hR hlen
  go_enter Tryz.func169, Tryz.ntmps169
  go_wp2
  go_loopw [3, 4] (fun v i wr => ∃ k : Nat, k ≤ n ∧ i = .int .i64 k ∧ Putting w wr v (rs.take k)) (fun _ i _ => n - (intOf i).toNat)
  case atStart => exact ⟨0, Nat.zero_le _, rfl, St.out⟩
  case round =>
    obtain ⟨k, hk, rfl, hp⟩ := hrel
    have hel := encode_len (rs.take k)
    have htl : (rs.take k).length ≤ n := by rw [List.length_take]; omega
    by_cases hlt : k < n
    · obtain ⟨ab, ao, hkl, rfl, hab, hcw⟩ := HR.out.at_map hlt
      have hcx := (hp.bel.cell (p := ⟨ab, ao + k, none⟩) hab).trans hcw
      have hts : rs.take (k + 1) = rs.take k ++ [rs[k]] := by rw [List.take_succ_eq_append_getElem hkl]
      have Hts := Lib.hid hts
      have c1 := rput_any w.heap.size _ u3 _ rs[k] wr hp.own hp.bel.size (by omega)
      have Hp := Lib.hid hp
      clear hts hcw hp
      generalize rs[k] = r at *
      go_wp2_with fail
      refine c1.mono ?_
      rintro e w2 ⟨v', rfl, hown2, hg2⟩
      have Hp2 := Lib.hid (Hp.out.put hown2 hg2)
      clear hown2 hg2
      go_wp2
      go_roundw
      case rel => exact ⟨k + 1, by omega, by go_num, by rw [Hts.out]; exact Hp2.out⟩
      case measure => simp [intOf]; omega
    · have hall : rs.take k = rs := List.take_of_length_le (by rw [Hl.out]; omega)
      have hcv := conv_own (P := Tryz.prog) (tb := 205) (ts := 9) hp.own Tryz.underlying205 Tryz.underlying5 Tryz.underlying9
      have Hall := Lib.hid hall
      have Hb := Lib.hid hp.bel
      clear hall hp hel htl
      go_wp2
      go_ret
      exact ⟨by rw [Hall.out]; rfl, Hb.out⟩
end Go.Proofs.YtlfpfkallgkjdaaGreat.Ut
end
