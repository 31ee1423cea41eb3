/- Words for memory: what a call may touch, kinds of blocks, docs. -/
import Derived.Outline
import Derived.Test.YtlfpfkallgkjdaaGreatPkAlertManyRow9
import Derived.Test.YtlfpfkallgkjdaaGreatEvEPk
import Derived.Test.YtlfpfkallgkjdaaGreatPkAlertManyRow0
import Derived.Test.YtlfpfkallgkjdaaGreatPkAlertManyRow8
import Derived.Test.YtlfpfkallgkjdaaGreatPkAlertManyRow22
section
namespace Go.Proofs.YtlfpfkallgkjdaaGreat.Ev
open Go.RowKit Go.Proofs.YtlfpfkallgkjdaaGreat Go.Proofs.YtlfpfkallgkjdaaGreat.Ut Go.Proofs.YtlfpfkallgkjdaaGreat.Tk Go.Proofs.YtlfpfkallgkjdaaGreat.Qy Go.Proofs.YtlfpfkallgkjdaaGreat.Qp
set_option maxRecDepth 20000
set_option linter.unusedVariables false
set_option linter.unusedSimpArgs false

/-- Blocks of O, and new ones, alone are touched. -/
structure Chg (O : Nat → Prop) (w w' : World) : Prop where
  os : w'.os = w.os
  tape : w'.tape = w.tape
  output : w'.output = w.output
  size : w.heap.size ≤ w'.heap.size
  block : ∀ k, k < w.heap.size → ¬ O k → w'.heap[k]? = w.heap[k]?
theorem Chg.refl (O : Nat → Prop) (w : World) : Chg O w w := ⟨rfl, rfl, rfl, Nat.le_refl _, fun _ _ _ => rfl⟩
theorem Chg.trans {O O' : Nat → Prop} {a b c : World} (h : Chg O a b) (k : Chg O' b c) (hO : ∀ x, O' x → O x ∨ a.heap.size ≤ x) : Chg O a c :=
  ⟨k.os.trans h.os, k.tape.trans h.tape, k.output.trans h.output, Nat.le_trans h.size k.size, fun i hi hn => (k.block i (Nat.lt_of_lt_of_le hi h.size) (fun hk => by
    rcases hO i hk with g | g
    · exact hn g
    · omega)).trans (h.block i hi hn)⟩
theorem Chg.mono {O O' : Nat → Prop} {a b : World} (h : Chg O a b) (hO : ∀ x, x < a.heap.size → O x → O' x) : Chg O' a b := ⟨h.os, h.tape, h.output, h.size, fun k hk hn => h.block k hk (fun ho => hn (hO k hk ho))⟩
theorem Chg.of_below {O : Nat → Prop} {B : Nat} {a b : World} (h : Below B a b) (hO : ∀ k, B ≤ k → k < a.heap.size → O k) : Chg O a b := ⟨h.os, h.tape, h.output, h.size, fun k hk hn => h.block k (Nat.lt_of_not_le (fun hB => hn (hO k hB hk)))⟩
theorem Chg.of_new {O : Nat → Prop} {a b : World} (h : Below a.heap.size a b) : Chg O a b := Chg.of_below h (fun k h1 h2 => by omega)
theorem Chg.of_grown {O : Nat → Prop} {a b : World} {row : Option Nat} (h : a.grownBy b row) (hO : ∀ k, row = some k → O k) : Chg O a b := ⟨h.os, h.tape, h.output, h.size, fun k hk hn => h.block k hk (fun e => hn (hO k e.symm))⟩
theorem Chg.below {O : Nat → Prop} {B : Nat} {a b : World} (h : Chg O a b) (hB : B ≤ a.heap.size) (hO : ∀ k, O k → B ≤ k) : Below B a b := ⟨h.os, h.tape, h.output, h.size, fun k hk => h.block k (Nat.lt_of_lt_of_le hk hB) (fun ho => by have := hO k ho; omega)⟩
theorem Chg.then_new {O : Nat → Prop} {a b c : World} (h : Chg O a b) (k : Below b.heap.size b c) : Chg O a c := h.trans (O' := fun _ => False) (Chg.of_new k) (fun x hx => hx.elim)
theorem Chg.alloc {O : Nat → Prop} {a b : World} (h : Chg O a b) (o : Obj) : Chg O a (b.alloc o) := h.then_new ((Below.refl _ _).alloc (Nat.le_refl _) _)
theorem Chg.cell {O : Nat → Prop} {a b : World} (h : Chg O a b) {p : Addr} (hp : p.block < a.heap.size) (hn : ¬ O p.block) : b.cell? p = a.cell? p := World.cell?_of_block (h.block _ hp hn)
/-- A block of a type. -/
def Tg (w : World) (T : TypeId) (b : Nat) : Prop := ∃ cs fr, w.heap[b]? = some (.cells cs T fr)
theorem Tg.lt {w : World} {T : TypeId} {b : Nat} (h : Tg w T b) : b < w.heap.size := by
  obtain ⟨cs, fr, h⟩ := h
  exact (Array.getElem?_eq_some_iff.1 h).1
theorem Tg.one {w : World} {T T' : TypeId} {b : Nat} (h : Tg w T b) (h' : Tg w T' b) : T = T' := by
  obtain ⟨cs, fr, h⟩ := h
  obtain ⟨cs', fr', h'⟩ := h'
  rw [h] at h'
  injection h' with h'
  injection h'
theorem Tg.same {w w' : World} {T : TypeId} {b : Nat} (h : Tg w T b) (e : w'.heap[b]? = w.heap[b]?) : Tg w' T b := by
  obtain ⟨cs, fr, h⟩ := h
  exact ⟨cs, fr, e.trans h⟩
theorem Tg.new {w w' : World} {T : TypeId} {b : Nat} (h : Tg w T b) (hb : Below w.heap.size w w') : Tg w' T b := h.same (hb.block b h.lt)
theorem tg_own {w : World} {base k n g : Nat} {T : TypeId} {v : Value} {xs : List Value} (h : w.ownsRow base T k v n xs) (hv : v.ownBlock = some g) : Tg w T g := by
  rcases h.2 with ⟨rfl, _⟩ | ⟨g', cap, cur, rfl, _, h2, _⟩
  · cases hv
  · injection hv with hv
    subst hv
    exact ⟨cur, _, h2⟩
theorem cell_same {w w' : World} {b : Nat} (e : w'.heap[b]? = w.heap[b]?) (o : Nat) : w'.cell? ⟨b, o, none⟩ = w.cell? ⟨b, o, none⟩ := World.cell?_of_block e
theorem _root_.Go.Proofs.YtlfpfkallgkjdaaGreat.Qp.ReadsS.same {w w' : World} {S S' : Nat → Prop} {k n : Nat} {A : Option Addr} {xs : List Value} (h : ReadsS w S k A n xs) (hS : ∀ b, S b → S' b ∧ w'.heap[b]? = w.heap[b]?) : ReadsS w' S' k A n xs :=
  (h.keep (fun b o hb => cell_same (hS b hb).2 o)).mono (fun b hb => (hS b hb).1)
theorem reads_s {w : World} {B k n : Nat} {A : Option Addr} {xs : List Value} (h : Reads w B k A n xs) : ReadsS w (fun b => b < B) k A n xs := h
/-- A doc's three cells; its fields lie in blocks of S. -/
structure DcS (w : World) (S : Nat → Prop) (d : Dc) (v : List Value) : Prop where
  ex : ∃ F fn fc, v = [.int .i64 d.seq, .int .i64 d.at_, .slice F fn fc] ∧ ReadsS w S 2 F fn (fldC d.fs) ∧ d.fs.length = fn ∧ fn ≤ 8796093021952 ∧ fn ≤ fc ∧ (F = none → fc = 0)
theorem DcS.len {w : World} {S : Nat → Prop} {d : Dc} {v : List Value} (h : DcS w S d v) : v.length = 3 := by obtain ⟨F, fn, fc, rfl, _⟩ := h.ex; rfl
theorem DcS.same {w w' : World} {S S' : Nat → Prop} {d : Dc} {v : List Value} (h : DcS w S d v) (hS : ∀ b, S b → S' b ∧ w'.heap[b]? = w.heap[b]?) : DcS w' S' d v := by
  obtain ⟨F, fn, fc, e, h1, h2⟩ := h.ex
  exact ⟨F, fn, fc, e, h1.same hS, h2⟩
/-- A row of docs in blocks of R, their fields in blocks of S. -/
structure DocsS (w : World) (R S : Nat → Prop) (A : Option Addr) (n : Nat) (ds : List Dc) : Prop where
  ln : ds.length = n
  ex : ∃ vss : List (List Value), vss.length = n ∧ ReadsS w R 3 A n vss.flatten ∧ ∀ i (h : i < ds.length) (h' : i < vss.length), DcS w S ds[i] vss[i]
theorem DocsS.same {w w' : World} {R R' S S' : Nat → Prop} {A : Option Addr} {n : Nat} {ds : List Dc} (h : DocsS w R S A n ds) (hR : ∀ b, R b → R' b ∧ w'.heap[b]? = w.heap[b]?) (hS : ∀ b, S b → S' b ∧ w'.heap[b]? = w.heap[b]?) : DocsS w' R' S' A n ds := by
  obtain ⟨vss, h1, h2, h3⟩ := h.ex
  exact ⟨h.ln, vss, h1, h2.same hR, fun i a b => (h3 i a b).same hS⟩
theorem DocsS.nil {w : World} {R S : Nat → Prop} {A : Option Addr} : DocsS w R S A 0 [] := ⟨rfl, [], rfl, ReadsS.none_, fun i h => absurd h (by simp)⟩
theorem DocsS.at_ {w : World} {R S : Nat → Prop} {A : Option Addr} {n : Nat} {ds : List Dc} (h : DocsS w R S A n ds) {i : Nat} (hi : i < ds.length) :
    ∃ b o F fn fc, A = some ⟨b, o, none⟩ ∧ R b ∧ w.cell? ⟨b, o + i * 3, none⟩ = some (.int .i64 ds[i].seq) ∧ w.cell? ⟨b, o + i * 3 + 1, none⟩ = some (.int .i64 ds[i].at_) ∧ w.cell? ⟨b, o + i * 3 + 2, none⟩ = some (.slice F fn fc) ∧
      ReadsS w S 2 F fn (fldC ds[i].fs) ∧ ds[i].fs.length = fn ∧ fn ≤ 8796093021952 ∧ fn ≤ fc ∧ (F = none → fc = 0) := by
  obtain ⟨vss, h1, h2, h3⟩ := h.ex
  have hl := h.ln
  have hi' : i < vss.length := by omega
  have h4 : ∀ v ∈ vss, v.length = 3 := fun v hv => by
    obtain ⟨j, hj, rfl⟩ := List.mem_iff_getElem.1 hv
    exact (h3 j (by omega) hj).len
  obtain ⟨F, fn, fc, e, g1, g2, g3, g4⟩ := (h3 i hi hi').ex
  obtain ⟨b, o, eA, hb, hc⟩ := h2.2 (by omega)
  have f0 := flat_get h4 i 0 hi' (by omega)
  have f1 := flat_get h4 i 1 hi' (by omega)
  have f2 := flat_get h4 i 2 hi' (by omega)
  rw [e] at f0 f1 f2
  have c0 := hc _ _ f0
  have c1 := hc _ _ f1
  have c2 := hc _ _ f2
  rw [← Nat.add_assoc] at c1 c2
  exact ⟨b, o, F, fn, fc, eA, hb, c0, c1, c2, g1, g2, g3, g4⟩
theorem doc_info : (Tryz.prog.info? 132).map (fun i => (i.zero, i.size, i.bytes)) = some (some (.agg #[.int .i64 0, .int .i64 0, .slice none 0 0]), 3, 40) := by kernel_rfl
theorem fld_info : (Tryz.prog.info? 99).map (fun i => (i.zero, i.size, i.bytes)) = some (some (.agg #[.string ByteArray.empty, .string ByteArray.empty]), 2, 32) := by kernel_rfl
theorem fldC_snoc (fs : List (ByteArray × ByteArray)) (f : ByteArray × ByteArray) : fldC (fs ++ [f]) = fldC fs ++ [.string f.1, .string f.2] := by simp [fldC]

theorem own_succ {w : World} {base : Nat} {e : TypeId} {size n : Nat} {v : Value} {xs : List Value} (h : w.ownsRow base e size v (n + 1) xs) : ∃ g q, v = .slice (some ⟨g, 0, none⟩) (n + 1) q := by
  rcases h.2 with ⟨_, h0⟩ | ⟨g, cap, cur, hv, _⟩
  · omega
  · exact ⟨g, cap, hv⟩
theorem grownBy_setC (w : World) (h o : Nat) (u : Value) : w.grownBy (w.setCell ⟨h, o, none⟩ u) (some h) :=
  ⟨rfl, rfl, rfl, by simp [World.setCell], fun k _ hne => Below.heap_setCell _ _ _ _ (fun e => hne (by rw [e]))⟩
/-- A row of the call's own, as it stands. -/
theorem own_shape2 {w : World} {base : Nat} {e : TypeId} {size n : Nat} {v : Value} {xs : List Value} (h : w.ownsRow base e size v n xs) :
    ∃ A c, v = .slice A n c ∧ Reads w w.heap.size size A n xs ∧ n ≤ c ∧ (A = none → c = 0) ∧ (0 < n → ∃ g, A = some ⟨g, 0, none⟩ ∧ ∃ cur, w.heap[g]? = some (.cells cur e (0, 0))) := by
  obtain ⟨A, c, rfl, hR⟩ := own_shape h
  refine ⟨A, c, rfl, hR, ?_⟩
  rcases h.2 with ⟨hv, h0⟩ | ⟨g, cap, cur, hv, _, hg, hnc, _⟩
  · injection hv with _ _ hc
    exact ⟨by omega, fun _ => hc, fun h => by omega⟩
  · injection hv with hA _ hc
    exact ⟨by omega, fun e => (by rw [hA] at e; cases e), fun _ => ⟨g, hA, cur, hg⟩⟩
theorem fldC_one (fs : List (ByteArray × ByteArray)) : ∀ u ∈ fldC fs, u.oneCell' = true := by
  intro u hu
  unfold fldC at hu
  obtain ⟨f, _, hf⟩ := List.mem_flatMap.1 hu
  simp at hf
  rcases hf with rfl | rfl <;> rfl
/-- Fields of the call's own. -/
def FldPost (w : World) (fs : List (ByteArray × ByteArray)) (e : Ending) (w' : World) : Prop := ∃ v, e = .returned v ∧ w'.ownsRow w.heap.size 99 2 v fs.length (fldC fs) ∧ Below w.heap.size w w'
set_option maxHeartbeats 800000 in
theorem cloneF_any (F : Option Addr) (fn fc : Nat) (fs : List (ByteArray × ByteArray)) (w : World) (hF : Reads w w.heap.size 2 F fn (fldC fs)) (hl : fs.length = fn) (hn : fn ≤ 1048576) (hnil : F = none → fc = 0) :
    Calls Tryz.prog 96 #[.slice F fn fc] w (FldPost w fs) := by
  obtain ⟨i0, hi0, hz0, hz1, hz2⟩ := info_parts fld_info
  by_cases h0 : F = none
  · subst h0
    obtain rfl : fc = 0 := hnil rfl
    have hfn : fn = 0 := by
      by_cases h : 0 < fn
      · obtain ⟨b, o, e, _⟩ := hF.2 h
        cases e
      · omega
    subst hfn
    have hfs : fs = [] := List.length_eq_zero_iff.1 hl
    subst hfs
    have hnl := fun W : World => Lib.run_eql_slice_nil (P := Tryz.prog) W _ _ none 0 0 0 0 Tryz.underlying31
    clear hF hl hn hnil
    go_enter Tryz.func96, Tryz.ntmps96
    go_wp2
    go_ret
    exact ⟨_, rfl, World.ownsRow_nil _ _ _ _, Below.refl _ _⟩
  · obtain ⟨a, rfl⟩ := Option.ne_none_iff_exists'.1 h0
    have hnl := fun W : World => Lib.run_eql_slice_nil (P := Tryz.prog) W _ _ (some a) fn fc 0 0 Tryz.underlying31
    have HF := Lib.hid hF
    have Hl := Lib.hid hl
    clear hF hl h0 hnil
    go_enter Tryz.func96, Tryz.ntmps96
    go_wp2_with (at_builtin; refine wpList_append_own _ rfl _ _ 31 rfl w.heap.size 99 i0 _ 2 32 Tryz.underlying31 hi0 hz0 hz1 hz2 rfl (by decide) (.slice (some ⟨w.heap.size, 0, none⟩) 0 0) 0 [] rfl ?hown a fn fc (fldC fs) rfl ?hl ?c1 ?c2 ?c3 ?c4 ?c5 ?_)
    case hown =>
      have h := World.ownsRow_made (base := w.heap.size) (e := 99) (size := 2) w #[] 0 (by simp) (by unfold maxLen; omega) rfl
      simpa using h
    case hl => rw [fldC_len, Hl.out]
    case c1 =>
      intro j u hj
      have hjl : j < fn * 2 := by
        have := (List.getElem?_eq_some_iff.1 hj).1
        rw [fldC_len, Hl.out] at this
        exact this
      obtain ⟨b, o, e, hb, hc⟩ := HF.out.2 (by omega)
      injection e with e
      subst e
      have hadd : (⟨b, o, none⟩ : Addr).add j = ⟨b, o + j, none⟩ := by unfold Addr.add; split <;> simp_all
      rw [hadd]
      have hp := hc j u hj
      first
        | exact hp
        | exact (((Below.refl _ _).alloc (Nat.le_refl _) _ : Below w.heap.size w _).cell (p := ⟨b, o + j, none⟩) hb).trans hp
    case c2 => exact fldC_one fs
    case c3 => unfold maxLen; omega
    case c4 => omega
    case c5 => simp
    intro v' w2 hown hgrow _
    have hbx : Below w.heap.size w w2 := ((Below.refl _ _).alloc (Nat.le_refl _) _ : Below w.heap.size w _).grown hgrow (by simp) (fun j hj => by
      injection hj with hj
      have hj' : w.heap.size = j := hj
      omega)
    obtain ⟨A', c', rfl, _⟩ := own_shape hown
    have Hown := Lib.hid hown
    have Hbx := Lib.hid hbx
    clear hown hgrow hbx
    go_wp2
    go_ret
    exact ⟨_, rfl, by rw [Hl.out]; simpa using Hown.out, Hbx.out⟩


/-- Fields of a call's own. -/
abbrev Fd (w : World) (base : Nat) (b : Nat) : Prop := base ≤ b ∧ Tg w 99 b
/-- Docs of the call's own that are being collected. -/
structure DOwn (w : World) (base : Nat) (v : Value) (ds : List Dc) : Prop where
  ex : ∃ vss : List (List Value), vss.length = ds.length ∧ w.ownsRow base 132 3 v ds.length vss.flatten ∧ ∀ i (h : i < ds.length) (h' : i < vss.length), DcS w (Fd w base) ds[i] vss[i]
theorem DOwn.start (w : World) (base : Nat) : DOwn w base (.slice none 0 0) [] := ⟨[], rfl, World.ownsRow_nil _ _ _ _, fun i h => absurd h (by simp)⟩
theorem DOwn.below {w w' : World} {base : Nat} {v : Value} {ds : List Dc} (h : DOwn w base v ds) (hb : Below w.heap.size w w') : DOwn w' base v ds := by
  obtain ⟨vss, h1, h2, h3⟩ := h.ex
  refine ⟨vss, h1, h2.kept (grow_of_below hb none) (by cases hv : v.ownBlock <;> simp), fun i a b => (h3 i a b).same (fun b hS => ⟨⟨hS.1, hS.2.new hb⟩, hb.block b hS.2.lt⟩)⟩
theorem DOwn.put {w w5 : World} {base : Nat} {v v' : Value} {ds : List Dc} {d : Dc} {u : List Value} {xs : List Value} (hx : ∃ vss : List (List Value), vss.length = ds.length ∧ w.ownsRow base 132 3 v ds.length vss.flatten ∧ (∀ i (h : i < ds.length) (h' : i < vss.length), DcS w (Fd w base) ds[i] vss[i]) ∧ xs = vss.flatten)
    (hp : w5.ownsRow base 132 3 v' (ds.length + 1) (xs ++ u)) (hg : w.grownBy w5 v.ownBlock) (hd : DcS w (Fd w base) d u) : DOwn w5 base v' (ds ++ [d]) := by
  obtain ⟨vss, h1, h2, h3, rfl⟩ := hx
  have keep : ∀ b, Fd w base b → Fd w5 base b ∧ w5.heap[b]? = w.heap[b]? := fun b hS => by
    have e : w5.heap[b]? = w.heap[b]? := hg.block b hS.2.lt (fun e => by
      have := (tg_own h2 e.symm).one hS.2
      exact absurd this (by decide))
    exact ⟨⟨hS.1, hS.2.same e⟩, e⟩
  refine ⟨vss ++ [u], by simp [h1], ?_, fun i a b => ?_⟩
  · rw [List.flatten_append, List.length_append]
    simpa using hp
  · by_cases hi : i < ds.length
    · rw [List.getElem_append_left hi, List.getElem_append_left (by omega)]
      exact (h3 i hi (by omega)).same keep
    · have hi' : i = ds.length := by simp at a; omega
      subst hi'
      rw [List.getElem_append_right (by omega), List.getElem_append_right (by omega)]
      simp only [Nat.sub_self, h1, List.getElem_cons_zero]
      exact hd.same keep
theorem own_mono {w : World} {base base' k n : Nat} {T : TypeId} {v : Value} {xs : List Value} (h : w.ownsRow base T k v n xs) (hb : base' ≤ base) : w.ownsRow base' T k v n xs :=
  ⟨h.1, h.2.elim .inl (fun ⟨g, cap, cur, hv, hg, r⟩ => .inr ⟨g, cap, cur, hv, Nat.le_trans hb hg, r⟩)⟩
theorem DcS.mono {w : World} {S S' : Nat → Prop} {d : Dc} {v : List Value} (h : DcS w S d v) (hS : ∀ b, S b → S' b) : DcS w S' d v := h.same (fun b hb => ⟨hS b hb, rfl⟩)
theorem DOwn.mono {w : World} {base base' : Nat} {v : Value} {ds : List Dc} (h : DOwn w base v ds) (hb : base' ≤ base) : DOwn w base' v ds := by
  obtain ⟨vss, h1, h2, h3⟩ := h.ex
  exact ⟨vss, h1, own_mono h2 hb, fun i a b => (h3 i a b).mono (fun b hS => ⟨Nat.le_trans hb hS.1, hS.2⟩)⟩
/-- Behind it the row can be read. -/
theorem DOwn.read {w : World} {base : Nat} {v : Value} {ds : List Dc} (h : DOwn w base v ds) : ∃ A c, v = .slice A ds.length c ∧ DocsS w (fun b => base ≤ b ∧ b < w.heap.size) (Fd w base) A ds.length ds ∧ ds.length ≤ c ∧ (A = none → c = 0) := by
  obtain ⟨vss, h1, h2, h3⟩ := h.ex
  obtain ⟨A, c, rfl, _, hc, hn, _⟩ := own_shape2 h2
  exact ⟨A, c, rfl, ⟨rfl, vss, h1, (ReadsS.of_own h2).mono (fun b hb => ⟨hb.1, hb.2.1⟩), fun i a b => h3 i a b⟩, hc, hn⟩
/-- The docs of a batch. -/
def mkD (seq : Int) (l : List Evn) : List Dc := l.mapIdx fun i e => ⟨seq + i, e.1, e.2⟩
theorem mkD_len (seq : Int) (l : List Evn) : (mkD seq l).length = l.length := by simp [mkD]
theorem mkD_snoc (seq : Int) (l : List Evn) (e : Evn) : mkD seq (l ++ [e]) = mkD seq l ++ [⟨seq + l.length, e.1, e.2⟩] := by simp [mkD, List.mapIdx_append]
theorem mkD_take (seq : Int) (l : List Evn) (k : Nat) (h : k < l.length) : mkD seq (l.take (k + 1)) = mkD seq (l.take k) ++ [⟨seq + (k : Nat), l[k].1, l[k].2⟩] := by
  rw [List.take_succ_eq_append_getElem h, mkD_snoc]
  congr 4
  rw [List.length_take]; omega
end Go.Proofs.YtlfpfkallgkjdaaGreat.Ev
end

section
/- Kept queries, as they lie in memory. (No walk.) -/
namespace Go.Proofs.YtlfpfkallgkjdaaGreat.Al
open Go.RowKit Go.Maps Go.Proofs.YtlfpfkallgkjdaaGreat Go.Proofs.YtlfpfkallgkjdaaGreat.Ut Go.Proofs.YtlfpfkallgkjdaaGreat.Tk Go.Proofs.YtlfpfkallgkjdaaGreat.Qy Go.Proofs.YtlfpfkallgkjdaaGreat.Qp Go.Proofs.YtlfpfkallgkjdaaGreat.Ev Go.Proofs.YtlfpfkallgkjdaaGreat.Mv
set_option linter.unusedVariables false
set_option linter.unusedSimpArgs false

/-- A block of cells; a map's. -/
def Sc (w : World) (b : Nat) : Prop := ∃ cs T fr, w.heap[b]? = some (.cells cs T fr)
def Mo (w : World) (b : Nat) : Prop := ∃ es ck, w.heap[b]? = some (.map es ck)
theorem Sc.lt {w : World} {b : Nat} (h : Sc w b) : b < w.heap.size := by
  obtain ⟨cs, T, fr, h⟩ := h
  exact (Array.getElem?_eq_some_iff.1 h).1
theorem Mo.lt {w : World} {b : Nat} (h : Mo w b) : b < w.heap.size := by
  obtain ⟨es, ck, h⟩ := h
  exact (Array.getElem?_eq_some_iff.1 h).1
theorem Sc.same {w w' : World} {b : Nat} (h : Sc w b) (e : w'.heap[b]? = w.heap[b]?) : Sc w' b := by
  obtain ⟨cs, T, fr, h⟩ := h
  exact ⟨cs, T, fr, e.trans h⟩
theorem Mo.same {w w' : World} {b : Nat} (h : Mo w b) (e : w'.heap[b]? = w.heap[b]?) : Mo w' b := by
  obtain ⟨cs, T, h⟩ := h
  exact ⟨cs, T, e.trans h⟩
theorem Mo.not {w : World} {b : Nat} (h : Mo w b) : ¬ Sc w b := fun ⟨cs, T, fr, h2⟩ => by
  obtain ⟨es, ck, h1⟩ := h
  rw [h1] at h2
  injection h2 with h2
  cases h2
theorem mo_v {κ : Type} {P : Program} {k : TypeId} {L : KeyLit κ} {w : World} {b n : Nat} {f : κ → Option Value} (h : MapV P k L w b n f) : Mo w b := h.obj
theorem sc_cell {w : World} {b o : Nat} {u : Value} (h : w.cell? ⟨b, o, none⟩ = some u) : Sc w b := by
  unfold World.cell? at h
  split at h
  · rename_i c t f hb
    exact ⟨c, t, f, hb⟩
  · cases h
theorem reads_sc {w : World} {S : Nat → Prop} {k n : Nat} {A : Option Addr} {xs : List Value} (h : ReadsS w S k A n xs) (hk : 0 < k) : ReadsS w (Sc w) k A n xs := by
  refine ⟨h.1, fun hn => ?_⟩
  obtain ⟨b, o, e, hb, hc⟩ := h.2 hn
  have hx : 0 < xs.length := by rw [h.1]; exact Nat.mul_pos hn hk
  have := hc 0 xs[0] (List.getElem?_eq_getElem hx)
  exact ⟨b, o, e, sc_cell this, hc⟩
theorem qf_sc {w : World} {S : Nat → Prop} {q : Q} {vs : List Value} (h : QF w S q vs) : QF w (Sc w) q vs := by
  induction h with
  | mk vss hn hw hm hv h4 hl _ ih => exact .mk vss hn (reads_sc hw (by decide)) hm hv h4 (reads_sc hl (by decide)) ih
/-- What a call leaves: all blocks of cells. -/
theorem qf_chg {w w' : World} {O : Nat → Prop} {q : Q} {vs : List Value} (h : QF w (Sc w) q vs) (hc : Chg O w w') (hO : ∀ b, O b → ¬ Sc w b) : QF w' (Sc w') q vs :=
  (h.keep (fun b o hb => cell_same (hc.block b hb.lt (fun e => hO b e hb)) o)).mono (fun b hb => hb.same (hc.block b hb.lt (fun e => hO b e hb)))
theorem reads_chg {w w' : World} {O : Nat → Prop} {k n : Nat} {A : Option Addr} {xs : List Value} (h : ReadsS w (Sc w) k A n xs) (hc : Chg O w w') (hO : ∀ b, O b → ¬ Sc w b) : ReadsS w' (Sc w') k A n xs :=
  (h.keep (fun b o hb => cell_same (hc.block b hb.lt (fun e => hO b e hb)) o)).mono (fun b hb => hb.same (hc.block b hb.lt (fun e => hO b e hb)))
/-- What is kept: its query is what the text says, its needs are the query's. -/
structure KOk (k : Kp) : Prop where
  prs : PrsR k.text.data.toList 0 (some k.q)
  nd : k.needs = needs k.q
theorem KOk.q {k : Kp} (h : KOk k) : QOk k.q := (prs_ok h.prs).2.2
theorem KOk.short {k : Kp} (h : KOk k) : ∀ t ∈ k.needs, t.size ≤ 65 := by rw [h.nd]; exact needs_short k.q
theorem KOk.few {k : Kp} (h : KOk k) : k.needs.length ≤ 1048576 := by
  rw [h.nd]
  exact Nat.le_trans (needs_len k.q) h.q.wq
theorem KOk.first {k : Kp} (h : KOk k) : (first k).size ≤ 65 := by
  have := h.short
  unfold Al.first
  cases hn : k.needs with
  | nil => simp
  | cons s t => rw [hn] at this; exact this s (by simp)
/-- What is kept, as it stands in a map. -/
def KpV (w : World) (k : Kp) (v : Value) : Prop := ∃ a0 a1 a2 a3 A c, v = .agg #[.string k.text, a0, a1, a2, a3, .slice A k.needs.length c] ∧ QF w (Sc w) k.q [a0, a1, a2, a3] ∧ ReadsS w (Sc w) 1 A k.needs.length (bsv k.needs)
theorem KpV.chg {w w' : World} {O : Nat → Prop} {k : Kp} {v : Value} (h : KpV w k v) (hc : Chg O w w') (hO : ∀ b, O b → ¬ Sc w b) : KpV w' k v := by
  obtain ⟨a0, a1, a2, a3, A, c, e, h1, h2⟩ := h
  exact ⟨a0, a1, a2, a3, A, c, e, qf_chg h1 hc hO, reads_chg h2 hc hO⟩
/-- Numbers, as a map's keys. -/
def SetM (w : World) (m cn : Nat) (p : Int → Prop) : Prop := ∃ f, MapV Tryz.prog 3 litI w m cn f ∧ ∀ i, (f i).isSome = true ↔ p i
theorem SetM.same {w w' : World} {m cn : Nat} {p : Int → Prop} (h : SetM w m cn p) (e : w'.heap[m]? = w.heap[m]?) : SetM w' m cn p := by
  obtain ⟨f, h1, h2⟩ := h
  exact ⟨f, h1.same e, h2⟩
theorem SetM.more {w : World} {m cn cn' : Nat} {p : Int → Prop} (h : SetM w m cn p) (hn : cn ≤ cn') : SetM w m cn' p := by
  obtain ⟨f, h1, h2⟩ := h
  exact ⟨f, h1.more hn, h2⟩
theorem SetM.iff {w : World} {m cn : Nat} {p p' : Int → Prop} (h : SetM w m cn p) (e : ∀ i, p i ↔ p' i) : SetM w m cn p' := by
  obtain ⟨f, h1, h2⟩ := h
  exact ⟨f, h1, fun i => (h2 i).trans (e i)⟩
theorem SetM.mo {w : World} {m cn : Nat} {p : Int → Prop} (h : SetM w m cn p) : Mo w m := by
  obtain ⟨f, h1, _⟩ := h
  exact mo_v h1
/-- Which map is under a term, as it stands in a map. -/
def F2v (F2 : ByteArray → Option Nat) : ByteArray → Option Value := fun s => (F2 s).map (fun m => .map (some m))
def putF (F2 : ByteArray → Option Nat) (s : ByteArray) (m : Nat) : ByteArray → Option Nat := fun t => if t = s then some m else F2 t
theorem F2v_put (F2 : ByteArray → Option Nat) (s : ByteArray) (m : Nat) : putV (F2v F2) s (.map (some m)) = F2v (putF F2 s m) := by
  funext t
  unfold putV F2v putF
  split <;> rfl
/-- The maps' blocks. -/
def Own (M1 M2 : Nat) (F2 : ByteArray → Option Nat) (b : Nat) : Prop := b = M1 ∨ b = M2 ∨ ∃ s, F2 s = some b
/-- Kept queries in two maps, and in one map for each term. -/
structure AlM (w : World) (cn M1 M2 : Nat) (F1 : Int → Option Value) (F2 : ByteArray → Option Nat) (l : List (Int × Kp)) : Prop where
  up : UpI l
  rng : ∀ x ∈ l, 0 ≤ x.1 ∧ x.1 ≤ 999999
  ok : ∀ x ∈ l, KOk x.2
  m1 : MapZ Tryz.prog 3 litI w M1 l.length F1
  kv : ∀ i k, get l i = some k → ∃ v, F1 i = some v ∧ KpV w k v
  kn : ∀ i, get l i = none → F1 i = none
  m2 : MapV Tryz.prog 9 litS w M2 cn (F2v F2)
  sub : ∀ s m, F2 s = some m → SetM w m cn (Und l s)
  nos : ∀ s, F2 s = none → ∀ i, ¬ Und l s i
  apart : ∀ s t m, F2 s = some m → F2 t = some m → s = t
  n12 : M1 ≠ M2
  n1 : ∀ s m, F2 s = some m → m ≠ M1 ∧ m ≠ M2
section
variable {w w' : World} {cn M1 M2 : Nat} {F1 : Int → Option Value} {F2 : ByteArray → Option Nat} {l : List (Int × Kp)}
theorem AlM.mo (h : AlM w cn M1 M2 F1 F2 l) : ∀ b, Own M1 M2 F2 b → Mo w b := by
  rintro b (rfl | rfl | ⟨s, hs⟩)
  · exact mo_v h.m1.v
  · exact mo_v h.m2
  · exact (h.sub s b hs).mo
theorem AlM.noSc (h : AlM w cn M1 M2 F1 F2 l) : ∀ b, Own M1 M2 F2 b → ¬ Sc w b := fun b hb => (h.mo b hb).not
theorem AlM.iff (h : AlM w cn M1 M2 F1 F2 l) (i : Int) : (F1 i).isSome = (get l i).isSome := by
  cases hg : get l i with
  | none => rw [h.kn i hg]; rfl
  | some k =>
    obtain ⟨v, e, _⟩ := h.kv i k hg
    rw [e]; rfl
theorem MapZ.same {κ : Type} {P : Program} {k : TypeId} {L : KeyLit κ} {b n : Nat} {f : κ → Option Value} (h : MapZ P k L w b n f) (e : w'.heap[b]? = w.heap[b]?) : MapZ P k L w' b n f := by
  obtain ⟨D, ⟨es, clock, hb, r⟩, h2⟩ := h.ex
  exact ⟨D, ⟨es, clock, e.trans hb, r⟩, h2⟩
/-- What touches none of the maps leaves all. -/
theorem AlM.chg {O : Nat → Prop} (h : AlM w cn M1 M2 F1 F2 l) (hc : Chg O w w') (hO : ∀ b, O b → ¬ Sc w b) (hM : ∀ b, O b → ¬ Own M1 M2 F2 b) : AlM w' cn M1 M2 F1 F2 l := by
  have e : ∀ b, Own M1 M2 F2 b → w'.heap[b]? = w.heap[b]? := fun b hb => hc.block b (h.mo b hb).lt (fun o => hM b o hb)
  exact ⟨h.up, h.rng, h.ok, MapZ.same h.m1 (e _ (.inl rfl)), fun i k hk => by
    obtain ⟨v, h1, h2⟩ := h.kv i k hk
    exact ⟨v, h1, h2.chg hc hO⟩, h.kn, h.m2.same (e _ (.inr (.inl rfl))), fun s m hs => (h.sub s m hs).same (e _ (.inr (.inr ⟨s, hs⟩))), h.nos, h.apart, h.n12, h.n1⟩
theorem AlM.below (h : AlM w cn M1 M2 F1 F2 l) (hb : Below w.heap.size w w') : AlM w' cn M1 M2 F1 F2 l := h.chg (O := fun _ => False) (Chg.of_new hb) (fun _ h => h.elim) (fun _ h => h.elim)
theorem AlM.more (h : AlM w cn M1 M2 F1 F2 l) {cn' : Nat} (hn : cn ≤ cn') : AlM w cn' M1 M2 F1 F2 l :=
  ⟨h.up, h.rng, h.ok, h.m1, h.kv, h.kn, h.m2.more hn, fun s m hs => (h.sub s m hs).more hn, h.nos, h.apart, h.n12, h.n1⟩
/-- A query that is there has a map under its first term. -/
theorem AlM.has (h : AlM w cn M1 M2 F1 F2 l) {i : Int} {k : Kp} (hk : get l i = some k) : ∃ m, F2 (first k) = some m := by
  cases hs : F2 (first k) with
  | some m => exact ⟨m, rfl⟩
  | none => exact absurd ⟨k, hk, rfl⟩ (h.nos _ hs i)
theorem mem_drop {x : Int × Kp} {i : Int} (h : x ∈ drop l i) : x ∈ l := by
  unfold drop at h
  split at h
  · rcases List.mem_append.1 h with h | h
    · exact List.mem_of_mem_take h
    · exact List.mem_of_mem_drop h
  · exact h
theorem mem_put {x : Int × Kp} {i : Int} {k : Kp} (h : x ∈ put l i k) : x = (i, k) ∨ x ∈ l := by
  unfold put at h
  rcases List.mem_append.1 h with h | h
  · exact .inr (List.mem_of_mem_take h)
  · rcases List.mem_cons.1 h with h | h
    · exact .inl h
    · exact .inr (List.mem_of_mem_drop h)
theorem drop_no {i : Int} (h : get l i = none) : drop l i = l := by unfold drop; rw [h]; rfl
/-- A drop: a number is taken out of both maps. -/
theorem AlM.del {i : Int} {k : Kp} {m : Nat} (h : AlM w cn M1 M2 F1 F2 l) (hk : get l i = some k) (hm : F2 (first k) = some m) (hc : Chg (Own M1 M2 F2) w w')
    (e1 : MapZ Tryz.prog 3 litI w' M1 (l.length - 1) (delV F1 i)) (e2 : w'.heap[M2]? = w.heap[M2]?) (e3 : SetM w' m cn (fun j => j ≠ i ∧ Und l (first k) j)) (e4 : ∀ s m', s ≠ first k → F2 s = some m' → w'.heap[m']? = w.heap[m']?) :
    AlM w' cn M1 M2 (delV F1 i) F2 (drop l i) := by
  have hlen : (drop l i).length = l.length - 1 := by rw [drop_len h.up, hk]; rfl
  refine ⟨drop_up h.up i, fun x hx => h.rng x (mem_drop hx), fun x hx => h.ok x (mem_drop hx), by rw [hlen]; exact e1, fun j k' hj => ?_, fun j hj => ?_, h.m2.same e2, fun s m' hs => ?_, fun s hs j hj => ?_, h.apart, h.n12, h.n1⟩
  · rw [get_drop h.up] at hj
    split at hj
    · cases hj
    · rename_i hne
      obtain ⟨v, h1, h2⟩ := h.kv j k' hj
      exact ⟨v, by unfold delV; rw [if_neg hne]; exact h1, h2.chg hc h.noSc⟩
  · rw [get_drop h.up] at hj
    unfold delV
    split at hj
    · rename_i e
      rw [if_pos e]
    · rename_i hne
      rw [if_neg hne]
      exact h.kn j hj
  · by_cases e : s = first k
    · subst e
      rw [hm] at hs
      injection hs with hs
      subst hs
      exact e3.iff (fun j => (und_drop h.up i _ j).symm)
    · refine ((h.sub s m' hs).same (e4 s m' e hs)).iff (fun j => ?_)
      rw [und_drop h.up]
      constructor
      · intro hu
        refine ⟨fun e2 => ?_, hu⟩
        obtain ⟨k', h1, h2⟩ := hu
        rw [e2, hk] at h1
        injection h1 with h1
        exact e (by rw [← h2, ← h1])
      · exact fun hu => hu.2
  · rw [und_drop h.up] at hj
    exact h.nos s hs j hj.2
/-- A put, where the number is not there. -/
theorem AlM.ins {i : Int} {k : Kp} {v : Value} {m : Nat} (h : AlM w cn M1 M2 F1 F2 l) (hi : 0 ≤ i ∧ i ≤ 999999) (hko : KOk k) (hk : get l i = none) (hv : KpV w k v) (hc : Chg (Own M1 M2 F2) w w')
    (e1 : MapZ Tryz.prog 3 litI w' M1 (l.length + 1) (putV F1 i v)) (e2 : MapV Tryz.prog 9 litS w' M2 (cn + 1) (F2v (putF F2 (first k) m))) (e3 : SetM w' m (cn + 1) (fun j => j = i ∨ Und l (first k) j))
    (e4 : ∀ s m', s ≠ first k → F2 s = some m' → w'.heap[m']? = w.heap[m']?) (hm : F2 (first k) = some m ∨ w.heap.size ≤ m) :
    AlM w' (cn + 1) M1 M2 (putV F1 i v) (putF F2 (first k) m) (put l i k) := by
  have hlen : (put l i k).length = l.length + 1 := by rw [put_len h.up, hk]; rfl
  have hnm : ∀ s, s ≠ first k → F2 s ≠ some m := fun s hs e => by
    rcases hm with hm | hm
    · exact hs (h.apart _ _ _ e hm)
    · have := ((h.sub s m e).mo).lt
      omega
  refine ⟨put_up h.up i k, fun x hx => ?_, fun x hx => ?_, by rw [hlen]; exact e1, fun j k' hj => ?_, fun j hj => ?_, e2, fun s m' hs => ?_, fun s hs j hj => ?_, fun s t m' hs ht => ?_, h.n12, fun s m' hs => ?_⟩
  · rcases mem_put hx with rfl | hx
    · exact hi
    · exact h.rng x hx
  · rcases mem_put hx with rfl | hx
    · exact hko
    · exact h.ok x hx
  · rw [get_put h.up] at hj
    unfold putV
    split at hj
    · rename_i e
      injection hj with hj
      subst hj
      rw [if_pos e]
      exact ⟨v, rfl, hv.chg hc h.noSc⟩
    · rename_i hne
      obtain ⟨u, h1, h2⟩ := h.kv j k' hj
      exact ⟨u, by rw [if_neg hne]; exact h1, h2.chg hc h.noSc⟩
  · rw [get_put h.up] at hj
    split at hj
    · cases hj
    · rename_i hne
      unfold putV
      rw [if_neg hne]
      exact h.kn j hj
  · unfold putF at hs
    split at hs
    · rename_i e
      injection hs with hs
      subst e hs
      refine e3.iff (fun j => ?_)
      rw [und_put h.up]
      constructor
      · rintro (rfl | hu)
        · exact .inl ⟨rfl, rfl⟩
        · by_cases e : j = i
          · exact .inl ⟨e, rfl⟩
          · exact .inr ⟨e, hu⟩
      · rintro (⟨e, _⟩ | ⟨_, hu⟩)
        · exact .inl e
        · exact .inr hu
    · rename_i hne
      refine (((h.sub s m' hs).same (e4 s m' hne hs)).more (Nat.le_succ _)).iff (fun j => ?_)
      rw [und_put h.up]
      constructor
      · intro hu
        refine .inr ⟨fun e => ?_, hu⟩
        obtain ⟨k', h1, _⟩ := hu
        rw [e, hk] at h1
        cases h1
      · rintro (⟨_, e⟩ | ⟨_, hu⟩)
        · exact absurd e.symm hne
        · exact hu
  · unfold putF at hs
    split at hs
    · cases hs
    · rename_i hne
      rw [und_put h.up] at hj
      rcases hj with ⟨_, e⟩ | ⟨_, hu⟩
      · exact hne e.symm
      · exact h.nos s hs j hu
  · unfold putF at hs ht
    split at hs
    · rename_i e
      split at ht
      · rename_i e'
        rw [e, e']
      · rename_i hne
        injection hs with hs
        subst hs
        exact absurd ht (hnm t hne)
    · rename_i hne
      split at ht
      · injection ht with ht
        subst ht
        exact absurd hs (hnm s hne)
      · exact h.apart s t m' hs ht
  · unfold putF at hs
    split at hs
    · injection hs with hs
      subst hs
      rcases hm with hm | hm
      · exact h.n1 _ _ hm
      · have h1 := (mo_v h.m1.v).lt
        have h2 := (mo_v h.m2).lt
        constructor <;> omega
    · exact h.n1 s m' hs
end
theorem AlM.empty (w : World) (M1 M2 : Nat) (h1 : MapZ Tryz.prog 3 litI w M1 0 noV) (h2 : MapV Tryz.prog 9 litS w M2 0 noV) (hn : M1 ≠ M2) : AlM w 0 M1 M2 noV (fun _ => none) [] :=
  ⟨List.Pairwise.nil, fun x hx => (nomatch hx), fun x hx => (nomatch hx), h1, fun i k h => (nomatch h), fun i h => rfl, h2.congr (fun s => rfl), fun s m h => (nomatch h), fun s h i hu => und_nil s i hu, fun s t m h => (nomatch h), hn, fun s m h => (nomatch h)⟩
end Go.Proofs.YtlfpfkallgkjdaaGreat.Al
end
