/- Docs, as they lie in memory: rows that came in, rows of the call's own. -/
import Derived.Test.YtdloacfoegjnmaaGreatProg
import Derived.Lib.Hide
import Derived.BigQuiet
import Derived.Deep.QuietTactic
import Derived.Test.YtdloacfoegjnmaaGreatPkGroupIndexesRow0
import Derived.Test.YtdloacfoegjnmaaGreatEvPPk
import Derived.Test.YtdloacfoegjnmaaGreatPkGroupIndexesRow10
section
namespace Go.Proofs.YtdloacfoegjnmaaGreat.Qy
open Go.RowKit Go.Proofs.YtdloacfoegjnmaaGreat

/-- A doc: its number, its time, its fields. -/
structure Dc where
  seq : Int
  at_ : Int
  fs : List (ByteArray × ByteArray)
/-- A doc's three cells, and its fields. -/
def DcV (w : World) (B : Nat) (d : Dc) (v : List Value) : Prop := ∃ F fn fc, v = [.int .i64 d.seq, .int .i64 d.at_, .slice F fn fc] ∧ Reads w B 2 F fn (fldC d.fs) ∧ d.fs.length = fn ∧ fn ≤ 8796093021952 ∧ fn ≤ fc ∧ (F = none → fc = 0)
theorem DcV.len {w : World} {B : Nat} {d : Dc} {v : List Value} (h : DcV w B d v) : v.length = 3 := by obtain ⟨F, fn, fc, rfl, _⟩ := h; rfl
theorem DcV.keep {w w' : World} {B : Nat} {d : Dc} {v : List Value} (h : DcV w B d v) (hk : ∀ b o, b < B → w'.cell? ⟨b, o, none⟩ = w.cell? ⟨b, o, none⟩) : DcV w' B d v := by
  obtain ⟨F, fn, fc, e, h1, h2⟩ := h
  exact ⟨F, fn, fc, e, h1.keep hk, h2⟩
theorem DcV.more {w : World} {B B' : Nat} {d : Dc} {v : List Value} (h : DcV w B d v) (hB : B ≤ B') : DcV w B' d v := by
  obtain ⟨F, fn, fc, e, h1, h2⟩ := h
  exact ⟨F, fn, fc, e, h1.more hB, h2⟩
/-- A row of docs. -/
structure DocsAt (w : World) (B : Nat) (A : Option Addr) (n : Nat) (ds : List Dc) : Prop where
  ln : ds.length = n
  ex : ∃ vss : List (List Value), vss.length = n ∧ Reads w B 3 A n vss.flatten ∧ ∀ i (h : i < ds.length) (h' : i < vss.length), DcV w B ds[i] vss[i]
theorem DocsAt.keep {w w' : World} {B n : Nat} {A : Option Addr} {ds : List Dc} (h : DocsAt w B A n ds) (hk : ∀ b o, b < B → w'.cell? ⟨b, o, none⟩ = w.cell? ⟨b, o, none⟩) : DocsAt w' B A n ds := by
  obtain ⟨vss, h1, h2, h3⟩ := h.ex
  exact ⟨h.ln, vss, h1, h2.keep hk, fun i a b => (h3 i a b).keep hk⟩
theorem DocsAt.more {w : World} {B B' n : Nat} {A : Option Addr} {ds : List Dc} (h : DocsAt w B A n ds) (hB : B ≤ B') : DocsAt w B' A n ds := by
  obtain ⟨vss, h1, h2, h3⟩ := h.ex
  exact ⟨h.ln, vss, h1, h2.more hB, fun i a b => (h3 i a b).more hB⟩
theorem DocsAt.grow {w w' : World} {n : Nat} {A : Option Addr} {ds : List Dc} (h : DocsAt w w.heap.size A n ds) (hb : Below w.heap.size w w') : DocsAt w' w'.heap.size A n ds := (h.keep fun _ _ hp => hb.cell hp).more hb.size
theorem DocsAt.nil {w : World} {B : Nat} {A : Option Addr} : DocsAt w B A 0 [] := ⟨rfl, [], rfl, ⟨by simp, fun h => absurd h (by omega)⟩, fun i h => absurd h (by simp)⟩
/-- The i-th doc. -/
theorem DocsAt.at_ {w : World} {B n : Nat} {A : Option Addr} {ds : List Dc} (h : DocsAt w B A n ds) {i : Nat} (hi : i < ds.length) :
    ∃ b o F fn fc, A = some ⟨b, o, none⟩ ∧ b < B ∧ w.cell? ⟨b, o + i * 3, none⟩ = some (.int .i64 ds[i].seq) ∧ w.cell? ⟨b, o + i * 3 + 1, none⟩ = some (.int .i64 ds[i].at_) ∧ w.cell? ⟨b, o + i * 3 + 2, none⟩ = some (.slice F fn fc) ∧
      Reads w B 2 F fn (fldC ds[i].fs) ∧ ds[i].fs.length = fn ∧ fn ≤ 8796093021952 ∧ fn ≤ fc ∧ (F = none → fc = 0) := by
  obtain ⟨vss, h1, h2, h3⟩ := h.ex
  have hl := h.ln
  have hi' : i < vss.length := by omega
  have h4 : ∀ v ∈ vss, v.length = 3 := fun v hv => by
    obtain ⟨j, hj, rfl⟩ := List.mem_iff_getElem.1 hv
    exact (h3 j (by omega) hj).len
  obtain ⟨F, fn, fc, e, g1, g2, g3, g4⟩ := h3 i hi hi'
  obtain ⟨b, o, eA, hb, hc⟩ := h2.2 (by omega)
  have f0 := flat_get h4 i 0 hi' (by omega)
  have f1 := flat_get h4 i 1 hi' (by omega)
  have f2 := flat_get h4 i 2 hi' (by omega)
  rw [e] at f0 f1 f2
  have c0 := hc _ _ f0
  have c1 := hc _ _ f1
  have c2 := hc _ _ f2
  rw [← Nat.add_assoc] at c1 c2
  exact ⟨b, o, F, fn, fc, eA, hb, c0, c1, c2, g1, g2, g3, g4⟩

/-- The fields of a doc do not lie in the row of docs that is being built. -/
def Far (w : World) (base : Nat) (v : List Value) : Prop := ∀ F fn fc, v[2]? = some (.slice F fn fc) → 0 < fn → ∃ b o, F = some ⟨b, o, none⟩ ∧ (b < base ∨ ∃ cs fr, w.heap[b]? = some (.cells cs 89 fr))
/-- Docs of the call's own. -/
structure DocsOwn (w wr : World) (v : Value) (ds : List Dc) : Prop where
  ex : ∃ vss : List (List Value), vss.length = ds.length ∧ wr.ownsRow w.heap.size 57 3 v ds.length vss.flatten ∧ ∀ i (h : i < ds.length) (h' : i < vss.length), DcV wr wr.heap.size ds[i] vss[i] ∧ Far wr w.heap.size vss[i]
  bel : Below w.heap.size w wr
theorem DocsOwn.start (w : World) : DocsOwn w w (.slice none 0 0) [] := ⟨⟨[], rfl, World.ownsRow_nil _ _ _ _, fun i h => absurd h (by simp)⟩, Below.refl _ _⟩
theorem Far.grown {w w' : World} {base : Nat} {v : List Value} {row : Option Nat} (h : Far w base v) (hg : w.grownBy w' row) (hr : ∀ b, row = some b → base ≤ b ∧ ∀ cs fr, w.heap[b]? ≠ some (.cells cs 89 fr)) : Far w' base v := by
  intro F fn fc hv hn
  obtain ⟨b, o, e, h1 | ⟨cs, fr, h1⟩⟩ := h F fn fc hv hn
  · exact ⟨b, o, e, .inl h1⟩
  · refine ⟨b, o, e, .inr ⟨cs, fr, ?_⟩⟩
    have hlt : b < w.heap.size := (Array.getElem?_eq_some_iff.1 h1).1
    rw [hg.block b hlt (fun er => (hr b er.symm).2 cs fr h1)]
    exact h1
theorem Far.below {w w' : World} {base : Nat} {v : List Value} (h : Far w base v) (hb : Below w.heap.size w w') : Far w' base v := h.grown (grow_of_below hb none) (fun b e => by cases e)
theorem DocsOwn.below {w wr w2 : World} {v : Value} {ds : List Dc} (h : DocsOwn w wr v ds) (hb : Below wr.heap.size wr w2) : DocsOwn w w2 v ds := by
  obtain ⟨vss, h1, h2, h3⟩ := h.ex
  exact ⟨⟨vss, h1, h2.kept (grow_of_below hb none) (by cases hv : v.ownBlock <;> simp), fun i a b => ⟨((h3 i a b).1.keep fun _ _ hp => hb.cell hp).more hb.size, (h3 i a b).2.below hb⟩⟩, h.bel.trans (hb.mono h.bel.size)⟩
/-- The row's own block, if it has one. -/
theorem own_block {w : World} {base : Nat} {e : TypeId} {size n : Nat} {v : Value} {xs : List Value} (h : w.ownsRow base e size v n xs) : ∀ b, v.ownBlock = some b → base ≤ b ∧ ∃ cur, w.heap[b]? = some (.cells cur e (0, 0)) := by
  intro b hb
  rcases h.2 with ⟨rfl, _⟩ | ⟨g, cap, cur, rfl, h1, h2, _⟩
  · cases hb
  · injection hb with hb
    subst hb
    exact ⟨h1, cur, h2⟩
theorem DocsOwn.put {w wr w2 : World} {v v' : Value} {ds : List Dc} {d : Dc} {u : List Value} {xs : List Value} (h : DocsOwn w wr v ds) (hx : ∃ vss : List (List Value), vss.length = ds.length ∧ wr.ownsRow w.heap.size 57 3 v ds.length vss.flatten ∧ (∀ i (h : i < ds.length) (h' : i < vss.length), DcV wr wr.heap.size ds[i] vss[i] ∧ Far wr w.heap.size vss[i]) ∧ xs = vss.flatten)
    (hp : w2.ownsRow w.heap.size 57 3 v' (ds.length + 1) (xs ++ u)) (hg : wr.grownBy w2 v.ownBlock) (hd : DcV wr wr.heap.size d u) (hf : Far wr w.heap.size u) : DocsOwn w w2 v' (ds ++ [d]) := by
  obtain ⟨vss, h1, h2, h3, rfl⟩ := hx
  have hown := own_block h2
  have hr : ∀ b, v.ownBlock = some b → w.heap.size ≤ b ∧ ∀ cs fr, wr.heap[b]? ≠ some (.cells cs 89 fr) := fun b hb => by
    obtain ⟨h4, cur, h5⟩ := hown b hb
    refine ⟨h4, fun cs fr e => ?_⟩
    rw [h5] at e
    injection e with e
    injection e with _ e
    exact absurd e (by decide)
  -- a doc's fields read as before
  have keep : ∀ (d : Dc) (u : List Value), DcV wr wr.heap.size d u → Far wr w.heap.size u → DcV w2 w2.heap.size d u := fun d u hd hf => by
    obtain ⟨F, fn, fc, rfl, g1, g2, g3, g4⟩ := hd
    refine ⟨F, fn, fc, rfl, (g1.grown hg (Nat.le_refl _) ?_).more hg.size, g2, g3, g4⟩
    intro b o e hn er
    obtain ⟨b', o', e', h4⟩ := hf F fn fc rfl hn
    rw [e] at e'
    injection e' with e'
    injection e' with e1 e2
    subst e1
    obtain ⟨h5, h6⟩ := hr b er.symm
    rcases h4 with h4 | ⟨cs, fr, h4⟩
    · omega
    · exact h6 cs fr h4
  refine ⟨⟨vss ++ [u], by simp [h1], ?_, fun i a b => ?_⟩, h.bel.grown hg h.bel.size (fun k hk => (hr k hk).1)⟩
  · rw [List.flatten_append, List.length_append]
    simpa using hp
  · by_cases hi : i < ds.length
    · rw [List.getElem_append_left hi, List.getElem_append_left (by omega)]
      have := h3 i hi (by omega)
      exact ⟨keep _ _ this.1 this.2, this.2.grown hg hr⟩
    · have hi' : i = ds.length := by simp at a; omega
      subst hi'
      rw [List.getElem_append_right (by omega), List.getElem_append_right (by omega)]
      simp only [Nat.sub_self, h1, List.getElem_cons_zero]
      exact ⟨keep _ _ hd hf, hf.grown hg hr⟩
theorem DocsOwn.read {w wr : World} {v : Value} {ds : List Dc} (h : DocsOwn w wr v ds) : ∃ A c, v = .slice A ds.length c ∧ DocsAt wr wr.heap.size A ds.length ds := by
  obtain ⟨vss, h1, h2, h3⟩ := h.ex
  obtain ⟨A, c, e, hR⟩ := own_shape h2
  exact ⟨A, c, e, rfl, vss, h1, hR, fun i a b => (h3 i a b).1⟩
end Go.Proofs.YtdloacfoegjnmaaGreat.Qy
end

section
/- event.Check, Size, CheckBatch, and the document's: the walks. -/
namespace Go.Proofs.YtdloacfoegjnmaaGreat.Ev
open Go.RowKit Go.Proofs.YtdloacfoegjnmaaGreat Go.Proofs.YtdloacfoegjnmaaGreat.Ut Go.Proofs.YtdloacfoegjnmaaGreat.Tk Go.Proofs.YtdloacfoegjnmaaGreat.Qy
set_option maxRecDepth 20000
set_option linter.unusedVariables false
set_option linter.unusedSimpArgs false

/-- An event's fields, as they lie in memory. -/
structure FlAt (w : World) (B : Nat) (F : Option Addr) (fn fc : Nat) (fs : List Fl) : Prop where
  rd : Reads w B 2 F fn (fldC fs)
  len : fs.length = fn
  few : fn ≤ 8796093021952
  cap : fn ≤ fc
  sz : ∀ f ∈ fs, f.1.size ≤ 140737488351232 ∧ f.2.size ≤ 140737488351232
  nl : F = none → fc = 0
theorem FlAt.keep {w w' : World} {B : Nat} {F : Option Addr} {fn fc : Nat} {fs : List Fl} (h : FlAt w B F fn fc fs) (hk : ∀ b o, b < B → w'.cell? ⟨b, o, none⟩ = w.cell? ⟨b, o, none⟩) : FlAt w' B F fn fc fs := ⟨h.rd.keep hk, h.len, h.few, h.cap, h.sz, h.nl⟩
theorem FlAt.more {w : World} {B B' : Nat} {F : Option Addr} {fn fc : Nat} {fs : List Fl} (h : FlAt w B F fn fc fs) (hB : B ≤ B') : FlAt w B' F fn fc fs := ⟨h.rd.more hB, h.len, h.few, h.cap, h.sz, h.nl⟩
theorem FlAt.grow {w w' : World} {F : Option Addr} {fn fc : Nat} {fs : List Fl} (h : FlAt w w.heap.size F fn fc fs) (hb : Below w.heap.size w w') : FlAt w' w'.heap.size F fn fc fs := (h.keep fun _ _ hp => hb.cell hp).more hb.size
theorem FlAt.at_ {w : World} {B : Nat} {F : Option Addr} {fn fc : Nat} {fs : List Fl} (h : FlAt w B F fn fc fs) {k : Nat} (hk : k < fs.length) :
    ∃ b o, F = some ⟨b, o, none⟩ ∧ b < B ∧ w.cell? ⟨b, o + k * 2, none⟩ = some (.string fs[k].1) ∧ w.cell? ⟨b, o + k * 2 + 1, none⟩ = some (.string fs[k].2) := Qy.fields_at h.rd hk
theorem drop_at {α : Type} (l : List α) (k : Nat) (h : k < l.length) : l.drop k = l[k] :: l.drop (k + 1) := List.drop_eq_getElem_cons h

theorem name_any (s : ByteArray) (w : World) (hs : s.size ≤ 140737488351232) : Calls Tryz.prog 68 #[.string s] w fun e w' => e = .returned (.bool (isN s.data.toList)) ∧ Below w.heap.size w w' := by
  have c := isName_anyB s w hs
  go_enter Tryz.func68, Tryz.ntmps68
  go_wp2_with fail
  refine c.mono ?_
  rintro e w' ⟨rfl, hb⟩
  go_wp2
  go_ret
  exact ⟨rfl, hb⟩

set_option maxHeartbeats 1600000 in
theorem check_any (t : Int) (F : Option Addr) (fn fc : Nat) (fs : List Fl) (w : World) (h : FlAt w w.heap.size F fn fc fs) :
    Calls Tryz.prog 42 #[.agg #[.int .i64 t, .slice F fn fc]] w fun e w' => e = .returned (.int .i64 (chkE fs)) ∧ Below w.heap.size w w' := by
  have hl := h.len
  have hl1 : fs.length ≤ fn := by omega
  have hl2 : fn ≤ fs.length := by omega
  have hcap := h.cap
  have hfew := h.few
  have Fin : Hid (chkE fs = if 16 < fs.length then 3 else chkF fs) := rfl
  have H := Lib.hid h
  have hB1 : Hid (Below w.heap.size w (w.alloc (.cells #[.int .i64 t, .slice F fn fc] 54))) := Lib.hid ((Below.refl _ _).alloc (Nat.le_refl _) _)
  clear hl h
  generalize chkE fs = r at *
  by_cases hbig : 16 < fs.length
  · have hb16 : (16 : Int) < (fn : Int) := by omega
    go_enter Tryz.func42, Tryz.ntmps42
    go_wp2
    go_ret
    exact ⟨by rw [Fin.out, if_pos hbig]; rfl, hB1.out⟩
  · have hb16 : ¬ (16 : Int) < (fn : Int) := by omega
    have Fin2 : Hid (r = chkF (fs.drop 0)) := Lib.hid (by rw [Fin.out, if_neg hbig, List.drop_zero])
    clear Fin hbig
    go_enter Tryz.func42, Tryz.ntmps42
    go_wp2
    go_loopw [12] (fun i wr => ∃ k : Nat, k ≤ fs.length ∧ i = .int .i64 (k : Nat) ∧ Hid (r = chkF (fs.drop k)) ∧ Hid (Below w.heap.size w wr)) (fun i _ => fs.length - (intOf i).toNat)
    case atStart => exact ⟨0, Nat.zero_le _, rfl, Fin2, hB1⟩
    case round =>
      clear Fin2 hB1
      obtain ⟨k, hk, rfl, hR, hB⟩ := hrel
      by_cases hlt : k < fs.length
      · have hkz : (k : Int) < (fn : Int) := by omega
        obtain ⟨b, o, rfl, hbb, cn, ct⟩ := (H.out.keep (w' := wr) (fun b o hp => hB.out.cell (p := ⟨b, o, none⟩) hp)).at_ hlt
        have hsz := H.out.sz _ (List.getElem_mem hlt)
        have hR2 : Hid (r = if isN fs[k].1.data.toList = false then 100 else if 4096 < fs[k].2.size then 2 else chkF (fs.drop (k + 1))) := Lib.hid (by rw [hR.out, drop_at _ _ hlt]; rfl)
        clear hR
        generalize hfk : fs[k] = f at *
        clear hfk
        obtain ⟨nm, tx⟩ := f
        simp only at cn ct hsz hR2
        obtain ⟨hs1, hs2⟩ := hsz
        go_wp2_with fail
        have hbW : Hid (Below w.heap.size w (wr.alloc (.cells #[.string nm, .string tx] 89))) := Lib.hid (hB.out.alloc hB.out.size _)
        have c := name_any nm (wr.alloc (.cells #[.string nm, .string tx] 89)) hs1
        have d1 := (Blk.new wr 89 #[.string nm, .string tx]).cell 1
        have hlt1 : wr.heap.size < (wr.alloc (.cells #[.string nm, .string tx] 89)).heap.size := by simp
        simp only [List.getElem?_toArray, List.getElem?_cons_zero, List.getElem?_cons_succ] at d1
        generalize wr.alloc (.cells #[.string nm, .string tx] 89) = w1 at *
        clear hB cn ct
        refine c.mono ?_
        rintro e w2 ⟨rfl, hb2⟩
        have d2 := (hb2.cell (p := ⟨wr.heap.size, 1, none⟩) hlt1).trans d1
        have hB2 : Hid (Below w.heap.size w w2) := Lib.hid (hbW.out.trans (hb2.mono hbW.out.size))
        clear c d1 hb2 hbW
        by_cases hn : isN nm.data.toList = false
        · rw [hn]
          go_wp2
          go_ret
          exact ⟨by rw [hR2.out, if_pos hn]; rfl, hB2.out⟩
        · have hn2 : isN nm.data.toList = true := by simpa using hn
          rw [hn2]
          by_cases ht : 4096 < tx.size
          · have htz : (4096 : Int) < (tx.size : Int) := by omega
            go_wp2
            go_ret
            exact ⟨by rw [hR2.out, if_neg hn, if_pos ht]; rfl, hB2.out⟩
          · have htz : ¬ (4096 : Int) < (tx.size : Int) := by omega
            have hR3 : Hid (r = chkF (fs.drop (k + 1))) := Lib.hid (by rw [hR2.out, if_neg hn, if_neg ht])
            clear hR2 hn hn2
            go_wp2
            go_roundw
            case rel => exact ⟨k + 1, by omega, by go_num, hR3, hB2⟩
            case measure => simp [intOf]; omega
      · have hkz : ¬ (k : Int) < (fn : Int) := by omega
        go_wp2
        go_ret
        exact ⟨by rw [hR.out, List.drop_eq_nil_of_le (by omega)]; rfl, hB.out⟩
end Go.Proofs.YtdloacfoegjnmaaGreat.Ev
end

section
/- event.Size, loggiaref10.Check, Size: the walks. -/
namespace Go.Proofs.YtdloacfoegjnmaaGreat.Ev
open Go.RowKit Go.Proofs.YtdloacfoegjnmaaGreat Go.Proofs.YtdloacfoegjnmaaGreat.Ut Go.Proofs.YtdloacfoegjnmaaGreat.Tk Go.Proofs.YtdloacfoegjnmaaGreat.Qy
set_option maxRecDepth 20000
set_option linter.unusedVariables false
set_option linter.unusedSimpArgs false

theorem below_dn {B : Nat} (w : World) (n : Nat) : Below B w (w.drewN n) := ⟨rfl, rfl, rfl, Nat.le_refl _, fun _ _ => rfl⟩
theorem szF_at (fs : List Fl) (k : Nat) (h : k < fs.length) : szF (fs.take (k + 1)) = szF (fs.take k) + (fs[k].1.size + fs[k].2.size) := by
  rw [List.take_succ_eq_append_getElem h, szF_snoc]

set_option maxHeartbeats 1600000 in
theorem size_any (t : Int) (F : Option Addr) (fn fc : Nat) (fs : List Fl) (w : World) (h : FlAt w w.heap.size F fn fc fs) (hok : chkE fs = 0) :
    Calls Tryz.prog 21 #[.agg #[.int .i64 t, .slice F fn fc]] w fun e w' => e = .returned (.int .i64 (szE fs)) ∧ Below w.heap.size w w' := by
  have hl := h.len
  have hl1 : fs.length ≤ fn := by omega
  have hl2 : fn ≤ fs.length := by omega
  have hcap := h.cap
  have hsz := szE_le hok
  have Fin : Hid ((szE fs : Int) = ((16 + szF (fs.take fs.length) : Nat) : Int)) := Lib.hid (by rw [List.take_length]; rfl)
  unfold szE at hsz
  have HZ := fun k => szF_take fs k
  have hfew : fn ≤ 16 := by have := (chkE_ok hok).1; omega
  have H := Lib.hid h
  have HZ := Lib.hid HZ
  have hB1 : Hid (Below w.heap.size w (w.alloc (.cells #[.int .i64 t, .slice F fn fc] 54))) := Lib.hid ((Below.refl _ _).alloc (Nat.le_refl _) _)
  clear hl h hok
  generalize szE fs = r at *
  go_enter Tryz.func21, Tryz.ntmps21
  go_wp2
  go_loopw [3, 9] (fun n i wr => ∃ k : Nat, k ≤ fs.length ∧ i = .int .i64 (k : Nat) ∧ n = .int .i64 ((16 + szF (fs.take k) : Nat) : Int) ∧ Hid (Below w.heap.size w wr)) (fun _ i _ => fs.length - (intOf i).toNat)
  case atStart => exact ⟨0, Nat.zero_le _, rfl, rfl, hB1⟩
  case round =>
    clear hB1
    obtain ⟨k, hk, rfl, rfl, hB⟩ := hrel
    by_cases hlt : k < fs.length
    · have hkz : (k : Int) < (fn : Int) := by omega
      obtain ⟨b, o, rfl, hbb, cn, ct⟩ := (H.out.keep (w' := wr) (fun b o hp => hB.out.cell (p := ⟨b, o, none⟩) hp)).at_ hlt
      have hat := szF_at fs k hlt
      have hz1 := HZ.out (k + 1)
      rw [hat] at hz1
      have HAT : Hid (szF (fs.take (k + 1)) = szF (fs.take k) + (fs[k].1.size + fs[k].2.size)) := Lib.hid hat
      clear hat
      generalize hfk : fs[k] = f at *
      clear hfk
      obtain ⟨nm, tx⟩ := f
      simp only at cn ct hz1 HAT
      generalize hzk : szF (fs.take k) = zk at *
      have hB2 : Hid (Below w.heap.size w (wr.alloc (.cells #[.string nm, .string tx] 89))) := Lib.hid (hB.out.alloc hB.out.size _)
      clear hzk
      go_wp2
      go_roundw
      case rel => exact ⟨k + 1, by omega, by go_num, by rw [HAT.out]; go_num, hB2⟩
      case measure => simp [intOf]; omega
    · have hkz : ¬ (k : Int) < (fn : Int) := by omega
      have e : k = fs.length := by omega
      have Fin2 : Hid ((r : Int) = ((16 + szF (fs.take k) : Nat) : Int)) := Lib.hid (by rw [e]; exact Fin.out)
      clear Fin e
      go_wp2
      go_ret
      exact ⟨by rw [Fin2.out]; rfl, hB.out⟩

set_option maxHeartbeats 1600000 in
theorem rcheck_any (t : Int) (F : Option Addr) (fn fc : Nat) (fs : List Fl) (w : World) (h : FlAt w w.heap.size F fn fc fs) :
    Calls Tryz.prog 49 #[.agg #[.int .i64 t, .slice F fn fc]] w fun e w' => e = .returned (.int .i64 (chkE fs)) ∧ Below w.heap.size w w' := by
  have hl := h.len
  have hl1 : fs.length ≤ fn := by omega
  have hl2 : fn ≤ fs.length := by omega
  have hcap := h.cap
  have hfew := h.few
  have Fin : Hid (chkE fs = if 16 < fs.length then 3 else chkF fs) := rfl
  have hB1 : Below w.heap.size w (w.alloc (.cells #[.int .i64 t, .slice F fn fc] 54)) := (Below.refl _ _).alloc (Nat.le_refl _) _
  have hF1 := h.grow hB1
  have hX := (Blk.new w 54 #[.int .i64 t, .slice F fn fc])
  have H := Lib.hid (And.intro hF1 (And.intro hX hB1))
  clear hl h hF1 hX hB1
  generalize chkE fs = r at *
  by_cases hbig : 16 < fs.length
  · have hb16 : (16 : Int) < (fn : Int) := by omega
    go_enter Tryz.func49, Tryz.ntmps49
    go_wp2
    go_ret
    exact ⟨by rw [Fin.out, if_pos hbig]; rfl, H.out.2.2⟩
  · have hb16 : ¬ (16 : Int) < (fn : Int) := by omega
    have Fin2 : Hid (r = chkF (fs.drop 0)) := Lib.hid (by rw [Fin.out, if_neg hbig, List.drop_zero])
    clear Fin hbig
    go_enter Tryz.func49, Tryz.ntmps49
    go_wp2
    generalize w.alloc (.cells #[.int .i64 t, .slice F fn fc] 54) = W0 at *
    go_loopw [3] (fun i wr => ∃ k : Nat, k ≤ fs.length ∧ i = .int .i64 (k : Nat) ∧ Hid (r = chkF (fs.drop k)) ∧ Hid (Below W0.heap.size W0 wr)) (fun i _ => fs.length - (intOf i).toNat)
    case atStart => exact ⟨0, Nat.zero_le _, rfl, Fin2, Lib.hid (Below.refl _ _)⟩
    case round =>
      clear Fin2
      obtain ⟨k, hk, rfl, hR, hB⟩ := hrel
      have d1 := (H.out.2.1.below hB.out H.out.2.1.lt).cell 1
      simp only [List.getElem?_toArray, List.getElem?_cons_zero, List.getElem?_cons_succ] at d1
      have hBw : Hid (Below w.heap.size w wr) := Lib.hid (H.out.2.2.trans (hB.out.mono H.out.2.2.size))
      by_cases hlt : k < fs.length
      · have hkz : (k : Int) < (fn : Int) := by omega
        obtain ⟨b, o, rfl, hbb, cn, ct⟩ := (H.out.1.grow hB.out).at_ hlt
        have hsz := H.out.1.sz _ (List.getElem_mem hlt)
        have hR2 : Hid (r = if isN fs[k].1.data.toList = false then 100 else if 4096 < fs[k].2.size then 2 else chkF (fs.drop (k + 1))) := Lib.hid (by rw [hR.out, drop_at _ _ hlt]; rfl)
        clear hR
        generalize hfk : fs[k] = f at *
        clear hfk
        obtain ⟨nm, tx⟩ := f
        simp only at cn ct hsz hR2
        obtain ⟨hs1, hs2⟩ := hsz
        have c := isName_refB nm wr hs1
        by_cases hn : isN nm.data.toList = false
        · rw [hn] at c
          go_wp2_with fail
          refine c.mono ?_
          rintro e w2 ⟨rfl, rfl⟩
          go_wp2
          go_ret
          exact ⟨by rw [hR2.out, if_pos hn]; rfl, hBw.out⟩
        · have hn2 : isN nm.data.toList = true := by simpa using hn
          rw [hn2] at c
          by_cases ht : 4096 < tx.size
          · have htz : (4096 : Int) < (tx.size : Int) := by omega
            go_wp2_with fail
            refine c.mono ?_
            rintro e w2 ⟨rfl, rfl⟩
            go_wp2
            go_ret
            exact ⟨by rw [hR2.out, if_neg hn, if_pos ht]; rfl, hBw.out⟩
          · have htz : ¬ (4096 : Int) < (tx.size : Int) := by omega
            have hR3 : Hid (r = chkF (fs.drop (k + 1))) := Lib.hid (by rw [hR2.out, if_neg hn, if_neg ht])
            clear hR2 hn hn2
            go_wp2_with fail
            refine c.mono ?_
            rintro e w2 ⟨rfl, rfl⟩
            go_wp2
            go_roundw
            case rel => exact ⟨k + 1, by omega, by go_num, hR3, hB⟩
            case measure => simp [intOf]; omega
      · have hkz : ¬ (k : Int) < (fn : Int) := by omega
        go_wp2
        go_ret
        exact ⟨by rw [hR.out, List.drop_eq_nil_of_le (by omega)]; rfl, hBw.out⟩

set_option maxHeartbeats 1600000 in
theorem rsize_any (t : Int) (F : Option Addr) (fn fc : Nat) (fs : List Fl) (w : World) (h : FlAt w w.heap.size F fn fc fs) (hok : chkE fs = 0) :
    Calls Tryz.prog 50 #[.agg #[.int .i64 t, .slice F fn fc]] w fun e w' => e = .returned (.int .i64 (szE fs)) ∧ Below w.heap.size w w' := by
  have hl := h.len
  have hl1 : fs.length ≤ fn := by omega
  have hl2 : fn ≤ fs.length := by omega
  have hcap := h.cap
  have hsz := szE_le hok
  have Fin : Hid ((szE fs : Int) = ((16 + szF (fs.take fs.length) : Nat) : Int)) := Lib.hid (by rw [List.take_length]; rfl)
  unfold szE at hsz
  have HZ := fun k => szF_take fs k
  have hfew : fn ≤ 16 := by have := (chkE_ok hok).1; omega
  have HZ := Lib.hid HZ
  have hB1 : Below w.heap.size w (w.alloc (.cells #[.int .i64 t, .slice F fn fc] 54)) := (Below.refl _ _).alloc (Nat.le_refl _) _
  have hF1 := h.grow hB1
  have hX := (Blk.new w 54 #[.int .i64 t, .slice F fn fc])
  have H := Lib.hid (And.intro hF1 (And.intro hX hB1))
  clear hl h hok hF1 hX hB1
  generalize szE fs = r at *
  go_enter Tryz.func50, Tryz.ntmps50
  go_wp2
  generalize w.alloc (.cells #[.int .i64 t, .slice F fn fc] 54) = W0 at *
  go_loopw [3, 4] (fun n i wr => ∃ k : Nat, k ≤ fs.length ∧ i = .int .i64 (k : Nat) ∧ n = .int .i64 ((16 + szF (fs.take k) : Nat) : Int) ∧ Hid (Below W0.heap.size W0 wr)) (fun _ i _ => fs.length - (intOf i).toNat)
  case atStart => exact ⟨0, Nat.zero_le _, rfl, rfl, Lib.hid (Below.refl _ _)⟩
  case round =>
    obtain ⟨k, hk, rfl, rfl, hB⟩ := hrel
    have d1 := (H.out.2.1.below hB.out H.out.2.1.lt).cell 1
    simp only [List.getElem?_toArray, List.getElem?_cons_zero, List.getElem?_cons_succ] at d1
    by_cases hlt : k < fs.length
    · have hkz : (k : Int) < (fn : Int) := by omega
      have hk0 : (0 : Int) ≤ (k : Int) := by omega
      obtain ⟨b, o, rfl, hbb, cn, ct⟩ := (H.out.1.grow hB.out).at_ hlt
      have hat := szF_at fs k hlt
      have hz1 := HZ.out (k + 1)
      rw [hat] at hz1
      have HAT : Hid (szF (fs.take (k + 1)) = szF (fs.take k) + (fs[k].1.size + fs[k].2.size)) := Lib.hid hat
      clear hat
      generalize hfk : fs[k] = f at *
      clear hfk
      obtain ⟨nm, tx⟩ := f
      simp only at cn ct hz1 HAT
      generalize hzk : szF (fs.take k) = zk at *
      clear hzk
      have p1 : IntKind.i64.wrap (16 + (zk : Int) + (nm.size : Int)) = 16 + (zk : Int) + (nm.size : Int) := by rw [IntKind.wrap_i64]; omega
      have p2 : IntKind.i64.wrap (16 + (zk : Int) + (nm.size : Int) + (tx.size : Int)) = 16 + (zk : Int) + (nm.size : Int) + (tx.size : Int) := by rw [IntKind.wrap_i64]; omega
      go_wp2
      go_quiet (fail)
      clear p1 p2
      have hB2 : Hid (Below W0.heap.size W0 (wr.drewN nq)) := Lib.hid (hB.out.trans (below_dn wr nq))
      clear hB d1 cn ct
      generalize wr.drewN nq = w2 at *
      go_wp2
      go_roundw
      case rel => exact ⟨k + 1, by omega, by go_num, by rw [HAT.out]; go_num, hB2⟩
      case measure => simp [intOf]; omega
    · have hkz : ¬ (k : Int) < (fn : Int) := by omega
      have e : k = fs.length := by omega
      have Fin2 : Hid ((r : Int) = ((16 + szF (fs.take k) : Nat) : Int)) := Lib.hid (by rw [e]; exact Fin.out)
      clear Fin e
      go_wp2
      go_ret
      exact ⟨by rw [Fin2.out]; rfl, H.out.2.2.trans (hB.out.mono H.out.2.2.size)⟩
end Go.Proofs.YtdloacfoegjnmaaGreat.Ev
end
