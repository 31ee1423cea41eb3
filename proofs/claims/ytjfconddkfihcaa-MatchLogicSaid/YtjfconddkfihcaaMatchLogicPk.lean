/- MatchLogic: the law's walk (printed by gen_matchl.py). -/
import Derived.Test.YtjfconddkfihcaaMatchTellsPk
import Derived.Test.YtjfconddkfihcaaGrowTPk
namespace Go.Proofs.Ytjfconddkfihcaa.Qy
open Go.RowKit Go.Proofs.Ytjfconddkfihcaa Go.Proofs.Ytjfconddkfihcaa.Ut Go.Proofs.Ytjfconddkfihcaa.Tk
set_option maxRecDepth 20000
set_option linter.unusedSimpArgs false

/-- A query of one part, made. -/
theorem qat_one {w : World} {g : Nat} {q : Q} {k : Int} {a0 a1 a2 a3 : Value} (hB : Blk w g 37 #[a0, a1, a2, a3]) (ha : QAt w w.heap.size q [a0, a1, a2, a3]) :
    QAt w w.heap.size (.mk k ByteArray.empty [] [q]) [.int .i64 k, .string ByteArray.empty, .slice none 0 0, .slice (some ⟨g, 0, none⟩) 1 1] := by
  refine .mk [[a0, a1, a2, a3]] rfl Reads.none_ rfl rfl (by simp) ⟨rfl, fun _ => ⟨g, 0, rfl, hB.lt, fun j u hu => ?_⟩⟩ (fun i hi hi' => ?_)
  · rw [Nat.zero_add, hB.cell j]
    simpa using hu
  · obtain rfl : i = 0 := by simp at hi; omega
    exact ha
/-- A query of two parts, made. -/
theorem qat_two {w : World} {g : Nat} {p q : Q} {k : Int} {a0 a1 a2 a3 b0 b1 b2 b3 : Value} (hB : Blk w g 37 #[a0, a1, a2, a3, b0, b1, b2, b3]) (ha : QAt w w.heap.size p [a0, a1, a2, a3]) (hb : QAt w w.heap.size q [b0, b1, b2, b3]) :
    QAt w w.heap.size (.mk k ByteArray.empty [] [p, q]) [.int .i64 k, .string ByteArray.empty, .slice none 0 0, .slice (some ⟨g, 0, none⟩) 2 2] := by
  refine .mk [[a0, a1, a2, a3], [b0, b1, b2, b3]] rfl Reads.none_ rfl rfl (by simp) ⟨rfl, fun _ => ⟨g, 0, rfl, hB.lt, fun j u hu => ?_⟩⟩ (fun i hi hi' => ?_)
  · rw [Nat.zero_add, hB.cell j]
    simpa using hu
  · have hc : i = 0 ∨ i = 1 := by simp at hi; omega
    rcases hc with rfl | rfl
    · exact ha
    · exact hb
theorem qsz_one {k : Int} {q : Q} (h : QSz q) : QSz (.mk k ByteArray.empty [] [q]) := .mk (by simp) (by simp) (fun x hx => by simp at hx; subst hx; exact h)
theorem qsz_two {k : Int} {p q : Q} (h : QSz p) (h' : QSz q) : QSz (.mk k ByteArray.empty [] [p, q]) := .mk (by simp) (by simp) (fun x hx => by simp at hx; rcases hx with rfl | rfl <;> assumption)

/-- 'not' makes three blocks. -/
def notW (w : World) (A : Array Value) : World := ((w.alloc (.cells A 37)).alloc (.cells #[.int .i64 7, .string ⟨#[]⟩, .slice none 0 0, .slice (some ⟨w.heap.size + 1 + 1, 0, none⟩) 1 1] 37)).alloc (.cells A 37)
theorem notW_res (w : World) (A : Array Value) : Blk (notW w A) (w.heap.size + 1) 37 #[.int .i64 7, .string ⟨#[]⟩, .slice none 0 0, .slice (some ⟨w.heap.size + 1 + 1, 0, none⟩) 1 1] := by
  have := (Blk.new (w.alloc (.cells A 37)) 37 #[.int .i64 7, .string ⟨#[]⟩, .slice none 0 0, .slice (some ⟨w.heap.size + 1 + 1, 0, none⟩) 1 1]).alloc (.cells A 37)
  rw [World.size_alloc] at this
  exact this
theorem notW_list (w : World) (A : Array Value) : Blk (notW w A) (w.heap.size + 1 + 1) 37 A := by
  have := Blk.new ((w.alloc (.cells A 37)).alloc (.cells #[.int .i64 7, .string ⟨#[]⟩, .slice none 0 0, .slice (some ⟨w.heap.size + 1 + 1, 0, none⟩) 1 1] 37)) 37 A
  rw [World.size_alloc, World.size_alloc] at this
  exact this
theorem notW_size (w : World) (A : Array Value) : (notW w A).heap.size = w.heap.size + 1 + 1 + 1 := by unfold notW; rw [World.size_alloc, World.size_alloc, World.size_alloc]
theorem notW_below (w : World) (A : Array Value) : Below w.heap.size w (notW w A) := (((Below.refl _ _).alloc (Nat.le_refl _) _).alloc (by simp) _).alloc (by simp; omega) _
theorem not_any (a0 a1 a2 a3 : Value) (w : World) (hl : ∃ k nm A n c C m d, [a0, a1, a2, a3] = [.int .i64 k, .string nm, .slice A n c, .slice C m d]) :
    Calls Try.prog 61 #[.agg #[a0, a1, a2, a3]] w fun e w' => e = .returned (.agg #[.int .i64 7, .string ⟨#[]⟩, .slice none 0 0, .slice (some ⟨w.heap.size + 1 + 1, 0, none⟩) 1 1]) ∧ w' = notW w #[a0, a1, a2, a3] := by
  obtain ⟨k, nm, WA, m, wc, CA, n1, c2, e⟩ := hl
  simp only [List.cons.injEq, and_true] at e
  obtain ⟨rfl, rfl, rfl, rfl⟩ := e
  have hh := notW_res w #[.int .i64 k, .string nm, .slice WA m wc, .slice CA n1 c2]
  unfold notW at hh ⊢
  go_enter Try.func61, Try.ntmps61
  go_wp2
  exact bodyPost_ret (results_cell rfl rfl (run_loadVar_row _ (w.heap.size + 1) 37 37 #[.int .i64 7, .string ⟨#[]⟩, .slice none 0 0, .slice (some ⟨w.heap.size + 1 + 1, 0, none⟩) 1 1] (0, 0) _ hh Try.underlying37 rfl (by kernel_rfl))) rfl ⟨rfl, rfl⟩
/-- No query of one part that was made since points beyond the heap. -/
def JJ (B : Nat) (w : World) : Prop := ∀ b, B ≤ b → Blk w b 37 #[.int .i64 7, .string ⟨#[]⟩, .slice none 0 0, .slice (some ⟨b + 1, 0, none⟩) 1 1] → b + 1 < w.heap.size
theorem jj_alloc {B : Nat} {w : World} {cs : Array Value} (h : JJ B w) (hc : ∀ b, cs ≠ #[.int .i64 7, .string ⟨#[]⟩, .slice none 0 0, .slice (some ⟨b, 0, none⟩) 1 1]) : JJ B (w.alloc (.cells cs 37)) := by
  intro b hb hB
  rw [World.size_alloc]
  by_cases hlt : b < w.heap.size
  · have := h b hb ((Below.heap_alloc w (.cells cs 37) b hlt).symm.trans hB)
    omega
  · have hl := hB.lt
    rw [World.size_alloc] at hl
    obtain rfl : b = w.heap.size := by omega
    have h2 := (Blk.new w 37 cs).symm.trans hB
    injection h2 with h2
    injection h2 with h2
    exact absurd h2 (hc _)
theorem jj_not {B : Nat} {w : World} {A : Array Value} (h : JJ B w) (hc : ∀ b, A = #[.int .i64 7, .string ⟨#[]⟩, .slice none 0 0, .slice (some ⟨b, 0, none⟩) 1 1] → b < w.heap.size) : JJ B (notW w A) := by
  intro b hb hB
  rw [notW_size]
  by_cases hlt : b < w.heap.size
  · have := h b hb ((notW_below w A |>.block b hlt).symm.trans hB)
    omega
  · by_cases h2 : b = w.heap.size + 1 + 1
    · subst h2
      have h3 := (notW_list w A).symm.trans hB
      injection h3 with h3
      injection h3 with h3
      have := hc _ h3
      omega
    · have hl := hB.lt
      rw [notW_size] at hl
      omega
theorem one_lt {w : World} {B : Nat} {q : Q} {a0 a1 a2 a3 : Value} (h : QAt w B q [a0, a1, a2, a3]) : ∀ b, #[a0, a1, a2, a3] = #[.int .i64 7, .string ⟨#[]⟩, .slice none 0 0, .slice (some ⟨b, 0, none⟩) 1 1] → b < B := by
  intro b e
  obtain ⟨k, nm, ws, l⟩ := q
  obtain ⟨A, n, c, C, m, d, e2, hI⟩ := h.is
  simp only [Array.mk.injEq, List.cons.injEq, and_true] at e
  simp only [List.cons.injEq, and_true] at e2
  rw [e.2.2.2] at e2
  obtain ⟨_, _, _, e3⟩ := e2
  injection e3 with e3 e4
  obtain ⟨b', o, v, e5, hb, _⟩ := hI.kid 0 (by rw [hI.lm, ← e4]; omega)
  rw [← e3] at e5
  injection e5 with e5
  injection e5 with e5
  omega
theorem far4 {w : World} {g pb : Nat} {ty : TypeId} {cs : Array Value} (h : Blk w g ty cs) (hne : g ≠ pb) (u0 u1 u2 u3 : Value) : Blk ((((w.setCell ⟨pb, 0, none⟩ u0).setCell ⟨pb, 1, none⟩ u1).setCell ⟨pb, 2, none⟩ u2).setCell ⟨pb, 3, none⟩ u3) g ty cs :=
  (((h.far (p := ⟨pb, 0, none⟩) hne u0).far (p := ⟨pb, 1, none⟩) hne u1).far (p := ⟨pb, 2, none⟩) hne u2).far (p := ⟨pb, 3, none⟩) hne u3
/-- What 'not' hands back, and what lasts of it. -/
def NotF (B : Nat) (A : Array Value) (s : Nat) (w : World) : Prop := B ≤ s ∧ Blk w (s + 1) 37 #[.int .i64 7, .string ⟨#[]⟩, .slice none 0 0, .slice (some ⟨s + 1 + 1, 0, none⟩) 1 1] ∧ Blk w (s + 1 + 1) 37 A
theorem NotF.last {B : Nat} {A : Array Value} (s : Nat) (w1 w2 : World) (hg : Below w1.heap.size w1 w2) (h : NotF B A s w1) : NotF B A s w2 := ⟨h.1, h.2.1.below hg h.2.1.lt, h.2.2.below hg h.2.2.lt⟩
/-- What the list of two is, and what lasts of it. -/
def TwoF (B : Nat) (A A' : Array Value) (x : Nat × Nat × Nat) (w : World) : Prop := Blk w x.1 37 #[.int .i64 7, .string ⟨#[]⟩, .slice none 0 0, .slice (some ⟨x.2.1 + 1 + 1, 0, none⟩) 1 1, .int .i64 7, .string ⟨#[]⟩, .slice none 0 0, .slice (some ⟨x.2.2 + 1 + 1, 0, none⟩) 1 1] ∧ NotF B A x.2.1 w ∧ NotF B A' x.2.2 w
theorem TwoF.last {B : Nat} {A A' : Array Value} (x : Nat × Nat × Nat) (w1 w2 : World) (hg : Below w1.heap.size w1 w2) (h : TwoF B A A' x w1) : TwoF B A A' x w2 := ⟨h.1.below hg h.1.lt, h.2.1.last _ _ _ hg, h.2.2.last _ _ _ hg⟩
/-- What the box is, and what lasts of it. -/
def BoxF (B : Nat) (p : Nat) (w : World) : Prop := Blk w p 37 #[.int .i64 0, .string ⟨#[]⟩, .slice none 0 0, .slice none 0 0] ∧ B ≤ p ∧ ∀ b, B ≤ b → b + 1 = p → ¬ Blk w b 37 #[.int .i64 7, .string ⟨#[]⟩, .slice none 0 0, .slice (some ⟨b + 1, 0, none⟩) 1 1]
theorem BoxF.last {B : Nat} (p : Nat) (w1 w2 : World) (hg : Below w1.heap.size w1 w2) (h : BoxF B p w1) : BoxF B p w2 :=
  ⟨h.1.below hg h.1.lt, h.2.1, fun b hb e hB => h.2.2 b hb e ((hg.block b (by have := h.1.lt; omega)).symm.trans hB)⟩
theorem BoxF.apart {B : Nat} {A : Array Value} {p s : Nat} {w : World} (h : BoxF B p w) (hn : NotF B A s w) : s + 1 + 1 ≠ p := fun e => h.2.2 (s + 1) (by have := hn.1; omega) e hn.2.1
theorem QAt.shape {w : World} {B : Nat} {q : Q} {vs : List Value} (h : QAt w B q vs) : ∃ k nm A n c C m d, vs = [.int .i64 k, .string nm, .slice A n c, .slice C m d] := by
  cases h
  exact ⟨_, _, _, _, _, _, _, _, rfl⟩
/-- Fields do not lie where an event lies. -/
theorem reads_ev {w : World} {eb n i : Nat} {F F0 : Option Addr} {fs : List (ByteArray × ByteArray)} {t : Int} {n0 c0 : Nat} (h : Reads w w.heap.size 2 F n (fldC fs)) (hl : fs.length = n) (hE : Blk w eb 49 #[.int .i64 t, .slice F0 n0 c0]) (u : Value) :
    Reads (w.setCell ⟨eb, i, none⟩ u) (w.setCell ⟨eb, i, none⟩ u).heap.size 2 F n (fldC fs) := by
  refine ⟨h.1, fun hn => ?_⟩
  obtain ⟨b, o, e, hb, hc⟩ := h.2 hn
  have hne : eb ≠ b := by
    intro e
    subst e
    have h0 := hc 0 (.string fs[0].1) (by have := (fldC_get fs 0 (by omega)).1; simpa using this)
    rw [Nat.add_zero, hE.cell o] at h0
    match o with
    | 0 => simp at h0
    | 1 => simp at h0
    | o + 2 => simp at h0
  refine ⟨b, o, e, by simpa using hb, fun j x hj => ?_⟩
  have h5 : (w.setCell ⟨eb, i, none⟩ u).cell? ⟨b, o + j, none⟩ = w.cell? ⟨b, o + j, none⟩ := by
    apply World.cell?_setCell_other
    intro e
    exact hne (congrArg Addr.block e)
  rw [h5]
  exact hc j x hj

set_option maxHeartbeats 12800000 in
theorem matchLogic_walk (p q : Q) (hp : QSz p) (hq : QSz q) (a0 a1 a2 a3 b0 b1 b2 b3 : Value) (t : Int) (F : Option Addr) (fn fc : Nat) (fs : List (ByteArray × ByteArray)) (w : World) (hP : QAt w w.heap.size p [a0, a1, a2, a3]) (hQ : QAt w w.heap.size q [b0, b1, b2, b3])
    (hR : Reads w w.heap.size 2 F fn (fldC fs)) (hl : fs.length = fn) (hn : fn ≤ 8796093021952) (hfc : fn ≤ fc) (hnil : F = none → fc = 0) (hs : ∀ f ∈ fs, f.1.size ≤ 140737488351232 ∧ f.2.size ≤ 140737488351232) :
    Calls Try.prog 12 #[.agg #[a0, a1, a2, a3], .agg #[b0, b1, b2, b3], .agg #[.int .i64 t, .slice F fn fc]] w fun e w' => e = .returned (.bool true) ∧ Below w.heap.size w w' := by
  obtain ⟨k0, nm, WA, m, wc, CA, n1, c2, e⟩ := hP.shape
  simp only [List.cons.injEq, and_true] at e
  obtain ⟨rfl, rfl, rfl, rfl⟩ := e
  obtain ⟨k1, nm', WB, m', wd, CB, n2, c3, e⟩ := hQ.shape
  simp only [List.cons.injEq, and_true] at e
  obtain ⟨rfl, rfl, rfl, rfl⟩ := e
  have HP := Lib.hid hP
  have HQ := Lib.hid hQ
  have Hp := Lib.hid hp
  have Hq := Lib.hid hq
  have hA3 := ((Blk.new w 37 #[.int .i64 k0, .string nm, .slice WA m wc, .slice CA n1 c2]).alloc (.cells #[.int .i64 k1, .string nm', .slice WB m' wd, .slice CB n2 c3] 37)).alloc (.cells #[.int .i64 t, .slice F fn fc] 49)
  have hB3 := (Blk.new (w.alloc (.cells #[.int .i64 k0, .string nm, .slice WA m wc, .slice CA n1 c2] 37)) 37 #[.int .i64 k1, .string nm', .slice WB m' wd, .slice CB n2 c3]).alloc (.cells #[.int .i64 t, .slice F fn fc] 49)
  have hE3 := Blk.new ((w.alloc (.cells #[.int .i64 k0, .string nm, .slice WA m wc, .slice CA n1 c2] 37)).alloc (.cells #[.int .i64 k1, .string nm', .slice WB m' wd, .slice CB n2 c3] 37)) 49 #[.int .i64 t, .slice F fn fc]
  have hb3 : Below w.heap.size w (((w.alloc (.cells #[.int .i64 k0, .string nm, .slice WA m wc, .slice CA n1 c2] 37)).alloc (.cells #[.int .i64 k1, .string nm', .slice WB m' wd, .slice CB n2 c3] 37)).alloc (.cells #[.int .i64 t, .slice F fn fc] 49)) := (((Below.refl _ _).alloc (Nat.le_refl _) _).alloc (by simp) _).alloc (by simp; omega) _
  rw [World.size_alloc] at hB3
  rw [World.size_alloc, World.size_alloc] at hE3
  have hz3 : w.heap.size + 1 + 1 < (((w.alloc (.cells #[.int .i64 k0, .string nm, .slice WA m wc, .slice CA n1 c2] 37)).alloc (.cells #[.int .i64 k1, .string nm', .slice WB m' wd, .slice CB n2 c3] 37)).alloc (.cells #[.int .i64 t, .slice F fn fc] 49)).heap.size := by simp
  have HR := Lib.hid hR
  clear hP hQ hp hq hR
  go_enter Try.func12, Try.ntmps12
  go_wp2_with fail
  generalize ((w.alloc (.cells #[.int .i64 k0, .string nm, .slice WA m wc, .slice CA n1 c2] 37)).alloc (.cells #[.int .i64 k1, .string nm', .slice WB m' wd, .slice CB n2 c3] 37)).alloc (.cells #[.int .i64 t, .slice F fn fc] 49) = w3 at *
  have HA3 := Lib.hid hA3
  have HB3 := Lib.hid hB3
  have HE3 := Lib.hid hE3
  have Hb3 := Lib.hid hb3
  clear hA3 hB3 hE3 hb3
  refine (weigh_any p Hp.out w3 _ _ _ _ (HP.out.grow Hb3.out)).mono ?_
  rintro e w4 ⟨⟨r1, rfl⟩, hb4⟩
  have HA4 := Lib.hid (HA3.out.below hb4 (by omega))
  have HB4 := Lib.hid (HB3.out.below hb4 (by omega))
  have HE4 := Lib.hid (HE3.out.below hb4 (by omega))
  have Hb4 := Lib.hid (Hb3.out.trans (hb4.mono Hb3.out.size))
  have hz4 := Nat.lt_of_lt_of_le hz3 hb4.size
  have g0 := HB4.out.cell 0
  have g1 := HB4.out.cell 1
  have g2 := HB4.out.cell 2
  have g3 := HB4.out.cell 3
  clear hb4 hz3 HA3 HB3 HE3 Hb3
  by_cases hr1 : (100 : Int) < r1
  case pos =>
    go_wp2_with fail
    refine (awake_any _).mono ?_
    rintro e w5 ⟨rfl, hb5⟩
    have Hb5 := Lib.hid (Hb4.out.trans (hb5.mono Hb4.out.size))
    clear hb5
    go_wp2
    go_ret
    exact ⟨rfl, Hb5.out⟩
  case neg =>
    go_wp2_with fail
    refine (weigh_any q Hq.out w4 _ _ _ _ (HQ.out.grow Hb4.out)).mono ?_
    rintro e w5 ⟨⟨r2, rfl⟩, hb5⟩
    have HA5 := Lib.hid (HA4.out.below hb5 (by omega))
    have HB5 := Lib.hid (HB4.out.below hb5 (by omega))
    have HE5 := Lib.hid (HE4.out.below hb5 (by omega))
    have Hb5 := Lib.hid (Hb4.out.trans (hb5.mono Hb4.out.size))
    have hz5 := Nat.lt_of_lt_of_le hz4 hb5.size
    clear hb5 hz4 HA4 HB4 HE4 Hb4 g0 g1 g2 g3
    by_cases hr2 : (100 : Int) < r2
    case pos =>
      go_wp2_with fail
      refine (awake_any _).mono ?_
      rintro e w6 ⟨rfl, hb6⟩
      have Hb6 := Lib.hid (Hb5.out.trans (hb6.mono Hb5.out.size))
      clear hb6
      go_wp2
      go_ret
      exact ⟨rfl, Hb6.out⟩
    case neg =>
      have g0 := HE5.out.cell 0
      have g1 := HE5.out.cell 1
      have hDoc := Blk.new w5 80 #[.int .i64 0, .int .i64 t, .slice F fn fc]
      have hb5a : Below w5.heap.size w5 (w5.alloc (.cells #[.int .i64 0, .int .i64 t, .slice F fn fc] 80)) := (Below.refl _ _).alloc (Nat.le_refl _) _
      have hD5 : DocsAt (w5.alloc (.cells #[.int .i64 0, .int .i64 t, .slice F fn fc] 80)) (w5.alloc (.cells #[.int .i64 0, .int .i64 t, .slice F fn fc] 80)).heap.size (some ⟨w5.heap.size, 0, none⟩) 1 [⟨0, t, fs⟩] := by
        refine ⟨rfl, [[.int .i64 0, .int .i64 t, .slice F fn fc]], rfl, ⟨rfl, fun _ => ⟨w5.heap.size, 0, rfl, by simp, fun j u hu => ?_⟩⟩, fun i hi hi' => ?_⟩
        · rw [Nat.zero_add, hDoc.cell j]
          simpa using hu
        · obtain rfl : i = 0 := by simp at hi; omega
          exact ⟨F, fn, fc, rfl, reads_grow (Hb5.out.trans (hb5a.mono Hb5.out.size)) HR.out, hl, hn, hfc, hnil⟩
      have cf := fewD_any (some ⟨w5.heap.size, 0, none⟩) 1 1 [⟨0, t, fs⟩] _ hD5 (by decide) (fun d hd f hf => by simp at hd; subst hd; exact (hs f hf).2)
      have hsm := fewD_small [⟨0, t, fs⟩]
      have hfe : fewD [⟨0, t, fs⟩] = [⟨0, t, (fs.take 8).map cutF⟩] := rfl
      rw [hfe] at cf hsm
      generalize (fs.take 8).map cutF = fs1 at *
      have HA5a := Lib.hid (HA5.out.below hb5a (by omega))
      have HB5a := Lib.hid (HB5.out.below hb5a (by omega))
      have HE5a := Lib.hid (HE5.out.below hb5a (by omega))
      have Hb5a := Lib.hid (Hb5.out.trans (hb5a.mono Hb5.out.size))
      have hz5a := Nat.lt_of_lt_of_le hz5 hb5a.size
      have Hsm := Lib.hid hsm
      clear hDoc hb5a hD5 hfe HA5 HB5 HE5 Hb5 hsm
      go_wp2_with fail
      generalize w5.alloc (.cells #[.int .i64 0, .int .i64 t, .slice F fn fc] 80) = w5a at *
      refine cf.mono ?_
      rintro e w6 ⟨v6, rfl, hO6⟩
      obtain ⟨A6, c6, rfl, hD6⟩ := hO6.read
      obtain ⟨b6, o6, F6, n6, f6, rfl, hl6, q0, q1, q2, hR6, hln6, hfn6, _, _⟩ := hD6.at_ (i := 0) (by simp)
      have hb6 := hO6.bel
      have hE6 := HE5a.out.below hb6 hz5a
      have HA6 := Lib.hid (HA5a.out.below hb6 (by omega))
      have HB6 := Lib.hid (HB5a.out.below hb6 (by omega))
      have hz6 := Nat.lt_of_lt_of_le hz5a hb6.size
      have Hb6 := Lib.hid (Hb5a.out.trans (hb6.mono Hb5a.out.size))
      simp only [List.getElem_cons_zero, Nat.zero_mul, Nat.add_zero] at q0 q1 q2 hR6 hln6
      have hE7 : Blk ((w6.setCell ⟨w.heap.size + 1 + 1, 0, none⟩ (.int .i64 t)).setCell ⟨w.heap.size + 1 + 1, 1, none⟩ (.slice F6 n6 f6)) (w.heap.size + 1 + 1) 49 #[.int .i64 t, .slice F6 n6 f6] := (hE6.set_ 0 (.int .i64 t)).set_ 1 (.slice F6 n6 f6)
      have hA7 := (HA6.out.far (p := ⟨w.heap.size + 1 + 1, 0, none⟩) (by show w.heap.size ≠ w.heap.size + 1 + 1; omega) (.int .i64 t)).far (p := ⟨w.heap.size + 1 + 1, 1, none⟩) (by show w.heap.size ≠ w.heap.size + 1 + 1; omega) (.slice F6 n6 f6)
      have hB7 := (HB6.out.far (p := ⟨w.heap.size + 1 + 1, 0, none⟩) (by show w.heap.size + 1 ≠ w.heap.size + 1 + 1; omega) (.int .i64 t)).far (p := ⟨w.heap.size + 1 + 1, 1, none⟩) (by show w.heap.size + 1 ≠ w.heap.size + 1 + 1; omega) (.slice F6 n6 f6)
      have hb7 := (Hb6.out.setCell (p := ⟨w.heap.size + 1 + 1, 0, none⟩) (by show w.heap.size ≤ w.heap.size + 1 + 1; omega) (.int .i64 t)).setCell (p := ⟨w.heap.size + 1 + 1, 1, none⟩) (by show w.heap.size ≤ w.heap.size + 1 + 1; omega) (.slice F6 n6 f6)
      have hR7 := reads_ev (i := 1) (reads_ev (i := 0) hR6 hln6 hE6 (.int .i64 t)) hln6 (hE6.set_ 0 (.int .i64 t)) (.slice F6 n6 f6)
      have g4 := hE6.cell 0
      have g5 := hE6.cell 1
      have g6 := hE6.frozen 0
      have g7 := hE6.frozen 1
      have hz7 : w.heap.size + 1 + 1 < ((w6.setCell ⟨w.heap.size + 1 + 1, 0, none⟩ (.int .i64 t)).setCell ⟨w.heap.size + 1 + 1, 1, none⟩ (.slice F6 n6 f6)).heap.size := by simpa using hz6
      have HE7 := Lib.hid hE7
      have HA7 := Lib.hid hA7
      have HB7 := Lib.hid hB7
      have Hb7 := Lib.hid hb7
      have HR7 := Lib.hid hR7
      clear cf hO6 hD6 hR6 hb6 hE6 HA6 HB6 Hb6 hE7 hA7 hB7 hb7 hR7 HA5a HB5a HE5a Hb5a hz5a g0 g1
      go_wp2_with fail
      generalize (w6.setCell ⟨w.heap.size + 1 + 1, 0, none⟩ (.int .i64 t)).setCell ⟨w.heap.size + 1 + 1, 1, none⟩ (.slice F6 n6 f6) = w7 at *
      clear g4 g5 g6 g7 q0 q1 q2
      have hev : ∀ wx, Below w7.heap.size w7 wx → EvAt wx F6 n6 fs1 := fun wx hC => ev_of (reads_grow hC HR7.out) hln6 (Hsm.out ⟨0, t, fs1⟩ (List.mem_singleton.2 rfl)).1 (Hsm.out ⟨0, t, fs1⟩ (List.mem_singleton.2 rfl)).2
      have Hev := Lib.hid hev
      have hcells : ∀ wx, Below w7.heap.size w7 wx → wx.cell? ⟨w.heap.size, 0, none⟩ = some (.int .i64 k0) ∧ wx.cell? ⟨w.heap.size, 1, none⟩ = some (.string nm) ∧ wx.cell? ⟨w.heap.size, 2, none⟩ = some (.slice WA m wc) ∧ wx.cell? ⟨w.heap.size, 3, none⟩ = some (.slice CA n1 c2) ∧
          wx.cell? ⟨w.heap.size + 1, 0, none⟩ = some (.int .i64 k1) ∧ wx.cell? ⟨w.heap.size + 1, 1, none⟩ = some (.string nm') ∧ wx.cell? ⟨w.heap.size + 1, 2, none⟩ = some (.slice WB m' wd) ∧ wx.cell? ⟨w.heap.size + 1, 3, none⟩ = some (.slice CB n2 c3) ∧
          wx.cell? ⟨w.heap.size + 1 + 1, 0, none⟩ = some (.int .i64 t) ∧ wx.cell? ⟨w.heap.size + 1 + 1, 1, none⟩ = some (.slice F6 n6 f6) := fun wx hC =>
        have hA := HA7.out.below hC (by omega)
        have hB := HB7.out.below hC (by omega)
        have hE := HE7.out.below hC (by omega)
        ⟨hA.cell 0, hA.cell 1, hA.cell 2, hA.cell 3, hB.cell 0, hB.cell 1, hB.cell 2, hB.cell 3, hE.cell 0, hE.cell 1⟩
      have hcells' := Lib.hid hcells
      have CP : Hid (∀ wx, Below w7.heap.size w7 wx → Calls Try.prog 55 #[.agg #[.int .i64 k0, .string nm, .slice WA m wc, .slice CA n1 c2], .agg #[.int .i64 t, .slice F6 n6 f6]] wx fun e w' => e = .returned (.bool (matchB fs1 p)) ∧ Below wx.heap.size wx w') := Lib.hid (fun wx hC => match_any fs1 p Hp.out wx _ _ _ _ _ F6 n6 f6 (HP.out.grow (Hb7.out.trans (hC.mono Hb7.out.size))) (Hev.out wx hC))
      have CQ : Hid (∀ wx, Below w7.heap.size w7 wx → Calls Try.prog 55 #[.agg #[.int .i64 k1, .string nm', .slice WB m' wd, .slice CB n2 c3], .agg #[.int .i64 t, .slice F6 n6 f6]] wx fun e w' => e = .returned (.bool (matchB fs1 q)) ∧ Below wx.heap.size wx w') := Lib.hid (fun wx hC => match_any fs1 q Hq.out wx _ _ _ _ _ F6 n6 f6 (HQ.out.grow (Hb7.out.trans (hC.mono Hb7.out.size))) (Hev.out wx hC))
      clear hcells hev HA7 HB7 HE7 HR7 Hsm hs
      refine wp_region_grow (specOf [(2, ⟨Unit, fun _ => (.bool (matchB fs1 p)), fun _ _ => True⟩), (5, ⟨Unit, fun _ => (.bool (matchB fs1 q)), fun _ _ => True⟩)]) (fun wx => Below (World.heap w7).size w7 wx) (fun w1 w2 => Below w1.heap.size w1 w2) (by kernel_rfl) (by kernel_rfl) (stab_cons (fun _ _ _ _ h => h) (stab_cons (fun _ _ _ _ h => h) (stab_nil))) (Below.refl _ _).drew ?_
      refine grow_fix 1 ?_ rfl (by rfl) (by rfl) (fun wx hC hD => ?_) ?_
      rotate_left
      · have hSw := hcells'.out wx hC
        go_simp
        all_goals with_reducible rfl
      try simp only [Act.put, List.setIfInBounds_toArray, List.set_cons_zero, List.set_cons_succ]
      refine grow_fix 2 ?_ rfl (by rfl) (by rfl) (fun wx hC hD => ?_) ?_
      rotate_left
      · have hSw := hcells'.out wx hC
        go_simp
        all_goals with_reducible rfl
      try simp only [Act.put, List.setIfInBounds_toArray, List.set_cons_zero, List.set_cons_succ]
      refine grow_give 3 _ rfl (by rfl) (by rfl) (fun wx hC hD => ?_) (fun x => ?_)
      · refine give_enter (f := ?_) (args := ?_) ?_ ?_
        rotate_left 2
        · have hSw := hcells'.out wx hC
          go_simp
          all_goals first | with_reducible rfl | (refine ⟨?_, ?_⟩ <;> with_reducible rfl)
        exact calls_cst hC (CP.out wx hC)
      obtain ⟨⟩ := x
      try simp only [Act.put, List.setIfInBounds_toArray, List.set_cons_zero, List.set_cons_succ]
      refine grow_fix 4 ?_ rfl (by rfl) (by rfl) (fun wx hC hD => ?_) ?_
      rotate_left
      · have hSw := hcells'.out wx hC
        go_simp
        all_goals with_reducible rfl
      try simp only [Act.put, List.setIfInBounds_toArray, List.set_cons_zero, List.set_cons_succ]
      refine grow_fix 5 ?_ rfl (by rfl) (by rfl) (fun wx hC hD => ?_) ?_
      rotate_left
      · have hSw := hcells'.out wx hC
        go_simp
        all_goals with_reducible rfl
      try simp only [Act.put, List.setIfInBounds_toArray, List.set_cons_zero, List.set_cons_succ]
      refine grow_give 6 _ rfl (by rfl) (by rfl) (fun wx hC hD => ?_) (fun x => ?_)
      · refine give_enter (f := ?_) (args := ?_) ?_ ?_
        rotate_left 2
        · have hSw := hcells'.out wx hC
          go_simp
          all_goals first | with_reducible rfl | (refine ⟨?_, ?_⟩ <;> with_reducible rfl)
        exact calls_cst hC (CQ.out wx hC)
      obtain ⟨⟩ := x
      try simp only [Act.put, List.setIfInBounds_toArray, List.set_cons_zero, List.set_cons_succ]
      refine grow_fix 7 ?_ rfl (by rfl) (by rfl) (fun wx hC hD => ?_) ?_
      rotate_left
      · have hSw := hcells'.out wx hC
        go_simp
        all_goals with_reducible rfl
      try simp only [Act.put, List.setIfInBounds_toArray, List.set_cons_zero, List.set_cons_succ]
      refine grow_fix 8 ?_ rfl (by rfl) (by rfl) (fun wx hC hD => ?_) ?_
      rotate_left
      · have hSw := hcells'.out wx hC
        go_simp
        all_goals with_reducible rfl
      try simp only [Act.put, List.setIfInBounds_toArray, List.set_cons_zero, List.set_cons_succ]
      refine grow_nil (fun w8 hC hF => ?_)
      have Hr8 := Lib.hid hC
      have hcells8 := Lib.hid (fun wx (h : Below w8.heap.size w8 wx) => hcells'.out wx (Hr8.out.trans (h.mono Hr8.out.size)))
      have Hb8 := Lib.hid (Hb7.out.trans (hC.mono Hb7.out.size))
      have hb8c : Below w8.heap.size w8 ((w8.alloc (.cells #[.int .i64 k0, .string nm, .slice WA m wc, .slice CA n1 c2, .int .i64 k1, .string nm', .slice WB m' wd, .slice CB n2 c3] 37)).alloc (.cells #[.int .i64 5, .string ⟨#[]⟩, .slice none 0 0, .slice (some ⟨w8.heap.size, 0, none⟩) 2 2] 37)) := ((Below.refl _ _).alloc (Nat.le_refl _) _).alloc (by simp) _
      obtain ⟨g0, g1, g2, g3, g4, g5, g6, g7, _, _⟩ := hcells8.out w8 (Below.refl _ _)
      obtain ⟨q0, q1, q2, q3, q4, q5, q6, q7, _, _⟩ := hcells8.out _ hb8c
      clear hF hC hcells' CP CQ Hb7 hb8c
      go_wp2_with fail
      have hS4 := Blk.new (((w8.alloc (.cells #[.int .i64 k0, .string nm, .slice WA m wc, .slice CA n1 c2, .int .i64 k1, .string nm', .slice WB m' wd, .slice CB n2 c3] 37)).alloc (.cells #[.int .i64 5, .string ⟨#[]⟩, .slice none 0 0, .slice (some ⟨w8.heap.size, 0, none⟩) 2 2] 37)).alloc (.cells #[.int .i64 k0, .string nm, .slice WA m wc, .slice CA n1 c2, .int .i64 k1, .string nm', .slice WB m' wd, .slice CB n2 c3] 37)) 37 #[.int .i64 6, .string ⟨#[]⟩, .slice none 0 0, .slice (some ⟨w8.heap.size + 1 + 1, 0, none⟩) 2 2]
      have hL4 := (Blk.new ((w8.alloc (.cells #[.int .i64 k0, .string nm, .slice WA m wc, .slice CA n1 c2, .int .i64 k1, .string nm', .slice WB m' wd, .slice CB n2 c3] 37)).alloc (.cells #[.int .i64 5, .string ⟨#[]⟩, .slice none 0 0, .slice (some ⟨w8.heap.size, 0, none⟩) 2 2] 37)) 37 #[.int .i64 k0, .string nm, .slice WA m wc, .slice CA n1 c2, .int .i64 k1, .string nm', .slice WB m' wd, .slice CB n2 c3]).alloc (.cells #[.int .i64 6, .string ⟨#[]⟩, .slice none 0 0, .slice (some ⟨w8.heap.size + 1 + 1, 0, none⟩) 2 2] 37)
      have hT4 := ((Blk.new (w8.alloc (.cells #[.int .i64 k0, .string nm, .slice WA m wc, .slice CA n1 c2, .int .i64 k1, .string nm', .slice WB m' wd, .slice CB n2 c3] 37)) 37 #[.int .i64 5, .string ⟨#[]⟩, .slice none 0 0, .slice (some ⟨w8.heap.size, 0, none⟩) 2 2]).alloc (.cells #[.int .i64 k0, .string nm, .slice WA m wc, .slice CA n1 c2, .int .i64 k1, .string nm', .slice WB m' wd, .slice CB n2 c3] 37)).alloc (.cells #[.int .i64 6, .string ⟨#[]⟩, .slice none 0 0, .slice (some ⟨w8.heap.size + 1 + 1, 0, none⟩) 2 2] 37)
      have hM4 := (((Blk.new w8 37 #[.int .i64 k0, .string nm, .slice WA m wc, .slice CA n1 c2, .int .i64 k1, .string nm', .slice WB m' wd, .slice CB n2 c3]).alloc (.cells #[.int .i64 5, .string ⟨#[]⟩, .slice none 0 0, .slice (some ⟨w8.heap.size, 0, none⟩) 2 2] 37)).alloc (.cells #[.int .i64 k0, .string nm, .slice WA m wc, .slice CA n1 c2, .int .i64 k1, .string nm', .slice WB m' wd, .slice CB n2 c3] 37)).alloc (.cells #[.int .i64 6, .string ⟨#[]⟩, .slice none 0 0, .slice (some ⟨w8.heap.size + 1 + 1, 0, none⟩) 2 2] 37)
      have hb9 : Below w8.heap.size w8 ((((w8.alloc (.cells #[.int .i64 k0, .string nm, .slice WA m wc, .slice CA n1 c2, .int .i64 k1, .string nm', .slice WB m' wd, .slice CB n2 c3] 37)).alloc (.cells #[.int .i64 5, .string ⟨#[]⟩, .slice none 0 0, .slice (some ⟨w8.heap.size, 0, none⟩) 2 2] 37)).alloc (.cells #[.int .i64 k0, .string nm, .slice WA m wc, .slice CA n1 c2, .int .i64 k1, .string nm', .slice WB m' wd, .slice CB n2 c3] 37)).alloc (.cells #[.int .i64 6, .string ⟨#[]⟩, .slice none 0 0, .slice (some ⟨w8.heap.size + 1 + 1, 0, none⟩) 2 2] 37)) := ((((Below.refl _ _).alloc (Nat.le_refl _) _).alloc (by simp) _).alloc (by simp; omega) _).alloc (by simp; omega) _
      rw [World.size_alloc, World.size_alloc, World.size_alloc] at hS4
      rw [World.size_alloc, World.size_alloc] at hL4
      rw [World.size_alloc] at hT4
      clear g0 g1 g2 g3 g4 g5 g6 g7 q0 q1 q2 q3 q4 q5 q6 q7
      generalize ((((w8.alloc (.cells #[.int .i64 k0, .string nm, .slice WA m wc, .slice CA n1 c2, .int .i64 k1, .string nm', .slice WB m' wd, .slice CB n2 c3] 37)).alloc (.cells #[.int .i64 5, .string ⟨#[]⟩, .slice none 0 0, .slice (some ⟨w8.heap.size, 0, none⟩) 2 2] 37)).alloc (.cells #[.int .i64 k0, .string nm, .slice WA m wc, .slice CA n1 c2, .int .i64 k1, .string nm', .slice WB m' wd, .slice CB n2 c3] 37)).alloc (.cells #[.int .i64 6, .string ⟨#[]⟩, .slice none 0 0, .slice (some ⟨w8.heap.size + 1 + 1, 0, none⟩) 2 2] 37)) = w9 at *
      have hb9' : Below w.heap.size w w9 := Hb8.out.trans (hb9.mono Hb8.out.size)
      have Hcells9 := Lib.hid (fun wx (h : Below w9.heap.size w9 wx) => hcells8.out wx (hb9.trans (h.mono hb9.size)))
      have Hr11 := Lib.hid (Hr8.out.trans (hb9.mono Hr8.out.size))
      generalize w8.heap.size = z8 at *
      have HU : Hid (QAt w9 w9.heap.size (.mk 5 ByteArray.empty [] [p, q]) [.int .i64 5, .string ⟨#[]⟩, .slice none 0 0, .slice (some ⟨z8, 0, none⟩) 2 2]) := Lib.hid (qat_two hM4 (HP.out.grow hb9') (HQ.out.grow hb9'))
      have HV : Hid (QAt w9 w9.heap.size (.mk 6 ByteArray.empty [] [p, q]) [.int .i64 6, .string ⟨#[]⟩, .slice none 0 0, .slice (some ⟨z8 + 1 + 1, 0, none⟩) 2 2]) := Lib.hid (qat_two hL4 (HP.out.grow hb9') (HQ.out.grow hb9'))
      have hPA : Hid (∀ b, #[Value.int .i64 k0, .string nm, .slice WA m wc, .slice CA n1 c2] = #[.int .i64 7, .string ⟨#[]⟩, .slice none 0 0, .slice (some ⟨b, 0, none⟩) 1 1] → b < w9.heap.size) := Lib.hid (one_lt (HP.out.grow hb9'))
      have hPB : Hid (∀ b, #[Value.int .i64 k1, .string nm', .slice WB m' wd, .slice CB n2 c3] = #[.int .i64 7, .string ⟨#[]⟩, .slice none 0 0, .slice (some ⟨b, 0, none⟩) 1 1] → b < w9.heap.size) := Lib.hid (one_lt (HQ.out.grow hb9'))
      have Hb9 := Lib.hid hb9'
      have HT9 := Lib.hid hT4
      have HS9 := Lib.hid hS4
      clear hb9 hb9' hT4 hS4 hL4 hM4 hcells8 Hr8 Hb8
      refine wp_region_grow_tail 7 (specOf [(1, ⟨Nat, fun x => .agg #[.int .i64 7, .string ⟨#[]⟩, .slice none 0 0, .slice (some ⟨x + 1 + 1, 0, none⟩) 1 1], NotF w9.heap.size #[Value.int .i64 k0, .string nm, .slice WA m wc, .slice CA n1 c2]⟩), (3, ⟨Nat, fun x => .agg #[.int .i64 7, .string ⟨#[]⟩, .slice none 0 0, .slice (some ⟨x + 1 + 1, 0, none⟩) 1 1], NotF w9.heap.size #[Value.int .i64 k1, .string nm', .slice WB m' wd, .slice CB n2 c3]⟩), (4, ⟨Nat × Nat × Nat, fun x => .slice (some ⟨x.1, 0, none⟩) 2 2, TwoF w9.heap.size #[Value.int .i64 k0, .string nm, .slice WA m wc, .slice CA n1 c2] #[Value.int .i64 k1, .string nm', .slice WB m' wd, .slice CB n2 c3]⟩), (6, ⟨Nat, fun x => .pointer (some ⟨x, 0, none⟩), BoxF w9.heap.size⟩)]) (fun wx => Below w9.heap.size w9 wx ∧ JJ w9.heap.size wx) (fun w1 w2 => Below w1.heap.size w1 w2) (by kernel_rfl) (by kernel_rfl) (stab_cons (fun x w1 w2 hg h => NotF.last x w1 w2 hg h) (stab_cons (fun x w1 w2 hg h => NotF.last x w1 w2 hg h) (stab_cons (fun x w1 w2 hg h => TwoF.last x w1 w2 hg h) (stab_cons (fun x w1 w2 hg h => BoxF.last x w1 w2 hg h) (stab_nil))))) (⟨(Below.refl _ _).drew, fun b hb hB => absurd (show b < w9.heap.size from hB.lt) (by omega)⟩) ?_
      simp only [List.take_succ_cons, List.take_zero, List.drop_succ_cons, List.drop_zero]
      refine grow_fix 1 ?_ rfl (by rfl) (by rfl) (fun wx hC hD => ?_) ?_
      rotate_left
      · have hSw := (fun wx (hC : Below w9.heap.size w9 wx ∧ JJ w9.heap.size wx) => Hcells9.out wx hC.1) wx hC
        go_simp
        all_goals with_reducible rfl
      try simp only [Act.put, List.setIfInBounds_toArray, List.set_cons_zero, List.set_cons_succ]
      refine grow_give 2 _ rfl (by rfl) (by rfl) (fun wx hC hD => ?_) (fun x => ?_)
      · refine give_enter (f := ?_) (args := ?_) ?_ ?_
        rotate_left 2
        · have hSw := (fun wx (hC : Below w9.heap.size w9 wx ∧ JJ w9.heap.size wx) => Hcells9.out wx hC.1) wx hC
          go_simp
          all_goals first | with_reducible rfl | (refine ⟨?_, ?_⟩ <;> with_reducible rfl)
        refine (not_any _ _ _ _ wx ⟨_, _, _, _, _, _, _, _, rfl⟩).mono ?_
        rintro e w1 ⟨rfl, hw1⟩
        subst hw1
        have hbn := notW_below wx #[Value.int .i64 k0, .string nm, .slice WA m wc, .slice CA n1 c2]
        exact ⟨_, rfl, hbn, ⟨hC.1.trans (hbn.mono hC.1.size), jj_not hC.2 (fun b e => Nat.lt_of_lt_of_le (hPA.out b e) hC.1.size)⟩, wx.heap.size, rfl, hC.1.size, notW_res _ _, notW_list _ _⟩
      rename Nat => s1
      try simp only [Act.put, List.setIfInBounds_toArray, List.set_cons_zero, List.set_cons_succ]
      refine grow_fix 3 ?_ rfl (by rfl) (by rfl) (fun wx hC hD => ?_) ?_
      rotate_left
      · have hSw := (fun wx (hC : Below w9.heap.size w9 wx ∧ JJ w9.heap.size wx) => Hcells9.out wx hC.1) wx hC
        go_simp
        all_goals with_reducible rfl
      try simp only [Act.put, List.setIfInBounds_toArray, List.set_cons_zero, List.set_cons_succ]
      refine grow_give 4 _ rfl (by rfl) (by rfl) (fun wx hC hD => ?_) (fun x => ?_)
      · refine give_enter (f := ?_) (args := ?_) ?_ ?_
        rotate_left 2
        · have hSw := (fun wx (hC : Below w9.heap.size w9 wx ∧ JJ w9.heap.size wx) => Hcells9.out wx hC.1) wx hC
          go_simp
          all_goals first | with_reducible rfl | (refine ⟨?_, ?_⟩ <;> with_reducible rfl)
        refine (not_any _ _ _ _ wx ⟨_, _, _, _, _, _, _, _, rfl⟩).mono ?_
        rintro e w1 ⟨rfl, hw1⟩
        subst hw1
        have hbn := notW_below wx #[Value.int .i64 k1, .string nm', .slice WB m' wd, .slice CB n2 c3]
        exact ⟨_, rfl, hbn, ⟨hC.1.trans (hbn.mono hC.1.size), jj_not hC.2 (fun b e => Nat.lt_of_lt_of_le (hPB.out b e) hC.1.size)⟩, wx.heap.size, rfl, hC.1.size, notW_res _ _, notW_list _ _⟩
      rename Nat => s2
      try simp only [Act.put, List.setIfInBounds_toArray, List.set_cons_zero, List.set_cons_succ]
      refine grow_give 5 _ rfl (by rfl) (by rfl) (fun wx hC hD => ?_) (fun x => ?_)
      · refine give_value (u := ?_) (w' := ?_) ?_ ?_ ?_
        rotate_left 2
        · have hSw := (fun wx (hC : Below w9.heap.size w9 wx ∧ JJ w9.heap.size wx) => Hcells9.out wx hC.1) wx hC
          go_simp
          all_goals first | with_reducible rfl | (refine ⟨?_, ?_⟩ <;> with_reducible rfl)
        · exact (Below.refl _ _).alloc (Nat.le_refl _) _
        · refine ⟨⟨hC.1.alloc hC.1.size _, jj_alloc hC.2 (fun b e => by simp at e)⟩, (wx.heap.size, s1, s2), rfl, Blk.new _ _ _, (upd_hit (upd_miss (deps_get hD 1 (by kernel_rfl)) (by decide)) (by decide)).last _ _ _ ((Below.refl _ _).alloc (Nat.le_refl _) _), (upd_hit (deps_get hD 3 (by kernel_rfl)) (by decide)).last _ _ _ ((Below.refl _ _).alloc (Nat.le_refl _) _)⟩
      obtain ⟨g, u1, u2⟩ := x
      try simp only [Act.put, List.setIfInBounds_toArray, List.set_cons_zero, List.set_cons_succ]
      refine grow_fix 6 ?_ rfl (by rfl) (by rfl) (fun wx hC hD => ?_) ?_
      rotate_left
      · have hSw := (fun wx (hC : Below w9.heap.size w9 wx ∧ JJ w9.heap.size wx) => Hcells9.out wx hC.1) wx hC
        go_simp
        all_goals with_reducible rfl
      try simp only [Act.put, List.setIfInBounds_toArray, List.set_cons_zero, List.set_cons_succ]
      refine grow_give 7 _ rfl (by rfl) (by rfl) (fun wx hC hD => ?_) (fun x => ?_)
      · refine give_value (u := ?_) (w' := ?_) ?_ ?_ ?_
        rotate_left 2
        · have hSw := (fun wx (hC : Below w9.heap.size w9 wx ∧ JJ w9.heap.size wx) => Hcells9.out wx hC.1) wx hC
          go_simp
          all_goals first | with_reducible rfl | (refine ⟨?_, ?_⟩ <;> with_reducible rfl)
        · exact (Below.refl _ _).alloc (Nat.le_refl _) _
        · refine ⟨⟨hC.1.alloc hC.1.size _, jj_alloc hC.2 (fun b e => by simp at e)⟩, wx.heap.size, rfl, Blk.new _ _ _, hC.1.size, fun b hb e hB => ?_⟩
          have hx := hC.2 b hb (((Below.heap_alloc wx _ b (by omega)).symm.trans hB))
          omega
      rename Nat => pb
      try simp only [Act.put, List.setIfInBounds_toArray, List.set_cons_zero, List.set_cons_succ]
      refine grow_nil (fun w10 hC hF => ?_)
      have f4 := upd_hit (upd_miss (hF 4) (by decide)) (by decide)
      have f6 := upd_hit (hF 6) (by decide)
      have hbx : Below w9.heap.size w9 w10 := hC.1
      clear hF hC
      obtain ⟨fG, fA, fB⟩ := f4
      have nA : u1 + 1 + 1 ≠ pb := f6.apart fA
      have nB : u2 + 1 + 1 ≠ pb := f6.apart fB
      have nG : g ≠ pb := fun e => by
        subst e
        have h := f6.1.symm.trans fG
        injection h with h
        injection h with h
        have := congrArg Array.size h
        simp at this
      have k1 := far4 fG nG (.int .i64 5) (.string ⟨#[]⟩) (.slice none 0 0) (.slice (some ⟨g, 0, none⟩) 2 2)
      have k2 := far4 fA.2.2 nA (.int .i64 5) (.string ⟨#[]⟩) (.slice none 0 0) (.slice (some ⟨g, 0, none⟩) 2 2)
      have k3 := far4 fB.2.2 nB (.int .i64 5) (.string ⟨#[]⟩) (.slice none 0 0) (.slice (some ⟨g, 0, none⟩) 2 2)
      have k4 : Blk ((((w10.setCell ⟨pb, 0, none⟩ (.int .i64 5)).setCell ⟨pb, 1, none⟩ (.string ⟨#[]⟩)).setCell ⟨pb, 2, none⟩ (.slice none 0 0)).setCell ⟨pb, 3, none⟩ (.slice (some ⟨g, 0, none⟩) 2 2)) pb 37 #[.int .i64 5, .string ⟨#[]⟩, .slice none 0 0, .slice (some ⟨g, 0, none⟩) 2 2] := (((f6.1.set_ 0 _).set_ 1 _).set_ 2 _).set_ 3 _
      have hb11 : Below w9.heap.size w9 ((((w10.setCell ⟨pb, 0, none⟩ (.int .i64 5)).setCell ⟨pb, 1, none⟩ (.string ⟨#[]⟩)).setCell ⟨pb, 2, none⟩ (.slice none 0 0)).setCell ⟨pb, 3, none⟩ (.slice (some ⟨g, 0, none⟩) 2 2)) := (((hbx.setCell (p := ⟨pb, 0, none⟩) f6.2.1 _).setCell (p := ⟨pb, 1, none⟩) f6.2.1 _).setCell (p := ⟨pb, 2, none⟩) f6.2.1 _).setCell (p := ⟨pb, 3, none⟩) f6.2.1 _
      have c0 := f6.1.cell 0
      have c1 := f6.1.cell 1
      have c2' := f6.1.cell 2
      have c3' := f6.1.cell 3
      have d0 := f6.1.frozen 0
      have d1 := f6.1.frozen 1
      have d2 := f6.1.frozen 2
      have d3 := f6.1.frozen 3
      have K1 := Lib.hid k1
      have K2 := Lib.hid k2
      have K3 := Lib.hid k3
      have K4 := Lib.hid k4
      have H11 := Lib.hid hb11
      clear k1 k2 k3 k4 hb11 fG fA fB f6 nA nB nG hbx
      show wpList _ _ _ _ _ _
      go_wp2_with fail
      generalize ((((w10.setCell ⟨pb, 0, none⟩ (.int .i64 5)).setCell ⟨pb, 1, none⟩ (.string ⟨#[]⟩)).setCell ⟨pb, 2, none⟩ (.slice none 0 0)).setCell ⟨pb, 3, none⟩ (.slice (some ⟨g, 0, none⟩) 2 2)) = w11 at *
      clear c0 c1 c2' c3' d0 d1 d2 d3
      have hb11 : Below w.heap.size w w11 := Hb9.out.trans (H11.out.mono Hb9.out.size)
      have qp := HP.out.grow hb11
      have qq := HQ.out.grow hb11
      have HN : Hid (QAt w11 w11.heap.size (.mk 5 ByteArray.empty [] [.mk 7 ByteArray.empty [] [p], .mk 7 ByteArray.empty [] [q]]) [.int .i64 5, .string ⟨#[]⟩, .slice none 0 0, .slice (some ⟨g, 0, none⟩) 2 2]) := Lib.hid (qat_two K1.out (qat_one K2.out qp) (qat_one K3.out qq))
      have HU1 := Lib.hid (HU.out.grow H11.out)
      have HV1 := Lib.hid (HV.out.grow H11.out)
      have HP1 := Lib.hid qp
      have Hev1 : Hid (∀ wx, Below w11.heap.size w11 wx → EvAt wx F6 n6 fs1) := Lib.hid (fun wx h => Hev.out wx (Hr11.out.trans (H11.out.mono Hr11.out.size |>.trans (h.mono (Nat.le_trans Hr11.out.size H11.out.size)))))
      have hT := HT9.out.below H11.out HT9.out.lt
      have hS := HS9.out.below H11.out HS9.out.lt
      have hN := K4.out
      have hcellsX : ∀ wx, Below w11.heap.size w11 wx → _ := fun wx (hC : Below w11.heap.size w11 wx) =>
        have hT' := hT.below hC hT.lt
        have hS' := hS.below hC hS.lt
        have hN' := hN.below hC hN.lt
        And.intro (Hcells9.out wx (H11.out.trans (hC.mono H11.out.size))) (And.intro (And.intro (hT'.cell 0) (And.intro (hT'.cell 1) (And.intro (hT'.cell 2) (hT'.cell 3)))) (And.intro (And.intro (hS'.cell 0) (And.intro (hS'.cell 1) (And.intro (hS'.cell 2) (hS'.cell 3)))) (And.intro (hN'.cell 0) (And.intro (hN'.cell 1) (And.intro (hN'.cell 2) (hN'.cell 3))))))
      have HcX := Lib.hid hcellsX
      have Hb11 := Lib.hid hb11
      have v1 : matchB fs1 (.mk 5 ByteArray.empty [] [p, q]) = (matchB fs1 p && matchB fs1 q) := by simp [matchB_eq]
      have v2 : matchB fs1 (.mk 6 ByteArray.empty [] [p, q]) = (matchB fs1 p || matchB fs1 q) := by simp [matchB_eq]
      have v3 : matchB fs1 (.mk 7 ByteArray.empty [] [.mk 6 ByteArray.empty [] [p, q]]) = !(matchB fs1 p || matchB fs1 q) := by rw [matchB_eq, ← v2]; simp [matchNone]
      have v4 : matchB fs1 (.mk 5 ByteArray.empty [] [.mk 7 ByteArray.empty [] [p], .mk 7 ByteArray.empty [] [q]]) = (!matchB fs1 p && !matchB fs1 q) := by rw [matchB_eq]; simp [matchB_eq, matchNone]
      have v5 : matchB fs1 (.mk 7 ByteArray.empty [] [.mk 7 ByteArray.empty [] [p]]) = matchB fs1 p := by rw [matchB_eq]; simp [matchNone, matchB_eq]
      have V1 := Lib.hid v1
      have V2 := Lib.hid v2
      have V3 := Lib.hid v3
      have V4 := Lib.hid v4
      have V5 := Lib.hid v5
      clear hcellsX hT hS hN hb11 qp qq v1 v2 v3 v4 v5 HU HV HT9 HS9 K1 K2 K3 K4 Hcells9 Hev
      generalize hx : matchB fs1 p = x at *
      generalize hy : matchB fs1 q = y at *
      clear hx hy
      cases x <;> cases y
      · simp only [Bool.and_true, Bool.and_false, Bool.or_true, Bool.or_false, Bool.not_true, Bool.not_false] at V1 V2 V3 V4 V5
        refine wp_region_grow (specOf [(2, ⟨Unit, fun _ => (.bool false), fun _ _ => True⟩), (11, ⟨Unit, fun _ => (.bool false), fun _ _ => True⟩), (20, ⟨Nat, fun x => .agg #[.int .i64 7, .string ⟨#[]⟩, .slice none 0 0, .slice (some ⟨x + 1 + 1, 0, none⟩) 1 1], fun x w' => QAt w' w'.heap.size (.mk 7 ByteArray.empty [] [.mk 6 ByteArray.empty [] [p, q]]) [.int .i64 7, .string ⟨#[]⟩, .slice none 0 0, .slice (some ⟨x + 1 + 1, 0, none⟩) 1 1]⟩), (22, ⟨Unit, fun _ => (.bool true), fun _ _ => True⟩), (25, ⟨Unit, fun _ => (.bool true), fun _ _ => True⟩), (30, ⟨Nat, fun x => .agg #[.int .i64 7, .string ⟨#[]⟩, .slice none 0 0, .slice (some ⟨x + 1 + 1, 0, none⟩) 1 1], fun x w' => QAt w' w'.heap.size (.mk 7 ByteArray.empty [] [p]) [.int .i64 7, .string ⟨#[]⟩, .slice none 0 0, .slice (some ⟨x + 1 + 1, 0, none⟩) 1 1]⟩), (31, ⟨Nat, fun x => .agg #[.int .i64 7, .string ⟨#[]⟩, .slice none 0 0, .slice (some ⟨x + 1 + 1, 0, none⟩) 1 1], fun x w' => QAt w' w'.heap.size (.mk 7 ByteArray.empty [] [.mk 7 ByteArray.empty [] [p]]) [.int .i64 7, .string ⟨#[]⟩, .slice none 0 0, .slice (some ⟨x + 1 + 1, 0, none⟩) 1 1]⟩), (33, ⟨Unit, fun _ => (.bool false), fun _ _ => True⟩), (38, ⟨Unit, fun _ => (.bool true), fun _ _ => True⟩)]) (fun wx => Below (World.heap w11).size w11 wx) (fun w1 w2 => Below w1.heap.size w1 w2) (by kernel_rfl) (by kernel_rfl) (stab_cons (fun _ _ _ _ h => h) (stab_cons (fun _ _ _ _ h => h) (stab_cons (fun x w1 w2 hg h => h.grow hg) (stab_cons (fun _ _ _ _ h => h) (stab_cons (fun _ _ _ _ h => h) (stab_cons (fun x w1 w2 hg h => h.grow hg) (stab_cons (fun x w1 w2 hg h => h.grow hg) (stab_cons (fun _ _ _ _ h => h) (stab_cons (fun _ _ _ _ h => h) (stab_nil)))))))))) (Below.refl _ _).drew ?_
        refine grow_fix 1 ?_ rfl (by rfl) (by rfl) (fun wx hC hD => ?_) ?_
        rotate_left
        · have hSw := HcX.out wx hC
          go_simp
          all_goals with_reducible rfl
        try simp only [Act.put, List.setIfInBounds_toArray, List.set_cons_zero, List.set_cons_succ]
        refine grow_fix 2 ?_ rfl (by rfl) (by rfl) (fun wx hC hD => ?_) ?_
        rotate_left
        · have hSw := HcX.out wx hC
          go_simp
          all_goals with_reducible rfl
        try simp only [Act.put, List.setIfInBounds_toArray, List.set_cons_zero, List.set_cons_succ]
        refine grow_give 3 _ rfl (by rfl) (by rfl) (fun wx hC hD => ?_) (fun x => ?_)
        · refine give_enter (f := ?_) (args := ?_) ?_ ?_
          rotate_left 2
          · have hSw := HcX.out wx hC
            go_simp
            all_goals first | with_reducible rfl | (refine ⟨?_, ?_⟩ <;> with_reducible rfl)
          have hm := match_any fs1 (.mk 5 ByteArray.empty [] [p, q]) (qsz_two Hp.out Hq.out) wx _ _ _ _ t F6 n6 f6 (HU1.out.grow hC) (Hev1.out wx hC)
          rw [V1.out] at hm
          exact calls_cst hC hm
        obtain ⟨⟩ := x
        try simp only [Act.put, List.setIfInBounds_toArray, List.set_cons_zero, List.set_cons_succ]
        refine grow_fix 4 ?_ rfl (by rfl) (by rfl) (fun wx hC hD => ?_) ?_
        rotate_left
        · have hSw := HcX.out wx hC
          go_simp
          all_goals with_reducible rfl
        try simp only [Act.put, List.setIfInBounds_toArray, List.set_cons_zero, List.set_cons_succ]
        refine grow_fix 5 ?_ rfl (by rfl) (by rfl) (fun wx hC hD => ?_) ?_
        rotate_left
        · have hSw := HcX.out wx hC
          go_simp
          all_goals with_reducible rfl
        try simp only [Act.put, List.setIfInBounds_toArray, List.set_cons_zero, List.set_cons_succ]
        refine grow_skip 6 (some false) true rfl (by rfl) (by rfl) (by rfl) ?_
        try simp only [Act.put, List.setIfInBounds_toArray, List.set_cons_zero, List.set_cons_succ]
        refine grow_fix 7 ?_ rfl (by rfl) (by rfl) (fun wx hC hD => ?_) ?_
        rotate_left
        · have hSw := HcX.out wx hC
          go_simp
          all_goals with_reducible rfl
        try simp only [Act.put, List.setIfInBounds_toArray, List.set_cons_zero, List.set_cons_succ]
        refine grow_fix 8 ?_ rfl (by rfl) (by rfl) (fun wx hC hD => ?_) ?_
        rotate_left
        · have hSw := HcX.out wx hC
          go_simp
          all_goals with_reducible rfl
        try simp only [Act.put, List.setIfInBounds_toArray, List.set_cons_zero, List.set_cons_succ]
        refine grow_fix 9 ?_ rfl (by rfl) (by rfl) (fun wx hC hD => ?_) ?_
        rotate_left
        · have hSw := HcX.out wx hC
          go_simp
          all_goals with_reducible rfl
        try simp only [Act.put, List.setIfInBounds_toArray, List.set_cons_zero, List.set_cons_succ]
        refine grow_fix 10 ?_ rfl (by rfl) (by rfl) (fun wx hC hD => ?_) ?_
        rotate_left
        · have hSw := HcX.out wx hC
          go_simp
          all_goals with_reducible rfl
        try simp only [Act.put, List.setIfInBounds_toArray, List.set_cons_zero, List.set_cons_succ]
        refine grow_fix 11 ?_ rfl (by rfl) (by rfl) (fun wx hC hD => ?_) ?_
        rotate_left
        · have hSw := HcX.out wx hC
          go_simp
          all_goals with_reducible rfl
        try simp only [Act.put, List.setIfInBounds_toArray, List.set_cons_zero, List.set_cons_succ]
        refine grow_give 12 _ rfl (by rfl) (by rfl) (fun wx hC hD => ?_) (fun x => ?_)
        · refine give_enter (f := ?_) (args := ?_) ?_ ?_
          rotate_left 2
          · have hSw := HcX.out wx hC
            go_simp
            all_goals first | with_reducible rfl | (refine ⟨?_, ?_⟩ <;> with_reducible rfl)
          have hm := match_any fs1 (.mk 6 ByteArray.empty [] [p, q]) (qsz_two Hp.out Hq.out) wx _ _ _ _ t F6 n6 f6 (HV1.out.grow hC) (Hev1.out wx hC)
          rw [V2.out] at hm
          exact calls_cst hC hm
        obtain ⟨⟩ := x
        try simp only [Act.put, List.setIfInBounds_toArray, List.set_cons_zero, List.set_cons_succ]
        refine grow_fix 13 ?_ rfl (by rfl) (by rfl) (fun wx hC hD => ?_) ?_
        rotate_left
        · have hSw := HcX.out wx hC
          go_simp
          all_goals with_reducible rfl
        try simp only [Act.put, List.setIfInBounds_toArray, List.set_cons_zero, List.set_cons_succ]
        refine grow_fix 14 ?_ rfl (by rfl) (by rfl) (fun wx hC hD => ?_) ?_
        rotate_left
        · have hSw := HcX.out wx hC
          go_simp
          all_goals with_reducible rfl
        try simp only [Act.put, List.setIfInBounds_toArray, List.set_cons_zero, List.set_cons_succ]
        refine grow_fix 15 ?_ rfl (by rfl) (by rfl) (fun wx hC hD => ?_) ?_
        rotate_left
        · have hSw := HcX.out wx hC
          go_simp
          all_goals with_reducible rfl
        try simp only [Act.put, List.setIfInBounds_toArray, List.set_cons_zero, List.set_cons_succ]
        refine grow_fix 16 ?_ rfl (by rfl) (by rfl) (fun wx hC hD => ?_) ?_
        rotate_left
        · have hSw := HcX.out wx hC
          go_simp
          all_goals with_reducible rfl
        try simp only [Act.put, List.setIfInBounds_toArray, List.set_cons_zero, List.set_cons_succ]
        refine grow_fix 17 ?_ rfl (by rfl) (by rfl) (fun wx hC hD => ?_) ?_
        rotate_left
        · have hSw := HcX.out wx hC
          go_simp
          all_goals with_reducible rfl
        try simp only [Act.put, List.setIfInBounds_toArray, List.set_cons_zero, List.set_cons_succ]
        refine grow_fix 18 ?_ rfl (by rfl) (by rfl) (fun wx hC hD => ?_) ?_
        rotate_left
        · have hSw := HcX.out wx hC
          go_simp
          all_goals with_reducible rfl
        try simp only [Act.put, List.setIfInBounds_toArray, List.set_cons_zero, List.set_cons_succ]
        refine grow_fix 19 ?_ rfl (by rfl) (by rfl) (fun wx hC hD => ?_) ?_
        rotate_left
        · have hSw := HcX.out wx hC
          go_simp
          all_goals with_reducible rfl
        try simp only [Act.put, List.setIfInBounds_toArray, List.set_cons_zero, List.set_cons_succ]
        refine grow_fix 20 ?_ rfl (by rfl) (by rfl) (fun wx hC hD => ?_) ?_
        rotate_left
        · have hSw := HcX.out wx hC
          go_simp
          all_goals with_reducible rfl
        try simp only [Act.put, List.setIfInBounds_toArray, List.set_cons_zero, List.set_cons_succ]
        refine grow_give 21 _ rfl (by rfl) (by rfl) (fun wx hC hD => ?_) (fun x => ?_)
        · refine give_enter (f := ?_) (args := ?_) ?_ ?_
          rotate_left 2
          · have hSw := HcX.out wx hC
            go_simp
            all_goals first | with_reducible rfl | (refine ⟨?_, ?_⟩ <;> with_reducible rfl)
          refine (not_any _ _ _ _ wx ⟨_, _, _, _, _, _, _, _, rfl⟩).mono ?_
          rintro e w1 ⟨rfl, hw1⟩
          subst hw1
          exact ⟨_, rfl, notW_below _ _, hC.trans ((notW_below _ _).mono hC.size), wx.heap.size, rfl, qat_one (notW_list _ _) (QAt.grow (HV1.out.grow hC) (notW_below _ _))⟩
        rename Nat => s1
        try simp only [Act.put, List.setIfInBounds_toArray, List.set_cons_zero, List.set_cons_succ]
        refine grow_fix 22 ?_ rfl (by rfl) (by rfl) (fun wx hC hD => ?_) ?_
        rotate_left
        · have hSw := HcX.out wx hC
          go_simp
          all_goals with_reducible rfl
        try simp only [Act.put, List.setIfInBounds_toArray, List.set_cons_zero, List.set_cons_succ]
        refine grow_give 23 _ rfl (by rfl) (by rfl) (fun wx hC hD => ?_) (fun x => ?_)
        · refine give_enter (f := ?_) (args := ?_) ?_ ?_
          rotate_left 2
          · have hSw := HcX.out wx hC
            go_simp
            all_goals first | with_reducible rfl | (refine ⟨?_, ?_⟩ <;> with_reducible rfl)
          have hm := match_any fs1 (.mk 7 ByteArray.empty [] [.mk 6 ByteArray.empty [] [p, q]]) (qsz_one (qsz_two Hp.out Hq.out)) wx _ _ _ _ t F6 n6 f6 (upd_hit (deps_get hD 20 (by kernel_rfl)) (by decide)) (Hev1.out wx hC)
          rw [V3.out] at hm
          exact calls_cst hC hm
        obtain ⟨⟩ := x
        try simp only [Act.put, List.setIfInBounds_toArray, List.set_cons_zero, List.set_cons_succ]
        refine grow_fix 24 ?_ rfl (by rfl) (by rfl) (fun wx hC hD => ?_) ?_
        rotate_left
        · have hSw := HcX.out wx hC
          go_simp
          all_goals with_reducible rfl
        try simp only [Act.put, List.setIfInBounds_toArray, List.set_cons_zero, List.set_cons_succ]
        refine grow_fix 25 ?_ rfl (by rfl) (by rfl) (fun wx hC hD => ?_) ?_
        rotate_left
        · have hSw := HcX.out wx hC
          go_simp
          all_goals with_reducible rfl
        try simp only [Act.put, List.setIfInBounds_toArray, List.set_cons_zero, List.set_cons_succ]
        refine grow_give 26 _ rfl (by rfl) (by rfl) (fun wx hC hD => ?_) (fun x => ?_)
        · refine give_enter (f := ?_) (args := ?_) ?_ ?_
          rotate_left 2
          · have hSw := HcX.out wx hC
            go_simp
            all_goals first | with_reducible rfl | (refine ⟨?_, ?_⟩ <;> with_reducible rfl)
          have hm := match_any fs1 (.mk 5 ByteArray.empty [] [.mk 7 ByteArray.empty [] [p], .mk 7 ByteArray.empty [] [q]]) (qsz_two (qsz_one Hp.out) (qsz_one Hq.out)) wx _ _ _ _ t F6 n6 f6 (HN.out.grow hC) (Hev1.out wx hC)
          rw [V4.out] at hm
          exact calls_cst hC hm
        obtain ⟨⟩ := x
        try simp only [Act.put, List.setIfInBounds_toArray, List.set_cons_zero, List.set_cons_succ]
        refine grow_fix 27 ?_ rfl (by rfl) (by rfl) (fun wx hC hD => ?_) ?_
        rotate_left
        · have hSw := HcX.out wx hC
          go_simp
          all_goals with_reducible rfl
        try simp only [Act.put, List.setIfInBounds_toArray, List.set_cons_zero, List.set_cons_succ]
        refine grow_fix 28 ?_ rfl (by rfl) (by rfl) (fun wx hC hD => ?_) ?_
        rotate_left
        · have hSw := HcX.out wx hC
          go_simp
          all_goals with_reducible rfl
        try simp only [Act.put, List.setIfInBounds_toArray, List.set_cons_zero, List.set_cons_succ]
        refine grow_fix 29 ?_ rfl (by rfl) (by rfl) (fun wx hC hD => ?_) ?_
        rotate_left
        · have hSw := HcX.out wx hC
          go_simp
          all_goals with_reducible rfl
        try simp only [Act.put, List.setIfInBounds_toArray, List.set_cons_zero, List.set_cons_succ]
        refine grow_fix 30 ?_ rfl (by rfl) (by rfl) (fun wx hC hD => ?_) ?_
        rotate_left
        · have hSw := HcX.out wx hC
          go_simp
          all_goals with_reducible rfl
        try simp only [Act.put, List.setIfInBounds_toArray, List.set_cons_zero, List.set_cons_succ]
        refine grow_give 31 _ rfl (by rfl) (by rfl) (fun wx hC hD => ?_) (fun x => ?_)
        · refine give_enter (f := ?_) (args := ?_) ?_ ?_
          rotate_left 2
          · have hSw := HcX.out wx hC
            go_simp
            all_goals first | with_reducible rfl | (refine ⟨?_, ?_⟩ <;> with_reducible rfl)
          refine (not_any _ _ _ _ wx ⟨_, _, _, _, _, _, _, _, rfl⟩).mono ?_
          rintro e w1 ⟨rfl, hw1⟩
          subst hw1
          exact ⟨_, rfl, notW_below _ _, hC.trans ((notW_below _ _).mono hC.size), wx.heap.size, rfl, qat_one (notW_list _ _) (QAt.grow (HP1.out.grow hC) (notW_below _ _))⟩
        rename Nat => s2
        try simp only [Act.put, List.setIfInBounds_toArray, List.set_cons_zero, List.set_cons_succ]
        refine grow_give 32 _ rfl (by rfl) (by rfl) (fun wx hC hD => ?_) (fun x => ?_)
        · refine give_enter (f := ?_) (args := ?_) ?_ ?_
          rotate_left 2
          · have hSw := HcX.out wx hC
            go_simp
            all_goals first | with_reducible rfl | (refine ⟨?_, ?_⟩ <;> with_reducible rfl)
          refine (not_any _ _ _ _ wx ⟨_, _, _, _, _, _, _, _, rfl⟩).mono ?_
          rintro e w1 ⟨rfl, hw1⟩
          subst hw1
          exact ⟨_, rfl, notW_below _ _, hC.trans ((notW_below _ _).mono hC.size), wx.heap.size, rfl, qat_one (notW_list _ _) (QAt.grow (upd_hit (deps_get hD 30 (by kernel_rfl)) (by decide)) (notW_below _ _))⟩
        rename Nat => pb
        try simp only [Act.put, List.setIfInBounds_toArray, List.set_cons_zero, List.set_cons_succ]
        refine grow_fix 33 ?_ rfl (by rfl) (by rfl) (fun wx hC hD => ?_) ?_
        rotate_left
        · have hSw := HcX.out wx hC
          go_simp
          all_goals with_reducible rfl
        try simp only [Act.put, List.setIfInBounds_toArray, List.set_cons_zero, List.set_cons_succ]
        refine grow_give 34 _ rfl (by rfl) (by rfl) (fun wx hC hD => ?_) (fun x => ?_)
        · refine give_enter (f := ?_) (args := ?_) ?_ ?_
          rotate_left 2
          · have hSw := HcX.out wx hC
            go_simp
            all_goals first | with_reducible rfl | (refine ⟨?_, ?_⟩ <;> with_reducible rfl)
          have hm := match_any fs1 (.mk 7 ByteArray.empty [] [.mk 7 ByteArray.empty [] [p]]) (qsz_one (qsz_one Hp.out)) wx _ _ _ _ t F6 n6 f6 (upd_hit (deps_get hD 31 (by kernel_rfl)) (by decide)) (Hev1.out wx hC)
          rw [V5.out] at hm
          exact calls_cst hC hm
        obtain ⟨⟩ := x
        try simp only [Act.put, List.setIfInBounds_toArray, List.set_cons_zero, List.set_cons_succ]
        refine grow_fix 35 ?_ rfl (by rfl) (by rfl) (fun wx hC hD => ?_) ?_
        rotate_left
        · have hSw := HcX.out wx hC
          go_simp
          all_goals with_reducible rfl
        try simp only [Act.put, List.setIfInBounds_toArray, List.set_cons_zero, List.set_cons_succ]
        refine grow_fix 36 ?_ rfl (by rfl) (by rfl) (fun wx hC hD => ?_) ?_
        rotate_left
        · have hSw := HcX.out wx hC
          go_simp
          all_goals with_reducible rfl
        try simp only [Act.put, List.setIfInBounds_toArray, List.set_cons_zero, List.set_cons_succ]
        refine grow_fix 37 ?_ rfl (by rfl) (by rfl) (fun wx hC hD => ?_) ?_
        rotate_left
        · have hSw := HcX.out wx hC
          go_simp
          all_goals with_reducible rfl
        try simp only [Act.put, List.setIfInBounds_toArray, List.set_cons_zero, List.set_cons_succ]
        refine grow_fix 38 ?_ rfl (by rfl) (by rfl) (fun wx hC hD => ?_) ?_
        rotate_left
        · have hSw := HcX.out wx hC
          go_simp
          all_goals with_reducible rfl
        try simp only [Act.put, List.setIfInBounds_toArray, List.set_cons_zero, List.set_cons_succ]
        refine grow_give 39 _ rfl (by rfl) (by rfl) (fun wx hC hD => ?_) (fun x => ?_)
        · refine give_enter (f := ?_) (args := ?_) ?_ ?_
          rotate_left 2
          · have hSw := HcX.out wx hC
            go_simp
            all_goals first | with_reducible rfl | (refine ⟨?_, ?_⟩ <;> with_reducible rfl)
          exact calls_cst hC (awake_any wx)
        obtain ⟨⟩ := x
        try simp only [Act.put, List.setIfInBounds_toArray, List.set_cons_zero, List.set_cons_succ]
        refine grow_fix 40 ?_ rfl (by rfl) (by rfl) (fun wx hC hD => ?_) ?_
        rotate_left
        · have hSw := HcX.out wx hC
          go_simp
          all_goals with_reducible rfl
        try simp only [Act.put, List.setIfInBounds_toArray, List.set_cons_zero, List.set_cons_succ]
        refine grow_fix 41 ?_ rfl (by rfl) (by rfl) (fun wx hC hD => ?_) ?_
        rotate_left
        · have hSw := HcX.out wx hC
          go_simp
          all_goals with_reducible rfl
        try simp only [Act.put, List.setIfInBounds_toArray, List.set_cons_zero, List.set_cons_succ]
        refine grow_nil (fun w12 hC hF => ?_)
        have Hb12 := Lib.hid (Hb11.out.trans (hC.mono Hb11.out.size))
        clear hF hC
        go_wp2
        go_ret
        exact ⟨rfl, Hb12.out⟩
      · simp only [Bool.and_true, Bool.and_false, Bool.or_true, Bool.or_false, Bool.not_true, Bool.not_false] at V1 V2 V3 V4 V5
        refine wp_region_grow (specOf [(2, ⟨Unit, fun _ => (.bool false), fun _ _ => True⟩), (11, ⟨Unit, fun _ => (.bool true), fun _ _ => True⟩), (20, ⟨Nat, fun x => .agg #[.int .i64 7, .string ⟨#[]⟩, .slice none 0 0, .slice (some ⟨x + 1 + 1, 0, none⟩) 1 1], fun x w' => QAt w' w'.heap.size (.mk 7 ByteArray.empty [] [.mk 6 ByteArray.empty [] [p, q]]) [.int .i64 7, .string ⟨#[]⟩, .slice none 0 0, .slice (some ⟨x + 1 + 1, 0, none⟩) 1 1]⟩), (22, ⟨Unit, fun _ => (.bool false), fun _ _ => True⟩), (25, ⟨Unit, fun _ => (.bool false), fun _ _ => True⟩), (30, ⟨Nat, fun x => .agg #[.int .i64 7, .string ⟨#[]⟩, .slice none 0 0, .slice (some ⟨x + 1 + 1, 0, none⟩) 1 1], fun x w' => QAt w' w'.heap.size (.mk 7 ByteArray.empty [] [p]) [.int .i64 7, .string ⟨#[]⟩, .slice none 0 0, .slice (some ⟨x + 1 + 1, 0, none⟩) 1 1]⟩), (31, ⟨Nat, fun x => .agg #[.int .i64 7, .string ⟨#[]⟩, .slice none 0 0, .slice (some ⟨x + 1 + 1, 0, none⟩) 1 1], fun x w' => QAt w' w'.heap.size (.mk 7 ByteArray.empty [] [.mk 7 ByteArray.empty [] [p]]) [.int .i64 7, .string ⟨#[]⟩, .slice none 0 0, .slice (some ⟨x + 1 + 1, 0, none⟩) 1 1]⟩), (33, ⟨Unit, fun _ => (.bool false), fun _ _ => True⟩), (38, ⟨Unit, fun _ => (.bool true), fun _ _ => True⟩)]) (fun wx => Below (World.heap w11).size w11 wx) (fun w1 w2 => Below w1.heap.size w1 w2) (by kernel_rfl) (by kernel_rfl) (stab_cons (fun _ _ _ _ h => h) (stab_cons (fun _ _ _ _ h => h) (stab_cons (fun x w1 w2 hg h => h.grow hg) (stab_cons (fun _ _ _ _ h => h) (stab_cons (fun _ _ _ _ h => h) (stab_cons (fun x w1 w2 hg h => h.grow hg) (stab_cons (fun x w1 w2 hg h => h.grow hg) (stab_cons (fun _ _ _ _ h => h) (stab_cons (fun _ _ _ _ h => h) (stab_nil)))))))))) (Below.refl _ _).drew ?_
        refine grow_fix 1 ?_ rfl (by rfl) (by rfl) (fun wx hC hD => ?_) ?_
        rotate_left
        · have hSw := HcX.out wx hC
          go_simp
          all_goals with_reducible rfl
        try simp only [Act.put, List.setIfInBounds_toArray, List.set_cons_zero, List.set_cons_succ]
        refine grow_fix 2 ?_ rfl (by rfl) (by rfl) (fun wx hC hD => ?_) ?_
        rotate_left
        · have hSw := HcX.out wx hC
          go_simp
          all_goals with_reducible rfl
        try simp only [Act.put, List.setIfInBounds_toArray, List.set_cons_zero, List.set_cons_succ]
        refine grow_give 3 _ rfl (by rfl) (by rfl) (fun wx hC hD => ?_) (fun x => ?_)
        · refine give_enter (f := ?_) (args := ?_) ?_ ?_
          rotate_left 2
          · have hSw := HcX.out wx hC
            go_simp
            all_goals first | with_reducible rfl | (refine ⟨?_, ?_⟩ <;> with_reducible rfl)
          have hm := match_any fs1 (.mk 5 ByteArray.empty [] [p, q]) (qsz_two Hp.out Hq.out) wx _ _ _ _ t F6 n6 f6 (HU1.out.grow hC) (Hev1.out wx hC)
          rw [V1.out] at hm
          exact calls_cst hC hm
        obtain ⟨⟩ := x
        try simp only [Act.put, List.setIfInBounds_toArray, List.set_cons_zero, List.set_cons_succ]
        refine grow_fix 4 ?_ rfl (by rfl) (by rfl) (fun wx hC hD => ?_) ?_
        rotate_left
        · have hSw := HcX.out wx hC
          go_simp
          all_goals with_reducible rfl
        try simp only [Act.put, List.setIfInBounds_toArray, List.set_cons_zero, List.set_cons_succ]
        refine grow_fix 5 ?_ rfl (by rfl) (by rfl) (fun wx hC hD => ?_) ?_
        rotate_left
        · have hSw := HcX.out wx hC
          go_simp
          all_goals with_reducible rfl
        try simp only [Act.put, List.setIfInBounds_toArray, List.set_cons_zero, List.set_cons_succ]
        refine grow_skip 6 (some false) true rfl (by rfl) (by rfl) (by rfl) ?_
        try simp only [Act.put, List.setIfInBounds_toArray, List.set_cons_zero, List.set_cons_succ]
        refine grow_fix 7 ?_ rfl (by rfl) (by rfl) (fun wx hC hD => ?_) ?_
        rotate_left
        · have hSw := HcX.out wx hC
          go_simp
          all_goals with_reducible rfl
        try simp only [Act.put, List.setIfInBounds_toArray, List.set_cons_zero, List.set_cons_succ]
        refine grow_fix 8 ?_ rfl (by rfl) (by rfl) (fun wx hC hD => ?_) ?_
        rotate_left
        · have hSw := HcX.out wx hC
          go_simp
          all_goals with_reducible rfl
        try simp only [Act.put, List.setIfInBounds_toArray, List.set_cons_zero, List.set_cons_succ]
        refine grow_fix 9 ?_ rfl (by rfl) (by rfl) (fun wx hC hD => ?_) ?_
        rotate_left
        · have hSw := HcX.out wx hC
          go_simp
          all_goals with_reducible rfl
        try simp only [Act.put, List.setIfInBounds_toArray, List.set_cons_zero, List.set_cons_succ]
        refine grow_fix 10 ?_ rfl (by rfl) (by rfl) (fun wx hC hD => ?_) ?_
        rotate_left
        · have hSw := HcX.out wx hC
          go_simp
          all_goals with_reducible rfl
        try simp only [Act.put, List.setIfInBounds_toArray, List.set_cons_zero, List.set_cons_succ]
        refine grow_fix 11 ?_ rfl (by rfl) (by rfl) (fun wx hC hD => ?_) ?_
        rotate_left
        · have hSw := HcX.out wx hC
          go_simp
          all_goals with_reducible rfl
        try simp only [Act.put, List.setIfInBounds_toArray, List.set_cons_zero, List.set_cons_succ]
        refine grow_give 12 _ rfl (by rfl) (by rfl) (fun wx hC hD => ?_) (fun x => ?_)
        · refine give_enter (f := ?_) (args := ?_) ?_ ?_
          rotate_left 2
          · have hSw := HcX.out wx hC
            go_simp
            all_goals first | with_reducible rfl | (refine ⟨?_, ?_⟩ <;> with_reducible rfl)
          have hm := match_any fs1 (.mk 6 ByteArray.empty [] [p, q]) (qsz_two Hp.out Hq.out) wx _ _ _ _ t F6 n6 f6 (HV1.out.grow hC) (Hev1.out wx hC)
          rw [V2.out] at hm
          exact calls_cst hC hm
        obtain ⟨⟩ := x
        try simp only [Act.put, List.setIfInBounds_toArray, List.set_cons_zero, List.set_cons_succ]
        refine grow_fix 13 ?_ rfl (by rfl) (by rfl) (fun wx hC hD => ?_) ?_
        rotate_left
        · have hSw := HcX.out wx hC
          go_simp
          all_goals with_reducible rfl
        try simp only [Act.put, List.setIfInBounds_toArray, List.set_cons_zero, List.set_cons_succ]
        refine grow_fix 14 ?_ rfl (by rfl) (by rfl) (fun wx hC hD => ?_) ?_
        rotate_left
        · have hSw := HcX.out wx hC
          go_simp
          all_goals with_reducible rfl
        try simp only [Act.put, List.setIfInBounds_toArray, List.set_cons_zero, List.set_cons_succ]
        refine grow_fix 15 ?_ rfl (by rfl) (by rfl) (fun wx hC hD => ?_) ?_
        rotate_left
        · have hSw := HcX.out wx hC
          go_simp
          all_goals with_reducible rfl
        try simp only [Act.put, List.setIfInBounds_toArray, List.set_cons_zero, List.set_cons_succ]
        refine grow_fix 16 ?_ rfl (by rfl) (by rfl) (fun wx hC hD => ?_) ?_
        rotate_left
        · have hSw := HcX.out wx hC
          go_simp
          all_goals with_reducible rfl
        try simp only [Act.put, List.setIfInBounds_toArray, List.set_cons_zero, List.set_cons_succ]
        refine grow_fix 17 ?_ rfl (by rfl) (by rfl) (fun wx hC hD => ?_) ?_
        rotate_left
        · have hSw := HcX.out wx hC
          go_simp
          all_goals with_reducible rfl
        try simp only [Act.put, List.setIfInBounds_toArray, List.set_cons_zero, List.set_cons_succ]
        refine grow_fix 18 ?_ rfl (by rfl) (by rfl) (fun wx hC hD => ?_) ?_
        rotate_left
        · have hSw := HcX.out wx hC
          go_simp
          all_goals with_reducible rfl
        try simp only [Act.put, List.setIfInBounds_toArray, List.set_cons_zero, List.set_cons_succ]
        refine grow_fix 19 ?_ rfl (by rfl) (by rfl) (fun wx hC hD => ?_) ?_
        rotate_left
        · have hSw := HcX.out wx hC
          go_simp
          all_goals with_reducible rfl
        try simp only [Act.put, List.setIfInBounds_toArray, List.set_cons_zero, List.set_cons_succ]
        refine grow_fix 20 ?_ rfl (by rfl) (by rfl) (fun wx hC hD => ?_) ?_
        rotate_left
        · have hSw := HcX.out wx hC
          go_simp
          all_goals with_reducible rfl
        try simp only [Act.put, List.setIfInBounds_toArray, List.set_cons_zero, List.set_cons_succ]
        refine grow_give 21 _ rfl (by rfl) (by rfl) (fun wx hC hD => ?_) (fun x => ?_)
        · refine give_enter (f := ?_) (args := ?_) ?_ ?_
          rotate_left 2
          · have hSw := HcX.out wx hC
            go_simp
            all_goals first | with_reducible rfl | (refine ⟨?_, ?_⟩ <;> with_reducible rfl)
          refine (not_any _ _ _ _ wx ⟨_, _, _, _, _, _, _, _, rfl⟩).mono ?_
          rintro e w1 ⟨rfl, hw1⟩
          subst hw1
          exact ⟨_, rfl, notW_below _ _, hC.trans ((notW_below _ _).mono hC.size), wx.heap.size, rfl, qat_one (notW_list _ _) (QAt.grow (HV1.out.grow hC) (notW_below _ _))⟩
        rename Nat => s1
        try simp only [Act.put, List.setIfInBounds_toArray, List.set_cons_zero, List.set_cons_succ]
        refine grow_fix 22 ?_ rfl (by rfl) (by rfl) (fun wx hC hD => ?_) ?_
        rotate_left
        · have hSw := HcX.out wx hC
          go_simp
          all_goals with_reducible rfl
        try simp only [Act.put, List.setIfInBounds_toArray, List.set_cons_zero, List.set_cons_succ]
        refine grow_give 23 _ rfl (by rfl) (by rfl) (fun wx hC hD => ?_) (fun x => ?_)
        · refine give_enter (f := ?_) (args := ?_) ?_ ?_
          rotate_left 2
          · have hSw := HcX.out wx hC
            go_simp
            all_goals first | with_reducible rfl | (refine ⟨?_, ?_⟩ <;> with_reducible rfl)
          have hm := match_any fs1 (.mk 7 ByteArray.empty [] [.mk 6 ByteArray.empty [] [p, q]]) (qsz_one (qsz_two Hp.out Hq.out)) wx _ _ _ _ t F6 n6 f6 (upd_hit (deps_get hD 20 (by kernel_rfl)) (by decide)) (Hev1.out wx hC)
          rw [V3.out] at hm
          exact calls_cst hC hm
        obtain ⟨⟩ := x
        try simp only [Act.put, List.setIfInBounds_toArray, List.set_cons_zero, List.set_cons_succ]
        refine grow_fix 24 ?_ rfl (by rfl) (by rfl) (fun wx hC hD => ?_) ?_
        rotate_left
        · have hSw := HcX.out wx hC
          go_simp
          all_goals with_reducible rfl
        try simp only [Act.put, List.setIfInBounds_toArray, List.set_cons_zero, List.set_cons_succ]
        refine grow_fix 25 ?_ rfl (by rfl) (by rfl) (fun wx hC hD => ?_) ?_
        rotate_left
        · have hSw := HcX.out wx hC
          go_simp
          all_goals with_reducible rfl
        try simp only [Act.put, List.setIfInBounds_toArray, List.set_cons_zero, List.set_cons_succ]
        refine grow_give 26 _ rfl (by rfl) (by rfl) (fun wx hC hD => ?_) (fun x => ?_)
        · refine give_enter (f := ?_) (args := ?_) ?_ ?_
          rotate_left 2
          · have hSw := HcX.out wx hC
            go_simp
            all_goals first | with_reducible rfl | (refine ⟨?_, ?_⟩ <;> with_reducible rfl)
          have hm := match_any fs1 (.mk 5 ByteArray.empty [] [.mk 7 ByteArray.empty [] [p], .mk 7 ByteArray.empty [] [q]]) (qsz_two (qsz_one Hp.out) (qsz_one Hq.out)) wx _ _ _ _ t F6 n6 f6 (HN.out.grow hC) (Hev1.out wx hC)
          rw [V4.out] at hm
          exact calls_cst hC hm
        obtain ⟨⟩ := x
        try simp only [Act.put, List.setIfInBounds_toArray, List.set_cons_zero, List.set_cons_succ]
        refine grow_fix 27 ?_ rfl (by rfl) (by rfl) (fun wx hC hD => ?_) ?_
        rotate_left
        · have hSw := HcX.out wx hC
          go_simp
          all_goals with_reducible rfl
        try simp only [Act.put, List.setIfInBounds_toArray, List.set_cons_zero, List.set_cons_succ]
        refine grow_fix 28 ?_ rfl (by rfl) (by rfl) (fun wx hC hD => ?_) ?_
        rotate_left
        · have hSw := HcX.out wx hC
          go_simp
          all_goals with_reducible rfl
        try simp only [Act.put, List.setIfInBounds_toArray, List.set_cons_zero, List.set_cons_succ]
        refine grow_fix 29 ?_ rfl (by rfl) (by rfl) (fun wx hC hD => ?_) ?_
        rotate_left
        · have hSw := HcX.out wx hC
          go_simp
          all_goals with_reducible rfl
        try simp only [Act.put, List.setIfInBounds_toArray, List.set_cons_zero, List.set_cons_succ]
        refine grow_fix 30 ?_ rfl (by rfl) (by rfl) (fun wx hC hD => ?_) ?_
        rotate_left
        · have hSw := HcX.out wx hC
          go_simp
          all_goals with_reducible rfl
        try simp only [Act.put, List.setIfInBounds_toArray, List.set_cons_zero, List.set_cons_succ]
        refine grow_give 31 _ rfl (by rfl) (by rfl) (fun wx hC hD => ?_) (fun x => ?_)
        · refine give_enter (f := ?_) (args := ?_) ?_ ?_
          rotate_left 2
          · have hSw := HcX.out wx hC
            go_simp
            all_goals first | with_reducible rfl | (refine ⟨?_, ?_⟩ <;> with_reducible rfl)
          refine (not_any _ _ _ _ wx ⟨_, _, _, _, _, _, _, _, rfl⟩).mono ?_
          rintro e w1 ⟨rfl, hw1⟩
          subst hw1
          exact ⟨_, rfl, notW_below _ _, hC.trans ((notW_below _ _).mono hC.size), wx.heap.size, rfl, qat_one (notW_list _ _) (QAt.grow (HP1.out.grow hC) (notW_below _ _))⟩
        rename Nat => s2
        try simp only [Act.put, List.setIfInBounds_toArray, List.set_cons_zero, List.set_cons_succ]
        refine grow_give 32 _ rfl (by rfl) (by rfl) (fun wx hC hD => ?_) (fun x => ?_)
        · refine give_enter (f := ?_) (args := ?_) ?_ ?_
          rotate_left 2
          · have hSw := HcX.out wx hC
            go_simp
            all_goals first | with_reducible rfl | (refine ⟨?_, ?_⟩ <;> with_reducible rfl)
          refine (not_any _ _ _ _ wx ⟨_, _, _, _, _, _, _, _, rfl⟩).mono ?_
          rintro e w1 ⟨rfl, hw1⟩
          subst hw1
          exact ⟨_, rfl, notW_below _ _, hC.trans ((notW_below _ _).mono hC.size), wx.heap.size, rfl, qat_one (notW_list _ _) (QAt.grow (upd_hit (deps_get hD 30 (by kernel_rfl)) (by decide)) (notW_below _ _))⟩
        rename Nat => pb
        try simp only [Act.put, List.setIfInBounds_toArray, List.set_cons_zero, List.set_cons_succ]
        refine grow_fix 33 ?_ rfl (by rfl) (by rfl) (fun wx hC hD => ?_) ?_
        rotate_left
        · have hSw := HcX.out wx hC
          go_simp
          all_goals with_reducible rfl
        try simp only [Act.put, List.setIfInBounds_toArray, List.set_cons_zero, List.set_cons_succ]
        refine grow_give 34 _ rfl (by rfl) (by rfl) (fun wx hC hD => ?_) (fun x => ?_)
        · refine give_enter (f := ?_) (args := ?_) ?_ ?_
          rotate_left 2
          · have hSw := HcX.out wx hC
            go_simp
            all_goals first | with_reducible rfl | (refine ⟨?_, ?_⟩ <;> with_reducible rfl)
          have hm := match_any fs1 (.mk 7 ByteArray.empty [] [.mk 7 ByteArray.empty [] [p]]) (qsz_one (qsz_one Hp.out)) wx _ _ _ _ t F6 n6 f6 (upd_hit (deps_get hD 31 (by kernel_rfl)) (by decide)) (Hev1.out wx hC)
          rw [V5.out] at hm
          exact calls_cst hC hm
        obtain ⟨⟩ := x
        try simp only [Act.put, List.setIfInBounds_toArray, List.set_cons_zero, List.set_cons_succ]
        refine grow_fix 35 ?_ rfl (by rfl) (by rfl) (fun wx hC hD => ?_) ?_
        rotate_left
        · have hSw := HcX.out wx hC
          go_simp
          all_goals with_reducible rfl
        try simp only [Act.put, List.setIfInBounds_toArray, List.set_cons_zero, List.set_cons_succ]
        refine grow_fix 36 ?_ rfl (by rfl) (by rfl) (fun wx hC hD => ?_) ?_
        rotate_left
        · have hSw := HcX.out wx hC
          go_simp
          all_goals with_reducible rfl
        try simp only [Act.put, List.setIfInBounds_toArray, List.set_cons_zero, List.set_cons_succ]
        refine grow_fix 37 ?_ rfl (by rfl) (by rfl) (fun wx hC hD => ?_) ?_
        rotate_left
        · have hSw := HcX.out wx hC
          go_simp
          all_goals with_reducible rfl
        try simp only [Act.put, List.setIfInBounds_toArray, List.set_cons_zero, List.set_cons_succ]
        refine grow_fix 38 ?_ rfl (by rfl) (by rfl) (fun wx hC hD => ?_) ?_
        rotate_left
        · have hSw := HcX.out wx hC
          go_simp
          all_goals with_reducible rfl
        try simp only [Act.put, List.setIfInBounds_toArray, List.set_cons_zero, List.set_cons_succ]
        refine grow_give 39 _ rfl (by rfl) (by rfl) (fun wx hC hD => ?_) (fun x => ?_)
        · refine give_enter (f := ?_) (args := ?_) ?_ ?_
          rotate_left 2
          · have hSw := HcX.out wx hC
            go_simp
            all_goals first | with_reducible rfl | (refine ⟨?_, ?_⟩ <;> with_reducible rfl)
          exact calls_cst hC (awake_any wx)
        obtain ⟨⟩ := x
        try simp only [Act.put, List.setIfInBounds_toArray, List.set_cons_zero, List.set_cons_succ]
        refine grow_fix 40 ?_ rfl (by rfl) (by rfl) (fun wx hC hD => ?_) ?_
        rotate_left
        · have hSw := HcX.out wx hC
          go_simp
          all_goals with_reducible rfl
        try simp only [Act.put, List.setIfInBounds_toArray, List.set_cons_zero, List.set_cons_succ]
        refine grow_fix 41 ?_ rfl (by rfl) (by rfl) (fun wx hC hD => ?_) ?_
        rotate_left
        · have hSw := HcX.out wx hC
          go_simp
          all_goals with_reducible rfl
        try simp only [Act.put, List.setIfInBounds_toArray, List.set_cons_zero, List.set_cons_succ]
        refine grow_nil (fun w12 hC hF => ?_)
        have Hb12 := Lib.hid (Hb11.out.trans (hC.mono Hb11.out.size))
        clear hF hC
        go_wp2
        go_ret
        exact ⟨rfl, Hb12.out⟩
      · simp only [Bool.and_true, Bool.and_false, Bool.or_true, Bool.or_false, Bool.not_true, Bool.not_false] at V1 V2 V3 V4 V5
        refine wp_region_grow (specOf [(2, ⟨Unit, fun _ => (.bool false), fun _ _ => True⟩), (11, ⟨Unit, fun _ => (.bool true), fun _ _ => True⟩), (20, ⟨Nat, fun x => .agg #[.int .i64 7, .string ⟨#[]⟩, .slice none 0 0, .slice (some ⟨x + 1 + 1, 0, none⟩) 1 1], fun x w' => QAt w' w'.heap.size (.mk 7 ByteArray.empty [] [.mk 6 ByteArray.empty [] [p, q]]) [.int .i64 7, .string ⟨#[]⟩, .slice none 0 0, .slice (some ⟨x + 1 + 1, 0, none⟩) 1 1]⟩), (22, ⟨Unit, fun _ => (.bool false), fun _ _ => True⟩), (25, ⟨Unit, fun _ => (.bool false), fun _ _ => True⟩), (30, ⟨Nat, fun x => .agg #[.int .i64 7, .string ⟨#[]⟩, .slice none 0 0, .slice (some ⟨x + 1 + 1, 0, none⟩) 1 1], fun x w' => QAt w' w'.heap.size (.mk 7 ByteArray.empty [] [p]) [.int .i64 7, .string ⟨#[]⟩, .slice none 0 0, .slice (some ⟨x + 1 + 1, 0, none⟩) 1 1]⟩), (31, ⟨Nat, fun x => .agg #[.int .i64 7, .string ⟨#[]⟩, .slice none 0 0, .slice (some ⟨x + 1 + 1, 0, none⟩) 1 1], fun x w' => QAt w' w'.heap.size (.mk 7 ByteArray.empty [] [.mk 7 ByteArray.empty [] [p]]) [.int .i64 7, .string ⟨#[]⟩, .slice none 0 0, .slice (some ⟨x + 1 + 1, 0, none⟩) 1 1]⟩), (33, ⟨Unit, fun _ => (.bool true), fun _ _ => True⟩), (38, ⟨Unit, fun _ => (.bool true), fun _ _ => True⟩)]) (fun wx => Below (World.heap w11).size w11 wx) (fun w1 w2 => Below w1.heap.size w1 w2) (by kernel_rfl) (by kernel_rfl) (stab_cons (fun _ _ _ _ h => h) (stab_cons (fun _ _ _ _ h => h) (stab_cons (fun x w1 w2 hg h => h.grow hg) (stab_cons (fun _ _ _ _ h => h) (stab_cons (fun _ _ _ _ h => h) (stab_cons (fun x w1 w2 hg h => h.grow hg) (stab_cons (fun x w1 w2 hg h => h.grow hg) (stab_cons (fun _ _ _ _ h => h) (stab_cons (fun _ _ _ _ h => h) (stab_nil)))))))))) (Below.refl _ _).drew ?_
        refine grow_fix 1 ?_ rfl (by rfl) (by rfl) (fun wx hC hD => ?_) ?_
        rotate_left
        · have hSw := HcX.out wx hC
          go_simp
          all_goals with_reducible rfl
        try simp only [Act.put, List.setIfInBounds_toArray, List.set_cons_zero, List.set_cons_succ]
        refine grow_fix 2 ?_ rfl (by rfl) (by rfl) (fun wx hC hD => ?_) ?_
        rotate_left
        · have hSw := HcX.out wx hC
          go_simp
          all_goals with_reducible rfl
        try simp only [Act.put, List.setIfInBounds_toArray, List.set_cons_zero, List.set_cons_succ]
        refine grow_give 3 _ rfl (by rfl) (by rfl) (fun wx hC hD => ?_) (fun x => ?_)
        · refine give_enter (f := ?_) (args := ?_) ?_ ?_
          rotate_left 2
          · have hSw := HcX.out wx hC
            go_simp
            all_goals first | with_reducible rfl | (refine ⟨?_, ?_⟩ <;> with_reducible rfl)
          have hm := match_any fs1 (.mk 5 ByteArray.empty [] [p, q]) (qsz_two Hp.out Hq.out) wx _ _ _ _ t F6 n6 f6 (HU1.out.grow hC) (Hev1.out wx hC)
          rw [V1.out] at hm
          exact calls_cst hC hm
        obtain ⟨⟩ := x
        try simp only [Act.put, List.setIfInBounds_toArray, List.set_cons_zero, List.set_cons_succ]
        refine grow_fix 4 ?_ rfl (by rfl) (by rfl) (fun wx hC hD => ?_) ?_
        rotate_left
        · have hSw := HcX.out wx hC
          go_simp
          all_goals with_reducible rfl
        try simp only [Act.put, List.setIfInBounds_toArray, List.set_cons_zero, List.set_cons_succ]
        refine grow_fix 5 ?_ rfl (by rfl) (by rfl) (fun wx hC hD => ?_) ?_
        rotate_left
        · have hSw := HcX.out wx hC
          go_simp
          all_goals with_reducible rfl
        try simp only [Act.put, List.setIfInBounds_toArray, List.set_cons_zero, List.set_cons_succ]
        refine grow_fix 6 ?_ rfl (by rfl) (by rfl) (fun wx hC hD => ?_) ?_
        rotate_left
        · have hSw := HcX.out wx hC
          go_simp
          all_goals with_reducible rfl
        try simp only [Act.put, List.setIfInBounds_toArray, List.set_cons_zero, List.set_cons_succ]
        refine grow_fix 7 ?_ rfl (by rfl) (by rfl) (fun wx hC hD => ?_) ?_
        rotate_left
        · have hSw := HcX.out wx hC
          go_simp
          all_goals with_reducible rfl
        try simp only [Act.put, List.setIfInBounds_toArray, List.set_cons_zero, List.set_cons_succ]
        refine grow_fix 8 ?_ rfl (by rfl) (by rfl) (fun wx hC hD => ?_) ?_
        rotate_left
        · have hSw := HcX.out wx hC
          go_simp
          all_goals with_reducible rfl
        try simp only [Act.put, List.setIfInBounds_toArray, List.set_cons_zero, List.set_cons_succ]
        refine grow_fix 9 ?_ rfl (by rfl) (by rfl) (fun wx hC hD => ?_) ?_
        rotate_left
        · have hSw := HcX.out wx hC
          go_simp
          all_goals with_reducible rfl
        try simp only [Act.put, List.setIfInBounds_toArray, List.set_cons_zero, List.set_cons_succ]
        refine grow_fix 10 ?_ rfl (by rfl) (by rfl) (fun wx hC hD => ?_) ?_
        rotate_left
        · have hSw := HcX.out wx hC
          go_simp
          all_goals with_reducible rfl
        try simp only [Act.put, List.setIfInBounds_toArray, List.set_cons_zero, List.set_cons_succ]
        refine grow_fix 11 ?_ rfl (by rfl) (by rfl) (fun wx hC hD => ?_) ?_
        rotate_left
        · have hSw := HcX.out wx hC
          go_simp
          all_goals with_reducible rfl
        try simp only [Act.put, List.setIfInBounds_toArray, List.set_cons_zero, List.set_cons_succ]
        refine grow_give 12 _ rfl (by rfl) (by rfl) (fun wx hC hD => ?_) (fun x => ?_)
        · refine give_enter (f := ?_) (args := ?_) ?_ ?_
          rotate_left 2
          · have hSw := HcX.out wx hC
            go_simp
            all_goals first | with_reducible rfl | (refine ⟨?_, ?_⟩ <;> with_reducible rfl)
          have hm := match_any fs1 (.mk 6 ByteArray.empty [] [p, q]) (qsz_two Hp.out Hq.out) wx _ _ _ _ t F6 n6 f6 (HV1.out.grow hC) (Hev1.out wx hC)
          rw [V2.out] at hm
          exact calls_cst hC hm
        obtain ⟨⟩ := x
        try simp only [Act.put, List.setIfInBounds_toArray, List.set_cons_zero, List.set_cons_succ]
        refine grow_fix 13 ?_ rfl (by rfl) (by rfl) (fun wx hC hD => ?_) ?_
        rotate_left
        · have hSw := HcX.out wx hC
          go_simp
          all_goals with_reducible rfl
        try simp only [Act.put, List.setIfInBounds_toArray, List.set_cons_zero, List.set_cons_succ]
        refine grow_fix 14 ?_ rfl (by rfl) (by rfl) (fun wx hC hD => ?_) ?_
        rotate_left
        · have hSw := HcX.out wx hC
          go_simp
          all_goals with_reducible rfl
        try simp only [Act.put, List.setIfInBounds_toArray, List.set_cons_zero, List.set_cons_succ]
        refine grow_skip 15 (some true) false rfl (by rfl) (by rfl) (by rfl) ?_
        try simp only [Act.put, List.setIfInBounds_toArray, List.set_cons_zero, List.set_cons_succ]
        refine grow_fix 16 ?_ rfl (by rfl) (by rfl) (fun wx hC hD => ?_) ?_
        rotate_left
        · have hSw := HcX.out wx hC
          go_simp
          all_goals with_reducible rfl
        try simp only [Act.put, List.setIfInBounds_toArray, List.set_cons_zero, List.set_cons_succ]
        refine grow_fix 17 ?_ rfl (by rfl) (by rfl) (fun wx hC hD => ?_) ?_
        rotate_left
        · have hSw := HcX.out wx hC
          go_simp
          all_goals with_reducible rfl
        try simp only [Act.put, List.setIfInBounds_toArray, List.set_cons_zero, List.set_cons_succ]
        refine grow_fix 18 ?_ rfl (by rfl) (by rfl) (fun wx hC hD => ?_) ?_
        rotate_left
        · have hSw := HcX.out wx hC
          go_simp
          all_goals with_reducible rfl
        try simp only [Act.put, List.setIfInBounds_toArray, List.set_cons_zero, List.set_cons_succ]
        refine grow_fix 19 ?_ rfl (by rfl) (by rfl) (fun wx hC hD => ?_) ?_
        rotate_left
        · have hSw := HcX.out wx hC
          go_simp
          all_goals with_reducible rfl
        try simp only [Act.put, List.setIfInBounds_toArray, List.set_cons_zero, List.set_cons_succ]
        refine grow_fix 20 ?_ rfl (by rfl) (by rfl) (fun wx hC hD => ?_) ?_
        rotate_left
        · have hSw := HcX.out wx hC
          go_simp
          all_goals with_reducible rfl
        try simp only [Act.put, List.setIfInBounds_toArray, List.set_cons_zero, List.set_cons_succ]
        refine grow_give 21 _ rfl (by rfl) (by rfl) (fun wx hC hD => ?_) (fun x => ?_)
        · refine give_enter (f := ?_) (args := ?_) ?_ ?_
          rotate_left 2
          · have hSw := HcX.out wx hC
            go_simp
            all_goals first | with_reducible rfl | (refine ⟨?_, ?_⟩ <;> with_reducible rfl)
          refine (not_any _ _ _ _ wx ⟨_, _, _, _, _, _, _, _, rfl⟩).mono ?_
          rintro e w1 ⟨rfl, hw1⟩
          subst hw1
          exact ⟨_, rfl, notW_below _ _, hC.trans ((notW_below _ _).mono hC.size), wx.heap.size, rfl, qat_one (notW_list _ _) (QAt.grow (HV1.out.grow hC) (notW_below _ _))⟩
        rename Nat => s1
        try simp only [Act.put, List.setIfInBounds_toArray, List.set_cons_zero, List.set_cons_succ]
        refine grow_fix 22 ?_ rfl (by rfl) (by rfl) (fun wx hC hD => ?_) ?_
        rotate_left
        · have hSw := HcX.out wx hC
          go_simp
          all_goals with_reducible rfl
        try simp only [Act.put, List.setIfInBounds_toArray, List.set_cons_zero, List.set_cons_succ]
        refine grow_give 23 _ rfl (by rfl) (by rfl) (fun wx hC hD => ?_) (fun x => ?_)
        · refine give_enter (f := ?_) (args := ?_) ?_ ?_
          rotate_left 2
          · have hSw := HcX.out wx hC
            go_simp
            all_goals first | with_reducible rfl | (refine ⟨?_, ?_⟩ <;> with_reducible rfl)
          have hm := match_any fs1 (.mk 7 ByteArray.empty [] [.mk 6 ByteArray.empty [] [p, q]]) (qsz_one (qsz_two Hp.out Hq.out)) wx _ _ _ _ t F6 n6 f6 (upd_hit (deps_get hD 20 (by kernel_rfl)) (by decide)) (Hev1.out wx hC)
          rw [V3.out] at hm
          exact calls_cst hC hm
        obtain ⟨⟩ := x
        try simp only [Act.put, List.setIfInBounds_toArray, List.set_cons_zero, List.set_cons_succ]
        refine grow_fix 24 ?_ rfl (by rfl) (by rfl) (fun wx hC hD => ?_) ?_
        rotate_left
        · have hSw := HcX.out wx hC
          go_simp
          all_goals with_reducible rfl
        try simp only [Act.put, List.setIfInBounds_toArray, List.set_cons_zero, List.set_cons_succ]
        refine grow_fix 25 ?_ rfl (by rfl) (by rfl) (fun wx hC hD => ?_) ?_
        rotate_left
        · have hSw := HcX.out wx hC
          go_simp
          all_goals with_reducible rfl
        try simp only [Act.put, List.setIfInBounds_toArray, List.set_cons_zero, List.set_cons_succ]
        refine grow_give 26 _ rfl (by rfl) (by rfl) (fun wx hC hD => ?_) (fun x => ?_)
        · refine give_enter (f := ?_) (args := ?_) ?_ ?_
          rotate_left 2
          · have hSw := HcX.out wx hC
            go_simp
            all_goals first | with_reducible rfl | (refine ⟨?_, ?_⟩ <;> with_reducible rfl)
          have hm := match_any fs1 (.mk 5 ByteArray.empty [] [.mk 7 ByteArray.empty [] [p], .mk 7 ByteArray.empty [] [q]]) (qsz_two (qsz_one Hp.out) (qsz_one Hq.out)) wx _ _ _ _ t F6 n6 f6 (HN.out.grow hC) (Hev1.out wx hC)
          rw [V4.out] at hm
          exact calls_cst hC hm
        obtain ⟨⟩ := x
        try simp only [Act.put, List.setIfInBounds_toArray, List.set_cons_zero, List.set_cons_succ]
        refine grow_fix 27 ?_ rfl (by rfl) (by rfl) (fun wx hC hD => ?_) ?_
        rotate_left
        · have hSw := HcX.out wx hC
          go_simp
          all_goals with_reducible rfl
        try simp only [Act.put, List.setIfInBounds_toArray, List.set_cons_zero, List.set_cons_succ]
        refine grow_fix 28 ?_ rfl (by rfl) (by rfl) (fun wx hC hD => ?_) ?_
        rotate_left
        · have hSw := HcX.out wx hC
          go_simp
          all_goals with_reducible rfl
        try simp only [Act.put, List.setIfInBounds_toArray, List.set_cons_zero, List.set_cons_succ]
        refine grow_fix 29 ?_ rfl (by rfl) (by rfl) (fun wx hC hD => ?_) ?_
        rotate_left
        · have hSw := HcX.out wx hC
          go_simp
          all_goals with_reducible rfl
        try simp only [Act.put, List.setIfInBounds_toArray, List.set_cons_zero, List.set_cons_succ]
        refine grow_fix 30 ?_ rfl (by rfl) (by rfl) (fun wx hC hD => ?_) ?_
        rotate_left
        · have hSw := HcX.out wx hC
          go_simp
          all_goals with_reducible rfl
        try simp only [Act.put, List.setIfInBounds_toArray, List.set_cons_zero, List.set_cons_succ]
        refine grow_give 31 _ rfl (by rfl) (by rfl) (fun wx hC hD => ?_) (fun x => ?_)
        · refine give_enter (f := ?_) (args := ?_) ?_ ?_
          rotate_left 2
          · have hSw := HcX.out wx hC
            go_simp
            all_goals first | with_reducible rfl | (refine ⟨?_, ?_⟩ <;> with_reducible rfl)
          refine (not_any _ _ _ _ wx ⟨_, _, _, _, _, _, _, _, rfl⟩).mono ?_
          rintro e w1 ⟨rfl, hw1⟩
          subst hw1
          exact ⟨_, rfl, notW_below _ _, hC.trans ((notW_below _ _).mono hC.size), wx.heap.size, rfl, qat_one (notW_list _ _) (QAt.grow (HP1.out.grow hC) (notW_below _ _))⟩
        rename Nat => s2
        try simp only [Act.put, List.setIfInBounds_toArray, List.set_cons_zero, List.set_cons_succ]
        refine grow_give 32 _ rfl (by rfl) (by rfl) (fun wx hC hD => ?_) (fun x => ?_)
        · refine give_enter (f := ?_) (args := ?_) ?_ ?_
          rotate_left 2
          · have hSw := HcX.out wx hC
            go_simp
            all_goals first | with_reducible rfl | (refine ⟨?_, ?_⟩ <;> with_reducible rfl)
          refine (not_any _ _ _ _ wx ⟨_, _, _, _, _, _, _, _, rfl⟩).mono ?_
          rintro e w1 ⟨rfl, hw1⟩
          subst hw1
          exact ⟨_, rfl, notW_below _ _, hC.trans ((notW_below _ _).mono hC.size), wx.heap.size, rfl, qat_one (notW_list _ _) (QAt.grow (upd_hit (deps_get hD 30 (by kernel_rfl)) (by decide)) (notW_below _ _))⟩
        rename Nat => pb
        try simp only [Act.put, List.setIfInBounds_toArray, List.set_cons_zero, List.set_cons_succ]
        refine grow_fix 33 ?_ rfl (by rfl) (by rfl) (fun wx hC hD => ?_) ?_
        rotate_left
        · have hSw := HcX.out wx hC
          go_simp
          all_goals with_reducible rfl
        try simp only [Act.put, List.setIfInBounds_toArray, List.set_cons_zero, List.set_cons_succ]
        refine grow_give 34 _ rfl (by rfl) (by rfl) (fun wx hC hD => ?_) (fun x => ?_)
        · refine give_enter (f := ?_) (args := ?_) ?_ ?_
          rotate_left 2
          · have hSw := HcX.out wx hC
            go_simp
            all_goals first | with_reducible rfl | (refine ⟨?_, ?_⟩ <;> with_reducible rfl)
          have hm := match_any fs1 (.mk 7 ByteArray.empty [] [.mk 7 ByteArray.empty [] [p]]) (qsz_one (qsz_one Hp.out)) wx _ _ _ _ t F6 n6 f6 (upd_hit (deps_get hD 31 (by kernel_rfl)) (by decide)) (Hev1.out wx hC)
          rw [V5.out] at hm
          exact calls_cst hC hm
        obtain ⟨⟩ := x
        try simp only [Act.put, List.setIfInBounds_toArray, List.set_cons_zero, List.set_cons_succ]
        refine grow_fix 35 ?_ rfl (by rfl) (by rfl) (fun wx hC hD => ?_) ?_
        rotate_left
        · have hSw := HcX.out wx hC
          go_simp
          all_goals with_reducible rfl
        try simp only [Act.put, List.setIfInBounds_toArray, List.set_cons_zero, List.set_cons_succ]
        refine grow_fix 36 ?_ rfl (by rfl) (by rfl) (fun wx hC hD => ?_) ?_
        rotate_left
        · have hSw := HcX.out wx hC
          go_simp
          all_goals with_reducible rfl
        try simp only [Act.put, List.setIfInBounds_toArray, List.set_cons_zero, List.set_cons_succ]
        refine grow_fix 37 ?_ rfl (by rfl) (by rfl) (fun wx hC hD => ?_) ?_
        rotate_left
        · have hSw := HcX.out wx hC
          go_simp
          all_goals with_reducible rfl
        try simp only [Act.put, List.setIfInBounds_toArray, List.set_cons_zero, List.set_cons_succ]
        refine grow_fix 38 ?_ rfl (by rfl) (by rfl) (fun wx hC hD => ?_) ?_
        rotate_left
        · have hSw := HcX.out wx hC
          go_simp
          all_goals with_reducible rfl
        try simp only [Act.put, List.setIfInBounds_toArray, List.set_cons_zero, List.set_cons_succ]
        refine grow_give 39 _ rfl (by rfl) (by rfl) (fun wx hC hD => ?_) (fun x => ?_)
        · refine give_enter (f := ?_) (args := ?_) ?_ ?_
          rotate_left 2
          · have hSw := HcX.out wx hC
            go_simp
            all_goals first | with_reducible rfl | (refine ⟨?_, ?_⟩ <;> with_reducible rfl)
          exact calls_cst hC (awake_any wx)
        obtain ⟨⟩ := x
        try simp only [Act.put, List.setIfInBounds_toArray, List.set_cons_zero, List.set_cons_succ]
        refine grow_fix 40 ?_ rfl (by rfl) (by rfl) (fun wx hC hD => ?_) ?_
        rotate_left
        · have hSw := HcX.out wx hC
          go_simp
          all_goals with_reducible rfl
        try simp only [Act.put, List.setIfInBounds_toArray, List.set_cons_zero, List.set_cons_succ]
        refine grow_fix 41 ?_ rfl (by rfl) (by rfl) (fun wx hC hD => ?_) ?_
        rotate_left
        · have hSw := HcX.out wx hC
          go_simp
          all_goals with_reducible rfl
        try simp only [Act.put, List.setIfInBounds_toArray, List.set_cons_zero, List.set_cons_succ]
        refine grow_nil (fun w12 hC hF => ?_)
        have Hb12 := Lib.hid (Hb11.out.trans (hC.mono Hb11.out.size))
        clear hF hC
        go_wp2
        go_ret
        exact ⟨rfl, Hb12.out⟩
      · simp only [Bool.and_true, Bool.and_false, Bool.or_true, Bool.or_false, Bool.not_true, Bool.not_false] at V1 V2 V3 V4 V5
        refine wp_region_grow (specOf [(2, ⟨Unit, fun _ => (.bool true), fun _ _ => True⟩), (11, ⟨Unit, fun _ => (.bool true), fun _ _ => True⟩), (20, ⟨Nat, fun x => .agg #[.int .i64 7, .string ⟨#[]⟩, .slice none 0 0, .slice (some ⟨x + 1 + 1, 0, none⟩) 1 1], fun x w' => QAt w' w'.heap.size (.mk 7 ByteArray.empty [] [.mk 6 ByteArray.empty [] [p, q]]) [.int .i64 7, .string ⟨#[]⟩, .slice none 0 0, .slice (some ⟨x + 1 + 1, 0, none⟩) 1 1]⟩), (22, ⟨Unit, fun _ => (.bool false), fun _ _ => True⟩), (25, ⟨Unit, fun _ => (.bool false), fun _ _ => True⟩), (30, ⟨Nat, fun x => .agg #[.int .i64 7, .string ⟨#[]⟩, .slice none 0 0, .slice (some ⟨x + 1 + 1, 0, none⟩) 1 1], fun x w' => QAt w' w'.heap.size (.mk 7 ByteArray.empty [] [p]) [.int .i64 7, .string ⟨#[]⟩, .slice none 0 0, .slice (some ⟨x + 1 + 1, 0, none⟩) 1 1]⟩), (31, ⟨Nat, fun x => .agg #[.int .i64 7, .string ⟨#[]⟩, .slice none 0 0, .slice (some ⟨x + 1 + 1, 0, none⟩) 1 1], fun x w' => QAt w' w'.heap.size (.mk 7 ByteArray.empty [] [.mk 7 ByteArray.empty [] [p]]) [.int .i64 7, .string ⟨#[]⟩, .slice none 0 0, .slice (some ⟨x + 1 + 1, 0, none⟩) 1 1]⟩), (33, ⟨Unit, fun _ => (.bool true), fun _ _ => True⟩), (38, ⟨Unit, fun _ => (.bool true), fun _ _ => True⟩)]) (fun wx => Below (World.heap w11).size w11 wx) (fun w1 w2 => Below w1.heap.size w1 w2) (by kernel_rfl) (by kernel_rfl) (stab_cons (fun _ _ _ _ h => h) (stab_cons (fun _ _ _ _ h => h) (stab_cons (fun x w1 w2 hg h => h.grow hg) (stab_cons (fun _ _ _ _ h => h) (stab_cons (fun _ _ _ _ h => h) (stab_cons (fun x w1 w2 hg h => h.grow hg) (stab_cons (fun x w1 w2 hg h => h.grow hg) (stab_cons (fun _ _ _ _ h => h) (stab_cons (fun _ _ _ _ h => h) (stab_nil)))))))))) (Below.refl _ _).drew ?_
        refine grow_fix 1 ?_ rfl (by rfl) (by rfl) (fun wx hC hD => ?_) ?_
        rotate_left
        · have hSw := HcX.out wx hC
          go_simp
          all_goals with_reducible rfl
        try simp only [Act.put, List.setIfInBounds_toArray, List.set_cons_zero, List.set_cons_succ]
        refine grow_fix 2 ?_ rfl (by rfl) (by rfl) (fun wx hC hD => ?_) ?_
        rotate_left
        · have hSw := HcX.out wx hC
          go_simp
          all_goals with_reducible rfl
        try simp only [Act.put, List.setIfInBounds_toArray, List.set_cons_zero, List.set_cons_succ]
        refine grow_give 3 _ rfl (by rfl) (by rfl) (fun wx hC hD => ?_) (fun x => ?_)
        · refine give_enter (f := ?_) (args := ?_) ?_ ?_
          rotate_left 2
          · have hSw := HcX.out wx hC
            go_simp
            all_goals first | with_reducible rfl | (refine ⟨?_, ?_⟩ <;> with_reducible rfl)
          have hm := match_any fs1 (.mk 5 ByteArray.empty [] [p, q]) (qsz_two Hp.out Hq.out) wx _ _ _ _ t F6 n6 f6 (HU1.out.grow hC) (Hev1.out wx hC)
          rw [V1.out] at hm
          exact calls_cst hC hm
        obtain ⟨⟩ := x
        try simp only [Act.put, List.setIfInBounds_toArray, List.set_cons_zero, List.set_cons_succ]
        refine grow_fix 4 ?_ rfl (by rfl) (by rfl) (fun wx hC hD => ?_) ?_
        rotate_left
        · have hSw := HcX.out wx hC
          go_simp
          all_goals with_reducible rfl
        try simp only [Act.put, List.setIfInBounds_toArray, List.set_cons_zero, List.set_cons_succ]
        refine grow_fix 5 ?_ rfl (by rfl) (by rfl) (fun wx hC hD => ?_) ?_
        rotate_left
        · have hSw := HcX.out wx hC
          go_simp
          all_goals with_reducible rfl
        try simp only [Act.put, List.setIfInBounds_toArray, List.set_cons_zero, List.set_cons_succ]
        refine grow_fix 6 ?_ rfl (by rfl) (by rfl) (fun wx hC hD => ?_) ?_
        rotate_left
        · have hSw := HcX.out wx hC
          go_simp
          all_goals with_reducible rfl
        try simp only [Act.put, List.setIfInBounds_toArray, List.set_cons_zero, List.set_cons_succ]
        refine grow_fix 7 ?_ rfl (by rfl) (by rfl) (fun wx hC hD => ?_) ?_
        rotate_left
        · have hSw := HcX.out wx hC
          go_simp
          all_goals with_reducible rfl
        try simp only [Act.put, List.setIfInBounds_toArray, List.set_cons_zero, List.set_cons_succ]
        refine grow_fix 8 ?_ rfl (by rfl) (by rfl) (fun wx hC hD => ?_) ?_
        rotate_left
        · have hSw := HcX.out wx hC
          go_simp
          all_goals with_reducible rfl
        try simp only [Act.put, List.setIfInBounds_toArray, List.set_cons_zero, List.set_cons_succ]
        refine grow_fix 9 ?_ rfl (by rfl) (by rfl) (fun wx hC hD => ?_) ?_
        rotate_left
        · have hSw := HcX.out wx hC
          go_simp
          all_goals with_reducible rfl
        try simp only [Act.put, List.setIfInBounds_toArray, List.set_cons_zero, List.set_cons_succ]
        refine grow_fix 10 ?_ rfl (by rfl) (by rfl) (fun wx hC hD => ?_) ?_
        rotate_left
        · have hSw := HcX.out wx hC
          go_simp
          all_goals with_reducible rfl
        try simp only [Act.put, List.setIfInBounds_toArray, List.set_cons_zero, List.set_cons_succ]
        refine grow_fix 11 ?_ rfl (by rfl) (by rfl) (fun wx hC hD => ?_) ?_
        rotate_left
        · have hSw := HcX.out wx hC
          go_simp
          all_goals with_reducible rfl
        try simp only [Act.put, List.setIfInBounds_toArray, List.set_cons_zero, List.set_cons_succ]
        refine grow_give 12 _ rfl (by rfl) (by rfl) (fun wx hC hD => ?_) (fun x => ?_)
        · refine give_enter (f := ?_) (args := ?_) ?_ ?_
          rotate_left 2
          · have hSw := HcX.out wx hC
            go_simp
            all_goals first | with_reducible rfl | (refine ⟨?_, ?_⟩ <;> with_reducible rfl)
          have hm := match_any fs1 (.mk 6 ByteArray.empty [] [p, q]) (qsz_two Hp.out Hq.out) wx _ _ _ _ t F6 n6 f6 (HV1.out.grow hC) (Hev1.out wx hC)
          rw [V2.out] at hm
          exact calls_cst hC hm
        obtain ⟨⟩ := x
        try simp only [Act.put, List.setIfInBounds_toArray, List.set_cons_zero, List.set_cons_succ]
        refine grow_fix 13 ?_ rfl (by rfl) (by rfl) (fun wx hC hD => ?_) ?_
        rotate_left
        · have hSw := HcX.out wx hC
          go_simp
          all_goals with_reducible rfl
        try simp only [Act.put, List.setIfInBounds_toArray, List.set_cons_zero, List.set_cons_succ]
        refine grow_fix 14 ?_ rfl (by rfl) (by rfl) (fun wx hC hD => ?_) ?_
        rotate_left
        · have hSw := HcX.out wx hC
          go_simp
          all_goals with_reducible rfl
        try simp only [Act.put, List.setIfInBounds_toArray, List.set_cons_zero, List.set_cons_succ]
        refine grow_skip 15 (some true) false rfl (by rfl) (by rfl) (by rfl) ?_
        try simp only [Act.put, List.setIfInBounds_toArray, List.set_cons_zero, List.set_cons_succ]
        refine grow_fix 16 ?_ rfl (by rfl) (by rfl) (fun wx hC hD => ?_) ?_
        rotate_left
        · have hSw := HcX.out wx hC
          go_simp
          all_goals with_reducible rfl
        try simp only [Act.put, List.setIfInBounds_toArray, List.set_cons_zero, List.set_cons_succ]
        refine grow_fix 17 ?_ rfl (by rfl) (by rfl) (fun wx hC hD => ?_) ?_
        rotate_left
        · have hSw := HcX.out wx hC
          go_simp
          all_goals with_reducible rfl
        try simp only [Act.put, List.setIfInBounds_toArray, List.set_cons_zero, List.set_cons_succ]
        refine grow_fix 18 ?_ rfl (by rfl) (by rfl) (fun wx hC hD => ?_) ?_
        rotate_left
        · have hSw := HcX.out wx hC
          go_simp
          all_goals with_reducible rfl
        try simp only [Act.put, List.setIfInBounds_toArray, List.set_cons_zero, List.set_cons_succ]
        refine grow_fix 19 ?_ rfl (by rfl) (by rfl) (fun wx hC hD => ?_) ?_
        rotate_left
        · have hSw := HcX.out wx hC
          go_simp
          all_goals with_reducible rfl
        try simp only [Act.put, List.setIfInBounds_toArray, List.set_cons_zero, List.set_cons_succ]
        refine grow_fix 20 ?_ rfl (by rfl) (by rfl) (fun wx hC hD => ?_) ?_
        rotate_left
        · have hSw := HcX.out wx hC
          go_simp
          all_goals with_reducible rfl
        try simp only [Act.put, List.setIfInBounds_toArray, List.set_cons_zero, List.set_cons_succ]
        refine grow_give 21 _ rfl (by rfl) (by rfl) (fun wx hC hD => ?_) (fun x => ?_)
        · refine give_enter (f := ?_) (args := ?_) ?_ ?_
          rotate_left 2
          · have hSw := HcX.out wx hC
            go_simp
            all_goals first | with_reducible rfl | (refine ⟨?_, ?_⟩ <;> with_reducible rfl)
          refine (not_any _ _ _ _ wx ⟨_, _, _, _, _, _, _, _, rfl⟩).mono ?_
          rintro e w1 ⟨rfl, hw1⟩
          subst hw1
          exact ⟨_, rfl, notW_below _ _, hC.trans ((notW_below _ _).mono hC.size), wx.heap.size, rfl, qat_one (notW_list _ _) (QAt.grow (HV1.out.grow hC) (notW_below _ _))⟩
        rename Nat => s1
        try simp only [Act.put, List.setIfInBounds_toArray, List.set_cons_zero, List.set_cons_succ]
        refine grow_fix 22 ?_ rfl (by rfl) (by rfl) (fun wx hC hD => ?_) ?_
        rotate_left
        · have hSw := HcX.out wx hC
          go_simp
          all_goals with_reducible rfl
        try simp only [Act.put, List.setIfInBounds_toArray, List.set_cons_zero, List.set_cons_succ]
        refine grow_give 23 _ rfl (by rfl) (by rfl) (fun wx hC hD => ?_) (fun x => ?_)
        · refine give_enter (f := ?_) (args := ?_) ?_ ?_
          rotate_left 2
          · have hSw := HcX.out wx hC
            go_simp
            all_goals first | with_reducible rfl | (refine ⟨?_, ?_⟩ <;> with_reducible rfl)
          have hm := match_any fs1 (.mk 7 ByteArray.empty [] [.mk 6 ByteArray.empty [] [p, q]]) (qsz_one (qsz_two Hp.out Hq.out)) wx _ _ _ _ t F6 n6 f6 (upd_hit (deps_get hD 20 (by kernel_rfl)) (by decide)) (Hev1.out wx hC)
          rw [V3.out] at hm
          exact calls_cst hC hm
        obtain ⟨⟩ := x
        try simp only [Act.put, List.setIfInBounds_toArray, List.set_cons_zero, List.set_cons_succ]
        refine grow_fix 24 ?_ rfl (by rfl) (by rfl) (fun wx hC hD => ?_) ?_
        rotate_left
        · have hSw := HcX.out wx hC
          go_simp
          all_goals with_reducible rfl
        try simp only [Act.put, List.setIfInBounds_toArray, List.set_cons_zero, List.set_cons_succ]
        refine grow_fix 25 ?_ rfl (by rfl) (by rfl) (fun wx hC hD => ?_) ?_
        rotate_left
        · have hSw := HcX.out wx hC
          go_simp
          all_goals with_reducible rfl
        try simp only [Act.put, List.setIfInBounds_toArray, List.set_cons_zero, List.set_cons_succ]
        refine grow_give 26 _ rfl (by rfl) (by rfl) (fun wx hC hD => ?_) (fun x => ?_)
        · refine give_enter (f := ?_) (args := ?_) ?_ ?_
          rotate_left 2
          · have hSw := HcX.out wx hC
            go_simp
            all_goals first | with_reducible rfl | (refine ⟨?_, ?_⟩ <;> with_reducible rfl)
          have hm := match_any fs1 (.mk 5 ByteArray.empty [] [.mk 7 ByteArray.empty [] [p], .mk 7 ByteArray.empty [] [q]]) (qsz_two (qsz_one Hp.out) (qsz_one Hq.out)) wx _ _ _ _ t F6 n6 f6 (HN.out.grow hC) (Hev1.out wx hC)
          rw [V4.out] at hm
          exact calls_cst hC hm
        obtain ⟨⟩ := x
        try simp only [Act.put, List.setIfInBounds_toArray, List.set_cons_zero, List.set_cons_succ]
        refine grow_fix 27 ?_ rfl (by rfl) (by rfl) (fun wx hC hD => ?_) ?_
        rotate_left
        · have hSw := HcX.out wx hC
          go_simp
          all_goals with_reducible rfl
        try simp only [Act.put, List.setIfInBounds_toArray, List.set_cons_zero, List.set_cons_succ]
        refine grow_fix 28 ?_ rfl (by rfl) (by rfl) (fun wx hC hD => ?_) ?_
        rotate_left
        · have hSw := HcX.out wx hC
          go_simp
          all_goals with_reducible rfl
        try simp only [Act.put, List.setIfInBounds_toArray, List.set_cons_zero, List.set_cons_succ]
        refine grow_fix 29 ?_ rfl (by rfl) (by rfl) (fun wx hC hD => ?_) ?_
        rotate_left
        · have hSw := HcX.out wx hC
          go_simp
          all_goals with_reducible rfl
        try simp only [Act.put, List.setIfInBounds_toArray, List.set_cons_zero, List.set_cons_succ]
        refine grow_fix 30 ?_ rfl (by rfl) (by rfl) (fun wx hC hD => ?_) ?_
        rotate_left
        · have hSw := HcX.out wx hC
          go_simp
          all_goals with_reducible rfl
        try simp only [Act.put, List.setIfInBounds_toArray, List.set_cons_zero, List.set_cons_succ]
        refine grow_give 31 _ rfl (by rfl) (by rfl) (fun wx hC hD => ?_) (fun x => ?_)
        · refine give_enter (f := ?_) (args := ?_) ?_ ?_
          rotate_left 2
          · have hSw := HcX.out wx hC
            go_simp
            all_goals first | with_reducible rfl | (refine ⟨?_, ?_⟩ <;> with_reducible rfl)
          refine (not_any _ _ _ _ wx ⟨_, _, _, _, _, _, _, _, rfl⟩).mono ?_
          rintro e w1 ⟨rfl, hw1⟩
          subst hw1
          exact ⟨_, rfl, notW_below _ _, hC.trans ((notW_below _ _).mono hC.size), wx.heap.size, rfl, qat_one (notW_list _ _) (QAt.grow (HP1.out.grow hC) (notW_below _ _))⟩
        rename Nat => s2
        try simp only [Act.put, List.setIfInBounds_toArray, List.set_cons_zero, List.set_cons_succ]
        refine grow_give 32 _ rfl (by rfl) (by rfl) (fun wx hC hD => ?_) (fun x => ?_)
        · refine give_enter (f := ?_) (args := ?_) ?_ ?_
          rotate_left 2
          · have hSw := HcX.out wx hC
            go_simp
            all_goals first | with_reducible rfl | (refine ⟨?_, ?_⟩ <;> with_reducible rfl)
          refine (not_any _ _ _ _ wx ⟨_, _, _, _, _, _, _, _, rfl⟩).mono ?_
          rintro e w1 ⟨rfl, hw1⟩
          subst hw1
          exact ⟨_, rfl, notW_below _ _, hC.trans ((notW_below _ _).mono hC.size), wx.heap.size, rfl, qat_one (notW_list _ _) (QAt.grow (upd_hit (deps_get hD 30 (by kernel_rfl)) (by decide)) (notW_below _ _))⟩
        rename Nat => pb
        try simp only [Act.put, List.setIfInBounds_toArray, List.set_cons_zero, List.set_cons_succ]
        refine grow_fix 33 ?_ rfl (by rfl) (by rfl) (fun wx hC hD => ?_) ?_
        rotate_left
        · have hSw := HcX.out wx hC
          go_simp
          all_goals with_reducible rfl
        try simp only [Act.put, List.setIfInBounds_toArray, List.set_cons_zero, List.set_cons_succ]
        refine grow_give 34 _ rfl (by rfl) (by rfl) (fun wx hC hD => ?_) (fun x => ?_)
        · refine give_enter (f := ?_) (args := ?_) ?_ ?_
          rotate_left 2
          · have hSw := HcX.out wx hC
            go_simp
            all_goals first | with_reducible rfl | (refine ⟨?_, ?_⟩ <;> with_reducible rfl)
          have hm := match_any fs1 (.mk 7 ByteArray.empty [] [.mk 7 ByteArray.empty [] [p]]) (qsz_one (qsz_one Hp.out)) wx _ _ _ _ t F6 n6 f6 (upd_hit (deps_get hD 31 (by kernel_rfl)) (by decide)) (Hev1.out wx hC)
          rw [V5.out] at hm
          exact calls_cst hC hm
        obtain ⟨⟩ := x
        try simp only [Act.put, List.setIfInBounds_toArray, List.set_cons_zero, List.set_cons_succ]
        refine grow_fix 35 ?_ rfl (by rfl) (by rfl) (fun wx hC hD => ?_) ?_
        rotate_left
        · have hSw := HcX.out wx hC
          go_simp
          all_goals with_reducible rfl
        try simp only [Act.put, List.setIfInBounds_toArray, List.set_cons_zero, List.set_cons_succ]
        refine grow_fix 36 ?_ rfl (by rfl) (by rfl) (fun wx hC hD => ?_) ?_
        rotate_left
        · have hSw := HcX.out wx hC
          go_simp
          all_goals with_reducible rfl
        try simp only [Act.put, List.setIfInBounds_toArray, List.set_cons_zero, List.set_cons_succ]
        refine grow_fix 37 ?_ rfl (by rfl) (by rfl) (fun wx hC hD => ?_) ?_
        rotate_left
        · have hSw := HcX.out wx hC
          go_simp
          all_goals with_reducible rfl
        try simp only [Act.put, List.setIfInBounds_toArray, List.set_cons_zero, List.set_cons_succ]
        refine grow_fix 38 ?_ rfl (by rfl) (by rfl) (fun wx hC hD => ?_) ?_
        rotate_left
        · have hSw := HcX.out wx hC
          go_simp
          all_goals with_reducible rfl
        try simp only [Act.put, List.setIfInBounds_toArray, List.set_cons_zero, List.set_cons_succ]
        refine grow_give 39 _ rfl (by rfl) (by rfl) (fun wx hC hD => ?_) (fun x => ?_)
        · refine give_enter (f := ?_) (args := ?_) ?_ ?_
          rotate_left 2
          · have hSw := HcX.out wx hC
            go_simp
            all_goals first | with_reducible rfl | (refine ⟨?_, ?_⟩ <;> with_reducible rfl)
          exact calls_cst hC (awake_any wx)
        obtain ⟨⟩ := x
        try simp only [Act.put, List.setIfInBounds_toArray, List.set_cons_zero, List.set_cons_succ]
        refine grow_fix 40 ?_ rfl (by rfl) (by rfl) (fun wx hC hD => ?_) ?_
        rotate_left
        · have hSw := HcX.out wx hC
          go_simp
          all_goals with_reducible rfl
        try simp only [Act.put, List.setIfInBounds_toArray, List.set_cons_zero, List.set_cons_succ]
        refine grow_fix 41 ?_ rfl (by rfl) (by rfl) (fun wx hC hD => ?_) ?_
        rotate_left
        · have hSw := HcX.out wx hC
          go_simp
          all_goals with_reducible rfl
        try simp only [Act.put, List.setIfInBounds_toArray, List.set_cons_zero, List.set_cons_succ]
        refine grow_nil (fun w12 hC hF => ?_)
        have Hb12 := Lib.hid (Hb11.out.trans (hC.mono Hb11.out.size))
        clear hF hC
        go_wp2
        go_ret
        exact ⟨rfl, Hb12.out⟩
end Go.Proofs.Ytjfconddkfihcaa.Qy
