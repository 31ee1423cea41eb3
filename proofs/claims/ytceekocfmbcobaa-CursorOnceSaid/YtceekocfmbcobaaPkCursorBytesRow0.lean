/- A row of ints that came in; nil has no room. -/
import Derived.Test.YtceekocfmbcobaaPkCursorFollowsRow0
import Derived.Test.YtceekocfmbcobaaPkCursorFollowsRow32
import Derived.Test.YtceekocfmbcobaaPkCursorFollowsRow37
section
namespace Go.Proofs.Ytceekocfmbcobaa
open Go.RowKit Go.ChangeShapes Go.WideShapes Go.ChangeAt
section
variable {H : Type} {enc : TypeId × Value → H} {P : Program} {W : World} {base : Nat} {t e : TypeId} {v : Value} {d : DataW H} {p : List MemPlace}
theorem ints_in2 {k : IntKind} {by_ : Nat} (ht : P.underlying t = some (.slice e)) (he : P.underlying e = some (.int k)) (hc : P.cellsOf e = 1) (hb : P.bytesOf e = by_) (hv : Value.okWide P W .any base t v)
    (h : DataW.Trod enc P W 0 (fun _ => true) true t v d p) (hw : ∀ n ∈ d.weights P t, n ≤ 140737488351232) :
    ∃ (A : Option Addr) (len cap : Nat) (zs : List Int), v = .slice A len cap ∧ Reads W W.heap.size 1 A len (zs.map (Value.int k)) ∧ (∀ n ∈ zs, (Lit.int k n).wf = true) ∧ len * by_ ≤ 140737488351232 ∧ zs.length = len ∧ len ≤ cap ∧ (A = none → cap = 0) := by
  obtain ⟨A, len, cap, rfl⟩ := okWide_slice ht hv
  obtain ⟨fuel, hf⟩ := h
  rcases open_ints ht he hc hf with ⟨hcs, _⟩ | ⟨a, l, c, zs, hcs, _, hl, hm, hz, hx, hcell, hwz⟩
  · simp [Value.cells] at hcs
    obtain ⟨rfl, rfl, rfl⟩ := hcs
    exact ⟨_, _, _, [], rfl, Reads.none_, by simp, by omega, rfl, by omega, fun _ => rfl⟩
  · simp [Value.cells] at hcs
    obtain ⟨rfl, rfl, rfl⟩ := hcs
    simp only [Prod.mk.injEq] at hx
    have hd : d = .slice (lits k (zs.take len)) (lits k (zs.drop len)) := hx.1
    subst hd
    have hlen : zs.length = cap := by simpa using hz
    have h1 := hw ((zs.take len).length * by_ + (zs.drop len).length * by_) (by
      simp only [DataW.weights, ht, lits, List.length_map, hb, ← Nat.add_mul]
      exact List.mem_cons_self)
    have hle : len * by_ ≤ 140737488351232 := by
      rw [List.length_take, Nat.min_eq_left (by omega)] at h1; omega
    refine ⟨_, _, _, zs.take len, rfl, ?_, fun n hn => hwz n (List.mem_of_mem_take hn), hle, by rw [List.length_take]; omega, by omega, fun h => by cases h⟩
    rw [← range_map_getD zs 0 len (by omega), List.map_map]
    by_cases h0 : 0 < len
    · exact Reads.of_in rfl (World.block_lt_of_cell? W _ (by simpa [Addr.add] using hcell 0 (by omega))) (fun i hi => hcell i (by omega))
    · obtain rfl : len = 0 := by omega
      exact Reads.none_
end
end Go.Proofs.Ytceekocfmbcobaa
end

section
/- loggiaref17.Same at equal queries: the walk (printed by gen_qpw.py). -/
namespace Go.Proofs.Ytceekocfmbcobaa.Qp
open Go.RowKit Go.Proofs.Ytceekocfmbcobaa Go.Proofs.Ytceekocfmbcobaa.Ut Go.Proofs.Ytceekocfmbcobaa.Tk Go.Proofs.Ytceekocfmbcobaa.Qy
set_option maxRecDepth 20000
set_option linter.unusedSimpArgs false

theorem sv_of (ws : List ByteArray) : sv (ws.map fun x => x.data.toList) = ws.map Value.string := by
  unfold sv
  rw [List.map_map, List.map_map]
  refine List.map_congr_left fun x _ => ?_
  show Value.string (str x.data.toList) = _
  rw [of_str]
theorem sameWords_b (A A' : Option Addr) (n c c' : Nat) (ws : List ByteArray) (w : World) (h : Reads w w.heap.size 1 A n (ws.map Value.string)) (h' : Reads w w.heap.size 1 A' n (ws.map Value.string)) (hn : ws.length = n) (hl : n ≤ 8796093021952) :
    Calls Try.prog 16 #[.slice A n c, .slice A' n c'] w fun e w' => e = .returned (.bool true) ∧ Below w.heap.size w w' := by
  subst hn
  have := sameWords_eq A A' c c' w.heap.size (ws.map fun x => x.data.toList) w (by rw [List.length_map, sv_of]; exact h) (by rw [List.length_map, sv_of]; exact h') (Nat.le_refl _) (by rw [List.length_map]; exact hl)
  rw [List.length_map] at this
  exact this
def SameOk (q : Q) : Prop := ∀ (w : World) (a0 a1 a2 a3 b0 b1 b2 b3 : Value), QAt w w.heap.size q [a0, a1, a2, a3] → QAt w w.heap.size q [b0, b1, b2, b3] →
  Calls Try.prog 17 #[.agg #[a0, a1, a2, a3], .agg #[b0, b1, b2, b3]] w fun e w' => e = .returned (.bool true) ∧ Below w.heap.size w w'
def SW (w : World) (x y : Array Value) : World := (w.alloc (.cells x 29)).alloc (.cells y 29)
set_option maxHeartbeats 3200000 in
theorem same_one (k : Int) (nm : ByteArray) (ws : List ByteArray) (l : List Q) (hw6 : ws.length ≤ 8796093021952) (hl6 : l.length ≤ 8796093021952) (ih : ∀ x ∈ l, SameOk x) : SameOk (.mk k nm ws l) := by
  intro w a0 a1 a2 a3 b0 b1 b2 b3 hA hB
  obtain ⟨WA, m, wc, CA, n, c2, e, hI⟩ := hA.is
  obtain ⟨WB, m', wd, CB, n', d2, e', hJ⟩ := hB.is
  simp only [List.cons.injEq, and_true] at e e'
  obtain ⟨rfl, rfl, rfl, rfl⟩ := e
  obtain ⟨rfl, rfl, rfl, rfl⟩ := e'
  obtain rfl : m = m' := hI.wn.symm.trans hJ.wn
  obtain rfl : n = n' := hI.lm.symm.trans hJ.lm
  have hb := (((Below.refl w.heap.size w).alloc (Nat.le_refl _) (.cells #[.int .i64 k, .string nm, .slice WA m wc, .slice CA n c2] 29)).alloc (by simp) (.cells #[.int .i64 k, .string nm, .slice WB m wd, .slice CB n d2] 29))
  have h1 := (Blk.new w 29 #[.int .i64 k, .string nm, .slice WA m wc, .slice CA n c2]).alloc (.cells #[.int .i64 k, .string nm, .slice WB m wd, .slice CB n d2] 29)
  have h2 := Blk.new (w.alloc (.cells #[.int .i64 k, .string nm, .slice WA m wc, .slice CA n c2] 29)) 29 #[.int .i64 k, .string nm, .slice WB m wd, .slice CB n d2]
  rw [World.size_alloc] at h2
  have hz : (World.heap ((w.alloc (.cells #[.int .i64 k, .string nm, .slice WA m wc, .slice CA n c2] 29)).alloc (.cells #[.int .i64 k, .string nm, .slice WB m wd, .slice CB n d2] 29))).size = w.heap.size + 2 := by simp
  have cW := sameWords_b WA WB m wc wd ws _ (rgrow hI.wds hb) (rgrow hJ.wds hb) hI.wn (by have := hI.wn; omega)
  have hlm := hI.lm
  have hn6 : n ≤ 8796093021952 := by omega
  have hkid : ∀ j (hj : j < l.length), ∃ b o A' n' c' C' m' d' b9 o9 A9 n9 c9 C9 m9 d9, CA = some ⟨b, o, none⟩ ∧ b < w.heap.size ∧ CB = some ⟨b9, o9, none⟩ ∧ b9 < w.heap.size ∧
      ∀ wx, Below w.heap.size w wx → (wx.cell? ⟨b, o + j * 4, none⟩ = some (.int .i64 l[j].kind) ∧ wx.cell? ⟨b, o + j * 4 + 1, none⟩ = some (.string l[j].name) ∧ wx.cell? ⟨b, o + j * 4 + 2, none⟩ = some (.slice A' n' c') ∧ wx.cell? ⟨b, o + j * 4 + 3, none⟩ = some (.slice C' m' d') ∧
        wx.cell? ⟨b9, o9 + j * 4, none⟩ = some (.int .i64 l[j].kind) ∧ wx.cell? ⟨b9, o9 + j * 4 + 1, none⟩ = some (.string l[j].name) ∧ wx.cell? ⟨b9, o9 + j * 4 + 2, none⟩ = some (.slice A9 n9 c9) ∧ wx.cell? ⟨b9, o9 + j * 4 + 3, none⟩ = some (.slice C9 m9 d9)) ∧
        Calls Try.prog 17 #[.agg #[.int .i64 l[j].kind, .string l[j].name, .slice A' n' c', .slice C' m' d'], .agg #[.int .i64 l[j].kind, .string l[j].name, .slice A9 n9 c9, .slice C9 m9 d9]] wx fun e w' => e = .returned (.bool true) ∧ Below wx.heap.size wx w' := by
    intro j hj
    obtain ⟨tb, tq, A', n', c', C', m', d', rfl, htb, hq, hc0, hc1, hc2, hc3⟩ := hI.at_ hj
    obtain ⟨tb9, tq9, A9, n9, c9, C9, m9, d9, rfl, htb9, hq9, hd0, hd1, hd2, hd3⟩ := hJ.at_ hj
    refine ⟨tb, tq, A', n', c', C', m', d', tb9, tq9, A9, n9, c9, C9, m9, d9, rfl, htb, rfl, htb9, fun wx hb => ⟨⟨?_, ?_, ?_, ?_, ?_, ?_, ?_, ?_⟩, ih _ (List.getElem_mem hj) wx _ _ _ _ _ _ _ _ (hq.grow hb) (hq9.grow hb)⟩⟩
    · exact (hb.cell (p := ⟨tb, tq + j * 4, none⟩) htb).trans hc0
    · exact (hb.cell (p := ⟨tb, tq + j * 4 + 1, none⟩) htb).trans hc1
    · exact (hb.cell (p := ⟨tb, tq + j * 4 + 2, none⟩) htb).trans hc2
    · exact (hb.cell (p := ⟨tb, tq + j * 4 + 3, none⟩) htb).trans hc3
    · exact (hb.cell (p := ⟨tb9, tq9 + j * 4, none⟩) htb9).trans hd0
    · exact (hb.cell (p := ⟨tb9, tq9 + j * 4 + 1, none⟩) htb9).trans hd1
    · exact (hb.cell (p := ⟨tb9, tq9 + j * 4 + 2, none⟩) htb9).trans hd2
    · exact (hb.cell (p := ⟨tb9, tq9 + j * 4 + 3, none⟩) htb9).trans hd3
  have Hkid := Lib.hid hkid
  have Hlm := Lib.hid hlm
  have Hb := Lib.hid hb
  have H1 := Lib.hid h1
  have H2 := Lib.hid h2
  have Hz := Lib.hid hz
  clear hkid hlm hA hB hI hJ ih hw6 hl6 hb h1 h2 hz
  go_enter Try.func17, Try.ntmps17
  go_wp2_with fail
  refine cW.mono ?_
  rintro e w3 ⟨rfl, hb3⟩
  have hsz3 : w.heap.size + 2 ≤ w3.heap.size := by have := hb3.size; rw [Hz.out] at this; exact this
  have B1 := H1.out.below hb3 (by rw [Hz.out]; omega)
  have B2 := H2.out.below hb3 (by rw [Hz.out]; omega)
  have Hb3 := Lib.hid (Hb.out.trans (hb3.mono (by rw [Hz.out]; omega)))
  have hl1 := B1.cell 3
  have hl2 := B2.cell 3
  simp at hl1 hl2
  have HB1 := Lib.hid B1
  have HB2 := Lib.hid B2
  clear cW hb3 B1 B2 H1 H2 Hb Hz
  go_wp2_with fail
  clear hl1 hl2
  go_loopw [5] (fun v wr => ∃ j : Nat, j ≤ n ∧ v = .int .i64 (j : Nat) ∧ Below w3.heap.size w3 wr) (fun v _ => n - (intOf v).toNat)
  case atStart => exact ⟨0, Nat.zero_le _, rfl, Below.refl _ _⟩
  case round =>
    obtain ⟨j, hj, rfl, hb⟩ := hrel
    have hl1 := (HB1.out.below hb (by omega)).cell 3
    simp at hl1
    have Hb := Lib.hid hb
    by_cases hlt : j < n
    · have hjl : j < l.length := by rw [Hlm.out]; exact hlt
      have hji : (j : Int) < (n : Int) := by omega
      have hji0 : (0 : Int) ≤ (j : Int) := by omega
      obtain ⟨tb, tq, A', n', c', C', m', d', tb9, tq9, A9, n9, c9, C9, m9, d9, rfl, htb, rfl, htb9, hall⟩ := Hkid.out j hjl
      have hcells : ∀ wx, Below wr.heap.size wr wx → wx.cell? ⟨w.heap.size, 3, none⟩ = some (.slice (some ⟨tb, tq, none⟩) n c2) ∧ wx.cell? ⟨w.heap.size + 1, 3, none⟩ = some (.slice (some ⟨tb9, tq9, none⟩) n d2) ∧ wx.cell? ⟨tb, tq + j * 4, none⟩ = some (.int .i64 l[j].kind) ∧ wx.cell? ⟨tb, tq + j * 4 + 1, none⟩ = some (.string l[j].name) ∧ wx.cell? ⟨tb, tq + j * 4 + 2, none⟩ = some (.slice A' n' c') ∧ wx.cell? ⟨tb, tq + j * 4 + 3, none⟩ = some (.slice C' m' d') ∧
          wx.cell? ⟨tb9, tq9 + j * 4, none⟩ = some (.int .i64 l[j].kind) ∧ wx.cell? ⟨tb9, tq9 + j * 4 + 1, none⟩ = some (.string l[j].name) ∧ wx.cell? ⟨tb9, tq9 + j * 4 + 2, none⟩ = some (.slice A9 n9 c9) ∧ wx.cell? ⟨tb9, tq9 + j * 4 + 3, none⟩ = some (.slice C9 m9 d9) := fun wx hbx => by
        have hbw := hb.trans (hbx.mono hb.size)
        have x1 := (HB1.out.below hbw (by omega)).cell 3
        have x2 := (HB2.out.below hbw (by omega)).cell 3
        exact ⟨x1, x2, (hall wx (Hb3.out.trans (hbw.mono (by omega)))).1⟩
      have hcal := fun wx (hbx : Below wr.heap.size wr wx) => (hall wx (Hb3.out.trans ((hb.trans (hbx.mono hb.size)).mono (by omega)))).2
      have Hcells := Lib.hid hcells
      have Hcal := Lib.hid hcal
      clear hb hlt hall hcells hcal
      generalize l[j] = y at *
      generalize (y).kind = x0 at *
      generalize (y).name = x1 at *
      go_wp2_with fail
      refine wp_region_grow (specOf [(10, ⟨Unit, fun _ => (.bool true), fun _ _ => True⟩)]) (fun wx => Below (World.heap wr).size wr wx) (fun w1 w2 => Below w1.heap.size w1 w2) (by kernel_rfl) (by kernel_rfl) (stab_cons (fun _ _ _ _ _ => trivial) (stab_nil)) (Below.refl _ _).drew ?_
      refine grow_fix 1 ?_ rfl (by rfl) (by rfl) (fun wx hC hD => ?_) ?_
      rotate_left
      · have hSw := Hcells.out wx hC
        go_simp
        all_goals with_reducible rfl
      try simp only [Act.put, List.setIfInBounds_toArray, List.set_cons_zero, List.set_cons_succ]
      refine grow_fix 2 ?_ rfl (by rfl) (by rfl) (fun wx hC hD => ?_) ?_
      rotate_left
      · have hSw := Hcells.out wx hC
        go_simp
        all_goals with_reducible rfl
      try simp only [Act.put, List.setIfInBounds_toArray, List.set_cons_zero, List.set_cons_succ]
      refine grow_fix 3 ?_ rfl (by rfl) (by rfl) (fun wx hC hD => ?_) ?_
      rotate_left
      · have hSw := Hcells.out wx hC
        go_simp
        all_goals with_reducible rfl
      try simp only [Act.put, List.setIfInBounds_toArray, List.set_cons_zero, List.set_cons_succ]
      refine grow_fix 4 ?_ rfl (by rfl) (by rfl) (fun wx hC hD => ?_) ?_
      rotate_left
      · have hSw := Hcells.out wx hC
        go_simp
        all_goals with_reducible rfl
      try simp only [Act.put, List.setIfInBounds_toArray, List.set_cons_zero, List.set_cons_succ]
      refine grow_fix 5 ?_ rfl (by rfl) (by rfl) (fun wx hC hD => ?_) ?_
      rotate_left
      · have hSw := Hcells.out wx hC
        go_simp
        all_goals with_reducible rfl
      try simp only [Act.put, List.setIfInBounds_toArray, List.set_cons_zero, List.set_cons_succ]
      refine grow_fix 6 ?_ rfl (by rfl) (by rfl) (fun wx hC hD => ?_) ?_
      rotate_left
      · have hSw := Hcells.out wx hC
        go_simp
        all_goals with_reducible rfl
      try simp only [Act.put, List.setIfInBounds_toArray, List.set_cons_zero, List.set_cons_succ]
      refine grow_fix 7 ?_ rfl (by rfl) (by rfl) (fun wx hC hD => ?_) ?_
      rotate_left
      · have hSw := Hcells.out wx hC
        go_simp
        all_goals with_reducible rfl
      try simp only [Act.put, List.setIfInBounds_toArray, List.set_cons_zero, List.set_cons_succ]
      refine grow_fix 8 ?_ rfl (by rfl) (by rfl) (fun wx hC hD => ?_) ?_
      rotate_left
      · have hSw := Hcells.out wx hC
        go_simp
        all_goals with_reducible rfl
      try simp only [Act.put, List.setIfInBounds_toArray, List.set_cons_zero, List.set_cons_succ]
      refine grow_fix 9 ?_ rfl (by rfl) (by rfl) (fun wx hC hD => ?_) ?_
      rotate_left
      · have hSw := Hcells.out wx hC
        go_simp
        all_goals with_reducible rfl
      try simp only [Act.put, List.setIfInBounds_toArray, List.set_cons_zero, List.set_cons_succ]
      refine grow_fix 10 ?_ rfl (by rfl) (by rfl) (fun wx hC hD => ?_) ?_
      rotate_left
      · have hSw := Hcells.out wx hC
        go_simp
        all_goals with_reducible rfl
      try simp only [Act.put, List.setIfInBounds_toArray, List.set_cons_zero, List.set_cons_succ]
      refine grow_give 11 _ rfl (by rfl) (by rfl) (fun wx hC hD => ?_) (fun x => ?_)
      · refine give_enter (f := ?_) (args := ?_) ?_ ?_
        rotate_left 2
        · have hSw := Hcells.out wx hC
          go_simp
          all_goals first | with_reducible rfl | (refine ⟨?_, ?_⟩ <;> with_reducible rfl)
        exact calls_cst hC (Hcal.out wx hC)
      obtain ⟨⟩ := x
      try simp only [Act.put, List.setIfInBounds_toArray, List.set_cons_zero, List.set_cons_succ]
      refine grow_fix 12 ?_ rfl (by rfl) (by rfl) (fun wx hC hD => ?_) ?_
      rotate_left
      · have hSw := Hcells.out wx hC
        go_simp
        all_goals with_reducible rfl
      try simp only [Act.put, List.setIfInBounds_toArray, List.set_cons_zero, List.set_cons_succ]
      refine grow_nil (fun w5 hC hF => ?_)
      have FinB := Lib.hid (Hb.out.trans (hC.mono Hb.out.size))
      clear hC hF
      go_wp2_with fail
      go_roundw
      case rel => exact ⟨j + 1, by omega, by go_num, FinB.out⟩
      case measure => simp [intOf]; omega
    · have hji : (n : Int) ≤ (j : Int) := by omega
      clear hb
      go_wp2_with fail
      go_ret
      exact ⟨rfl, Hb3.out.trans (Hb.out.mono (by omega))⟩
theorem same_q {K : Nat} {q : Q} (h : QW K q) : SameOk q := by
  induction h with
  | mk h1 h2 h3 ih => exact same_one _ _ _ _ h1 h2 ih
end Go.Proofs.Ytceekocfmbcobaa.Qp
end

section
/- loggialaw17: term, awake: the walks (printed by gen_qpx.py). -/
namespace Go.Proofs.Ytceekocfmbcobaa.Qp
open Go.RowKit Go.Proofs.Ytceekocfmbcobaa Go.Proofs.Ytceekocfmbcobaa.Ut Go.Proofs.Ytceekocfmbcobaa.Tk Go.Proofs.Ytceekocfmbcobaa.Qy
set_option maxRecDepth 20000
set_option linter.unusedSimpArgs false

def msgS : ByteArray := ⟨#[109, 115, 103]⟩
set_option maxHeartbeats 1600000 in
theorem term_any (c : UInt8) (w : World) : Calls Try.prog 40 #[.string ⟨#[c]⟩] w fun e w' => ∃ g : Nat, e = .returned (.agg #[.int .i64 2, .string ⟨#[109, 115, 103]⟩, .slice (some ⟨g, 0, none⟩) 1 1, .slice none 0 0]) ∧ Blk w' g 9 #[.string ⟨#[c]⟩] ∧ Below w.heap.size w w' := by
  generalize (⟨#[c]⟩ : ByteArray) = s
  have hh := (Blk.new w 29 #[.int .i64 2, .string ⟨#[109, 115, 103]⟩, .slice (some ⟨w.heap.size + 1, 0, none⟩) 1 1, .slice none 0 0]).alloc (.cells #[.string s] 9)
  have hg := Blk.new (w.alloc (.cells #[.int .i64 2, .string ⟨#[109, 115, 103]⟩, .slice (some ⟨w.heap.size + 1, 0, none⟩) 1 1, .slice none 0 0] 29)) 9 #[.string s]
  rw [World.size_alloc] at hg
  go_enter Try.func40, Try.ntmps40
  go_wp2
  exact bodyPost_ret (results_cell rfl rfl (run_loadVar_row _ w.heap.size 29 29 _ (0, 0) _ hh Try.underlying29 rfl (by kernel_rfl))) rfl ⟨_, rfl, hg, ((Below.refl _ _).alloc (Nat.le_refl _) _).alloc (by simp) _⟩
theorem tq_at {w : World} {g : Nat} (c : UInt8) (h : Blk w g 9 #[.string ⟨#[c]⟩]) : QAt w w.heap.size (tq c) [.int .i64 2, .string ⟨#[109, 115, 103]⟩, .slice (some ⟨g, 0, none⟩) 1 1, .slice none 0 0] :=
  .mk [] rfl ⟨rfl, fun _ => ⟨g, 0, rfl, h.lt, fun j u hu => by
    rw [Nat.zero_add, h.cell]
    match j, hu with
    | 0, hu => exact hu
    | j + 1, hu => simp at hu⟩⟩ rfl rfl (by simp) Reads.none_ (fun i hi => absurd hi (by simp))
/-- A query of two parts. -/
theorem two_at {w : World} {g : Nat} (k : Int) {x y : Q} {x0 x1 x2 x3 y0 y1 y2 y3 : Value} (hx : QAt w w.heap.size x [x0, x1, x2, x3]) (hy : QAt w w.heap.size y [y0, y1, y2, y3]) (h : Blk w g 29 #[x0, x1, x2, x3, y0, y1, y2, y3]) :
    QAt w w.heap.size (.mk k ByteArray.empty [] [x, y]) [.int .i64 k, .string ⟨#[]⟩, .slice none 0 0, .slice (some ⟨g, 0, none⟩) 2 2] := by
  refine QAt.mk (nm := ⟨#[]⟩) [[x0, x1, x2, x3], [y0, y1, y2, y3]] rfl (by simpa using Reads.none_) rfl rfl (by simp) ⟨rfl, fun _ => ⟨g, 0, rfl, h.lt, fun j u hu => ?_⟩⟩ (fun i hi hi' => ?_)
  · rw [Nat.zero_add, h.cell]
    simpa using hu
  · match i, hi, hi' with
    | 0, _, _ => exact hx
    | 1, _, _ => exact hy
    | i + 2, hi, _ => exact absurd hi (by simp)
def W1F (c : UInt8) (x : Nat) (w : World) : Prop := Blk w x 9 #[.string ⟨#[c]⟩]
def W2F (x : Nat × Nat × Nat) (w : World) : Prop := Blk w x.1 29 #[.int .i64 2, .string ⟨#[109, 115, 103]⟩, .slice (some ⟨x.2.1, 0, none⟩) 1 1, .slice none 0 0, .int .i64 2, .string ⟨#[109, 115, 103]⟩, .slice (some ⟨x.2.2, 0, none⟩) 1 1, .slice none 0 0] ∧ W1F 98 x.2.1 w ∧ W1F 99 x.2.2 w
def W3F (x : Nat × Nat × Nat × Nat × Nat) (w : World) : Prop := Blk w x.1 29 #[.int .i64 2, .string ⟨#[109, 115, 103]⟩, .slice (some ⟨x.2.1, 0, none⟩) 1 1, .slice none 0 0, .int .i64 5, .string ⟨#[]⟩, .slice none 0 0, .slice (some ⟨x.2.2.1, 0, none⟩) 2 2] ∧ W1F 97 x.2.1 w ∧ W2F x.2.2 w
theorem W1F.last {c : UInt8} {x : Nat} {w w' : World} (h : W1F c x w) (hb : Below w.heap.size w w') : W1F c x w' := Blk.below h hb (Blk.lt h)
theorem W2F.last {x : Nat × Nat × Nat} {w w' : World} (h : W2F x w) (hb : Below w.heap.size w w') : W2F x w' := ⟨h.1.below hb h.1.lt, h.2.1.last hb, h.2.2.last hb⟩
theorem W3F.last {x : Nat × Nat × Nat × Nat × Nat} {w w' : World} (h : W3F x w) (hb : Below w.heap.size w w') : W3F x w' := ⟨h.1.below hb h.1.lt, h.2.1.last hb, h.2.2.last hb⟩
theorem W3F.at_ {x : Nat × Nat × Nat × Nat × Nat} {w : World} (h : W3F x w) : QAt w w.heap.size exQ1 [.int .i64 6, .string ⟨#[]⟩, .slice none 0 0, .slice (some ⟨x.1, 0, none⟩) 2 2] :=
  two_at 6 (tq_at 97 h.2.1) (two_at 5 (tq_at 98 h.2.2.2.1) (tq_at 99 h.2.2.2.2) h.2.2.1) h.1
set_option maxHeartbeats 6400000 in
theorem awake17 (w : World) : Calls Try.prog 18 #[] w fun e w' => e = .returned (.bool true) ∧ Below w.heap.size w w' := by
  have c1 := parse_any ⟨#[97, 32, 79, 82, 32, 98, 32, 99]⟩ w
  go_enter Try.func18, Try.ntmps18
  go_wp2_with fail
  refine c1.mono ?_
  rintro e w1 ⟨E, oq, a0, a1, a2, a3, hp, rfl, hF, hb1⟩
  obtain ⟨rfl, rfl⟩ := hp.det prs1
  replace hF : QF w1 (fun b => w.heap.size ≤ b ∧ b < w1.heap.size) exQ1 [a0, a1, a2, a3] := hF
  obtain ⟨A', n', c', C', m', d', e4⟩ := hF.four
  simp only [List.cons.injEq, and_true] at e4
  obtain ⟨rfl, rfl, rfl, rfl⟩ := e4
  have hk : exQ1.kind = 6 := rfl
  have hnm : exQ1.name = ⟨#[]⟩ := rfl
  rw [hk, hnm] at hF ⊢
  have hbb := (Below.refl w1.heap.size w1).alloc (Nat.le_refl _) (.cells #[.int .i64 6, .string ⟨#[]⟩, .slice A' n' c', .slice C' m' d'] 29)
  have HF2 := Lib.hid (hF.grow hbb)
  have HB2 := Lib.hid (Blk.new w1 29 #[.int .i64 6, .string ⟨#[]⟩, .slice A' n' c', .slice C' m' d'])
  have Hb2 := Lib.hid (hb1.trans (hbb.mono hb1.size))
  have hz : w1.heap.size < (w1.alloc (.cells #[.int .i64 6, .string ⟨#[]⟩, .slice A' n' c', .slice C' m' d'] 29)).heap.size := by simp
  have hsz1 := hb1.size
  clear c1 hp hF hbb hb1 hk hnm
  go_wp2_with fail
  generalize hw2 : w1.alloc (.cells #[.int .i64 6, .string ⟨#[]⟩, .slice A' n' c', .slice C' m' d'] 29) = w2 at *
  clear hw2
  have c2 := parse_any ⟨#[97, 32, 79, 82]⟩ w2
  refine c2.mono ?_
  rintro e w3 ⟨E, oq, b0, b1, b2, b3, hp, rfl, hF, hb3⟩
  obtain ⟨rfl, rfl⟩ := hp.det prs2
  obtain ⟨A9, n9, c9, C9, m9, d9, e9⟩ := hF.four
  simp only [List.cons.injEq, and_true] at e9
  obtain ⟨rfl, rfl, rfl, rfl⟩ := e9
  have HF3 := Lib.hid (HF2.out.grow hb3)
  have HB3 := Lib.hid (HB2.out.below hb3 hz)
  have Hb3 := Lib.hid (Hb2.out.trans (hb3.mono (by omega)))
  have hsz3 := hb3.size
  clear c2 hp hF hb3 HF2 HB2 Hb2
  have hb4 := (Below.refl w3.heap.size w3).alloc (Nat.le_refl _) (.cells #[.int .i64 ((none : Option Q).getD noQ).kind, .string ((none : Option Q).getD noQ).name, .slice A9 n9 c9, .slice C9 m9 d9] 29)
  have HF4 := Lib.hid (HF3.out.grow hb4)
  have HB4 := Lib.hid (HB3.out.alloc (.cells #[.int .i64 ((none : Option Q).getD noQ).kind, .string ((none : Option Q).getD noQ).name, .slice A9 n9 c9, .slice C9 m9 d9] 29))
  have Hb4 := Lib.hid (Hb3.out.trans (hb4.mono (by omega)))
  have hz4 : w3.heap.size < (w3.alloc (.cells #[.int .i64 ((none : Option Q).getD noQ).kind, .string ((none : Option Q).getD noQ).name, .slice A9 n9 c9, .slice C9 m9 d9] 29)).heap.size := by simp
  clear hb4 HF3 HB3 Hb3
  generalize ((none : Option Q).getD noQ).kind = k9 at *
  generalize ((none : Option Q).getD noQ).name = s9 at *
  go_upto_region 3 with (fail)
  generalize hw4 : w3.alloc (.cells #[.int .i64 k9, .string s9, .slice A9 n9 c9, .slice C9 m9 d9] 29) = w4 at *
  clear hw4
  have hcells : ∀ wx, Below w4.heap.size w4 wx → wx.cell? ⟨w1.heap.size, 0, none⟩ = some (.int .i64 6) ∧ wx.cell? ⟨w1.heap.size, 1, none⟩ = some (.string ⟨#[]⟩) ∧ wx.cell? ⟨w1.heap.size, 2, none⟩ = some (.slice A' n' c') ∧ wx.cell? ⟨w1.heap.size, 3, none⟩ = some (.slice C' m' d') := fun wx hb => by
    have B := HB4.out.below hb (by omega)
    exact ⟨B.cell 0, B.cell 1, B.cell 2, B.cell 3⟩
  have Hcells := Lib.hid hcells
  clear hcells
  refine wp_region_grow (specOf [(4, ⟨Nat, fun x => .agg #[.int .i64 2, .string ⟨#[109, 115, 103]⟩, .slice (some ⟨x, 0, none⟩) 1 1, .slice none 0 0], W1F 97⟩), (5, ⟨Nat, fun x => .agg #[.int .i64 2, .string ⟨#[109, 115, 103]⟩, .slice (some ⟨x, 0, none⟩) 1 1, .slice none 0 0], W1F 98⟩), (6, ⟨Nat, fun x => .agg #[.int .i64 2, .string ⟨#[109, 115, 103]⟩, .slice (some ⟨x, 0, none⟩) 1 1, .slice none 0 0], W1F 99⟩), (7, ⟨Nat × Nat × Nat, fun x => .slice (some ⟨x.1, 0, none⟩) 2 2, W2F⟩), (8, ⟨Nat × Nat × Nat, fun x => .agg #[.int .i64 5, .string ⟨#[]⟩, .slice none 0 0, .slice (some ⟨x.1, 0, none⟩) 2 2], W2F⟩), (9, ⟨Nat × Nat × Nat × Nat × Nat, fun x => .slice (some ⟨x.1, 0, none⟩) 2 2, W3F⟩), (10, ⟨Nat × Nat × Nat × Nat × Nat, fun x => .agg #[.int .i64 6, .string ⟨#[]⟩, .slice none 0 0, .slice (some ⟨x.1, 0, none⟩) 2 2], W3F⟩), (11, ⟨Unit, fun _ => .bool true, fun _ _ => True⟩)]) (fun wx => Below (World.heap w4).size w4 wx) (fun w1 w2 => Below w1.heap.size w1 w2) (by kernel_rfl) (by kernel_rfl) (stab_cons (fun x w1 w2 hg h => W1F.last h hg) (stab_cons (fun x w1 w2 hg h => W1F.last h hg) (stab_cons (fun x w1 w2 hg h => W1F.last h hg) (stab_cons (fun x w1 w2 hg h => W2F.last h hg) (stab_cons (fun x w1 w2 hg h => W2F.last h hg) (stab_cons (fun x w1 w2 hg h => W3F.last h hg) (stab_cons (fun x w1 w2 hg h => W3F.last h hg) (stab_cons (fun _ _ _ _ _ => trivial) (stab_nil))))))))) (Below.refl _ _).drew ?_
  refine grow_fix 1 ?_ rfl (by rfl) (by rfl) (fun wx hC hD => ?_) ?_
  rotate_left
  · have hSw := Hcells.out wx hC
    go_simp
    all_goals with_reducible rfl
  try simp only [Act.put, List.setIfInBounds_toArray, List.set_cons_zero, List.set_cons_succ]
  refine grow_fix 2 ?_ rfl (by rfl) (by rfl) (fun wx hC hD => ?_) ?_
  rotate_left
  · have hSw := Hcells.out wx hC
    go_simp
    all_goals with_reducible rfl
  try simp only [Act.put, List.setIfInBounds_toArray, List.set_cons_zero, List.set_cons_succ]
  refine grow_fix 3 ?_ rfl (by rfl) (by rfl) (fun wx hC hD => ?_) ?_
  rotate_left
  · have hSw := Hcells.out wx hC
    go_simp
    all_goals with_reducible rfl
  try simp only [Act.put, List.setIfInBounds_toArray, List.set_cons_zero, List.set_cons_succ]
  refine grow_fix 4 ?_ rfl (by rfl) (by rfl) (fun wx hC hD => ?_) ?_
  rotate_left
  · have hSw := Hcells.out wx hC
    go_simp
    all_goals with_reducible rfl
  try simp only [Act.put, List.setIfInBounds_toArray, List.set_cons_zero, List.set_cons_succ]
  refine grow_give 5 _ rfl (by rfl) (by rfl) (fun wx hC hD => ?_) (fun x => ?_)
  · refine give_enter (f := ?_) (args := ?_) ?_ ?_
    rotate_left 2
    · have hSw := Hcells.out wx hC
      go_simp
      all_goals first | with_reducible rfl | (refine ⟨?_, ?_⟩ <;> with_reducible rfl)
    refine (term_any 97 wx).mono ?_
    rintro e w9 ⟨g9, rfl, hg9, hb9⟩
    exact ⟨_, rfl, hb9, hC.trans (hb9.mono hC.size), g9, rfl, hg9⟩
  rename Nat => s1
  try simp only [Act.put, List.setIfInBounds_toArray, List.set_cons_zero, List.set_cons_succ]
  refine grow_give 6 _ rfl (by rfl) (by rfl) (fun wx hC hD => ?_) (fun x => ?_)
  · refine give_enter (f := ?_) (args := ?_) ?_ ?_
    rotate_left 2
    · have hSw := Hcells.out wx hC
      go_simp
      all_goals first | with_reducible rfl | (refine ⟨?_, ?_⟩ <;> with_reducible rfl)
    refine (term_any 98 wx).mono ?_
    rintro e w9 ⟨g9, rfl, hg9, hb9⟩
    exact ⟨_, rfl, hb9, hC.trans (hb9.mono hC.size), g9, rfl, hg9⟩
  rename Nat => s2
  try simp only [Act.put, List.setIfInBounds_toArray, List.set_cons_zero, List.set_cons_succ]
  refine grow_give 7 _ rfl (by rfl) (by rfl) (fun wx hC hD => ?_) (fun x => ?_)
  · refine give_enter (f := ?_) (args := ?_) ?_ ?_
    rotate_left 2
    · have hSw := Hcells.out wx hC
      go_simp
      all_goals first | with_reducible rfl | (refine ⟨?_, ?_⟩ <;> with_reducible rfl)
    refine (term_any 99 wx).mono ?_
    rintro e w9 ⟨g9, rfl, hg9, hb9⟩
    exact ⟨_, rfl, hb9, hC.trans (hb9.mono hC.size), g9, rfl, hg9⟩
  rename Nat => s3
  try simp only [Act.put, List.setIfInBounds_toArray, List.set_cons_zero, List.set_cons_succ]
  refine grow_give 8 _ rfl (by rfl) (by rfl) (fun wx hC hD => ?_) (fun x => ?_)
  · refine give_value (u := ?_) (w' := ?_) ?_ ?_ ?_
    rotate_left 2
    · have hSw := Hcells.out wx hC
      go_simp
      all_goals first | with_reducible rfl | (refine ⟨?_, ?_⟩ <;> with_reducible rfl)
    · exact ((Below.refl _ _).alloc (Nat.le_refl _) _)
    · exact ⟨hC.alloc hC.size _, (wx.heap.size, s2, s3), rfl, Blk.new _ _ _, W1F.last (upd_hit (upd_miss (deps_get hD 5 (by kernel_rfl)) (by decide)) (by decide)) ((Below.refl _ _).alloc (Nat.le_refl _) _), W1F.last (upd_hit (deps_get hD 6 (by kernel_rfl)) (by decide)) ((Below.refl _ _).alloc (Nat.le_refl _) _)⟩
  obtain ⟨g7, u1, u2⟩ := x
  try simp only [Act.put, List.setIfInBounds_toArray, List.set_cons_zero, List.set_cons_succ]
  refine grow_give 9 _ rfl (by rfl) (by rfl) (fun wx hC hD => ?_) (fun x => ?_)
  · refine give_value (u := ?_) (w' := ?_) ?_ ?_ ?_
    rotate_left 2
    · have hSw := Hcells.out wx hC
      go_simp
      all_goals first | with_reducible rfl | (refine ⟨?_, ?_⟩ <;> with_reducible rfl)
    · exact Below.refl _ _
    · exact ⟨hC, (g7, u1, u2), rfl, upd_hit (deps_get hD 7 (by kernel_rfl)) (by decide)⟩
  obtain ⟨g8, v1, v2⟩ := x
  try simp only [Act.put, List.setIfInBounds_toArray, List.set_cons_zero, List.set_cons_succ]
  refine grow_give 10 _ rfl (by rfl) (by rfl) (fun wx hC hD => ?_) (fun x => ?_)
  · refine give_value (u := ?_) (w' := ?_) ?_ ?_ ?_
    rotate_left 2
    · have hSw := Hcells.out wx hC
      go_simp
      all_goals first | with_reducible rfl | (refine ⟨?_, ?_⟩ <;> with_reducible rfl)
    · exact ((Below.refl _ _).alloc (Nat.le_refl _) _)
    · exact ⟨hC.alloc hC.size _, (wx.heap.size, s1, g8, v1, v2), rfl, Blk.new _ _ _, W1F.last (upd_hit (upd_miss (upd_miss (upd_miss (upd_miss (deps_get hD 4 (by kernel_rfl)) (by decide)) (by decide)) (by decide)) (by decide)) (by decide)) ((Below.refl _ _).alloc (Nat.le_refl _) _), W2F.last (upd_hit (deps_get hD 8 (by kernel_rfl)) (by decide)) ((Below.refl _ _).alloc (Nat.le_refl _) _)⟩
  obtain ⟨h9, r1, r2, r3, r4⟩ := x
  try simp only [Act.put, List.setIfInBounds_toArray, List.set_cons_zero, List.set_cons_succ]
  refine grow_give 11 _ rfl (by rfl) (by rfl) (fun wx hC hD => ?_) (fun x => ?_)
  · refine give_value (u := ?_) (w' := ?_) ?_ ?_ ?_
    rotate_left 2
    · have hSw := Hcells.out wx hC
      go_simp
      all_goals first | with_reducible rfl | (refine ⟨?_, ?_⟩ <;> with_reducible rfl)
    · exact Below.refl _ _
    · exact ⟨hC, (h9, r1, r2, r3, r4), rfl, upd_hit (deps_get hD 9 (by kernel_rfl)) (by decide)⟩
  obtain ⟨h10, y1, y2, y3, y4⟩ := x
  try simp only [Act.put, List.setIfInBounds_toArray, List.set_cons_zero, List.set_cons_succ]
  refine grow_give 12 _ rfl (by rfl) (by rfl) (fun wx hC hD => ?_) (fun x => ?_)
  · refine give_enter (f := ?_) (args := ?_) ?_ ?_
    rotate_left 2
    · have hSw := Hcells.out wx hC
      go_simp
      all_goals first | with_reducible rfl | (refine ⟨?_, ?_⟩ <;> with_reducible rfl)
    exact calls_cst hC (same_q exQ1_w wx _ _ _ _ _ _ _ _ ((HF4.out.grow hC).at_ fun b hS => hS.2) (W3F.at_ (upd_hit (deps_get hD 10 (by kernel_rfl)) (by decide))))
  obtain ⟨⟩ := x
  try simp only [Act.put, List.setIfInBounds_toArray, List.set_cons_zero, List.set_cons_succ]
  refine grow_fix 13 ?_ rfl (by rfl) (by rfl) (fun wx hC hD => ?_) ?_
  rotate_left
  · have hSw := Hcells.out wx hC
    go_simp
    all_goals with_reducible rfl
  try simp only [Act.put, List.setIfInBounds_toArray, List.set_cons_zero, List.set_cons_succ]
  refine grow_fix 14 ?_ rfl (by rfl) (by rfl) (fun wx hC hD => ?_) ?_
  rotate_left
  · have hSw := Hcells.out wx hC
    go_simp
    all_goals with_reducible rfl
  try simp only [Act.put, List.setIfInBounds_toArray, List.set_cons_zero, List.set_cons_succ]
  refine grow_fix 15 ?_ rfl (by rfl) (by rfl) (fun wx hC hD => ?_) ?_
  rotate_left
  · have hSw := Hcells.out wx hC
    go_simp
    all_goals with_reducible rfl
  try simp only [Act.put, List.setIfInBounds_toArray, List.set_cons_zero, List.set_cons_succ]
  refine grow_fix 16 ?_ rfl (by rfl) (by rfl) (fun wx hC hD => ?_) ?_
  rotate_left
  · have hSw := Hcells.out wx hC
    go_simp
    all_goals with_reducible rfl
  try simp only [Act.put, List.setIfInBounds_toArray, List.set_cons_zero, List.set_cons_succ]
  refine grow_fix 17 ?_ rfl (by rfl) (by rfl) (fun wx hC hD => ?_) ?_
  rotate_left
  · have hSw := Hcells.out wx hC
    go_simp
    all_goals with_reducible rfl
  try simp only [Act.put, List.setIfInBounds_toArray, List.set_cons_zero, List.set_cons_succ]
  refine grow_fix 18 ?_ rfl (by rfl) (by rfl) (fun wx hC hD => ?_) ?_
  rotate_left
  · have hSw := Hcells.out wx hC
    go_simp
    all_goals with_reducible rfl
  try simp only [Act.put, List.setIfInBounds_toArray, List.set_cons_zero, List.set_cons_succ]
  refine grow_nil (fun w5 hC hF => ?_)
  have Hfin := Lib.hid (Hb4.out.trans (hC.mono (by omega)))
  clear hC hF
  go_wp2_with fail
  go_ret
  exact ⟨rfl, Hfin.out⟩
end Go.Proofs.Ytceekocfmbcobaa.Qp
end
