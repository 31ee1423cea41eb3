/- memidx: Doc, Posts: the walks. -/
import Derived.Maps.AppendAt
import Derived.Laws.AppendOwnNone
import Derived.Test.YtioekhiaoajgfaaGreatPkMemidxForksRow25
import Derived.Test.YtioekhiaoajgfaaGreatEvUPk
import Derived.Test.YtioekhiaoajgfaaGreatPkMemidxForksRow0
section
namespace Go.Proofs.YtioekhiaoajgfaaGreat.Mx
open Go.RowKit Go.Proofs.YtioekhiaoajgfaaGreat Go.Proofs.YtioekhiaoajgfaaGreat.Ut Go.Proofs.YtioekhiaoajgfaaGreat.Tk Go.Proofs.YtioekhiaoajgfaaGreat.Qy Go.Proofs.YtioekhiaoajgfaaGreat.Ev Go.Proofs.YtioekhiaoajgfaaGreat.Qp Go.Proofs.YtioekhiaoajgfaaGreat.Mv
set_option linter.unusedVariables false
set_option linter.unusedSimpArgs false
set_option maxRecDepth 20000

theorem results_ct {fn : Func} {p u : Tmp} {ty : TypeId} (h : fn.results = #[.cell p ty, .tmp u]) {tmps : Array Value} {P : Program} {w : World} {a : Addr} {v : Value} (ha : tmps.getD p undef = .pointer (some a)) (hl : (loadVar ty a).run P w = .ok v w) :
    (results fn tmps).run P w = .ok (.tuple #[v, tmps.getD u undef]) w := by
  rw [results_cell_tmp h, ha]
  have : (asAddr (.pointer (some a))).run P w = .ok a w := rfl
  rw [this]
  simp only [Result.andThen_ok]
  rw [hl]
  rfl
/-- What Doc hands back. -/
def DocPost (w : World) (o : Option Dc) (e : Ending) (w' : World) : Prop := match o with
  | none => e = .returned (.tuple #[.agg #[.int .i64 0, .int .i64 0, .slice none 0 0], .int .i64 5]) ∧ Below w.heap.size w w'
  | some d => ∃ A c, e = .returned (.tuple #[.agg #[.int .i64 d.seq, .int .i64 d.at_, .slice A d.fs.length c], .int .i64 0]) ∧ d.fs.length ≤ c ∧ (A = none → c = 0) ∧ Reads w' w'.heap.size 2 A d.fs.length (fldC d.fs) ∧ Below w.heap.size w w'
/-- The doc at a place. -/
def docAt (ds : List Dc) (i : Int) : Option Dc := if 0 ≤ i then ds[i.toNat]? else none
set_option maxHeartbeats 3200000 in
theorem docI_any {w : World} {n0 X M cn : Nat} {v : Value} {F : ByteArray → Option Value} {O : Nat → Prop} {ds : List Dc} {sz lo hi : Int} {f : ByteArray → List Po} (i : Int) (h : Idx w n0 X M cn v F O ds sz lo hi f) (hok : Dok ds) (hfew : ds.length ≤ 65536) :
    Calls Tryz.prog 25 #[.pointer (some ⟨X, 0, none⟩), .int .i64 i] w (DocPost w (docAt ds i)) := by
  obtain ⟨i0, hi0, hz0, hz1, hz2⟩ := info_parts doc_info
  have hB1 : Below w.heap.size w (w.alloc (.cells #[.int .i64 0, .int .i64 0, .slice none 0 0] 66)) := (Below.refl _ _).alloc (Nat.le_refl _) _
  have hR := Blk.new w 66 #[.int .i64 0, .int .i64 0, .slice none 0 0]
  have h1 := h.below hB1 (O' := fun b => n0 ≤ b ∧ b < (w.alloc (.cells #[.int .i64 0, .int .i64 0, .slice none 0 0] 66)).heap.size) (fun b hO => ⟨(h.lt b hO).1, Nat.lt_of_lt_of_le (h.lt b hO).2 hB1.size⟩) (fun b hb => hb)
  have c1 := Lib.hid (none_no h1)
  obtain ⟨A8, c8, rfl, hc8, hn8⟩ := h.docs_v
  have k3 := h1.blk.cell 3
  simp only [List.getElem?_toArray, List.getElem?_cons_zero, List.getElem?_cons_succ] at k3
  have HB1 := Lib.hid hB1
  have HR := Lib.hid hR
  have H1 := Lib.hid h1
  have OK := Lib.hid hok
  clear h hok hR hB1 h1
  go_enter Tryz.func25, Tryz.ntmps25
  go_wp2_with fail
  refine c1.out.mono ?_
  rintro e w' ⟨rfl, rfl⟩
  have r0 := HR.out.cell 0
  have r1 := HR.out.cell 1
  have r2 := HR.out.cell 2
  have r0f := HR.out.frozen 0
  have r1f := HR.out.frozen 1
  have r2f := HR.out.frozen 2
  simp only [List.getElem?_toArray, List.getElem?_cons_zero, List.getElem?_cons_succ] at r0 r1 r2
  by_cases hin : 0 ≤ i ∧ i < (ds.length : Int)
  · obtain ⟨h0, hlt⟩ := hin
    obtain ⟨k, rfl⟩ : ∃ k : Nat, i = (k : Int) := ⟨i.toNat, by omega⟩
    have hlk : k < ds.length := by omega
    have hd0 : decide ((k : Int) < 0) = false := decide_eq_false (by omega)
    have hd1 : decide ((ds.length : Int) ≤ (k : Int)) = false := decide_eq_false (by omega)
    have hd1n : decide (ds.length ≤ k) = false := decide_eq_false (by omega)
    obtain ⟨g, Fa, fc, rfl, hg, q0, q1, q2, hr, hnl⟩ := H1.out.fl_at hlk
    have hda : docAt ds (k : Int) = some ds[k] := by unfold docAt; rw [if_pos h0]; simp [hlk]
    have hdk := OK.out _ (List.getElem_mem hlk)
    have hf16 := (chkE_ok hdk.1).1
    have HDA := Lib.hid hda
    generalize ds[k] = d at *
    have C2 := Lib.hid (copied_any d Fa d.fs.length fc _ hr rfl (by omega) hnl)
    clear hda hdk hr hnl
    go_wp2_with fail
    refine C2.out.mono ?_
    rintro e w3 ⟨A3, q3, rfl, hnq3, hnl3, hown3, hb3⟩
    have hR3 := HR.out.below hb3 HR.out.lt
    have HR3 := Lib.hid hR3
    have s0 := hR3.cell 0
    have s1 := hR3.cell 1
    have s2 := hR3.cell 2
    have s0f := hR3.frozen 0
    have s1f := hR3.frozen 1
    have s2f := hR3.frozen 2
    simp only [List.getElem?_toArray, List.getElem?_cons_zero, List.getElem?_cons_succ] at s0 s1 s2
    have HB3 := Lib.hid (HB1.out.trans (hb3.mono HB1.out.size))
    have HO3 := Lib.hid hown3
    clear hR3 r0 r1 r2 r0f r1f r2f k3 q0 q1 q2 hb3 hown3
    go_wp2_with fail
    have hh : Blk (((w3.setCell ⟨w.heap.size, 0, none⟩ (.int .i64 d.seq)).setCell ⟨w.heap.size, 1, none⟩ (.int .i64 d.at_)).setCell ⟨w.heap.size, 2, none⟩ (.slice A3 d.fs.length q3)) w.heap.size 66 #[.int .i64 d.seq, .int .i64 d.at_, .slice A3 d.fs.length q3] := by
      have := ((HR3.out.set_ 0 (.int .i64 d.seq)).set_ 1 (.int .i64 d.at_)).set_ 2 (.slice A3 d.fs.length q3)
      simpa using this
    refine bodyPost_ret (results_ct rfl rfl (run_loadVar_row _ w.heap.size 66 66 #[.int .i64 d.seq, .int .i64 d.at_, .slice A3 d.fs.length q3] (0, 0) _ hh Tryz.underlying66 rfl (by kernel_rfl))) rfl ?_
    rw [HDA.out]
    have hk : ∀ b, b ≠ w.heap.size → (((w3.setCell ⟨w.heap.size, 0, none⟩ (.int .i64 d.seq)).setCell ⟨w.heap.size, 1, none⟩ (.int .i64 d.at_)).setCell ⟨w.heap.size, 2, none⟩ (.slice A3 d.fs.length q3)).heap[b]? = w3.heap[b]? := fun b hne => ((Below.heap_setCell _ ⟨w.heap.size, 2, none⟩ _ b hne).trans (Below.heap_setCell _ ⟨w.heap.size, 1, none⟩ _ b hne)).trans (Below.heap_setCell _ ⟨w.heap.size, 0, none⟩ _ b hne)
    have ho := own_same HO3.out (fun b hb => hk b (fun e => by
      subst e
      exact absurd ((tg_own HO3.out hb).one (tg_blk HR3.out)) (by decide)))
    refine ⟨A3, q3, rfl, hnq3, hnl3, (ReadsS.of_own ho).reads (fun b hb => hb.2.1), ((HB3.out.setCell (p := ⟨w.heap.size, 0, none⟩) (Nat.le_refl _) _).setCell (p := ⟨w.heap.size, 1, none⟩) (Nat.le_refl _) _).setCell (p := ⟨w.heap.size, 2, none⟩) (Nat.le_refl _) _⟩
  · have hda : docAt ds i = none := by
      unfold docAt
      split
      · rename_i h0
        exact List.getElem?_eq_none (by omega)
      · rfl
    have HDA := Lib.hid hda
    clear hda
    rcases (show i < 0 ∨ 0 ≤ i by omega) with h0 | h0
    · have hd0 : decide (i < 0) = true := decide_eq_true h0
      go_wp2_with fail
      refine bodyPost_ret (results_ct rfl rfl (run_loadVar_row _ w.heap.size 66 66 #[.int .i64 0, .int .i64 0, .slice none 0 0] (0, 0) _ HR.out Tryz.underlying66 rfl (by kernel_rfl))) rfl ?_
      rw [HDA.out]
      exact ⟨rfl, HB1.out⟩
    · have hd0 : decide (i < 0) = false := decide_eq_false (by omega)
      have hge : (ds.length : Int) ≤ i := by omega
      have hd1 : decide ((ds.length : Int) ≤ i) = true := decide_eq_true hge
      go_wp2_with fail
      refine bodyPost_ret (results_ct rfl rfl (run_loadVar_row _ w.heap.size 66 66 #[.int .i64 0, .int .i64 0, .slice none 0 0] (0, 0) _ HR.out Tryz.underlying66 rfl (by kernel_rfl))) rfl ?_
      rw [HDA.out]
      exact ⟨rfl, HB1.out⟩
end Go.Proofs.YtioekhiaoajgfaaGreat.Mx
end

section
/- Where the terms of fields stand: plain. (Split out of EvY; no walk.) -/
namespace Go.Proofs.YtioekhiaoajgfaaGreat.Ev
open Go.RowKit Go.Proofs.YtioekhiaoajgfaaGreat Go.Proofs.YtioekhiaoajgfaaGreat.Ut Go.Proofs.YtioekhiaoajgfaaGreat.Tk Go.Proofs.YtioekhiaoajgfaaGreat.Qy Go.Proofs.YtioekhiaoajgfaaGreat.Qp
set_option maxRecDepth 20000
set_option linter.unusedVariables false
set_option linter.unusedSimpArgs false

/-- Where the words of the i-th field begin. -/
def baseAt : List Fl → Nat → Nat
  | [], _ => 0
  | _, 0 => 0
  | f :: fs, i + 1 => (64 + (words f.2.data.toList).length) + baseAt fs i
theorem basedL_at : ∀ (fs : List Fl) (b i : Nat) (h : i < fs.length), (basedL b fs)[i]'(by rw [basedL_len]; exact h) = (b + baseAt fs i, fs[i])
  | f :: fs, b, 0, h => rfl
  | f :: fs, b, i + 1, h => by
    have := basedL_at fs (b + (64 + (words f.2.data.toList).length)) i (by simpa using h)
    simp only [basedL, List.getElem_cons_succ, this, baseAt]
    rw [Nat.add_assoc]
theorem baseAt_succ : ∀ (fs : List Fl) (i : Nat) (h : i < fs.length), baseAt fs (i + 1) = baseAt fs i + (words fs[i].2.data.toList).length + 64
  | [f], 0, h => by simp [baseAt]; omega
  | f :: g :: fs, 0, h => by simp [baseAt]; omega
  | f :: fs, i + 1, h => by
    have := baseAt_succ fs i (by simpa using h)
    simp only [baseAt, List.getElem_cons_succ, this]
    omega
theorem baseAt_le : ∀ (fs : List Fl) (i : Nat), (∀ f ∈ fs, f.2.size ≤ 4096) → baseAt fs i ≤ i * 4160
  | [], i, _ => by cases i <;> simp [baseAt]
  | f :: fs, 0, _ => by simp [baseAt]
  | f :: fs, i + 1, h => by
    have h1 := words_len f.2
    have h2 := h f (List.mem_cons_self ..)
    have h3 := baseAt_le fs i (fun g hg => h g (List.mem_cons_of_mem _ hg))
    simp only [baseAt]
    omega
/-- The terms of the first i fields. -/
def rawN (fs : List Fl) (i : Nat) : List T1 := ((basedL 0 fs).take i).flatMap rawO
theorem rawN_succ (fs : List Fl) (i : Nat) (h : i < fs.length) : rawN fs (i + 1) = rawN fs i ++ rawO (baseAt fs i, fs[i]) := by
  unfold rawN
  rw [List.take_succ_eq_append_getElem (by rw [basedL_len]; exact h), List.flatMap_append, basedL_at fs 0 i h, Nat.zero_add]
  simp
theorem rawN_all (fs : List Fl) : rawN fs fs.length = raw fs := by
  unfold rawN raw
  rw [List.take_of_length_le (by rw [basedL_len]; exact Nat.le_refl _)]
theorem rawN_len (fs : List Fl) (hsz : ∀ f ∈ fs, f.2.size ≤ 4096) : ∀ i, i ≤ fs.length → (rawN fs i).length ≤ i * 4096
  | 0, _ => by simp [rawN]
  | i + 1, h => by
    have ih := rawN_len fs hsz i (by omega)
    have h1 := words_len fs[i].2
    have h2 := hsz _ (List.getElem_mem (show i < fs.length by omega))
    rw [rawN_succ fs i (by omega), List.length_append, rawO_len]
    simp only
    omega
theorem addAll_pos (L : List T1) : ∀ x ∈ addAll L, x.2.length ≤ L.length := fun x hx => by
  have := (((isTm_all L).mem x).1 hx).2
  rw [this, List.length_map]
  exact List.length_filter_le _ _
theorem termT_size (a : ByteArray) (x : List UInt8) : (termT a x).size = a.size + 1 + x.length := by
  have h1 : ∀ l : List UInt8, (str l).size = l.length := fun l => by simp [str, ByteArray.size]
  unfold termT
  rw [h1]
  unfold term
  rw [List.length_append, List.length_cons, bsize]
  omega
end Go.Proofs.YtioekhiaoajgfaaGreat.Ev
end

section
/- Rows of the call's own, of whatever elements: appends of what may be nil, cuts. (No program in sight.) -/
namespace Go.Proofs.YtioekhiaoajgfaaGreat.Rg
open Go.RowKit Go.Proofs.YtioekhiaoajgfaaGreat
set_option linter.unusedVariables false
set_option linter.unusedSimpArgs false

theorem add_lit (b o n : Nat) : (⟨b, o, none⟩ : Addr).add n = ⟨b, o + n, none⟩ := by unfold Addr.add; split <;> simp_all
/-- An append of a row that reads, nil or not. -/
theorem wpList_append_any {P : Program} {w : World} {ops : Array Oper} {rest : List Oper} {o : Oper} {a : Act} {Q : Exit → Act → World → Prop} (hgd : o.guard = none) (s x : Operand) (t : TypeId)
    (ho : o.op = .call { callee := .builtin .append, args := #[s, x], argTypes := #[t, t] })
    (base : Nat) (e : TypeId) (i : TypeInfo) (z : Value) (size bytes : Nat) (ht : P.underlying t = some (.slice e)) (hi : P.info? e = some i) (hz : i.zero = some z)
    (hsize : i.size = size) (hby : i.bytes = bytes) (hzs : z.cells.size = size) (hsz : 0 < size)
    (v : Value) (n : Nat) (xs : List Value) (hs : a.eval s = v) (hown : w.ownsRow base e size v n xs) (A : Option Addr) (m c : Nat) (X : List Value) (hx : a.eval x = .slice A m c) (hR : Reads w w.heap.size size A m X) (hnil : A = none → c = 0) (h1 : ∀ u ∈ X, u.oneCell' = true)
    (h63 : n + m ≤ maxLen) (hbytes : (n + m) * bytes ≤ 140737488355328) (hbase : base ≤ w.heap.size)
    (h : ∀ v' w', w'.ownsRow base e size v' (n + m) (xs ++ X) → w.grownBy w' v.ownBlock → (v'.ownBlock = v.ownBlock ∨ v'.ownBlock = some w.heap.size) → wpList P ops Q rest (a.put o.dst v') w') : wpList P ops Q (o :: rest) a w := by
  have hXl := hR.1
  cases A with
  | none =>
    have hm0 : m = 0 := by
      by_cases h0 : 0 < m
      · obtain ⟨b, o, e, _⟩ := hR.2 h0; cases e
      · omega
    subst hm0
    obtain rfl : c = 0 := hnil rfl
    have hX : X = [] := List.length_eq_zero_iff.1 (by omega)
    subst hX
    refine wpList_append_own_none hgd s x t ho base e i size ht hi v n xs hs hown hx ?_
    exact h v w (by simpa using hown) (grow_of_below (Below.refl _ _) _) (.inl rfl)
  | some ad =>
    refine wpList_append_own_at w hgd s x t ho base e i z size bytes ht hi hz hsize hby hzs hsz v n xs hs hown ad m c X hx hXl (fun j u hj => ?_) h1 h63 hbytes hbase (fun v' w' h1 h2 _ h4 => h v' w' h1 h2 h4)
    have hjl : j < m * size := by
      have := (List.getElem?_eq_some_iff.1 hj).1
      omega
    have hm0 : 0 < m := by
      rcases Nat.eq_zero_or_pos m with h0 | h0
      · subst h0; omega
      · exact h0
    obtain ⟨b, o, e, hb, hc⟩ := hR.2 hm0
    injection e with e
    subst e
    rw [add_lit]
    exact hc j u hj
section
variable {w : World} {B n c p k : Nat} {A : Option Addr} {X : List Value}
/-- The beginning of a row. -/
theorem reads_take (h : Reads w B k A n X) (hp : p ≤ n) : Reads w B k A p (X.take (p * k)) := by
  have hl := h.1
  have hle : p * k ≤ n * k := Nat.mul_le_mul_right k hp
  refine ⟨by rw [List.length_take]; omega, fun h0 => ?_⟩
  obtain ⟨b, o, e, hb, hc⟩ := h.2 (by omega)
  refine ⟨b, o, e, hb, fun j u hj => hc j u ?_⟩
  rw [List.getElem?_take] at hj
  split at hj
  · exact hj
  · cases hj
/-- The rest of a row, from a place on. -/
theorem reads_cut (h : Reads w B k A n X) (hp : p ≤ n) (hc : n ≤ c) : Reads w B k (if c = p then A else A.map (·.add (p * k))) (n - p) (X.drop (p * k)) := by
  have hl := h.1
  refine ⟨by rw [List.length_drop, Nat.sub_mul]; omega, fun h0 => ?_⟩
  rw [if_neg (by omega)]
  obtain ⟨b, o, rfl, hb, hcl⟩ := h.2 (by omega)
  refine ⟨b, o + p * k, ?_, hb, fun j u hj => ?_⟩
  · show some ((⟨b, o, none⟩ : Addr).add (p * k)) = _
    rw [add_lit]
  · rw [List.getElem?_drop] at hj
    have := hcl _ _ hj
    rwa [← Nat.add_assoc] at this
end
/-- A row of the call's own that is being collected. -/
structure Row (T : TypeId) (k B : Nat) (w wr : World) (v : Value) (n : Nat) (X : List Value) : Prop where
  own : wr.ownsRow B T k v n X
  bel : Below B w wr
section
variable {T : TypeId} {k B n : Nat} {w wr w' : World} {v : Value} {X : List Value}
theorem Row.start (hb : Below B w wr) : Row T k B w wr (.slice none 0 0) 0 [] := ⟨World.ownsRow_nil _ _ _ _, hb⟩
theorem Row.empty (T : TypeId) (k : Nat) (hk : 0 < k) (w : World) : Row T k w.heap.size w (w.alloc (.cells #[] T)) (.slice (some ⟨w.heap.size, 0, none⟩) 0 0) 0 [] :=
  ⟨World.ownsRow_lit (base := w.heap.size) (e := T) (size := k) w #[] 0 (by simp) (by unfold maxLen; omega) (by simp), (Below.refl _ _).alloc (Nat.le_refl _) _⟩
theorem Row.below (h : Row T k B w wr v n X) (hB : B ≤ wr.heap.size) (hb : Below wr.heap.size wr w') : Row T k B w w' v n X :=
  ⟨h.own.kept (grow_of_below hb none) (by cases v.ownBlock <;> simp), h.bel.trans (hb.mono hB)⟩
theorem Row.alloc (h : Row T k B w wr v n X) (hB : B ≤ wr.heap.size) (o : Obj) : Row T k B w (wr.alloc o) v n X := h.below hB ((Below.refl _ _).alloc (Nat.le_refl _) _)
theorem Row.app {w5 : World} {v5 : Value} {m : Nat} {Y : List Value} (h : Row T k B w wr v n X) (hB : B ≤ wr.heap.size) (ho : w5.ownsRow B T k v5 (n + m) (X ++ Y)) (hg : wr.grownBy w5 v.ownBlock) : Row T k B w w5 v5 (n + m) (X ++ Y) :=
  ⟨ho, h.bel.grown hg hB (fun b hb => (h.own.lt b hb).1)⟩
theorem own_base {w : World} {B B' n : Nat} {T : TypeId} {v : Value} {xs : List Value} (h : w.ownsRow B T k v n xs) (hB : B' ≤ B) : w.ownsRow B' T k v n xs := by
  obtain ⟨h1, h2 | ⟨g, cap, cur, q1, q2, q3⟩⟩ := h
  · exact ⟨h1, .inl h2⟩
  · exact ⟨h1, .inr ⟨g, cap, cur, q1, by omega, q3⟩⟩
theorem Row.over {w2 : World} (h : Row T k B wr w2 v n X) (hw : Below w.heap.size w wr) (hB : w.heap.size ≤ B) : Row T k w.heap.size w w2 v n X := ⟨own_base h.own hB, hw.trans (h.bel.mono hB)⟩
theorem new_row (w : World) (T : TypeId) (cs : List Value) (m : Nat) (hl : cs.length = m * k) (h0 : 0 < m) : Reads (w.alloc (.cells cs.toArray T)) (w.alloc (.cells cs.toArray T)).heap.size k (some ⟨w.heap.size, 0, none⟩) m cs :=
  ⟨hl, fun _ => ⟨_, 0, rfl, by simp, fun j u hj => by
    rw [Nat.zero_add, (Blk.new w T cs.toArray).cell j]
    simpa using hj⟩⟩
end
end Go.Proofs.YtioekhiaoajgfaaGreat.Rg
end

section
/- The hot index: the sizes of terms. (No walk.) -/
namespace Go.Proofs.YtioekhiaoajgfaaGreat.Mx
open Go.RowKit Go.Maps Go.Proofs.YtioekhiaoajgfaaGreat Go.Proofs.YtioekhiaoajgfaaGreat.Ut Go.Proofs.YtioekhiaoajgfaaGreat.Tk Go.Proofs.YtioekhiaoajgfaaGreat.Qy Go.Proofs.YtioekhiaoajgfaaGreat.Ev Go.Proofs.YtioekhiaoajgfaaGreat.Qp Go.Proofs.YtioekhiaoajgfaaGreat.Mv
set_option linter.unusedVariables false
set_option linter.unusedSimpArgs false
set_option maxRecDepth 20000

theorem basedL_mem : ∀ (fs : List Fl) (b : Nat) (x : Nat × Fl), x ∈ basedL b fs → x.2 ∈ fs
  | [], _, _, h => by cases h
  | f :: fs, b, x, h => by
    simp only [basedL, List.mem_cons] at h
    rcases h with rfl | h
    · exact List.mem_cons_self ..
    · exact List.mem_cons_of_mem _ (basedL_mem fs _ x h)
theorem raw_sz {fs : List Fl} (h : chkE fs = 0) : ∀ y ∈ raw fs, y.1.size ≤ 65 := by
  intro y hy
  unfold raw at hy
  obtain ⟨x, hx, hy⟩ := List.mem_flatMap.1 hy
  have hf := (chkE_ok h).2 _ (basedL_mem fs 0 x hx)
  unfold rawO at hy
  obtain ⟨p, hp, rfl⟩ := List.mem_map.1 hy
  have hw := List.fst_mem_of_mem_zipIdx hp
  have h1 := (words_word _ _ hw).2
  simp only [termT_size]
  omega
theorem raw_len {fs : List Fl} (h : chkE fs = 0) : (raw fs).length ≤ 65536 := by
  have h1 := rawN_len fs (fun f hf => ((chkE_ok h).2 f hf).2.2) fs.length (Nat.le_refl _)
  rw [rawN_all] at h1
  have := (chkE_ok h).1
  omega
theorem terms_sz {fs : List Fl} (h : chkE fs = 0) : ∀ t ∈ addAll (raw fs), t.1.size ≤ 65 ∧ t.2.length ≤ 65536 := by
  intro t ht
  refine ⟨?_, Nat.le_trans (addAll_pos _ t ht) (raw_len h)⟩
  obtain ⟨h1, h2⟩ := ((isTm_all (raw fs)).mem t).1 ht
  rw [h2] at h1
  cases e : (raw fs).filter (fun y => decide (y.1 = t.1)) with
  | nil => rw [e] at h1; exact absurd rfl h1
  | cons y l =>
    have hy : y ∈ (raw fs).filter (fun y => decide (y.1 = t.1)) := by rw [e]; exact List.mem_cons_self ..
    obtain ⟨h3, h4⟩ := List.mem_filter.1 hy
    rw [← of_decide_eq_true h4]
    exact raw_sz h y h3
theorem post_info : (Tryz.prog.info? 74).map (fun i => (i.zero, i.size, i.bytes)) = some (some (.agg #[.int .i64 0, .slice none 0 0]), 2, 32) := by kernel_rfl
theorem lawS : Keyed Tryz.prog 9 := string_keyed Tryz.underlying9
theorem keyS {s : ByteArray} (h : s.size ≤ maxLen) : keyOf Tryz.prog 9 (litS.val s) = some (litS.lit s) := Go.WideMaps.keyOf_string_mk Tryz.underlying9 h
theorem news_at (w : World) (T : TypeId) (cs : List Value) : ∀ j u, cs[j]? = some u → ((w.alloc (.cells cs.toArray T)).drew).cell? ((⟨w.heap.size, 0, none⟩ : Addr).add j) = some u := by
  intro j u h
  rw [Rg.add_lit, Nat.zero_add]
  exact ((Blk.new w T cs.toArray).cell j).trans (by simpa using h)
/-- Behind the append of a post. -/
structure Put1 (n0 : Nat) (T : TypeId) (k : Nat) (wB wx : World) (u v' : Value) (n : Nat) (X : List Value) : Prop where
  own : wx.ownsRow n0 T k v' n X
  gr : wB.grownBy wx u.ownBlock
  at_ : v'.ownBlock = u.ownBlock ∨ v'.ownBlock = some wB.heap.size
end Go.Proofs.YtioekhiaoajgfaaGreat.Mx
end
