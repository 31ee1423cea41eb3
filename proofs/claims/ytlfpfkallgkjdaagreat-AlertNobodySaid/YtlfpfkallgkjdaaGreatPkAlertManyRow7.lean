/- strings.Builder's copyCheck and WriteString, walked at this program (after the shelf's proofs). -/
import Derived.Shelf.Strings.Builder1
import Derived.Outline
import Derived.Deep.AppendLies
import Derived.Deep.Onto
import Derived.Deep.DeepCutAuto
import Derived.Test.YtlfpfkallgkjdaaGreatPkAlertManyRow2
import Derived.Test.YtlfpfkallgkjdaaGreatShelfPk
import Derived.Test.YtlfpfkallgkjdaaGreatPkAlertManyRow4
section
namespace Go.Proofs.YtlfpfkallgkjdaaGreat.Tk
open Go.RowKit

theorem b_size : (Tryz.prog.info? 214).map (fun i => i.size) = some 2 := by kernel_rfl
theorem b_lies : liesAt Tryz.prog Tryz.prog.depth 214 (2 / Tryz.prog.cellsOf 214) 0 214 1 = true := by kernel_rfl
theorem byte_info : (Tryz.prog.info? 5).map (fun i => (i.zero, i.size, i.bytes)) = some (some (.int .u8 0), 1, 1) := by kernel_rfl
set_option maxHeartbeats 1048576 in
set_option maxRecDepth 100000 in
theorem copyCheck_used (b : Nat) (w : World) (h0 : w.cell? ⟨b, 0, none⟩ = some (.pointer (some ⟨b, 0, none⟩))) :
    Calls Tryz.prog 176 #[.pointer (some ⟨b, 0, none⟩)] w fun e w' => e = .returned (.tuple #[]) ∧ w' = w := by
  obtain ⟨j, hj, _⟩ := Option.map_eq_some_iff.1 b_size
  go_enter Tryz.func176, Tryz.ntmps176
  go_wp2
  rw [Lib.run_neq_ptr_same w _ Tryz.underlying212 hj]
  go_wp2
  go_end0
  exact ⟨rfl, rfl⟩
set_option maxHeartbeats 1048576 in
set_option maxRecDepth 100000 in
theorem copyCheck_fresh (b : Nat) (w : World) (h0 : w.cell? ⟨b, 0, none⟩ = some (.pointer none)) (hsh : w.shape? b = some (214, 2)) (hfz : w.frozen? ⟨b, 0, none⟩ = false) :
    Calls Tryz.prog 176 #[.pointer (some ⟨b, 0, none⟩)] w fun e w' => e = .returned (.tuple #[]) ∧ w' = w.setCell ⟨b, 0, none⟩ (.pointer (some ⟨b, 0, none⟩)) := by
  obtain ⟨j, hj, hjs⟩ := Option.map_eq_some_iff.1 b_size
  go_enter Tryz.func176, Tryz.ntmps176
  go_wp2
  rw [Lib.run_to_unsafe w ⟨b, 0, none⟩ Tryz.underlying212 Tryz.underlying253 hj (by rw [hjs]; decide) hsh (Nat.zero_lt_succ 1)]
  simp only [Result.andThen]
  rw [Oper.upon_value]
  go_wp2
  rw [run_callFunc_extern Tryz.func192 (by kernel_rfl) (by kernel_rfl) (by kernel_rfl) (e := Extern.AbiNoEscape.same) (by kernel_rfl)]
  rw [Lib.run_noEscape]
  simp only [Result.andThen]
  rw [Oper.upon_value]
  go_wp2
  rw [Lib.run_from_unsafe w ⟨b, 0, none⟩ Tryz.underlying253 Tryz.underlying212 hj hsh b_lies]
  simp only [Result.andThen]
  rw [Oper.upon_value]
  go_wp2
  go_end0
  exact ⟨rfl, rfl⟩
theorem copyCheck (B b : Nat) (bs : List Value) (w : World) (h : Lib.IsBuilder 214 5 B b bs w) :
    Calls Tryz.prog 176 #[.pointer (some ⟨b, 0, none⟩)] w fun e w' => e = .returned (.tuple #[]) ∧ (Lib.BuilderAt 214 5 B b (.pointer (some ⟨b, 0, none⟩)) bs w' ∧ Below B w w') := by
  rcases h with h | h
  · refine (copyCheck_fresh b w h.cell0 h.shape h.frozen0).mono ?_
    rintro e w' ⟨rfl, rfl⟩
    exact ⟨rfl, h.used _, (Below.refl B w).setCell (p := ⟨b, 0, none⟩) h.1 _⟩
  · refine (copyCheck_used b w h.cell0).mono ?_
    rintro e w' ⟨rfl, rfl⟩
    exact ⟨rfl, h, Below.refl B _⟩

set_option maxHeartbeats 2000000 in
set_option maxRecDepth 100000 in
theorem writeString (B b : Nat) (bs : List Value) (s : ByteArray) (w : World) (h : Lib.IsBuilder 214 5 B b bs w) (hlen : bs.length + s.size ≤ 140737488355328) (hBw : B ≤ w.heap.size) :
    Calls Tryz.prog 148 #[.pointer (some ⟨b, 0, none⟩), .string s] w fun e w' => e = .returned (.tuple #[.int .i64 s.size, .nilIface]) ∧ (Lib.BuilderAt 214 5 B b (.pointer (some ⟨b, 0, none⟩)) (bs ++ Lib.strCells s) w' ∧ Below B w w') := by
  obtain ⟨i0, hi, hz0, hz1, hz2⟩ := info_parts byte_info
  go_enter Tryz.func148, Tryz.ntmps148
  go_wp2_with (go_at_call 176; refine (copyCheck B b bs _ h).mono ?_)
  rintro e w1 ⟨rfl, h1, hb1⟩
  obtain ⟨hB, v, hbk, hown, hne⟩ := h1
  have c0 : w1.cell? ⟨b, 0, none⟩ = some (.pointer (some ⟨b, 0, none⟩)) := by rw [Lib.cell_of_heap hbk]; rfl
  have c1 : w1.cell? ⟨b, 1, none⟩ = some v := by rw [Lib.cell_of_heap hbk]; rfl
  go_wp2_with (at_builtin; refine Lib.wpList_append_own_string _ rfl _ _ 205 9 rfl B 5 i0 Tryz.underlying205 Tryz.underlying9 hi hz0 hz1 hz2 _ _ _ rfl hown s rfl ?c3 ?c4 ?c5 ?_)
  case c3 => unfold maxLen; omega
  case c4 => omega
  case c5 => have := hb1.size; omega
  intro v' w2 hown' hgrow _
  have hlt : b < w1.heap.size := by
    rcases Nat.lt_or_ge b w1.heap.size with h' | h'
    · exact h'
    · simp [Array.getElem?_eq_none h'] at hbk
  have hb2 : w2.heap[b]? = some (.cells #[.pointer (some ⟨b, 0, none⟩), v] 214 (0, 0)) := by
    rw [hgrow.block b hlt (fun e => hne e.symm)]
    exact hbk
  have d0 : w2.cell? ⟨b, 0, none⟩ = some (.pointer (some ⟨b, 0, none⟩)) := by rw [Lib.cell_of_heap hb2]; rfl
  have d1 : w2.cell? ⟨b, 1, none⟩ = some v := by rw [Lib.cell_of_heap hb2]; rfl
  have f1 : w2.frozen? ⟨b, 1, none⟩ = false := Lib.frozen_of_heap hb2 1
  obtain ⟨ao, n', cap, rfl⟩ : ∃ ao n' cap, v' = .slice ao n' cap := by
    rcases hown'.2 with ⟨hv, _⟩ | ⟨g, cap, cur, hv, _⟩
    · exact ⟨_, _, _, hv⟩
    · exact ⟨_, _, _, hv⟩
  go_wp2
  go_ret2
  refine ⟨rfl, ?_, ?_⟩
  · exact Lib.BuilderAt.put (T := 214) (e := 5) hB hb2 (bs' := bs ++ Lib.strCells s) (by simpa [Lib.strCells_length] using hown') (by decide)
  · exact (hb1.grown hgrow (by have := hb1.size; omega) (fun k hk => (hown.lt k hk).1)).setCell (p := ⟨b, 1, none⟩) hB _
end Go.Proofs.YtlfpfkallgkjdaaGreat.Tk
end

section
/- token.word, loggiaref07.cut: the walks. -/
namespace Go.Proofs.YtlfpfkallgkjdaaGreat.Tk
open Go.RowKit Go.Proofs.YtlfpfkallgkjdaaGreat.Ut
set_option maxRecDepth 20000

theorem builder_below {T e : TypeId} {B b : Nat} {bs : List Value} {w w' : World} (h : Lib.IsBuilder T e B b bs w) (hb : Below w.heap.size w w') : Lib.IsBuilder T e B b bs w' := by
  have go : ∀ p, Lib.BuilderAt T e B b p bs w → Lib.BuilderAt T e B b p bs w' := fun p h => by
    have hlt := h.lt
    obtain ⟨hB, v, hbk, hown, hne⟩ := h
    exact ⟨hB, v, (hb.block b hlt).trans hbk, hown.kept (grow_of_below hb none) (by cases hv : v.ownBlock <;> simp), hne⟩
  exact h.imp (go _) (go _)
/-- A builder that is being written by a loop. -/
structure Wr (w wr : World) (a : List UInt8) : Prop where
  bu : Lib.IsBuilder 214 5 w.heap.size w.heap.size (Lib.byteCells a) wr
  bel : Below w.heap.size w wr
theorem Wr.below {w wr w2 : World} {a : List UInt8} (h : Wr w wr a) (hb : Below wr.heap.size wr w2) : Wr w w2 a := ⟨builder_below h.bu hb, h.bel.trans (hb.mono h.bel.size)⟩
theorem Wr.start (w : World) : Wr w (w.alloc (.cells #[.pointer none, .slice none 0 0] 214)) [] := ⟨Lib.fresh_isBuilder _ _ w, (Below.refl _ _).alloc (Nat.le_refl _) _⟩
theorem len_any {w wr : World} {a : List UInt8} (h : Wr w wr a) : Calls Tryz.prog 147 #[.pointer (some ⟨w.heap.size, 0, none⟩)] wr fun e w' => e = .returned (.int .i64 (a.length : Nat)) ∧ wr = w' :=
  (Tryz.Builder_Len _ _ _ wr h.bu).mono fun _ _ ⟨he, hw⟩ => ⟨by rw [he]; simp [Lib.byteCells], hw.symm⟩
theorem write_any {w wr : World} {a : List UInt8} (h : Wr w wr a) (s : List UInt8) (hl : a.length + s.length ≤ 100000) : Calls Tryz.prog 148 #[.pointer (some ⟨w.heap.size, 0, none⟩), .string (str s)] wr fun e w' =>
    e = .returned (.tuple #[.int .i64 (s.length : Nat), .nilIface]) ∧ Wr w w' (a ++ s) := by
  have c := writeString w.heap.size w.heap.size (Lib.byteCells a) (str s) wr h.bu (by rw [str_size]; simp [Lib.byteCells]; omega) h.bel.size
  refine c.mono fun e w' ⟨he, hb, hw⟩ => ⟨by rw [he, str_size], ?_, h.bel.trans hw⟩
  have e2 : Lib.byteCells a ++ Lib.strCells (str s) = Lib.byteCells (a ++ s) := by
    simp [Lib.byteCells, Lib.strCells, str]
  rw [← e2]
  exact .inr hb
theorem string_any {w wr : World} {a : List UInt8} (h : Wr w wr a) : Calls Tryz.prog 149 #[.pointer (some ⟨w.heap.size, 0, none⟩)] wr fun e w' => e = .returned (.string (str a)) ∧ Below w.heap.size w w' :=
  (Tryz.Builder_String_any _ _ a wr h.bu h.bel.size).mono fun _ _ ⟨he, hw⟩ => ⟨he, h.bel.trans hw⟩

theorem reads_int1 (w : World) (t : TypeId) (z : Int) : Reads (w.alloc (.cells #[.int .i64 z] t)) (w.alloc (.cells #[.int .i64 z] t)).heap.size 1 (some ⟨w.heap.size, 0, none⟩) 1 ([z].map (Value.int .i64)) := by
  refine ⟨by simp, fun _ => ⟨_, _, rfl, by simp, fun j u hu => ?_⟩⟩
  match j, hu with
  | 0, hu =>
    simp only [List.map_cons, List.map_nil, List.getElem?_cons_zero, Option.some.injEq] at hu
    subst hu
    exact (Blk.new w t #[.int .i64 z]).cell 0
theorem encode_one (z : Int) : encode [z] = enc z := by simp [encode]

set_option maxHeartbeats 800000 in
theorem wordp_any (A : Option Addr) (n c : Nat) (l : List Nat) (w : World) (hR : Reads w w.heap.size 1 A n (rv l)) (hn : n ≤ 4398046511104) :
    Calls Tryz.prog 110 #[.slice A n c] w fun e w' => e = .returned (.string (str (word l))) ∧ Below w.heap.size w w' := by
  have hlen : l.length = n := by have := hR.1; simpa [rv] using this
  have HR := Lib.hid hR
  have Hl := Lib.hid hlen
  have St := Lib.hid (Wr.start w)
  clear hR hlen
  go_enter Tryz.func110, Tryz.ntmps110
  go_wp2
  go_loopw [9] (fun i wr => ∃ (k : Nat) (a : List UInt8), k ≤ n ∧ i = .int .i64 k ∧ a.length ≤ 32 ∧ word l = wordGo a (l.drop k) ∧ Wr w wr a) (fun i _ => n - (intOf i).toNat)
  case atStart => exact ⟨0, [], Nat.zero_le _, rfl, by simp, rfl, St.out⟩
  case round =>
    obtain ⟨k, a, hk, rfl, ha, hwd, hW⟩ := hrel
    by_cases hlt : k < n
    · obtain ⟨ab, ao, hkl, rfl, hab, hcw⟩ := Reads.at_map (f := fun r : Nat => Value.int .i64 (r : Int)) HR.out hlt
      have hcx := (hW.bel.cell (p := ⟨ab, ao + k, none⟩) hab).trans hcw
      rw [List.drop_eq_getElem_cons hkl, wordGo_cons] at hwd
      have c1 := lower_any (l[k] : Int) wr
      have HW := Lib.hid hW
      have Hwd := Lib.hid hwd
      have hel := enc_len (lower (l[k] : Int))
      clear hwd hcw hW
      generalize lower (l[k] : Int) = z at *
      generalize (l[k] : Int) = r at *
      go_wp2_with fail
      refine c1.mono ?_
      rintro e w2 ⟨rfl, hb2⟩
      have hW2 := (HW.out.below hb2).below ((Below.refl _ _).alloc (Nat.le_refl w2.heap.size) (.cells #[.int .i64 z] 3))
      have c2 := encode_any _ 1 1 [z] _ (reads_int1 w2 3 z) (by omega)
      rw [encode_one] at c2
      have HW2 := Lib.hid hW2
      clear hW2 hb2 c1
      go_wp2_with fail
      refine c2.mono ?_
      rintro e w3 ⟨rfl, hb3⟩
      have hW3 := HW2.out.below hb3
      have c3 := len_any hW3
      have c4 := write_any hW3 (enc z) (by omega)
      have c5 := string_any hW3
      have C5 := Lib.hid c5
      have hsz := str_size (enc z)
      generalize enc z = s at *
      clear hb3 c2 hW3 c5
      by_cases h32 : 32 < a.length + s.length
      · have h32' : (32 : Int) < (a.length : Int) + (s.length : Int) := by omega
        have Fin : Hid (word l = a) := Lib.hid (by rw [Hwd.out, if_pos h32])
        clear h32 c4
        go_wp2_with fail
        refine c3.mono ?_
        rintro e w' ⟨rfl, rfl⟩
        go_wp2_with (go_at_call 149; refine C5.out.mono ?_; rintro e w4 ⟨rfl, hb4⟩)
        go_ret
        exact ⟨by rw [Fin.out]; rfl, hb4⟩
      · have h32' : (a.length : Int) + (s.length : Int) ≤ 32 := by omega
        have Fin : Hid (word l = wordGo (a ++ s) (l.drop (k + 1))) := Lib.hid (by rw [Hwd.out, if_neg h32])
        clear h32
        go_wp2_with fail
        refine c3.mono ?_
        rintro e w' ⟨rfl, rfl⟩
        go_wp2_with fail
        refine c4.mono ?_
        rintro e w4 ⟨rfl, hW4⟩
        have HW4 := Lib.hid hW4
        clear hW4 c3 c4
        go_wp2
        go_roundw
        case rel => exact ⟨k + 1, a ++ s, by omega, by go_num, by rw [List.length_append]; omega, Fin.out, HW4.out⟩
        case measure => simp [intOf]; omega
    · have hd : l.drop k = [] := List.drop_eq_nil_of_le (by rw [Hl.out]; omega)
      rw [hd] at hwd
      have Fin : Hid (word l = a) := Lib.hid hwd
      have c5 := string_any hW
      clear hwd hd hW
      go_wp2_with (go_at_call 149; refine c5.mono ?_; rintro e w4 ⟨rfl, hb4⟩)
      go_ret
      exact ⟨by rw [Fin.out]; rfl, hb4⟩

/-- A token, as cells. -/
def tokV (x : List UInt8 × Int) : List Value := [.string (str x.1), .int .i64 x.2]
def tokC (ws : List (List UInt8 × Int)) : List Value := ws.flatMap tokV
theorem tokC_len (ws : List (List UInt8 × Int)) : (tokC ws).length = ws.length * 2 := by
  induction ws with
  | nil => rfl
  | cons x ws ih => simp [tokC, tokV] at *; omega
theorem tokC_snoc (ws : List (List UInt8 × Int)) (x : List UInt8 × Int) : tokC (ws ++ [x]) = tokC ws ++ tokV x := by simp [tokC]
/-- Words, each with its place. -/
def placed (ws : List (List UInt8)) : List (List UInt8 × Int) := ws.zipIdx.map fun p => (p.1, (p.2 : Int))
theorem placed_len (ws : List (List UInt8)) : (placed ws).length = ws.length := by simp [placed]
theorem placed_snoc (ws : List (List UInt8)) (x : List UInt8) : placed (ws ++ [x]) = placed ws ++ [(x, (ws.length : Int))] := by
  simp [placed, List.zipIdx_append]
theorem tok_info : (Tryz.prog.info? 154).map (fun i => (i.zero, i.size, i.bytes)) = some (some (.agg #[.string ByteArray.empty, .int .i64 0]), 2, 24) := by kernel_rfl
theorem int_info2 : (Tryz.prog.info? 3).map (fun i => (i.zero, i.size, i.bytes)) = some (some (.int .i64 0), 1, 8) := by kernel_rfl

/-- Tokens of the call's own. -/
def TokPost (w : World) (ws : List (List UInt8)) (e : Ending) (w' : World) : Prop :=
  ∃ v, e = .returned v ∧ w'.ownsRow w.heap.size 154 2 v ws.length (tokC (placed ws)) ∧ Below w.heap.size w w'
/-- What is being collected: runes behind, words so far. -/
structure Toks (w wr : World) (v : Value) (ws : List (List UInt8)) : Prop where
  own : wr.ownsRow w.heap.size 154 2 v ws.length (tokC (placed ws))
  bel : Below w.heap.size w wr
theorem Toks.below {w wr w2 : World} {v : Value} {ws : List (List UInt8)} (h : Toks w wr v ws) (hb : Below wr.heap.size wr w2) : Toks w w2 v ws :=
  ⟨h.own.kept (grow_of_below hb none) (by cases hv : v.ownBlock <;> simp), h.bel.trans (hb.mono h.bel.size)⟩
theorem Toks.start (w wr : World) (hb : Below w.heap.size w wr) : Toks w wr (.slice none 0 0) [] := ⟨World.ownsRow_nil _ _ _ _, hb⟩
theorem Toks.put {w wr w2 : World} {v v' : Value} {ws : List (List UInt8)} {x : List UInt8} (h : Toks w wr v ws)
    (hp : w2.ownsRow w.heap.size 154 2 v' (ws.length + 1) (tokC (placed ws) ++ [.string (str x), .int .i64 (ws.length : Int)])) (hg : wr.grownBy w2 v.ownBlock) : Toks w w2 v' (ws ++ [x]) := by
  refine ⟨?_, h.bel.grown hg h.bel.size (fun k hk => (h.own.lt k hk).1)⟩
  rw [placed_snoc, tokC_snoc, List.length_append]
  exact hp
theorem take_drop_slice (l : List Nat) (f i : Nat) : (l.drop f).take (i - f) = (l.take i).drop f := by rw [List.drop_take]
end Go.Proofs.YtlfpfkallgkjdaaGreat.Tk
end

section
/- token.Tokens: the walk. -/
namespace Go.Proofs.YtlfpfkallgkjdaaGreat.Tk
open Go.RowKit Go.Proofs.YtlfpfkallgkjdaaGreat.Ut
set_option maxRecDepth 20000

/-- How far the words have been told: the runs that are done, the run that is open. -/
structure Far (l L : List Nat) (k f : Nat) (ws : List (List UInt8)) : Prop where
  le : f ≤ k
  eq : (runs [] l).map word = ws ++ (runs ((L.take k).drop f) (L.drop k)).map word
  all : ∀ r ∈ (L.take k).drop f, isWord (r : Int) = true
theorem Far.start (l : List Nat) : Far l (l ++ [32]) 0 0 [] := ⟨Nat.le_refl _, by
  rw [List.drop_zero, List.nil_append, List.drop_zero, List.take_zero, runs_end l [] 32 blank_no], by simp⟩
theorem Far.word_ {l L : List Nat} {k f : Nat} {ws : List (List UInt8)} (h : Far l L k f ws) (hk : k < L.length) (hw : isWord (L[k] : Int) = true) : Far l L (k + 1) f ws := by
  have e : (L.take (k + 1)).drop f = (L.take k).drop f ++ [L[k]] := by
    rw [List.take_succ_eq_append_getElem hk, List.drop_append_of_le_length (by rw [List.length_take]; have := h.le; omega)]
  refine ⟨by have := h.le; omega, ?_, ?_⟩
  · rw [h.eq, List.drop_eq_getElem_cons hk, runs_cons, hw, if_pos rfl, e]
  · intro r hr
    rw [e] at hr
    rcases List.mem_append.1 hr with hr | hr
    · exact h.all r hr
    · simp only [List.mem_singleton] at hr
      subst hr; exact hw
theorem Far.gap {l L : List Nat} {k f : Nat} {ws : List (List UInt8)} (h : Far l L k f ws) (hk : k < L.length) (hw : isWord (L[k] : Int) = false) (hf : ¬ f < k) : Far l L (k + 1) (k + 1) ws := by
  have hl := h.le
  obtain rfl : f = k := by omega
  have e : (L.take f).drop f = [] := List.drop_eq_nil_of_le (by rw [List.length_take]; omega)
  have e2 : (L.take (f + 1)).drop (f + 1) = [] := List.drop_eq_nil_of_le (by rw [List.length_take]; omega)
  refine ⟨Nat.le_refl _, ?_, by rw [e2]; intro r hr; cases hr⟩
  rw [h.eq, List.drop_eq_getElem_cons hk, runs_cons, hw, if_neg (by decide), e, e2]
  rfl
theorem Far.end_ {l L : List Nat} {k f : Nat} {ws : List (List UInt8)} (h : Far l L k f ws) (hk : k < L.length) (hw : isWord (L[k] : Int) = false) (hf : f < k) : Far l L (k + 1) (k + 1) (ws ++ [word ((L.take k).drop f)]) := by
  have e2 : (L.take (k + 1)).drop (k + 1) = [] := List.drop_eq_nil_of_le (by rw [List.length_take]; omega)
  have hn : (L.take k).drop f ≠ [] := by
    intro e
    have := congrArg List.length e
    rw [List.length_drop, List.length_take, List.length_nil] at this
    omega
  refine ⟨Nat.le_refl _, ?_, by rw [e2]; intro r hr; cases hr⟩
  rw [h.eq, List.drop_eq_getElem_cons hk, runs_cons, hw, if_neg (by decide), e2]
  simp [last, hn]
theorem Far.done {l : List Nat} {f : Nat} {ws : List (List UInt8)} (h : Far l (l ++ [32]) (l ++ [32]).length f ws) : (runs [] l).map word = ws := by
  have ha := h.all
  rw [h.eq, List.drop_length, runs_nil]
  rw [List.take_length] at ha ⊢
  have hn : (l ++ [32]).drop f = [] := by
    rcases Nat.lt_or_ge f (l ++ [32]).length with hf | hf
    · exfalso
      have h32 : (32 : Nat) ∈ (l ++ [32]).drop f := by
        rw [List.drop_append_of_le_length (by simp at hf; omega)]
        simp
      have := ha 32 h32
      revert this
      decide
    · exact List.drop_eq_nil_of_le hf
  rw [hn]
  simp [last]

theorem _root_.Go.Proofs.YtlfpfkallgkjdaaGreat.Reads.sub {w : World} {B g o n m k : Nat} {xs : List Value} (h : Reads w B 1 (some ⟨g, o, none⟩) n xs) (hm : m ≤ k) (hk : k ≤ n) : Reads w B 1 (some ⟨g, o + m, none⟩) (k - m) ((xs.take k).drop m) := by
  have hl := h.1
  refine ⟨by rw [List.length_drop, List.length_take]; omega, fun hn => ?_⟩
  obtain ⟨b, o', e, hb, hc⟩ := h.2 (by omega)
  injection e with e
  injection e with e1 e2
  subst e1 e2
  refine ⟨g, o + m, rfl, hb, fun j u hu => ?_⟩
  rw [List.getElem?_drop, List.getElem?_take] at hu
  split at hu
  · have := hc (m + j) u hu
    rw [← Nat.add_assoc] at this
    exact this
  · cases hu

set_option maxHeartbeats 1600000 in
theorem tokens_anyB (s : ByteArray) (w : World) (hs : s.size ≤ 1048576) : Calls Tryz.prog 73 #[.string s] w (TokPost w (words s.data.toList)) := by
  obtain ⟨i0, hi0, hz0, hz1, hz2⟩ := info_parts tok_info
  obtain ⟨j0, hj0, hy0, hy1, hy2⟩ := info_parts int_info2
  have c0 := runes_any s w (by omega)
  have hrl := runes_len s.data.toList
  rw [bsize] at hrl
  have Fin : Hid (words s.data.toList = (runs [] (runes s.data.toList)).map word) := rfl
  generalize words s.data.toList = wds at *
  generalize runes s.data.toList = l at *
  go_enter Tryz.func73, Tryz.ntmps73
  go_wp2
  go_step3
  go_wp2_with fail
  refine c0.mono ?_
  rintro e w1 ⟨v, rfl, hown, hb1⟩
  have hsz1 := hb1.size
  go_wp2_with (at_builtin; refine wpList_append_lies _ rfl _ _ 38 rfl w.heap.size 3 j0 (.int .i64 0) 1 8 Tryz.underlying38 hj0 hy0 hy1 hy2 rfl (by decide) _ _ _ rfl (hown.alloc _) ⟨w1.heap.size, 0, none⟩ 1 1 [.int .i64 32] rfl rfl ?c1 ?c2 ?c0 ?c3 ?c4 ?c5 (w1.heap.size + 1) ?c6 ?_)
  case c1 => exact World.news_of_block (cs := #[.int .i64 32]) (t := 3) (fr := (0, 0)) (heap_alloc_new w1 _)
  case c2 => intro u hu; simp at hu; subst hu; rfl
  case c0 => omega
  case c3 => unfold maxLen; omega
  case c4 => omega
  case c5 => simp; omega
  case c6 => simp
  intro g cap w2 hown2 hg2 _ hlt2
  have hlcap : l.length + 1 ≤ cap := by
    rcases hown2.2 with ⟨hv, _⟩ | ⟨g', cap', cur, hv, _, _, hnc, _⟩
    · cases hv
    · injection hv with _ _ hv; omega
  have hL : rv l ++ [Value.int .i64 32] = rv (l ++ [32]) := by simp [rv]
  rw [hL] at hown2
  have hb2 : Below w.heap.size w w2 := (hb1.alloc hsz1 _).grown hg2 (by simp; omega) (fun j hj => (hown.lt _ hj).1)
  have hLl : (l ++ [32]).length = l.length + 1 := by simp
  have hR := Reads.of_own hown2
  have S0 : Toks w2 w2 (.slice none 0 0) [] := Toks.start w2 w2 (Below.refl _ _)
  have F0 := Far.start l
  have HR := Lib.hid hR
  have HS0 := Lib.hid S0
  have HF0 := Lib.hid F0
  have Hb2 := Lib.hid hb2
  have HLl := Lib.hid hLl
  have hfd := fun f ws => Far.done (l := l) (f := f) (ws := ws)
  have Hfd := Lib.hid hfd
  clear hL hown2 hown hg2 hR S0 F0 hb2 hLl hb1 c0 hfd
  generalize l ++ [32] = L at *
  go_wp2_with fail
  go_step3
  go_wp2_with fail
  go_loopw [3, 5, 14] (fun v f i wr => ∃ (k m : Nat) (ws : List (List UInt8)), k ≤ l.length + 1 ∧ i = .int .i64 k ∧ f = .int .i64 m ∧ Far l L k m ws ∧ ws.length ≤ k ∧ Toks w2 wr v ws) (fun _ _ i _ => l.length + 1 - (intOf i).toNat)
  case atStart => exact ⟨0, 0, [], Nat.zero_le _, rfl, rfl, HF0.out, by simp, HS0.out⟩
  case round =>
    obtain ⟨k, m, ws, hk, rfl, rfl, hF, hwl, hT⟩ := hrel
    by_cases hlt : k < l.length + 1
    · obtain ⟨ab, ao, hkl, e, hab, hcw⟩ := Reads.at_map (f := fun r : Nat => Value.int .i64 (r : Int)) HR.out hlt
      injection e with e
      injection e with e1 e2
      subst e1 e2
      have hcx := (hT.bel.cell (p := ⟨g, 0 + k, none⟩) hab).trans hcw
      rw [Nat.zero_add] at hcx
      have c1 := word_any (L[k] : Int) wr
      have HT := Lib.hid hT
      have HF := Lib.hid hF
      have hml := hF.le
      clear hcw hT hF
      by_cases hw : isWord (L[k] : Int) = true
      · have HF2 := Lib.hid (HF.out.word_ hkl hw)
        rw [hw] at c1
        clear hw
        generalize (L[k] : Int) = r at *
        go_wp2_with fail
        refine c1.mono ?_
        rintro e w3 ⟨rfl, hb3⟩
        have HT3 := Lib.hid (HT.out.below hb3)
        clear c1 hb3
        go_wp2
        go_roundw
        case rel => exact ⟨k + 1, m, ws, by omega, by go_num, rfl, HF2.out, by omega, HT3.out⟩
        case measure => simp [intOf]; omega
      · have hw' : isWord (L[k] : Int) = false := by simpa using hw
        rw [hw'] at c1
        clear hw
        by_cases hf : m < k
        · have HF2 := Lib.hid (HF.out.end_ hkl hw' hf)
          clear hw'
          generalize (L[k] : Int) = r at *
          go_wp2_with fail
          refine c1.mono ?_
          rintro e w3 ⟨rfl, hb3⟩
          have HT3 := Lib.hid (HT.out.below hb3)
          clear c1 hb3
          have hRs := (HR.out.below HT3.out.bel).sub (m := m) (k := k) (by omega) (by omega)
          have hmp : ((rv L).take k).drop m = rv ((L.take k).drop m) := by unfold rv; rw [← List.map_take, ← List.map_drop]
          rw [hmp, Nat.zero_add] at hRs
          have c2 := wordp_any (some ⟨g, m, none⟩) (k - m) (cap - m) _ w3 (hRs.more HT3.out.bel.size) (by omega)
          obtain ⟨A3, d3, rfl, _⟩ := own_shape HT3.out.own
          clear hRs hmp
          generalize word ((L.take k).drop m) = wd at *
          go_wp2_with fail
          refine c2.mono ?_
          rintro e w4 ⟨rfl, hb4⟩
          have hT4 := HT3.out.below hb4
          have hown4 := hT4.own
          have hbs4 := hT4.bel.size
          have HT4 := Lib.hid hT4
          clear c2 hb4 hT4
          go_wp2_with (at_builtin; refine wpList_append_own _ rfl _ _ 151 rfl w2.heap.size 154 i0 _ 2 24 Tryz.underlying151 hi0 hz0 hz1 hz2 rfl (by decide) _ _ _ rfl (hown4.alloc _) ⟨w4.heap.size, 0, none⟩ 1 1 [.string (str wd), .int .i64 (ws.length : Int)] rfl rfl ?d1 ?d2 ?d3 ?d4 ?d5 ?_)
          case d1 => exact World.news_of_block (cs := #[.string (str wd), .int .i64 (ws.length : Int)]) (t := 154) (fr := (0, 0)) (heap_alloc_new w4 _)
          case d2 => intro u hu; simp at hu; rcases hu with rfl | rfl <;> rfl
          case d3 => unfold maxLen; omega
          case d4 => omega
          case d5 => simp; omega
          intro v' w5 hown5 hg5 _
          have HT5 := Lib.hid ((HT4.out.below ((Below.refl _ _).alloc (Nat.le_refl _) _)).put hown5 hg5)
          clear hown5 hg5 hown4
          go_wp2
          go_roundw
          case rel => exact ⟨k + 1, k + 1, _, by omega, by go_num, by go_num, HF2.out, by rw [List.length_append]; simp; omega, HT5.out⟩
          case measure => simp [intOf]; omega
        · have HF2 := Lib.hid (HF.out.gap hkl hw' hf)
          clear hw'
          generalize (L[k] : Int) = r at *
          go_wp2_with fail
          refine c1.mono ?_
          rintro e w3 ⟨rfl, hb3⟩
          have HT3 := Lib.hid (HT.out.below hb3)
          clear c1 hb3
          go_wp2
          go_roundw
          case rel => exact ⟨k + 1, k + 1, ws, by omega, by go_num, by go_num, HF2.out, by omega, HT3.out⟩
          case measure => simp [intOf]; omega
    · obtain rfl : k = l.length + 1 := by omega
      rw [← HLl.out] at hF
      have Fin2 := Lib.hid (Hfd.out _ _ hF)
      have HT := Lib.hid hT
      clear hF hT
      go_wp2
      rw [Exit.noGoto_ret]
      go_ret
      have e : wds = ws := by rw [Fin.out, Fin2.out]
      have hz := Hb2.out.size
      exact ⟨_, rfl, by rw [e]; exact HT.out.own.mono hz, Hb2.out.trans (HT.out.bel.mono hz)⟩
theorem tokens_any (s : ByteArray) (w : World) (hs : s.size ≤ 1048576) : Calls Tryz.prog 73 #[.string s] w (TokPost w (words s.data.toList)) :=
  tokens_anyB s w (by omega)
end Go.Proofs.YtlfpfkallgkjdaaGreat.Tk
end
