/- Plain facts on words of texts. No program. -/
import Derived.Test.YtjeahdnbpiahaaaGreatProg
import Derived.Lib.Hide
import Derived.Lib.Strings
import Derived.Test.YtjeahdnbpiahaaaGreatUtfPPk
import Derived.Test.YtjeahdnbpiahaaaGreatPkGroupCountsRow1
section
namespace Go.Proofs.YtjeahdnbpiahaaaGreat.Tk
open Go.RowKit Go.Proofs.YtjeahdnbpiahaaaGreat.Ut

/-- A word of runes, cut: as many runes, lower case, as have 32 bytes at most. -/
def wordGo (a : List UInt8) : List Nat → List UInt8
  | [] => a
  | r :: t => if 32 < a.length + (enc (lower (r : Int))).length then a else wordGo (a ++ enc (lower (r : Int))) t
def word (l : List Nat) : List UInt8 := wordGo [] l
theorem wordGo_cons (a : List UInt8) (r : Nat) (t : List Nat) : wordGo a (r :: t) = if 32 < a.length + (enc (lower (r : Int))).length then a else wordGo (a ++ enc (lower (r : Int))) t := rfl
theorem wordGo_len : ∀ (l : List Nat) (a : List UInt8), a.length ≤ 32 → (wordGo a l).length ≤ 32
  | [], a, h => h
  | r :: t, a, h => by
    rw [wordGo_cons]
    split
    · exact h
    · exact wordGo_len t _ (by rw [List.length_append]; omega)
theorem word_len (l : List Nat) : (word l).length ≤ 32 := wordGo_len l [] (by simp)
/-- The runs of runes that are parts of words. -/
def last (c : List Nat) : List (List Nat) := if c = [] then [] else [c]
def runs (c : List Nat) : List Nat → List (List Nat)
  | [] => last c
  | r :: t => if isWord (r : Int) then runs (c ++ [r]) t else last c ++ runs [] t
theorem runs_nil (c : List Nat) : runs c [] = last c := rfl
theorem runs_cons (c : List Nat) (r : Nat) (t : List Nat) : runs c (r :: t) = if isWord (r : Int) then runs (c ++ [r]) t else last c ++ runs [] t := rfl
theorem runs_end : ∀ (l c : List Nat) (b : Nat), isWord (b : Int) = false → runs c (l ++ [b]) = runs c l
  | [], c, b, h => by
    rw [List.nil_append, runs_cons, h, if_neg (by decide), runs_nil, runs_nil]
    simp [last]
  | r :: t, c, b, h => by
    rw [List.cons_append, runs_cons, runs_cons, runs_end t _ b h, runs_end t _ b h]
/-- A text's words. -/
def words (s : List UInt8) : List (List UInt8) := (runs [] (runes s)).map word
end Go.Proofs.YtjeahdnbpiahaaaGreat.Tk
end

section
/- Plain facts on phrases, beginnings, and what a query matches. No program. -/
namespace Go.Proofs.YtjeahdnbpiahaaaGreat.Qy
open Go.RowKit Go.Proofs.YtjeahdnbpiahaaaGreat Go.Proofs.YtjeahdnbpiahaaaGreat.Ut

/-- Do words stand from the i-th on? -/
def stands (T : List (List UInt8)) (ws : List ByteArray) (i : Nat) : Bool := ((T.drop i).take ws.length) == ws.map (fun s => s.data.toList)
/-- Where words stand, of the first k places. -/
def phrTo (T : List (List UInt8)) (ws : List ByteArray) (k : Nat) : List Nat := (List.range k).filter (stands T ws)
def phr (T : List (List UInt8)) (ws : List ByteArray) : List Nat := if ws = [] then [] else phrTo T ws T.length
theorem phrTo_succ (T : List (List UInt8)) (ws : List ByteArray) (k : Nat) : phrTo T ws (k + 1) = phrTo T ws k ++ if stands T ws k then [k] else [] := by
  unfold phrTo
  rw [List.range_succ, List.filter_append]
  by_cases h : stands T ws k <;> simp [h]
theorem phrTo_len (T : List (List UInt8)) (ws : List ByteArray) (k : Nat) : (phrTo T ws k).length ≤ k := by
  have := List.length_filter_le (stands T ws) (List.range k)
  rwa [List.length_range] at this
theorem stands_short (T : List (List UInt8)) (ws : List ByteArray) (i : Nat) (h : T.length - i < ws.length) : stands T ws i = false := by
  unfold stands
  rw [beq_eq_false_iff_ne]
  intro e
  have := congrArg List.length e
  simp at this
  omega
/-- Once too few words are left, none more stand. -/
theorem phrTo_short (T : List (List UInt8)) (ws : List ByteArray) (k : Nat) (h : T.length - k < ws.length) : ∀ j, k ≤ j → phrTo T ws j = phrTo T ws k := by
  intro j hj
  induction j with
  | zero => obtain rfl : k = 0 := by omega
            rfl
  | succ j ih =>
    by_cases e : k = j + 1
    · rw [e]
    · rw [phrTo_succ, stands_short T ws j (by omega), if_neg (by decide), List.append_nil]
      exact ih (by omega)
/-- So far the words stand. -/
def standsTo (T : List (List UInt8)) (ws : List ByteArray) (i k : Nat) : Bool := ((T.drop i).take k) == (ws.take k).map (fun s => s.data.toList)
theorem standsTo_zero (T : List (List UInt8)) (ws : List ByteArray) (i : Nat) : standsTo T ws i 0 = true := by simp [standsTo]
theorem standsTo_all (T : List (List UInt8)) (ws : List ByteArray) (i : Nat) : standsTo T ws i ws.length = stands T ws i := by unfold standsTo stands; rw [List.take_length]
theorem standsTo_succ (T : List (List UInt8)) (ws : List ByteArray) (i k : Nat) (h1 : i + k < T.length) (h2 : k < ws.length) : standsTo T ws i (k + 1) = (standsTo T ws i k && (T[i + k] == ws[k].data.toList)) := by
  unfold standsTo
  have e1 : (T.drop i).take (k + 1) = (T.drop i).take k ++ [T[i + k]] := by
    rw [List.take_succ_eq_append_getElem (by simp; omega)]
    simp
  have e2 : (ws.take (k + 1)).map (fun s => s.data.toList) = (ws.take k).map (fun s => s.data.toList) ++ [ws[k].data.toList] := by
    rw [List.take_succ_eq_append_getElem h2, List.map_append]; rfl
  have hl : ((T.drop i).take k).length = ((ws.take k).map (fun s => s.data.toList)).length := by simp; omega
  rw [e1, e2, Bool.eq_iff_iff]
  simp only [beq_iff_eq, Bool.and_eq_true]
  constructor
  · intro e
    have := List.append_inj e hl
    exact ⟨this.1, by simpa using this.2⟩
  · rintro ⟨a, b⟩
    rw [a, b]
theorem standsTo_no (T : List (List UInt8)) (ws : List ByteArray) (i k : Nat) (hk : k ≤ ws.length) (h : standsTo T ws i k = false) : stands T ws i = false := by
  unfold standsTo stands at *
  rw [beq_eq_false_iff_ne] at *
  intro e
  apply h
  have := congrArg (List.take k) e
  rw [List.take_take, Nat.min_eq_left hk] at this
  rw [this, List.map_take]

/-- Does a text begin so? -/
def begins (t : List UInt8) (p : ByteArray) : Bool := p.data.toList.isPrefixOf t
/-- Does a leaf match a text? -/
def leafT (k : Int) (ws : List ByteArray) (T : List (List UInt8)) : Bool :=
  if k = 3 then (match ws with | [p] => T.any (begins · p) | _ => false)
  else if k = 2 then decide (ws.length = 1) && decide (0 < (phr T ws).length)
  else decide (0 < (phr T ws).length)
def leafB (k : Int) (nm : ByteArray) (ws : List ByteArray) (fs : List (ByteArray × ByteArray)) : Bool := fs.any fun f => f.1.data.toList == nm.data.toList && leafT k ws (Tk.words f.2.data.toList)
mutual
/-- Does a query match fields? -/
def matchB (fs : List (ByteArray × ByteArray)) : Q → Bool
  | .mk k nm ws l => if k = 1 then true else if k = 2 ∨ k = 3 ∨ k = 4 then leafB k nm ws fs else if k = 5 then matchAll fs l else if k = 6 then matchSome fs l else if k = 7 then matchNone fs l else false
def matchAll (fs : List (ByteArray × ByteArray)) : List Q → Bool
  | [] => true
  | q :: l => matchB fs q && matchAll fs l
def matchSome (fs : List (ByteArray × ByteArray)) : List Q → Bool
  | [] => false
  | q :: l => matchB fs q || matchSome fs l
def matchNone (fs : List (ByteArray × ByteArray)) : List Q → Bool
  | [q] => !matchB fs q
  | _ => false
end
theorem matchAll_eq (fs : List (ByteArray × ByteArray)) : ∀ l, matchAll fs l = l.all (matchB fs)
  | [] => by simp [matchAll]
  | q :: l => by simp [matchAll, matchAll_eq fs l]
theorem matchSome_eq (fs : List (ByteArray × ByteArray)) : ∀ l, matchSome fs l = l.any (matchB fs)
  | [] => by simp [matchSome]
  | q :: l => by simp [matchSome, matchSome_eq fs l]
theorem matchB_eq (fs : List (ByteArray × ByteArray)) (k : Int) (nm : ByteArray) (ws : List ByteArray) (l : List Q) :
    matchB fs (.mk k nm ws l) = if k = 1 then true else if k = 2 ∨ k = 3 ∨ k = 4 then leafB k nm ws fs else if k = 5 then l.all (matchB fs) else if k = 6 then l.any (matchB fs) else if k = 7 then matchNone fs l else false := by
  rw [matchB, matchAll_eq, matchSome_eq]
end Go.Proofs.YtjeahdnbpiahaaaGreat.Qy
end

section
/- The walks of package utf: spans, lower case, words. -/
namespace Go.Proofs.YtjeahdnbpiahaaaGreat.Ut
open Go.RowKit

def inB (f t b r : Int) : Bool := decide (f ≤ r) && (decide (r ≤ t) && decide (r ≠ b))
theorem inB_yes {f t b r : Int} (h : f ≤ r ∧ r ≤ t ∧ r ≠ b) : inB f t b r = true := by
  unfold inB; simp [h.1, h.2.1, h.2.2]
theorem inB_no {f t b r : Int} (h : r < f ∨ t < r ∨ r = b) : inB f t b r = false := by
  unfold inB
  simp only [Bool.and_eq_false_iff, decide_eq_false_iff_not]
  omega

theorem in_any (f t b r : Int) (w : World) :
    Calls Tryz.prog 65 #[.agg #[.int .i64 f, .int .i64 t, .int .i64 b], .int .i64 r] w fun e w' => e = .returned (.bool (inB f t b r)) ∧ Below w.heap.size w w' := by
  have hb : Below w.heap.size w (w.alloc (.cells #[.int .i64 f, .int .i64 t, .int .i64 b] 104)) := (Below.refl _ _).alloc (Nat.le_refl _) _
  have Hb := Lib.hid hb
  clear hb
  by_cases h1 : f ≤ r
  · by_cases h2 : r ≤ t
    · by_cases h3 : r = b
      · have e : inB f t b r = false := inB_no (by omega)
        rw [e]
        have h4 : (r == b) = true := by simp [h3]
        have h5 : (r != b) = false := by simp [h3]
        clear h3 e
        go_enter Tryz.func65, Tryz.ntmps65
        go_wp2
        go_ret
        exact ⟨rfl, Hb.out⟩
      · have e : inB f t b r = true := inB_yes ⟨h1, h2, h3⟩
        rw [e]
        have h4 : (r == b) = false := by simp [h3]
        have h5 : (r != b) = true := by simp [h3]
        clear h3 e
        go_enter Tryz.func65, Tryz.ntmps65
        go_wp2
        go_ret
        exact ⟨rfl, Hb.out⟩
    · have e : inB f t b r = false := inB_no (by omega)
      rw [e]
      clear e
      go_enter Tryz.func65, Tryz.ntmps65
      go_wp2
      go_ret
      exact ⟨rfl, Hb.out⟩
  · have e : inB f t b r = false := inB_no (by omega)
    rw [e]
    clear e
    go_enter Tryz.func65, Tryz.ntmps65
    go_wp2
    go_ret
    exact ⟨rfl, Hb.out⟩

def halfB (r : Int) : Bool := decide (55296 ≤ r) && decide (r ≤ 57343)
theorem half_any (r : Int) (w : World) : Calls Tryz.prog 94 #[.int .i64 r] w fun e w' => e = .returned (.bool (halfB r)) ∧ w = w' := by
  by_cases h1 : 55296 ≤ r
  · by_cases h2 : r ≤ 57343
    · have e : halfB r = true := by simp [halfB, h1, h2]
      rw [e]; clear e
      go_enter Tryz.func94, Tryz.ntmps94
      go_wp2
      go_ret
      exact ⟨rfl, rfl⟩
    · have e : halfB r = false := by simp [halfB, h2]
      rw [e]; clear e
      go_enter Tryz.func94, Tryz.ntmps94
      go_wp2
      go_ret
      exact ⟨rfl, rfl⟩
  · have e : halfB r = false := by simp [halfB, h1]
    rw [e]; clear e
    go_enter Tryz.func94, Tryz.ntmps94
    go_wp2
    go_ret
    exact ⟨rfl, rfl⟩

def upA : Array Value := #[.int .i64 65, .int .i64 90, .int .i64 (-1), .int .i64 192, .int .i64 222, .int .i64 215, .int .i64 913, .int .i64 939, .int .i64 930, .int .i64 1040, .int .i64 1071, .int .i64 (-1)]
def upZ : Array Value := #[.int .i64 0, .int .i64 0, .int .i64 0, .int .i64 0, .int .i64 0, .int .i64 0, .int .i64 0, .int .i64 0, .int .i64 0, .int .i64 0, .int .i64 0, .int .i64 0]
theorem upA_one : upA.all (·.oneCell') = true := by simp [upA, Value.oneCell']
def upf : Nat → Int
  | 0 => 65
  | 1 => 192
  | 2 => 913
  | _ => 1040
def upt : Nat → Int
  | 0 => 90
  | 1 => 222
  | 2 => 939
  | _ => 1071
def upb : Nat → Int
  | 0 => (-1)
  | 1 => 215
  | 2 => 930
  | _ => (-1)
theorem idx_up0 (w : World) : (Instr.index 141 (.agg upA) (.int .i64 0)).run Tryz.prog w = .ok (.agg #[.int .i64 65, .int .i64 90, .int .i64 (-1)]) w := by kernel_rfl
theorem idx_up1 (w : World) : (Instr.index 141 (.agg upA) (.int .i64 1)).run Tryz.prog w = .ok (.agg #[.int .i64 192, .int .i64 222, .int .i64 215]) w := by kernel_rfl
theorem idx_up2 (w : World) : (Instr.index 141 (.agg upA) (.int .i64 2)).run Tryz.prog w = .ok (.agg #[.int .i64 913, .int .i64 939, .int .i64 930]) w := by kernel_rfl
theorem idx_up3 (w : World) : (Instr.index 141 (.agg upA) (.int .i64 3)).run Tryz.prog w = .ok (.agg #[.int .i64 1040, .int .i64 1071, .int .i64 (-1)]) w := by kernel_rfl
theorem idx_up (j : Nat) (hj : j < 4) (w : World) : (Instr.index 141 (.agg upA) (.int .i64 (j : Int))).run Tryz.prog w = .ok (.agg #[.int .i64 (upf j), .int .i64 (upt j), .int .i64 (upb j)]) w := by
  match j, hj with
  | 0, _ => exact idx_up0 w
  | 1, _ => exact idx_up1 w
  | 2, _ => exact idx_up2 w
  | 3, _ => exact idx_up3 w

def wdA : Array Value := #[.int .i64 48, .int .i64 57, .int .i64 (-1), .int .i64 65, .int .i64 90, .int .i64 (-1), .int .i64 97, .int .i64 122, .int .i64 (-1), .int .i64 192, .int .i64 255, .int .i64 215, .int .i64 913, .int .i64 974, .int .i64 930, .int .i64 1024, .int .i64 1119, .int .i64 (-1)]
def wdZ : Array Value := #[.int .i64 0, .int .i64 0, .int .i64 0, .int .i64 0, .int .i64 0, .int .i64 0, .int .i64 0, .int .i64 0, .int .i64 0, .int .i64 0, .int .i64 0, .int .i64 0, .int .i64 0, .int .i64 0, .int .i64 0, .int .i64 0, .int .i64 0, .int .i64 0]
theorem wdA_one : wdA.all (·.oneCell') = true := by simp [wdA, Value.oneCell']
def wdf : Nat → Int
  | 0 => 48
  | 1 => 65
  | 2 => 97
  | 3 => 192
  | 4 => 913
  | _ => 1024
def wdt : Nat → Int
  | 0 => 57
  | 1 => 90
  | 2 => 122
  | 3 => 255
  | 4 => 974
  | _ => 1119
def wdb : Nat → Int
  | 0 => (-1)
  | 1 => (-1)
  | 2 => (-1)
  | 3 => 215
  | 4 => 930
  | _ => (-1)
theorem idx_wd0 (w : World) : (Instr.index 105 (.agg wdA) (.int .i64 0)).run Tryz.prog w = .ok (.agg #[.int .i64 48, .int .i64 57, .int .i64 (-1)]) w := by kernel_rfl
theorem idx_wd1 (w : World) : (Instr.index 105 (.agg wdA) (.int .i64 1)).run Tryz.prog w = .ok (.agg #[.int .i64 65, .int .i64 90, .int .i64 (-1)]) w := by kernel_rfl
theorem idx_wd2 (w : World) : (Instr.index 105 (.agg wdA) (.int .i64 2)).run Tryz.prog w = .ok (.agg #[.int .i64 97, .int .i64 122, .int .i64 (-1)]) w := by kernel_rfl
theorem idx_wd3 (w : World) : (Instr.index 105 (.agg wdA) (.int .i64 3)).run Tryz.prog w = .ok (.agg #[.int .i64 192, .int .i64 255, .int .i64 215]) w := by kernel_rfl
theorem idx_wd4 (w : World) : (Instr.index 105 (.agg wdA) (.int .i64 4)).run Tryz.prog w = .ok (.agg #[.int .i64 913, .int .i64 974, .int .i64 930]) w := by kernel_rfl
theorem idx_wd5 (w : World) : (Instr.index 105 (.agg wdA) (.int .i64 5)).run Tryz.prog w = .ok (.agg #[.int .i64 1024, .int .i64 1119, .int .i64 (-1)]) w := by kernel_rfl
theorem idx_wd (j : Nat) (hj : j < 6) (w : World) : (Instr.index 105 (.agg wdA) (.int .i64 (j : Int))).run Tryz.prog w = .ok (.agg #[.int .i64 (wdf j), .int .i64 (wdt j), .int .i64 (wdb j)]) w := by
  match j, hj with
  | 0, _ => exact idx_wd0 w
  | 1, _ => exact idx_wd1 w
  | 2, _ => exact idx_wd2 w
  | 3, _ => exact idx_wd3 w
  | 4, _ => exact idx_wd4 w
  | 5, _ => exact idx_wd5 w

theorem up_in (r : Int) (j : Nat) (hj : j < 4) (h : inB (upf j) (upt j) (upb j) r = true) : lower r = r + 32 ∧ r ≤ 1071 ∧ 0 ≤ r := by
  unfold inB at h
  simp only [Bool.and_eq_true, decide_eq_true_eq] at h
  unfold lower
  match j, hj with
  | 0, _ => simp only [upf, upt, upb] at h; exact ⟨by rw [if_pos (by omega)], by omega, by omega⟩
  | 1, _ => simp only [upf, upt, upb] at h; exact ⟨by rw [if_pos (by omega)], by omega, by omega⟩
  | 2, _ => simp only [upf, upt, upb] at h; exact ⟨by rw [if_pos (by omega)], by omega, by omega⟩
  | 3, _ => simp only [upf, upt, upb] at h; exact ⟨by rw [if_pos (by omega)], by omega, by omega⟩
theorem inB_false {f t b r : Int} (h : inB f t b r = false) : ¬ (f ≤ r ∧ r ≤ t ∧ r ≠ b) := by
  intro c
  rw [inB_yes c] at h
  cases h
theorem up_out (r : Int) (h : ∀ j, j < 4 → inB (upf j) (upt j) (upb j) r = false) : lower r = if 1024 ≤ r ∧ r ≤ 1039 then r + 80 else r := by
  have h0 := inB_false (h 0 (by omega))
  have h1 := inB_false (h 1 (by omega))
  have h2 := inB_false (h 2 (by omega))
  have h3 := inB_false (h 3 (by omega))
  simp only [upf, upt, upb] at h0 h1 h2 h3
  unfold lower
  rw [if_neg (by omega)]
theorem wd_in (r : Int) (j : Nat) (hj : j < 6) (h : inB (wdf j) (wdt j) (wdb j) r = true) : isWord r = (r != 247) := by
  unfold inB at h
  simp only [Bool.and_eq_true, decide_eq_true_eq] at h
  unfold isWord
  rw [Bool.eq_iff_iff, decide_eq_true_eq, bne_iff_ne]
  match j, hj with
  | 0, _ => simp only [wdf, wdt, wdb] at h; omega
  | 1, _ => simp only [wdf, wdt, wdb] at h; omega
  | 2, _ => simp only [wdf, wdt, wdb] at h; omega
  | 3, _ => simp only [wdf, wdt, wdb] at h; omega
  | 4, _ => simp only [wdf, wdt, wdb] at h; omega
  | 5, _ => simp only [wdf, wdt, wdb] at h; omega
theorem wd_out (r : Int) (h : ∀ j, j < 6 → inB (wdf j) (wdt j) (wdb j) r = false) : isWord r = false := by
  have h0 := inB_false (h 0 (by omega))
  have h1 := inB_false (h 1 (by omega))
  have h2 := inB_false (h 2 (by omega))
  have h3 := inB_false (h 3 (by omega))
  have h4 := inB_false (h 4 (by omega))
  have h5 := inB_false (h 5 (by omega))
  simp only [wdf, wdt, wdb] at h0 h1 h2 h3 h4 h5
  unfold isWord
  rw [decide_eq_false_iff_not]
  omega

set_option maxRecDepth 20000 in
set_option maxHeartbeats 800000 in
theorem lower_any (r : Int) (w : World) : Calls Tryz.prog 67 #[.int .i64 r] w fun e w' => e = .returned (.int .i64 (lower r)) ∧ Below w.heap.size w w' := by
  have hb : Below w.heap.size w ((w.alloc (.cells upZ 141)).setRow w.heap.size upA) := below_setRow ((Below.refl _ _).alloc (Nat.le_refl _) _) (Nat.le_refl _) _
  have hh := setRow_heap (w.alloc (.cells upZ 141)) w.heap.size upZ upA 141 (0, 0) (heap_alloc_new w _)
  have Hb := Lib.hid hb
  clear hb
  go_enter Tryz.func67, Tryz.ntmps67
  go_wp2_with (first
    | (refine wpList_store_row (o := ⟨none, .store 141 _ _, _, _, _, _⟩) rfl 141 _ _ rfl w.heap.size upA rfl rfl 141 upZ (heap_alloc_new w _) (by kernel_rfl) rfl upA_one ?_)
    | (refine wpList_load_row (o := ⟨some 11, .load 141 _, _, _, _, _⟩) rfl 141 _ rfl w.heap.size rfl 141 upA (0, 0) _ hh Tryz.underlying141 rfl (by kernel_rfl) ?_))
  clear hh
  go_loopw [12] (fun i wr => ∃ j : Nat, j ≤ 4 ∧ i = .int .i64 j ∧ (∀ i, i < j → inB (upf i) (upt i) (upb i) r = false) ∧ Below w.heap.size w wr) (fun i _ => 4 - (intOf i).toNat)
  case atStart => exact ⟨0, by omega, rfl, fun i h => by omega, Hb.out⟩
  case round =>
    obtain ⟨j, hj, rfl, hno, hb⟩ := hrel
    have Hno := Lib.hid hno
    clear hno
    by_cases hj4 : j < 4
    · have hix := idx_up j hj4
      by_cases hin : inB (upf j) (upt j) (upb j) r = true
      · have hl := up_in r j hj4 hin
        have hr1 := hl.2.1
        have hr0 := hl.2.2
        have Hl := Lib.hid hl.1
        clear hl
        go_wp2_with (go_at_call 65; refine (calls_from (hb.alloc hb.size _) (in_any _ _ _ _ _)).mono ?_; rintro e w' ⟨rfl, hb⟩)
        go_ret
        exact ⟨by rw [Hl.out]; rfl, hb⟩
      · have hinf : inB (upf j) (upt j) (upb j) r = false := by simpa using hin
        have Hin := Lib.hid hinf
        clear hin
        go_wp2_with (go_at_call 65; refine (calls_from (hb.alloc hb.size _) (in_any _ _ _ _ _)).mono ?_; rintro e w' ⟨rfl, hb⟩)
        go_roundw
        case rel => exact ⟨j + 1, by omega, by go_num, fun i h => by
          by_cases e : i = j
          · subst e; exact Hin.out
          · exact Hno.out i (by omega), hb⟩
        case measure => simp [intOf]; omega
    · obtain rfl : j = 4 := by omega
      have hl := up_out r Hno.out
      by_cases h5 : 1024 ≤ r ∧ r ≤ 1039
      · rw [if_pos h5] at hl
        have e5 : inB 1024 1039 (-1) r = true := inB_yes (by omega)
        have h51 := h5.1
        have h52 := h5.2
        have Hl := Lib.hid hl
        clear hl h5
        go_wp2_with (go_at_call 65; refine (calls_from hb (in_any _ _ _ _ _)).mono ?_; rintro e w' ⟨rfl, hb⟩)
        go_ret
        exact ⟨by rw [Hl.out]; rfl, hb⟩
      · rw [if_neg h5] at hl
        have e5 : inB 1024 1039 (-1) r = false := inB_no (by omega)
        have Hl := Lib.hid hl
        clear hl h5
        go_wp2_with (go_at_call 65; refine (calls_from hb (in_any _ _ _ _ _)).mono ?_; rintro e w' ⟨rfl, hb⟩)
        go_ret
        exact ⟨by rw [Hl.out]; rfl, hb⟩

set_option maxRecDepth 20000 in
set_option maxHeartbeats 800000 in
theorem word_any (r : Int) (w : World) : Calls Tryz.prog 51 #[.int .i64 r] w fun e w' => e = .returned (.bool (isWord r)) ∧ Below w.heap.size w w' := by
  have hb : Below w.heap.size w ((w.alloc (.cells wdZ 105)).setRow w.heap.size wdA) := below_setRow ((Below.refl _ _).alloc (Nat.le_refl _) _) (Nat.le_refl _) _
  have hh := setRow_heap (w.alloc (.cells wdZ 105)) w.heap.size wdZ wdA 105 (0, 0) (heap_alloc_new w _)
  have Hb := Lib.hid hb
  clear hb
  go_enter Tryz.func51, Tryz.ntmps51
  go_wp2_with (first
    | (refine wpList_store_row (o := ⟨none, .store 105 _ _, _, _, _, _⟩) rfl 105 _ _ rfl w.heap.size wdA rfl rfl 105 wdZ (heap_alloc_new w _) (by kernel_rfl) rfl wdA_one ?_)
    | (refine wpList_load_row (o := ⟨some 13, .load 105 _, _, _, _, _⟩) rfl 105 _ rfl w.heap.size rfl 105 wdA (0, 0) _ hh Tryz.underlying105 rfl (by kernel_rfl) ?_))
  clear hh
  go_loopw [14] (fun i wr => ∃ j : Nat, j ≤ 6 ∧ i = .int .i64 j ∧ (∀ i, i < j → inB (wdf i) (wdt i) (wdb i) r = false) ∧ Below w.heap.size w wr) (fun i _ => 6 - (intOf i).toNat)
  case atStart => exact ⟨0, by omega, rfl, fun i h => by omega, Hb.out⟩
  case round =>
    obtain ⟨j, hj, rfl, hno, hb⟩ := hrel
    have Hno := Lib.hid hno
    clear hno
    by_cases hj6 : j < 6
    · have hix := idx_wd j hj6
      by_cases hin : inB (wdf j) (wdt j) (wdb j) r = true
      · have Hl := Lib.hid (wd_in r j hj6 hin)
        go_wp2_with (go_at_call 65; refine (calls_from (hb.alloc hb.size _) (in_any _ _ _ _ _)).mono ?_; rintro e w' ⟨rfl, hb⟩)
        go_ret
        exact ⟨by rw [Hl.out]; rfl, hb⟩
      · have hinf : inB (wdf j) (wdt j) (wdb j) r = false := by simpa using hin
        have Hin := Lib.hid hinf
        clear hin
        go_wp2_with (go_at_call 65; refine (calls_from (hb.alloc hb.size _) (in_any _ _ _ _ _)).mono ?_; rintro e w' ⟨rfl, hb⟩)
        go_roundw
        case rel => exact ⟨j + 1, by omega, by go_num, fun i h => by
          by_cases e : i = j
          · subst e; exact Hin.out
          · exact Hno.out i (by omega), hb⟩
        case measure => simp [intOf]; omega
    · obtain rfl : j = 6 := by omega
      have Hl := Lib.hid (wd_out r Hno.out)
      go_wp2
      go_ret
      exact ⟨by rw [Hl.out]; rfl, hb⟩
end Go.Proofs.YtjeahdnbpiahaaaGreat.Ut
end
