/- token.Term, Split; strings.Cut at a colon: the walks. -/
import Derived.Lib.SlicesS
import Derived.Maps.Views
import Derived.Deep.DeepCutAuto
import Derived.Outline
import Derived.Test.YtjfconddkfihcaaPkMarkTextsRow10
import Derived.Test.YtjfconddkfihcaaPkMarkTextsRow2
section
namespace Go.Proofs.Ytjfconddkfihcaa.Tk
open Go.RowKit Go.Proofs.Ytjfconddkfihcaa.Ut
set_option maxRecDepth 20000

theorem colon_index (s : ByteArray) : Lib.indexByte s.data.toList 58 = if colonAt s.data.toList < s.size then ((colonAt s.data.toList : Nat) : Int) else -1 := by
  rw [← bsize]
  unfold colonAt
  generalize s.data.toList = l
  induction l with
  | nil => rfl
  | cons x l ih =>
    rw [Lib.indexByte, List.findIdx_cons]
    by_cases hx : (x == 58) = true
    · rw [hx]; simp
    · have hx' : (x == 58) = false := by simpa using hx
      rw [hx', ih]
      simp only [Bool.false_eq_true, if_false, cond_false, List.length_cons]
      generalize l.findIdx (fun x => x == 58) = n
      by_cases h : n < l.length
      · have h' : n + 1 < l.length + 1 := by omega
        rw [if_pos h, if_pos h', if_neg (by simp)]
        simp
      · have h' : ¬ n + 1 < l.length + 1 := by omega
        rw [if_neg h, if_neg h']
        simp

def colonS : ByteArray := ⟨#[58]⟩
theorem index_colon (s : ByteArray) (w : World) : Calls Try.prog 127 #[.string s, .string colonS] w fun e w' => e = .returned (.int .i64 (if colonAt s.data.toList < s.size then ((colonAt s.data.toList : Nat) : Int) else -1)) ∧ w = w' :=
  (Try.stringslite_Index_one s 58 w).mono fun _ _ ⟨he, hw⟩ => ⟨by rw [he, colon_index], hw.symm⟩
/-- Before the first colon; behind it. -/
def bef (s : ByteArray) : ByteArray := s.extract 0 (colonAt s.data.toList)
def beh (s : ByteArray) : ByteArray := s.extract (colonAt s.data.toList + 1) s.size
theorem bef_data (s : ByteArray) : (bef s).data.toList = s.data.toList.take (colonAt s.data.toList) := by unfold bef; rw [Lib.extract_data]; simp
theorem beh_data (s : ByteArray) : (beh s).data.toList = s.data.toList.drop (colonAt s.data.toList + 1) := by
  unfold beh; rw [Lib.extract_data, List.take_of_length_le (by rw [List.length_drop, bsize]; omega)]
theorem bef_size (s : ByteArray) : (bef s).size ≤ s.size := by unfold bef; rw [ByteArray.size_extract]; omega
theorem beh_size (s : ByteArray) : (beh s).size ≤ s.size := by unfold beh; rw [ByteArray.size_extract]; omega

set_option maxHeartbeats 400000 in
theorem lcut_yes (s : ByteArray) (w : World) (hs : s.size ≤ 1000000) (h : colonAt s.data.toList < s.size) : Calls Try.prog 107 #[.string s, .string colonS] w fun e w' => e = .returned (.tuple #[.string (bef s), .string (beh s), .bool true]) ∧ Below w.heap.size w w' := by
  have c := index_colon s w
  rw [if_pos h] at c
  have F1 : Hid (bef s = s.extract 0 (colonAt s.data.toList)) := rfl
  have F2 : Hid (beh s = s.extract (colonAt s.data.toList + 1) s.size) := rfl
  have hcs : colonS.size = 1 := rfl
  generalize colonAt s.data.toList = k at *
  generalize bef s = x at *
  generalize beh s = y at *
  have h0 : (0 : Int) ≤ (k : Int) := by omega
  have h1 : (k : Int) ≤ (s.size : Int) := by omega
  have h2 : IntKind.i64.wrap ((k : Int) + 1) = (k : Int) + 1 := IntWalk.i64_in _ (by omega)
  have h3 : (0 : Int) ≤ (k : Int) + 1 := by omega
  have h4 : (k : Int) + 1 ≤ (s.size : Int) := by omega
  go_enter Try.func107, Try.ntmps107
  go_wp2_with (go_at_call 127; refine c.mono ?_; rintro e w' ⟨rfl, rfl⟩)
  go_region
  go_wp2
  go_ret3
  rw [F1.out, F2.out]
  exact ⟨rfl, (Below.refl _ _).drew⟩
theorem lcut_no (s : ByteArray) (w : World) (h : ¬ colonAt s.data.toList < s.size) : Calls Try.prog 107 #[.string s, .string colonS] w fun e w' => e = .returned (.tuple #[.string s, .string ByteArray.empty, .bool false]) ∧ Below w.heap.size w w' := by
  have c := index_colon s w
  rw [if_neg h] at c
  clear h
  go_enter Try.func107, Try.ntmps107
  go_wp2_with (go_at_call 127; refine c.mono ?_; rintro e w' ⟨rfl, rfl⟩)
  go_ret3
  exact ⟨rfl, Below.refl _ _⟩
theorem cut_yes (s : ByteArray) (w : World) (hs : s.size ≤ 1000000) (h : colonAt s.data.toList < s.size) : Calls Try.prog 79 #[.string s, .string colonS] w fun e w' => e = .returned (.tuple #[.string (bef s), .string (beh s), .bool true]) ∧ Below w.heap.size w w' := by
  have c := lcut_yes s w hs h
  go_enter Try.func79, Try.ntmps79
  go_wp2_with (go_at_call 107; refine c.mono ?_; rintro e w2 ⟨rfl, hb2⟩)
  go_ret3
  exact ⟨rfl, hb2⟩
theorem cut_no (s : ByteArray) (w : World) (h : ¬ colonAt s.data.toList < s.size) : Calls Try.prog 79 #[.string s, .string colonS] w fun e w' => e = .returned (.tuple #[.string s, .string ByteArray.empty, .bool false]) ∧ Below w.heap.size w w' := by
  have c := lcut_no s w h
  go_enter Try.func79, Try.ntmps79
  go_wp2_with (go_at_call 107; refine c.mono ?_; rintro e w2 ⟨rfl, hb2⟩)
  go_ret3
  exact ⟨rfl, hb2⟩

/-- A term of two texts, or none. -/
def termV (a b : ByteArray) : ByteArray := str (term a.data.toList b.data.toList)
def termOk (a b : ByteArray) : Bool := isN a.data.toList && isW b.data.toList
theorem termV_eq (a b : ByteArray) : a ++ colonS ++ b = termV a b := by
  have h : ∀ x y : ByteArray, (x ++ y).data.toList = x.data.toList ++ y.data.toList := fun x y => by simp
  rw [← of_str (a ++ colonS ++ b)]
  unfold termV term
  rw [h, h]
  simp [colonS]
set_option maxHeartbeats 400000 in
theorem term_noB (a b : ByteArray) (w : World) (ha : a.size ≤ 140737488351232) (hb : b.size ≤ 140737488351232) (h : termOk a b = false) : Calls Try.prog 42 #[.string a, .string b] w fun e w' => e = .returned (.tuple #[.string ByteArray.empty, .int .i64 1]) ∧ Below w.heap.size w w' := by
  have c1 := isName_anyB a w ha
  by_cases hn : isN a.data.toList = true
  · have hw : isW b.data.toList = false := by unfold termOk at h; rw [hn, Bool.true_and] at h; exact h
    have c2 := fun wx => isWord_anyB b wx hb
    rw [hn] at c1
    rw [hw] at c2
    have C2 := Lib.hid c2
    clear hn hw c2 h
    go_enter Try.func42, Try.ntmps42
    go_wp2_with (first | (go_at_call 48; refine c1.mono ?_; rintro e w2 ⟨rfl, hb2⟩) | (go_at_call 46; refine (C2.out _).mono ?_; rintro e w3 ⟨rfl, hb3⟩))
    go_ret2
    exact ⟨rfl, hb2.trans (hb3.mono hb2.size)⟩
  · have hn' : isN a.data.toList = false := by simpa using hn
    rw [hn'] at c1
    clear hn hn' h
    go_enter Try.func42, Try.ntmps42
    go_wp2_with (go_at_call 48; refine c1.mono ?_; rintro e w2 ⟨rfl, hb2⟩)
    go_ret2
    exact ⟨rfl, hb2⟩
theorem term_no (a b : ByteArray) (w : World) (ha : a.size ≤ 1000000) (hb : b.size ≤ 1000000) (h : termOk a b = false) : Calls Try.prog 42 #[.string a, .string b] w fun e w' => e = .returned (.tuple #[.string ByteArray.empty, .int .i64 1]) ∧ Below w.heap.size w w' :=
  term_noB a b w (by omega) (by omega) h
set_option maxHeartbeats 400000 in
theorem term_yesB (a b : ByteArray) (w : World) (ha : a.size ≤ 140737488351232) (hb : b.size ≤ 140737488351232) (h : termOk a b = true) : Calls Try.prog 42 #[.string a, .string b] w fun e w' => e = .returned (.tuple #[.string (termV a b), .int .i64 0]) ∧ Below w.heap.size w w' := by
  unfold termOk at h
  rw [Bool.and_eq_true] at h
  have c1 := isName_anyB a w ha
  have c2 := fun wx => isWord_anyB b wx hb
  rw [h.1] at c1
  rw [h.2] at c2
  have C2 := Lib.hid c2
  have F : Hid (a ++ colonS ++ b = termV a b) := Lib.hid (termV_eq a b)
  clear h c2
  generalize termV a b = t at *
  go_enter Try.func42, Try.ntmps42
  go_wp2_with (first | (go_at_call 48; refine c1.mono ?_; rintro e w2 ⟨rfl, hb2⟩) | (go_at_call 46; refine (C2.out _).mono ?_; rintro e w3 ⟨rfl, hb3⟩))
  go_ret2
  rw [← F.out]
  exact ⟨rfl, hb2.trans (hb3.mono hb2.size)⟩

theorem term_yes (a b : ByteArray) (w : World) (ha : a.size ≤ 1000000) (hb : b.size ≤ 1000000) (h : termOk a b = true) : Calls Try.prog 42 #[.string a, .string b] w fun e w' => e = .returned (.tuple #[.string (termV a b), .int .i64 0]) ∧ Below w.heap.size w w' :=
  term_yesB a b w (by omega) (by omega) h
/-- What Split hands back. -/
def splitV (s : ByteArray) : Value := if splitOk s.data.toList = true then .tuple #[.string (bef s), .string (beh s), .bool true] else .tuple #[.string ByteArray.empty, .string ByteArray.empty, .bool false]
set_option maxHeartbeats 800000 in
theorem split_any (s : ByteArray) (w : World) (hs : s.size ≤ 1000000) : Calls Try.prog 44 #[.string s] w fun e w' => e = .returned (splitV s) ∧ Below w.heap.size w w' := by
  by_cases h : colonAt s.data.toList < s.size
  · have c0 := cut_yes s w hs h
    have c1 := fun wx => isName_any (bef s) wx (by have := bef_size s; omega)
    have c2 := fun wx => isWord_any (beh s) wx (by have := beh_size s; omega)
    have F : Hid (splitOk s.data.toList = (isN (bef s).data.toList && isW (beh s).data.toList)) := Lib.hid (by
      unfold splitOk; rw [bef_data, beh_data, decide_eq_true (by rw [bsize]; exact h), Bool.true_and])
    have G : Hid (splitV s = if splitOk s.data.toList = true then .tuple #[.string (bef s), .string (beh s), .bool true] else .tuple #[.string ByteArray.empty, .string ByteArray.empty, .bool false]) := rfl
    generalize splitV s = sp at *
    generalize bef s = x at *
    generalize beh s = y at *
    by_cases hn : isN x.data.toList = true
    · rw [hn] at c1 F
      by_cases hw : isW y.data.toList = true
      · rw [hw] at c2 F
        have G2 : Hid (sp = .tuple #[.string x, .string y, .bool true]) := Lib.hid (by rw [G.out, F.out]; rfl)
        have C1 := Lib.hid c1
        have C2 := Lib.hid c2
        clear hn hw c1 c2 h
        go_enter Try.func44, Try.ntmps44
        go_wp2_with (first | (go_at_call 79; refine c0.mono ?_; rintro e w1 ⟨rfl, hb1⟩) | (go_at_call 48; refine (C1.out _).mono ?_; rintro e w2 ⟨rfl, hb2⟩) | (go_at_call 46; refine (C2.out _).mono ?_; rintro e w3 ⟨rfl, hb3⟩))
        go_ret3
        exact ⟨by rw [G2.out]; rfl, (hb1.trans (hb2.mono hb1.size)).trans (hb3.mono (Nat.le_trans hb1.size hb2.size))⟩
      · have hw' : isW y.data.toList = false := by simpa using hw
        rw [hw'] at c2 F
        have G2 : Hid (sp = .tuple #[.string ByteArray.empty, .string ByteArray.empty, .bool false]) := Lib.hid (by rw [G.out, F.out]; rfl)
        have C1 := Lib.hid c1
        have C2 := Lib.hid c2
        clear hn hw hw' c1 c2 h
        go_enter Try.func44, Try.ntmps44
        go_wp2_with (first | (go_at_call 79; refine c0.mono ?_; rintro e w1 ⟨rfl, hb1⟩) | (go_at_call 48; refine (C1.out _).mono ?_; rintro e w2 ⟨rfl, hb2⟩) | (go_at_call 46; refine (C2.out _).mono ?_; rintro e w3 ⟨rfl, hb3⟩))
        go_ret3
        exact ⟨by rw [G2.out]; rfl, (hb1.trans (hb2.mono hb1.size)).trans (hb3.mono (Nat.le_trans hb1.size hb2.size))⟩
    · have hn' : isN x.data.toList = false := by simpa using hn
      rw [hn'] at c1 F
      have G2 : Hid (sp = .tuple #[.string ByteArray.empty, .string ByteArray.empty, .bool false]) := Lib.hid (by rw [G.out, F.out]; rfl)
      have C1 := Lib.hid c1
      clear hn hn' c1 c2 h
      go_enter Try.func44, Try.ntmps44
      go_wp2_with (first | (go_at_call 79; refine c0.mono ?_; rintro e w1 ⟨rfl, hb1⟩) | (go_at_call 48; refine (C1.out _).mono ?_; rintro e w2 ⟨rfl, hb2⟩))
      go_ret3
      exact ⟨by rw [G2.out]; rfl, hb1.trans (hb2.mono hb1.size)⟩
  · have c0 := cut_no s w h
    have G2 : Hid (splitV s = .tuple #[.string ByteArray.empty, .string ByteArray.empty, .bool false]) := Lib.hid (by
      unfold splitV splitOk; rw [decide_eq_false (by rw [bsize]; exact h)]; rfl)
    clear h
    generalize splitV s = sp at *
    go_enter Try.func44, Try.ntmps44
    go_wp2_with (go_at_call 79; refine c0.mono ?_; rintro e w1 ⟨rfl, hb1⟩)
    go_ret3
    exact ⟨by rw [G2.out]; rfl, hb1⟩
end Go.Proofs.Ytjfconddkfihcaa.Tk
end

section
/- What a query needs. No program. -/
namespace Go.Proofs.Ytjfconddkfihcaa.Qy
open Go.RowKit Go.Proofs.Ytjfconddkfihcaa

/-- One more, once. -/
def add1 (l : List ByteArray) (t : ByteArray) : List ByteArray := if Lib.containsS l t = true then l else l ++ [t]
def addL (l ts : List ByteArray) : List ByteArray := ts.foldl add1 l
theorem addL_nil (l : List ByteArray) : addL l [] = l := rfl
theorem addL_one (l : List ByteArray) (t : ByteArray) : addL l [t] = add1 l t := rfl
theorem addL_append (l a b : List ByteArray) : addL l (a ++ b) = addL (addL l a) b := List.foldl_append
theorem addL_take (l ts : List ByteArray) (k : Nat) (h : k < ts.length) : addL l (ts.take (k + 1)) = add1 (addL l (ts.take k)) ts[k] := by
  rw [List.take_succ_eq_append_getElem h, addL_append]; rfl
theorem add1_len (l : List ByteArray) (t : ByteArray) : (add1 l t).length ≤ l.length + 1 ∧ l.length ≤ (add1 l t).length := by
  unfold add1; split <;> simp
theorem addL_len (ts : List ByteArray) : ∀ l, (addL l ts).length ≤ l.length + ts.length := by
  induction ts with
  | nil => intro l; simp [addL]
  | cons t r ih =>
    intro l
    have h1 := ih (add1 l t)
    have h2 := (add1_len l t).1
    have h3 : addL l (t :: r) = addL (add1 l t) r := rfl
    rw [h3, List.length_cons]
    omega
theorem mem_add1 (l : List ByteArray) (t x : ByteArray) : x ∈ add1 l t ↔ x ∈ l ∨ x = t := by
  unfold add1
  by_cases h : Lib.containsS l t = true
  · rw [if_pos h]
    have := (Lib.containsS_iff l t).1 h
    constructor
    · exact .inl
    · rintro (h | rfl) <;> assumption
  · rw [if_neg h]; simp
theorem mem_addL (ts : List ByteArray) : ∀ l x, x ∈ addL l ts ↔ x ∈ l ∨ x ∈ ts := by
  induction ts with
  | nil => intro l x; simp [addL]
  | cons t r ih =>
    intro l x
    have h3 : addL l (t :: r) = addL (add1 l t) r := rfl
    rw [h3, ih, mem_add1, List.mem_cons, or_assoc]

def termL (nm w : ByteArray) : List ByteArray := if Tk.termOk nm w = true then [Tk.termV nm w] else []
def termsL (nm : ByteArray) (ws : List ByteArray) : List ByteArray := ws.flatMap (termL nm)
theorem termsL_take (nm : ByteArray) (ws : List ByteArray) (k : Nat) (h : k < ws.length) : termsL nm (ws.take (k + 1)) = termsL nm (ws.take k) ++ termL nm ws[k] := by
  unfold termsL
  rw [List.take_succ_eq_append_getElem h, List.flatMap_append]
  simp
theorem termL_len (nm w : ByteArray) : (termL nm w).length ≤ 1 := by unfold termL; split <;> simp
theorem termsL_len (nm : ByteArray) : ∀ ws, (termsL nm ws).length ≤ ws.length
  | [] => by simp [termsL]
  | w :: r => by
    have h := termsL_len nm r
    have h1 := termL_len nm w
    have h2 : termsL nm (w :: r) = termL nm w ++ termsL nm r := by simp [termsL]
    rw [h2, List.length_append, List.length_cons]
    omega
mutual
/-- What a query needs. -/
def needs : Q → List ByteArray
  | .mk k nm ws l => if k = 4 ∨ (k = 2 ∧ ws.length = 1) then addL [] (termsL nm ws) else if k = 5 then needsIn [] l else []
def needsIn (acc : List ByteArray) : List Q → List ByteArray
  | [] => acc
  | q :: l => needsIn (addL acc (needs q)) l
end
theorem needsIn_eq : ∀ (l : List Q) acc, needsIn acc l = l.foldl (fun a q => addL a (needs q)) acc
  | [], acc => by simp [needsIn]
  | q :: l, acc => by rw [needsIn, needsIn_eq l]; rfl
theorem needsIn_take (l : List Q) (acc : List ByteArray) (k : Nat) (h : k < l.length) : needsIn acc (l.take (k + 1)) = addL (needsIn acc (l.take k)) (needs l[k]) := by
  rw [needsIn_eq, needsIn_eq, List.take_succ_eq_append_getElem h, List.foldl_append]; rfl
theorem needs_eq (k : Int) (nm : ByteArray) (ws : List ByteArray) (l : List Q) : needs (.mk k nm ws l) = if k = 4 ∨ (k = 2 ∧ ws.length = 1) then addL [] (termsL nm ws) else if k = 5 then needsIn [] l else [] := by rw [needs]
mutual
/-- How large a query is. -/
def wq : Q → Nat
  | .mk _ _ ws l => 1 + ws.length + wqs l
def wqs : List Q → Nat
  | [] => 0
  | q :: l => wq q + wqs l
end
theorem wq_eq (k : Int) (nm : ByteArray) (ws : List ByteArray) (l : List Q) : wq (.mk k nm ws l) = 1 + ws.length + wqs l := by rw [wq]
theorem wqs_append : ∀ a b, wqs (a ++ b) = wqs a + wqs b
  | [], b => by simp [wqs]
  | q :: a, b => by rw [List.cons_append, wqs, wqs, wqs_append a b]; omega
theorem wqs_take (l : List Q) (k : Nat) (h : k < l.length) : wqs (l.take (k + 1)) = wqs (l.take k) + wq l[k] := by
  rw [List.take_succ_eq_append_getElem h, wqs_append]
  simp [wqs]
theorem wqs_take_le (l : List Q) (k : Nat) : wqs (l.take k) ≤ wqs l := by
  have h := wqs_append (l.take k) (l.drop k)
  rw [List.take_append_drop] at h
  omega
theorem wqs_mem : ∀ (l : List Q) (q : Q), q ∈ l → wq q ≤ wqs l
  | x :: l, q, h => by
    rw [wqs]
    rcases List.mem_cons.1 h with rfl | h
    · omega
    · have := wqs_mem l q h
      omega
theorem wqs_pos : ∀ (l : List Q), l.length ≤ wqs l
  | [] => by simp [wqs]
  | .mk k nm ws r :: l => by
    have := wqs_pos l
    rw [wqs, wq, List.length_cons]
    omega
/-- Not more terms than it is large. -/
theorem needsIn_len : ∀ (l : List Q) (acc : List ByteArray), (∀ q ∈ l, (needs q).length ≤ wq q) → (needsIn acc l).length ≤ acc.length + wqs l
  | [], acc, _ => by simp [needsIn, wqs]
  | q :: l, acc, h => by
    have h1 := needsIn_len l (addL acc (needs q)) (fun x hx => h x (List.mem_cons_of_mem _ hx))
    have h2 := addL_len (needs q) acc
    have h3 := h q (by simp)
    rw [needsIn, wqs]
    omega
theorem needs_len : ∀ q, (needs q).length ≤ wq q := by
  refine Q.ind (fun k nm ws l ih => ?_)
  rw [needs_eq, wq_eq]
  split
  · have h1 := addL_len (termsL nm ws) []
    have h2 := termsL_len nm ws
    simp only [List.length_nil] at h1
    omega
  · split
    · have h1 := needsIn_len l [] ih
      simp only [List.length_nil] at h1
      omega
    · simp
end Go.Proofs.Ytjfconddkfihcaa.Qy
end

section
/- What a query marks: plain. No program. -/
namespace Go.Proofs.Ytjfconddkfihcaa.Mk
open Go.RowKit Go.Proofs.Ytjfconddkfihcaa Go.Proofs.Ytjfconddkfihcaa.Ut Go.Proofs.Ytjfconddkfihcaa.Qy Go.Maps

/-- Does a leaf mark the i-th word? -/
def leafM (k : Int) (ws : List ByteArray) (T : List (List UInt8)) (i : Nat) : Bool :=
  if k = 3 then (match ws with | [p] => (T[i]?).any (begins · p) | _ => false)
  else if k = 2 ∧ ws.length ≠ 1 then false else (phr T ws).any fun f => decide (f ≤ i) && decide (i < f + ws.length)
mutual
/-- Does a query mark the i-th word? -/
def markB (name : ByteArray) (T : List (List UInt8)) (i : Nat) : Q → Bool
  | .mk k nm ws l => if k = 2 ∨ k = 3 ∨ k = 4 then nm.data.toList == name.data.toList && leafM k ws T i else if k = 5 ∨ k = 6 then markSome name T i l else false
def markSome (name : ByteArray) (T : List (List UInt8)) (i : Nat) : List Q → Bool
  | [] => false
  | q :: l => markB name T i q || markSome name T i l
end
theorem markSome_eq (name : ByteArray) (T : List (List UInt8)) (i : Nat) : ∀ l, markSome name T i l = l.any (markB name T i)
  | [] => by simp [markSome]
  | q :: l => by simp [markSome, markSome_eq name T i l]
theorem markB_eq (name : ByteArray) (T : List (List UInt8)) (i : Nat) (k : Int) (nm : ByteArray) (ws : List ByteArray) (l : List Q) :
    markB name T i (.mk k nm ws l) = if k = 2 ∨ k = 3 ∨ k = 4 then nm.data.toList == name.data.toList && leafM k ws T i else if k = 5 ∨ k = 6 then l.any (markB name T i) else false := by
  rw [markB, markSome_eq]
/-- A set of places. -/
def Holds {H : Type} (D : DataW H) (f : Nat → Bool) : Prop := (∀ i : Nat, Maps.has D (.int .i64 (i : Nat)) = f i) ∧ ∀ kl, Maps.has D kl = true → ∃ i : Nat, kl = .int .i64 (i : Nat)
theorem Holds.none {H : Type} : Holds (H := H) (.map []) (fun _ => false) := ⟨fun i => by simp [Maps.has], fun kl h => by simp [Maps.has] at h⟩
theorem Holds.put {H : Type} {D : DataW H} {f : Nat → Bool} (h : Holds D f) (hm : IsMap D) (k : Nat) (d : DataW H) : Holds (D.put (.int .i64 (k : Nat)) d) (fun i => f i || i == k) := by
  refine ⟨fun i => ?_, fun kl hk => ?_⟩
  · by_cases e : i = k
    · subst e
      rw [has_put_same hm (by simp [WideAt.IsKeyLit])]
      simp
    · rw [has_put_other (fun h => by injection h with _ h; omega), h.1 i]
      simp [e]
  · by_cases e : kl = .int .i64 (k : Nat)
    · exact ⟨k, e⟩
    · rw [has_put_other e] at hk
      exact h.2 kl hk
theorem Holds.congr {H : Type} {D : DataW H} {f g : Nat → Bool} (h : Holds D f) (e : ∀ i, f i = g i) : Holds D g := ⟨fun i => (h.1 i).trans (e i), h.2⟩
end Go.Proofs.Ytjfconddkfihcaa.Mk
end

section
/- token.Phrase: the walk. -/
namespace Go.Proofs.Ytjfconddkfihcaa.Qy
open Go.RowKit Go.Proofs.Ytjfconddkfihcaa Go.Proofs.Ytjfconddkfihcaa.Ut Go.Proofs.Ytjfconddkfihcaa.Tk
set_option maxRecDepth 20000

/-- Integers of the call's own. -/
def nv (l : List Nat) : List Value := l.map fun n : Nat => Value.int .i64 (n : Int)
theorem nv_snoc (l : List Nat) (n : Nat) : nv (l ++ [n]) = nv l ++ [.int .i64 (n : Int)] := by simp [nv]
structure Ints (w wr : World) (v : Value) (l : List Nat) : Prop where
  own : wr.ownsRow w.heap.size 3 1 v l.length (nv l)
  bel : Below w.heap.size w wr
theorem Ints.below {w wr w2 : World} {v : Value} {l : List Nat} (h : Ints w wr v l) (hb : Below wr.heap.size wr w2) : Ints w w2 v l :=
  ⟨h.own.kept (grow_of_below hb none) (by cases hv : v.ownBlock <;> simp), h.bel.trans (hb.mono h.bel.size)⟩
theorem Ints.put {w wr w2 : World} {v v' : Value} {l : List Nat} {n : Nat} (h : Ints w wr v l) (hp : w2.ownsRow w.heap.size 3 1 v' (l.length + 1) (nv l ++ [.int .i64 (n : Int)])) (hg : wr.grownBy w2 v.ownBlock) : Ints w w2 v' (l ++ [n]) := by
  refine ⟨?_, h.bel.grown hg h.bel.size (fun k hk => (h.own.lt k hk).1)⟩
  rw [nv_snoc, List.length_append]
  exact hp
theorem Ints.start (w : World) : Ints w w (.slice none 0 0) [] := ⟨World.ownsRow_nil _ _ _ _, Below.refl _ _⟩
def IntPost (w : World) (l : List Nat) (e : Ending) (w' : World) : Prop := ∃ v, e = .returned v ∧ Ints w w' v l

set_option maxHeartbeats 400000 in
theorem behind_any (k j : Nat) (h : k + j < 4611686018427387904) (w : World) : Calls Try.prog 121 #[.int .i64 (k : Int), .int .i64 ((k + j : Nat) : Int), .int .i64 (j : Int)] w fun e w' => e = .returned (.bool true) ∧ w = w' := by
  have h1 : (k : Int) ≤ ((k + j : Nat) : Int) := by omega
  have h0 : (0 : Int) ≤ (k : Int) := by omega
  have h2 : (0 : Int) ≤ (j : Int) := by omega
  have h3 : ((k + j : Nat) : Int) - (k : Int) = (j : Int) := by omega
  have h4 : ((k + j : Nat) : Int) < 4611686018427387904 := by omega
  have h5 : (j : Int) < 4611686018427387904 := by omega
  have h6 : (k : Int) < 4611686018427387904 := by omega
  generalize ((k + j : Nat) : Int) = a at *
  generalize (k : Int) = b at *
  generalize (j : Int) = c at *
  go_enter Try.func121, Try.ntmps121
  go_wp2
  go_ret
  exact ⟨by simp, rfl⟩

set_option maxHeartbeats 1600000 in
theorem phrase_any (TA : Option Addr) (n tc : Nat) (T : List (List UInt8)) (WA : Option Addr) (m wc : Nat) (ws : List ByteArray) (w : World) (hT : Reads w w.heap.size 2 TA n (tokC (placed T))) (hn : T.length = n) (hn2 : n ≤ 1000000)
    (hW : Reads w w.heap.size 1 WA m (ws.map Value.string)) (hm : ws.length = m) (hm2 : m ≤ 8796093021952) :
    Calls Try.prog 96 #[.slice TA n tc, .slice WA m wc] w (IntPost w (phr T ws)) := by
  obtain ⟨i0, hi0, hz0, hz1, hz2⟩ := info_parts int_info2
  have HT := Lib.hid hT
  have HW := Lib.hid hW
  clear hT hW
  by_cases h0 : m = 0
  · have hws : ws = [] := List.length_eq_zero_iff.1 (by omega)
    have Fin : Hid (phr T ws = []) := Lib.hid (by unfold phr; rw [if_pos hws])
    have h0' : ((m : Int) == 0) = true := by rw [beq_iff_eq]; omega
    clear h0 hws hm
    go_enter Try.func96, Try.ntmps96
    go_wp2_with fail
    go_step3
    go_wp2
    rw [Exit.noGoto_ret]
    go_ret
    exact ⟨_, rfl, by rw [Fin.out]; exact Ints.start w⟩
  · have hws : ws ≠ [] := fun e => h0 (by rw [← hm, e]; rfl)
    have Fin : Hid (phr T ws = phrTo T ws n) := Lib.hid (by unfold phr; rw [if_neg hws, hn])
    have h0' : ((m : Int) == 0) = false := by rw [beq_eq_false_iff_ne]; omega
    have Hn := Lib.hid hn
    have Hm := Lib.hid hm
    clear h0 hws hm hn
    go_enter Try.func96, Try.ntmps96
    go_wp2_with fail
    go_step3
    go_wp2_with fail
    go_step3
    go_wp2_with fail
    go_loopw [5, 16] (fun v i wr => ∃ k : Nat, k ≤ n ∧ i = .int .i64 k ∧ Ints w wr v (phrTo T ws k)) (fun _ i _ => n - (intOf i).toNat)
    case atStart => exact ⟨0, Nat.zero_le _, rfl, Ints.start w⟩
    case round =>
      obtain ⟨k, hk, rfl, hI⟩ := hrel
      by_cases hlt : k < n
      · obtain ⟨tb, tq, rfl, htb, hc1, hc2⟩ := toks_at HT.out Hn.out (k := k) (by rw [Hn.out]; exact hlt)
        have hd1 := (hI.bel.cell (p := ⟨tb, tq + k * 2, none⟩) htb).trans hc1
        have hd2 := (hI.bel.cell (p := ⟨tb, tq + k * 2 + 1, none⟩) htb).trans hc2
        have HI := Lib.hid hI
        have hz := hI.bel.size
        have hpl := phrTo_len T ws k
        clear hI hc1 hc2
        by_cases hs : n - k < m
        · have hs' : (n : Int) - (k : Int) < (m : Int) := by omega
          have Fin2 : Hid (phrTo T ws n = phrTo T ws k) := Lib.hid (phrTo_short T ws k (by rw [Hn.out, Hm.out]; exact hs) n (by omega))
          have HI2 := Lib.hid (HI.out.below ((Below.refl _ _).alloc (Nat.le_refl _) (.cells #[.string (str (T[k]'(by rw [Hn.out]; exact hlt))), .int .i64 (k : Int)] 74)))
          generalize (str (T[k]'(by rw [Hn.out]; exact hlt))) = tk at *
          clear hs
          go_wp2
          rw [Exit.noGoto_ret]
          go_ret
          exact ⟨_, rfl, by rw [Fin.out, Fin2.out]; exact HI2.out⟩
        · have hs' : (m : Int) ≤ (n : Int) - (k : Int) := by omega
          have HB7 := Lib.hid ((Blk.new wr 74 #[.string (str (T[k]'(by rw [Hn.out]; exact hlt))), .int .i64 (k : Int)]))
          generalize (str (T[k]'(by rw [Hn.out]; exact hlt))) = tk at *
          obtain ⟨wo, rfl⟩ : ∃ wo : World, wo = wr := ⟨_, rfl⟩
          have hmn : m ≤ n - k := by omega
          clear hs
          go_wp2_with fail
          go_loopw [30] (fun i wq => ∃ j : Nat, j ≤ m ∧ i = .int .i64 j ∧ standsTo T ws k j = true ∧ Below (wo.alloc (.cells #[.string tk, .int .i64 (k : Int)] 74)).heap.size (wo.alloc (.cells #[.string tk, .int .i64 (k : Int)] 74)) wq) (fun i _ => m - (intOf i).toNat)
          case atStart => exact ⟨0, Nat.zero_le _, rfl, standsTo_zero _ _ _, Below.refl _ _⟩
          case round =>
            obtain ⟨j, hj, rfl, hst, hbq⟩ := hrel
            have HIq := Lib.hid ((HI.out.below ((Below.refl _ _).alloc (Nat.le_refl _) (.cells #[.string tk, .int .i64 (k : Int)] 74))).below hbq)
            have h7 := HB7.out.below hbq (by simp)
            have h7a := h7.cell 0
            have h7b := h7.cell 1
            simp at h7a h7b
            have Hbq := Lib.hid hbq
            have Hst := Lib.hid hst
            have hzq := hbq.size
            simp at hzq
            clear h7 hbq hst
            by_cases hjm : j < m
            · obtain ⟨xb, xo, e1, hxb, hx1, hx2⟩ := toks_at HT.out Hn.out (k := k + j) (by rw [Hn.out]; omega)
              injection e1 with e1
              injection e1 with e1 e2
              subst e1 e2
              obtain ⟨ab, ao, hkl, rfl, hab, hcw⟩ := HW.out.at_map hjm
              have hbw := HIq.out.bel
              have hy1 := (hbw.cell (p := ⟨tb, tq + (k + j) * 2, none⟩) htb).trans hx1
              have hy2 := (hbw.cell (p := ⟨tb, tq + (k + j) * 2 + 1, none⟩) htb).trans hx2
              have hyw := (hbw.cell (p := ⟨ab, ao + j, none⟩) hab).trans hcw
              have hss := standsTo_succ T ws k j (by rw [Hn.out]; omega) (by rw [Hm.out]; omega)
              have hbe := str_beq (T[k + j]'(by rw [Hn.out]; omega)) ws[j]
              rw [Hst.out, Bool.true_and, ← hbe] at hss
              have Hss := Lib.hid hss
              have hi0 : (0 : Int) ≤ (k : Int) + (j : Int) := by omega
              have hi1 : (k : Int) + (j : Int) < (n : Int) := by omega
              have hi2 : ((k : Int) + (j : Int)).toNat = k + j := by omega
              have Hno : Hid (standsTo T ws k (j + 1) = false → phrTo T ws (k + 1) = phrTo T ws k) := Lib.hid (fun e => by
                rw [phrTo_succ, standsTo_no T ws k (j + 1) (by rw [Hm.out]; omega) e]; simp)
              clear hbw hx1 hx2 hcw hss hbe
              generalize (str (T[k + j]'(by rw [Hn.out]; omega))) = x at *
              generalize ws[j] = y at *
              by_cases hxy : (x.toList == y.toList) = true
              · have hxy' : (x.toList != y.toList) = false := by rw [bne, hxy]; rfl
                have Hs2 : Hid (standsTo T ws k (j + 1) = true) := Lib.hid (by rw [Hss.out, hxy])
                have c1 := fun wx => behind_any k j (by omega) wx
                have h7c := fun o => (World.cell?_alloc_lt wr o ⟨wo.heap.size, 1, none⟩ (by show wo.heap.size < _; omega)).trans h7b
                have hbx := Hbq.out.alloc Hbq.out.size (.cells #[.string x, .int .i64 ((k + j : Nat) : Int)] 74)
                have Hbx := Lib.hid hbx
                have C1 := Lib.hid c1
                clear hbx c1
                have e1 : ((k + j : Nat) : Int) = (k : Int) + (j : Int) := by omega
                rw [e1] at C1
                have E1 := Lib.hid e1
                clear e1
                go_wp2_with (go_at_call 121; refine (C1.out _).mono ?_; rintro e w' ⟨rfl, rfl⟩)
                go_roundw
                case rel => exact ⟨j + 1, by omega, by go_num, Hs2.out, Hbx.out⟩
                case measure => simp [intOf]; omega
              · have hxy' : (x.toList != y.toList) = true := by rw [bne, Bool.eq_false_iff.2 hxy]; rfl
                have Hs2 := Lib.hid (Hno.out (by rw [Hss.out]; exact Bool.eq_false_iff.2 hxy))
                have hxf : (x.toList == y.toList) = false := Bool.eq_false_iff.2 hxy
                have HIx := Lib.hid (HIq.out.below ((Below.refl _ _).alloc (Nat.le_refl _) (.cells #[.string x, .int .i64 ((k + j : Nat) : Int)] 74)))
                clear hxy
                go_wp2
                go_roundw
                case rel => exact ⟨k + 1, by omega, by go_num, by rw [Hs2.out]; exact HIx.out⟩
                case measure => simp [intOf]; omega
            · obtain rfl : j = m := by omega
              have hst2 := Hst.out
              have hmm := Hm.out
              subst hmm
              rw [standsTo_all] at hst2
              have Hph : Hid (phrTo T ws (k + 1) = phrTo T ws k ++ [k]) := Lib.hid (by rw [phrTo_succ, hst2]; rfl)
              have hown := HIq.out.own
              have hbsz := HIq.out.bel.size
              clear hst2
              generalize phrTo T ws k = P at *
              go_wp2_with (at_builtin; refine wpList_append_own _ rfl _ _ 111 rfl w.heap.size 3 i0 _ 1 8 Try.underlying111 hi0 hz0 hz1 hz2 rfl (by decide) _ _ _ rfl (hown.alloc _) ⟨wr.heap.size, 0, none⟩ 1 1 [.int .i64 (k : Int)] rfl rfl ?d1 ?d2 ?d3 ?d4 ?d5 ?_)
              case d2 => first | rfl | (intro u hu; simp at hu; subst hu; rfl)
              case d3 => unfold maxLen; omega
              case d4 => omega
              case d5 => first | omega | (simp; omega)
              intro v' w5 hown5 hg5 _
              have HI5 := Lib.hid ((HIq.out.below ((Below.refl _ _).alloc (Nat.le_refl _) _)).put hown5 hg5)
              clear hown5 hg5 hown
              go_wp2
              go_roundw
              case rel => exact ⟨k + 1, by omega, by go_num, by rw [Hph.out]; exact HI5.out⟩
              case measure => simp [intOf]; omega
      · obtain rfl : k = n := by omega
        have HI := Lib.hid hI
        clear hI
        go_wp2
        rw [Exit.noGoto_ret]
        go_ret
        exact ⟨_, rfl, by rw [Fin.out]; exact HI.out⟩
end Go.Proofs.Ytjfconddkfihcaa.Qy
end
