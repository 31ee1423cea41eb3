/- The page's example of queries' texts: plain. -/
import Derived.BigQuiet
import Derived.OwnWalk
import Derived.Laws.ResultCell
import Derived.Deep.QuietTactic
import Derived.Test.YtlfpfkallgkjdaaGreatPkAlertManyRow15
import Derived.Test.YtlfpfkallgkjdaaGreatPkAlertManyRow22
import Derived.Test.YtlfpfkallgkjdaaGreatPkAlertManyRow1
import Derived.Test.YtlfpfkallgkjdaaGreatPkAlertManyRow35
import Derived.Test.YtlfpfkallgkjdaaGreatShelfPk
import Derived.Test.YtlfpfkallgkjdaaGreatPkAlertManyRow11
import Derived.Test.YtlfpfkallgkjdaaGreatPkAlertManyRow28
import Derived.Test.YtlfpfkallgkjdaaGreatPkAlertManyRow37
section
namespace Go.Proofs.YtlfpfkallgkjdaaGreat.Qp
open Go.RowKit Go.Proofs.YtlfpfkallgkjdaaGreat Go.Proofs.YtlfpfkallgkjdaaGreat.Ut Go.Proofs.YtlfpfkallgkjdaaGreat.Tk Go.Proofs.YtlfpfkallgkjdaaGreat.Qy

def exA : P := [97]
def exT1 : P := [97, 32, 79, 82, 32, 98, 32, 99]
def exT2 : P := [97, 32, 79, 82]
def tq (c : UInt8) : Q := .mk 2 (str msg) [str [c]] []
def exQ1 : Q := .mk 6 ByteArray.empty [] [tq 97, .mk 5 ByteArray.empty [] [tq 98, tq 99]]
theorem p1 : pieces exT1 = some [[97], OR, [98], [99]] := by decide
theorem p2 : pieces exT2 = some [[97], OR] := by decide
theorem w97 : words [97] = [[97]] := by decide +kernel
theorem w98 : words [98] = [[98]] := by decide +kernel
theorem w99 : words [99] = [[99]] := by decide +kernel
theorem leaf_one (c : UInt8) (h1 : c ≠ 42) (h2 : c ≠ 34) (h3 : c ≠ 58) (hw : words [c] = [[c]]) : leafQ [c] = some (tq c) := by
  have hn : named [c] = false := by
    have e : sepAt [c] = 1 := by
      have a1 : (c == 58) = false := beq_eq_false_iff_ne.2 h3
      have a2 : (c == 34) = false := beq_eq_false_iff_ne.2 h2
      unfold sepAt
      simp [List.findIdx_cons, a1, a2]
    unfold named
    rw [e]; rfl
  have e1 : nameOf [c] = msg := by unfold nameOf; rw [hn]; rfl
  have e2 : restOf [c] = [c] := by unfold restOf; rw [hn]; rfl
  unfold leafQ
  rw [e1, e2, if_neg (by simpa using h1), if_neg (by
    rintro (h | h)
    · exact absurd h (by decide)
    · cases h), if_neg (by simpa using h2), if_neg (by simpa using h1), hw]
  rfl
theorem lf97 : leafQ [97] = some (tq 97) := leaf_one 97 (by decide) (by decide) (by decide) w97
theorem lf98 : leafQ [98] = some (tq 98) := leaf_one 98 (by decide) (by decide) (by decide) w98
theorem lf99 : leafQ [99] = some (tq 99) := leaf_one 99 (by decide) (by decide) (by decide) w99
theorem part_a (c : UInt8) (q : Q) (t : List P) (hw : word1 [c] = true) (h : leafQ [c] = some q) : R .part ([c] :: t) (some (q, t)) := by
  have := R.pleaf (t := t) hw
  rw [h] at this
  exact this
theorem r1 : R (.or []) [[97], OR, [98], [99]] (some (exQ1, [])) := by
  refine .or1 (q := tq 97) (r := [OR, [98], [99]]) (.and1 (part_a 97 _ _ (by decide) lf97) (.andE (by decide))) ?_
  refine .orO rfl ?_
  refine .or1 (q := .mk 5 ByteArray.empty [] [tq 98, tq 99]) (r := []) (.and1 (part_a 98 _ _ (by decide) lf98) (.andN (by decide) (by decide) (.and1 (part_a 99 _ _ (by decide) lf99) (.andE rfl)))) ?_
  exact .orE (by simp)
theorem r2 : R (.or []) [[97], OR] none := by
  refine .or1 (q := tq 97) (r := [OR]) (.and1 (part_a 97 _ _ (by decide) lf97) (.andE (by decide))) ?_
  exact .orO rfl (.or0 (.and0 .pnil))
theorem many1 : manyB exQ1 = false := by
  simp [exQ1, tq, manyB_eq, manyL]
theorem depth1 : depthN exQ1 ≤ 16 := by
  simp [exQ1, tq, depthN_eq, depthL]
theorem prs1 : PrsR exT1 0 (some exQ1) := .ok (by decide) p1 r1 many1 depth1
theorem prs2 : PrsR exT2 170 none := .bad (by decide) p2 r2
theorem tq_w (c : UInt8) (K : Nat) : QW (K + 1) (tq c) := .mk (by simp) (by simp) (by simp)
theorem exQ1_w : QW 3 exQ1 := .mk (by simp) (by simp) fun x hx => by
  simp only [List.mem_cons, List.not_mem_nil, or_false] at hx
  rcases hx with rfl | rfl
  · exact tq_w 97 1
  · exact .mk (by simp) (by simp) fun x hx => by
      simp only [List.mem_cons, List.not_mem_nil, or_false] at hx
      rcases hx with rfl | rfl
      · exact tq_w 98 0
      · exact tq_w 99 0
end Go.Proofs.YtlfpfkallgkjdaaGreat.Qp
end

section
/- The page's example of kept queries: plain. (No program in sight.) -/
namespace Go.Proofs.YtlfpfkallgkjdaaGreat.Al
open Go.RowKit Go.Proofs.YtlfpfkallgkjdaaGreat Go.Proofs.YtlfpfkallgkjdaaGreat.Ut Go.Proofs.YtlfpfkallgkjdaaGreat.Tk Go.Proofs.YtlfpfkallgkjdaaGreat.Qy Go.Proofs.YtlfpfkallgkjdaaGreat.Qp
set_option linter.unusedVariables false
set_option linter.unusedSimpArgs false

def tDisk : P := [100, 105, 115, 107]
def tFull : P := [102, 117, 108, 108]
def tA : P := [100, 105, 115, 107, 32, 102, 117, 108, 108]
def tB : P := [78, 79, 84, 32, 100, 105, 115, 107]
def sA : ByteArray := ⟨#[100, 105, 115, 107, 32, 102, 117, 108, 108]⟩
def sB : ByteArray := ⟨#[78, 79, 84, 32, 100, 105, 115, 107]⟩
def oneW (s : P) : Q := .mk 2 (str msg) [str s] []
def qA : Q := .mk 5 ByteArray.empty [] [oneW tDisk, oneW tFull]
def qB : Q := notQ (oneW tDisk)
theorem leaf_w (s : P) (h1 : s ≠ [42]) (h2 : s ≠ []) (hn : named s = false) (h3 : s.head? ≠ some 34) (h4 : s.getLast? ≠ some 42) (hw : words s = [s]) : leafQ s = some (oneW s) := by
  have e1 : nameOf s = msg := by unfold nameOf; rw [hn]; rfl
  have e2 : restOf s = s := by unfold restOf; rw [hn]; rfl
  unfold leafQ
  rw [e1, e2, if_neg h1, if_neg (by
    rintro (h | h)
    · exact absurd h (by decide)
    · exact h2 h), if_neg h3, if_neg h4, hw]
  rfl
theorem lfDisk : leafQ tDisk = some (oneW tDisk) := leaf_w _ (by decide) (by decide) (by decide) (by decide) (by decide) (by decide +kernel)
theorem lfFull : leafQ tFull = some (oneW tFull) := leaf_w _ (by decide) (by decide) (by decide) (by decide) (by decide) (by decide +kernel)
theorem part_w (s : P) (q : Q) (t : List P) (hw : word1 s = true) (h : leafQ s = some q) : R .part (s :: t) (some (q, t)) := by
  have := R.pleaf (t := t) hw
  rw [h] at this
  exact this
theorem rA : R (.or []) [tDisk, tFull] (some (qA, [])) := by
  refine .or1 (q := qA) (r := []) (.and1 (part_w tDisk _ _ (by decide) lfDisk) (.andN (by decide) (by decide) (.and1 (part_w tFull _ _ (by decide) lfFull) (.andE rfl)))) ?_
  exact .orE (by simp)
theorem rB : R (.or []) [NOT, tDisk] (some (qB, [])) := by
  have hp : R .part [NOT, tDisk] (some (qB, [])) := R.pnot (o := some (oneW tDisk, [])) rfl (part_w tDisk _ _ (by decide) lfDisk)
  refine .or1 (q := qB) (r := []) (.and1 hp (.andE rfl)) ?_
  exact .orE (by simp)
theorem pA : pieces tA = some [tDisk, tFull] := by decide
theorem pB : pieces tB = some [NOT, tDisk] := by decide
theorem prsA : PrsR sA.data.toList 0 (some qA) := .ok (by decide) pA rA (by simp [qA, oneW, manyB_eq, manyL]) (by simp [qA, oneW, depthN_eq, depthL])
theorem prsB : PrsR sB.data.toList 0 (some qB) := .ok (by decide) pB rB (by simp [qB, notQ, oneW, manyB_eq, manyL]) (by simp [qB, notQ, oneW, depthN_eq, depthL])
def exM : ByteArray := ⟨#[109, 115, 103]⟩
def sE1 : ByteArray := ⟨#[100, 105, 115, 107, 32, 105, 115, 32, 102, 117, 108, 108]⟩
def sE2 : ByteArray := ⟨#[108, 111, 103, 105, 110]⟩
theorem lb (s : P) (fs : List (ByteArray × ByteArray)) : matchB fs (oneW s) = leafB 2 (str msg) [str s] fs := by
  unfold oneW
  rw [matchB_eq]
  simp
theorem mA1 : matchB [(exM, sE1)] qA = true := by
  unfold qA
  rw [matchB_eq]
  have h1 : leafB 2 (str msg) [str tDisk] [(exM, sE1)] = true := by decide +kernel
  have h2 : leafB 2 (str msg) [str tFull] [(exM, sE1)] = true := by decide +kernel
  simp [lb, h1, h2]
theorem mA2 : matchB [(exM, sE2)] qA = false := by
  unfold qA
  rw [matchB_eq]
  have h1 : leafB 2 (str msg) [str tDisk] [(exM, sE2)] = false := by decide +kernel
  simp [lb, h1]
theorem mB1 : matchB [(exM, sE1)] qB = false := by
  unfold qB notQ
  rw [matchB_eq]
  have h1 : leafB 2 (str msg) [str tDisk] [(exM, sE1)] = true := by decide +kernel
  simp [lb, h1, matchNone]
theorem mB2 : matchB [(exM, sE2)] qB = true := by
  unfold qB notQ
  rw [matchB_eq]
  have h1 : leafB 2 (str msg) [str tDisk] [(exM, sE2)] = false := by decide +kernel
  simp [lb, h1, matchNone]
def kA : Kp := ⟨sA, qA, needs qA⟩
def kB : Kp := ⟨sB, qB, needs qB⟩
theorem l1 : put [] 3 kA = [(3, kA)] := by simp [put, pos, get]
theorem l2 : put [(3, kA)] 5 kB = [(3, kA), (5, kB)] := by simp [put, pos, get]
theorem a1 : (([(3, kA), (5, kB)] : List (Int × Kp)).filter (fun x => matchB [(exM, sE1)] x.2.q)).map (·.1) = [3] := by simp [kA, kB, mA1, mB1]
theorem a2 : (([(3, kA), (5, kB)] : List (Int × Kp)).filter (fun x => matchB [(exM, sE2)] x.2.q)).map (·.1) = [5] := by simp [kA, kB, mA2, mB2]
end Go.Proofs.YtlfpfkallgkjdaaGreat.Al
end

section
/- SLICED by slice.py -/
/- memidx: Len, Size, Times, Seqs: the walks. -/
namespace Go.Proofs.YtlfpfkallgkjdaaGreat.Mx
open Go.RowKit Go.Proofs.YtlfpfkallgkjdaaGreat Go.Proofs.YtlfpfkallgkjdaaGreat.Ut Go.Proofs.YtlfpfkallgkjdaaGreat.Tk Go.Proofs.YtlfpfkallgkjdaaGreat.Qy Go.Proofs.YtlfpfkallgkjdaaGreat.Ev Go.Proofs.YtlfpfkallgkjdaaGreat.Qp Go.Proofs.YtlfpfkallgkjdaaGreat.Mv
set_option linter.unusedVariables false
set_option linter.unusedSimpArgs false
set_option maxRecDepth 20000

section
variable {w : World} {n0 X M cn : Nat} {v : Value} {F : ByteArray → Option Value} {O : Nat → Prop} {ds : List Dc} {sz lo hi : Int} {f : ByteArray → List Po}
/-- What Times tells. -/
def timesV (ds : List Dc) (lo hi : Int) : Value := .tuple #[.int .i64 (if ds = [] then 0 else lo), .int .i64 (if ds = [] then 0 else hi), .bool (decide (ds ≠ []))]
/-- What Seqs tells. -/
def seqsV (ds : List Dc) : Value := .tuple #[.int .i64 ((ds.head?.map (·.seq)).getD 0), .int .i64 ((ds.getLast?.map (·.seq)).getD 0)]
end
end Go.Proofs.YtlfpfkallgkjdaaGreat.Mx
end

section
/- SLICED by slice.py -/
/- memidx: copied, Doc, Docs: the walks. -/
namespace Go.Proofs.YtlfpfkallgkjdaaGreat.Mx
open Go.RowKit Go.Proofs.YtlfpfkallgkjdaaGreat Go.Proofs.YtlfpfkallgkjdaaGreat.Ut Go.Proofs.YtlfpfkallgkjdaaGreat.Tk Go.Proofs.YtlfpfkallgkjdaaGreat.Qy Go.Proofs.YtlfpfkallgkjdaaGreat.Ev Go.Proofs.YtlfpfkallgkjdaaGreat.Qp Go.Proofs.YtlfpfkallgkjdaaGreat.Mv
set_option linter.unusedVariables false
set_option linter.unusedSimpArgs false
set_option maxRecDepth 20000

def CopPost (w : World) (d : Dc) (e : Ending) (w' : World) : Prop := ∃ A c, e = .returned (.agg #[.int .i64 d.seq, .int .i64 d.at_, .slice A d.fs.length c]) ∧ d.fs.length ≤ c ∧ (A = none → c = 0) ∧ w'.ownsRow w.heap.size 99 2 (.slice A d.fs.length c) d.fs.length (fldC d.fs) ∧ Below w.heap.size w w'
/-- What Docs hands back. -/
def DocsP (w : World) (ds : List Dc) (e : Ending) (w' : World) : Prop := ∃ v, e = .returned v ∧ DOwn w' w.heap.size v ds ∧ Below w.heap.size w w'
end Go.Proofs.YtlfpfkallgkjdaaGreat.Mx
end

section
/- SLICED by slice.py -/
/- memidx: Doc, Posts: the walks. -/
namespace Go.Proofs.YtlfpfkallgkjdaaGreat.Mx
open Go.RowKit Go.Proofs.YtlfpfkallgkjdaaGreat Go.Proofs.YtlfpfkallgkjdaaGreat.Ut Go.Proofs.YtlfpfkallgkjdaaGreat.Tk Go.Proofs.YtlfpfkallgkjdaaGreat.Qy Go.Proofs.YtlfpfkallgkjdaaGreat.Ev Go.Proofs.YtlfpfkallgkjdaaGreat.Qp Go.Proofs.YtlfpfkallgkjdaaGreat.Mv
set_option linter.unusedVariables false
set_option linter.unusedSimpArgs false
set_option maxRecDepth 20000

theorem results_ct {fn : Func} {p u : Tmp} {ty : TypeId} (h : fn.results = #[.cell p ty, .tmp u]) {tmps : Array Value} {P : Program} {w : World} {a : Addr} {v : Value} (ha : tmps.getD p undef = .pointer (some a)) (hl : (loadVar ty a).run P w = .ok v w) :
    (results fn tmps).run P w = .ok (.tuple #[v, tmps.getD u undef]) w := by
  rw [results_cell_tmp h, ha]
  have : (asAddr (.pointer (some a))).run P w = .ok a w := rfl
  rw [this]
  simp only [Result.andThen_ok]
  rw [hl]
  rfl
/-- What Doc hands back. -/
def DocPost (w : World) (o : Option Dc) (e : Ending) (w' : World) : Prop := match o with
  | none => e = .returned (.tuple #[.agg #[.int .i64 0, .int .i64 0, .slice none 0 0], .int .i64 5]) ∧ Below w.heap.size w w'
  | some d => ∃ A c, e = .returned (.tuple #[.agg #[.int .i64 d.seq, .int .i64 d.at_, .slice A d.fs.length c], .int .i64 0]) ∧ d.fs.length ≤ c ∧ (A = none → c = 0) ∧ Reads w' w'.heap.size 2 A d.fs.length (fldC d.fs) ∧ Below w.heap.size w w'
/-- The doc at a place. -/
def docAt (ds : List Dc) (i : Int) : Option Dc := if 0 ≤ i then ds[i.toNat]? else none
end Go.Proofs.YtlfpfkallgkjdaaGreat.Mx
end

section
/- SLICED by slice.py -/
/- (*memidx.Index).Posts: the walk (printed by gen_mxf.py). -/
namespace Go.Proofs.YtlfpfkallgkjdaaGreat.Mx
open Go.RowKit Go.Maps Go.Proofs.YtlfpfkallgkjdaaGreat Go.Proofs.YtlfpfkallgkjdaaGreat.Ut Go.Proofs.YtlfpfkallgkjdaaGreat.Tk Go.Proofs.YtlfpfkallgkjdaaGreat.Qy Go.Proofs.YtlfpfkallgkjdaaGreat.Ev Go.Proofs.YtlfpfkallgkjdaaGreat.Qp Go.Proofs.YtlfpfkallgkjdaaGreat.Mv Go.Proofs.YtlfpfkallgkjdaaGreat.Ph
set_option linter.unusedVariables false
set_option linter.unusedSimpArgs false
set_option maxRecDepth 20000

def IntsP (w : World) (ps : List Nat) (e : Ending) (w' : World) : Prop := ∃ A c, e = .returned (.slice A ps.length c) ∧ w'.ownsRow w.heap.size 3 1 (.slice A ps.length c) ps.length (nC ps) ∧ ps.length ≤ c ∧ (A = none → c = 0) ∧ Below w.heap.size w w'
end Go.Proofs.YtlfpfkallgkjdaaGreat.Mx
end

section
/- SLICED by slice.py -/
/- The document's Same at events, docs, ints, posts: at equal rows (printed by gen_mxg.py). -/
namespace Go.Proofs.YtlfpfkallgkjdaaGreat.Mx
open Go.RowKit Go.Proofs.YtlfpfkallgkjdaaGreat Go.Proofs.YtlfpfkallgkjdaaGreat.Ut Go.Proofs.YtlfpfkallgkjdaaGreat.Tk Go.Proofs.YtlfpfkallgkjdaaGreat.Qy Go.Proofs.YtlfpfkallgkjdaaGreat.Ev Go.Proofs.YtlfpfkallgkjdaaGreat.Qp Go.Proofs.YtlfpfkallgkjdaaGreat.Mv
set_option linter.unusedVariables false
set_option linter.unusedSimpArgs false
set_option maxRecDepth 20000

theorem reads_gr {w1 w2 : World} {A : Option Addr} {k n : Nat} {xs : List Value} (hb : Below w1.heap.size w1 w2) (h : Reads w1 w1.heap.size k A n xs) : Reads w2 w2.heap.size k A n xs := (h.below hb).more hb.size
theorem below_dN {B : Nat} {a w : World} (h : Below B a w) (n : Nat) : Below B a (w.drewN n) := ⟨h.os, h.tape, h.output, h.size, h.block⟩
/-- A row of docs that reads. -/
structure DocRd (w : World) (A : Option Addr) (n : Nat) (ds : List Dc) : Prop where
  ln : ds.length = n
  at_ : ∀ {i : Nat} (h : i < ds.length), ∃ b o F fn f, A = some ⟨b, o, none⟩ ∧ b < w.heap.size ∧ w.cell? ⟨b, o + i * 3, none⟩ = some (.int .i64 ds[i].seq) ∧ w.cell? ⟨b, o + i * 3 + 1, none⟩ = some (.int .i64 ds[i].at_) ∧ w.cell? ⟨b, o + i * 3 + 2, none⟩ = some (.slice F fn f) ∧ Reads w w.heap.size 2 F fn (fldC ds[i].fs) ∧ ds[i].fs.length = fn ∧ fn ≤ 8796093021952
theorem DocRd.grow {w w' : World} {A : Option Addr} {n : Nat} {ds : List Dc} (h : DocRd w A n ds) (hb : Below w.heap.size w w') : DocRd w' A n ds :=
  ⟨h.ln, fun {i} hi => by
    obtain ⟨b, o, F, fn, f, e, hlt, c0, c1, c2, r, q⟩ := h.at_ hi
    exact ⟨b, o, F, fn, f, e, Nat.lt_of_lt_of_le hlt hb.size, (hb.cell hlt).trans c0, (hb.cell hlt).trans c1, (hb.cell hlt).trans c2, reads_gr hb r, q⟩⟩
theorem DocRd.of {w : World} {R S : Nat → Prop} {A : Option Addr} {n : Nat} {ds : List Dc} (h : DocsS w R S A n ds) (hR : ∀ b, R b → b < w.heap.size) (hS : ∀ b, S b → b < w.heap.size) : DocRd w A n ds :=
  ⟨h.1, fun {i} hi => by
    obtain ⟨b, o, F, fn, f, e, hb, c0, c1, c2, r, q1, q2, _⟩ := h.at_ hi
    exact ⟨b, o, F, fn, f, e, hR _ hb, c0, c1, c2, r.reads hS, q1, q2⟩⟩
/-- A row of posts that reads. -/
structure PostRd (w : World) (A : Option Addr) (n : Nat) (l : List Po) : Prop where
  ln : l.length = n
  at_ : ∀ {i : Nat} (h : i < l.length), ∃ b o F fn f, A = some ⟨b, o, none⟩ ∧ b < w.heap.size ∧ w.cell? ⟨b, o + i * 2, none⟩ = some (.int .i64 (l[i].1 : Nat)) ∧ w.cell? ⟨b, o + i * 2 + 1, none⟩ = some (.slice F fn f) ∧ Reads w w.heap.size 1 F fn (nC l[i].2) ∧ l[i].2.length = fn ∧ fn ≤ 8796093021952
theorem PostRd.grow {w w' : World} {A : Option Addr} {n : Nat} {l : List Po} (h : PostRd w A n l) (hb : Below w.heap.size w w') : PostRd w' A n l :=
  ⟨h.ln, fun {i} hi => by
    obtain ⟨b, o, F, fn, f, e, hlt, c0, c1, r, q⟩ := h.at_ hi
    exact ⟨b, o, F, fn, f, e, Nat.lt_of_lt_of_le hlt hb.size, (hb.cell hlt).trans c0, (hb.cell hlt).trans c1, reads_gr hb r, q⟩⟩
set_option maxHeartbeats 1600000 in
theorem sameI_eq (F1 F2 : Option Addr) (n c1 c2 : Nat) (ps : List Nat) (w : World) (h1 : Reads w w.heap.size 1 F1 n (nC ps)) (h2 : Reads w w.heap.size 1 F2 n (nC ps)) (hl : ps.length = n) (hn : n ≤ 8796093021952) :
    Calls Tryz.prog 18 #[.slice F1 n c1, .slice F2 n c2] w fun e w' => e = .returned (.bool true) ∧ Below w.heap.size w w' := by
  have H1 := Lib.hid h1
  have H2 := Lib.hid h2
  have Hl := Lib.hid hl
  clear h1 h2 hl
  go_enter Tryz.func18, Tryz.ntmps18
  go_wp2
  go_loopw [5] (fun i wr => ∃ k : Nat, k ≤ n ∧ i = .int .i64 k ∧ Below w.heap.size w wr) (fun i _ => n - (intOf i).toNat)
  case atStart => exact ⟨0, Nat.zero_le _, rfl, Below.refl _ _⟩
  case round =>
    obtain ⟨k, hk, rfl, hb⟩ := hrel
    by_cases hlt : k < n
    · have hkp : k < ps.length := by rw [Hl.out]; exact hlt
      have hcl : (nC ps)[k]? = some (.int .i64 (ps[k] : Nat)) := by unfold nC; rw [List.getElem?_map, List.getElem?_eq_getElem hkp]; rfl
      obtain ⟨b1, o1, rfl, hl1, g1⟩ := (reads_gr hb H1.out).2 (by omega)
      obtain ⟨b2, o2, rfl, hl2, g2⟩ := (reads_gr hb H2.out).2 (by omega)
      have g1 := g1 k _ hcl
      have g2 := g2 k _ hcl
      generalize ((ps[k] : Nat) : Int) = s at *
      have hss : (s != s) = false := by simp
      have hi0 : (0 : Int) ≤ (k : Int) := by omega
      have hi1 : (k : Int) < (n : Int) := by omega
      have Hb := Lib.hid hb
      clear hb hcl hkp
      go_wp2_with fail
      go_quiet (fail)
      go_wp2
      go_roundw
      case rel => exact ⟨k + 1, by omega, by go_num, below_dN Hb.out nq⟩
      case measure => simp [intOf]; omega
    · obtain rfl : k = n := by omega
      have Hb := Lib.hid hb
      clear hb
      go_wp2
      go_ret
      exact ⟨rfl, Hb.out⟩
end Go.Proofs.YtlfpfkallgkjdaaGreat.Mx
end

section
/- loggiaref02.SameInts at equal rows; loggialaw32.text, awake: the walks (printed by gen_alj.py). -/
namespace Go.Proofs.YtlfpfkallgkjdaaGreat.Al
open Go.RowKit Go.Maps Go.Proofs.YtlfpfkallgkjdaaGreat Go.Proofs.YtlfpfkallgkjdaaGreat.Ut Go.Proofs.YtlfpfkallgkjdaaGreat.Tk Go.Proofs.YtlfpfkallgkjdaaGreat.Qy Go.Proofs.YtlfpfkallgkjdaaGreat.Qp Go.Proofs.YtlfpfkallgkjdaaGreat.Ev Go.Proofs.YtlfpfkallgkjdaaGreat.Mv
set_option linter.unusedVariables false
set_option linter.unusedSimpArgs false
set_option maxRecDepth 40000

theorem reads_gr {w w' : World} {k n : Nat} {A : Option Addr} {xs : List Value} (hb : Below w.heap.size w w') (h : Reads w w.heap.size k A n xs) : Reads w' w'.heap.size k A n xs := reads_grow hb h
set_option maxHeartbeats 1600000 in
theorem sameInt_eq (F1 F2 : Option Addr) (n c1 c2 : Nat) (ps : List Int) (w : World) (h1 : Reads w w.heap.size 1 F1 n (itv ps)) (h2 : Reads w w.heap.size 1 F2 n (itv ps)) (hl : ps.length = n) (hn : n ≤ 8796093021952) :
    Calls Tryz.prog 18 #[.slice F1 n c1, .slice F2 n c2] w fun e w' => e = .returned (.bool true) ∧ Below w.heap.size w w' := by
  have H1 := Lib.hid h1
  have H2 := Lib.hid h2
  have Hl := Lib.hid hl
  clear h1 h2 hl
  go_enter Tryz.func18, Tryz.ntmps18
  go_wp2
  go_loopw [5] (fun i wr => ∃ k : Nat, k ≤ n ∧ i = .int .i64 k ∧ Below w.heap.size w wr) (fun i _ => n - (intOf i).toNat)
  case atStart => exact ⟨0, Nat.zero_le _, rfl, Below.refl _ _⟩
  case round =>
    obtain ⟨k, hk, rfl, hb⟩ := hrel
    by_cases hlt : k < n
    · have hkp : k < ps.length := by rw [Hl.out]; exact hlt
      have hcl : (itv ps)[k]? = some (.int .i64 ps[k]) := itv_get ps k hkp
      obtain ⟨b1, o1, rfl, hl1, g1⟩ := (reads_gr hb H1.out).2 (by omega)
      obtain ⟨b2, o2, rfl, hl2, g2⟩ := (reads_gr hb H2.out).2 (by omega)
      have g1 := g1 k _ hcl
      have g2 := g2 k _ hcl
      generalize ps[k] = s at *
      have hss : (s != s) = false := by simp
      have hi0 : (0 : Int) ≤ (k : Int) := by omega
      have hi1 : (k : Int) < (n : Int) := by omega
      have Hb := Lib.hid hb
      clear hb hcl hkp
      go_wp2_with fail
      go_quiet (fail)
      go_wp2
      go_roundw
      case rel => exact ⟨k + 1, by omega, by go_num, Mx.below_dN Hb.out nq⟩
      case measure => simp [intOf]; omega
    · obtain rfl : k = n := by omega
      have Hb := Lib.hid hb
      clear hb
      go_wp2
      go_ret
      exact ⟨rfl, Hb.out⟩
/-- An event of one text. -/
def TextP (w : World) (s : ByteArray) (e : Ending) (w' : World) : Prop := ∃ g, e = .returned (.agg #[.int .i64 0, .slice (some ⟨g, 0, none⟩) 1 1]) ∧ FlAt w' w'.heap.size (some ⟨g, 0, none⟩) 1 1 [(exM, s)] ∧ Below w.heap.size w w'
set_option maxHeartbeats 800000 in
theorem text_any (s : ByteArray) (w : World) (hs : s.size ≤ 1000) : Calls Tryz.prog 38 #[.string s] w (TextP w s) := by
  have hB1 : Below w.heap.size w ((w.alloc (.cells #[.int .i64 0, .slice (some ⟨w.heap.size + 1, 0, none⟩) 1 1] 33)).alloc (.cells #[.string ⟨#[109, 115, 103]⟩, .string s] 99)) := ((Below.refl _ _).alloc (Nat.le_refl _) _).alloc (by simp) _
  have hX1 := (Blk.new w 33 #[.int .i64 0, .slice (some ⟨w.heap.size + 1, 0, none⟩) 1 1]).alloc (.cells #[.string ⟨#[109, 115, 103]⟩, .string s] 99)
  have hF := Rg.new_row (k := 2) (w.alloc (.cells #[.int .i64 0, .slice (some ⟨w.heap.size + 1, 0, none⟩) 1 1] 33)) 99 [.string ⟨#[109, 115, 103]⟩, .string s] 1 rfl (by omega)
  have H := Lib.hid (And.intro hX1 (And.intro hF hB1))
  clear hX1 hF hB1
  go_enter Tryz.func38, Tryz.ntmps38
  go_wp2_with fail
  refine bodyPost_ret (results_cell rfl rfl (run_loadVar_row _ w.heap.size 33 33 #[.int .i64 0, .slice (some ⟨w.heap.size + 1, 0, none⟩) 1 1] (0, 0) _ H.out.1 Tryz.underlying33 rfl (by kernel_rfl))) rfl ⟨w.heap.size + 1, rfl, ⟨?_, rfl, by omega, Nat.le_refl _, fun f hf => ?_, fun h => (nomatch h)⟩, H.out.2.2⟩
  · have := H.out.2.1
    have e : (World.heap (w.alloc (.cells #[.int .i64 0, .slice (some ⟨w.heap.size + 1, 0, none⟩) 1 1] 33))).size = w.heap.size + 1 := World.size_alloc _ _
    rw [e] at this
    exact this
  · rw [List.mem_singleton] at hf
    subst hf
    exact ⟨show exM.size ≤ 140737488351232 by decide, by show s.size ≤ _; omega⟩
theorem nums_reads {w w' : World} {L : List Int} {v : Value} (h : w'.ownsRow w.heap.size 3 1 v L.length (itv L)) : ∃ A c, v = .slice A L.length c ∧ Reads w' w'.heap.size 1 A L.length (itv L) := by
  obtain ⟨A, c, rfl, hR, _⟩ := Ev.own_shape2 h
  exact ⟨A, c, rfl, hR⟩
set_option maxHeartbeats 6400000 in
theorem awake_any (w : World) : Calls Tryz.prog 13 #[] w fun e w' => e = .returned (.bool true) ∧ Below w.heap.size w w' := by
  go_enter Tryz.func13, Tryz.ntmps13
  go_wp2_with fail
  refine (new_any w).mono ?_
  rintro e w1 ⟨X, M1, M2, rfl, hX1, hb1, hM1, hM2, hXn⟩
  have HX1 := Lib.hid hX1
  have HB1 := Lib.hid hb1
  have C1 := Lib.hid (puts_any 3 (I64.of (by decide)) ⟨#[100, 105, 115, 107, 32, 102, 117, 108, 108]⟩ hX1 (by simp) (by omega))
  clear hX1 hb1
  go_wp2_with fail
  refine C1.out.mono ?_
  rintro e w2 ⟨E1, la, F1a, F2a, hp1, rfl, hX2, hc2, ho2⟩
  obtain ⟨rfl, hla⟩ := hp1.det (PutR.ok (q := qA) (by decide) prsA (.inr (by decide)))
  rw [show put [] 3 ⟨⟨#[100, 105, 115, 107, 32, 102, 117, 108, 108]⟩, qA, needs qA⟩ = [(3, kA)] from l1] at hla
  subst hla
  have hb2 : Below w.heap.size w w2 := HB1.out.trans (hc2.below HB1.out.size (fun b hb => by
    rcases hb with rfl | rfl | ⟨s, hs⟩
    · exact hM1
    · exact hM2
    · cases hs))
  have ho2' : ∀ b, Own M1 M2 F2a b → w.heap.size ≤ b := fun b hb => by
    rcases ho2 b hb with (rfl | rfl | ⟨s, hs⟩) | h
    · exact hM1
    · exact hM2
    · cases hs
    · have := HB1.out.size; omega
  have HX2 := Lib.hid hX2
  have HB2 := Lib.hid hb2
  have C2 := Lib.hid (puts_any 5 (I64.of (by decide)) ⟨#[78, 79, 84, 32, 100, 105, 115, 107]⟩ hX2 (by decide) (by omega))
  clear hX2 hb2 hc2 ho2 hp1 C1 HX1
  go_wp2_with fail
  refine C2.out.mono ?_
  rintro e w3 ⟨E2, lb, F1b, F2b, hp2, rfl, hX3, hc3, ho3⟩
  obtain ⟨rfl, hlb⟩ := hp2.det (PutR.ok (q := qB) (by decide) prsB (.inr (by decide)))
  rw [show put [(3, kA)] 5 ⟨⟨#[78, 79, 84, 32, 100, 105, 115, 107]⟩, qB, needs qB⟩ = [(3, kA), (5, kB)] from l2] at hlb
  subst hlb
  have hb3 : Below w.heap.size w w3 := HB2.out.trans (hc3.below HB2.out.size (fun b hb => ho2' b hb))
  have HX3 := Lib.hid hX3
  have HB3 := Lib.hid hb3
  have CT1 := Lib.hid (text_any sE1 w3 (by decide))
  clear hX3 hb3 hc3 ho3 hp2 C2 HX2 ho2'
  go_wp2_with fail
  refine CT1.out.mono ?_
  rintro e w4 ⟨g1, rfl, hf1, hb4⟩
  have HX4 := Lib.hid (HX3.out.below hb4)
  have HB4 := Lib.hid (HB3.out.trans (hb4.mono HB3.out.size))
  have CA1 := Lib.hid (ask_any 0 (some ⟨g1, 0, none⟩) 1 1 [(exM, sE1)] hf1 HX4.out (by decide))
  have hk1 : (if chkE [(exM, sE1)] = 0 then (([(3, kA), (5, kB)] : List (Int × Kp)).filter (fun x => matchB [(exM, sE1)] x.2.q)).map (·.1) else []) = [3] := by rw [if_pos (by decide +kernel), a1]
  rw [hk1] at CA1
  clear hf1 hb4 hk1 CT1
  go_wp2_with fail
  refine CA1.out.mono ?_
  rintro e w5 ⟨v5, rfl, ho5, hb5⟩
  obtain ⟨A5, c5, rfl, hR5⟩ := nums_reads ho5
  have HX5 := Lib.hid (HX4.out.below hb5)
  have HB5 := Lib.hid (HB4.out.trans (hb5.mono HB4.out.size))
  have HR5 := Lib.hid hR5
  have k6 : Below w5.heap.size w5 (w5.alloc (.cells #[.int .i64 3] 3)) := (Below.refl _ _).alloc (Nat.le_refl _) _
  have r6 := Rg.new_row (k := 1) w5 3 [.int .i64 3] 1 rfl (by omega)
  have C6 := Lib.hid (sameInt_eq A5 (some ⟨w5.heap.size, 0, none⟩) 1 c5 1 [3] (w5.alloc (.cells #[.int .i64 3] 3)) (reads_grow k6 hR5) r6 rfl (by omega))
  have HX6 := Lib.hid (HX5.out.below k6)
  have HB6 := Lib.hid (HB5.out.trans (k6.mono HB5.out.size))
  clear ho5 hb5 hR5 k6 r6 CA1
  go_wp2_with fail
  refine C6.out.mono ?_
  rintro e w7 ⟨rfl, hb7⟩
  have HX7 := Lib.hid (HX6.out.below hb7)
  have HB7 := Lib.hid (HB6.out.trans (hb7.mono HB6.out.size))
  have CT2 := Lib.hid (text_any sE2 w7 (by decide))
  clear hb7 C6
  go_wp2_with fail
  refine CT2.out.mono ?_
  rintro e w8 ⟨g2, rfl, hf2, hb8⟩
  have HX8 := Lib.hid (HX7.out.below hb8)
  have HB8 := Lib.hid (HB7.out.trans (hb8.mono HB7.out.size))
  have CA2 := Lib.hid (ask_any 0 (some ⟨g2, 0, none⟩) 1 1 [(exM, sE2)] hf2 HX8.out (by decide))
  have hk2 : (if chkE [(exM, sE2)] = 0 then (([(3, kA), (5, kB)] : List (Int × Kp)).filter (fun x => matchB [(exM, sE2)] x.2.q)).map (·.1) else []) = [5] := by rw [if_pos (by decide +kernel), a2]
  rw [hk2] at CA2
  clear hf2 hb8 hk2 CT2
  go_wp2_with fail
  refine CA2.out.mono ?_
  rintro e w9 ⟨v9, rfl, ho9, hb9⟩
  obtain ⟨A9, c9, rfl, hR9⟩ := nums_reads ho9
  have HX9 := Lib.hid (HX8.out.below hb9)
  have HB9 := Lib.hid (HB8.out.trans (hb9.mono HB8.out.size))
  have k10 : Below w9.heap.size w9 (w9.alloc (.cells #[.int .i64 5] 3)) := (Below.refl _ _).alloc (Nat.le_refl _) _
  have r10 := Rg.new_row (k := 1) w9 3 [.int .i64 5] 1 rfl (by omega)
  have C10 := Lib.hid (sameInt_eq A9 (some ⟨w9.heap.size, 0, none⟩) 1 c9 1 [5] (w9.alloc (.cells #[.int .i64 5] 3)) (reads_grow k10 hR9) r10 rfl (by omega))
  have HX10 := Lib.hid (HX9.out.below k10)
  have HB10 := Lib.hid (HB9.out.trans (k10.mono HB9.out.size))
  clear ho9 hb9 hR9 k10 r10 CA2
  go_wp2_with fail
  refine C10.out.mono ?_
  rintro e w11 ⟨rfl, hb11⟩
  have HX11 := Lib.hid (HX10.out.below hb11)
  have HB11 := Lib.hid (HB10.out.trans (hb11.mono HB10.out.size))
  have C12 := Lib.hid (len_any HX11.out)
  clear hb11 C10
  go_wp2_with fail
  refine C12.out.mono ?_
  rintro e w12 ⟨rfl, hw⟩
  subst hw
  go_wp2
  go_ret
  exact ⟨rfl, HB11.out⟩
end Go.Proofs.YtlfpfkallgkjdaaGreat.Al
end

section
/- AlertMany: the law's walk (printed by gen_alk.py). -/
namespace Go.Proofs.YtlfpfkallgkjdaaGreat.Al
open Go.RowKit Go.Maps Go.Proofs.YtlfpfkallgkjdaaGreat Go.Proofs.YtlfpfkallgkjdaaGreat.Ut Go.Proofs.YtlfpfkallgkjdaaGreat.Tk Go.Proofs.YtlfpfkallgkjdaaGreat.Qy Go.Proofs.YtlfpfkallgkjdaaGreat.Qp Go.Proofs.YtlfpfkallgkjdaaGreat.Ev Go.Proofs.YtlfpfkallgkjdaaGreat.Mv
set_option linter.unusedVariables false
set_option linter.unusedSimpArgs false
set_option maxRecDepth 40000

def kOne (c : UInt8) : Kp := ⟨⟨#[c]⟩, oneW [c], needs (oneW [c])⟩
theorem prs_one (c : UInt8) (hp : pieces [c] = some [[c]]) (hw : word1 [c] = true) (hl : leafQ [c] = some (oneW [c])) : PrsR [c] 0 (some (oneW [c])) :=
  .ok (by simp) hp (.or1 (q := oneW [c]) (r := []) (.and1 (part_w [c] _ _ hw hl) (.andE rfl)) (.orE (by simp))) (by simp [oneW, manyB_eq, manyL]) (by simp [oneW, depthN_eq, depthL])
theorem prs_a : PrsR [97] 0 (some (oneW [97])) := prs_one 97 (by decide) (by decide) (leaf_w _ (by decide) (by decide) (by decide) (by decide) (by decide) (by decide +kernel))
theorem prs_b : PrsR [98] 0 (some (oneW [98])) := prs_one 98 (by decide) (by decide) (leaf_w _ (by decide) (by decide) (by decide) (by decide) (by decide) (by decide +kernel))
theorem prs_c : PrsR [99] 0 (some (oneW [99])) := prs_one 99 (by decide) (by decide) (leaf_w _ (by decide) (by decide) (by decide) (by decide) (by decide) (by decide +kernel))
/-- So many, each third number. -/
def mkL (n : Nat) : List (Int × Kp) := (List.range n).map (fun (j : Nat) => ((3 : Int) * (j : Int), kOne 97))
theorem mkL_len (n : Nat) : (mkL n).length = n := by simp [mkL]
theorem mkL_mem {n : Nat} {x : Int × Kp} (h : x ∈ mkL n) : ∃ j : Nat, j < n ∧ x.1 = 3 * (j : Int) := by
  obtain ⟨j, hj, rfl⟩ := List.mem_map.1 h
  exact ⟨j, List.mem_range.1 hj, rfl⟩
theorem mkL_succ (n : Nat) : mkL (n + 1) = mkL n ++ [(3 * (n : Int), kOne 97)] := by
  unfold mkL
  rw [List.range_succ, List.map_append]
  rfl
theorem pos_all : ∀ (l : List (Int × Kp)) (i : Int), (∀ x ∈ l, x.1 < i) → pos l i = l.length
  | [], i, _ => rfl
  | x :: l, i, h => by
    rw [pos_cons, if_pos (h x (List.mem_cons_self ..)), pos_all l i (fun y hy => h y (List.mem_cons_of_mem _ hy)), List.length_cons]
theorem mkL_get (n : Nat) : get (mkL n) (3 * (n : Int)) = none := get_none_gt (fun x hx => by
  obtain ⟨j, hj, e⟩ := mkL_mem hx
  omega)
theorem mkL_put (n : Nat) : put (mkL n) (3 * (n : Int)) (kOne 97) = mkL (n + 1) := by
  have hp := pos_all (mkL n) (3 * (n : Int)) (fun x hx => by
    obtain ⟨j, hj, e⟩ := mkL_mem hx
    omega)
  unfold put
  rw [mkL_get, hp, mkL_succ]
  simp
theorem mkL_up : ∀ n, UpI (mkL n)
  | 0 => List.Pairwise.nil
  | n + 1 => by
    rw [mkL_succ]
    refine List.pairwise_append.2 ⟨mkL_up n, List.pairwise_singleton _ _, fun x hx y hy => ?_⟩
    rw [List.mem_singleton] at hy
    subst hy
    obtain ⟨j, hj, e⟩ := mkL_mem hx
    show x.1 < 3 * (n : Int)
    omega
theorem mkL_has {n j : Nat} (h : j < n) : (get (mkL n) (3 * (j : Int))).isSome = true := by
  have := mem_get (mkL_up n) (x := (3 * (j : Int), kOne 97)) (List.mem_map.2 ⟨j, List.mem_range.2 h, rfl⟩)
  simp only at this
  rw [this]; rfl
/-- What the loop's calls tell. -/
theorem loop_put {k : Nat} {E : Int} {l' : List (Int × Kp)} (hk : k ≤ 1000) (h : PutR (mkL (min k 1000)) (3 * (k : Int)) ⟨#[97]⟩ E l') : (E = if k < 1000 then 0 else 3) ∧ l' = mkL (min (k + 1) 1000) := by
  by_cases hlt : k < 1000
  · rw [Nat.min_eq_left (by omega)] at h
    obtain ⟨rfl, rfl⟩ := h.det (PutR.ok (q := oneW [97]) (by omega) prs_a (.inr (by rw [mkL_len]; omega)))
    refine ⟨by rw [if_pos hlt], ?_⟩
    rw [Nat.min_eq_left (by omega)]
    exact mkL_put k
  · obtain rfl : k = 1000 := by omega
    obtain ⟨rfl, rfl⟩ := h.det (PutR.many (q := oneW [97]) (by omega) prs_a (mkL_get 1000) (by rw [mkL_len]; omega))
    exact ⟨by rw [if_neg hlt], rfl⟩
/-- What is asked behind the loop. -/
theorem end_b {N : Nat} (hN : 999 ≤ N ∧ N ≤ 1000) {E : Int} {l' : List (Int × Kp)} (h : PutR (mkL N) 3 ⟨#[98]⟩ E l') : E = 0 ∧ l' = put (mkL N) 3 (kOne 98) := by
  have hs : (get (mkL N) 3).isSome = true := mkL_has (n := N) (j := 1) (by omega)
  obtain ⟨rfl, rfl⟩ := h.det (PutR.ok (q := oneW [98]) (by omega) prs_b (.inl hs))
  exact ⟨rfl, rfl⟩
theorem end_d {N : Nat} (hN : 999 ≤ N ∧ N ≤ 1000) : cntD (put (mkL N) 3 (kOne 98)) [3, 3, 4] = 1 ∧ (dropsL (put (mkL N) 3 (kOne 98)) [3, 3, 4]).length ≤ 999 := by
  have hu := mkL_up N
  have hs : (get (mkL N) 3).isSome = true := mkL_has (n := N) (j := 1) (by omega)
  have hup := put_up hu 3 (kOne 98)
  have hg3 : (get (put (mkL N) 3 (kOne 98)) 3).isSome = true := by rw [get_put hu, if_pos rfl]; rfl
  have hl := put_len hu 3 (kOne 98)
  rw [if_pos hs, mkL_len] at hl
  have hd := drop_len hup 3
  rw [if_pos hg3, hl] at hd
  have hn3 : get (drop (put (mkL N) 3 (kOne 98)) 3) 3 = none := get_dropped hup 3
  have hd2 : drop (drop (put (mkL N) 3 (kOne 98)) 3) 3 = drop (put (mkL N) 3 (kOne 98)) 3 := drop_no hn3
  have hn4 : get (drop (put (mkL N) 3 (kOne 98)) 3) 4 = none := by
    rw [get_drop hup, if_neg (by decide), get_put hu, if_neg (by decide)]
    cases e : get (mkL N) 4 with
    | none => rfl
    | some k =>
      obtain ⟨j, hj, e2⟩ := mkL_mem (get_mem e)
      simp only at e2
      omega
  constructor
  · simp [cntD, hg3, hn3, hd2, hn4]
  · show (drop (drop (drop (put (mkL N) 3 (kOne 98)) 3) 3) 4).length ≤ 999
    rw [hd2, drop_no hn4, hd]
    omega
theorem end_c {l l' : List (Int × Kp)} {E : Int} (hl : l.length ≤ 999) (h : PutR l 1 ⟨#[99]⟩ E l') : E = 0 := by
  obtain ⟨rfl, _⟩ := h.det (PutR.ok (q := oneW [99]) (by omega) prs_c (.inr (by omega)))
  rfl
set_option maxHeartbeats 6400000 in
theorem many_walk (m : Int) (hm : 0 ≤ m ∧ m ≤ 255) (w : World) : Calls Tryz.prog 3 #[.int .u8 m] w fun e w' => e = .returned (.bool true) ∧ Below w.heap.size w w' := by
  obtain ⟨N, hN1, hN2⟩ : ∃ N : Nat, (999 + m % 3 : Int) = (N : Int) ∧ N ≤ 1001 := ⟨(999 + m % 3).toNat, by omega, by omega⟩
  have hN3 : 999 ≤ N := by omega
  obtain ⟨hm0, hm1⟩ := hm
  go_enter Tryz.func3, Tryz.ntmps3
  go_wp2_with fail
  refine (new_n w).mono ?_
  rintro e w1 ⟨X, rfl, hX1, hb1, hXn⟩
  have HX1 := Lib.hid hX1
  have HB1 := Lib.hid hb1
  clear hX1 hb1
  go_wp2_with fail
  try rw [hN1]
  clear hN1
  go_loopw [5] (fun i wr => ∃ k : Nat, k ≤ N ∧ i = .int .i64 k ∧ Hid (AlN w.heap.size wr X k (mkL (min k 1000))) ∧ Hid (Below w.heap.size w wr)) (fun i _ => N - (intOf i).toNat)
  case atStart => exact ⟨0, Nat.zero_le _, rfl, HX1, HB1⟩
  case round =>
    obtain ⟨k, hk, rfl, hX, hB⟩ := hrel
    have hsB := hB.out.size
    by_cases hlt : k < N
    · have hk1 : k ≤ 1000 := by omega
      have CP := Lib.hid (put_n hX.out hsB (3 * (k : Int)) (I64.of (by omega)) ⟨#[97]⟩ (by rw [mkL_len]; omega) (by omega))
      have hlt' : (k : Int) < (N : Int) := by omega
      clear hX
      by_cases h1000 : k < 1000
      · have hlt2 : (k : Int) < 1000 := by omega
        go_wp2_with fail
        refine CP.out.mono ?_
        rintro e w2 ⟨E, l', hp, rfl, hX2, hf2⟩
        obtain ⟨hE, rfl⟩ := loop_put hk1 hp
        rw [if_pos h1000] at hE
        subst hE
        have HX2 := Lib.hid hX2
        have HB2 := Lib.hid (hB.out.trans ((hf2.below hsB)))
        clear hp hX2 hf2 CP
        go_wp2
        go_roundw
        case rel => exact ⟨k + 1, by omega, by go_num, HX2, HB2⟩
        case measure => simp [intOf]; omega
      · have hlt2 : ¬ (k : Int) < 1000 := by omega
        have hlt3 : (1000 : Int) ≤ (k : Int) := by omega
        go_wp2_with fail
        refine CP.out.mono ?_
        rintro e w2 ⟨E, l', hp, rfl, hX2, hf2⟩
        obtain ⟨hE, rfl⟩ := loop_put hk1 hp
        rw [if_neg h1000] at hE
        subst hE
        have HX2 := Lib.hid hX2
        have HB2 := Lib.hid (hB.out.trans ((hf2.below hsB)))
        clear hp hX2 hf2 CP
        go_wp2
        go_roundw
        case rel => exact ⟨k + 1, by omega, by go_num, HX2, HB2⟩
        case measure => simp [intOf]; omega
    · obtain rfl : k = N := by omega
      obtain ⟨Q, hQ⟩ : ∃ Q, min k 1000 = Q := ⟨_, rfl⟩
      have hQ2 : 999 ≤ Q ∧ Q ≤ 1000 := by omega
      have hQi : min (k : Int) 1000 = (Q : Int) := by omega
      rw [hQ] at hX
      have hmq := mkL_len Q
      have CL := Lib.hid (len_n hX.out)
      rw [hmq] at CL
      have CP := Lib.hid (put_n hX.out hsB 3 (I64.of (by omega)) ⟨#[98]⟩ (by rw [hmq]; omega) (by omega))
      clear hX hmq
      go_wp2_with fail
      refine CL.out.mono ?_
      rintro e w2 ⟨rfl, hw⟩
      subst w2
      go_wp2_with fail
      refine CP.out.mono ?_
      rintro e w2 ⟨E, l', hp, rfl, hX2, hf2⟩
      obtain ⟨rfl, rfl⟩ := end_b hQ2 hp
      have hb2 := hB.out.trans (hf2.below hsB)
      have HB2 := Lib.hid hb2
      have hs2 := hb2.size
      have hb3 : Below w2.heap.size w2 (w2.alloc (.cells #[.int .i64 3, .int .i64 3, .int .i64 4] 3)) := (Below.refl _ _).alloc (Nat.le_refl _) _
      have hr3 := Rg.new_row (k := 1) w2 3 [.int .i64 3, .int .i64 3, .int .i64 4] 3 rfl (by omega)
      have hX3 := hX2.new_below hb3
      have HB3 := Lib.hid (hb2.trans (hb3.mono hs2))
      obtain ⟨hd1, hd2⟩ := end_d hQ2
      have CD := Lib.hid (drop_n hX3 (some ⟨w2.heap.size, 0, none⟩) 3 3 [3, 3, 4] (reads_sc (Ev.reads_s hr3) (by decide)) rfl (by omega) (fun i hi => by
        simp only [List.mem_cons, List.not_mem_nil, or_false] at hi
        rcases hi with rfl | rfl | rfl <;> exact I64.of (by omega)))
      have HD1 := Lib.hid hd1
      have HD2 := Lib.hid hd2
      clear hp hX2 hf2 hb2 hb3 hr3 hX3 hd1 hd2 CP CL
      go_wp2_with fail
      refine CD.out.mono ?_
      rintro e w4 ⟨he, hX4, hf4⟩
      rw [HD1.out] at he
      subst he
      have hb4 := HB3.out.trans (hf4.below HB3.out.size)
      have HB4 := Lib.hid hb4
      have CP2 := Lib.hid (put_n hX4 hb4.size 1 (I64.of (by omega)) ⟨#[99]⟩ (by have := HD2.out; omega) (by omega))
      clear hX4 hf4 hb4 CD
      go_wp2_with fail
      refine CP2.out.mono ?_
      rintro e w5 ⟨E, l'', hp, rfl, hX5, hf5⟩
      obtain rfl := end_c HD2.out hp
      have hb5 := HB4.out.trans (hf5.below HB4.out.size)
      have HB5 := Lib.hid hb5
      have CA := Lib.hid (awake_any w5)
      clear hp hX5 hf5 hb5 CP2
      go_wp2_with fail
      refine CA.out.mono ?_
      rintro e w6 ⟨rfl, hb6⟩
      have HB6 := Lib.hid (HB5.out.trans (hb6.mono HB5.out.size))
      clear hb6 CA
      go_wp2
      go_ret
      exact ⟨rfl, HB6.out⟩
theorem many_any (m : Int) (w : World) (hm : (Lit.int .u8 m).wf = true) : Calls Tryz.prog 3 #[.int .u8 m] w fun e w' => e = .returned (.bool true) ∧ Below w.heap.size w w' := by
  have : IntKind.u8.min ≤ m ∧ m ≤ IntKind.u8.max := by simpa [Lit.wf] using hm
  have e1 : IntKind.u8.min = 0 := rfl
  have e2 : IntKind.u8.max = 255 := rfl
  exact many_walk m ⟨by omega, by omega⟩ w
end Go.Proofs.YtlfpfkallgkjdaaGreat.Al
end
