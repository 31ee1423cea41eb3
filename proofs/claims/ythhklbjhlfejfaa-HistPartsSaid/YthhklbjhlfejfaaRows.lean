/-
  No cell of these rows narrows 'for every input' (looked for: loops, veiled, ifaces, maps, wideKeys, modest, calm, conditions, laid).
  DERIVED. THE GIVEN ROWS OF THIS SEAT. 5 by the template 'for every input the law returns true; each argument reads behind the call as it read before'; 0 by the template 'total and deterministic' (their statements: YthhklbjhlfejfaaTotals.lean).
  GIVEN WITH THE SEED: the statements are not yours to turn. If you find one false, say at which input.
  Laid BY PROGRAM, IN A SANDBOX (cutbox-rows.mjs): the forced cells as the released guide's own fill.sh prints them over the translation 31230dd134352f85… (all of the seat's roots in one cut). By AI agents, Wed Nov 11 2026. No macro, syntax, notation, axiom, sorry.
-/
import Derived.Test.YthhklbjhlfejfaaChecked
import GoSem.Claim
import GoSem.ClaimJoined
import GoSem.ClaimMapViews
import Derived.JoinedTies
import Derived.KernelRfl
namespace Go.Proofs.Ythhklbjhlfejfaa
/- THE CELL 'sum', in the pinned program and in every row, IS THE sha256 OF THE DUMP (.gsa) THAT YthhklbjhlfejfaaProg.lean LOADS. Nothing in Lean hashes anything: it is a label: what it is worth is what the hold of that sum in a sandbox is worth. -/
noncomputable def Try.pinned : Pinned := { name := "ythhklbjhlfejfaa", sum := "31230dd134352f85753bc9e9e73f2417d063ce4ab53e2afd9f08e90e7b0fd798", checked := Try.checked }
namespace Rows
def none {H : Type} : Left H := { results := [], args := [] }

/-- 'loggialaw24.HistKeys': WHATEVER THE INPUT: true; the input reads as it did. -/
def histKeysSpec : ChangeSpec := { name := "histKeys", fn := fun _ => fun
  | [d1, d2, d3] => { results := [.lit (.bool true)], args := [d1, d2, d3] }
  | _ => none }
def histKeysRow : OpenClaim := { program := "ythhklbjhlfejfaa", sum := "31230dd134352f85753bc9e9e73f2417d063ce4ab53e2afd9f08e90e7b0fd798", func := "loggia/loggialaw24.HistKeys", spec := "histKeys", inPlace := ["slices.overlaps[loggia/api.Bucket]"], unfollowed := true, recurses := true, apart := false }
def HistKeysSaid : Prop := histKeysRow.holds Try.pinned (OpenSpec.ofChange histKeysSpec)

/-- ITS FALSE NEIGHBOUR: 'it returns false'. Refute it at one input. -/
def histKeysWrong : ChangeSpec := { name := "histKeys", fn := fun _ => fun
  | [d1, d2, d3] => { results := [.lit (.bool false)], args := [d1, d2, d3] }
  | _ => none }
def HistKeysWrongFalsely : Prop := histKeysRow.holds Try.pinned (OpenSpec.ofChange histKeysWrong)

/-- 'loggialaw24.HistRows': WHATEVER THE INPUT: true; the input reads as it did. -/
def histRowsSpec : ChangeSpec := { name := "histRows", fn := fun _ => fun
  | [d1, d2, d3, d4] => { results := [.lit (.bool true)], args := [d1, d2, d3, d4] }
  | _ => none }
def histRowsRow : OpenClaim := { program := "ythhklbjhlfejfaa", sum := "31230dd134352f85753bc9e9e73f2417d063ce4ab53e2afd9f08e90e7b0fd798", func := "loggia/loggialaw24.HistRows", spec := "histRows", inPlace := ["slices.overlaps[loggia/api.Bucket]"], unfollowed := true, recurses := true, apart := false }
def HistRowsSaid : Prop := histRowsRow.holds Try.pinned (OpenSpec.ofChange histRowsSpec)

/-- ITS FALSE NEIGHBOUR: 'it returns false'. Refute it at one input. -/
def histRowsWrong : ChangeSpec := { name := "histRows", fn := fun _ => fun
  | [d1, d2, d3, d4] => { results := [.lit (.bool false)], args := [d1, d2, d3, d4] }
  | _ => none }
def HistRowsWrongFalsely : Prop := histRowsRow.holds Try.pinned (OpenSpec.ofChange histRowsWrong)

/-- 'loggialaw24.HistAdds': WHATEVER THE INPUT: true; the input reads as it did. -/
def histAddsSpec : ChangeSpec := { name := "histAdds", fn := fun _ => fun
  | [d1, d2, d3] => { results := [.lit (.bool true)], args := [d1, d2, d3] }
  | _ => none }
def histAddsRow : OpenClaim := { program := "ythhklbjhlfejfaa", sum := "31230dd134352f85753bc9e9e73f2417d063ce4ab53e2afd9f08e90e7b0fd798", func := "loggia/loggialaw24.HistAdds", spec := "histAdds", inPlace := ["slices.overlaps[loggia/api.Bucket]"], unfollowed := true, recurses := true, apart := false }
def HistAddsSaid : Prop := histAddsRow.holds Try.pinned (OpenSpec.ofChange histAddsSpec)

/-- ITS FALSE NEIGHBOUR: 'it returns false'. Refute it at one input. -/
def histAddsWrong : ChangeSpec := { name := "histAdds", fn := fun _ => fun
  | [d1, d2, d3] => { results := [.lit (.bool false)], args := [d1, d2, d3] }
  | _ => none }
def HistAddsWrongFalsely : Prop := histAddsRow.holds Try.pinned (OpenSpec.ofChange histAddsWrong)

/-- 'loggialaw24.HistMerges': WHATEVER THE INPUT: true; the input reads as it did. -/
def histMergesSpec : ChangeSpec := { name := "histMerges", fn := fun _ => fun
  | [d1, d2, d3, d4] => { results := [.lit (.bool true)], args := [d1, d2, d3, d4] }
  | _ => none }
def histMergesRow : OpenClaim := { program := "ythhklbjhlfejfaa", sum := "31230dd134352f85753bc9e9e73f2417d063ce4ab53e2afd9f08e90e7b0fd798", func := "loggia/loggialaw24.HistMerges", spec := "histMerges", inPlace := ["slices.overlaps[loggia/api.Bucket]"], unfollowed := true, recurses := true, apart := false }
def HistMergesSaid : Prop := histMergesRow.holds Try.pinned (OpenSpec.ofChange histMergesSpec)

/-- ITS FALSE NEIGHBOUR: 'it returns false'. Refute it at one input. -/
def histMergesWrong : ChangeSpec := { name := "histMerges", fn := fun _ => fun
  | [d1, d2, d3, d4] => { results := [.lit (.bool false)], args := [d1, d2, d3, d4] }
  | _ => none }
def HistMergesWrongFalsely : Prop := histMergesRow.holds Try.pinned (OpenSpec.ofChange histMergesWrong)

/-- 'loggialaw24.HistParts': WHATEVER THE INPUT: true; the input reads as it did. -/
def histPartsSpec : ChangeSpec := { name := "histParts", fn := fun _ => fun
  | [d1, d2, d3] => { results := [.lit (.bool true)], args := [d1, d2, d3] }
  | _ => none }
def histPartsRow : OpenClaim := { program := "ythhklbjhlfejfaa", sum := "31230dd134352f85753bc9e9e73f2417d063ce4ab53e2afd9f08e90e7b0fd798", func := "loggia/loggialaw24.HistParts", spec := "histParts", inPlace := ["slices.overlaps[loggia/api.Bucket]"], unfollowed := true, recurses := true, apart := false }
def HistPartsSaid : Prop := histPartsRow.holds Try.pinned (OpenSpec.ofChange histPartsSpec)

/-- ITS FALSE NEIGHBOUR: 'it returns false'. Refute it at one input. -/
def histPartsWrong : ChangeSpec := { name := "histParts", fn := fun _ => fun
  | [d1, d2, d3] => { results := [.lit (.bool false)], args := [d1, d2, d3] }
  | _ => none }
def HistPartsWrongFalsely : Prop := histPartsRow.holds Try.pinned (OpenSpec.ofChange histPartsWrong)

/- THE SECOND FORM. 'bulk': how many values and letters a reading holds, each counted each time it is reached (what is shared counts as often as it is met; a slice's spare places count too). A statement '..UptoSaid' is the law's where the arguments, and the package variables that the reading takes, are together of bulk at most 1048576: NARROWER than '..Said'. Prove '..Said' where nothing that the law and all that it calls make is longer than what came in: it says more and counts as full. Else prove '..UptoSaid'. A law counts once. -/
mutual
def uptoBulk {H : Type} : DataW H → Nat
  | .lit (.string bytes) => bytes.length + 1
  | .lit _ => 1
  | .nil => 1
  | .ptr d => uptoBulk d + 1
  | .slice elems spare => uptoBulkAll elems + uptoBulkAll spare + 1
  | .agg parts => uptoBulkAll parts + 1
  | .iface _ d => uptoBulk d + 1
  | .map entries => uptoBulkEntries entries + 1
  | .held _ => 1
def uptoBulkAll {H : Type} : List (DataW H) → Nat
  | [] => 0
  | d :: r => uptoBulk d + uptoBulkAll r
def uptoBulkEntries {H : Type} : List (Lit × DataW H) → Nat
  | [] => 0
  | x :: r => uptoBulkEntry x + uptoBulkEntries r
def uptoBulkEntry {H : Type} : Lit × DataW H → Nat
  | (.string bytes, d) => bytes.length + uptoBulk d + 1
  | (_, d) => uptoBulk d + 1
 end
def uptoSmall : (H : Type) → List (DataW H) → Bool := fun _ ds => decide (uptoBulkAll ds ≤ 1048576)
def OpenSpec.upto (s : _root_.Go.ChangeSpec) : _root_.Go.OpenSpec := { _root_.Go.OpenSpec.ofChange s with cond := some uptoSmall }

/-- 'loggialaw24.HistKeys', WHERE WHAT IT READS IS OF BULK AT MOST 1048576: true; the input reads as it did. -/
def histKeysUptoRow : OpenClaim := { program := "ythhklbjhlfejfaa", sum := "31230dd134352f85753bc9e9e73f2417d063ce4ab53e2afd9f08e90e7b0fd798", func := "loggia/loggialaw24.HistKeys", spec := "histKeys", inPlace := ["slices.overlaps[loggia/api.Bucket]"], unfollowed := true, recurses := true, apart := false, narrowed := true }
def HistKeysUptoSaid : Prop := histKeysUptoRow.holds Try.pinned (OpenSpec.upto histKeysSpec)

/-- 'loggialaw24.HistRows', WHERE WHAT IT READS IS OF BULK AT MOST 1048576: true; the input reads as it did. -/
def histRowsUptoRow : OpenClaim := { program := "ythhklbjhlfejfaa", sum := "31230dd134352f85753bc9e9e73f2417d063ce4ab53e2afd9f08e90e7b0fd798", func := "loggia/loggialaw24.HistRows", spec := "histRows", inPlace := ["slices.overlaps[loggia/api.Bucket]"], unfollowed := true, recurses := true, apart := false, narrowed := true }
def HistRowsUptoSaid : Prop := histRowsUptoRow.holds Try.pinned (OpenSpec.upto histRowsSpec)

/-- 'loggialaw24.HistAdds', WHERE WHAT IT READS IS OF BULK AT MOST 1048576: true; the input reads as it did. -/
def histAddsUptoRow : OpenClaim := { program := "ythhklbjhlfejfaa", sum := "31230dd134352f85753bc9e9e73f2417d063ce4ab53e2afd9f08e90e7b0fd798", func := "loggia/loggialaw24.HistAdds", spec := "histAdds", inPlace := ["slices.overlaps[loggia/api.Bucket]"], unfollowed := true, recurses := true, apart := false, narrowed := true }
def HistAddsUptoSaid : Prop := histAddsUptoRow.holds Try.pinned (OpenSpec.upto histAddsSpec)

/-- 'loggialaw24.HistMerges', WHERE WHAT IT READS IS OF BULK AT MOST 1048576: true; the input reads as it did. -/
def histMergesUptoRow : OpenClaim := { program := "ythhklbjhlfejfaa", sum := "31230dd134352f85753bc9e9e73f2417d063ce4ab53e2afd9f08e90e7b0fd798", func := "loggia/loggialaw24.HistMerges", spec := "histMerges", inPlace := ["slices.overlaps[loggia/api.Bucket]"], unfollowed := true, recurses := true, apart := false, narrowed := true }
def HistMergesUptoSaid : Prop := histMergesUptoRow.holds Try.pinned (OpenSpec.upto histMergesSpec)

/-- 'loggialaw24.HistParts', WHERE WHAT IT READS IS OF BULK AT MOST 1048576: true; the input reads as it did. -/
def histPartsUptoRow : OpenClaim := { program := "ythhklbjhlfejfaa", sum := "31230dd134352f85753bc9e9e73f2417d063ce4ab53e2afd9f08e90e7b0fd798", func := "loggia/loggialaw24.HistParts", spec := "histParts", inPlace := ["slices.overlaps[loggia/api.Bucket]"], unfollowed := true, recurses := true, apart := false, narrowed := true }
def HistPartsUptoSaid : Prop := histPartsUptoRow.holds Try.pinned (OpenSpec.upto histPartsSpec)

end Rows
end Go.Proofs.Ythhklbjhlfejfaa
