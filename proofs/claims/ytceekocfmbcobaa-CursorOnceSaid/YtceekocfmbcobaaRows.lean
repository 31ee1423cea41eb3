/-
  No cell of these rows narrows 'for every input' (looked for: loops, veiled, ifaces, maps, wideKeys, modest, calm, conditions, laid).
  DERIVED. THE GIVEN ROWS OF THIS SEAT. 8 by the template 'for every input the law returns true; each argument reads behind the call as it read before'; 0 by the template 'total and deterministic' (their statements: YtceekocfmbcobaaTotals.lean).
  GIVEN WITH THE SEED: the statements are not yours to turn. If you find one false, say at which input.
  Laid BY PROGRAM, IN A SANDBOX (cutbox-rows.mjs): the forced cells as the released guide's own fill.sh prints them over the translation 0f6f725eb3c82658… (all of the seat's roots in one cut). By AI agents, Wed Nov 11 2026. No macro, syntax, notation, axiom, sorry.
-/
import Derived.Test.YtceekocfmbcobaaChecked
import GoSem.Claim
import GoSem.ClaimJoined
import GoSem.ClaimMapViews
import Derived.JoinedTies
import Derived.KernelRfl
namespace Go.Proofs.Ytceekocfmbcobaa
/- THE CELL 'sum', in the pinned program and in every row, IS THE sha256 OF THE DUMP (.gsa) THAT YtceekocfmbcobaaProg.lean LOADS. Nothing in Lean hashes anything: it is a label: what it is worth is what the hold of that sum in a sandbox is worth. -/
noncomputable def Try.pinned : Pinned := { name := "ytceekocfmbcobaa", sum := "0f6f725eb3c82658496349736cab665d84d776e09eb01a74e1d1064230ca3c6c", checked := Try.checked }
namespace Rows
def none {H : Type} : Left H := { results := [], args := [] }

/-- 'loggialaw17.QparseReads': WHATEVER THE INPUT: true; the input reads as it did. -/
def qparseReadsSpec : ChangeSpec := { name := "qparseReads", fn := fun _ => fun
  | [d] => { results := [.lit (.bool true)], args := [d] }
  | _ => none }
def qparseReadsRow : OpenClaim := { program := "ytceekocfmbcobaa", sum := "0f6f725eb3c82658496349736cab665d84d776e09eb01a74e1d1064230ca3c6c", func := "loggia/loggialaw17.QparseReads", spec := "qparseReads", inPlace := ["internal/bytealg.IndexByteString", "internal/bytealg.IndexString", "internal/abi.NoEscape"], unfollowed := true, recurses := true, named := ["internal/bytealg.MaxLen"], apart := false }
def QparseReadsSaid : Prop := qparseReadsRow.holds Try.pinned (OpenSpec.ofChange qparseReadsSpec)

/-- ITS FALSE NEIGHBOUR: 'it returns false'. Refute it at one input. -/
def qparseReadsWrong : ChangeSpec := { name := "qparseReads", fn := fun _ => fun
  | [d] => { results := [.lit (.bool false)], args := [d] }
  | _ => none }
def QparseReadsWrongFalsely : Prop := qparseReadsRow.holds Try.pinned (OpenSpec.ofChange qparseReadsWrong)

/-- 'loggialaw17.QparseBinds': WHATEVER THE INPUT: true; the input reads as it did. -/
def qparseBindsSpec : ChangeSpec := { name := "qparseBinds", fn := fun _ => fun
  | [d1, d2, d3] => { results := [.lit (.bool true)], args := [d1, d2, d3] }
  | _ => none }
def qparseBindsRow : OpenClaim := { program := "ytceekocfmbcobaa", sum := "0f6f725eb3c82658496349736cab665d84d776e09eb01a74e1d1064230ca3c6c", func := "loggia/loggialaw17.QparseBinds", spec := "qparseBinds", inPlace := ["internal/bytealg.IndexByteString", "internal/bytealg.IndexString", "internal/abi.NoEscape"], unfollowed := true, recurses := true, named := ["internal/bytealg.MaxLen"], apart := false }
def QparseBindsSaid : Prop := qparseBindsRow.holds Try.pinned (OpenSpec.ofChange qparseBindsSpec)

/-- ITS FALSE NEIGHBOUR: 'it returns false'. Refute it at one input. -/
def qparseBindsWrong : ChangeSpec := { name := "qparseBinds", fn := fun _ => fun
  | [d1, d2, d3] => { results := [.lit (.bool false)], args := [d1, d2, d3] }
  | _ => none }
def QparseBindsWrongFalsely : Prop := qparseBindsRow.holds Try.pinned (OpenSpec.ofChange qparseBindsWrong)

/-- 'loggialaw17.QparseBlanks': WHATEVER THE INPUT: true; the input reads as it did. -/
def qparseBlanksSpec : ChangeSpec := { name := "qparseBlanks", fn := fun _ => fun
  | [d1, d2] => { results := [.lit (.bool true)], args := [d1, d2] }
  | _ => none }
def qparseBlanksRow : OpenClaim := { program := "ytceekocfmbcobaa", sum := "0f6f725eb3c82658496349736cab665d84d776e09eb01a74e1d1064230ca3c6c", func := "loggia/loggialaw17.QparseBlanks", spec := "qparseBlanks", inPlace := ["internal/bytealg.IndexByteString", "internal/bytealg.IndexString", "internal/abi.NoEscape"], unfollowed := true, recurses := true, named := ["internal/bytealg.MaxLen"], apart := false }
def QparseBlanksSaid : Prop := qparseBlanksRow.holds Try.pinned (OpenSpec.ofChange qparseBlanksSpec)

/-- ITS FALSE NEIGHBOUR: 'it returns false'. Refute it at one input. -/
def qparseBlanksWrong : ChangeSpec := { name := "qparseBlanks", fn := fun _ => fun
  | [d1, d2] => { results := [.lit (.bool false)], args := [d1, d2] }
  | _ => none }
def QparseBlanksWrongFalsely : Prop := qparseBlanksRow.holds Try.pinned (OpenSpec.ofChange qparseBlanksWrong)

/-- 'loggialaw17.QparseLimits': WHATEVER THE INPUT: true; the input reads as it did. -/
def qparseLimitsSpec : ChangeSpec := { name := "qparseLimits", fn := fun _ => fun
  | [d1, d2] => { results := [.lit (.bool true)], args := [d1, d2] }
  | _ => none }
def qparseLimitsRow : OpenClaim := { program := "ytceekocfmbcobaa", sum := "0f6f725eb3c82658496349736cab665d84d776e09eb01a74e1d1064230ca3c6c", func := "loggia/loggialaw17.QparseLimits", spec := "qparseLimits", inPlace := ["internal/bytealg.IndexByteString", "internal/bytealg.IndexString", "internal/abi.NoEscape"], unfollowed := true, recurses := true, named := ["internal/bytealg.MaxLen"], apart := false }
def QparseLimitsSaid : Prop := qparseLimitsRow.holds Try.pinned (OpenSpec.ofChange qparseLimitsSpec)

/-- ITS FALSE NEIGHBOUR: 'it returns false'. Refute it at one input. -/
def qparseLimitsWrong : ChangeSpec := { name := "qparseLimits", fn := fun _ => fun
  | [d1, d2] => { results := [.lit (.bool false)], args := [d1, d2] }
  | _ => none }
def QparseLimitsWrongFalsely : Prop := qparseLimitsRow.holds Try.pinned (OpenSpec.ofChange qparseLimitsWrong)

/-- 'loggialaw25.CursorBytes': WHATEVER THE INPUT: true; the input reads as it did. -/
def cursorBytesSpec : ChangeSpec := { name := "cursorBytes", fn := fun _ => fun
  | [d1, d2] => { results := [.lit (.bool true)], args := [d1, d2] }
  | _ => none }
def cursorBytesRow : OpenClaim := { program := "ytceekocfmbcobaa", sum := "0f6f725eb3c82658496349736cab665d84d776e09eb01a74e1d1064230ca3c6c", func := "loggia/loggialaw25.CursorBytes", spec := "cursorBytes", inPlace := ["internal/bytealg.IndexByteString", "internal/bytealg.IndexString", "internal/abi.NoEscape"], unfollowed := true, recurses := true, named := ["internal/bytealg.MaxLen"], apart := false }
def CursorBytesSaid : Prop := cursorBytesRow.holds Try.pinned (OpenSpec.ofChange cursorBytesSpec)

/-- ITS FALSE NEIGHBOUR: 'it returns false'. Refute it at one input. -/
def cursorBytesWrong : ChangeSpec := { name := "cursorBytes", fn := fun _ => fun
  | [d1, d2] => { results := [.lit (.bool false)], args := [d1, d2] }
  | _ => none }
def CursorBytesWrongFalsely : Prop := cursorBytesRow.holds Try.pinned (OpenSpec.ofChange cursorBytesWrong)

/-- 'loggialaw25.CursorTurned': WHATEVER THE INPUT: true; the input reads as it did. -/
def cursorTurnedSpec : ChangeSpec := { name := "cursorTurned", fn := fun _ => fun
  | [d1, d2, d3] => { results := [.lit (.bool true)], args := [d1, d2, d3] }
  | _ => none }
def cursorTurnedRow : OpenClaim := { program := "ytceekocfmbcobaa", sum := "0f6f725eb3c82658496349736cab665d84d776e09eb01a74e1d1064230ca3c6c", func := "loggia/loggialaw25.CursorTurned", spec := "cursorTurned", inPlace := ["internal/bytealg.IndexByteString", "internal/bytealg.IndexString", "internal/abi.NoEscape"], unfollowed := true, recurses := true, named := ["internal/bytealg.MaxLen"], apart := false }
def CursorTurnedSaid : Prop := cursorTurnedRow.holds Try.pinned (OpenSpec.ofChange cursorTurnedSpec)

/-- ITS FALSE NEIGHBOUR: 'it returns false'. Refute it at one input. -/
def cursorTurnedWrong : ChangeSpec := { name := "cursorTurned", fn := fun _ => fun
  | [d1, d2, d3] => { results := [.lit (.bool false)], args := [d1, d2, d3] }
  | _ => none }
def CursorTurnedWrongFalsely : Prop := cursorTurnedRow.holds Try.pinned (OpenSpec.ofChange cursorTurnedWrong)

/-- 'loggialaw25.CursorFollows': WHATEVER THE INPUT: true; the input reads as it did. -/
def cursorFollowsSpec : ChangeSpec := { name := "cursorFollows", fn := fun _ => fun
  | [d1, d2, d3, d4] => { results := [.lit (.bool true)], args := [d1, d2, d3, d4] }
  | _ => none }
def cursorFollowsRow : OpenClaim := { program := "ytceekocfmbcobaa", sum := "0f6f725eb3c82658496349736cab665d84d776e09eb01a74e1d1064230ca3c6c", func := "loggia/loggialaw25.CursorFollows", spec := "cursorFollows", inPlace := ["internal/bytealg.IndexByteString", "internal/bytealg.IndexString", "internal/abi.NoEscape"], unfollowed := true, recurses := true, named := ["internal/bytealg.MaxLen"], apart := false }
def CursorFollowsSaid : Prop := cursorFollowsRow.holds Try.pinned (OpenSpec.ofChange cursorFollowsSpec)

/-- ITS FALSE NEIGHBOUR: 'it returns false'. Refute it at one input. -/
def cursorFollowsWrong : ChangeSpec := { name := "cursorFollows", fn := fun _ => fun
  | [d1, d2, d3, d4] => { results := [.lit (.bool false)], args := [d1, d2, d3, d4] }
  | _ => none }
def CursorFollowsWrongFalsely : Prop := cursorFollowsRow.holds Try.pinned (OpenSpec.ofChange cursorFollowsWrong)

/-- 'loggialaw25.CursorOnce': WHATEVER THE INPUT: true; the input reads as it did. -/
def cursorOnceSpec : ChangeSpec := { name := "cursorOnce", fn := fun _ => fun
  | [d1, d2, d3] => { results := [.lit (.bool true)], args := [d1, d2, d3] }
  | _ => none }
def cursorOnceRow : OpenClaim := { program := "ytceekocfmbcobaa", sum := "0f6f725eb3c82658496349736cab665d84d776e09eb01a74e1d1064230ca3c6c", func := "loggia/loggialaw25.CursorOnce", spec := "cursorOnce", inPlace := ["internal/bytealg.IndexByteString", "internal/bytealg.IndexString", "internal/abi.NoEscape"], unfollowed := true, recurses := true, named := ["internal/bytealg.MaxLen"], apart := false }
def CursorOnceSaid : Prop := cursorOnceRow.holds Try.pinned (OpenSpec.ofChange cursorOnceSpec)

/-- ITS FALSE NEIGHBOUR: 'it returns false'. Refute it at one input. -/
def cursorOnceWrong : ChangeSpec := { name := "cursorOnce", fn := fun _ => fun
  | [d1, d2, d3] => { results := [.lit (.bool false)], args := [d1, d2, d3] }
  | _ => none }
def CursorOnceWrongFalsely : Prop := cursorOnceRow.holds Try.pinned (OpenSpec.ofChange cursorOnceWrong)

/- THE SECOND FORM. 'bulk': how many values and letters a reading holds, each counted each time it is reached (what is shared counts as often as it is met; a slice's spare places count too). A statement '..UptoSaid' is the law's where the arguments, and the package variables that the reading takes, are together of bulk at most 1048576: NARROWER than '..Said'. Prove '..Said' where nothing that the law and all that it calls make is longer than what came in: it says more and counts as full. Else prove '..UptoSaid'. A law counts once. -/
mutual
def uptoBulk {H : Type} : DataW H → Nat
  | .lit (.string bytes) => bytes.length + 1
  | .lit _ => 1
  | .nil => 1
  | .ptr d => uptoBulk d + 1
  | .slice elems spare => uptoBulkAll elems + uptoBulkAll spare + 1
  | .agg parts => uptoBulkAll parts + 1
  | .iface _ d => uptoBulk d + 1
  | .map entries => uptoBulkEntries entries + 1
  | .held _ => 1
def uptoBulkAll {H : Type} : List (DataW H) → Nat
  | [] => 0
  | d :: r => uptoBulk d + uptoBulkAll r
def uptoBulkEntries {H : Type} : List (Lit × DataW H) → Nat
  | [] => 0
  | x :: r => uptoBulkEntry x + uptoBulkEntries r
def uptoBulkEntry {H : Type} : Lit × DataW H → Nat
  | (.string bytes, d) => bytes.length + uptoBulk d + 1
  | (_, d) => uptoBulk d + 1
 end
def uptoSmall : (H : Type) → List (DataW H) → Bool := fun _ ds => decide (uptoBulkAll ds ≤ 1048576)
def OpenSpec.upto (s : _root_.Go.ChangeSpec) : _root_.Go.OpenSpec := { _root_.Go.OpenSpec.ofChange s with cond := some uptoSmall }

/-- 'loggialaw17.QparseReads', WHERE WHAT IT READS IS OF BULK AT MOST 1048576: true; the input reads as it did. -/
def qparseReadsUptoRow : OpenClaim := { program := "ytceekocfmbcobaa", sum := "0f6f725eb3c82658496349736cab665d84d776e09eb01a74e1d1064230ca3c6c", func := "loggia/loggialaw17.QparseReads", spec := "qparseReads", inPlace := ["internal/bytealg.IndexByteString", "internal/bytealg.IndexString", "internal/abi.NoEscape"], unfollowed := true, recurses := true, named := ["internal/bytealg.MaxLen"], apart := false, narrowed := true }
def QparseReadsUptoSaid : Prop := qparseReadsUptoRow.holds Try.pinned (OpenSpec.upto qparseReadsSpec)

/-- 'loggialaw17.QparseBinds', WHERE WHAT IT READS IS OF BULK AT MOST 1048576: true; the input reads as it did. -/
def qparseBindsUptoRow : OpenClaim := { program := "ytceekocfmbcobaa", sum := "0f6f725eb3c82658496349736cab665d84d776e09eb01a74e1d1064230ca3c6c", func := "loggia/loggialaw17.QparseBinds", spec := "qparseBinds", inPlace := ["internal/bytealg.IndexByteString", "internal/bytealg.IndexString", "internal/abi.NoEscape"], unfollowed := true, recurses := true, named := ["internal/bytealg.MaxLen"], apart := false, narrowed := true }
def QparseBindsUptoSaid : Prop := qparseBindsUptoRow.holds Try.pinned (OpenSpec.upto qparseBindsSpec)

/-- 'loggialaw17.QparseBlanks', WHERE WHAT IT READS IS OF BULK AT MOST 1048576: true; the input reads as it did. -/
def qparseBlanksUptoRow : OpenClaim := { program := "ytceekocfmbcobaa", sum := "0f6f725eb3c82658496349736cab665d84d776e09eb01a74e1d1064230ca3c6c", func := "loggia/loggialaw17.QparseBlanks", spec := "qparseBlanks", inPlace := ["internal/bytealg.IndexByteString", "internal/bytealg.IndexString", "internal/abi.NoEscape"], unfollowed := true, recurses := true, named := ["internal/bytealg.MaxLen"], apart := false, narrowed := true }
def QparseBlanksUptoSaid : Prop := qparseBlanksUptoRow.holds Try.pinned (OpenSpec.upto qparseBlanksSpec)

/-- 'loggialaw17.QparseLimits', WHERE WHAT IT READS IS OF BULK AT MOST 1048576: true; the input reads as it did. -/
def qparseLimitsUptoRow : OpenClaim := { program := "ytceekocfmbcobaa", sum := "0f6f725eb3c82658496349736cab665d84d776e09eb01a74e1d1064230ca3c6c", func := "loggia/loggialaw17.QparseLimits", spec := "qparseLimits", inPlace := ["internal/bytealg.IndexByteString", "internal/bytealg.IndexString", "internal/abi.NoEscape"], unfollowed := true, recurses := true, named := ["internal/bytealg.MaxLen"], apart := false, narrowed := true }
def QparseLimitsUptoSaid : Prop := qparseLimitsUptoRow.holds Try.pinned (OpenSpec.upto qparseLimitsSpec)

/-- 'loggialaw25.CursorBytes', WHERE WHAT IT READS IS OF BULK AT MOST 1048576: true; the input reads as it did. -/
def cursorBytesUptoRow : OpenClaim := { program := "ytceekocfmbcobaa", sum := "0f6f725eb3c82658496349736cab665d84d776e09eb01a74e1d1064230ca3c6c", func := "loggia/loggialaw25.CursorBytes", spec := "cursorBytes", inPlace := ["internal/bytealg.IndexByteString", "internal/bytealg.IndexString", "internal/abi.NoEscape"], unfollowed := true, recurses := true, named := ["internal/bytealg.MaxLen"], apart := false, narrowed := true }
def CursorBytesUptoSaid : Prop := cursorBytesUptoRow.holds Try.pinned (OpenSpec.upto cursorBytesSpec)

/-- 'loggialaw25.CursorTurned', WHERE WHAT IT READS IS OF BULK AT MOST 1048576: true; the input reads as it did. -/
def cursorTurnedUptoRow : OpenClaim := { program := "ytceekocfmbcobaa", sum := "0f6f725eb3c82658496349736cab665d84d776e09eb01a74e1d1064230ca3c6c", func := "loggia/loggialaw25.CursorTurned", spec := "cursorTurned", inPlace := ["internal/bytealg.IndexByteString", "internal/bytealg.IndexString", "internal/abi.NoEscape"], unfollowed := true, recurses := true, named := ["internal/bytealg.MaxLen"], apart := false, narrowed := true }
def CursorTurnedUptoSaid : Prop := cursorTurnedUptoRow.holds Try.pinned (OpenSpec.upto cursorTurnedSpec)

/-- 'loggialaw25.CursorFollows', WHERE WHAT IT READS IS OF BULK AT MOST 1048576: true; the input reads as it did. -/
def cursorFollowsUptoRow : OpenClaim := { program := "ytceekocfmbcobaa", sum := "0f6f725eb3c82658496349736cab665d84d776e09eb01a74e1d1064230ca3c6c", func := "loggia/loggialaw25.CursorFollows", spec := "cursorFollows", inPlace := ["internal/bytealg.IndexByteString", "internal/bytealg.IndexString", "internal/abi.NoEscape"], unfollowed := true, recurses := true, named := ["internal/bytealg.MaxLen"], apart := false, narrowed := true }
def CursorFollowsUptoSaid : Prop := cursorFollowsUptoRow.holds Try.pinned (OpenSpec.upto cursorFollowsSpec)

/-- 'loggialaw25.CursorOnce', WHERE WHAT IT READS IS OF BULK AT MOST 1048576: true; the input reads as it did. -/
def cursorOnceUptoRow : OpenClaim := { program := "ytceekocfmbcobaa", sum := "0f6f725eb3c82658496349736cab665d84d776e09eb01a74e1d1064230ca3c6c", func := "loggia/loggialaw25.CursorOnce", spec := "cursorOnce", inPlace := ["internal/bytealg.IndexByteString", "internal/bytealg.IndexString", "internal/abi.NoEscape"], unfollowed := true, recurses := true, named := ["internal/bytealg.MaxLen"], apart := false, narrowed := true }
def CursorOnceUptoSaid : Prop := cursorOnceUptoRow.holds Try.pinned (OpenSpec.upto cursorOnceSpec)

end Rows
end Go.Proofs.Ytceekocfmbcobaa
