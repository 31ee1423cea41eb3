/-
  No cell of these rows narrows 'for every input' (looked for: loops, veiled, ifaces, maps, wideKeys, modest, calm, conditions, laid).
  DERIVED. THE GIVEN ROWS OF THIS SEAT. 6 by the template 'for every input the law returns true; each argument reads behind the call as it read before'; 0 by the template 'total and deterministic' (their statements: YtlfpfkallgkjdaaGreatTotals.lean).
  GIVEN WITH THE SEED: the statements are not yours to turn. If you find one false, say at which input.
  Laid BY PROGRAM, IN A SANDBOX (cutbox-rows.mjs): the forced cells as the released guide's own fill.sh prints them over the translation 515dfe78336f6484… (all of the seat's roots in one cut). By AI agents, Wed Nov 11 2026. No macro, syntax, notation, axiom, sorry.
-/
import Derived.Test.YtlfpfkallgkjdaaGreatChecked
import GoSem.Claim
import GoSem.ClaimJoined
import GoSem.ClaimMapViews
import Derived.JoinedTies
import Derived.KernelRfl
namespace Go.Proofs.YtlfpfkallgkjdaaGreat
/- THE CELL 'sum', in the pinned program and in every row, IS THE sha256 OF THE DUMP (.gsa) THAT YtlfpfkallgkjdaaGreatProg.lean LOADS. Nothing in Lean hashes anything: it is a label: what it is worth is what the hold of that sum in a sandbox is worth. -/
noncomputable def Tryz.pinned : Pinned := { name := "ytlfpfkallgkjdaagreat", sum := "515dfe78336f6484587499590f80ae3f325b4af2365237736c8999889f7b1199", checked := Tryz.checked }
namespace Rows
def none {H : Type} : Left H := { results := [], args := [] }

/-- 'loggialaw32.AlertMany': WHATEVER THE INPUT: true; the input reads as it did. -/
def alertManySpec : ChangeSpec := { name := "alertMany", fn := fun _ => fun
  | [d] => { results := [.lit (.bool true)], args := [d] }
  | _ => none }
def alertManyRow : OpenClaim := { program := "ytlfpfkallgkjdaagreat", sum := "515dfe78336f6484587499590f80ae3f325b4af2365237736c8999889f7b1199", func := "loggia/loggialaw32.AlertMany", spec := "alertMany", inPlace := ["internal/bytealg.IndexByteString", "internal/bytealg.IndexString", "internal/abi.NoEscape", "internal/bytealg.abigen_runtime_cmpstring"], unfollowed := true, recurses := true, named := ["internal/bytealg.MaxLen"], apart := false }
def AlertManySaid : Prop := alertManyRow.holds Tryz.pinned (OpenSpec.ofChange alertManySpec)

/-- ITS FALSE NEIGHBOUR: 'it returns false'. Refute it at one input. -/
def alertManyWrong : ChangeSpec := { name := "alertMany", fn := fun _ => fun
  | [d] => { results := [.lit (.bool false)], args := [d] }
  | _ => none }
def AlertManyWrongFalsely : Prop := alertManyRow.holds Tryz.pinned (OpenSpec.ofChange alertManyWrong)

/-- 'loggialaw32.AlertAsks': WHATEVER THE INPUT: true; the input reads as it did. -/
def alertAsksSpec : ChangeSpec := { name := "alertAsks", fn := fun _ => fun
  | [d1, d2] => { results := [.lit (.bool true)], args := [d1, d2] }
  | _ => none }
def alertAsksRow : OpenClaim := { program := "ytlfpfkallgkjdaagreat", sum := "515dfe78336f6484587499590f80ae3f325b4af2365237736c8999889f7b1199", func := "loggia/loggialaw32.AlertAsks", spec := "alertAsks", inPlace := ["internal/bytealg.IndexByteString", "internal/bytealg.IndexString", "internal/abi.NoEscape", "internal/bytealg.abigen_runtime_cmpstring"], unfollowed := true, recurses := true, named := ["internal/bytealg.MaxLen"], apart := false }
def AlertAsksSaid : Prop := alertAsksRow.holds Tryz.pinned (OpenSpec.ofChange alertAsksSpec)

/-- ITS FALSE NEIGHBOUR: 'it returns false'. Refute it at one input. -/
def alertAsksWrong : ChangeSpec := { name := "alertAsks", fn := fun _ => fun
  | [d1, d2] => { results := [.lit (.bool false)], args := [d1, d2] }
  | _ => none }
def AlertAsksWrongFalsely : Prop := alertAsksRow.holds Tryz.pinned (OpenSpec.ofChange alertAsksWrong)

/-- 'loggialaw32.AlertAlone': WHATEVER THE INPUT: true; the input reads as it did. -/
def alertAloneSpec : ChangeSpec := { name := "alertAlone", fn := fun _ => fun
  | [d1, d2, d3] => { results := [.lit (.bool true)], args := [d1, d2, d3] }
  | _ => none }
def alertAloneRow : OpenClaim := { program := "ytlfpfkallgkjdaagreat", sum := "515dfe78336f6484587499590f80ae3f325b4af2365237736c8999889f7b1199", func := "loggia/loggialaw32.AlertAlone", spec := "alertAlone", inPlace := ["internal/bytealg.IndexByteString", "internal/bytealg.IndexString", "internal/abi.NoEscape", "internal/bytealg.abigen_runtime_cmpstring"], unfollowed := true, recurses := true, named := ["internal/bytealg.MaxLen"], apart := false }
def AlertAloneSaid : Prop := alertAloneRow.holds Tryz.pinned (OpenSpec.ofChange alertAloneSpec)

/-- ITS FALSE NEIGHBOUR: 'it returns false'. Refute it at one input. -/
def alertAloneWrong : ChangeSpec := { name := "alertAlone", fn := fun _ => fun
  | [d1, d2, d3] => { results := [.lit (.bool false)], args := [d1, d2, d3] }
  | _ => none }
def AlertAloneWrongFalsely : Prop := alertAloneRow.holds Tryz.pinned (OpenSpec.ofChange alertAloneWrong)

/-- 'loggialaw32.AlertRuns': WHATEVER THE INPUT: true; the input reads as it did. -/
def alertRunsSpec : ChangeSpec := { name := "alertRuns", fn := fun _ => fun
  | [d1, d2] => { results := [.lit (.bool true)], args := [d1, d2] }
  | _ => none }
def alertRunsRow : OpenClaim := { program := "ytlfpfkallgkjdaagreat", sum := "515dfe78336f6484587499590f80ae3f325b4af2365237736c8999889f7b1199", func := "loggia/loggialaw32.AlertRuns", spec := "alertRuns", inPlace := ["internal/bytealg.IndexByteString", "internal/bytealg.IndexString", "internal/abi.NoEscape", "internal/bytealg.abigen_runtime_cmpstring"], unfollowed := true, recurses := true, named := ["internal/bytealg.MaxLen"], apart := false }
def AlertRunsSaid : Prop := alertRunsRow.holds Tryz.pinned (OpenSpec.ofChange alertRunsSpec)

/-- ITS FALSE NEIGHBOUR: 'it returns false'. Refute it at one input. -/
def alertRunsWrong : ChangeSpec := { name := "alertRuns", fn := fun _ => fun
  | [d1, d2] => { results := [.lit (.bool false)], args := [d1, d2] }
  | _ => none }
def AlertRunsWrongFalsely : Prop := alertRunsRow.holds Tryz.pinned (OpenSpec.ofChange alertRunsWrong)

/-- 'loggialaw32.AlertBatches': WHATEVER THE INPUT: true; the input reads as it did. -/
def alertBatchesSpec : ChangeSpec := { name := "alertBatches", fn := fun _ => fun
  | [d1, d2] => { results := [.lit (.bool true)], args := [d1, d2] }
  | _ => none }
def alertBatchesRow : OpenClaim := { program := "ytlfpfkallgkjdaagreat", sum := "515dfe78336f6484587499590f80ae3f325b4af2365237736c8999889f7b1199", func := "loggia/loggialaw32.AlertBatches", spec := "alertBatches", inPlace := ["internal/bytealg.IndexByteString", "internal/bytealg.IndexString", "internal/abi.NoEscape", "internal/bytealg.abigen_runtime_cmpstring"], unfollowed := true, recurses := true, named := ["internal/bytealg.MaxLen"], apart := false }
def AlertBatchesSaid : Prop := alertBatchesRow.holds Tryz.pinned (OpenSpec.ofChange alertBatchesSpec)

/-- ITS FALSE NEIGHBOUR: 'it returns false'. Refute it at one input. -/
def alertBatchesWrong : ChangeSpec := { name := "alertBatches", fn := fun _ => fun
  | [d1, d2] => { results := [.lit (.bool false)], args := [d1, d2] }
  | _ => none }
def AlertBatchesWrongFalsely : Prop := alertBatchesRow.holds Tryz.pinned (OpenSpec.ofChange alertBatchesWrong)

/-- 'loggialaw32.AlertNobody': WHATEVER THE INPUT: true; the input reads as it did. -/
def alertNobodySpec : ChangeSpec := { name := "alertNobody", fn := fun _ => fun
  | [d1, d2, d3] => { results := [.lit (.bool true)], args := [d1, d2, d3] }
  | _ => none }
def alertNobodyRow : OpenClaim := { program := "ytlfpfkallgkjdaagreat", sum := "515dfe78336f6484587499590f80ae3f325b4af2365237736c8999889f7b1199", func := "loggia/loggialaw32.AlertNobody", spec := "alertNobody", inPlace := ["internal/abi.NoEscape", "internal/bytealg.abigen_runtime_cmpstring", "internal/bytealg.IndexByteString", "internal/bytealg.IndexString"], unfollowed := true, recurses := true, named := ["internal/bytealg.MaxLen"], apart := false }
def AlertNobodySaid : Prop := alertNobodyRow.holds Tryz.pinned (OpenSpec.ofChange alertNobodySpec)

/-- ITS FALSE NEIGHBOUR: 'it returns false'. Refute it at one input. -/
def alertNobodyWrong : ChangeSpec := { name := "alertNobody", fn := fun _ => fun
  | [d1, d2, d3] => { results := [.lit (.bool false)], args := [d1, d2, d3] }
  | _ => none }
def AlertNobodyWrongFalsely : Prop := alertNobodyRow.holds Tryz.pinned (OpenSpec.ofChange alertNobodyWrong)

/- THE SECOND FORM. 'bulk': how many values and letters a reading holds, each counted each time it is reached (what is shared counts as often as it is met; a slice's spare places count too). A statement '..UptoSaid' is the law's where the arguments, and the package variables that the reading takes, are together of bulk at most 1048576: NARROWER than '..Said'. Prove '..Said' where nothing that the law and all that it calls make is longer than what came in: it says more and counts as full. Else prove '..UptoSaid'. A law counts once. -/
mutual
def uptoBulk {H : Type} : DataW H → Nat
  | .lit (.string bytes) => bytes.length + 1
  | .lit _ => 1
  | .nil => 1
  | .ptr d => uptoBulk d + 1
  | .slice elems spare => uptoBulkAll elems + uptoBulkAll spare + 1
  | .agg parts => uptoBulkAll parts + 1
  | .iface _ d => uptoBulk d + 1
  | .map entries => uptoBulkEntries entries + 1
  | .held _ => 1
def uptoBulkAll {H : Type} : List (DataW H) → Nat
  | [] => 0
  | d :: r => uptoBulk d + uptoBulkAll r
def uptoBulkEntries {H : Type} : List (Lit × DataW H) → Nat
  | [] => 0
  | x :: r => uptoBulkEntry x + uptoBulkEntries r
def uptoBulkEntry {H : Type} : Lit × DataW H → Nat
  | (.string bytes, d) => bytes.length + uptoBulk d + 1
  | (_, d) => uptoBulk d + 1
 end
def uptoSmall : (H : Type) → List (DataW H) → Bool := fun _ ds => decide (uptoBulkAll ds ≤ 1048576)
def OpenSpec.upto (s : _root_.Go.ChangeSpec) : _root_.Go.OpenSpec := { _root_.Go.OpenSpec.ofChange s with cond := some uptoSmall }

/-- 'loggialaw32.AlertMany', WHERE WHAT IT READS IS OF BULK AT MOST 1048576: true; the input reads as it did. -/
def alertManyUptoRow : OpenClaim := { program := "ytlfpfkallgkjdaagreat", sum := "515dfe78336f6484587499590f80ae3f325b4af2365237736c8999889f7b1199", func := "loggia/loggialaw32.AlertMany", spec := "alertMany", inPlace := ["internal/bytealg.IndexByteString", "internal/bytealg.IndexString", "internal/abi.NoEscape", "internal/bytealg.abigen_runtime_cmpstring"], unfollowed := true, recurses := true, named := ["internal/bytealg.MaxLen"], apart := false, narrowed := true }
def AlertManyUptoSaid : Prop := alertManyUptoRow.holds Tryz.pinned (OpenSpec.upto alertManySpec)

/-- 'loggialaw32.AlertAsks', WHERE WHAT IT READS IS OF BULK AT MOST 1048576: true; the input reads as it did. -/
def alertAsksUptoRow : OpenClaim := { program := "ytlfpfkallgkjdaagreat", sum := "515dfe78336f6484587499590f80ae3f325b4af2365237736c8999889f7b1199", func := "loggia/loggialaw32.AlertAsks", spec := "alertAsks", inPlace := ["internal/bytealg.IndexByteString", "internal/bytealg.IndexString", "internal/abi.NoEscape", "internal/bytealg.abigen_runtime_cmpstring"], unfollowed := true, recurses := true, named := ["internal/bytealg.MaxLen"], apart := false, narrowed := true }
def AlertAsksUptoSaid : Prop := alertAsksUptoRow.holds Tryz.pinned (OpenSpec.upto alertAsksSpec)

/-- 'loggialaw32.AlertAlone', WHERE WHAT IT READS IS OF BULK AT MOST 1048576: true; the input reads as it did. -/
def alertAloneUptoRow : OpenClaim := { program := "ytlfpfkallgkjdaagreat", sum := "515dfe78336f6484587499590f80ae3f325b4af2365237736c8999889f7b1199", func := "loggia/loggialaw32.AlertAlone", spec := "alertAlone", inPlace := ["internal/bytealg.IndexByteString", "internal/bytealg.IndexString", "internal/abi.NoEscape", "internal/bytealg.abigen_runtime_cmpstring"], unfollowed := true, recurses := true, named := ["internal/bytealg.MaxLen"], apart := false, narrowed := true }
def AlertAloneUptoSaid : Prop := alertAloneUptoRow.holds Tryz.pinned (OpenSpec.upto alertAloneSpec)

/-- 'loggialaw32.AlertRuns', WHERE WHAT IT READS IS OF BULK AT MOST 1048576: true; the input reads as it did. -/
def alertRunsUptoRow : OpenClaim := { program := "ytlfpfkallgkjdaagreat", sum := "515dfe78336f6484587499590f80ae3f325b4af2365237736c8999889f7b1199", func := "loggia/loggialaw32.AlertRuns", spec := "alertRuns", inPlace := ["internal/bytealg.IndexByteString", "internal/bytealg.IndexString", "internal/abi.NoEscape", "internal/bytealg.abigen_runtime_cmpstring"], unfollowed := true, recurses := true, named := ["internal/bytealg.MaxLen"], apart := false, narrowed := true }
def AlertRunsUptoSaid : Prop := alertRunsUptoRow.holds Tryz.pinned (OpenSpec.upto alertRunsSpec)

/-- 'loggialaw32.AlertBatches', WHERE WHAT IT READS IS OF BULK AT MOST 1048576: true; the input reads as it did. -/
def alertBatchesUptoRow : OpenClaim := { program := "ytlfpfkallgkjdaagreat", sum := "515dfe78336f6484587499590f80ae3f325b4af2365237736c8999889f7b1199", func := "loggia/loggialaw32.AlertBatches", spec := "alertBatches", inPlace := ["internal/bytealg.IndexByteString", "internal/bytealg.IndexString", "internal/abi.NoEscape", "internal/bytealg.abigen_runtime_cmpstring"], unfollowed := true, recurses := true, named := ["internal/bytealg.MaxLen"], apart := false, narrowed := true }
def AlertBatchesUptoSaid : Prop := alertBatchesUptoRow.holds Tryz.pinned (OpenSpec.upto alertBatchesSpec)

/-- 'loggialaw32.AlertNobody', WHERE WHAT IT READS IS OF BULK AT MOST 1048576: true; the input reads as it did. -/
def alertNobodyUptoRow : OpenClaim := { program := "ytlfpfkallgkjdaagreat", sum := "515dfe78336f6484587499590f80ae3f325b4af2365237736c8999889f7b1199", func := "loggia/loggialaw32.AlertNobody", spec := "alertNobody", inPlace := ["internal/abi.NoEscape", "internal/bytealg.abigen_runtime_cmpstring", "internal/bytealg.IndexByteString", "internal/bytealg.IndexString"], unfollowed := true, recurses := true, named := ["internal/bytealg.MaxLen"], apart := false, narrowed := true }
def AlertNobodyUptoSaid : Prop := alertNobodyUptoRow.holds Tryz.pinned (OpenSpec.upto alertNobodySpec)

end Rows
end Go.Proofs.YtlfpfkallgkjdaaGreat
