/-
  NARROWER THAN 'FOR EVERY INPUT', by the rows' own cells (each row's printed sentence says how): MarkSpans: loops · MarkAway: loops · MarkHits: loops · MatchTells: loops · MatchLogic: loops · MatchNeeds: loops.
  DERIVED. THE GIVEN ROWS OF THIS SEAT. 11 by the template 'for every input the law returns true; each argument reads behind the call as it read before'; 0 by the template 'total and deterministic' (their statements: YtjfconddkfihcaaTotals.lean).
  GIVEN WITH THE SEED: the statements are not yours to turn. If you find one false, say at which input.
  Laid BY PROGRAM, IN A SANDBOX (cutbox-rows.mjs): the forced cells as the released guide's own fill.sh prints them over the translation f14a674c93e35f3a… (all of the seat's roots in one cut). By AI agents, Wed Nov 11 2026. No macro, syntax, notation, axiom, sorry.
-/
import Derived.Test.YtjfconddkfihcaaChecked
import GoSem.Claim
import GoSem.ClaimJoined
import GoSem.ClaimMapViews
import Derived.JoinedTies
import Derived.KernelRfl
namespace Go.Proofs.Ytjfconddkfihcaa
/- THE CELL 'sum', in the pinned program and in every row, IS THE sha256 OF THE DUMP (.gsa) THAT YtjfconddkfihcaaProg.lean LOADS. Nothing in Lean hashes anything: it is a label: what it is worth is what the hold of that sum in a sandbox is worth. -/
noncomputable def Try.pinned : Pinned := { name := "ytjfconddkfihcaa", sum := "f14a674c93e35f3af70e6258f1e5c3864d7a182f960d3ccc2ac7b278ebdf7bbc", checked := Try.checked }
namespace Rows
def none {H : Type} : Left H := { results := [], args := [] }

/-- 'loggialaw34.MarkRuns': WHATEVER THE INPUT: true; the input reads as it did. -/
def markRunsSpec : ChangeSpec := { name := "markRuns", fn := fun _ => fun
  | [d] => { results := [.lit (.bool true)], args := [d] }
  | _ => none }
def markRunsRow : OpenClaim := { program := "ytjfconddkfihcaa", sum := "f14a674c93e35f3af70e6258f1e5c3864d7a182f960d3ccc2ac7b278ebdf7bbc", func := "loggia/loggialaw34.MarkRuns", spec := "markRuns", inPlace := ["internal/abi.NoEscape"], unfollowed := true, recurses := true, apart := false }
def MarkRunsSaid : Prop := markRunsRow.holds Try.pinned (OpenSpec.ofChange markRunsSpec)

/-- ITS FALSE NEIGHBOUR: 'it returns false'. Refute it at one input. -/
def markRunsWrong : ChangeSpec := { name := "markRuns", fn := fun _ => fun
  | [d] => { results := [.lit (.bool false)], args := [d] }
  | _ => none }
def MarkRunsWrongFalsely : Prop := markRunsRow.holds Try.pinned (OpenSpec.ofChange markRunsWrong)

/-- 'loggialaw34.MarkSpans': WHATEVER THE INPUT: true; the input reads as it did. -/
def markSpansSpec : ChangeSpec := { name := "markSpans", fn := fun _ => fun
  | [d1, d2, d3] => { results := [.lit (.bool true)], args := [d1, d2, d3] }
  | _ => none }
def markSpansRow : OpenClaim := { program := "ytjfconddkfihcaa", sum := "f14a674c93e35f3af70e6258f1e5c3864d7a182f960d3ccc2ac7b278ebdf7bbc", func := "loggia/loggialaw34.MarkSpans", spec := "markSpans", inPlace := ["internal/abi.NoEscape"], unfollowed := true, recurses := true, loops := true, apart := false }
def MarkSpansSaid : Prop := markSpansRow.holds Try.pinned (OpenSpec.ofChange markSpansSpec)

/-- ITS FALSE NEIGHBOUR: 'it returns false'. Refute it at one input. -/
def markSpansWrong : ChangeSpec := { name := "markSpans", fn := fun _ => fun
  | [d1, d2, d3] => { results := [.lit (.bool false)], args := [d1, d2, d3] }
  | _ => none }
def MarkSpansWrongFalsely : Prop := markSpansRow.holds Try.pinned (OpenSpec.ofChange markSpansWrong)

/-- 'loggialaw34.MarkAway': WHATEVER THE INPUT: true; the input reads as it did. -/
def markAwaySpec : ChangeSpec := { name := "markAway", fn := fun _ => fun
  | [d1, d2, d3, d4] => { results := [.lit (.bool true)], args := [d1, d2, d3, d4] }
  | _ => none }
def markAwayRow : OpenClaim := { program := "ytjfconddkfihcaa", sum := "f14a674c93e35f3af70e6258f1e5c3864d7a182f960d3ccc2ac7b278ebdf7bbc", func := "loggia/loggialaw34.MarkAway", spec := "markAway", inPlace := ["internal/abi.NoEscape"], unfollowed := true, recurses := true, loops := true, apart := false }
def MarkAwaySaid : Prop := markAwayRow.holds Try.pinned (OpenSpec.ofChange markAwaySpec)

/-- ITS FALSE NEIGHBOUR: 'it returns false'. Refute it at one input. -/
def markAwayWrong : ChangeSpec := { name := "markAway", fn := fun _ => fun
  | [d1, d2, d3, d4] => { results := [.lit (.bool false)], args := [d1, d2, d3, d4] }
  | _ => none }
def MarkAwayWrongFalsely : Prop := markAwayRow.holds Try.pinned (OpenSpec.ofChange markAwayWrong)

/-- 'loggialaw34.MarkHits': WHATEVER THE INPUT: true; the input reads as it did. -/
def markHitsSpec : ChangeSpec := { name := "markHits", fn := fun _ => fun
  | [d1, d2] => { results := [.lit (.bool true)], args := [d1, d2] }
  | _ => none }
def markHitsRow : OpenClaim := { program := "ytjfconddkfihcaa", sum := "f14a674c93e35f3af70e6258f1e5c3864d7a182f960d3ccc2ac7b278ebdf7bbc", func := "loggia/loggialaw34.MarkHits", spec := "markHits", inPlace := ["internal/abi.NoEscape"], unfollowed := true, recurses := true, loops := true, apart := false }
def MarkHitsSaid : Prop := markHitsRow.holds Try.pinned (OpenSpec.ofChange markHitsSpec)

/-- ITS FALSE NEIGHBOUR: 'it returns false'. Refute it at one input. -/
def markHitsWrong : ChangeSpec := { name := "markHits", fn := fun _ => fun
  | [d1, d2] => { results := [.lit (.bool false)], args := [d1, d2] }
  | _ => none }
def MarkHitsWrongFalsely : Prop := markHitsRow.holds Try.pinned (OpenSpec.ofChange markHitsWrong)

/-- 'loggialaw34.MarkTexts': WHATEVER THE INPUT: true; the input reads as it did. -/
def markTextsSpec : ChangeSpec := { name := "markTexts", fn := fun _ => fun
  | [d1, d2, d3, d4] => { results := [.lit (.bool true)], args := [d1, d2, d3, d4] }
  | _ => none }
def markTextsRow : OpenClaim := { program := "ytjfconddkfihcaa", sum := "f14a674c93e35f3af70e6258f1e5c3864d7a182f960d3ccc2ac7b278ebdf7bbc", func := "loggia/loggialaw34.MarkTexts", spec := "markTexts", inPlace := ["internal/abi.NoEscape"], unfollowed := true, recurses := true, apart := false }
def MarkTextsSaid : Prop := markTextsRow.holds Try.pinned (OpenSpec.ofChange markTextsSpec)

/-- ITS FALSE NEIGHBOUR: 'it returns false'. Refute it at one input. -/
def markTextsWrong : ChangeSpec := { name := "markTexts", fn := fun _ => fun
  | [d1, d2, d3, d4] => { results := [.lit (.bool false)], args := [d1, d2, d3, d4] }
  | _ => none }
def MarkTextsWrongFalsely : Prop := markTextsRow.holds Try.pinned (OpenSpec.ofChange markTextsWrong)

/-- 'loggialaw07.TokenWords': WHATEVER THE INPUT: true; the input reads as it did. -/
def tokenWordsSpec : ChangeSpec := { name := "tokenWords", fn := fun _ => fun
  | [d] => { results := [.lit (.bool true)], args := [d] }
  | _ => none }
def tokenWordsRow : OpenClaim := { program := "ytjfconddkfihcaa", sum := "f14a674c93e35f3af70e6258f1e5c3864d7a182f960d3ccc2ac7b278ebdf7bbc", func := "loggia/loggialaw07.TokenWords", spec := "tokenWords", inPlace := ["internal/abi.NoEscape", "internal/bytealg.IndexByteString", "internal/bytealg.IndexString"], recurses := true, named := ["internal/bytealg.MaxLen"], apart := false }
def TokenWordsSaid : Prop := tokenWordsRow.holds Try.pinned (OpenSpec.ofChange tokenWordsSpec)

/-- ITS FALSE NEIGHBOUR: 'it returns false'. Refute it at one input. -/
def tokenWordsWrong : ChangeSpec := { name := "tokenWords", fn := fun _ => fun
  | [d] => { results := [.lit (.bool false)], args := [d] }
  | _ => none }
def TokenWordsWrongFalsely : Prop := tokenWordsRow.holds Try.pinned (OpenSpec.ofChange tokenWordsWrong)

/-- 'loggialaw07.TokenTerms': WHATEVER THE INPUT: true; the input reads as it did. -/
def tokenTermsSpec : ChangeSpec := { name := "tokenTerms", fn := fun _ => fun
  | [d1, d2, d3] => { results := [.lit (.bool true)], args := [d1, d2, d3] }
  | _ => none }
def tokenTermsRow : OpenClaim := { program := "ytjfconddkfihcaa", sum := "f14a674c93e35f3af70e6258f1e5c3864d7a182f960d3ccc2ac7b278ebdf7bbc", func := "loggia/loggialaw07.TokenTerms", spec := "tokenTerms", inPlace := ["internal/abi.NoEscape", "internal/bytealg.IndexByteString", "internal/bytealg.IndexString"], recurses := true, named := ["internal/bytealg.MaxLen"], apart := false }
def TokenTermsSaid : Prop := tokenTermsRow.holds Try.pinned (OpenSpec.ofChange tokenTermsSpec)

/-- ITS FALSE NEIGHBOUR: 'it returns false'. Refute it at one input. -/
def tokenTermsWrong : ChangeSpec := { name := "tokenTerms", fn := fun _ => fun
  | [d1, d2, d3] => { results := [.lit (.bool false)], args := [d1, d2, d3] }
  | _ => none }
def TokenTermsWrongFalsely : Prop := tokenTermsRow.holds Try.pinned (OpenSpec.ofChange tokenTermsWrong)

/-- 'loggialaw07.TokenAgain': WHATEVER THE INPUT: true; the input reads as it did. -/
def tokenAgainSpec : ChangeSpec := { name := "tokenAgain", fn := fun _ => fun
  | [d] => { results := [.lit (.bool true)], args := [d] }
  | _ => none }
def tokenAgainRow : OpenClaim := { program := "ytjfconddkfihcaa", sum := "f14a674c93e35f3af70e6258f1e5c3864d7a182f960d3ccc2ac7b278ebdf7bbc", func := "loggia/loggialaw07.TokenAgain", spec := "tokenAgain", inPlace := ["internal/abi.NoEscape", "internal/bytealg.IndexByteString", "internal/bytealg.IndexString"], named := ["internal/bytealg.MaxLen"], apart := false }
def TokenAgainSaid : Prop := tokenAgainRow.holds Try.pinned (OpenSpec.ofChange tokenAgainSpec)

/-- ITS FALSE NEIGHBOUR: 'it returns false'. Refute it at one input. -/
def tokenAgainWrong : ChangeSpec := { name := "tokenAgain", fn := fun _ => fun
  | [d] => { results := [.lit (.bool false)], args := [d] }
  | _ => none }
def TokenAgainWrongFalsely : Prop := tokenAgainRow.holds Try.pinned (OpenSpec.ofChange tokenAgainWrong)

/-- 'loggialaw19.MatchTells': WHATEVER THE INPUT: true; the input reads as it did. -/
def matchTellsSpec : ChangeSpec := { name := "matchTells", fn := fun _ => fun
  | [d1, d2] => { results := [.lit (.bool true)], args := [d1, d2] }
  | _ => none }
def matchTellsRow : OpenClaim := { program := "ytjfconddkfihcaa", sum := "f14a674c93e35f3af70e6258f1e5c3864d7a182f960d3ccc2ac7b278ebdf7bbc", func := "loggia/loggialaw19.MatchTells", spec := "matchTells", inPlace := ["internal/abi.NoEscape"], unfollowed := true, recurses := true, loops := true, apart := false }
def MatchTellsSaid : Prop := matchTellsRow.holds Try.pinned (OpenSpec.ofChange matchTellsSpec)

/-- ITS FALSE NEIGHBOUR: 'it returns false'. Refute it at one input. -/
def matchTellsWrong : ChangeSpec := { name := "matchTells", fn := fun _ => fun
  | [d1, d2] => { results := [.lit (.bool false)], args := [d1, d2] }
  | _ => none }
def MatchTellsWrongFalsely : Prop := matchTellsRow.holds Try.pinned (OpenSpec.ofChange matchTellsWrong)

/-- 'loggialaw19.MatchLogic': WHATEVER THE INPUT: true; the input reads as it did. -/
def matchLogicSpec : ChangeSpec := { name := "matchLogic", fn := fun _ => fun
  | [d1, d2, d3] => { results := [.lit (.bool true)], args := [d1, d2, d3] }
  | _ => none }
def matchLogicRow : OpenClaim := { program := "ytjfconddkfihcaa", sum := "f14a674c93e35f3af70e6258f1e5c3864d7a182f960d3ccc2ac7b278ebdf7bbc", func := "loggia/loggialaw19.MatchLogic", spec := "matchLogic", inPlace := ["internal/abi.NoEscape"], unfollowed := true, recurses := true, loops := true, apart := false }
def MatchLogicSaid : Prop := matchLogicRow.holds Try.pinned (OpenSpec.ofChange matchLogicSpec)

/-- ITS FALSE NEIGHBOUR: 'it returns false'. Refute it at one input. -/
def matchLogicWrong : ChangeSpec := { name := "matchLogic", fn := fun _ => fun
  | [d1, d2, d3] => { results := [.lit (.bool false)], args := [d1, d2, d3] }
  | _ => none }
def MatchLogicWrongFalsely : Prop := matchLogicRow.holds Try.pinned (OpenSpec.ofChange matchLogicWrong)

/-- 'loggialaw19.MatchNeeds': WHATEVER THE INPUT: true; the input reads as it did. -/
def matchNeedsSpec : ChangeSpec := { name := "matchNeeds", fn := fun _ => fun
  | [d1, d2] => { results := [.lit (.bool true)], args := [d1, d2] }
  | _ => none }
def matchNeedsRow : OpenClaim := { program := "ytjfconddkfihcaa", sum := "f14a674c93e35f3af70e6258f1e5c3864d7a182f960d3ccc2ac7b278ebdf7bbc", func := "loggia/loggialaw19.MatchNeeds", spec := "matchNeeds", inPlace := ["internal/abi.NoEscape", "internal/bytealg.IndexByteString", "internal/bytealg.IndexString"], unfollowed := true, recurses := true, named := ["internal/bytealg.MaxLen"], loops := true, apart := false }
def MatchNeedsSaid : Prop := matchNeedsRow.holds Try.pinned (OpenSpec.ofChange matchNeedsSpec)

/-- ITS FALSE NEIGHBOUR: 'it returns false'. Refute it at one input. -/
def matchNeedsWrong : ChangeSpec := { name := "matchNeeds", fn := fun _ => fun
  | [d1, d2] => { results := [.lit (.bool false)], args := [d1, d2] }
  | _ => none }
def MatchNeedsWrongFalsely : Prop := matchNeedsRow.holds Try.pinned (OpenSpec.ofChange matchNeedsWrong)

/- THE SECOND FORM. 'bulk': how many values and letters a reading holds, each counted each time it is reached (what is shared counts as often as it is met; a slice's spare places count too). A statement '..UptoSaid' is the law's where the arguments, and the package variables that the reading takes, are together of bulk at most 1048576: NARROWER than '..Said'. Prove '..Said' where nothing that the law and all that it calls make is longer than what came in: it says more and counts as full. Else prove '..UptoSaid'. A law counts once. -/
mutual
def uptoBulk {H : Type} : DataW H → Nat
  | .lit (.string bytes) => bytes.length + 1
  | .lit _ => 1
  | .nil => 1
  | .ptr d => uptoBulk d + 1
  | .slice elems spare => uptoBulkAll elems + uptoBulkAll spare + 1
  | .agg parts => uptoBulkAll parts + 1
  | .iface _ d => uptoBulk d + 1
  | .map entries => uptoBulkEntries entries + 1
  | .held _ => 1
def uptoBulkAll {H : Type} : List (DataW H) → Nat
  | [] => 0
  | d :: r => uptoBulk d + uptoBulkAll r
def uptoBulkEntries {H : Type} : List (Lit × DataW H) → Nat
  | [] => 0
  | x :: r => uptoBulkEntry x + uptoBulkEntries r
def uptoBulkEntry {H : Type} : Lit × DataW H → Nat
  | (.string bytes, d) => bytes.length + uptoBulk d + 1
  | (_, d) => uptoBulk d + 1
 end
def uptoSmall : (H : Type) → List (DataW H) → Bool := fun _ ds => decide (uptoBulkAll ds ≤ 1048576)
def OpenSpec.upto (s : _root_.Go.ChangeSpec) : _root_.Go.OpenSpec := { _root_.Go.OpenSpec.ofChange s with cond := some uptoSmall }

/-- 'loggialaw34.MarkRuns', WHERE WHAT IT READS IS OF BULK AT MOST 1048576: true; the input reads as it did. -/
def markRunsUptoRow : OpenClaim := { program := "ytjfconddkfihcaa", sum := "f14a674c93e35f3af70e6258f1e5c3864d7a182f960d3ccc2ac7b278ebdf7bbc", func := "loggia/loggialaw34.MarkRuns", spec := "markRuns", inPlace := ["internal/abi.NoEscape"], unfollowed := true, recurses := true, apart := false, narrowed := true }
def MarkRunsUptoSaid : Prop := markRunsUptoRow.holds Try.pinned (OpenSpec.upto markRunsSpec)

/-- 'loggialaw34.MarkSpans', WHERE WHAT IT READS IS OF BULK AT MOST 1048576: true; the input reads as it did. -/
def markSpansUptoRow : OpenClaim := { program := "ytjfconddkfihcaa", sum := "f14a674c93e35f3af70e6258f1e5c3864d7a182f960d3ccc2ac7b278ebdf7bbc", func := "loggia/loggialaw34.MarkSpans", spec := "markSpans", inPlace := ["internal/abi.NoEscape"], unfollowed := true, recurses := true, loops := true, apart := false, narrowed := true }
def MarkSpansUptoSaid : Prop := markSpansUptoRow.holds Try.pinned (OpenSpec.upto markSpansSpec)

/-- 'loggialaw34.MarkAway', WHERE WHAT IT READS IS OF BULK AT MOST 1048576: true; the input reads as it did. -/
def markAwayUptoRow : OpenClaim := { program := "ytjfconddkfihcaa", sum := "f14a674c93e35f3af70e6258f1e5c3864d7a182f960d3ccc2ac7b278ebdf7bbc", func := "loggia/loggialaw34.MarkAway", spec := "markAway", inPlace := ["internal/abi.NoEscape"], unfollowed := true, recurses := true, loops := true, apart := false, narrowed := true }
def MarkAwayUptoSaid : Prop := markAwayUptoRow.holds Try.pinned (OpenSpec.upto markAwaySpec)

/-- 'loggialaw34.MarkHits', WHERE WHAT IT READS IS OF BULK AT MOST 1048576: true; the input reads as it did. -/
def markHitsUptoRow : OpenClaim := { program := "ytjfconddkfihcaa", sum := "f14a674c93e35f3af70e6258f1e5c3864d7a182f960d3ccc2ac7b278ebdf7bbc", func := "loggia/loggialaw34.MarkHits", spec := "markHits", inPlace := ["internal/abi.NoEscape"], unfollowed := true, recurses := true, loops := true, apart := false, narrowed := true }
def MarkHitsUptoSaid : Prop := markHitsUptoRow.holds Try.pinned (OpenSpec.upto markHitsSpec)

/-- 'loggialaw34.MarkTexts', WHERE WHAT IT READS IS OF BULK AT MOST 1048576: true; the input reads as it did. -/
def markTextsUptoRow : OpenClaim := { program := "ytjfconddkfihcaa", sum := "f14a674c93e35f3af70e6258f1e5c3864d7a182f960d3ccc2ac7b278ebdf7bbc", func := "loggia/loggialaw34.MarkTexts", spec := "markTexts", inPlace := ["internal/abi.NoEscape"], unfollowed := true, recurses := true, apart := false, narrowed := true }
def MarkTextsUptoSaid : Prop := markTextsUptoRow.holds Try.pinned (OpenSpec.upto markTextsSpec)

/-- 'loggialaw07.TokenWords', WHERE WHAT IT READS IS OF BULK AT MOST 1048576: true; the input reads as it did. -/
def tokenWordsUptoRow : OpenClaim := { program := "ytjfconddkfihcaa", sum := "f14a674c93e35f3af70e6258f1e5c3864d7a182f960d3ccc2ac7b278ebdf7bbc", func := "loggia/loggialaw07.TokenWords", spec := "tokenWords", inPlace := ["internal/abi.NoEscape", "internal/bytealg.IndexByteString", "internal/bytealg.IndexString"], recurses := true, named := ["internal/bytealg.MaxLen"], apart := false, narrowed := true }
def TokenWordsUptoSaid : Prop := tokenWordsUptoRow.holds Try.pinned (OpenSpec.upto tokenWordsSpec)

/-- 'loggialaw07.TokenTerms', WHERE WHAT IT READS IS OF BULK AT MOST 1048576: true; the input reads as it did. -/
def tokenTermsUptoRow : OpenClaim := { program := "ytjfconddkfihcaa", sum := "f14a674c93e35f3af70e6258f1e5c3864d7a182f960d3ccc2ac7b278ebdf7bbc", func := "loggia/loggialaw07.TokenTerms", spec := "tokenTerms", inPlace := ["internal/abi.NoEscape", "internal/bytealg.IndexByteString", "internal/bytealg.IndexString"], recurses := true, named := ["internal/bytealg.MaxLen"], apart := false, narrowed := true }
def TokenTermsUptoSaid : Prop := tokenTermsUptoRow.holds Try.pinned (OpenSpec.upto tokenTermsSpec)

/-- 'loggialaw07.TokenAgain', WHERE WHAT IT READS IS OF BULK AT MOST 1048576: true; the input reads as it did. -/
def tokenAgainUptoRow : OpenClaim := { program := "ytjfconddkfihcaa", sum := "f14a674c93e35f3af70e6258f1e5c3864d7a182f960d3ccc2ac7b278ebdf7bbc", func := "loggia/loggialaw07.TokenAgain", spec := "tokenAgain", inPlace := ["internal/abi.NoEscape", "internal/bytealg.IndexByteString", "internal/bytealg.IndexString"], named := ["internal/bytealg.MaxLen"], apart := false, narrowed := true }
def TokenAgainUptoSaid : Prop := tokenAgainUptoRow.holds Try.pinned (OpenSpec.upto tokenAgainSpec)

/-- 'loggialaw19.MatchTells', WHERE WHAT IT READS IS OF BULK AT MOST 1048576: true; the input reads as it did. -/
def matchTellsUptoRow : OpenClaim := { program := "ytjfconddkfihcaa", sum := "f14a674c93e35f3af70e6258f1e5c3864d7a182f960d3ccc2ac7b278ebdf7bbc", func := "loggia/loggialaw19.MatchTells", spec := "matchTells", inPlace := ["internal/abi.NoEscape"], unfollowed := true, recurses := true, loops := true, apart := false, narrowed := true }
def MatchTellsUptoSaid : Prop := matchTellsUptoRow.holds Try.pinned (OpenSpec.upto matchTellsSpec)

/-- 'loggialaw19.MatchLogic', WHERE WHAT IT READS IS OF BULK AT MOST 1048576: true; the input reads as it did. -/
def matchLogicUptoRow : OpenClaim := { program := "ytjfconddkfihcaa", sum := "f14a674c93e35f3af70e6258f1e5c3864d7a182f960d3ccc2ac7b278ebdf7bbc", func := "loggia/loggialaw19.MatchLogic", spec := "matchLogic", inPlace := ["internal/abi.NoEscape"], unfollowed := true, recurses := true, loops := true, apart := false, narrowed := true }
def MatchLogicUptoSaid : Prop := matchLogicUptoRow.holds Try.pinned (OpenSpec.upto matchLogicSpec)

/-- 'loggialaw19.MatchNeeds', WHERE WHAT IT READS IS OF BULK AT MOST 1048576: true; the input reads as it did. -/
def matchNeedsUptoRow : OpenClaim := { program := "ytjfconddkfihcaa", sum := "f14a674c93e35f3af70e6258f1e5c3864d7a182f960d3ccc2ac7b278ebdf7bbc", func := "loggia/loggialaw19.MatchNeeds", spec := "matchNeeds", inPlace := ["internal/abi.NoEscape", "internal/bytealg.IndexByteString", "internal/bytealg.IndexString"], unfollowed := true, recurses := true, named := ["internal/bytealg.MaxLen"], loops := true, apart := false, narrowed := true }
def MatchNeedsUptoSaid : Prop := matchNeedsUptoRow.holds Try.pinned (OpenSpec.upto matchNeedsSpec)

end Rows
end Go.Proofs.Ytjfconddkfihcaa
