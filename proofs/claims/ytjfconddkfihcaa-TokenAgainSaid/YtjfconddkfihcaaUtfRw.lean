import Derived.Test.YtjfconddkfihcaaUtfH
namespace Go.Proofs.Ytjfconddkfihcaa.Ut
open Go.RowKit
set_option linter.unusedSimpArgs false in
set_option maxHeartbeats 1600000 in
theorem word_ref (r : Int) (w : World) : Calls Try.prog 64 #[.int .i64 r] w fun e w' => e = .returned (.bool (isWord r)) ∧ w = w' := by
  go_enter Try.func64, Try.ntmps64
  go_wp2
  all_goals
    go_ret
    refine ⟨congrArg (fun x => Ending.returned (Value.bool x)) ?_, rfl⟩
    unfold isWord
    rw [Bool.eq_iff_iff]
    try simp only [bne_iff_ne, ne_eq, bne_eq_false_iff_eq] at *
    simp only [Bool.or_eq_true, Bool.and_eq_true, decide_eq_true_eq, bne_iff_ne, ne_eq, Bool.false_eq_true, true_iff, false_iff, reduceCtorEq]
    first | omega | decide
end Go.Proofs.Ytjfconddkfihcaa.Ut
