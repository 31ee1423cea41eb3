/- UtfTells: the law's walk. -/
import Derived.Test.YtambdddahbgelaaUtfY
namespace Go.Proofs.Ytambdddahbgelaa.Ut
open Go.RowKit

set_option maxRecDepth 20000 in
set_option maxHeartbeats 1600000 in
theorem tells_walk (r : Int) (s : ByteArray) (w : World) : Calls Try.prog 7 #[.int .i64 r, .string s] w fun e w' => e = .returned (.bool true) ∧ Below w.heap.size w w' := by
  have c0 := cut_any s w
  have hsz := ct_size 2000 s
  go_enter Try.func7, Try.ntmps7
  go_wp2_with fail
  refine c0.mono ?_
  rintro e w' ⟨rfl, rfl⟩
  generalize ct 2000 s = t at *
  have c1 := lower_any r w
  generalize hlo : lower r = lo at *
  go_wp2_with fail
  refine c1.mono ?_
  rintro e w1 ⟨rfl, hb1⟩
  have c2 := lower_ref r w1
  rw [hlo] at c2
  clear c0 c1 hlo
  go_wp2_with fail
  refine c2.mono ?_
  rintro e w2 ⟨rfl, rfl⟩
  have c3 := calls_from hb1 (word_any r w1)
  generalize hwo : isWord r = wo at *
  clear c2
  go_wp2_with fail
  refine c3.mono ?_
  rintro e w3 ⟨rfl, hb3⟩
  have c4 := word_ref r w3
  rw [hwo] at c4
  clear c3 hwo hb1
  go_wp2_with fail
  refine c4.mono ?_
  rintro e w4 ⟨rfl, rfl⟩
  have c5 := calls_from hb3 (fold_any t w3 (by omega))
  generalize hfo : str (fold t.data.toList) = fo at *
  clear c4
  go_wp2_with fail
  refine c5.mono ?_
  rintro e w5 ⟨rfl, hb5⟩
  have c6 := calls_from hb5 (fold_ref t w5 (by omega))
  rw [hfo] at c6
  clear c5 hfo hb3
  go_wp2_with fail
  refine c6.mono ?_
  rintro e w6 ⟨rfl, hb6⟩
  have c7 := calls_from hb6 (valid_any t w6 (by omega))
  generalize hva : valid t.data.toList = va at *
  clear c6 hb5
  go_wp2_with fail
  refine c7.mono ?_
  rintro e w7 ⟨rfl, hb7⟩
  have c8 := calls_from hb7 (valid_ref t w7 (by omega))
  rw [hva] at c8
  clear c7 hva hb6
  go_wp2_with fail
  refine c8.mono ?_
  rintro e w8 ⟨rfl, hb8⟩
  have c9 := calls_from hb8 (awake_any w8)
  clear c8 hb7
  go_wp2_with fail
  refine c9.mono ?_
  rintro e w9 ⟨rfl, hb9⟩
  go_wp2
  go_ret
  exact ⟨rfl, hb9⟩
end Go.Proofs.Ytambdddahbgelaa.Ut
