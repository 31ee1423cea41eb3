/- loggialaw34.awake: the page's example. -/
import Derived.Test.YtjfconddkfihcaaMkHPk
import Derived.Test.YtjfconddkfihcaaNeedLPk
namespace Go.Proofs.Ytjfconddkfihcaa.Mk
open Go.RowKit Go.Proofs.Ytjfconddkfihcaa Go.Proofs.Ytjfconddkfihcaa.Ut Go.Proofs.Ytjfconddkfihcaa.Tk Go.Proofs.Ytjfconddkfihcaa.Qy
set_option maxRecDepth 20000
set_option linter.unusedSimpArgs false

def exS : ByteArray := ⟨#[68, 105, 115, 107, 32, 70, 85, 76, 76, 44, 32, 102, 117, 108, 108]⟩
def exM : ByteArray := ⟨#[109, 115, 103]⟩
def exF : ByteArray := ⟨#[102, 117, 108, 108]⟩
def exQ : Q := .mk 2 exM [exF] []
def exL : List (Nat × Nat) := [(5, 9), (11, 15)]
theorem ex_spans : spansQ exQ exM exS = exL := by decide +kernel
theorem ex_ok : okS 0 exS.size exL := by
  unfold exL okS okS okS
  decide
theorem ex_text : str (textN exS.data.toList [91] [93] 0 exL) = ⟨#[68, 105, 115, 107, 32, 91, 70, 85, 76, 76, 93, 44, 32, 91, 102, 117, 108, 108, 93]⟩ := by decide +kernel
theorem span_self (a b : Int) (w : World) : (binOp .eql 45 (.agg #[.int .i64 a, .int .i64 b]) (.agg #[.int .i64 a, .int .i64 b])).run Try.prog w = .ok (.bool true) w := by
  have u3 := Try.underlying3
  have a3 := Try.isAgg3
  have z3 := Try.sizeOf3
  have hS : Try.prog.underlying 45 = some (.struct (Try.prog.fieldsOf 45)) := by kernel_rfl
  have hp : Try.prog.stoodInHeld 45 = false := by kernel_rfl
  rw [run_eql_struct, show (10000 : Nat) = 9999 + 1 from rfl, run_equalIn_agg w 9999 45 _ _ hS hp]
  simp only [Program.fieldsOf, Try.underlying45]
  go_simp
set_option maxHeartbeats 1600000 in
theorem full_any (w : World) : Calls Try.prog 65 #[] w fun e w' => ∃ g, e = .returned (.agg #[.int .i64 2, .string exM, .slice (some ⟨g, 0, none⟩) 1 1, .slice none 0 0]) ∧ w'.cell? ⟨g, 0, none⟩ = some (.string exF) ∧ Below w.heap.size w w' := by
  have hh := (Blk.new w 37 #[.int .i64 2, .string exM, .slice (some ⟨w.heap.size + 1, 0, none⟩) 1 1, .slice none 0 0]).alloc (.cells #[.string exF] 9)
  have hg := (Blk.new (w.alloc (.cells #[.int .i64 2, .string exM, .slice (some ⟨w.heap.size + 1, 0, none⟩) 1 1, .slice none 0 0] 37)) 9 #[.string exF]).cell 0
  rw [World.size_alloc] at hg
  go_enter Try.func65, Try.ntmps65
  go_wp2
  exact bodyPost_ret (results_cell rfl rfl (run_loadVar_row _ w.heap.size 37 37 #[.int .i64 2, .string exM, .slice (some ⟨w.heap.size + 1, 0, none⟩) 1 1, .slice none 0 0] (0, 0) _ hh Try.underlying37 rfl (by kernel_rfl))) rfl ⟨_, rfl, hg, ((Below.refl _ _).alloc (Nat.le_refl _) _).alloc (by simp) _⟩
set_option maxHeartbeats 1600000 in
theorem awake_any (w : World) : Calls Try.prog 20 #[] w fun e w' => e = .returned (.bool true) ∧ Below w.heap.size w w' := by
  have cf := full_any w
  go_enter Try.func20, Try.ntmps20
  go_wp2_with fail
  refine cf.mono ?_
  rintro e w1 ⟨g, rfl, hg, hb1⟩
  have hQ : QAt w1 w1.heap.size exQ [.int .i64 2, .string exM, .slice (some ⟨g, 0, none⟩) 1 1, .slice none 0 0] := .mk [] rfl ⟨rfl, fun _ => ⟨g, 0, rfl, World.block_lt_of_cell? w1 _ hg, fun j u hu => by
    match j with
    | 0 => simp [exQ] at hu; subst hu; exact hg
    | j + 1 => simp at hu⟩⟩ rfl rfl (by simp) Reads.none_ (fun i hi => absurd hi (by simp))
  have c2 := spans_any exQ (by decide) _ _ _ _ exM exS (by decide) w1 hQ
  rw [ex_spans] at c2
  have Hb1 := Lib.hid hb1
  clear cf hb1 hQ hg
  go_wp2_with fail
  refine c2.mono ?_
  rintro e w2 ⟨v, rfl, hown, hb2⟩
  obtain ⟨A, c, rfl, hR⟩ := own_shape hown
  have Hb2 := Lib.hid (Hb1.out.trans (hb2.mono Hb1.out.size))
  have c3 := text_ok exS ⟨#[91]⟩ ⟨#[93]⟩ A c exL ex_ok (by decide) (by decide) w2 hR
  have HR := Lib.hid hR
  clear c2 hown hb2 hR Hb1
  go_wp2_with fail
  refine c3.mono ?_
  rintro e w3 ⟨rfl, hb3⟩
  have Hb3 := Lib.hid (Hb2.out.trans (hb3.mono Hb2.out.size))
  obtain ⟨b, o, rfl, hbb, y0, y1⟩ := spans_at (reads_grow hb3 HR.out) (k := 0) (by decide)
  obtain ⟨b', o', e2, _, y2, y3⟩ := spans_at (reads_grow hb3 HR.out) (k := 1) (by decide)
  injection e2 with e2
  injection e2 with e2 e3
  subst e2 e3
  have y0 : w3.cell? ⟨b, o, none⟩ = some (.int .i64 5) := by simpa [exL] using y0
  have y1 : w3.cell? ⟨b, o + 1, none⟩ = some (.int .i64 9) := by simpa [exL] using y1
  have y2 : w3.cell? ⟨b, o + 2, none⟩ = some (.int .i64 11) := by simpa [exL] using y2
  have y3 : w3.cell? ⟨b, o + 2 + 1, none⟩ = some (.int .i64 15) := by simpa [exL] using y3
  have s1 := span_self 5 9
  have s2 := span_self 11 15
  have ht := ex_text
  clear c3 hb3 HR Hb2
  go_wp2
  go_ret
  exact ⟨rfl, Hb3.out⟩
end Go.Proofs.Ytjfconddkfihcaa.Mk
