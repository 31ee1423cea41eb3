/- append of any slice that reads; rows of ints. -/
import Derived.Test.YthhklbjhlfejfaaHistCa
import Derived.Test.YthhklbjhlfejfaaHistMerges
namespace Go.Proofs.Ythhklbjhlfejfaa.Hi
open Go.RowKit
set_option maxRecDepth 20000
theorem wpList_append_any {P : Program} {w : World} {ops : Array Oper} {rest : List Oper} {o : Oper} {a : Act} {Q : Exit → Act → World → Prop} (hgd : o.guard = none) (s x : Operand) (t : TypeId)
    (ho : o.op = .call { callee := .builtin .append, args := #[s, x], argTypes := #[t, t] })
    (base : Nat) (e : TypeId) (i : TypeInfo) (z : Value) (size bytes : Nat) (ht : P.underlying t = some (.slice e)) (hi : P.info? e = some i) (hz : i.zero = some z)
    (hsize : i.size = size) (hby : i.bytes = bytes) (hzs : z.cells.size = size) (hsz : 0 < size)
    (v : Value) (n : Nat) (xs : List Value) (hs : a.eval s = v) (hown : w.ownsRow base e size v n xs)
    (A : Option Addr) (m c B : Nat) (news : List Value) (hx : a.eval x = .slice A m c) (hR : Reads w B size A m news) (hA : A = none → c = 0) (h1 : ∀ u ∈ news, u.oneCell' = true)
    (h63 : n + m ≤ maxLen) (hbytes : (n + m) * bytes ≤ 140737488355328) (hbase : base ≤ w.heap.size)
    (h : ∀ v' w', w'.ownsRow base e size v' (n + m) (xs ++ news) → w.grownBy w' v.ownBlock → wpList P ops Q rest (a.put o.dst v') w') : wpList P ops Q (o :: rest) a w := by
  rcases A with _ | ad
  · have hm : m = 0 := by
      rcases Nat.eq_zero_or_pos m with h0 | h0
      · exact h0
      · obtain ⟨b, o, e, _⟩ := hR.2 h0; cases e
    have hc := hA rfl
    subst hm hc
    have hn : news = [] := List.eq_nil_of_length_eq_zero (by rw [hR.1]; omega)
    subst hn
    refine wpList_append_own_none hgd s x t ho base e i size ht hi v n xs hs hown hx ?_
    exact h v w (by rw [List.append_nil]; exact hown) ⟨rfl, rfl, rfl, Nat.le_refl _, fun _ _ _ => rfl⟩
  · refine wpList_append_own w hgd s x t ho base e i z size bytes ht hi hz hsize hby hzs hsz v n xs hs hown ad m c news hx hR.1 ?_ h1 h63 hbytes hbase (fun v' w' a b _ => h v' w' a b)
    intro j u hu
    rcases Nat.eq_zero_or_pos m with h0 | h0
    · subst h0
      have hn : news = [] := List.eq_nil_of_length_eq_zero (by rw [hR.1]; omega)
      subst hn
      cases hu
    · obtain ⟨b, o, e, _, hc⟩ := hR.2 h0
      cases e
      rw [add_lit]
      exact hc j u hu
theorem int_info : (Try.prog.info? 3).map (fun i => (i.zero, i.size, i.bytes)) = some (some (.int .i64 0), 1, 8) := by kernel_rfl
def iV (ts : List Int) : List Value := ts.map (Value.int .i64)
theorem iV_one (ts : List Int) : ∀ u ∈ iV ts, u.oneCell' = true := by
  intro u hu
  obtain ⟨t, _, rfl⟩ := List.mem_map.1 hu
  rfl
theorem rows_two (w : World) (r1 r2 : Rw) (h1 : InB w w.heap.size r1.A r1.c r1.l) (h2 : InB w w.heap.size r2.A r2.c r2.l) (l1 : r1.l.length ≤ 60) (l2 : r2.l.length ≤ 60) (t : TypeId) :
    RowsIn (w.alloc (.cells #[r1.val, r2.val] t)) (w.alloc (.cells #[r1.val, r2.val] t)).heap.size (some ⟨w.heap.size, 0, none⟩) [r1, r2] := by
  have hb : Below w.heap.size w (w.alloc (.cells #[r1.val, r2.val] t)) := (Below.refl _ _).alloc (Nat.le_refl _) _
  have hs := hb.size
  refine ⟨?_, ?_⟩
  · have := reads_blk (Blk.new w t #[r1.val, r2.val]) 2 1 rfl _ rfl
    rw [World.size_alloc]
    exact this
  · intro r hr
    simp only [List.mem_cons, List.not_mem_nil, or_false] at hr
    rcases hr with rfl | rfl
    · exact ⟨⟨(h1.rd.below hb).more hs, h1.cap, h1.nil⟩, by omega⟩
    · exact ⟨⟨(h2.rd.below hb).more hs, h2.cap, h2.nil⟩, by omega⟩
theorem own_in {w : World} {base : Nat} {v : Value} {l : List Bk} (h : OwnB w base v l) : ∃ A c, v = .slice A l.length c ∧ InB w w.heap.size A c l := by
  rcases h.2 with ⟨rfl, h0⟩ | ⟨g, cap, cur, rfl, _, _, hnc, _⟩
  · exact ⟨none, 0, by rw [h0], by rw [List.eq_nil_of_length_eq_zero h0]; exact ⟨Reads.none_, by simp, fun _ => rfl⟩⟩
  · exact ⟨_, cap, rfl, Reads.of_own h, hnc, fun e => by cases e⟩
theorem parts_F (d : Int) (a b : List Int) (A1 A2 : Option Addr) (c1 c2 : Nat) (ha : a.length ≤ 60) (hb : b.length ≤ 60) : mergeF 200 [⟨A1, c1, ofF d a⟩, ⟨A2, c2, ofF d b⟩] = (ofF d (a ++ b), 0) := by
  have ga := ofF_good d a a.length (Nat.le_refl _)
  have gb := ofF_good d b b.length (Nat.le_refl _)
  have gab := ofF_good d (a ++ b) (a ++ b).length (Nat.le_refl _)
  rw [List.take_length] at ga gb gab
  rw [List.length_append] at gab
  have hm := (parts_merge d a b ha hb).1
  rw [mergeF_some (l := ofF d (a ++ b)) (by decide) (by
    intro r hr
    simp only [List.mem_cons, List.not_mem_nil, or_false] at hr
    rcases hr with rfl | rfl
    · exact ga.1
    · exact gb.1) (by
    show putsF [] (ofF d a ++ (ofF d b ++ [])) = _
    rw [List.append_nil]; exact hm), if_neg (by omega)]
end Go.Proofs.Ythhklbjhlfejfaa.Hi
