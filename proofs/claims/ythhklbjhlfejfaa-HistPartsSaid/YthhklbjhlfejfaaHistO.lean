/- Plain: a row with more in a bucket still rises; hist.Of. -/
import Derived.Test.YthhklbjhlfejfaaHistN
namespace Go.Proofs.Ythhklbjhlfejfaa.Hi
open Go.RowKit
set_option maxRecDepth 20000
/-- Rising, each bucket with one at least. -/
structure Fine (l : List Bk) : Prop where
  up : Up l
  one : ∀ b ∈ l, 1 ≤ b.2
theorem Fine.nil : Fine [] := ⟨Up.nil, fun b h => by simp at h⟩
theorem up_iff (l : List Bk) : Up l ↔ l.Pairwise (fun a b => a.1 < b.1) := by
  constructor
  · intro h
    rw [List.pairwise_iff_getElem]
    intro i j hi hj hij
    exact h.lt i j hij hj
  · intro h i hi
    rw [List.pairwise_iff_getElem] at h
    exact h i (i + 1) (by omega) hi (by omega)
theorem putF_len (l : List Bk) (k n : Int) : (putF l k n).1.length ≤ l.length + 1 := by
  unfold putF
  split
  · split
    · simp
    · simp
  · have := pos_le l k
    simp
    omega
theorem putF_fine {l : List Bk} (h : Fine l) (k n : Int) (hn : 1 ≤ n) : Fine (putF l k n).1 := by
  have hp := pos_le l k
  unfold putF
  split
  · rename_i hf
    obtain ⟨hlt, hk⟩ := hf
    have hgd : l.getD (pos l k) (0, 0) = l[pos l k] := by rw [List.getD_eq_getElem?_getD, List.getElem?_eq_getElem hlt]; rfl
    rw [hgd] at hk ⊢
    split
    · exact Fine.nil
    · refine ⟨?_, ?_⟩
      · intro i hi
        simp only [List.length_set] at hi
        have hu := h.up i hi
        rw [List.getElem_set, List.getElem_set]
        split
        · split
          · omega
          · rename_i h1 _; subst h1; rw [hk] at hu; exact hu
        · split
          · rename_i h1; show l[i].1 < k; have e : l[pos l k].1 = l[i + 1].1 := (by simp only [h1]); omega
          · exact hu
      · intro b hb
        rcases List.mem_or_eq_of_mem_set hb with hb | rfl
        · exact h.one b hb
        · have := h.one _ (List.getElem_mem hlt)
          show 1 ≤ l[pos l k].2 + n
          omega
  · rename_i hf
    refine ⟨?_, ?_⟩
    · rw [up_iff, List.pairwise_append, List.pairwise_cons]
      have hpw := (up_iff l).1 h.up
      have hlo : ∀ a ∈ l.take (pos l k), a.1 < k := fun a ha => by
        obtain ⟨i, hi, rfl⟩ := List.getElem_of_mem ha
        rw [List.length_take] at hi
        rw [List.getElem_take]
        exact (pos_lt l k i (by omega)).2
      have hhi : ∀ a ∈ l.drop (pos l k), k < a.1 := fun a ha => by
        obtain ⟨i, hi, rfl⟩ := List.getElem_of_mem ha
        rw [List.length_drop] at hi
        rw [List.getElem_drop]
        have hlt : pos l k < l.length := by omega
        have h0 := pos_at l k hlt
        have hgd : l.getD (pos l k) (0, 0) = l[pos l k] := by rw [List.getD_eq_getElem?_getD, List.getElem?_eq_getElem hlt]; rfl
        have hne : ¬ l[pos l k].1 = k := fun e => hf ⟨hlt, by rw [hgd]; exact e⟩
        rcases Nat.eq_zero_or_pos i with rfl | hip
        · simp only [Nat.add_zero]; omega
        · have := h.up.lt (pos l k) (pos l k + i) (by omega) (by omega)
          omega
      refine ⟨hpw.sublist (List.take_sublist _ _), ⟨hhi, hpw.sublist (List.drop_sublist _ _)⟩, fun a ha b hb => ?_⟩
      have h1 := hlo a ha
      rcases List.mem_cons.1 hb with rfl | hb
      · exact h1
      · have := hhi b hb; omega
    · intro b hb
      rcases List.mem_append.1 hb with hb | hb
      · exact h.one b (List.mem_of_mem_take hb)
      · rcases List.mem_cons.1 hb with rfl | hb
        · exact hn
        · exact h.one b (List.mem_of_mem_drop hb)
/-- The buckets of times. -/
def ofF (d : Int) (ts : List Int) : List Bk := ts.foldl (fun l t => (putF l (t / d) 1).1) []
theorem ofF_take (d : Int) (ts : List Int) (k : Nat) (h : k < ts.length) : ofF d (ts.take (k + 1)) = (putF (ofF d (ts.take k)) (ts[k] / d) 1).1 := by
  rw [List.take_succ_eq_append_getElem h]
  unfold ofF
  rw [List.foldl_append]
  rfl
theorem ofF_good (d : Int) (ts : List Int) : ∀ k, k ≤ ts.length → Fine (ofF d (ts.take k)) ∧ (ofF d (ts.take k)).length ≤ k
  | 0, _ => ⟨Fine.nil, Nat.le_refl _⟩
  | k + 1, h => by
    have ih := ofF_good d ts k (by omega)
    rw [ofF_take d ts k h]
    exact ⟨putF_fine ih.1 _ _ (by omega), Nat.le_trans (putF_len _ _ _) (by omega)⟩

def OfPost (B : Nat) (d : Int) (ts : List Int) (w : World) (e : Ending) (w' : World) : Prop :=
  ∃ v, e = .returned (.tuple #[v, .int .i64 (if d < 1 then 240 else 0)]) ∧ Row B w w' v (if d < 1 then [] else ofF d ts)

set_option maxHeartbeats 1600000 in
theorem of_any (A : Option Addr) (c B : Nat) (d : Int) (ts : List Int) (w : World) (hR : Reads w B 1 A ts.length (ts.map (Value.int .i64))) (hB : B ≤ w.heap.size) (hl : ts.length ≤ 900000) (hd2 : d ≤ 9223372036854775807) (hin : ∀ t ∈ ts, In64 t) :
    Calls Try.prog 15 #[.int .i64 d, .slice A ts.length c] w (OfPost w.heap.size d ts w) := by
  unfold OfPost
  by_cases hd : d < 1
  · simp only [if_pos hd]
    go_enter Try.func15, Try.ntmps15
    go_wp2
    go_ret2
    exact ⟨.slice none 0 0, rfl, Row.start _ _ _ (Below.refl _ _)⟩
  · simp only [if_neg hd]
    have HR := Lib.hid hR
    have Hin := Lib.hid hin
    clear hR hin
    go_enter Try.func15, Try.ntmps15
    go_wp2
    go_loopw [6, 13] (fun v i wr => ∃ k : Nat, k ≤ ts.length ∧ i = .int .i64 k ∧ Row w.heap.size w wr v (ofF d (ts.take k))) (fun _ i _ => ts.length - (intOf i).toNat)
    case atStart => exact ⟨0, Nat.zero_le _, rfl, Row.start _ _ _ (Below.refl _ _)⟩
    case round =>
      obtain ⟨k, hk, rfl, hT⟩ := hrel
      by_cases hlt : k < ts.length
      · obtain ⟨bb, o, hl', rfl, hbb, hc1⟩ := HR.out.at_map hlt
        have d1 := (hT.bel.cell (p := ⟨bb, o + k, none⟩) (Nat.lt_of_lt_of_le hbb hB)).trans hc1
        have T := Lib.hid (ofF_take d ts k hlt)
        have G := ofF_good d ts k hk
        have ht := Hin.out _ (List.getElem_mem hlt)
        have c1 := floor_any ts[k] d wr (by omega) ht hd2
        have c2 := put_any w.heap.size _ _ (ts[k] / d) 1 wr hT.own hT.bel.size (by omega) G.1.up G.1.one (by omega) (by omega)
        have HT := Lib.hid hT
        clear hT hc1 ht
        generalize ts[k] = x at *
        generalize ofF d (ts.take k) = l at *
        go_wp2_with fail
        refine c1.mono ?_
        rintro e w1 ⟨rfl, rfl⟩
        go_wp2_with fail
        refine c2.mono ?_
        rintro e w2 ⟨v', rfl, hv⟩
        have HV := Lib.hid hv
        clear hv c1 c2
        go_wp2
        go_roundw
        case rel => exact ⟨k + 1, by omega, by go_num, by rw [T.out]; exact ⟨HV.out.own, HT.out.bel.trans HV.out.bel⟩⟩
        case measure => simp [intOf]; omega
      · have hall : ts.take k = ts := List.take_of_length_le (by omega)
        rw [hall] at hT
        have HT := Lib.hid hT
        clear hT
        go_wp2
        go_ret2
        exact ⟨_, rfl, HT.out⟩
end Go.Proofs.Ythhklbjhlfejfaa.Hi
