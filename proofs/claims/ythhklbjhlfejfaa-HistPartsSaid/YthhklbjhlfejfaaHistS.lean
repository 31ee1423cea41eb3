/- slices.Equal on buckets, hist.Same, Check; the reference's Is. -/
import Derived.Test.YthhklbjhlfejfaaHistR
import Derived.BigRegion
import Derived.RegionTactic
import Derived.ChangeAlike
namespace Go.Proofs.Ythhklbjhlfejfaa.Hi
open Go.RowKit
set_option maxRecDepth 20000
set_option maxHeartbeats 3200000 in
theorem equal_any (A A' : Option Addr) (c c' B B' : Nat) (l m : List Bk) (w : World) (hR : Reads w B 2 A l.length (bkC l)) (hR' : Reads w B' 2 A' m.length (bkC m)) (hl : l.length ≤ 1000000000) (hm : m.length ≤ 1000000000) :
    Calls Try.prog 30 #[.slice A l.length c, .slice A' m.length c'] w fun e w' => e = .returned (.bool (decide (l = m))) ∧ Below w.heap.size w w' := by
  have HR := Lib.hid hR
  have HR' := Lib.hid hR'
  clear hR hR'
  by_cases hlen : l.length = m.length
  · go_enter Try.func30, Try.ntmps30
    go_wp2
    go_loopw [13] (fun i wr => ∃ k : Nat, k ≤ l.length ∧ i = .int .i64 k ∧ Hid (l.take k = m.take k) ∧ Below w.heap.size w wr ∧ (∀ p, wr.cell? p = w.cell? p)) (fun i _ => l.length - (intOf i).toNat)
    case atStart => exact ⟨0, Nat.zero_le _, rfl, Lib.hid rfl, Below.refl _ _, fun _ => rfl⟩
    case round =>
      obtain ⟨k, hk, rfl, hT, hb, hcells⟩ := hrel
      by_cases hlt : k < l.length
      · have hltm : k < m.length := by omega
        obtain ⟨bb, o, rfl, hbb, d1, d2⟩ := bks_at HR.out rfl hlt
        obtain ⟨bb', o', rfl, hbb', d1', d2'⟩ := bks_at HR'.out rfl hltm
        rw [← hcells] at d1 d2 d1' d2'
        have T := Lib.hid (take_same hT.out hlt hltm)
        have hb' := Lib.hid hb
        have Hc := Lib.hid hcells
        have hpe : (l[k] = m[k]) ↔ (l[k].1 = m[k].1 ∧ l[k].2 = m[k].2) := Prod.ext_iff
        have Nk : Hid (¬ (l[k] = m[k]) → ¬ l = m) := Lib.hid (fun h e => h (by subst e; rfl))
        rw [hpe] at T Nk
        clear hb hcells hpe
        generalize l[k].1 = x at *
        generalize l[k].2 = y at *
        generalize m[k].1 = x' at *
        generalize m[k].2 = y' at *
        by_cases e1 : x = x'
        · by_cases e2 : y = y'
          · go_wp2
            go_region
            go_wp2
            go_roundw
            case rel => exact ⟨k + 1, by omega, by go_num, Lib.hid (T.out ⟨e1, e2⟩), hb'.out.drew, Hc.out⟩
            case measure => simp [intOf]; omega
          · go_wp2
            go_region
            go_wp2
            go_ret
            exact ⟨by rw [decide_eq_false (Nk.out fun h => e2 h.2)]; rfl, hb'.out.drew⟩
        · go_wp2
          go_region
          go_wp2
          go_ret
          exact ⟨by rw [decide_eq_false (Nk.out fun h => e1 h.1)]; rfl, hb'.out.drew⟩
      · have hall : l = m := by
          have h1 : l.take k = l := List.take_of_length_le (by omega)
          have h2 : m.take k = m := List.take_of_length_le (by omega)
          rw [← h1, ← h2, hT.out]
        have hb' := Lib.hid hb
        clear hb hcells hT
        go_wp2
        go_ret
        exact ⟨by rw [decide_eq_true hall]; rfl, hb'.out⟩
  · have : ¬ l = m := fun e => hlen (by rw [e])
    rw [decide_eq_false this]
    go_enter Try.func30, Try.ntmps30
    go_wp2
    go_ret
    exact ⟨rfl, Below.refl _ _⟩
theorem same_any (A A' : Option Addr) (c c' B B' : Nat) (l m : List Bk) (w : World) (hR : Reads w B 2 A l.length (bkC l)) (hR' : Reads w B' 2 A' m.length (bkC m)) (hl : l.length ≤ 1000000000) (hm : m.length ≤ 1000000000) :
    Calls Try.prog 22 #[.slice A l.length c, .slice A' m.length c'] w fun e w' => e = .returned (.bool (decide (l = m))) ∧ Below w.heap.size w w' := by
  have c0 := equal_any A A' c c' B B' l m w hR hR' hl hm
  clear hR hR'
  go_enter Try.func22, Try.ntmps22
  go_wp2_with fail
  refine c0.mono ?_
  rintro e w1 ⟨rfl, hb⟩
  have Hb := Lib.hid hb
  clear hb c0
  go_wp2
  go_ret
  exact ⟨rfl, Hb.out⟩

open Classical in
noncomputable def fineB (l : List Bk) : Bool := decide (Fine l)
theorem fineB_t {l : List Bk} (h : Fine l) : fineB l = true := by unfold fineB; simp [h]
theorem fineB_f {l : List Bk} (h : ¬ Fine l) : fineB l = false := by unfold fineB; simp [h]
theorem fine_next {l : List Bk} {k : Nat} (h : Fine (l.take k)) (hk : k < l.length) (h1 : 1 ≤ l[k].2) (h2 : ∀ j (hj : j + 1 = k), l[j].1 < l[k].1) : Fine (l.take (k + 1)) := by
  refine ⟨?_, ?_⟩
  · intro i hi
    rw [List.length_take] at hi
    rw [List.getElem_take, List.getElem_take]
    by_cases e : i + 1 = k
    · subst e; exact h2 i rfl
    · have := h.up i (by rw [List.length_take]; omega)
      rw [List.getElem_take, List.getElem_take] at this
      exact this
  · intro b hb
    rw [List.take_succ_eq_append_getElem hk] at hb
    rcases List.mem_append.1 hb with hb | hb
    · exact h.one b hb
    · simp only [List.mem_cons, List.not_mem_nil, or_false] at hb
      subst hb; exact h1
/-- Check's answer. -/
def errF (b : Bool) : Int := if b then 0 else 240
theorem fine_not1 {l : List Bk} {k : Nat} (hk : k < l.length) (h1 : l[k].2 < 1) : ¬ Fine l := fun h => by
  have := h.one _ (List.getElem_mem hk); omega
theorem fine_not2 {l : List Bk} {j k : Nat} (hj : j + 1 = k) (hk : k < l.length) (h1 : l[k].1 ≤ l[j].1) : ¬ Fine l := fun h => by
  subst hj
  have := h.up j hk; omega
end Go.Proofs.Ythhklbjhlfejfaa.Hi
