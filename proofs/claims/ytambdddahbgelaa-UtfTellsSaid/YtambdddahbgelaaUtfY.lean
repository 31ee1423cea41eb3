/- The reference's Fold. -/
import Derived.Test.YtambdddahbgelaaUtfV
import Derived.Laws.OwnMore
namespace Go.Proofs.Ytambdddahbgelaa.Ut
open Go.RowKit

def half_way (l : List Int) (k : Nat) : List Int := (l.map lower).take k ++ l.drop k
theorem half_len (l : List Int) (k : Nat) (h : k ≤ l.length) : (half_way l k).length = l.length := by simp [half_way]; omega
theorem half_at (l : List Int) (k : Nat) (h : k < l.length) : (half_way l k)[k]? = some l[k] := by
  unfold half_way
  rw [List.getElem?_append_right (by rw [List.length_take, List.length_map]; omega), List.length_take, List.length_map, Nat.min_eq_left (by omega), Nat.sub_self, List.getElem?_drop, Nat.add_zero, List.getElem?_eq_getElem h]
theorem half_set (l : List Int) (k : Nat) (h : k < l.length) : (half_way l k).set k (lower l[k]) = half_way l (k + 1) := by
  unfold half_way
  rw [List.set_append_right _ _ (by rw [List.length_take, List.length_map]; omega), List.length_take, List.length_map, Nat.min_eq_left (by omega), Nat.sub_self, List.drop_eq_getElem_cons h, List.set_cons_zero, List.take_succ_eq_append_getElem (by rw [List.length_map]; exact h), List.getElem_map, List.append_assoc]
  rfl
theorem half_all (l : List Int) : half_way l l.length = l.map lower := by
  unfold half_way
  rw [List.drop_length, List.append_nil, List.take_of_length_le (by rw [List.length_map]; omega)]
def iv (l : List Int) : List Value := l.map (Value.int .i64)

set_option maxHeartbeats 800000 in
theorem fold_ref (s : ByteArray) (w : World) (hs : s.size ≤ 4398046511104) :
    Calls Try.prog 37 #[.string s] w fun e w' => e = .returned (.string (str (fold s.data.toList))) ∧ Below w.heap.size w w' := by
  have c0 := runes_ref s w hs
  have hrl := runes_len s.data.toList
  rw [bsize] at hrl
  have Fin : Hid (fold s.data.toList = encode ((ints (runes s.data.toList)).map lower)) := rfl
  have hlen : (runes s.data.toList).length = (ints (runes s.data.toList)).length := by simp [ints]
  have hrv : rv (runes s.data.toList) = iv (half_way (ints (runes s.data.toList)) 0) := by simp [rv, iv, half_way, ints]
  rw [hrv, hlen] at c0
  rw [hlen] at hrl
  clear hrv hlen
  generalize ints (runes s.data.toList) = l at *
  go_enter Try.func37, Try.ntmps37
  go_wp2_with fail
  refine c0.mono ?_
  rintro e w1 ⟨v, rfl, hown, hb1⟩
  obtain ⟨A, c, rfl, _⟩ := own_shape hown
  have HO := Lib.hid hown
  have HB := Lib.hid hb1
  clear hown hb1 c0
  go_wp2_with fail
  go_loopw [4] (fun i wr => ∃ k : Nat, k ≤ l.length ∧ i = .int .i64 k ∧ wr.ownsRow w.heap.size 3 1 (.slice A l.length c) l.length (iv (half_way l k)) ∧ Below w.heap.size w wr) (fun i _ => l.length - (intOf i).toNat)
  case atStart => exact ⟨0, Nat.zero_le _, rfl, HO.out, HB.out⟩
  case round =>
    obtain ⟨k, hk, rfl, hown, hb⟩ := hrel
    by_cases hlt : k < l.length
    · rcases hown.2 with ⟨_, h0⟩ | ⟨g, cap, cur, hv, hbg, hg, _⟩
      · exact absurd h0 (by omega)
      · simp only [Value.slice.injEq, true_and] at hv
        obtain ⟨rfl, rfl⟩ := hv
        have hcell := hown.cells (g := g) rfl k (.int .i64 l[k]) (by simp [iv, half_at l k hlt])
        rw [show (⟨g, 0, none⟩ : Addr).add k = ⟨g, k, none⟩ from by unfold Addr.add; split <;> simp_all] at hcell
        have hst := hown.stored k (.int .i64 (lower l[k]))
        have hset : (iv (half_way l k)).set k (.int .i64 (lower l[k])) = iv (half_way l (k + 1)) := by
          rw [← half_set l k hlt]; simp [iv, List.map_set]
        rw [hset] at hst
        have hfr : wr.frozen? ⟨g, k, none⟩ = false := hown.frozenAt k
        have c1 := lower_ref l[k] wr
        have hb2 : Below w.heap.size w (wr.setCell ⟨g, k, none⟩ (.int .i64 (lower l[k]))) := hb.grown hst.2 hb.size (fun j hj => (hown.lt j hj).1)
        have Hst := Lib.hid hst
        have Hb2 := Lib.hid hb2
        clear hset hst hb2 hb hown HO hg
        generalize l[k] = z at *
        go_wp2_with fail
        refine c1.mono ?_
        rintro e w2 ⟨rfl, rfl⟩
        go_wp2
        go_roundw
        case rel => exact ⟨k + 1, by omega, by go_num, Hst.out.1, Hb2.out⟩
        case measure => simp [intOf]; omega
    · obtain rfl : k = l.length := by omega
      rw [half_all] at hown
      have c2 := calls_from hb (encode_ref A l.length c (l.map lower) wr (Reads.of_own hown) (by omega))
      rw [← Fin.out] at c2
      clear hown
      go_wp2_with fail
      refine c2.mono ?_
      rintro e w2 ⟨rfl, hb2⟩
      go_wp2
      go_ret
      exact ⟨rfl, hb2⟩
end Go.Proofs.Ytambdddahbgelaa.Ut
