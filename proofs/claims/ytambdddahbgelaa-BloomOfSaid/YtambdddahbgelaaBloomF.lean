/- The law's own helper: few texts, cut. -/
import Derived.Test.YtambdddahbgelaaProg
import Derived.Test.YtambdddahbgelaaBase
import Derived.Lib.Hide
import Derived.Deep.RegionHeld3
import Derived.Deep.AppendLies
namespace Go.Proofs.Ytambdddahbgelaa.Bl
open Go.RowKit

theorem str_info : (Try.prog.info? 9).map (fun i => (i.zero, i.size, i.bytes)) = some (some (.string ByteArray.empty), 1, 16) := by kernel_rfl
/-- A text's first bytes. -/
def ct (n : Nat) (s : ByteArray) : ByteArray := s.extract 0 (min s.size n)
def few (ss : List ByteArray) : List ByteArray := (ss.take 60).map (ct 100)

theorem few_next {w wr w1 : World} {ss : List ByteArray} {k : Nat} {s r : ByteArray} {xs : List Value} {v v' : Value} (hss : ss.take (k + 1) = ss.take k ++ [s]) (hct : ct 100 s = r)
    (hxs : ((ss.take k).map (ct 100)).map Value.string = xs) (hown : wr.ownsRow w.heap.size 9 1 v k xs) (hb : Below w.heap.size w wr) (hbs : w.heap.size ≤ wr.heap.size)
    (hown1 : w1.ownsRow w.heap.size 9 1 v' (k + 1) (xs ++ [.string r])) {o : Obj} (hgrow : (wr.alloc o).drew.grownBy w1 v.ownBlock) :
    w1.ownsRow w.heap.size 9 1 v' (k + 1) (((ss.take (k + 1)).map (ct 100)).map Value.string) ∧ Below w.heap.size w w1 := by
  refine ⟨?_, ((hb.alloc hbs o).drew).grown hgrow (by simp; omega) (fun j hj => (hown.lt _ hj).1)⟩
  rw [hss, List.map_append, List.map_append, hxs]
  simp only [List.map_cons, List.map_nil, hct]
  exact hown1
theorem few_end {w wr : World} {ss : List ByteArray} {k : Nat} {v : Value} (h : ((few ss).length = k) ∧ ((ss.take k).map (ct 100)) = few ss) (hown : wr.ownsRow w.heap.size 9 1 v k (((ss.take k).map (ct 100)).map Value.string)) :
    wr.ownsRow w.heap.size 9 1 v (few ss).length ((few ss).map Value.string) := by
  rw [h.1, ← h.2]; exact hown

set_option maxHeartbeats 800000 in
theorem few_any (A : Option Addr) (n c : Nat) (ss : List ByteArray) (w : World) (hR : Reads w w.heap.size 1 A n (ss.map Value.string)) (hs : ∀ s ∈ ss, s.size ≤ 140737488351232) (hn : n ≤ 140737488351232) :
    Calls Try.prog 11 #[.slice A n c] w fun e w' => ∃ v, e = .returned v ∧ w'.ownsRow w.heap.size 9 1 v (few ss).length ((few ss).map Value.string) ∧ Below w.heap.size w w' := by
  obtain ⟨i0, hi0, hz0, hz1, hz2⟩ := info_parts str_info
  have HR := Lib.hid hR
  have Hs := Lib.hid hs
  have hlen : ss.length = n := by have := hR.1; simpa using this
  have Hl := Lib.hid hlen
  clear hR hs hlen
  go_enter Try.func11, Try.ntmps11
  go_wp2
  go_loopw [3, 4] (fun v i wr => ∃ k : Nat, k ≤ n ∧ k ≤ 60 ∧ i = .int .i64 k ∧ wr.ownsRow w.heap.size 9 1 v k (((ss.take k).map (ct 100)).map Value.string) ∧ Below w.heap.size w wr)
    (fun _ i _ => 60 - (intOf i).toNat)
  case atStart => exact ⟨0, Nat.zero_le _, by omega, rfl, World.ownsRow_nil _ _ _ _, Below.refl _ _⟩
  case round =>
    obtain ⟨k, hk, hk60, rfl, hown, hb⟩ := hrel
    by_cases hlt : k < n ∧ k < 60
    · obtain ⟨hlt, hl60⟩ := hlt
      obtain ⟨ab, ao, hkl, rfl, hab, hcw⟩ := HR.out.at_map hlt
      have hcx := (hb.cell (p := ⟨ab, ao + k, none⟩) hab).trans hcw
      have hss : ss.take (k + 1) = ss.take k ++ [ss[k]] := by rw [List.take_succ_eq_append_getElem hkl]
      have Hss := Lib.hid hss
      have hsz : ss[k].size ≤ 140737488351232 := Hs.out _ (List.getElem_mem hkl)
      have hi0' : (0 : Int) ≤ (k : Int) := Int.natCast_nonneg _
      have hi1 : (k : Int) < (n : Int) := by omega
      have hbs := hb.size
      have Hb := Lib.hid hb
      clear hss hcw hb
      generalize hct : ct 100 ss[k] = r at *
      generalize ss[k] = s at *
      generalize hxs : ((ss.take k).map (ct 100)).map Value.string = xs at *
      have Hxs := Lib.hid hxs
      clear hxs
      have Hct := Lib.hid hct
      clear hct
      have av : u3.ownBlock ≠ some ab := fun e => by have := hown.lt _ e; omega
      have hcr : ∀ m : Nat, (m : Int) = min (s.size : Int) 100 → s.extract 0 m = r := fun m hm => by rw [← Hct.out]; unfold ct; congr 1; omega
      have hz0s : (0 : Int) ≤ (s.size : Int) := Int.natCast_nonneg _
      by_cases h100 : s.size ≤ 100
      · have hr : s = r := by
          rw [← hcr s.size (by omega)]
          exact (ByteArray.extract_zero_size).symm
        subst hr
        have h100' : (s.size : Int) ≤ 100 := by omega
        have hmin : (if (100 : Int) < (s.size : Int) then (100 : Int) else (s.size : Int)) = (s.size : Int) := if_neg (by omega)
        have hsl : ∀ W : World, (Instr.slice 9 (.string s) none (some (.int .i64 (s.size : Int))) none).run Try.prog W = .ok (.string s) W := fun W => by
          rw [run_slice_string_h W 9 s Try.underlying9 .i64 _ (by omega) (by omega), Int.toNat_natCast, ByteArray.extract_zero_size]
        clear hcr
        go_wp2_with fail
        go_region_held3 (fun w' => w'.cell? ⟨ab, ao + k, none⟩ = some (.string s)) (first | go_keep | (rw [hgrow.cell_far _ (by simp; omega) (Ne.symm av)]; assumption))
          ((refine step_append_lies _ (by rfl) _ _ _ (by rfl) w.heap.size 9 i0 _ 1 16 Try.underlying22 hi0 hz0 hz1 hz2 rfl (by omega) u3 k xs (by rfl) ((hown.alloc _).drew) ⟨wr.heap.size, 0, none⟩ 1 1 [.string s] (by rfl) (by rfl) (World.news_of_block (cs := #[.string s]) (t := 9) (fr := (0, 0)) (heap_alloc_new wr _)) (by simp [Value.oneCell']) (by omega) (by unfold maxLen; omega) (by omega) (by simp; omega) (wr.heap.size + 1) (by simp) ?_; intro gg cap w1 hown1 hgrow hat hlt2))
        go_wp2
        have fin := few_next Hss.out Hct.out Hxs.out hown Hb.out hbs hown1 hgrow
        refine ⟨⟨k + 1, by omega, by omega, by go_num, fin.1, fin.2⟩, by simp [intOf]; omega⟩
      · have hr := hcr 100 (by omega)
        have h100' : (100 : Int) < (s.size : Int) := by omega
        have hsl : ∀ W : World, (Instr.slice 9 (.string s) none (some (.int .i64 100)) none).run Try.prog W = .ok (.string r) W := fun W => by
          rw [run_slice_string_h W 9 s Try.underlying9 .i64 _ (by omega) (by omega)]; exact congrArg (fun x => Result.ok (Value.string x) W) hr
        clear hcr
        go_wp2_with fail
        go_region_held3 (fun w' => w'.cell? ⟨ab, ao + k, none⟩ = some (.string s)) (first | go_keep | (rw [hgrow.cell_far _ (by simp; omega) (Ne.symm av)]; assumption))
          ((refine step_append_lies _ (by rfl) _ _ _ (by rfl) w.heap.size 9 i0 _ 1 16 Try.underlying22 hi0 hz0 hz1 hz2 rfl (by omega) u3 k xs (by rfl) ((hown.alloc _).drew) ⟨wr.heap.size, 0, none⟩ 1 1 [.string r] (by rfl) (by rfl) (World.news_of_block (cs := #[.string r]) (t := 9) (fr := (0, 0)) (heap_alloc_new wr _)) (by simp [Value.oneCell']) (by omega) (by unfold maxLen; omega) (by omega) (by simp; omega) (wr.heap.size + 1) (by simp) ?_; intro gg cap w1 hown1 hgrow hat hlt2))
        go_wp2
        have fin := few_next Hss.out Hct.out Hxs.out hown Hb.out hbs hown1 hgrow
        refine ⟨⟨k + 1, by omega, by omega, by go_num, fin.1, fin.2⟩, by simp [intOf]; omega⟩
    · have hkk : ((few ss).length = k) ∧ ((ss.take k).map (ct 100)) = few ss := by
        have := Hl.out
        unfold few
        by_cases h : k = n
        · rw [List.take_of_length_le (by omega), List.take_of_length_le (by omega), List.length_map]
          exact ⟨by omega, rfl⟩
        · have : k = 60 := by omega
          subst this
          rw [List.length_map, List.length_take]
          exact ⟨by omega, rfl⟩
      have Hkk := Lib.hid hkk
      have Hown := Lib.hid hown
      have Hb := Lib.hid hb
      clear hkk hown hb
      have hnn : ¬ ((k : Int) < n ∧ (k : Int) < 60) := by omega
      by_cases hkn : k < n
      · have hk6 : ¬ (k : Int) < 60 := by omega
        go_wp2
        go_ret
        exact ⟨_, rfl, few_end Hkk.out Hown.out, Hb.out⟩
      · go_wp2
        go_ret
        exact ⟨_, rfl, few_end Hkk.out Hown.out, Hb.out⟩
end Go.Proofs.Ytambdddahbgelaa.Bl
