/- UtfBack: the law's walk. -/
import Derived.Test.YtambdddahbgelaaUtfL
namespace Go.Proofs.Ytambdddahbgelaa.Ut
open Go.RowKit

theorem Reads.take {w : World} {B n : Nat} {A : Option Addr} {α : Type} {f : α → Value} {l : List α} {m : Nat} (h : Reads w B 1 A n (l.map f)) (hm : m ≤ n) : Reads w B 1 A m ((l.take m).map f) := by
  refine ⟨by have := h.1; simp at this ⊢; omega, fun h0 => ?_⟩
  obtain ⟨b, o, e, hb, hc⟩ := h.2 (by omega)
  refine ⟨b, o, e, hb, fun j u hu => hc j u ?_⟩
  rw [List.map_take] at hu
  rw [List.getElem?_take] at hu
  split at hu
  · exact hu
  · cases hu

theorem fix_eq (z : Int) : (z < 0 → (fix z : Int) = 65533) ∧ (1114111 < z → (fix z : Int) = 65533) ∧ (55296 ≤ z → z ≤ 57343 → (fix z : Int) = 65533) ∧ (¬ z < 0 → ¬ 1114111 < z → (¬ 55296 ≤ z ∨ ¬ z ≤ 57343) → (fix z : Int) = z) := by
  unfold fix
  refine ⟨fun h => ?_, fun h => ?_, fun h h' => ?_, fun h h' h'' => ?_⟩
  · rw [if_pos (Or.inl h)]; rfl
  · rw [if_pos (Or.inr (Or.inl h))]; rfl
  · rw [if_pos (Or.inr (Or.inr ⟨h, h'⟩))]; rfl
  · rw [if_neg (by omega)]; omega

set_option maxRecDepth 20000 in
set_option maxHeartbeats 3200000 in
theorem back_walk (A : Option Addr) (n c : Nat) (zs : List Int) (w : World) (hR : Reads w w.heap.size 1 A n (zs.map (Value.int .i64))) (hnc : n ≤ c) : Calls Try.prog 8 #[.slice A n c] w fun e w' => e = .returned (.bool true) ∧ Below w.heap.size w w' := by
  go_enter Try.func8, Try.ntmps8
  by_cases h5 : n ≤ 500
  case' pos =>
    have hX : ∃ ys : List Int, Reads w w.heap.size 1 A n (ys.map (Value.int .i64)) ∧ ys.length = n := ⟨_, hR, by have := hR.1; simpa using this⟩
    have h5' : ¬ (500 : Int) < n := by omega
  case' neg =>
    have hX : ∃ ys : List Int, Reads w w.heap.size 1 A 500 (ys.map (Value.int .i64)) ∧ ys.length = 500 := ⟨_, Reads.take (m := 500) hR (by omega), by have := (Reads.take (m := 500) hR (by omega)).1; simpa using this⟩
    have h5' : (500 : Int) < n := by omega
    have h5c : (500 : Int) ≤ c := by omega
  all_goals
    obtain ⟨ys, hY, hyl⟩ := hX
    have hyb : ys.length ≤ 500 := by omega
    have c0 := encode_any A _ c ys w hY (by omega)
    have hre := runes_encode ys []
    rw [List.append_nil, runes_nil, List.append_nil] at hre
    have hel := encode_len ys
    have hva := valid_encode ys
    rw [← str_data (encode ys)] at hre hva
    have hss := str_size (encode ys)
    have Hre := Lib.hid hre
    have Hva := Lib.hid hva
    clear hre hva
    generalize str (encode ys) = t at *
    have hts : t.size ≤ 2000 := by omega
    clear hss hel
    go_wp2_with fail
    refine c0.mono ?_
    rintro e w1 ⟨rfl, hb1⟩
    have c1 := runes_any t w1 (by omega)
    rw [Hre.out] at c1
    rw [List.length_map] at c1
    go_wp2_with fail
    refine c1.mono ?_
    rintro e w2 ⟨v2, rfl, hown2, hb2⟩
    obtain ⟨A2, cp2, rfl, hR2⟩ := own_shape hown2
    have hb2' := hb1.trans (hb2.mono hb1.size)
    have c2 := valid_any t w2 (by omega)
    rw [Hva.out] at c2
    have HR2 := Lib.hid hR2
    clear hown2 hb1 hb2 c0 c1 hR2
    go_wp2_with fail
    refine c2.mono ?_
    rintro e w3 ⟨rfl, hb3⟩
    have hb3' := hb2'.trans (hb3.mono hb2'.size)
    have HR3 : Hid (Reads w3 w2.heap.size 1 A2 ys.length ((ys.map fix).map (fun r : Nat => Value.int .i64 (r : Int)))) := Lib.hid (HR2.out.below hb3)
    have HY3 := Lib.hid (hY.below hb3')
    have c3 := calls_from hb3' (awake_any w3)
    clear c2 hb3 hb3' hb2' hY HR2
    go_wp2_with fail
    go_loopw [5] (fun i wr => ∃ (k : Nat), k ≤ ys.length ∧ i = .int .i64 k ∧ wr = w3)
      (fun i _ => ys.length - (intOf i).toNat)
    case atStart => exact ⟨0, by omega, rfl, rfl⟩
    case round =>
      obtain ⟨k, hk, rfl, rfl⟩ := hrel
      by_cases hlt : k < ys.length
      · obtain ⟨b1, o1, hl1, rfl, hbb1, hc1⟩ := Reads.at_map HY3.out (by omega : k < _)
        obtain ⟨b2, o2, hl2, rfl, hbb2, hc2⟩ := Reads.at_map HR3.out hlt
        rw [List.getElem_map] at hc2
        have hf := fix_eq ys[k]
        generalize hz : ys[k] = z at *
        generalize (fix z : Int) = f at *
        obtain ⟨hf1, hf2, hf3, hf4⟩ := hf
        have hways : (z < 0 ∧ f = 65533) ∨ (¬ z < 0 ∧ 1114111 < z ∧ f = 65533) ∨ (¬ z < 0 ∧ ¬ 1114111 < z ∧ 55296 ≤ z ∧ z ≤ 57343 ∧ f = 65533) ∨ (¬ z < 0 ∧ ¬ 1114111 < z ∧ ¬ 55296 ≤ z ∧ f = z) ∨ (¬ z < 0 ∧ ¬ 1114111 < z ∧ 55296 ≤ z ∧ ¬ z ≤ 57343 ∧ f = z) := by
          by_cases g1 : z < 0
          · exact Or.inl ⟨g1, hf1 g1⟩
          · by_cases g2 : 1114111 < z
            · exact Or.inr (Or.inl ⟨g1, g2, hf2 g2⟩)
            · by_cases g3 : 55296 ≤ z
              · by_cases g4 : z ≤ 57343
                · exact Or.inr (Or.inr (Or.inl ⟨g1, g2, g3, g4, hf3 g3 g4⟩))
                · exact Or.inr (Or.inr (Or.inr (Or.inr ⟨g1, g2, g3, g4, hf4 g1 g2 (Or.inr g4)⟩)))
              · exact Or.inr (Or.inr (Or.inr (Or.inl ⟨g1, g2, g3, hf4 g1 g2 (Or.inl g3)⟩)))
        clear hf1 hf2 hf3 hf4 hz HY3 HR3 hR
        have q1 : ∀ g : Int, g = 65533 → (g != 65533) = false := fun g h => by rw [h]; rfl
        rcases hways with ⟨g1, hfe⟩ | ⟨g1, g2, hfe⟩ | ⟨g1, g2, g3, g4, hfe⟩ | ⟨g1, g2, g3, rfl⟩ | ⟨g1, g2, g3, g4, rfl⟩
        case' inl => have g9 := q1 f hfe; clear hfe q1
        case' inr.inl => have g9 := q1 f hfe; clear hfe q1
        case' inr.inr.inl => have g9 := q1 f hfe; clear hfe q1
        case' inr.inr.inr.inl => clear q1
        case' inr.inr.inr.inr => clear q1
        all_goals
          go_wp2
          go_roundw
          case rel => exact ⟨k + 1, by omega, by go_num, trivial⟩
          case measure => simp [intOf]; omega
      · go_wp2_with fail
        refine c3.mono ?_
        rintro e w4 ⟨rfl, hb4⟩
        go_wp2
        go_ret
        exact ⟨rfl, hb4⟩
end Go.Proofs.Ytambdddahbgelaa.Ut
