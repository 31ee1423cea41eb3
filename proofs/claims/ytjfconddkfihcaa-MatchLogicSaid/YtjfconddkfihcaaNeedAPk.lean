/- match.Needs$1 (add): the walk. -/
import Derived.Maps.AppendAt
import Derived.Test.YtjfconddkfihcaaPkMatchTellsRow25
import Derived.Test.YtjfconddkfihcaaFewDPk
namespace Go.Proofs.Ytjfconddkfihcaa.Qy
open Go.RowKit Go.Proofs.Ytjfconddkfihcaa Go.Proofs.Ytjfconddkfihcaa.Ut Go.Proofs.Ytjfconddkfihcaa.Tk
set_option maxRecDepth 20000
set_option linter.unusedSimpArgs false

def bsv (l : List ByteArray) : List Value := l.map Value.string
theorem bsv_snoc (l : List ByteArray) (x : ByteArray) : bsv (l ++ [x]) = bsv l ++ [.string x] := by simp [bsv]
theorem bsv_len (l : List ByteArray) : (bsv l).length = l.length := by simp [bsv]
theorem contains_own {w : World} {base : Nat} {v : Value} {l : List ByteArray} (x : ByteArray) (h : w.ownsRow base 9 1 v l.length (bsv l)) (hl : l.length ≤ 4194304) :
    Calls Try.prog 89 #[v, .string x] w fun e w' => e = .returned (.bool (Lib.containsS l x)) ∧ w' = w := by
  rcases h.2 with ⟨rfl, h0⟩ | ⟨g, cap, cur, rfl, _⟩
  · have : l = [] := List.length_eq_zero_iff.1 h0
    subst this
    exact Try.slices_Contains_string_empty none 0 x w
  · have hc := Try.slices_Contains_string g 0 l.length cap l x w (Nat.le_refl _) (by omega) (fun j hj => by
      have h1 := h.cells (g := g) rfl j (.string (l.getD j ByteArray.empty)) (by unfold bsv; rw [List.getElem?_map, List.getD_eq_getElem?_getD, List.getElem?_eq_getElem hj]; rfl)
      have hadd : (⟨g, 0, none⟩ : Addr).add j = ⟨g, 0 + j, none⟩ := by unfold Addr.add; split <;> simp_all
      rw [hadd] at h1
      exact h1)
    rw [List.take_length] at hc
    exact hc

/-- Terms behind a pointer. -/
structure Nd (w : World) (g : Nat) (v : Value) (l : List ByteArray) : Prop where
  box : Blk w g 28 #[v]
  own : w.ownsRow (g + 1) 9 1 v l.length (bsv l)
theorem Nd.below {w w' : World} {g : Nat} {v : Value} {l : List ByteArray} (h : Nd w g v l) (hb : Below w.heap.size w w') : Nd w' g v l :=
  ⟨h.box.below hb h.box.lt, h.own.kept (grow_of_below hb none) (by cases hv : v.ownBlock <;> simp)⟩
/-- More terms, where they stand apart. -/
structure Mo (w : World) (g : Nat) (v : Value) (S : Option Addr) (ts : List ByteArray) : Prop where
  at_ : 0 < ts.length → ∃ b o, S = some ⟨b, o, none⟩ ∧ b < w.heap.size ∧ b ≠ g ∧ v.ownBlock ≠ some b ∧ ∀ j (h : j < ts.length), w.cell? ⟨b, o + j, none⟩ = some (.string ts[j])

set_option maxHeartbeats 1600000 in
theorem add_any (g : Nat) (v : Value) (old : List ByteArray) (S : Option Addr) (n c : Nat) (ts : List ByteArray) (w : World) (hN : Nd w g v old) (hM : Mo w g v S ts) (hn : ts.length = n) (hbig : old.length + n ≤ 4194304) :
    Calls Try.prog 88 #[.slice S n c, .pointer (some ⟨g, 0, none⟩)] w fun e w' => e = .returned (.tuple #[]) ∧ ∃ v', Nd w' g v' (addL old ts) ∧ Below g w w' := by
  obtain ⟨i0, hi0, hz0, hz1, hz2⟩ := info_parts str_info
  have HN := Lib.hid hN
  have HM := Lib.hid hM
  have Hn := Lib.hid hn
  clear hN hM hn
  go_enter Try.func88, Try.ntmps88
  go_wp2
  go_loopw [7] (fun i wr => ∃ (k : Nat) (u : Value), k ≤ n ∧ i = .int .i64 k ∧ Nd wr g u (addL old (ts.take k)) ∧ Mo wr g u S ts ∧ Below g w wr) (fun i _ => n - (intOf i).toNat)
  case atStart => exact ⟨0, v, Nat.zero_le _, rfl, HN.out, HM.out, Below.refl _ _⟩
  case round =>
    obtain ⟨k, u, hk, rfl, hN, hM, hb⟩ := hrel
    have HN := Lib.hid hN
    have HM := Lib.hid hM
    have Hb := Lib.hid hb
    by_cases hlt : k < n
    · have hkl : k < ts.length := by rw [Hn.out]; exact hlt
      obtain ⟨b, o, rfl, hbl, hbg, hub, hc⟩ := hM.at_ (by omega)
      have hck := hc k hkl
      have hts := addL_take old ts k hkl
      have hll : (addL old (ts.take k)).length ≤ 4194304 - 1 := by
        have h1 := addL_len (ts.take k) old
        rw [List.length_take] at h1
        omega
      have Hts := Lib.hid hts
      have Hc := Lib.hid hc
      clear hts hc hM hb
      generalize addL old (ts.take k) = l at *
      generalize ts[k] = x at *
      have hbx := hN.box.cell 0
      simp at hbx
      have cc := contains_own x hN.own (by omega)
      by_cases hin : Lib.containsS l x = true
      · rw [hin] at cc
        have hl1 : add1 l x = l := by unfold add1; rw [if_pos hin]
        rw [hl1] at Hts
        clear hN hin hl1
        go_wp2_with (go_at_call 89; refine cc.mono ?_; rintro e wx ⟨rfl, hwx⟩; subst wx)
        go_roundw
        case rel => exact ⟨k + 1, u, by omega, by go_num, by rw [Hts.out]; exact HN.out, HM.out, Hb.out⟩
        case measure => simp [intOf]; omega
      · have hin' : Lib.containsS l x = false := by simpa using hin
        rw [hin'] at cc
        have hl1 : add1 l x = l ++ [x] := by unfold add1; rw [if_neg hin]
        rw [hl1] at Hts
        have hgl := hN.box.lt
        have hbf := hN.box.frozen 0
        have hown := hN.own
        have hbxa := fun o' => (World.cell?_alloc_lt wr o' ⟨g, 0, none⟩ hgl).trans hbx
        clear hN hin hl1 hin'
        go_wp2_with (first
          | (go_at_call 89; refine cc.mono ?_; rintro e wx ⟨rfl, hwx⟩; subst wx)
          | (at_builtin; go_loud (refine wpList_append_own_at _ rfl _ _ 28 rfl (g + 1) 9 i0 _ 1 16 Try.underlying28 hi0 hz0 hz1 hz2 rfl (by decide) _ _ _ rfl (hown.alloc _) ⟨wr.heap.size, 0, none⟩ 1 1 [.string x] rfl rfl ?d1 ?d2 ?d3 ?d4 ?d5 ?_)))
        case d1 => exact World.news_of_block (cs := #[.string x]) (t := 9) (fr := (0, 0)) (heap_alloc_new wr _)
        case d2 => intro y hy; simp at hy; subst hy; rfl
        case d3 => unfold maxLen; omega
        case d4 => omega
        case d5 => simp; omega
        intro v' w5 hown5 hg5 _ hat
        obtain ⟨g5, q5, rfl⟩ := own_succ hown5
        have g5lt := (hown5.lt g5 rfl).1
        have hB5 := (HN.out.box.alloc (.cells #[.string x] 9)).grown hg5 (fun e => by have := (hown.lt _ e.symm).1; omega)
        have hb50 := hB5.cell 0
        have hbf5 := hB5.frozen 0
        simp at hb50
        have hbl2 : b ≠ wr.heap.size + 1 := by omega
        have hg5b : g5 ≠ b := by
          rintro rfl
          rcases hat with h | h
          · exact hub h.symm
          · simp [Value.ownBlock] at h
            omega
        have hcell : ∀ j (h : j < ts.length), w5.cell? ⟨b, o + j, none⟩ = some (.string ts[j]) := fun j h =>
          hg5.cell ((World.cell?_alloc_lt wr _ ⟨b, o + j, none⟩ hbl).trans (Hc.out j h)) (fun e => hub e.symm)
        have hz5 := hg5.size
        have hb5 : Below g w w5 := (Hb.out.alloc (by omega) (.cells #[.string x] 9)).grown hg5 (by simp; omega) (fun e he => by have := (hown.lt _ he).1; omega)
        have hgs := grownBy_setC w5 g 0 (.slice (some ⟨g5, 0, none⟩) (l.length + 1) q5)
        have Fin : Hid (Nd (w5.setCell ⟨g, 0, none⟩ (.slice (some ⟨g5, 0, none⟩) (l.length + 1) q5)) g (.slice (some ⟨g5, 0, none⟩) (l.length + 1) q5) (l ++ [x])) := Lib.hid
          ⟨hB5.set_ 0 _, by
            rw [List.length_append, bsv_snoc]
            exact hown5.kept hgs (.inr (by simp [Value.ownBlock]; omega))⟩
        have Fin2 : Hid (Mo (w5.setCell ⟨g, 0, none⟩ (.slice (some ⟨g5, 0, none⟩) (l.length + 1) q5)) g (.slice (some ⟨g5, 0, none⟩) (l.length + 1) q5) (some ⟨b, o, none⟩) ts) := Lib.hid
          ⟨fun _ => ⟨b, o, rfl, by simp [World.setCell] at hz5 ⊢; omega, hbg, by simp [Value.ownBlock]; exact hg5b, fun j h => hgs.cell (hcell j h) (fun e => hbg (Option.some.inj e))⟩⟩
        have Fin3 := Lib.hid (hb5.setCell (p := ⟨g, 0, none⟩) (Nat.le_refl _) (.slice (some ⟨g5, 0, none⟩) (l.length + 1) q5))
        clear hb5 hcell hB5 hown5 hg5 hown hgs hbxa hg5b hbl2
        go_wp2
        go_roundw
        case rel => exact ⟨k + 1, _, by omega, by go_num, by rw [Hts.out]; exact Fin.out, Fin2.out, Fin3.out⟩
        case measure => simp [intOf]; omega
    · obtain rfl : k = n := by omega
      have htk : ts.take k = ts := List.take_of_length_le (by rw [Hn.out]; exact Nat.le_refl _)
      rw [htk] at HN
      clear hN hM hb htk
      go_wp2
      first | go_ret | go_end0
      exact ⟨rfl, u, HN.out, Hb.out⟩
end Go.Proofs.Ytjfconddkfihcaa.Qy
