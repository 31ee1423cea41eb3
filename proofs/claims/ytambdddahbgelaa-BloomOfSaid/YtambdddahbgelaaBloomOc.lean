/- The document's Of: the walk. -/
import Derived.Test.YtambdddahbgelaaBloomOb
namespace Go.Proofs.Ytambdddahbgelaa.Bl
open Go.RowKit
set_option linter.unusedSimpArgs false

theorem Own.ne_blk {w : World} {base g n cap k : Nat} {bs : List Nat} {cs : Array Value} (h : Own w base (.slice (some ⟨g, 0, none⟩) n cap) bs) (hb : Blk w k 34 cs) : g ≠ k := by
  rcases h.1.2 with ⟨hv, _⟩ | ⟨g', cap', cur, hv, _, hg, _⟩
  · cases hv
  · injection hv with hv
    injection hv with hv
    injection hv with hv
    subst hv
    exact (show Blk w g 5 cur from hg).ne_ hb (by decide)
/-- The document's filter of the call's own. -/
def FilA (w : World) (bs : List Nat) (e : Ending) (w' : World) : Prop :=
  ∃ g cap, e = .returned (.agg #[.slice (some ⟨g, 0, none⟩) bs.length cap]) ∧ Own w' w.heap.size (.slice (some ⟨g, 0, none⟩) bs.length cap) bs ∧ Below w.heap.size w w'
set_option maxHeartbeats 800000 in
theorem of_ref (A : Option Addr) (l c : Nat) (ss : List ByteArray) (w : World) (hR : Reads w w.heap.size 1 A l (ss.map Value.string)) (hs : ∀ s ∈ ss, s.size ≤ 140737488351232) (hl : l ≤ 1000) :
    Calls Try.prog 41 #[.slice A l c] w (FilA w (addT (zs (nby l), 0) ss).1) := by
  have c1 := newr_ok l (w.alloc (.cells #[.slice none 0 0] 34)) (by omega)
  have H := Lib.hid hR
  have Hs := Lib.hid hs
  have hbd := nby_bd l
  rw [← zs_len (nby l)] at hbd
  have hbx : Below w.heap.size w (w.alloc (.cells #[.slice none 0 0] 34)) := (Below.refl _ _).alloc (Nat.le_refl _) _
  have Hbx := Lib.hid hbx
  clear hR hs hbx
  generalize zs (nby l) = bs at *
  have Hst : Hid ((addT (bs, 0) ss).1 = st bs ss ss.length) := Lib.hid (by unfold st; rw [List.take_of_length_le (Nat.le_refl _)])
  have Hsl := Lib.hid (st_len bs ss ss.length)
  rw [Hst.out]
  clear Hst
  go_enter Try.func41, Try.ntmps41
  go_wp2_with fail
  refine c1.mono ?_
  rintro e w1 ⟨g, cap, rfl, ho, hb1⟩
  have hz1 := hb1.size
  simp at hz1
  have r0 : Blk w1 w.heap.size 34 #[.slice none 0 0] := (Blk.new w _ _).below hb1 (by simp)
  have hbw1 := Hbx.out.trans (hb1.mono Hbx.out.size)
  have hbw2 := hbw1.alloc hbw1.size (.cells #[.slice (some ⟨g, 0, none⟩) bs.length cap] 34)
  have ho2 := ho.kept (w' := w1.alloc (.cells #[.slice (some ⟨g, 0, none⟩) bs.length cap] 34)) ((Below.refl _ _).alloc (Nat.le_refl _) _)
  have hg := ho2.1.lt g rfl
  have hg0 := ho.1.lt g rfl
  simp at hg hg0
  have c2 := addAll_ref g cap w.heap.size bs A l c ss _ ⟨ho2.1.mono (by simp), ho2.2⟩ hbw2.size (by omega) (by omega) ((H.out.below hbw2).more hbw2.size) Hs.out hl
  have r1 := r0.alloc (.cells #[.slice (some ⟨g, 0, none⟩) bs.length cap] 34)
  have b0 := Blk.new w1 34 #[.slice (some ⟨g, 0, none⟩) bs.length cap]
  have C2 := Lib.hid c2
  have Hbw2 := Lib.hid hbw2
  have R1 := Lib.hid r1
  have B0 := Lib.hid b0
  clear c1 c2 r0 r1 b0 ho ho2 hb1 hbw1 hbw2
  go_wp2_with fail
  refine C2.out.mono ?_
  rintro e w2 ⟨g2, q2, z, rfl, ho3, hb3⟩
  rw [Hsl.out] at ho3 ⊢
  have hz3 := hb3.size
  simp at hz3
  have b1 := B0.out.below hb3 (by simp)
  have r2 := R1.out.below hb3 (by simp; omega)
  have hb0 := b1.cell 0
  have hb1 := b1.frozen 0
  have hr0 := (r2.far (p := ⟨w1.heap.size, 0, none⟩) (by show w.heap.size ≠ w1.heap.size; omega) (.slice (some ⟨g2, 0, none⟩) bs.length q2)).cell 0
  have hr1 := r2.frozen 0
  have hq := ((r2.far (p := ⟨w1.heap.size, 0, none⟩) (by show w.heap.size ≠ w1.heap.size; omega) (.slice (some ⟨g2, 0, none⟩) bs.length q2)).set_ 0 (.slice (some ⟨g2, 0, none⟩) bs.length q2)).cell 0
  simp at hb0 hr0 hq
  have hbe := (Hbw2.out.trans (hb3.mono Hbw2.out.size))
  have hne : ¬ w.heap.size = w1.heap.size := by omega
  have Fin := Lib.hid ((hbe.setCell (p := ⟨w1.heap.size, 0, none⟩) (by show w.heap.size ≤ w1.heap.size; omega) (.slice (some ⟨g2, 0, none⟩) bs.length q2)).setCell (p := ⟨w.heap.size, 0, none⟩) (Nat.le_refl _) (.slice (some ⟨g2, 0, none⟩) bs.length q2))
  have n1 := ho3.ne_blk b1
  have n2 := ho3.ne_blk r2
  have HO3 := Lib.hid ((ho3.far (grownBy_setCell w2 w1.heap.size 0 (.slice (some ⟨g2, 0, none⟩) bs.length q2)) (by simp [Value.ownBlock]; exact n1)).far (grownBy_setCell _ w.heap.size 0 (.slice (some ⟨g2, 0, none⟩) bs.length q2)) (by simp [Value.ownBlock]; exact n2))
  clear hbe b1 r2 ho3 hb3 C2 Hbw2 R1 B0
  go_wp2
  refine bodyPost_ret (v := .agg #[.slice (some ⟨g2, 0, none⟩) bs.length q2]) (by simp [results, Try.results41, go_sem, hq]) rfl ?_
  exact ⟨g2, q2, by rw [Hsl.out], by rw [Hsl.out]; exact HO3.out, Fin.out⟩
end Go.Proofs.Ytambdddahbgelaa.Bl
