/- Filters of terms, of bytes: bloom.Of, bloom.Read; the document's AddAll, Of, Read: the walks. -/
import Derived.Test.YtambdddahbgelaaBloomU
import Derived.Test.YtambdddahbgelaaBloomNever
import Derived.Deep.DeepCutAuto
import Derived.Outline
namespace Go.Proofs.Ytambdddahbgelaa.Bl
open Go.RowKit
set_option linter.unusedSimpArgs false

/-- A new filter of the call's own. -/
def NewF (w : World) (bs : List Nat) (e : Ending) (w' : World) : Prop :=
  ∃ g hh, e = .returned (.pointer (some ⟨g, 0, none⟩)) ∧ FAt w' g hh bs ∧ Below w.heap.size w w'
def NewFE (w : World) (bs : List Nat) (e : Ending) (w' : World) : Prop :=
  ∃ g hh, e = .returned (.tuple #[.pointer (some ⟨g, 0, none⟩), .int .i64 0]) ∧ FAt w' g hh bs ∧ Below w.heap.size w w'

set_option maxHeartbeats 400000 in
theorem of_any (A : Option Addr) (l c : Nat) (ss : List ByteArray) (w : World) (hR : Reads w w.heap.size 1 A l (ss.map Value.string)) (hs : ∀ s ∈ ss, s.size ≤ 140737488351232) (hl : l ≤ 1000) :
    Calls Try.prog 40 #[.slice A l c] w (NewF w (addT (zs (nby l), 0) ss).1) := by
  have c1 := new_ok l w (by omega)
  have H := Lib.hid hR
  have Hs := Lib.hid hs
  have Hlen := Lib.hid (zs_len (nby l))
  clear hR hs
  generalize zs (nby l) = bs at *
  go_enter Try.func40, Try.ntmps40
  go_wp2_with fail
  refine c1.mono ?_
  rintro e w1 ⟨g, hh, rfl, hF, hb1, hg, hh'⟩
  have c2 := add_any g hh bs A l c ss w1 hF ((H.out.below hb1).more hb1.size) Hs.out (by omega) (by
    intro b o e hn
    obtain ⟨b', o', e', hlt, _⟩ := H.out.2 hn
    rw [e] at e'
    injection e' with e'
    injection e' with e1 e2
    omega)
  have Hb1 := Lib.hid hb1
  clear hF hb1 c1
  go_wp2_with fail
  refine c2.mono ?_
  rintro e w2 ⟨rfl, hF2, hg2⟩
  have Hb2 := Lib.hid (Hb1.out.grown hg2 Hb1.out.size (fun j hj => by injection hj with hj; omega))
  have HF2 := Lib.hid hF2
  clear hF2 hg2 c2
  go_wp2
  go_ret
  exact ⟨g, hh, rfl, HF2.out, Hb2.out⟩

theorem FAt.boxed {w : World} {hh cap : Nat} {bs : List Nat} (ho : Own w 0 (.slice (some ⟨hh, 0, none⟩) bs.length cap) bs) (hlo : 8 ≤ bs.length) (hhi : bs.length ≤ 131072) :
    FAt (w.alloc (.cells #[.slice (some ⟨hh, 0, none⟩) bs.length cap] 46)) w.heap.size hh bs := by
  refine ⟨⟨cap, Blk.new w _ _⟩, ?_, ho.2, hlo, hhi⟩
  rcases ho.1.2 with ⟨hv, _⟩ | ⟨g, cap', cur, hv, _, hg, _, _, hn, hcs⟩
  · cases hv
  · injection hv with hv
    injection hv with hv
    injection hv with hv
    subst hv
    refine ⟨(cur.toList.drop bs.length).toArray, ?_⟩
    have e : cur = bcs bs ++ (cur.toList.drop bs.length).toArray := by
      apply Array.toList_inj.1
      rw [Array.toList_append, Nat.mul_one] at *
      show cur.toList = (bcs bs).toList ++ _
      have : (bcs bs).toList = bv bs := by simp [bcs, bv]
      rw [this, ← hcs, List.take_append_drop]
    rw [← e]
    exact (show Blk w hh 5 cur from hg).alloc _

set_option maxHeartbeats 400000 in
theorem read_bad (A : Option Addr) (l c : Nat) (w : World) (hl : l < 8) :
    Calls Try.prog 42 #[.slice A l c] w fun e w' => e = .returned (.tuple #[.pointer none, .int .i64 90]) ∧ w = w' := by
  have h' : (l : Int) < 8 := by omega
  go_enter Try.func42, Try.ntmps42
  go_wp2
  go_ret2
  exact ⟨rfl, rfl⟩
set_option maxHeartbeats 400000 in
theorem read_ok (A : Option Addr) (c : Nat) (bs : List Nat) (w : World) (h : RD w w.heap.size A bs) (hlo : 8 ≤ bs.length) (hhi : bs.length ≤ 131072) :
    Calls Try.prog 42 #[.slice A bs.length c] w (NewFE w bs) := by
  have h1 : ¬ (bs.length : Int) < 8 := by omega
  have h2 : ¬ (131072 : Int) < (bs.length : Int) := by omega
  have c1 := clone_any A c bs w h hlo hhi
  clear h
  go_enter Try.func42, Try.ntmps42
  go_wp2_with fail
  refine c1.mono ?_
  rintro e w1 ⟨g, cap, rfl, ho, hb⟩
  have Fin := Lib.hid (FAt.boxed (w := w1) (hh := g) (cap := cap) ⟨ho.1.mono (Nat.zero_le _), ho.2⟩ hlo hhi)
  have Hb := Lib.hid (hb.alloc hb.size (.cells #[.slice (some ⟨g, 0, none⟩) bs.length cap] 46))
  clear ho hb c1
  go_wp2
  go_ret2
  exact ⟨w1.heap.size, g, rfl, Fin.out, Hb.out⟩

/-- The document's, with no error. -/
def FilE (w : World) (bs : List Nat) (e : Ending) (w' : World) : Prop :=
  ∃ g cap, e = .returned (.tuple #[.agg #[.slice (some ⟨g, 0, none⟩) bs.length cap], .int .i64 0]) ∧ Own w' w.heap.size (.slice (some ⟨g, 0, none⟩) bs.length cap) bs ∧ Below w.heap.size w w'
set_option maxHeartbeats 400000 in
theorem readr_bad (A : Option Addr) (l c : Nat) (w : World) (hl : l < 8) :
    Calls Try.prog 43 #[.slice A l c] w fun e w' => e = .returned (.tuple #[.agg #[.slice none 0 0], .int .i64 90]) ∧ Below w.heap.size w w' := by
  have h' : (l : Int) < 8 := by omega
  have hb : Below w.heap.size w ((w.alloc (.cells #[.slice none 0 0] 34))) := (Below.refl _ _).alloc (Nat.le_refl _) _
  have Hb := Lib.hid hb
  clear hb
  go_enter Try.func43, Try.ntmps43
  go_wp2
  refine bodyPost_ret (v := .tuple #[.agg #[.slice none 0 0], .int .i64 90]) (by simp [results, Try.results43, go_sem]) rfl ⟨rfl, ?_⟩
  first | exact Hb.out | exact Hb.out.setCell (p := ⟨w.heap.size, 0, none⟩) (Nat.le_refl _) _
set_option maxHeartbeats 800000 in
theorem readr_ok (A : Option Addr) (c : Nat) (bs : List Nat) (w : World) (h : RD w w.heap.size A bs) (hlo : 8 ≤ bs.length) (hhi : bs.length ≤ 131072) :
    Calls Try.prog 43 #[.slice A bs.length c] w (FilE w bs) := by
  have h1 : ¬ (bs.length : Int) < 8 := by omega
  have h2 : ¬ (131072 : Int) < (bs.length : Int) := by omega
  obtain ⟨i0, hi0, hz0, hz1, hz2⟩ := info_parts u8r_info
  obtain ⟨ab, ao, rfl, hab, hcs⟩ := h.1.2 (by omega)
  have Hcs := Lib.hid hcs
  have Hby := Lib.hid h.2
  clear hcs h
  go_enter Try.func43, Try.ntmps43
  go_wp2_with (at_builtin; refine wpList_append_own _ rfl _ _ 32 rfl (w.heap.size + 1) 5 i0 (.int .u8 0) 1 1 Try.underlying32 hi0 hz0 hz1 hz2 rfl (by decide) (.slice (some ⟨w.heap.size + 1, 0, none⟩) 0 0) 0 [] rfl ?hown ⟨ab, ao, none⟩ bs.length c (bv bs) rfl ?hl ?c1 ?c2 ?c3 ?c4 ?c5 ?_)
  case hown =>
    have h := World.ownsRow_made (base := w.heap.size + 1) (e := 5) (size := 1) (w.alloc (.cells #[.slice none 0 0] 34)) #[] 0 (by simp) (by unfold maxLen; omega) rfl
    simpa using h
  case hl => rw [bv_len]
  case c1 =>
    intro j u hj
    have hp := Hcs.out j u hj
    exact hp
  case c2 => exact bv_one bs
  case c3 => unfold maxLen; omega
  case c4 => omega
  intro v' w2 hown hgrow _
  obtain ⟨g, cap, rfl, hg⟩ : ∃ g cap, v' = .slice (some ⟨g, 0, none⟩) bs.length cap ∧ w.heap.size + 1 ≤ g := by
    rcases hown.2 with ⟨_, h0⟩ | ⟨g, cap, cur, hv, hb, _⟩
    · omega
    · exact ⟨g, cap, hv, hb⟩
  have hbx : Below w.heap.size w w2 := ((((Below.refl _ _).alloc (Nat.le_refl _) _).alloc (by simp) _ : Below w.heap.size w _)).grown hgrow (by simp; omega) (fun j hj => by
    injection hj with hj
    have hj' : w.heap.size + 1 = j := hj
    omega)
  have hbox0 := ((Blk.new w 34 #[.slice none 0 0]).alloc (.cells #[] 5)).grown hgrow (by simp [Value.ownBlock])
  have b0 := hbox0.cell 0
  have f0 := hbox0.frozen 0
  have q0 := (hbox0.set_ 0 (.slice (some ⟨g, 0, none⟩) bs.length cap)).cell 0
  simp at q0
  have Fin : Hid (Own (w2.setCell ⟨w.heap.size, 0, none⟩ (.slice (some ⟨g, 0, none⟩) bs.length cap)) w.heap.size (.slice (some ⟨g, 0, none⟩) bs.length cap) bs) :=
    Lib.hid ⟨(hown.kept (grownBy_setCell w2 w.heap.size 0 _) (.inr (by simp [Value.ownBlock]; omega))).mono (by omega), Hby.out⟩
  have Hbx := Lib.hid (hbx.setCell (p := ⟨w.heap.size, 0, none⟩) (Nat.le_refl _) (.slice (some ⟨g, 0, none⟩) bs.length cap))
  clear hbx hbox0 hgrow hown
  go_wp2
  refine bodyPost_ret (v := .tuple #[.agg #[.slice (some ⟨g, 0, none⟩) bs.length cap], .int .i64 0]) (by simp [results, Try.results43, go_sem, q0]) rfl ?_
  exact ⟨g, cap, rfl, Fin.out, Hbx.out⟩
end Go.Proofs.Ytambdddahbgelaa.Bl
