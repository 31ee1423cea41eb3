/- BloomRuns: what a filter for any number of terms has: the law's walk. -/
import Derived.Test.YtambdddahbgelaaBloomU
import Derived.Test.YtambdddahbgelaaBloomNever
import Derived.Deep.DeepCutAuto
import Derived.Test.YtambdddahbgelaaReg
import Derived.Outline
namespace Go.Proofs.Ytambdddahbgelaa.Bl
open Go.RowKit
set_option linter.unusedSimpArgs false

set_option maxHeartbeats 800000 in
theorem runs_bad (n : Int) (h : n < 0 ∨ 262144 < n) (A1 : Option Addr) (l1 c1 : Nat) (ss1 : List ByteArray) (A2 : Option Addr) (l2 c2 : Nat) (ss2 : List ByteArray) (w : World)
    (R1 : Reads w w.heap.size 1 A1 l1 (ss1.map Value.string)) (S1 : ∀ s ∈ ss1, s.size ≤ 140737488351232) (L1 : l1 ≤ 140737488351232)
    (R2 : Reads w w.heap.size 1 A2 l2 (ss2.map Value.string)) (S2 : ∀ s ∈ ss2, s.size ≤ 140737488351232) (L2 : l2 ≤ 140737488351232) :
    Calls Try.prog 4 #[.int .i64 n, .slice A1 l1 c1, .slice A2 l2 c2] w fun e w' => e = .returned (.bool true) ∧ Below w.heap.size w w' := by
  have k1 := few_any A1 l1 c1 ss1 w R1 S1 L1
  have k2 := fun wx hb => few_any A2 l2 c2 ss2 wx hb S2 L2
  have k3 := fun wx => new_bad n wx h
  have k4 := fun wx => newr_bad n wx h
  have K2 := Lib.hid k2
  have K3 := Lib.hid k3
  have K4 := Lib.hid k4
  have R2' := Lib.hid R2
  clear k2 k3 k4 h R1 S1 S2 R2
  go_enter Try.func4, Try.ntmps4
  go_wp2_with fail
  refine k1.mono ?_
  rintro e w1 ⟨v1, rfl, hown1, hb1⟩
  go_wp2_with fail
  refine (K2.out w1 ((R2'.out.below hb1).more hb1.size)).mono ?_
  rintro e w2 ⟨v2, rfl, hown2, hb2⟩
  go_wp2_with fail
  refine (K3.out w2).mono ?_
  rintro e w' ⟨rfl, rfl⟩
  go_wp2_with fail
  refine (K4.out w2).mono ?_
  rintro e w3 ⟨rfl, hb3⟩
  have hb03 : Below w.heap.size w w3 := (hb1.trans (hb2.mono hb1.size)).trans (hb3.mono (Nat.le_trans hb1.size hb2.size))
  have Hb03 := Lib.hid hb03
  clear hb03 hb1 hb2 hb3 hown1 hown2 k1
  go_wp2_with (go_at_call 13; refine (awake_any _).mono ?_; rintro e w4 ⟨rfl, hb4⟩)
  go_ret
  exact ⟨rfl, (Hb03.out.alloc Hb03.out.size _).trans (hb4.mono (by have := Hb03.out.size; simp; omega))⟩

/-- What holds in the law's loops: the program's filter, the document's. -/
structure Two (B : Nat) (w4 wr : World) (g h r : Nat) (bs rs : List Nat) : Prop where
  f : FAt wr g h bs
  grown : ∀ k, k < w4.heap.size → k ≠ h → wr.heap[k]? = w4.heap[k]?
  os : wr.os = w4.os ∧ wr.tape = w4.tape ∧ wr.output = w4.output ∧ w4.heap.size ≤ wr.heap.size
  hlt : h < B
  box : ∃ gr cap, Blk wr r 34 #[.slice (some ⟨gr, 0, none⟩) rs.length cap] ∧ Own wr B (.slice (some ⟨gr, 0, none⟩) rs.length cap) rs ∧ gr ≠ r
  rge : w4.heap.size ≤ r
  ble : B ≤ w4.heap.size
  gne : r ≠ g ∧ r ≠ h
theorem Two.grownBy_ {B : Nat} {w4 wr : World} {g h r : Nat} {bs rs : List Nat} (a : Two B w4 wr g h r bs rs) : w4.grownBy wr (some h) :=
  ⟨a.os.1, a.os.2.1, a.os.2.2.1, a.os.2.2.2, fun k hk hn => a.grown k hk (fun e => hn (by rw [e]))⟩
theorem Two.mk_ {B : Nat} {w4 wr : World} {g h r : Nat} {bs rs : List Nat} (f : FAt wr g h bs) (gr : w4.grownBy wr (some h)) (hlt : h < B)
    (box : ∃ gr cap, Blk wr r 34 #[.slice (some ⟨gr, 0, none⟩) rs.length cap] ∧ Own wr B (.slice (some ⟨gr, 0, none⟩) rs.length cap) rs ∧ gr ≠ r) (rge : w4.heap.size ≤ r) (ble : B ≤ w4.heap.size) (gne : r ≠ g ∧ r ≠ h) : Two B w4 wr g h r bs rs :=
  ⟨f, fun k hk hn => gr.block k hk (fun e => hn (Option.some.inj e)), ⟨gr.os, gr.tape, gr.output, gr.size⟩, hlt, box, rge, ble, gne⟩
theorem Two.below {B : Nat} {w4 wr w2 : World} {g h r : Nat} {bs rs : List Nat} (a : Two B w4 wr g h r bs rs) (hb : Below wr.heap.size wr w2) : Two B w4 w2 g h r bs rs := by
  obtain ⟨gr, cap, hx, ho, hn⟩ := a.box
  exact Two.mk_ (a.f.keep hb) (grownBy_trans a.grownBy_ (grownBy_of_below hb _)) a.hlt ⟨gr, cap, hx.below hb hx.lt, ho.kept hb, hn⟩ a.rge a.ble a.gne
theorem Two.reads {B B1 n : Nat} {w4 wr : World} {g h r : Nat} {bs rs : List Nat} {A : Option Addr} {xs : List Value} (a : Two B w4 wr g h r bs rs) (hR : Reads w4 B1 1 A n xs) (hB : B1 ≤ h) : Reads wr B1 1 A n xs := by
  have := a.hlt
  have := a.ble
  refine hR.grown a.grownBy_ (by omega) (fun b o e hn he => ?_)
  obtain ⟨b', o', e', hlt', _⟩ := hR.2 hn
  rw [e] at e'
  injection e' with e'
  injection e' with e1 e2
  injection he with he
  omega
/-- The document's filter is another one. -/
theorem Two.turn {B C : Nat} {w4 wr : World} {g h r g2 q2 : Nat} {bs rs rs' : List Nat} (a : Two B w4 wr g h r bs rs) (hl : rs'.length = rs.length) (ho : Own wr C (.slice (some ⟨g2, 0, none⟩) rs.length q2) rs') (hC : B ≤ C) (hr : r < C) :
    Two B w4 (wr.setCell ⟨r, 0, none⟩ (.slice (some ⟨g2, 0, none⟩) rs.length q2)) g h r bs rs' := by
  obtain ⟨g1, q1, hx, _, _⟩ := a.box
  rw [← hl] at ho ⊢
  have hg := ho.1.lt g2 rfl
  have ho' : Own wr B (.slice (some ⟨g2, 0, none⟩) rs'.length q2) rs' := ⟨ho.1.mono hC, ho.2⟩
  have hn : g2 ≠ r := by omega
  obtain ⟨ex, hrow⟩ := a.f.row
  obtain ⟨cap, hp⟩ := a.f.ptr
  have hrw := a.rge
  refine Two.mk_ ⟨⟨cap, hp.far (by show g ≠ r; exact a.gne.1.symm) _⟩, ⟨ex, hrow.far (by show h ≠ r; exact a.gne.2.symm) _⟩, a.f.byt, a.f.lo, a.f.hi⟩
    ⟨a.os.1, a.os.2.1, a.os.2.2.1, by simpa using a.os.2.2.2, fun k hk hn => ?_⟩ a.hlt ⟨g2, q2, ?_, ho'.far (grownBy_setCell wr r 0 _) (by intro e; exact hn (Option.some.inj e)), hn⟩ a.rge a.ble a.gne
  · rw [Below.heap_setCell wr ⟨r, 0, none⟩ _ k (by show k ≠ r; omega)]
    exact a.grown k hk (fun e => hn (by rw [e]))
  · exact hx.set_ 0 _
/-- The program's filter has more. -/
theorem Two.add {B : Nat} {w4 wr w2 : World} {g h r : Nat} {bs bs' rs : List Nat} (a : Two B w4 wr g h r bs rs) (hF : FAt w2 g h bs') (hg : wr.grownBy w2 (some h)) : Two B w4 w2 g h r bs' rs := by
  obtain ⟨g1, q1, hx, ho, hn⟩ := a.box
  have h1 := a.hlt
  have h2 := ho.1.lt g1 rfl
  exact Two.mk_ hF (grownBy_trans a.grownBy_ hg) a.hlt ⟨g1, q1, hx.grown hg (by intro e; exact a.gne.2 (Option.some.inj e)), ho.far hg (by intro e; have := Option.some.inj e; simp at this; omega), hn⟩ a.rge a.ble a.gne

/-- Behind 'next, k := R.Add(r, l[i])'. -/
def CutA (wr : World) (bs : List Nat) (n : Nat) (s12 s13 : Value) (wx : World) : Prop :=
  ∃ p2 g2 q2, s12 = .pointer (some ⟨p2, 0, none⟩) ∧ s13 = .int .i64 (n : Int) ∧ Blk wx p2 34 #[.slice (some ⟨g2, 0, none⟩) bs.length q2] ∧
    Own wx wr.heap.size (.slice (some ⟨g2, 0, none⟩) bs.length q2) bs ∧ Below wr.heap.size wr wx ∧ wr.heap.size ≤ p2
theorem cutA_1 {wr w2 : World} {bs : List Nat} {n g2 q2 : Nat} (ho : Own w2 wr.drew.heap.size (.slice (some ⟨g2, 0, none⟩) bs.length q2) bs) (hb : Below wr.drew.heap.size wr.drew w2) :
    CutA wr bs n (.pointer (some ⟨w2.heap.size, 0, none⟩)) (.int .i64 (n : Int)) (w2.alloc (.cells #[.slice (some ⟨g2, 0, none⟩) bs.length q2] 34)) := by
  have hs : wr.heap.size ≤ w2.heap.size := hb.size
  exact ⟨_, g2, q2, rfl, rfl, Blk.new w2 _ _, ho.kept ((Below.refl _ _).alloc (Nat.le_refl _) _), ((Below.refl _ _).drew.trans hb).alloc hs _, hs⟩
theorem cutA_2 {wr w2 : World} {bs : List Nat} {n g2 q2 : Nat} (ho : Own w2 (wr.alloc (.cells #[.slice none 0 0] 34)).drew.heap.size (.slice (some ⟨g2, 0, none⟩) bs.length q2) bs)
    (hb : Below (wr.alloc (.cells #[.slice none 0 0] 34)).drew.heap.size (wr.alloc (.cells #[.slice none 0 0] 34)).drew w2) :
    CutA wr bs n (.pointer (some ⟨wr.heap.size, 0, none⟩)) (.int .i64 (n : Int)) (w2.setCell ⟨wr.heap.size, 0, none⟩ (.slice (some ⟨g2, 0, none⟩) bs.length q2)) := by
  have hs : wr.heap.size + 1 ≤ w2.heap.size := by have := hb.size; simpa using this
  have hg := ho.1.lt g2 rfl
  have hbx : Below wr.heap.size wr w2 := ((Below.refl _ _).alloc (Nat.le_refl _) (.cells #[.slice none 0 0] 34)).drew.trans (hb.mono (by simp))
  have h1 : (wr.alloc (.cells #[.slice none 0 0] 34)).drew.heap.size = wr.heap.size + 1 := by simp
  rw [h1] at hg
  refine ⟨_, g2, q2, rfl, rfl, (((Blk.new wr _ _).drew).below hb (by simp)).set_ 0 _, ?_, hbx.setCell (p := ⟨wr.heap.size, 0, none⟩) (Nat.le_refl _) _, Nat.le_refl _⟩
  have ho' : Own w2 wr.heap.size (.slice (some ⟨g2, 0, none⟩) bs.length q2) bs := ⟨ho.1.mono (by rw [h1]; omega), ho.2⟩
  exact ho'.far (grownBy_setCell w2 wr.heap.size 0 _) (by simp [Value.ownBlock]; omega)

set_option maxHeartbeats 6400000 in
theorem runs_ok (n : Nat) (h : n ≤ 262144) (A1 : Option Addr) (l1 c1 : Nat) (ss1 : List ByteArray) (A2 : Option Addr) (l2 c2 : Nat) (ss2 : List ByteArray) (w : World)
    (R1 : Reads w w.heap.size 1 A1 l1 (ss1.map Value.string)) (S1 : ∀ s ∈ ss1, s.size ≤ 140737488351232) (L1 : l1 ≤ 140737488351232)
    (R2 : Reads w w.heap.size 1 A2 l2 (ss2.map Value.string)) (S2 : ∀ s ∈ ss2, s.size ≤ 140737488351232) (L2 : l2 ≤ 140737488351232) :
    Calls Try.prog 4 #[.int .i64 (n : Int), .slice A1 l1 c1, .slice A2 l2 c2] w fun e w' => e = .returned (.bool true) ∧ Below w.heap.size w w' := by
  have k1 := few_any A1 l1 c1 ss1 w R1 S1 L1
  have k2 := fun wx hb => few_any A2 l2 c2 ss2 wx hb S2 L2
  have k3 := fun wx => new_ok n wx h
  have k4 := fun wx => newr_ok n wx h
  have f1 := Lib.hid (few_size ss1)
  have f2 := Lib.hid (few_size ss2)
  have g1 := few_len ss1
  have g2 := few_len ss2
  have K2 := Lib.hid k2
  have K3 := Lib.hid k3
  have K4 := Lib.hid k4
  have R2' := Lib.hid R2
  have hbd := nby_bd n
  rw [← zs_len (nby n)] at hbd
  clear k2 k3 k4 h R1 S1 S2 R2
  generalize few ss1 = t1 at *
  generalize few ss2 = t2 at *
  generalize zs (nby n) = bs at *
  go_enter Try.func4, Try.ntmps4
  go_wp2_with fail
  refine k1.mono ?_
  rintro e w1 ⟨v1, rfl, hown1, hb1⟩
  obtain ⟨B1, d1, rfl, hQ1⟩ := own_shape hown1
  clear hown1 k1
  go_wp2_with fail
  refine (K2.out w1 ((R2'.out.below hb1).more hb1.size)).mono ?_
  rintro e w2 ⟨v2, rfl, hown2, hb2⟩
  obtain ⟨B2, d2, rfl, hQ2⟩ := own_shape hown2
  clear hown2 K2
  go_wp2_with fail
  refine (K3.out w2).mono ?_
  rintro e w3 ⟨g, hh, rfl, hF3, hb3, hgw, hhw⟩
  go_wp2_with fail
  refine (K4.out w3).mono ?_
  rintro e w4 ⟨gr, cap, rfl, ho4, hb4⟩
  have hF4 := hF3.keep hb4
  have hb04 : Below w.heap.size w w4 := ((hb1.trans (hb2.mono hb1.size)).trans (hb3.mono (Nat.le_trans hb1.size hb2.size))).trans (hb4.mono (Nat.le_trans hb1.size (Nat.le_trans hb2.size hb3.size)))
  have hQ1' : Reads w4 w1.heap.size 1 B1 t1.length (t1.map Value.string) := ((hQ1.below hb2).below (hb3.mono hb2.size)).below (hb4.mono (Nat.le_trans hb2.size hb3.size))
  have hQ2' : Reads w4 w2.heap.size 1 B2 t2.length (t2.map Value.string) := (hQ2.below hb3).below (hb4.mono hb3.size)
  have z1 := hb1.size
  have z2 := hb2.size
  have z3 := hb3.size
  have z4 := hb4.size
  have hhlt := hF3.hlt
  have HF4 := Lib.hid hF4
  have HO4 := Lib.hid ho4
  have Hb04 := Lib.hid hb04
  have HQ1 := Lib.hid hQ1'
  have HQ2 := Lib.hid hQ2'
  have hgh : w2.heap.size ≤ hh := hhw
  clear hQ1 hQ2 hQ1' hQ2' hb1 hb2 hb3 hb4 hb04 hF3 hF4 ho4 K3 K4
  go_wp2_with (go_at_call 13; refine (awake_any _).mono ?_; rintro e w5 ⟨rfl, hb5⟩)
  have z5 := hb5.size
  simp at z5
  have hbox : Blk w5 w4.heap.size 34 #[.slice (some ⟨gr, 0, none⟩) bs.length cap] := (Blk.new w4 _ _).below hb5 (by simp)
  have h45 : Below w4.heap.size w4 w5 := ((Below.refl _ _).alloc (Nat.le_refl _) _).trans (hb5.mono (by simp))
  have hglt := HF4.out.glt
  have hhlt4 := HF4.out.hlt
  have hgr4 := HO4.out.1.lt gr rfl
  have T0 : Two w3.heap.size w4 w5 g hh w4.heap.size (st bs t1 0) (st bs t1 0) := Two.mk_ (HF4.out.keep h45) (grownBy_of_below h45 _) hhlt ⟨gr, cap, hbox, HO4.out.kept h45, by omega⟩ (Nat.le_refl _) z4 ⟨by omega, by omega⟩
  have HT0 := Lib.hid T0
  have hlen := fun k => st_len bs t1 k
  have Hlen := Lib.hid hlen
  clear T0 hbox h45 hb5 hlen HF4 HO4
  go_wp2
  go_loopw [11] (fun i wr => ∃ k : Nat, k ≤ t1.length ∧ i = .int .i64 k ∧ Two w3.heap.size w4 wr g hh w4.heap.size (st bs t1 k) (st bs t1 k)) (fun i _ => t1.length - (intOf i).toNat)
  case atStart => exact ⟨0, Nat.zero_le _, rfl, HT0.out⟩
  case round =>
    obtain ⟨k, hk, rfl, hT⟩ := hrel
    by_cases hlt : k < t1.length
    · obtain ⟨ab, ao, hkl, rfl, hab, hcw⟩ := (hT.reads HQ1.out (by omega)).at_map hlt
      have hsk : t1[k].size ≤ 140737488351232 := f1.out _ (List.getElem_mem hkl)
      have hst := Lib.hid (st_succ bs t1 k hkl)
      have hls := Hlen.out k
      obtain ⟨g1, q1, hbox, hown, _⟩ := hT.box
      have hb0 := hbox.cell 0
      simp at hb0
      have cA := fun wx (hbx : Below wr.heap.size wr wx) => addr_any (some ⟨g1, 0, none⟩) q1 (st bs t1 k) t1[k] wx (hown.kept hbx).rd (by omega) (by omega) hsk
      simp only [hls] at cA hb0
      have CA := Lib.hid cA
      have HT := Lib.hid hT
      have Hlx := Lib.hid hls
      have hsz := hbox.lt
      have hi0 : (0 : Int) ≤ (k : Int) := by omega
      have hi1 : (k : Int) < (t1.length : Int) := by omega
      have hab2 : ab < wr.heap.size := by have := hT.os.2.2.2; omega
      clear cA hbox hown hT hls
      generalize t1[k] = s at *
      generalize st bs t1 k = x at *
      go_upto_region 11 with fail
      go_cut [12, 13] (fun s12 s13 wx => CutA wr (addK (x, 0) (pls s.data.toList (8 * bs.length))).1 (addK (x, 0) (pls s.data.toList (8 * bs.length))).2 s12 s13 wx)
      case first =>
        go_region_held3 (fun w' => w'.cell? ⟨w4.heap.size, 0, none⟩ = some (.slice (some ⟨g1, 0, none⟩) bs.length q1) ∧ w'.cell? ⟨ab, ao + k, none⟩ = some (.string s))
          (first
            | go_keep
            | exact ⟨h8, h9⟩
            | exact ⟨(World.cell?_alloc_lt w2 _ ⟨w4.heap.size, 0, none⟩ (World.block_lt_of_cell? w2 _ h8)).trans h8, (World.cell?_alloc_lt w2 _ ⟨ab, ao + k, none⟩ (World.block_lt_of_cell? w2 _ h9)).trans h9⟩
            | exact ⟨(((Below.refl wr.heap.size w2).setCell (p := ⟨wr.heap.size, 0, none⟩) (Nat.le_refl _) _).cell (p := ⟨w4.heap.size, 0, none⟩) hsz).trans h8, (((Below.refl wr.heap.size w2).setCell (p := ⟨wr.heap.size, 0, none⟩) (Nat.le_refl _) _).cell (p := ⟨ab, ao + k, none⟩) hab2).trans h9⟩)
          (first
            | (go_at_call 17; (with_reducible refine (CA.out _ ?hbb).mono ?_); (case hbb => exact ((Below.refl _ _).drew)); rintro e w2 ⟨g2, q2, rfl, ho2, hb2⟩; have h8 : w2.cell? ⟨w4.heap.size, 0, none⟩ = some (.slice (some ⟨g1, 0, none⟩) bs.length q1) := (hb2.cell (p := ⟨w4.heap.size, 0, none⟩) hsz).trans hb0; have h9 : w2.cell? ⟨ab, ao + k, none⟩ = some (.string s) := (hb2.cell (p := ⟨ab, ao + k, none⟩) hab2).trans hcw)
            | (go_at_call 17; (with_reducible refine (CA.out _ ?hbb).mono ?_); (case hbb => exact (((Below.refl _ _).alloc (Nat.le_refl _) _).drew)); rintro e w2 ⟨g2, q2, rfl, ho2, hb2⟩; have e0 : w2.cell? ⟨wr.heap.size, 0, none⟩ = some (.slice none 0 0) := (hb2.cell (p := ⟨wr.heap.size, 0, none⟩) (by simp)).trans ((Blk.new wr _ _).cell 0); have e1 : w2.frozen? ⟨wr.heap.size, 0, none⟩ = false := (hb2.frozen (p := ⟨wr.heap.size, 0, none⟩) (by simp)).trans ((Blk.new wr _ _).frozen 0); have h8 : w2.cell? ⟨w4.heap.size, 0, none⟩ = some (.slice (some ⟨g1, 0, none⟩) bs.length q1) := ((hb2.cell (p := ⟨w4.heap.size, 0, none⟩) (by simp; omega)).trans (World.cell?_alloc_lt wr _ ⟨w4.heap.size, 0, none⟩ hsz)).trans hb0; have h9 : w2.cell? ⟨ab, ao + k, none⟩ = some (.string s) := ((hb2.cell (p := ⟨ab, ao + k, none⟩) (by simp; omega)).trans (World.cell?_alloc_lt wr _ ⟨ab, ao + k, none⟩ hab2)).trans hcw))
        all_goals (go_wp2_with fail; go_meet)
        · exact cutA_1 ho2 hb2
        · exact cutA_2 ho2 hb2
      case rest =>
        obtain ⟨p2, g2, q2, rfl, rfl, hx2, ho2, hb2, hp2⟩ := hcut
        have hT2 := HT.out.below hb2
        have hd2 := hx2.cell 0
        obtain ⟨g3, q3, hx3, ho3, _⟩ := hT2.box
        have hd3 := hx3.cell 0
        have hf3 := hx3.frozen 0
        have hlx : x.length = bs.length := Hlx.out
        have hl2 : (addK (x, 0) (pls s.data.toList (8 * bs.length))).1.length = bs.length := (addK_len _ _).trans hlx
        have hT3 := hT2.turn (g2 := g2) (q2 := q2) (hl2.trans hlx.symm) (by rw [hl2] at ho2; rw [hlx]; exact ho2) (by have := HT.out.os.2.2.2; omega) (by omega)
        rw [hlx] at hT3
        simp at hd2 hd3
        rw [hl2] at hd2
        have hcw2 := (hb2.cell (p := ⟨ab, ao + k, none⟩) hab2).trans hcw
        have hne : ¬ ab = w4.heap.size := by omega
        have hF3 := hT3.f.keep (w' := (wc.setCell ⟨w4.heap.size, 0, none⟩ (.slice (some ⟨g2, 0, none⟩) bs.length q2)).alloc (.cells #[.string s] 9)) ((Below.refl _ _).alloc (Nat.le_refl _) _)
        have cF := add_any g hh x _ _ 1 [s] _ hF3 (reads_one _ 9 s) (by intro s' hs'; simp only [List.mem_singleton] at hs'; subst hs'; exact hsk) (by omega)
          (by intro b o e _; have := hT3.f.hlt; injection e with e; injection e with e1 e2; omega)
        have e5 : (wc.setCell ⟨w4.heap.size, 0, none⟩ (.slice (some ⟨g2, 0, none⟩) bs.length q2)).heap.size = wc.heap.size := by simp
        rw [addT_one, hlx, e5] at cF
        have ha2 := addK_n_le (pls s.data.toList (8 * bs.length)) (x, 0)
        have ha3 : (addK (x, 0) (pls s.data.toList (8 * bs.length))).2 ≤ 4 := ha2
        have Hst : Hid ((addK (x, 0) (pls s.data.toList (8 * bs.length))).1 = st bs t1 (k + 1)) := Lib.hid (by rw [← hst.out, addT_one, hlx])
        have HT3 := Lib.hid hT3
        have HcF := Lib.hid cF
        clear hlx hl2 hT3 hF3 cF hx2 ho2 hx3 ho3 hT2 e5 ha2 hst CA HT
        generalize addK (x, 0) (pls s.data.toList (8 * bs.length)) = y at *
        go_wp2_with fail
        refine HcF.out.mono ?_
        rintro e w6 ⟨rfl, hF6, hg6⟩
        have hT6 := (HT3.out.below ((Below.refl _ _).alloc (Nat.le_refl _) _)).add hF6 hg6
        rw [Hst.out] at hT6
        have HT6 := Lib.hid hT6
        clear hF6 hg6 HT3 HcF hT6
        go_wp2
        go_roundw
        case rel => exact ⟨k + 1, by omega, by go_num, HT6.out⟩
        case measure => simp [intOf]; omega
    · obtain rfl : k = t1.length := by omega
      have hls := Hlen.out t1.length
      have HT1 := Lib.hid hT
      clear hT
      generalize st bs t1 t1.length = x at *
      obtain ⟨wo, rfl⟩ : ∃ wo : World, wo = wr := ⟨_, rfl⟩
      go_wp2
      go_loopw [14] (fun i wq => ∃ k : Nat, k ≤ t2.length ∧ i = .int .i64 k ∧ Below wo.heap.size wo wq) (fun i _ => t2.length - (intOf i).toNat)
      case atStart => exact ⟨0, Nat.zero_le _, rfl, Below.refl _ _⟩
      case round =>
        obtain ⟨k, hk, rfl, hbq⟩ := hrel
        have hTq := HT1.out.below hbq
        obtain ⟨g1, q1, hbox, hown, _⟩ := hTq.box
        have hb0 := hbox.cell 0
        simp at hb0
        rw [hls] at hb0
        have hsz := hbox.lt
        by_cases hlt : k < t2.length
        · obtain ⟨ab, ao, hkl, rfl, hab, hcw⟩ := (hTq.reads HQ2.out (by omega)).at_map hlt
          have hsk : t2[k].size ≤ 140737488351232 := f2.out _ (List.getElem_mem hkl)
          have cA := fun wx (hbx : Below wr.heap.size wr wx) => may_yes g hh x t2[k] wx (hTq.f.keep hbx) hsk
          have cB := fun wx (hbx : Below wr.heap.size wr wx) => may_ref (some ⟨g1, 0, none⟩) q1 x t2[k] wx (hown.kept hbx).rd (by omega) (by omega) hsk
          simp only [hls] at cB
          have CA := Lib.hid cA
          have CB := Lib.hid cB
          have hi0 : (0 : Int) ≤ (k : Int) := by omega
          have hi1 : (k : Int) < (t2.length : Int) := by omega
          have hab2 : ab < wr.heap.size := by have := hTq.os.2.2.2; omega
          have Hbq := Lib.hid hbq
          clear cA cB hbox hown hTq hbq
          generalize t2[k] = s at *
          generalize may x s.data.toList = p at *
          go_wp2_with fail
          go_region_held3 (fun w' => w'.cell? ⟨w4.heap.size, 0, none⟩ = some (.slice (some ⟨g1, 0, none⟩) bs.length q1) ∧ w'.cell? ⟨ab, ao + k, none⟩ = some (.string s))
            (first
              | go_keep
              | exact ⟨(hfin.cell (p := ⟨w4.heap.size, 0, none⟩) hsz).trans hb0, (hfin.cell (p := ⟨ab, ao + k, none⟩) hab2).trans hcw⟩
              | exact ⟨(hba.cell (p := ⟨w4.heap.size, 0, none⟩) hsz).trans hb0, (hba.cell (p := ⟨ab, ao + k, none⟩) hab2).trans hcw⟩
              | exact ⟨(hbb.cell (p := ⟨w4.heap.size, 0, none⟩) hsz).trans hb0, (hbb.cell (p := ⟨ab, ao + k, none⟩) hab2).trans hcw⟩)
            (first
              | (go_at_call 15; (with_reducible refine (CA.out _ ?hx).mono ?_); (case hx => exact (Below.refl _ _).drew); rintro e wa ⟨rfl, hba⟩)
              | (go_at_call 15; (with_reducible refine (CA.out _ ?hx).mono ?_); (case hx => exact (Below.refl _ _).drew.trans hbb); rintro e wa ⟨rfl, hba⟩; have hfin : Below wr.heap.size wr wa := ((Below.refl _ _).drew.trans hbb).trans (hba.mono hbb.size))
              | (go_at_call 18; (with_reducible refine (CB.out _ ?hx).mono ?_); (case hx => exact (Below.refl _ _).drew); rintro e wb ⟨rfl, hbb⟩)
              | (go_at_call 18; (with_reducible refine (CB.out _ ?hx).mono ?_); (case hx => exact (Below.refl _ _).drew.trans hba); rintro e wb ⟨rfl, hbb⟩; have hfin : Below wr.heap.size wr wb := ((Below.refl _ _).drew.trans hba).trans (hbb.mono hba.size)))
          all_goals
            have Hfin := Lib.hid (Hbq.out.trans (hfin.mono Hbq.out.size))
            clear hfin hba hbb
            go_wp2
            go_roundw
            case rel => exact ⟨k + 1, by omega, by go_num, Hfin.out⟩
            case measure => simp [intOf]; omega
        · obtain rfl : k = t2.length := by omega
          have cA := fun wx (hbx : Below wr.heap.size wr wx) => bytes_any g hh x wx (hTq.f.keep hbx)
          have cB := fun wx (hbx : Below wr.heap.size wr wx) => bits_any g hh x wx (hTq.f.keep hbx)
          have cC := fun wx (hbx : Below wr.heap.size wr wx) => count_any g hh x wx (hTq.f.keep hbx)
          have cD := fun wx (hbx : Below wr.heap.size wr wx) => count_ref (some ⟨g1, 0, none⟩) q1 x wx (hown.kept hbx).rd (by omega)
          have cE := fun wx (hbx : Below wr.heap.size wr wx) => conv_rd (some ⟨g1, 0, none⟩) q1 x wx wx.heap.size (hown.kept hbx).rd (by omega)
          simp only [hls] at cB cC cD cE
          have CA := Lib.hid cA
          have CB := Lib.hid cB
          have CC := Lib.hid cC
          have CD := Lib.hid cD
          have CE := Lib.hid cE
          have cR := cE wr (Below.refl _ _)
          have Hbq := Lib.hid hbq
          have Hls := Lib.hid hls
          clear cA cB cC cD cE hbox hown hTq hbq hls
          generalize hn : cnt x (8 * bs.length) = n at *
          clear hn
          have hw8 : IntKind.i64.wrap (8 * (bs.length : Int)) = 8 * (bs.length : Int) := IntWalk.i64_in _ (by omega)
          go_wp2_with fail
          refine wp_region_noPanic ?_
          refine wp_region_held_drew (S := fun w' => w'.cell? ⟨w4.heap.size, 0, none⟩ = some (.slice (some ⟨g1, 0, none⟩) bs.length q1) ∧ (convert 32 9 (.slice (some ⟨g1, 0, none⟩) bs.length q1)).run Try.prog w' = .ok (.string (bstr x)) w') (by kernel_rfl) (by exact ⟨hb0, CE.out _ (Below.refl _ _).drew⟩) (fun hHeld => ?_)
          refine wpAnyH_takeD (i := 0) 89 (v := ?_) rfl rfl (by kernel_rfl) (by kernel_rfl) (by kernel_rfl) (fun _ _ _ h => h) (by rfl) ?_ hHeld ?_
          rotate_left
          · intro W hSw; (try dsimp only at hSw); go_simp
            all_goals with_reducible rfl
          try simp only [Act.put, List.setIfInBounds_toArray, List.set_cons_zero, List.set_cons_succ]
          refine wpAnyH_takeD (i := 3) 92 (v := ?_) rfl rfl (by kernel_rfl) (by kernel_rfl) (by kernel_rfl) (fun _ _ _ h => h) (by rfl) ?_ hHeld ?_
          rotate_left
          · intro W hSw; (try dsimp only at hSw); go_simp
            all_goals with_reducible rfl
          try simp only [Act.put, List.setIfInBounds_toArray, List.set_cons_zero, List.set_cons_succ]
          refine wpAnyH_takeD (i := 4) 93 (v := ?_) rfl rfl (by kernel_rfl) (by kernel_rfl) (by kernel_rfl) (fun _ _ _ h => h) (by rfl) ?_ hHeld ?_
          rotate_left
          · intro W hSw; (try dsimp only at hSw); go_simp
            all_goals with_reducible rfl
          try simp only [Act.put, List.setIfInBounds_toArray, List.set_cons_zero, List.set_cons_succ]
          refine wpAnyH_takeD (i := 5) 94 (v := ?_) rfl rfl (by kernel_rfl) (by kernel_rfl) (by kernel_rfl) (fun _ _ _ h => h) (by rfl) ?_ hHeld ?_
          rotate_left
          · intro W hSw; (try dsimp only at hSw); go_simp
            all_goals with_reducible rfl
          try simp only [Act.put, List.setIfInBounds_toArray, List.set_cons_zero, List.set_cons_succ]
          refine wpAnyH_ready (rs := [1]) (by kernel_rfl) (by simp) ?_
          refine AllReadyH.cons (o := _) rfl (fun K hK => ?_) AllReadyH.nil
          go_simp
          refine (CA.out _ (Below.refl _ _).drew).mono ?_
          rintro e wa ⟨ga, qa, rfl, hoa, hba⟩
          have hfin : Below wr.heap.size wr wa := (Below.refl _ _).drew.trans hba
          refine hK.out _ _ ?_ (fun hHeld => ?_)
          · exact ⟨(hfin.cell (p := ⟨w4.heap.size, 0, none⟩) hsz).trans hb0, CE.out _ hfin⟩
          clear hK K
          try simp only [Act.put, List.setIfInBounds_toArray, List.set_cons_zero, List.set_cons_succ]
          have hcv := conv_rd (some ⟨ga, 0, none⟩) qa x wa wa.heap.size hoa.rd (by have := Hls.out; omega)
          refine wpAnyH_switch (S' := fun w' => (convert 32 9 (.slice (some ⟨ga, 0, none⟩) x.length qa)).run Try.prog w' = .ok (.string (bstr x)) w' ∧ w'.cell? ⟨w4.heap.size, 0, none⟩ = some (.slice (some ⟨g1, 0, none⟩) bs.length q1) ∧ (convert 32 9 (.slice (some ⟨g1, 0, none⟩) bs.length q1)).run Try.prog w' = .ok (.string (bstr x)) w') (fun _ h => h.2) (by exact ⟨hcv, (hfin.cell (p := ⟨w4.heap.size, 0, none⟩) hsz).trans hb0, CE.out _ hfin⟩) (fun hHeld => ?_)
          refine wpAnyH_takeD (i := 2) 91 (v := ?_) rfl rfl (by kernel_rfl) (by kernel_rfl) (by kernel_rfl) (fun _ _ _ h => h) (by rfl) ?_ hHeld ?_
          rotate_left
          · intro W hSw; (try dsimp only at hSw); go_simp
            all_goals with_reducible rfl
          try simp only [Act.put, List.setIfInBounds_toArray, List.set_cons_zero, List.set_cons_succ]
          refine wpAnyH_takeD (i := 6) 95 (v := ?_) rfl rfl (by kernel_rfl) (by kernel_rfl) (by kernel_rfl) (fun _ _ _ h => h) (by rfl) ?_ hHeld ?_
          rotate_left
          · intro W hSw; (try dsimp only at hSw); go_simp
            all_goals with_reducible rfl
          try simp only [Act.put, List.setIfInBounds_toArray, List.set_cons_zero, List.set_cons_succ]
          refine wpAnyH_takeD (i := 7) 96 (v := ?_) rfl rfl (by kernel_rfl) (by kernel_rfl) (by kernel_rfl) (fun _ _ _ h => h) (by rfl) ?_ hHeld ?_
          rotate_left
          · intro W hSw; (try dsimp only at hSw); go_simp
            all_goals with_reducible rfl
          try simp only [Act.put, List.setIfInBounds_toArray, List.set_cons_zero, List.set_cons_succ]
          refine wpAnyH_takeD (i := 8) 97 (v := ?_) rfl rfl (by kernel_rfl) (by kernel_rfl) (by kernel_rfl) (fun _ _ _ h => h) (by rfl) ?_ hHeld ?_
          rotate_left
          · intro W hSw; (try dsimp only at hSw); go_simp
            all_goals with_reducible rfl
          try simp only [Act.put, List.setIfInBounds_toArray, List.set_cons_zero, List.set_cons_succ]
          refine wpAnyH_takeD (i := 10) 99 (v := ?_) rfl rfl (by kernel_rfl) (by kernel_rfl) (by kernel_rfl) (fun _ _ _ h => h) (by rfl) ?_ hHeld ?_
          rotate_left
          · intro W hSw; (try dsimp only at hSw); go_simp
            all_goals with_reducible rfl
          try simp only [Act.put, List.setIfInBounds_toArray, List.set_cons_zero, List.set_cons_succ]
          refine wpAnyH_takeD (i := 11) 100 (v := ?_) rfl rfl (by kernel_rfl) (by kernel_rfl) (by kernel_rfl) (fun _ _ _ h => h) (by rfl) ?_ hHeld ?_
          rotate_left
          · intro W hSw; (try dsimp only at hSw); go_simp
            all_goals with_reducible rfl
          try simp only [Act.put, List.setIfInBounds_toArray, List.set_cons_zero, List.set_cons_succ]
          refine wpAnyH_takeD (i := 12) 101 (v := ?_) rfl rfl (by kernel_rfl) (by kernel_rfl) (by kernel_rfl) (fun _ _ _ h => h) (by rfl) ?_ hHeld ?_
          rotate_left
          · intro W hSw; (try dsimp only at hSw); go_simp
            all_goals with_reducible rfl
          try simp only [Act.put, List.setIfInBounds_toArray, List.set_cons_zero, List.set_cons_succ]
          refine wpAnyH_takeD (i := 13) 102 (v := ?_) rfl rfl (by kernel_rfl) (by kernel_rfl) (by kernel_rfl) (fun _ _ _ h => h) (by rfl) ?_ hHeld ?_
          rotate_left
          · intro W hSw; (try dsimp only at hSw); go_simp
            all_goals with_reducible rfl
          try simp only [Act.put, List.setIfInBounds_toArray, List.set_cons_zero, List.set_cons_succ]
          refine wpAnyH_ready (rs := [9]) (by kernel_rfl) (by simp) ?_
          refine AllReadyH.cons (o := _) rfl (fun K hK => ?_) AllReadyH.nil
          go_simp
          refine (CB.out _ hfin).mono ?_
          rintro e wb ⟨rfl, rfl⟩
          refine hK.out _ _ ?_ (fun hHeld => ?_)
          · exact hHeld
          clear hK K
          try simp only [Act.put, List.setIfInBounds_toArray, List.set_cons_zero, List.set_cons_succ]
          refine wpAnyH_takeD (i := 14) 103 (v := ?_) rfl rfl (by kernel_rfl) (by kernel_rfl) (by kernel_rfl) (fun _ _ _ h => h) (by rfl) ?_ hHeld ?_
          rotate_left
          · intro W hSw; (try dsimp only at hSw); go_simp
            all_goals with_reducible rfl
          try simp only [Act.put, List.setIfInBounds_toArray, List.set_cons_zero, List.set_cons_succ]
          refine wpAnyH_takeD (i := 15) 104 (v := ?_) rfl rfl (by kernel_rfl) (by kernel_rfl) (by kernel_rfl) (fun _ _ _ h => h) (by rfl) ?_ hHeld ?_
          rotate_left
          · intro W hSw; (try dsimp only at hSw); go_simp
            all_goals with_reducible rfl
          try simp only [Act.put, List.setIfInBounds_toArray, List.set_cons_zero, List.set_cons_succ]
          refine wpAnyH_takeD (i := 16) 105 (v := ?_) rfl rfl (by kernel_rfl) (by kernel_rfl) (by kernel_rfl) (fun _ _ _ h => h) (by rfl) ?_ hHeld ?_
          rotate_left
          · intro W hSw; (try dsimp only at hSw); go_simp
            all_goals with_reducible rfl
          try simp only [Act.put, List.setIfInBounds_toArray, List.set_cons_zero, List.set_cons_succ]
          refine wpAnyH_takeD (i := 17) 106 (v := ?_) rfl rfl (by kernel_rfl) (by kernel_rfl) (by kernel_rfl) (fun _ _ _ h => h) (by rfl) ?_ hHeld ?_
          rotate_left
          · intro W hSw; (try dsimp only at hSw); go_simp
            all_goals with_reducible rfl
          try simp only [Act.put, List.setIfInBounds_toArray, List.set_cons_zero, List.set_cons_succ]
          refine wpAnyH_takeD (i := 19) 108 (v := ?_) rfl rfl (by kernel_rfl) (by kernel_rfl) (by kernel_rfl) (fun _ _ _ h => h) (by rfl) ?_ hHeld ?_
          rotate_left
          · intro W hSw; (try dsimp only at hSw); go_simp
            all_goals with_reducible rfl
          try simp only [Act.put, List.setIfInBounds_toArray, List.set_cons_zero, List.set_cons_succ]
          refine wpAnyH_ready (rs := [18]) (by kernel_rfl) (by simp) ?_
          refine AllReadyH.cons (o := _) rfl (fun K hK => ?_) AllReadyH.nil
          go_simp
          refine (CC.out _ hfin).mono ?_
          rintro e wb ⟨rfl, rfl⟩
          refine hK.out _ _ ?_ (fun hHeld => ?_)
          · exact hHeld
          clear hK K
          try simp only [Act.put, List.setIfInBounds_toArray, List.set_cons_zero, List.set_cons_succ]
          refine wpAnyH_ready (rs := [20]) (by kernel_rfl) (by simp) ?_
          refine AllReadyH.cons (o := _) rfl (fun K hK => ?_) AllReadyH.nil
          go_simp
          refine (CD.out _ hfin).mono ?_
          rintro e wd ⟨rfl, hbd'⟩
          have hfin2 : Below wr.heap.size wr wd := hfin.trans (hbd'.mono hfin.size)
          refine hK.out _ _ ?_ (fun hHeld => ?_)
          · exact ⟨conv_rd (some ⟨ga, 0, none⟩) qa x wd wd.heap.size (hoa.kept hbd').rd (by have := Hls.out; omega), (hfin2.cell (p := ⟨w4.heap.size, 0, none⟩) hsz).trans hb0, CE.out _ hfin2⟩
          clear hK K
          try simp only [Act.put, List.setIfInBounds_toArray, List.set_cons_zero, List.set_cons_succ]
          refine wpAnyH_takeD (i := 21) 110 (v := ?_) rfl rfl (by kernel_rfl) (by kernel_rfl) (by kernel_rfl) (fun _ _ _ h => h) (by rfl) ?_ hHeld ?_
          rotate_left
          · intro W hSw; (try dsimp only at hSw); go_simp
            all_goals with_reducible rfl
          try simp only [Act.put, List.setIfInBounds_toArray, List.set_cons_zero, List.set_cons_succ]
          refine wpAnyH_takeD (i := 22) 111 (v := ?_) rfl rfl (by kernel_rfl) (by kernel_rfl) (by kernel_rfl) (fun _ _ _ h => h) (by rfl) ?_ hHeld ?_
          rotate_left
          · intro W hSw; (try dsimp only at hSw); go_simp
            all_goals with_reducible rfl
          try simp only [Act.put, List.setIfInBounds_toArray, List.set_cons_zero, List.set_cons_succ]
          refine wpAnyH_takeD (i := 23) 6 (v := ?_) rfl rfl (by kernel_rfl) (by kernel_rfl) (by kernel_rfl) (fun _ _ _ h => h) (by rfl) ?_ hHeld ?_
          rotate_left
          · intro W hSw; (try dsimp only at hSw); go_simp
            all_goals with_reducible rfl
          try simp only [Act.put, List.setIfInBounds_toArray, List.set_cons_zero, List.set_cons_succ]
          refine wpAnyH_done (by kernel_rfl) ?_ _
          refine NoPanic.normal ?_
          have hb4r : Below w.heap.size w wo := Hb04.out.grown HT1.out.grownBy_ Hb04.out.size (fun j hj => by injection hj with hj; omega)
          have Hf := Lib.hid ((hb4r.trans (Hbq.out.mono hb4r.size)).trans (hfin2.mono (Nat.le_trans hb4r.size Hbq.out.size)))
          clear hfin hfin2 hba hbd' hb4r
          go_wp2
          go_ret
          exact ⟨rfl, Hf.out⟩

theorem runs_walk (n : Int) (A1 : Option Addr) (l1 c1 : Nat) (ss1 : List ByteArray) (A2 : Option Addr) (l2 c2 : Nat) (ss2 : List ByteArray) (w : World)
    (R1 : Reads w w.heap.size 1 A1 l1 (ss1.map Value.string)) (S1 : ∀ s ∈ ss1, s.size ≤ 140737488351232) (L1 : l1 ≤ 8796093021952)
    (R2 : Reads w w.heap.size 1 A2 l2 (ss2.map Value.string)) (S2 : ∀ s ∈ ss2, s.size ≤ 140737488351232) (L2 : l2 ≤ 8796093021952) :
    Calls Try.prog 4 #[.int .i64 n, .slice A1 l1 c1, .slice A2 l2 c2] w fun e w' => e = .returned (.bool true) ∧ Below w.heap.size w w' := by
  by_cases h : n < 0 ∨ 262144 < n
  · exact runs_bad n h A1 l1 c1 ss1 A2 l2 c2 ss2 w R1 S1 (by omega) R2 S2 (by omega)
  · obtain ⟨m, rfl⟩ := Int.eq_ofNat_of_zero_le (show 0 ≤ n by omega)
    exact runs_ok m (by omega) A1 l1 c1 ss1 A2 l2 c2 ss2 w R1 S1 (by omega) R2 S2 (by omega)
end Go.Proofs.Ytambdddahbgelaa.Bl
