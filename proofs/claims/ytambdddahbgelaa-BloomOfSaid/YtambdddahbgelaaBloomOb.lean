/- The document's AddAll, Of: the walks. -/
import Derived.Test.YtambdddahbgelaaBloomOa
namespace Go.Proofs.Ytambdddahbgelaa.Bl
open Go.RowKit
set_option linter.unusedSimpArgs false

/-- Behind 'next, k := R.Add(r, l[i])'. -/
def CutO (wr : World) (bs : List Nat) (n : Nat) (s12 s13 : Value) (wx : World) : Prop :=
  ∃ p2 g2 q2, s12 = .pointer (some ⟨p2, 0, none⟩) ∧ s13 = .int .i64 (n : Int) ∧ Blk wx p2 34 #[.slice (some ⟨g2, 0, none⟩) bs.length q2] ∧
    Own wx wr.heap.size (.slice (some ⟨g2, 0, none⟩) bs.length q2) bs ∧ Below wr.heap.size wr wx ∧ wr.heap.size ≤ p2
theorem cutO_1 {wr w2 : World} {bs : List Nat} {n g2 q2 : Nat} (ho : Own w2 wr.drew.heap.size (.slice (some ⟨g2, 0, none⟩) bs.length q2) bs) (hb : Below wr.drew.heap.size wr.drew w2) :
    CutO wr bs n (.pointer (some ⟨w2.heap.size, 0, none⟩)) (.int .i64 (n : Int)) (w2.alloc (.cells #[.slice (some ⟨g2, 0, none⟩) bs.length q2] 34)) := by
  have hs : wr.heap.size ≤ w2.heap.size := hb.size
  exact ⟨_, g2, q2, rfl, rfl, Blk.new w2 _ _, ho.kept ((Below.refl _ _).alloc (Nat.le_refl _) _), ((Below.refl _ _).drew.trans hb).alloc hs _, hs⟩
theorem cutO_2 {wr w2 : World} {bs : List Nat} {n g2 q2 : Nat} (ho : Own w2 (wr.alloc (.cells #[.slice none 0 0] 34)).drew.heap.size (.slice (some ⟨g2, 0, none⟩) bs.length q2) bs)
    (hb : Below (wr.alloc (.cells #[.slice none 0 0] 34)).drew.heap.size (wr.alloc (.cells #[.slice none 0 0] 34)).drew w2) :
    CutO wr bs n (.pointer (some ⟨wr.heap.size, 0, none⟩)) (.int .i64 (n : Int)) (w2.setCell ⟨wr.heap.size, 0, none⟩ (.slice (some ⟨g2, 0, none⟩) bs.length q2)) := by
  have hs : wr.heap.size + 1 ≤ w2.heap.size := by have := hb.size; simpa using this
  have hg := ho.1.lt g2 rfl
  have hbx : Below wr.heap.size wr w2 := ((Below.refl _ _).alloc (Nat.le_refl _) (.cells #[.slice none 0 0] 34)).drew.trans (hb.mono (by simp))
  have h1 : (wr.alloc (.cells #[.slice none 0 0] 34)).drew.heap.size = wr.heap.size + 1 := by simp
  rw [h1] at hg
  refine ⟨_, g2, q2, rfl, rfl, (((Blk.new wr _ _).drew).below hb (by simp)).set_ 0 _, ?_, hbx.setCell (p := ⟨wr.heap.size, 0, none⟩) (Nat.le_refl _) _, Nat.le_refl _⟩
  have ho' : Own w2 wr.heap.size (.slice (some ⟨g2, 0, none⟩) bs.length q2) bs := ⟨ho.1.mono (by rw [h1]; omega), ho.2⟩
  exact ho'.far (grownBy_setCell w2 wr.heap.size 0 _) (by simp [Value.ownBlock]; omega)


/-- What has been added so far, in AddAll. -/
structure AllR (w wr : World) (base : Nat) (x : List Nat) : Prop where
  box : ∃ gr cap, Blk wr w.heap.size 34 #[.slice (some ⟨gr, 0, none⟩) x.length cap] ∧ Own wr base (.slice (some ⟨gr, 0, none⟩) x.length cap) x ∧ gr ≠ w.heap.size ∧ gr ≠ w.heap.size + 1
  res : Blk wr (w.heap.size + 1) 34 #[.slice none 0 0]
  bel : Below w.heap.size w wr
theorem AllR.below {w wr w2 : World} {base : Nat} {x : List Nat} (a : AllR w wr base x) (hb : Below wr.heap.size wr w2) : AllR w w2 base x := by
  obtain ⟨gr, cap, hx, ho, h1, h2⟩ := a.box
  exact ⟨⟨gr, cap, hx.below hb hx.lt, ho.kept hb, h1, h2⟩, a.res.below hb a.res.lt, a.bel.trans (hb.mono a.bel.size)⟩
theorem AllR.turn {w wr : World} {base g2 q2 : Nat} {x y : List Nat} (a : AllR w wr base x) (hl : y.length = x.length) (ho : Own wr base (.slice (some ⟨g2, 0, none⟩) x.length q2) y) (h1 : g2 ≠ w.heap.size) (h2 : g2 ≠ w.heap.size + 1) :
    AllR w (wr.setCell ⟨w.heap.size, 0, none⟩ (.slice (some ⟨g2, 0, none⟩) x.length q2)) base y := by
  obtain ⟨g1, q1, hx, _, _, _⟩ := a.box
  rw [← hl] at ho ⊢
  refine ⟨⟨g2, q2, hx.set_ 0 _, ho.far (grownBy_setCell wr _ 0 _) (by intro e; exact h1 (Option.some.inj e)), h1, h2⟩, a.res.far (by show w.heap.size + 1 ≠ w.heap.size; omega) _, a.bel.setCell (p := ⟨w.heap.size, 0, none⟩) (Nat.le_refl _) _⟩
/-- The document's filter, with some count. -/
def FilB (w : World) (base : Nat) (bs : List Nat) (e : Ending) (w' : World) : Prop :=
  ∃ g cap, ∃ z : Int, e = .returned (.tuple #[.agg #[.slice (some ⟨g, 0, none⟩) bs.length cap], .int .i64 z]) ∧ Own w' base (.slice (some ⟨g, 0, none⟩) bs.length cap) bs ∧ Below w.heap.size w w'

set_option maxHeartbeats 3200000 in
theorem addAll_ref (g c base : Nat) (bs : List Nat) (A : Option Addr) (l c2 : Nat) (ss : List ByteArray) (w : World) (hO : Own w base (.slice (some ⟨g, 0, none⟩) bs.length c) bs) (hbase : base ≤ w.heap.size) (hlo : 8 ≤ bs.length) (hhi : bs.length ≤ 131072)
    (hR : Reads w w.heap.size 1 A l (ss.map Value.string)) (hs : ∀ s ∈ ss, s.size ≤ 140737488351232) (hl : l ≤ 1000) :
    Calls Try.prog 59 #[.agg #[.slice (some ⟨g, 0, none⟩) bs.length c], .slice A l c2] w (FilB w base (st bs ss ss.length)) := by
  have hgl := hO.1.lt g rfl
  have hll : ss.length = l := by have := hR.1; rw [List.length_map] at this; omega
  subst hll
  have S0 : AllR w ((w.alloc (.cells #[.slice (some ⟨g, 0, none⟩) bs.length c] 34)).alloc (.cells #[.slice none 0 0] 34)) base (st bs ss 0) := by
    have hb : Below w.heap.size w ((w.alloc (.cells #[.slice (some ⟨g, 0, none⟩) bs.length c] 34)).alloc (.cells #[.slice none 0 0] 34)) := ((Below.refl _ _).alloc (Nat.le_refl _) _).alloc (by simp) _
    have h2 := Blk.new (w.alloc (.cells #[.slice (some ⟨g, 0, none⟩) bs.length c] 34)) 34 #[.slice none 0 0]
    rw [World.size_alloc] at h2
    exact ⟨⟨g, c, (Blk.new w _ _).alloc _, hO.kept hb, by omega, by omega⟩, h2, hb⟩
  have HS0 := Lib.hid S0
  have Hst := Lib.hid (fun k => st_len bs ss k)
  have HR := Lib.hid hR
  clear hO S0 hgl hR
  go_enter Try.func59, Try.ntmps59
  go_wp2
  go_loopw [6, 7] (fun a i wr => ∃ (k : Nat) (z : Int), k ≤ ss.length ∧ i = .int .i64 k ∧ a = .int .i64 z ∧ 0 ≤ z ∧ z ≤ 4 * k ∧ AllR w wr base (st bs ss k)) (fun _ i _ => ss.length - (intOf i).toNat)
  case atStart => exact ⟨0, 0, Nat.zero_le _, rfl, rfl, by omega, by omega, HS0.out⟩
  case round =>
    obtain ⟨k, z, hk, rfl, rfl, hz0, hz1, hT⟩ := hrel
    by_cases hlt : k < ss.length
    · obtain ⟨ab, ao, hkl, rfl, hab, hcw'⟩ := HR.out.at_map hlt
      have hcw := (hT.bel.cell (p := ⟨ab, ao + k, none⟩) hab).trans hcw'
      have hsk : ss[k].size ≤ 140737488351232 := hs _ (List.getElem_mem hkl)
      have hst := Lib.hid (st_succ bs ss k hkl)
      have hls := Hst.out k
      obtain ⟨g1, q1, hbox, hown, hn1, hn2⟩ := hT.box
      have hb0 := hbox.cell 0
      simp at hb0
      have cA := fun wx (hbx : Below wr.heap.size wr wx) => addr_any (some ⟨g1, 0, none⟩) q1 (st bs ss k) ss[k] wx (hown.kept hbx).rd (by omega) (by omega) hsk
      simp only [hls] at cA hb0
      have CA := Lib.hid cA
      have HT := Lib.hid hT
      have Hlx := Lib.hid hls
      have hsz := hbox.lt
      have hi0 : (0 : Int) ≤ (k : Int) := by omega
      have hi1 : (k : Int) < (ss.length : Int) := by omega
      have hab2 : ab < wr.heap.size := by have := hT.bel.size; omega
      clear cA hbox hown hT hls hcw'
      generalize ss[k] = s at *
      generalize st bs ss k = x at *
      go_upto_region 5 with fail
      go_cut [8, 9] (fun s12 s13 wx => CutO wr (addK (x, 0) (pls s.data.toList (8 * bs.length))).1 (addK (x, 0) (pls s.data.toList (8 * bs.length))).2 s12 s13 wx)
      case first =>
        go_region_held3 (fun w' => w'.cell? ⟨w.heap.size, 0, none⟩ = some (.slice (some ⟨g1, 0, none⟩) bs.length q1) ∧ w'.cell? ⟨ab, ao + k, none⟩ = some (.string s))
          (first
            | go_keep
            | exact ⟨h8, h9⟩
            | exact ⟨(World.cell?_alloc_lt w2 _ ⟨w.heap.size, 0, none⟩ (World.block_lt_of_cell? w2 _ h8)).trans h8, (World.cell?_alloc_lt w2 _ ⟨ab, ao + k, none⟩ (World.block_lt_of_cell? w2 _ h9)).trans h9⟩
            | exact ⟨(((Below.refl wr.heap.size w2).setCell (p := ⟨wr.heap.size, 0, none⟩) (Nat.le_refl _) _).cell (p := ⟨w.heap.size, 0, none⟩) hsz).trans h8, (((Below.refl wr.heap.size w2).setCell (p := ⟨wr.heap.size, 0, none⟩) (Nat.le_refl _) _).cell (p := ⟨ab, ao + k, none⟩) hab2).trans h9⟩)
          (first
            | (go_at_call 17; (with_reducible refine (CA.out _ ?hbb).mono ?_); (case hbb => exact ((Below.refl _ _).drew)); rintro e w2 ⟨g2, q2, rfl, ho2, hb2⟩; have h8 : w2.cell? ⟨w.heap.size, 0, none⟩ = some (.slice (some ⟨g1, 0, none⟩) bs.length q1) := (hb2.cell (p := ⟨w.heap.size, 0, none⟩) hsz).trans hb0; have h9 : w2.cell? ⟨ab, ao + k, none⟩ = some (.string s) := (hb2.cell (p := ⟨ab, ao + k, none⟩) hab2).trans hcw)
            | (go_at_call 17; (with_reducible refine (CA.out _ ?hbb).mono ?_); (case hbb => exact (((Below.refl _ _).alloc (Nat.le_refl _) _).drew)); rintro e w2 ⟨g2, q2, rfl, ho2, hb2⟩; have e0 : w2.cell? ⟨wr.heap.size, 0, none⟩ = some (.slice none 0 0) := (hb2.cell (p := ⟨wr.heap.size, 0, none⟩) (by simp)).trans ((Blk.new wr _ _).cell 0); have e1 : w2.frozen? ⟨wr.heap.size, 0, none⟩ = false := (hb2.frozen (p := ⟨wr.heap.size, 0, none⟩) (by simp)).trans ((Blk.new wr _ _).frozen 0); have h8 : w2.cell? ⟨w.heap.size, 0, none⟩ = some (.slice (some ⟨g1, 0, none⟩) bs.length q1) := ((hb2.cell (p := ⟨w.heap.size, 0, none⟩) (by simp; omega)).trans (World.cell?_alloc_lt wr _ ⟨w.heap.size, 0, none⟩ hsz)).trans hb0; have h9 : w2.cell? ⟨ab, ao + k, none⟩ = some (.string s) := ((hb2.cell (p := ⟨ab, ao + k, none⟩) (by simp; omega)).trans (World.cell?_alloc_lt wr _ ⟨ab, ao + k, none⟩ hab2)).trans hcw))
        all_goals (go_wp2_with fail; go_meet)
        · exact cutO_1 ho2 hb2
        · exact cutO_2 ho2 hb2
      case rest =>
        obtain ⟨p2, g2, q2, rfl, rfl, hx2, ho2, hb2, hp2⟩ := hcut
        have hT2 := HT.out.below hb2
        have hd2 := hx2.cell 0
        obtain ⟨g3, q3, hx3, ho3, _, _⟩ := hT2.box
        have hd3 := hx3.cell 0
        have hf3 := hx3.frozen 0
        have hlx : x.length = bs.length := Hlx.out
        have hl2 : (addK (x, 0) (pls s.data.toList (8 * bs.length))).1.length = bs.length := (addK_len _ _).trans hlx
        have hg2 := ho2.1.lt g2 rfl
        have hbl := HT.out.bel.size
        have hrs := HT.out.res.lt
        have hT3 := hT2.turn (g2 := g2) (q2 := q2) (hl2.trans hlx.symm) (by rw [hl2] at ho2; rw [hlx]; exact ⟨by rw [← hl2]; rw [← hl2] at ho2; exact ho2.1.mono (by omega), ho2.2⟩) (by omega) (by omega)
        rw [hlx] at hT3
        simp at hd2 hd3
        rw [hl2] at hd2
        have ha2 := addK_n_le (pls s.data.toList (8 * bs.length)) (x, 0)
        have ha3 : (addK (x, 0) (pls s.data.toList (8 * bs.length))).2 ≤ 4 := ha2
        have Hs2 : Hid ((addK (x, 0) (pls s.data.toList (8 * bs.length))).1 = st bs ss (k + 1)) := Lib.hid (by rw [← hst.out, addT_one, hlx])
        rw [Hs2.out] at hT3
        have HT3 := Lib.hid hT3
        clear hlx hl2 hT3 hx2 ho2 hx3 ho3 hT2 ha2 hst CA HT
        generalize addK (x, 0) (pls s.data.toList (8 * bs.length)) = y at *
        go_wp2
        go_roundw
        case rel => exact ⟨k + 1, z + y.2, by omega, by go_num, by go_num, by omega, by omega, HT3.out⟩
        case measure => simp [intOf]; omega
    · obtain rfl : k = ss.length := by omega
      have hls := Hst.out ss.length
      obtain ⟨g1, q1, hbox, hown, hn1, hn2⟩ := hT.box
      have hb0 := hbox.cell 0
      have hr0 := hT.res.cell 0
      have hf0 := hT.res.frozen 0
      have hq := (hT.res.set_ 0 (.slice (some ⟨g1, 0, none⟩) bs.length q1)).cell 0
      simp at hb0 hr0 hq
      have Fin := Lib.hid (hT.bel.setCell (p := ⟨w.heap.size + 1, 0, none⟩) (by simp) (.slice (some ⟨g1, 0, none⟩) bs.length q1))
      have Own2 := Lib.hid (hown.far (grownBy_setCell wr (w.heap.size + 1) 0 (.slice (some ⟨g1, 0, none⟩) bs.length q1)) (by simp [Value.ownBlock]; exact hn2))
      have Hls := Lib.hid hls
      rw [hls] at hb0
      clear hT hbox hown hls
      generalize st bs ss ss.length = x at *
      go_wp2
      refine bodyPost_ret (v := .tuple #[.agg #[.slice (some ⟨g1, 0, none⟩) bs.length q1], .int .i64 z]) (by simp [results, Try.results59, go_sem, hq]) rfl ?_
      exact ⟨g1, q1, z, by rw [Hls.out], Own2.out, Fin.out⟩
end Go.Proofs.Ytambdddahbgelaa.Bl
