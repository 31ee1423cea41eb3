/- cursor.Encode: the walk. -/
import Derived.Lib.AppendStr
import Derived.Lib.SlBytesConst
import Derived.ArgAppend
import Derived.Laws.OwnMore
import Derived.Lib.SmallJoins
import Derived.Deep.QuietTactic
import Derived.Test.YtceekocfmbcobaaPkCursorFollowsRow26
import Derived.Test.YtceekocfmbcobaaQpOPk
import Derived.Test.YtceekocfmbcobaaPkCursorFollowsRow13
section
namespace Go.Proofs.Ytceekocfmbcobaa.Cu
open Go.RowKit Go.Proofs.Ytceekocfmbcobaa Go.Proofs.Ytceekocfmbcobaa.Cr Go.Proofs.Ytceekocfmbcobaa.Qp Go.Proofs.Ytceekocfmbcobaa.Qy
set_option maxRecDepth 100000
set_option linter.unusedSimpArgs false

/-- Bytes of the call's own, handed back. -/
structure BytesTo (w : World) (L : List UInt8) (E : Int) (e : Ending) (w' : World) : Prop where
  ex : ∃ v, e = .returned (.tuple #[v, .int .i64 E]) ∧ w'.ownsRow w.heap.size 5 1 v L.length (bv L)
  bel : Below w.heap.size w w'
/-- A cursor's bytes, on the way. -/
structure Enc (w wr : World) (a : Int) (q : ByteArray) (v : Value) (M : List UInt8) : Prop where
  box : Blk wr w.heap.size 45 #[.int .i64 a, .string q]
  own : wr.ownsRow (w.heap.size + 1) 5 1 v M.length (bv M)
  bel : Below w.heap.size w wr
theorem Enc.alloc {w wr : World} {a : Int} {q : ByteArray} {v : Value} {M : List UInt8} (h : Enc w wr a q v M) (o : Obj) : Enc w (wr.alloc o) a q v M :=
  ⟨h.box.alloc o, h.own.alloc o, h.bel.alloc h.bel.size o⟩
theorem Enc.below {w wr w2 : World} {a : Int} {q : ByteArray} {v : Value} {M : List UInt8} (h : Enc w wr a q v M) (hb : Below wr.heap.size wr w2) : Enc w w2 a q v M :=
  ⟨h.box.below hb h.box.lt, h.own.kept (grow_of_below hb none) (by cases v.ownBlock <;> simp), h.bel.trans (hb.mono h.bel.size)⟩
theorem Enc.put {w wr w2 : World} {a : Int} {q : ByteArray} {v v' : Value} {M N : List UInt8} {n : Nat} (h : Enc w wr a q v M) (hn : N.length = n) (hown : w2.ownsRow (w.heap.size + 1) 5 1 v' (M.length + n) (bv M ++ bv N)) (hg : wr.grownBy w2 v.ownBlock) : Enc w w2 a q v' (M ++ N) := by
  subst hn
  refine ⟨h.box.grown hg (fun e => ?_), ?_, h.bel.grown hg h.bel.size (fun b e => ?_)⟩
  · have := (h.own.lt _ e.symm).1; omega
  · rw [List.length_append, bv_app]; exact hown
  · have := (h.own.lt _ e).1; omega
/-- The literal's row, marked behind its last byte. -/
structure Lit3 (w wr : World) (a : Int) (q : ByteArray) (v : Value) : Prop where
  box : Blk wr w.heap.size 45 #[.int .i64 a, .string q]
  ex : ∃ g, v = .slice (some ⟨g, 0, none⟩) 3 3 ∧ ∀ j u, (bv [76, 67, 1])[j]? = some u → wr.cell? ⟨g, j, none⟩ = some u
  bel : Below w.heap.size w wr
theorem Lit3.alloc {w wr : World} {a : Int} {q : ByteArray} {v : Value} (h : Lit3 w wr a q v) (o : Obj) : Lit3 w (wr.alloc o) a q v := by
  obtain ⟨hb, ⟨g, e, hc⟩, hl⟩ := h
  exact ⟨hb.alloc o, ⟨g, e, fun j u hu => Lib.cell?_alloc_marked o (hc j u hu)⟩, hl.alloc hl.size o⟩
theorem Lit3.put {w wr w2 : World} {a : Int} {q : ByteArray} {v v' : Value} {N : List UInt8} {n base : Nat} (h : Lit3 w wr a q v) (hn : N.length = n) (hb : w.heap.size + 1 ≤ base) (hown : w2.ownsRow base 5 1 v' (3 + n) (bv [76, 67, 1] ++ bv N)) (hg : wr.grownBy w2 none) : Enc w w2 a q v' ([76, 67, 1] ++ N) := by
  subst hn
  refine ⟨h.box.grown hg (by simp), ?_, h.bel.grown hg h.bel.size (fun b e => by cases e)⟩
  rw [List.length_append, bv_app]
  exact Joins.ownsRow_le hown hb
theorem strCells_bv (s : ByteArray) : Lib.strCells s = bv s.data.toList := rfl
theorem u8_info : (Try.prog.info? 5).map (fun i => (i.zero, i.size, i.bytes)) = some (some (.int .u8 0), 1, 1) := by kernel_rfl

theorem be2 (n : Nat) : be 2 n = [UInt8.ofNat (n / 256), UInt8.ofNat n] := by simp [be, List.range, List.range.loop]
theorem le4_snoc (n k : Nat) (h : k < 4) : (le4 n).take (k + 1) = (le4 n).take k ++ [UInt8.ofNat (n / 2 ^ (8 * k))] := by
  match k, h with
  | 0, _ => simp [le4]
  | 1, _ => rfl
  | 2, _ => rfl
  | 3, _ => rfl
theorem byte_of (n m : Nat) : (n : Int) / 2 ^ m % 256 = ((UInt8.ofNat (n / 2 ^ m)).toNat : Int) := by
  rw [u8n, Int.natCast_emod, Int.natCast_ediv, Int.natCast_pow]; rfl
theorem byte_256 (n : Nat) : (n : Int) / 256 % 256 = ((UInt8.ofNat (n / 256)).toNat : Int) := by
  rw [u8n]; omega
theorem byte_1 (n : Nat) : (n : Int) % 256 = ((UInt8.ofNat n).toNat : Int) := by
  rw [u8n]; omega

set_option maxHeartbeats 6400000 in
theorem encode_yes (a : Nat) (q : ByteArray) (w : World) (h : IsC (a : Int) q) : Calls Try.prog 21 #[.agg #[.int .i64 (a : Int), .string q]] w (BytesTo w (enc a q.data.toList) 0) := by
  obtain ⟨i0, hi0, hz0, hz1, hz2⟩ := info_parts u8_info
  have hb0 := (Below.refl w.heap.size w).alloc (Nat.le_refl _) (.cells #[.int .i64 (a : Int), .string q] 45)
  have hB0 := Blk.new w 45 #[.int .i64 (a : Int), .string q]
  have hz0' : (w.alloc (.cells #[.int .i64 (a : Int), .string q] 45)).heap.size = w.heap.size + 1 := by simp
  have c1 := may_any (a : Int) q (w.alloc (.cells #[.int .i64 (a : Int), .string q] 45))
  rw [mayB_yes h] at c1
  have hq := h.short
  have ha : (a : Int) ≤ 1099511627776 := h.2.1
  have Hb0 := Lib.hid hb0
  have HB0 := Lib.hid hB0
  have Hz0 := Lib.hid hz0'
  clear hb0 hB0 hz0' h
  go_enter Try.func21, Try.ntmps21
  go_wp2_with fail
  refine c1.mono ?_
  rintro e w1 ⟨rfl, hb1⟩
  have hsz1 : w.heap.size + 1 ≤ w1.heap.size := by have := hb1.size; have := Hz0.out; omega
  have hL1 : Lit3 w (w1.alloc (.cells #[.int .u8 76, .int .u8 67, .int .u8 1] 5 (3, 4))) (a : Int) q (.slice (some ⟨w1.heap.size, 0, none⟩) 3 3) := by
    refine ⟨(HB0.out.below hb1 (by rw [Hz0.out]; omega)).alloc _, ⟨_, rfl, fun j u hu => ?_⟩, (Hb0.out.trans (hb1.mono (by rw [Hz0.out]; omega))).alloc (by omega) _⟩
    rw [World.cell?_alloc_mark]
    rw [← hu]
    simp [bv]
  have kc := fun (w : World) (C : Array Value) (n c : Nat) => Lib.run_convert_bytes_const (P := Try.prog) w 41 5 C n c Try.underlying41 Try.underlying5
  have HL1 := Lib.hid hL1
  clear c1 hb1 HB0 Hb0 Hz0 hL1
  go_wp2_with fail
  clear kc
  generalize hw2 : w1.alloc (.cells #[.int .u8 76, .int .u8 67, .int .u8 1] 5 (3, 4)) = w2 at *
  clear hw2
  go_loopw [4, 5] (fun v i wr => ∃ k : Nat, k ≤ 8 ∧ i = .int .i64 (7 - (k : Int)) ∧ ((k = 0 ∧ Lit3 w wr (a : Int) q v) ∨ (0 < k ∧ Enc w wr (a : Int) q v ([76, 67, 1] ++ (be 8 a).take k)))) (fun _ i _ => (intOf i + 1).toNat)
  case atStart => exact ⟨0, by omega, rfl, .inl ⟨rfl, HL1.out⟩⟩
  case round =>
    obtain ⟨k, hk, rfl, hE⟩ := hrel
    by_cases hlt : k < 8
    · have hi0' : (0 : Int) ≤ 7 - (k : Int) := by omega
      have hby := byte_of a (8 * (7 - k))
      have Hs : Hid ((be 8 a).take (k + 1) = (be 8 a).take k ++ [UInt8.ofNat (a / 2 ^ (8 * (7 - k)))]) := Lib.hid (be_snoc 8 a k hlt)
      generalize UInt8.ofNat (a / 2 ^ (8 * (7 - k))) = x at *
      rcases hE with ⟨rfl, hE⟩ | ⟨hk0, hE⟩
      · have hc0 := hE.box.cell 0
        have hc1 := hE.box.cell 1
        have hbl := hE.box.lt
        have HE := Lib.hid hE
        obtain ⟨g, rfl, _⟩ := hE.ex
        simp at hc0 hc1
        simp at hby
        have hby' : (a : Int) / 72057594037927936 = (x.toNat : Int) := by omega
        clear hby
        clear hE
        go_wp2_with (at_builtin; refine wpList_append_grows _ rfl _ _ 41 rfl 5 i0 _ 1 1 Try.underlying41 hi0 hz0 hz1 hz2 rfl (by decide) _ 3 3 (bv [76, 67, 1]) rfl (fun h => by cases h) rfl ?h1 ⟨wr.heap.size, 0, none⟩ 1 1 [.int .u8 (x.toNat : Int)] rfl rfl ?d1 ?d2 ?d6 ?d3 ?d4 ?_)
        case h1 =>
          intro b hb j u hu
          obtain ⟨g', e', hc'⟩ := (HE.out.alloc (.cells #[.int .u8 (x.toNat : Int)] 5)).ex
          injection hb with hb
          injection e' with e' _ _
          injection e' with e'
          injection e' with e'
          subst hb
          rw [Addr.add_lit, Nat.zero_add, e']
          exact hc' j u hu
        case d1 => exact World.news_of_block (cs := #[.int .u8 (x.toNat : Int)]) (t := 5) (fr := (0, 0)) (heap_alloc_new wr _)
        case d2 => intro u hu; simp at hu; subst hu; rfl
        case d6 => omega
        case d3 => unfold maxLen; omega
        case d4 => omega
        intro v' w5 hown5 hg5
        have Fin := Lib.hid ((HE.out.alloc (.cells #[.int .u8 (x.toNat : Int)] 5)).put (N := [x]) rfl (by omega) hown5 hg5)
        clear hown5 hg5
        go_wp2
        go_roundw
        case rel => exact ⟨1, by omega, by rfl, .inr ⟨by omega, by have := Hs.out; simp at this; rw [this]; exact Fin.out⟩⟩
        case measure => simp [intOf]
      · have hc0 := hE.box.cell 0
        have hc1 := hE.box.cell 1
        have hbl := hE.box.lt
        have HE := Lib.hid hE
        simp at hc0 hc1
        have hln : ([76, 67, 1] ++ (be 8 a).take k : List UInt8).length ≤ 11 := by
          rw [List.length_append, List.length_take, be_len]; simp; omega
        have Happ : Hid ([76, 67, 1] ++ (be 8 a).take (k + 1) = ([76, 67, 1] ++ (be 8 a).take k) ++ [x]) := Lib.hid (by rw [Hs.out, List.append_assoc])
        obtain ⟨A4, c4, rfl, _⟩ := own_shape hE.own
        clear hE
        generalize ([76, 67, 1] ++ (be 8 a).take k : List UInt8) = M at *
        have Hln := Lib.hid hln
        clear hln
        go_wp2_with (at_builtin; refine wpList_append_own _ rfl _ _ 41 rfl (w.heap.size + 1) 5 i0 _ 1 1 Try.underlying41 hi0 hz0 hz1 hz2 rfl (by decide) _ _ _ rfl (HE.out.alloc (.cells #[.int .u8 (x.toNat : Int)] 5)).own ⟨wr.heap.size, 0, none⟩ 1 1 [.int .u8 (x.toNat : Int)] rfl rfl ?d1 ?d2 ?d3 ?d4 ?d5 ?_)
        case d1 => exact World.news_of_block (cs := #[.int .u8 (x.toNat : Int)]) (t := 5) (fr := (0, 0)) (heap_alloc_new wr _)
        case d2 => intro u hu; simp at hu; subst hu; rfl
        case d3 => unfold maxLen; have := Hln.out; omega
        case d4 => have := Hln.out; omega
        case d5 => have := HE.out.box.lt; simp; omega
        intro v' w5 hown5 hg5 _
        have Fin := Lib.hid ((HE.out.alloc (.cells #[.int .u8 (x.toNat : Int)] 5)).put (N := [x]) rfl hown5 hg5)
        clear hown5 hg5
        go_wp2
        go_roundw
        case rel => exact ⟨k + 1, by omega, by congr 1; omega, .inr ⟨by omega, by rw [Happ.out]; exact Fin.out⟩⟩
        case measure => simp [intOf]; omega
    · have hneg : 7 - (k : Int) < 0 := by omega
      have hE2 : Enc w wr (a : Int) q u4 ([76, 67, 1] ++ be 8 a) := by
        rcases hE with ⟨rfl, hE⟩ | ⟨hk0, hE⟩
        · omega
        · rw [List.take_of_length_le (by rw [be_len]; omega)] at hE
          exact hE
      have HE := Lib.hid hE2
      have hc0 := hE2.box.cell 0
      have hc1 := hE2.box.cell 1
      have hbl := hE2.box.lt
      simp at hc0 hc1
      have hln : ([76, 67, 1] ++ be 8 a : List UInt8).length = 11 := by rw [List.length_append, be_len]; rfl
      obtain ⟨A4, c4, rfl, _⟩ := own_shape hE2.own
      have hy1 : (q.size : Int) / 256 = ((UInt8.ofNat (q.size / 256)).toNat : Int) := by have := byte_256 q.size; omega
      have hy2 := byte_1 q.size
      have hpre : pre a q.data.toList = ([76, 67, 1] ++ be 8 a) ++ [UInt8.ofNat (q.size / 256), UInt8.ofNat q.size] ++ q.data.toList := by
        unfold pre; rw [bsize, be2]
      have Hpre := Lib.hid hpre
      have Henc : Hid (enc a q.data.toList = pre a q.data.toList ++ le4 (crc (pre a q.data.toList))) := Lib.hid rfl
      clear hE hE2 hpre
      generalize UInt8.ofNat (q.size / 256) = x1 at *
      generalize UInt8.ofNat q.size = x2 at *
      generalize ([76, 67, 1] ++ be 8 a : List UInt8) = M at *
      have Hln := Lib.hid hln
      clear hln
      go_wp2_with (at_builtin; refine wpList_append_own _ rfl _ _ 41 rfl (w.heap.size + 1) 5 i0 _ 1 1 Try.underlying41 hi0 hz0 hz1 hz2 rfl (by decide) _ _ _ rfl (HE.out.alloc (.cells #[.int .u8 (x1.toNat : Int), .int .u8 (x2.toNat : Int)] 5)).own ⟨wr.heap.size, 0, none⟩ 2 2 [.int .u8 (x1.toNat : Int), .int .u8 (x2.toNat : Int)] rfl rfl ?d1 ?d2 ?d3 ?d4 ?d5 ?_)
      case d1 => exact World.news_of_block (cs := #[.int .u8 (x1.toNat : Int), .int .u8 (x2.toNat : Int)]) (t := 5) (fr := (0, 0)) (heap_alloc_new wr _)
      case d2 => intro u hu; simp at hu; rcases hu with rfl | rfl <;> rfl
      case d3 => unfold maxLen; have := Hln.out; omega
      case d4 => have := Hln.out; omega
      case d5 => have := HE.out.box.lt; simp; omega
      intro v' w5 hown5 hg5 _
      have H6 := Lib.hid ((HE.out.alloc (.cells #[.int .u8 (x1.toNat : Int), .int .u8 (x2.toNat : Int)] 5)).put (N := [x1, x2]) rfl hown5 hg5)
      clear hown5 hg5
      have hd0 := H6.out.box.cell 0
      have hd1 := H6.out.box.cell 1
      have hbl5 := H6.out.box.lt
      simp at hd0 hd1
      have hln6 : (M ++ [x1, x2]).length = 13 := by rw [List.length_append, Hln.out]; rfl
      obtain ⟨A6, c6, rfl, _⟩ := own_shape H6.out.own
      generalize (M ++ [x1, x2]) = M6 at *
      have Hln6 := Lib.hid hln6
      clear hc0 hc1 HE hln6 hy1 hy2
      go_wp2_with (at_builtin; refine Lib.wpList_append_own_string _ rfl _ _ 41 9 rfl (w.heap.size + 1) 5 i0 Try.underlying41 Try.underlying9 hi0 hz0 hz1 hz2 _ _ _ rfl H6.out.own q rfl ?d3 ?d4 ?d5 ?_)
      case d3 => unfold maxLen; have := Hln6.out; omega
      case d4 => have := Hln6.out; omega
      case d5 => omega
      intro v7 w7 hown7 hg7 _
      have H7 := Lib.hid (H6.out.put (N := q.data.toList) (bsize q) hown7 hg7)
      clear hown7 hg7
      rw [← Hpre.out] at H7
      have hlp : (pre a q.data.toList).length ≤ 1037 := by rw [pre_len, bsize]; omega
      generalize pre a q.data.toList = L at *
      have Hlp := Lib.hid hlp
      obtain ⟨A7, c7, rfl, hR7⟩ := own_shape H7.out.own
      have hbl7 := H7.out.box.lt
      have H8 := Lib.hid (H7.out.alloc (.cells #[.slice A7 L.length c7] 41))
      have Hp := Lib.hid (Blk.new w7 41 #[.slice A7 L.length c7])
      have Hz7 : Hid ((w7.alloc (.cells #[.slice A7 L.length c7] 41)).heap.size = w7.heap.size + 1) := Lib.hid (by simp)
      have hb8 := (Below.refl w7.heap.size w7).alloc (Nat.le_refl _) (.cells #[.slice A7 L.length c7] 41)
      have HR8 := Lib.hid ((hR7.below hb8).more hb8.size)
      clear hR7 H7 H6 hd0 hd1 hlp hb8
      go_wp2_with fail
      generalize hw8 : w7.alloc (.cells #[.slice A7 L.length c7] 41) = w8 at *
      clear hw8
      have c9 := sum_any w7.heap.size A7 L.length c7 1 L w8 (Hp.out.cell 0) (by rw [Hz7.out]; omega) HR8.out (by have := Hlp.out; omega)
      refine c9.mono ?_
      rintro e w9 ⟨rfl, hb9⟩
      have H9 := Lib.hid (H8.out.below hb9)
      have hs32 := crc_lt L
      clear c9 hb9 H8 HR8 Hp Hz7
      generalize hcs : crc L = s at *
      have Hcs := Lib.hid hcs
      clear hcs
      have hs0 : (0 : Int) ≤ (s : Int) := by omega
      have Hs32 := Lib.hid hs32
      clear hs32
      go_wp2_with fail
      go_loopw [4, 45] (fun v i wr => ∃ k : Nat, k ≤ 4 ∧ i = .int .i64 (k : Int) ∧ Enc w wr (a : Int) q v (L ++ (le4 s).take k)) (fun _ i _ => 4 - (intOf i).toNat)
      case atStart => exact ⟨0, by omega, rfl, by simpa using H9.out⟩
      case round =>
        obtain ⟨j, hj, rfl, hE⟩ := hrel
        have HE := Lib.hid hE
        have hbl9 := hE.box.lt
        obtain ⟨A4, c4, rfl, _⟩ := own_shape hE.own
        clear hE
        by_cases hlt : j < 4
        · have hby := byte_of s (8 * j)
          have hln : (L ++ (le4 s).take j).length ≤ 1041 := by
            rw [List.length_append, List.length_take, le4_len]; have := Hlp.out; omega
          have Happ : Hid (L ++ (le4 s).take (j + 1) = (L ++ (le4 s).take j) ++ [UInt8.ofNat (s / 2 ^ (8 * j))]) := Lib.hid (by rw [le4_snoc s j hlt, List.append_assoc])
          generalize UInt8.ofNat (s / 2 ^ (8 * j)) = x at *
          generalize (L ++ (le4 s).take j) = M4 at *
          have Hln4 := Lib.hid hln
          clear hln
          go_wp2_with (at_builtin; refine wpList_append_own _ rfl _ _ 41 rfl (w.heap.size + 1) 5 i0 _ 1 1 Try.underlying41 hi0 hz0 hz1 hz2 rfl (by decide) _ _ _ rfl (HE.out.alloc (.cells #[.int .u8 (x.toNat : Int)] 5)).own ⟨wr.heap.size, 0, none⟩ 1 1 [.int .u8 (x.toNat : Int)] rfl rfl ?d1 ?d2 ?d3 ?d4 ?d5 ?_)
          case d1 => exact World.news_of_block (cs := #[.int .u8 (x.toNat : Int)]) (t := 5) (fr := (0, 0)) (heap_alloc_new wr _)
          case d2 => intro u hu; simp at hu; subst hu; rfl
          case d3 => unfold maxLen; have := Hln4.out; omega
          case d4 => have := Hln4.out; omega
          case d5 => have := HE.out.box.lt; simp; omega
          intro v' w5 hown5 hg5 _
          have Fin := Lib.hid ((HE.out.alloc (.cells #[.int .u8 (x.toNat : Int)] 5)).put (N := [x]) rfl hown5 hg5)
          clear hown5 hg5
          go_wp2
          go_roundw
          case rel => exact ⟨j + 1, by omega, by go_num, by rw [Happ.out]; exact Fin.out⟩
          case measure => simp [intOf]; omega
        · have HE3 : Hid (Enc w wr (a : Int) q (.slice A4 (L ++ (le4 s).take j).length c4) (enc a q.data.toList)) := Lib.hid (by
            have := HE.out
            rw [List.take_of_length_le (l := le4 s) (by rw [le4_len]; omega)] at this ⊢
            rw [Henc.out]
            exact this)
          clear HE
          go_wp2
          go_ret2
          exact ⟨⟨_, rfl, Joins.ownsRow_le HE3.out.own (by omega)⟩, HE3.out.bel⟩
end Go.Proofs.Ytceekocfmbcobaa.Cu
end

section
/- loggiaref17: colon, words, leaf: the walks (printed by gen_qpr.py). -/
namespace Go.Proofs.Ytceekocfmbcobaa.Qp
open Go.RowKit Go.Proofs.Ytceekocfmbcobaa Go.Proofs.Ytceekocfmbcobaa.Ut Go.Proofs.Ytceekocfmbcobaa.Tk Go.Proofs.Ytceekocfmbcobaa.Qy
set_option maxRecDepth 20000
set_option linter.unusedSimpArgs false

def colonV (s : P) : Int := if named s then (sepAt s : Nat) else -1
set_option maxHeartbeats 800000 in
theorem colon_ref (s : ByteArray) (w : World) (hs : s.size ≤ 1048576) : Calls Try.prog 75 #[.string s] w fun e w' => e = .returned (.int .i64 (colonV s.data.toList)) ∧ w = w' := by
  have Hend := Lib.hid (findIdx_of (fun c => c == 58 || c == 34) s.data.toList)
  have Hnm : Hid (named s.data.toList = (s.data.toList[sepAt s.data.toList]? == some 58)) := rfl
  have Hcv : Hid (colonV s.data.toList = if named s.data.toList then ((sepAt s.data.toList : Nat) : Int) else -1) := rfl
  go_enter Try.func75, Try.ntmps75
  go_wp2_with fail
  go_loopw [3] (fun i wr => ∃ k : Nat, k ≤ s.size ∧ i = .int .i64 (k : Int) ∧ w = wr ∧ Hid (∀ x ∈ s.data.toList.take k, (x == 58 || x == 34) = false)) (fun i _ => s.size - (intOf i).toNat)
  case atStart => exact ⟨0, Nat.zero_le _, rfl, rfl, Lib.hid (fun x hx => by simp at hx)⟩
  case round =>
    obtain ⟨k, hk, rfl, rfl, hal⟩ := hrel
    have hk0 : (0 : Int) ≤ (k : Int) := by omega
    by_cases hlt : k < s.size
    · have hts := take_snoc s k hlt
      have g1 := get_of s k hlt
      have u0 := u8_eq s[k] 58
      have u1 := u8_eq s[k] 34
      simp only [show (UInt8.toNat 34 : Int) = 34 from rfl, show (UInt8.toNat 58 : Int) = 58 from rfl] at u0 u1
      have Hk : Hid ((s[k] = 58 ∨ s[k] = 34) → sepAt s.data.toList = k) := Lib.hid (fun h => Hend.out k hal.out (by rw [bsize]; omega) (fun _ => by
        show (s[k] == 58 || s[k] == 34) = true
        rcases h with h | h <;> simp [h]))
      by_cases q1 : s[k] = 34
      · have t1 : ((s[k].toNat : Int) != 34) = false := by rw [bne_eq_false_iff_eq]; rw [q1]; rfl
        have Fin : Hid (colonV s.data.toList = -1) := Lib.hid (by rw [Hcv.out, Hnm.out, Hk.out (.inr q1), g1, q1]; rfl)
        clear hts g1 u0 u1 Hk q1 hal Hend Hnm Hcv
        go_wp2_with fail
        go_ret
        exact ⟨by rw [Fin.out]; rfl, rfl⟩
      · have t1 : ((s[k].toNat : Int) != 34) = true := by
          have : ((s[k].toNat : Int) == 34) = false := by rw [u1]; exact beq_eq_false_iff_ne.2 q1
          simp [bne, this]
        by_cases q2 : s[k] = 58
        · have t2 : ((s[k].toNat : Int) == 58) = true := by rw [u0]; exact beq_iff_eq.2 q2
          have Fin : Hid (colonV s.data.toList = (k : Int)) := Lib.hid (by rw [Hcv.out, Hnm.out, Hk.out (.inl q2), g1, q2]; rfl)
          clear hts g1 u0 u1 Hk q1 q2 hal Hend Hnm Hcv
          go_wp2_with fail
          go_ret
          exact ⟨by rw [Fin.out]; rfl, rfl⟩
        · have t2 : ((s[k].toNat : Int) == 58) = false := by rw [u0]; exact beq_eq_false_iff_ne.2 q2
          have Hnx : Hid (∀ x ∈ s.data.toList.take (k + 1), (x == 58 || x == 34) = false) := Lib.hid (fun x hx => by
            rw [hts, List.mem_append] at hx
            rcases hx with hx | hx
            · exact hal.out x hx
            · rw [List.mem_singleton] at hx; rw [hx]; simp [q1, q2])
          clear hts g1 u0 u1 Hk q1 q2 hal Hend Hnm Hcv
          go_wp2_with fail
          go_roundw
          case rel => exact ⟨k + 1, by omega, by go_num, by first | rfl | trivial, Hnx⟩
          case measure => simp [intOf]; omega
    · have Fin : Hid (colonV s.data.toList = -1) := Lib.hid (by
        have e : sepAt s.data.toList = k := Hend.out k hal.out (by rw [bsize]; omega) (fun h => absurd h (by rw [bsize]; omega))
        rw [Hcv.out, Hnm.out, e, List.getElem?_eq_none (by rw [bsize]; omega)]; rfl)
      clear hal Hend Hnm Hcv
      go_wp2_with fail
      go_ret
      exact ⟨by rw [Fin.out]; rfl, rfl⟩

/-- Four cells that may be a query's. -/
def Four (vs : List Value) : Prop := ∃ (k : Int) (nm : ByteArray) (A : Option Addr) (n c : Nat) (C : Option Addr) (m d : Nat), vs = [.int .i64 k, .string nm, .slice A n c, .slice C m d]
/-- A query; or something that is none. -/
def RwPost (base : Nat) (w : World) (o : Option Q) (e : Ending) (w' : World) : Prop :=
  ∃ a0 a1 a2 a3, e = .returned (.tuple #[.agg #[a0, a1, a2, a3], .bool o.isSome]) ∧ Four [a0, a1, a2, a3] ∧ (∀ q, o = some q → QF w' (fun b => base ≤ b ∧ b < w'.heap.size) q [a0, a1, a2, a3]) ∧ Below w.heap.size w w'
theorem cs_results {fn : Func} {p1 p2 : Tmp} (hf : fn.results = #[.cell p1 29, .tmp p2]) {tmps : Array Value} {W : World} {b1 : Nat} {a0 a1 a2 a3 v : Value} (h1 : tmps.getD p1 undef = .pointer (some ⟨b1, 0, none⟩)) (h2 : tmps.getD p2 undef = v) (B1 : Blk W b1 29 #[a0, a1, a2, a3]) :
    (results fn tmps).run Try.prog W = .ok (.tuple #[.agg #[a0, a1, a2, a3], v]) W := by
  have l1 := run_loadVar_row (P := Try.prog) W b1 29 29 #[a0, a1, a2, a3] (0, 0) _ B1 Try.underlying29 rfl (by kernel_rfl)
  have h1' : tmps[p1]?.getD undef = .pointer (some ⟨b1, 0, none⟩) := by simpa using h1
  have h2' : tmps[p2]?.getD undef = v := by simpa using h2
  simp [results, hf, h1', h2', asAddr, l1]
set_option maxHeartbeats 800000 in
theorem words_rf (base : Nat) (nm : ByteArray) (l : List P) (A : Option Addr) (c : Nat) (w : World) (hR : ReadsS w (fun b => base ≤ b ∧ b < w.heap.size) 1 A l.length (sv l)) :
    Calls Try.prog 77 #[.string nm, .slice A l.length c] w (RwPost base w (wordsQ nm.data.toList l)) := by
  have Hnm := Lib.hid (of_str nm)
  by_cases h0 : l = []
  · have Fin : Hid (wordsQ nm.data.toList l = none) := Lib.hid (by unfold wordsQ; rw [if_pos h0])
    have hB := Blk.new w 29 #[.int .i64 0, .string ⟨#[]⟩, .slice none 0 0, .slice none 0 0]
    have hbl := Lib.hid ((Below.refl w.heap.size w).alloc (Nat.le_refl _) (.cells #[.int .i64 0, .string ⟨#[]⟩, .slice none 0 0, .slice none 0 0] 29))
    clear hR
    subst h0
    go_enter Try.func77, Try.ntmps77
    go_wp2_with fail
    refine bodyPost_ret (cs_results rfl rfl rfl hB) rfl ?_
    rw [Fin.out]
    exact ⟨_, _, _, _, rfl, ⟨_, _, _, _, _, _, _, _, rfl⟩, (fun q h => by cases h), hbl.out⟩
  have hl0 : l.length ≠ 0 := fun e => h0 (List.length_eq_zero_iff.1 e)
  have z0 : ((l.length : Int) == 0) = false := by rw [beq_eq_false_iff_ne]; omega

  by_cases h1 : l.length = 1
  · have Fin : Hid (wordsQ nm.data.toList l = some (.mk 2 nm (l.map str) [])) := Lib.hid (by unfold wordsQ; rw [if_neg h0, if_pos h1, Hnm.out])
    have z1 : ((l.length : Int) == 1) = true := by rw [h1]; rfl
    have hB := Blk.new w 29 #[.int .i64 2, .string nm, .slice A l.length c, .slice none 0 0]
    have hbl := (Below.refl w.heap.size w).alloc (Nat.le_refl _) (.cells #[.int .i64 2, .string nm, .slice A l.length c, .slice none 0 0] 29)
    have HF : Hid (QF (w.alloc (.cells #[.int .i64 2, .string nm, .slice A l.length c, .slice none 0 0] 29)) (fun b => base ≤ b ∧ b < (w.alloc (.cells #[.int .i64 2, .string nm, .slice A l.length c, .slice none 0 0] 29)).heap.size) (.mk 2 nm (l.map str) []) [.int .i64 2, .string nm, .slice A l.length c, .slice none 0 0]) := Lib.hid
      (.mk [] (by rw [List.length_map]) ((hR.keep fun b o hS => hbl.cell (p := ⟨b, o, none⟩) hS.2).mono fun b hS => ⟨hS.1, Nat.lt_of_lt_of_le hS.2 hbl.size⟩) rfl rfl (by simp) ReadsS.none_ (fun i hi => absurd hi (by simp)))
    have Hbl := Lib.hid hbl
    have HB := Lib.hid hB
    clear hR h0 hl0 hbl hB h1
    generalize l.length = n at *
    go_enter Try.func77, Try.ntmps77
    go_wp2_with fail
    refine bodyPost_ret (cs_results rfl rfl rfl HB.out) rfl ?_
    rw [Fin.out]
    exact ⟨_, _, _, _, rfl, ⟨_, _, _, _, _, _, _, _, rfl⟩, (fun q h => by injection h with h; subst h; exact HF.out), Hbl.out⟩
  · have Fin : Hid (wordsQ nm.data.toList l = some (.mk 4 nm (l.map str) [])) := Lib.hid (by unfold wordsQ; rw [if_neg h0, if_neg h1, Hnm.out])
    have z1 : ((l.length : Int) == 1) = false := by rw [beq_eq_false_iff_ne]; omega
    have hB := Blk.new w 29 #[.int .i64 4, .string nm, .slice A l.length c, .slice none 0 0]
    have hbl := (Below.refl w.heap.size w).alloc (Nat.le_refl _) (.cells #[.int .i64 4, .string nm, .slice A l.length c, .slice none 0 0] 29)
    have HF : Hid (QF (w.alloc (.cells #[.int .i64 4, .string nm, .slice A l.length c, .slice none 0 0] 29)) (fun b => base ≤ b ∧ b < (w.alloc (.cells #[.int .i64 4, .string nm, .slice A l.length c, .slice none 0 0] 29)).heap.size) (.mk 4 nm (l.map str) []) [.int .i64 4, .string nm, .slice A l.length c, .slice none 0 0]) := Lib.hid
      (.mk [] (by rw [List.length_map]) ((hR.keep fun b o hS => hbl.cell (p := ⟨b, o, none⟩) hS.2).mono fun b hS => ⟨hS.1, Nat.lt_of_lt_of_le hS.2 hbl.size⟩) rfl rfl (by simp) ReadsS.none_ (fun i hi => absurd hi (by simp)))
    have Hbl := Lib.hid hbl
    have HB := Lib.hid hB
    clear hR h0 hl0 hbl hB h1
    generalize l.length = n at *
    go_enter Try.func77, Try.ntmps77
    go_wp2_with fail
    refine bodyPost_ret (cs_results rfl rfl rfl HB.out) rfl ?_
    rw [Fin.out]
    exact ⟨_, _, _, _, rfl, ⟨_, _, _, _, _, _, _, _, rfl⟩, (fun q h => by injection h with h; subst h; exact HF.out), Hbl.out⟩
end Go.Proofs.Ytceekocfmbcobaa.Qp
end
