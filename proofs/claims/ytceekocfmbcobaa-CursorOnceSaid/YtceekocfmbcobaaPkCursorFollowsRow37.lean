/- The document's Decode: the walk (printed by gen_cuh.py). -/
import Derived.Laws.StructEq
import Derived.Test.YtceekocfmbcobaaCuGPk
import Derived.Test.YtceekocfmbcobaaPkCursorFollowsRow34
import Derived.Test.YtceekocfmbcobaaPkCursorFollowsRow24
import Derived.Test.YtceekocfmbcobaaPkCursorFollowsRow35
section
namespace Go.Proofs.Ytceekocfmbcobaa.Cu
open Go.RowKit Go.Proofs.Ytceekocfmbcobaa Go.Proofs.Ytceekocfmbcobaa.Cr Go.Proofs.Ytceekocfmbcobaa.Qp Go.Proofs.Ytceekocfmbcobaa.Qy Go.Proofs.Ytceekocfmbcobaa.Ph
set_option maxRecDepth 100000
set_option linter.unusedSimpArgs false

/-- Bytes as an int, the highest first, by wrapping round. -/
def zs (l : List UInt8) : Int := l.foldl (fun z c => wrap64 (wrap64 (z * 256) + (c.toNat : Int))) 0
theorem zs_snoc (l : List UInt8) (c : UInt8) : zs (l ++ [c]) = wrap64 (wrap64 (zs l * 256) + (c.toNat : Int)) := by unfold zs; rw [List.foldl_append]; rfl
theorem zs_num : ∀ (n : Nat) (l : List UInt8), l.length = n → num l < 9223372036854775808 → zs l = (num l : Int) := by
  intro n
  induction n with
  | zero =>
    intro l hl _
    obtain rfl := List.eq_nil_of_length_eq_zero hl
    rfl
  | succ n ih =>
    intro l hl hn
    obtain ⟨m, c, rfl⟩ : ∃ m c, l = m ++ [c] := ⟨l.dropLast, l.getLast (by intro h; rw [h] at hl; simp at hl), (List.dropLast_concat_getLast _).symm⟩
    rw [num_snoc] at hn ⊢
    have hc := c.toNat_lt
    rw [zs_snoc, ih m (by simpa using hl) (by omega), IntWalk.wrap64_in ((num m : Int) * 256) (by omega), IntWalk.wrap64_in _ (by omega)]
    omega
/-- The document's reader: its number so far. -/
structure Rdc (w0 w : World) (a : Int) : Prop where
  cur : Blk w (w0.heap.size + 1) 45 #[.int .i64 a, .string ⟨#[]⟩]
  res : Blk w w0.heap.size 45 #[.int .i64 0, .string ⟨#[]⟩]
  bel : Below w0.heap.size w0 w
theorem Rdc.put {w0 w : World} {a : Int} (h : Rdc w0 w a) (b : Int) : Rdc w0 (w.drew.setCell ⟨w0.heap.size + 1, 0, none⟩ (.int .i64 b)) b :=
  ⟨by have := h.cur.drew.set_ 0 (.int .i64 b); simpa using this, h.res.drew.far (by simp) _, h.bel.drew.setCell (p := ⟨w0.heap.size + 1, 0, none⟩) (Nat.le_succ _) _⟩

/-- The document's reader, all read. -/
structure Rdd (w0 w : World) (a : Int) (q : ByteArray) : Prop where
  cur : Blk w (w0.heap.size + 1) 45 #[.int .i64 a, .string q]
  res : Blk w w0.heap.size 45 #[.int .i64 0, .string ⟨#[]⟩]
  bel : Below w0.heap.size w0 w
theorem Rdc.query {w0 w : World} {a : Int} (h : Rdc w0 w a) (q : ByteArray) : Rdd w0 (w.setCell ⟨w0.heap.size + 1, 1, none⟩ (.string q)) a q :=
  ⟨by have := h.cur.set_ 1 (.string q); simpa using this, h.res.far (by simp) _, h.bel.setCell (p := ⟨w0.heap.size + 1, 1, none⟩) (Nat.le_succ _) _⟩
theorem Rdd.below {w0 w w' : World} {a : Int} {q : ByteArray} (h : Rdd w0 w a q) (hb : Below w.heap.size w w') : Rdd w0 w' a q :=
  ⟨h.cur.below hb h.cur.lt, h.res.below hb h.res.lt, h.bel.trans (hb.mono h.bel.size)⟩

set_option maxHeartbeats 6400000 in
theorem rdecode_any (A : Option Addr) (m c : Nat) (L : List UInt8) (w : World) (hR : Reads w w.heap.size 1 A m (bv L)) (hm : m ≤ 140737488351232) (hc : m ≤ c) : Calls Try.prog 24 #[.slice A m c] w (DecTo w L) := by
  have hln : L.length = m := by have := hR.1; rw [bv_len] at this; omega
  have hBr := Blk.new w 45 #[.int .i64 0, .string ⟨#[]⟩]
  have hb1 := (Below.refl w.heap.size w).alloc (Nat.le_refl _) (.cells #[.int .i64 0, .string ⟨#[]⟩] 45)
  by_cases h17 : m < 17
  · have hr0 := hBr.cell 0
    have hr1 := hBr.cell 1
    have hg0 := hBr.frozen 0
    have hg1 := hBr.frozen 1
    have h17' : (m : Int) < 17 := by omega
    simp at hr0 hr1
    have HBr := Lib.hid hBr
    have Hb8 := Lib.hid hb1
    have Hno : Hid (∀ (n : Nat) (q' : ByteArray), IsC n q' → L ≠ enc n q'.data.toList) := Lib.hid (fun n q' _ e => by
      have := enc_len n q'.data.toList
      rw [← e] at this
      omega)
    clear hBr hb1 hR hln h17
    go_enter Try.func24, Try.ntmps24
    go_wp2
    exact bodyPost_ret (dec_results rfl rfl rfl HBr.out) rfl ⟨0, ⟨#[]⟩, 250, .inr ⟨Hno.out, rfl, rfl, rfl⟩, rfl, Hb8.out⟩
  have h17' : ¬ (m : Int) < 17 := by omega
  have hBx := Blk.new (w.alloc (.cells #[.int .i64 0, .string ⟨#[]⟩] 45)) 45 #[.int .i64 0, .string ⟨#[]⟩]
  have hz : (w.alloc (.cells #[.int .i64 0, .string ⟨#[]⟩] 45)).heap.size = w.heap.size + 1 := by simp
  rw [hz] at hBx
  have HR0 : Hid (Rdc w ((w.alloc (.cells #[.int .i64 0, .string ⟨#[]⟩] 45)).alloc (.cells #[.int .i64 0, .string ⟨#[]⟩] 45)) 0) := Lib.hid
    ⟨hBx, hBr.alloc _, hb1.alloc (by simp) _⟩
  obtain ⟨b, o, rfl, hbl, hcl⟩ := hR.2 (by omega)
  have HR := Lib.hid hR
  have HL := Lib.hid hln
  have Hcl := Lib.hid hcl
  clear hb1 hBr hBx hln hz hR hcl
  go_enter Try.func24, Try.ntmps24
  go_wp2_with fail
  generalize hw2 : (w.alloc (.cells #[.int .i64 0, .string ⟨#[]⟩] 45)).alloc (.cells #[.int .i64 0, .string ⟨#[]⟩] 45) = w2 at *
  clear hw2
  go_loopw [5] (fun i wr => ∃ k : Nat, k ≤ 8 ∧ i = .int .i64 ((k : Int) + 3) ∧ Rdc w wr (zs ((L.drop 3).take k))) (fun i _ => (11 - intOf i).toNat)
  case atStart => exact ⟨0, by omega, rfl, by simpa [zs] using HR0.out⟩
  case round =>
    obtain ⟨k, hk, rfl, hE⟩ := hrel
    have hd0 := hE.cur.cell 0
    have hf0 := hE.cur.frozen 0
    simp at hd0
    have hlt := hE.cur.lt
    by_cases hk8 : k < 8
    · have hk11 : (k : Int) + 3 < 11 := by omega
      have hkm : k + 3 < L.length := by have := HL.out; omega
      have hce : wr.cell? ⟨b, o + (k + 3), none⟩ = some (.int .u8 ((L[k + 3]'hkm).toNat : Int)) := (hE.bel.cell (p := ⟨b, o + (k + 3), none⟩) hbl).trans (Hcl.out (k + 3) _ (by rw [bv_get, List.getElem?_eq_getElem hkm]; rfl))
      have hts : zs ((L.drop 3).take (k + 1)) = wrap64 (wrap64 (zs ((L.drop 3).take k) * 256) + ((L[k + 3]'hkm).toNat : Int)) := by
        rw [List.take_succ_eq_append_getElem (by rw [List.length_drop]; omega), zs_snoc, List.getElem_drop]
        congr 5
        omega
      have Hts := Lib.hid hts
      have HE := Lib.hid hE
      clear hE hts
      generalize zs ((L.drop 3).take k) = z at *
      generalize (L[k + 3]'hkm) = x at *
      have hx := x.toNat_lt
      have hin : 0 ≤ (k : Int) + 3 ∧ (k : Int) + 3 < (m : Int) := by have := HL.out; omega
      have hi1 := hin.1
      have hi2 := hin.2
      have hkk : ((k : Int) + 3).toNat = k + 3 := by omega
      clear hin
      go_upto_region 7 with (fail)
      refine wp_region_ph_tail 9 (specOf []) (fun wx => wx = wr.drew) (fun _ => True) (by kernel_rfl) (by kernel_rfl) (turns_of (by kernel_rfl)) rfl trivial ?_
      refine ph_fix 1 ?_ rfl (by rfl) (by rfl) (fun wx hC => ?_) ?_
      rotate_left
      · subst hC
        go_simp
        all_goals with_reducible rfl
      try simp only [Act.put, List.setIfInBounds_toArray, List.set_cons_zero, List.set_cons_succ]
      refine ph_fix 2 ?_ rfl (by rfl) (by rfl) (fun wx hC => ?_) ?_
      rotate_left
      · subst hC
        go_simp
        all_goals with_reducible rfl
      try simp only [Act.put, List.setIfInBounds_toArray, List.set_cons_zero, List.set_cons_succ]
      refine ph_fix 3 ?_ rfl (by rfl) (by rfl) (fun wx hC => ?_) ?_
      rotate_left
      · subst hC
        go_simp
        all_goals with_reducible rfl
      try simp only [Act.put, List.setIfInBounds_toArray, List.set_cons_zero, List.set_cons_succ]
      refine ph_fix 4 ?_ rfl (by rfl) (by rfl) (fun wx hC => ?_) ?_
      rotate_left
      · subst hC
        go_simp
        all_goals with_reducible rfl
      try simp only [Act.put, List.setIfInBounds_toArray, List.set_cons_zero, List.set_cons_succ]
      refine ph_fix 5 ?_ rfl (by rfl) (by rfl) (fun wx hC => ?_) ?_
      rotate_left
      · subst hC
        go_simp
        all_goals with_reducible rfl
      try simp only [Act.put, List.setIfInBounds_toArray, List.set_cons_zero, List.set_cons_succ]
      refine ph_fix 6 ?_ rfl (by rfl) (by rfl) (fun wx hC => ?_) ?_
      rotate_left
      · subst hC
        go_simp
        all_goals with_reducible rfl
      try simp only [Act.put, List.setIfInBounds_toArray, List.set_cons_zero, List.set_cons_succ]
      refine ph_fix 7 ?_ rfl (by rfl) (by rfl) (fun wx hC => ?_) ?_
      rotate_left
      · subst hC
        go_simp
        all_goals with_reducible rfl
      try simp only [Act.put, List.setIfInBounds_toArray, List.set_cons_zero, List.set_cons_succ]
      refine ph_fix 8 ?_ rfl (by rfl) (by rfl) (fun wx hC => ?_) ?_
      rotate_left
      · subst hC
        go_simp
        all_goals with_reducible rfl
      try simp only [Act.put, List.setIfInBounds_toArray, List.set_cons_zero, List.set_cons_succ]
      refine ph_fix 9 ?_ rfl (by rfl) (by rfl) (fun wx hC => ?_) ?_
      rotate_left
      · subst hC
        go_simp
        all_goals with_reducible rfl
      try simp only [Act.put, List.setIfInBounds_toArray, List.set_cons_zero, List.set_cons_succ]
      refine ph_nil (fun w6 hC hI => ?_)
      subst hC
      have Fin := Lib.hid (HE.out.put (wrap64 (wrap64 (z * 256) + (x.toNat : Int))))
      clear hI
      go_wp2
      go_roundw
      case rel => exact ⟨k + 1, by omega, by congr 1, by rw [Hts.out]; exact Fin.out⟩
      case measure => simp [intOf]; omega
    · obtain rfl : k = 8 := by omega
      have Hz : Hid (aOf L < 9223372036854775808 → zs ((L.drop 3).take 8) = (aOf L : Int)) := Lib.hid (fun h => zs_num _ _ rfl h)
      generalize zs ((L.drop 3).take 8) = z at *
      have hd1 := hE.cur.cell 1
      have hf1 := hE.cur.frozen 1
      simp at hd1
      have HE := Lib.hid hE
      have HS : Hid ((⟨(qRef L).toArray⟩ : ByteArray).data.toList = qRef L) := Lib.hid (by simp)
      have hcv : (convert 41 9 (.slice (some ⟨b, o + 13, none⟩) (m - 17) (c - 13))).run Try.prog wr = .ok (.string ⟨(qRef L).toArray⟩) wr := by
        refine conv_str (B := w.heap.size) (c - 13) ⟨by rw [bv_len]; unfold qRef; rw [List.length_take, List.length_drop]; have := HL.out; omega, fun _ => ⟨b, o + 13, rfl, hbl, fun j u hu => ?_⟩⟩
        refine (HE.out.bel.cell (p := ⟨b, o + 13 + j, none⟩) hbl).trans ?_
        rw [Nat.add_assoc]
        refine Hcl.out (13 + j) u ?_
        rw [bv_get] at hu ⊢
        unfold qRef at hu
        rw [List.getElem?_take] at hu
        split at hu
        · rw [List.getElem?_drop] at hu; exact hu
        · cases hu
      have h13a : (13 : Int) ≤ (m : Int) - 4 := by omega
      have h13b : (m : Int) - 4 ≤ (c : Int) := by omega
      have h13c : ((m : Int) - 4).toNat = m - 4 := by omega
      have h13d : m - 4 - 13 = m - 17 := by omega
      have h13e : ¬ c = 13 := by omega
      clear hE hd0 hf0
      generalize (⟨(qRef L).toArray⟩ : ByteArray) = S at *
      go_upto_region 9 with (fail)
      have HR7 := Lib.hid (HE.out.query S)
      clear HE hd1 hf1 hcv h13a h13b h13c h13d h13e
      generalize hw7 : wr.setCell ⟨w.heap.size + 1, 1, none⟩ (.string S) = w7 at *
      clear hw7
      have hd1 := HR7.out.cur.cell 0
      have hd2 := HR7.out.cur.cell 1
      simp at hd1 hd2
      have hlt7 := HR7.out.cur.lt
      have Hdec := Lib.hid (decR_of Hz.out (.inr HS.out))
      by_cases hI : IsC z S
      · obtain ⟨n, rfl⟩ : ∃ n : Nat, z = n := ⟨z.toNat, by have := hI.1; omega⟩
        have ce := rencode_yes n S w7 hI
        have HI := Lib.hid hI
        clear hI
        go_wp2_with fail
        refine ce.mono ?_
        rintro e w8 ⟨⟨v8, rfl, hown8⟩, hb8⟩
        have HR8 := Lib.hid (HR7.out.below hb8)
        have Hb8 : Hid (Below w.heap.size w w8) := Lib.hid HR8.out.bel
        obtain ⟨A8', c8', rfl, hRd8⟩ := own_shape hown8
        have hcv1 := conv_str c8' hRd8
        have hcv2 := conv_str c (HR.out.below Hb8.out)
        have hd1 := HR8.out.cur.cell 0
        have hd2 := HR8.out.cur.cell 1
        simp at hd1 hd2
        have hBr := HR8.out.res
        have hr0 := hBr.cell 0
        have hr1 := hBr.cell 1
        have hg0 := hBr.frozen 0
        have hg1 := hBr.frozen 1
        simp at hr0 hr1
        have HBr := Lib.hid hBr
        clear ce hb8 hown8 hRd8 hBr HR7
        generalize hen : enc n S.data.toList = M8 at *
        have Hen := Lib.hid hen
        clear hen
        by_cases hE : M8 = L
        · subst hE
          generalize (⟨M8.toArray⟩ : ByteArray) = X at *
          go_wp2
          exact bodyPost_ret (dec_results rfl rfl rfl (blk_over HBr.out)) rfl ⟨n, S, 0, .inl ⟨n, rfl, HI.out, Hen.out.symm, rfl⟩, rfl, (Hb8.out.setCell (p := ⟨w.heap.size, 0, none⟩) (Nat.le_refl _) _).setCell (p := ⟨w.heap.size, 1, none⟩) (Nat.le_refl _) _⟩
        · have hX : ((⟨M8.toArray⟩ : ByteArray).toList == (⟨L.toArray⟩ : ByteArray).toList) = false := by
            rw [Tk.tl, Tk.tl, beq_eq_false_iff_ne]
            intro h
            exact hE (by simpa using h)
          have hXn : ((⟨M8.toArray⟩ : ByteArray).toList != (⟨L.toArray⟩ : ByteArray).toList) = true := by rw [bne, hX]; rfl
          have Hno : Hid (∀ (n : Nat) (q' : ByteArray), IsC n q' → L ≠ enc n q'.data.toList) := Lib.hid (by
            rcases Hdec.out with ⟨n', e1, _, h2⟩ | h
            · exact absurd (by rw [← Hen.out, ← h2]; congr 1; omega) hE
            · exact h)
          clear hE Hdec
          generalize (⟨M8.toArray⟩ : ByteArray) = X at *
          generalize (⟨L.toArray⟩ : ByteArray) = Y at *
          go_wp2
          exact bodyPost_ret (dec_results rfl rfl rfl (blk_over HBr.out)) rfl ⟨0, ⟨#[]⟩, 250, .inr ⟨Hno.out, rfl, rfl, rfl⟩, rfl, (Hb8.out.setCell (p := ⟨w.heap.size, 0, none⟩) (Nat.le_refl _) _).setCell (p := ⟨w.heap.size, 1, none⟩) (Nat.le_refl _) _⟩
      · have ce := rencode_no z S w7 hI
        have Hno : Hid (∀ (n : Nat) (q' : ByteArray), IsC n q' → L ≠ enc n q'.data.toList) := Lib.hid (by
          rcases Hdec.out with ⟨n', e1, h1, h2⟩ | h
          · exact absurd h1 hI
          · exact h)
        clear hI Hdec
        go_wp2_with fail
        refine ce.mono ?_
        rintro e w8 ⟨⟨v8, rfl, hown8⟩, hb8⟩
        have HR8 := Lib.hid (HR7.out.below hb8)
        have Hb8 : Hid (Below w.heap.size w w8) := Lib.hid HR8.out.bel
        have hBr := HR8.out.res
        have hr0 := hBr.cell 0
        have hr1 := hBr.cell 1
        have hg0 := hBr.frozen 0
        have hg1 := hBr.frozen 1
        simp at hr0 hr1
        have HBr := Lib.hid hBr
        clear ce hb8 hown8 hBr HR7
        go_wp2
        exact bodyPost_ret (dec_results rfl rfl rfl (blk_over HBr.out)) rfl ⟨0, ⟨#[]⟩, 250, .inr ⟨Hno.out, rfl, rfl, rfl⟩, rfl, (Hb8.out.setCell (p := ⟨w.heap.size, 0, none⟩) (Nat.le_refl _) _).setCell (p := ⟨w.heap.size, 1, none⟩) (Nat.le_refl _) _⟩
end Go.Proofs.Ytceekocfmbcobaa.Cu
end

section
/- The page's example of queries' texts: plain. -/
namespace Go.Proofs.Ytceekocfmbcobaa.Qp
open Go.RowKit Go.Proofs.Ytceekocfmbcobaa Go.Proofs.Ytceekocfmbcobaa.Ut Go.Proofs.Ytceekocfmbcobaa.Tk Go.Proofs.Ytceekocfmbcobaa.Qy

def exA : P := [97]
def exT1 : P := [97, 32, 79, 82, 32, 98, 32, 99]
def exT2 : P := [97, 32, 79, 82]
def tq (c : UInt8) : Q := .mk 2 (str msg) [str [c]] []
def exQ1 : Q := .mk 6 ByteArray.empty [] [tq 97, .mk 5 ByteArray.empty [] [tq 98, tq 99]]
theorem p1 : pieces exT1 = some [[97], OR, [98], [99]] := by decide
theorem p2 : pieces exT2 = some [[97], OR] := by decide
theorem w97 : words [97] = [[97]] := by decide +kernel
theorem w98 : words [98] = [[98]] := by decide +kernel
theorem w99 : words [99] = [[99]] := by decide +kernel
theorem leaf_one (c : UInt8) (h1 : c ≠ 42) (h2 : c ≠ 34) (h3 : c ≠ 58) (hw : words [c] = [[c]]) : leafQ [c] = some (tq c) := by
  have hn : named [c] = false := by
    have e : sepAt [c] = 1 := by
      have a1 : (c == 58) = false := beq_eq_false_iff_ne.2 h3
      have a2 : (c == 34) = false := beq_eq_false_iff_ne.2 h2
      unfold sepAt
      simp [List.findIdx_cons, a1, a2]
    unfold named
    rw [e]; rfl
  have e1 : nameOf [c] = msg := by unfold nameOf; rw [hn]; rfl
  have e2 : restOf [c] = [c] := by unfold restOf; rw [hn]; rfl
  unfold leafQ
  rw [e1, e2, if_neg (by simpa using h1), if_neg (by
    rintro (h | h)
    · exact absurd h (by decide)
    · cases h), if_neg (by simpa using h2), if_neg (by simpa using h1), hw]
  rfl
theorem lf97 : leafQ [97] = some (tq 97) := leaf_one 97 (by decide) (by decide) (by decide) w97
theorem lf98 : leafQ [98] = some (tq 98) := leaf_one 98 (by decide) (by decide) (by decide) w98
theorem lf99 : leafQ [99] = some (tq 99) := leaf_one 99 (by decide) (by decide) (by decide) w99
theorem part_a (c : UInt8) (q : Q) (t : List P) (hw : word1 [c] = true) (h : leafQ [c] = some q) : R .part ([c] :: t) (some (q, t)) := by
  have := R.pleaf (t := t) hw
  rw [h] at this
  exact this
theorem r1 : R (.or []) [[97], OR, [98], [99]] (some (exQ1, [])) := by
  refine .or1 (q := tq 97) (r := [OR, [98], [99]]) (.and1 (part_a 97 _ _ (by decide) lf97) (.andE (by decide))) ?_
  refine .orO rfl ?_
  refine .or1 (q := .mk 5 ByteArray.empty [] [tq 98, tq 99]) (r := []) (.and1 (part_a 98 _ _ (by decide) lf98) (.andN (by decide) (by decide) (.and1 (part_a 99 _ _ (by decide) lf99) (.andE rfl)))) ?_
  exact .orE (by simp)
theorem r2 : R (.or []) [[97], OR] none := by
  refine .or1 (q := tq 97) (r := [OR]) (.and1 (part_a 97 _ _ (by decide) lf97) (.andE (by decide))) ?_
  exact .orO rfl (.or0 (.and0 .pnil))
theorem many1 : manyB exQ1 = false := by
  simp [exQ1, tq, manyB_eq, manyL]
theorem depth1 : depthN exQ1 ≤ 16 := by
  simp [exQ1, tq, depthN_eq, depthL]
theorem prs1 : PrsR exT1 0 (some exQ1) := .ok (by decide) p1 r1 many1 depth1
theorem prs2 : PrsR exT2 170 none := .bad (by decide) p2 r2
theorem tq_w (c : UInt8) (K : Nat) : QW (K + 1) (tq c) := .mk (by simp) (by simp) (by simp)
theorem exQ1_w : QW 3 exQ1 := .mk (by simp) (by simp) fun x hx => by
  simp only [List.mem_cons, List.not_mem_nil, or_false] at hx
  rcases hx with rfl | rfl
  · exact tq_w 97 1
  · exact .mk (by simp) (by simp) fun x hx => by
      simp only [List.mem_cons, List.not_mem_nil, or_false] at hx
      rcases hx with rfl | rfl
      · exact tq_w 98 0
      · exact tq_w 99 0
end Go.Proofs.Ytceekocfmbcobaa.Qp
end

section
/- loggialaw25.awake: the walk. -/
namespace Go.Proofs.Ytceekocfmbcobaa.Cu
open Go.RowKit Go.Proofs.Ytceekocfmbcobaa Go.Proofs.Ytceekocfmbcobaa.Qy Go.Proofs.Ytceekocfmbcobaa.Ph Go.Proofs.Ytceekocfmbcobaa.Cr Go.Proofs.Ytceekocfmbcobaa.Qp
set_option maxRecDepth 100000
set_option linter.unusedSimpArgs false

theorem prsA : PrsR [97] 0 (some (tq 97)) := by
  refine .ok (by decide) (show pieces [97] = some [[97]] by decide) (.or1 (q := tq 97) (r := []) (.and1 (part_a 97 _ _ (by decide) lf97) (.andE rfl)) (.orE (by simp))) ?_ ?_
  · simp [tq, manyB_eq, manyL]
  · simp [tq, depthN_eq, depthL]
theorem isA : IsC ((3 : Nat) : Int) ⟨#[97]⟩ := ⟨by decide, by decide, _, prsA⟩
def exD (s : Int) : Dc := ⟨s, 0, []⟩
theorem fol_ex : folP 3 9 1 [exD 3, exD 5, exD 7] = ([exD 5], 5) := by
  simp [folP, outP, sel, lastP, exD]
  decide
theorem pre_ex : pre 3 [97] = [76, 67, 1, 0, 0, 0, 0, 0, 0, 0, 3, 0, 1, 97] := by decide
theorem enc_ex : ∃ z, enc 3 [97] = [76, 67, 1, 0, 0, 0, 0, 0, 0, 0, 3, 0, 1, 97] ++ z ∧ z.length = 4 := by
  obtain ⟨z, hz⟩ : ∃ z, z = le4 (crc (pre 3 [97])) := ⟨_, rfl⟩
  refine ⟨z, ?_, by rw [hz, le4_len]⟩
  unfold enc
  rw [← hz, pre_ex]
theorem dec_nil {a : Int} {q : ByteArray} {E : Int} (h : DecR [] a q E) : a = 0 ∧ q = ⟨#[]⟩ ∧ E = 250 := by
  rcases h with ⟨n, _, _, e, _⟩ | ⟨_, h⟩
  · have := enc_len n q.data.toList
    rw [← e] at this
    simp at this
  · exact h

/-- A cursor is itself. -/
theorem cur_self (n : Int) (s : ByteArray) (w : World) : (binOp .eql 45 (.agg #[.int .i64 n, .string s]) (.agg #[.int .i64 n, .string s])).run Try.prog w = .ok (.bool true) w := by
  have u1 := Try.underlying9
  have u3 := Try.underlying3
  have a1 := Try.isAgg9
  have z1 := Try.sizeOf9
  have a3 := Try.isAgg3
  have z3 := Try.sizeOf3
  have hS : Try.prog.underlying 45 = some (.struct (Try.prog.fieldsOf 45)) := by kernel_rfl
  have hp : Try.prog.stoodInHeld 45 = false := by kernel_rfl
  rw [run_eql_struct, show (10000 : Nat) = 9999 + 1 from rfl, run_equalIn_agg w 9999 45 _ _ hS hp]
  simp only [Program.fieldsOf, Try.underlying45]
  go_simp
theorem cur_nself (n : Int) (s : ByteArray) (w : World) : (binOp .neq 45 (.agg #[.int .i64 n, .string s]) (.agg #[.int .i64 n, .string s])).run Try.prog w = .ok (.bool false) w := by
  have u1 := Try.underlying9
  have u3 := Try.underlying3
  have a1 := Try.isAgg9
  have z1 := Try.sizeOf9
  have a3 := Try.isAgg3
  have z3 := Try.sizeOf3
  have hS : Try.prog.underlying 45 = some (.struct (Try.prog.fieldsOf 45)) := by kernel_rfl
  have hp : Try.prog.stoodInHeld 45 = false := by kernel_rfl
  rw [run_neq_struct, show (10000 : Nat) = 9999 + 1 from rfl, run_equalIn_agg w 9999 45 _ _ hS hp]
  simp only [Program.fieldsOf, Try.underlying45]
  go_simp
def exC : Array Value := #[.int .i64 3, .int .i64 0, .slice none 0 0, .int .i64 5, .int .i64 0, .slice none 0 0, .int .i64 7, .int .i64 0, .slice none 0 0]
theorem exD_v (w : World) (B : Nat) (s : Int) : DcV w B (exD s) [.int .i64 s, .int .i64 0, .slice none 0 0] := ⟨none, 0, 0, rfl, (Reads.none_ : Reads w B 2 none 0 []), rfl, by omega, Nat.le_refl _, fun _ => rfl⟩
theorem ex_docs (w : World) : DocsAt (w.alloc (.cells exC 71)) (w.alloc (.cells exC 71)).heap.size (some ⟨w.heap.size, 0, none⟩) 3 [exD 3, exD 5, exD 7] := by
  refine ⟨rfl, [[.int .i64 3, .int .i64 0, .slice none 0 0], [.int .i64 5, .int .i64 0, .slice none 0 0], [.int .i64 7, .int .i64 0, .slice none 0 0]], rfl, ⟨rfl, fun _ => ⟨_, 0, rfl, by simp, fun j u hu => ?_⟩⟩, fun i h h' => ?_⟩
  · rw [Nat.zero_add, World.cell?_alloc_mark]
    simpa [exC] using hu
  · match i, h, h' with
    | 0, _, _ => exact exD_v _ _ 3
    | 1, _, _ => exact exD_v _ _ 5
    | 2, _, _ => exact exD_v _ _ 7
    | i + 3, h, _ => exact absurd (show i + 3 < 3 from h) (by omega)
def ex14 : ByteArray := ⟨#[76, 67, 1, 0, 0, 0, 0, 0, 0, 0, 3, 0, 1, 97]⟩

set_option maxHeartbeats 6400000 in
theorem awake25 (w : World) : Calls Try.prog 25 #[] w fun e w' => e = .returned (.bool true) ∧ Below w.heap.size w w' := by
  go_enter Try.func25, Try.ntmps25
  go_wp2_with fail
  have ce := encode_yes 3 ⟨#[97]⟩ w isA
  refine ce.mono ?_
  rintro e w1 ⟨⟨v1, rfl, hown1⟩, hb1⟩
  obtain ⟨z, hz, hz4⟩ := enc_ex
  have hM : enc 3 (⟨#[97]⟩ : ByteArray).data.toList = [76, 67, 1, 0, 0, 0, 0, 0, 0, 0, 3, 0, 1, 97] ++ z := hz
  have hln : (enc 3 (⟨#[97]⟩ : ByteArray).data.toList).length = 18 := by rw [hM, List.length_append, hz4]; rfl
  have hdR : DecR (enc 3 (⟨#[97]⟩ : ByteArray).data.toList) 3 ⟨#[97]⟩ 0 := .inl ⟨3, rfl, isA, rfl, rfl⟩
  generalize enc 3 (⟨#[97]⟩ : ByteArray).data.toList = M at *
  obtain ⟨g1, q1, rfl⟩ := Joins.ownsRow_form hown1 (by omega)
  have hR1 := Reads.of_own hown1
  have hq1 : M.length ≤ q1 := by
    obtain ⟨A', c', e', h'⟩ := own_cap hown1
    injection e' with _ _ e'
    omega
  have HR1 := Lib.hid hR1
  have Hb1 := Lib.hid hb1
  have HM := Lib.hid hM
  have HdR := Lib.hid hdR
  have cd := decode_any (some ⟨g1, 0, none⟩) M.length q1 M w1 hR1 (by omega) hq1 (fun h => by cases h)
  have Hln := Lib.hid hln
  clear ce hown1 hb1 hR1 hM hz hz4 hdR hln
  go_wp2_with fail
  refine cd.mono ?_
  rintro e w2 ⟨a2, s2, E2, hd, rfl, hb2⟩
  obtain ⟨rfl, rfl, rfl⟩ := hd.det HdR.out
  have Hb2 := Lib.hid (Hb1.out.trans (hb2.mono Hb1.out.size))
  have HR2 := Lib.hid ((HR1.out.below hb2).more hb2.size)
  have hb3 := (Below.refl w2.heap.size w2).alloc (Nat.le_refl _) (.cells #[.int .i64 3, .string ⟨#[97]⟩] 45)
  have HB3 := Lib.hid (Blk.new w2 45 #[.int .i64 3, .string ⟨#[97]⟩])
  have Hb3 := Lib.hid (Hb2.out.trans (hb3.mono Hb2.out.size))
  have HR3 := Lib.hid ((HR2.out.below hb3).more hb3.size)
  clear cd hd hb2 hb3 HdR HR1 Hb1
  have hz3 : w2.heap.size < (w2.alloc (.cells #[.int .i64 3, .string ⟨#[97]⟩] 45)).heap.size := by simp
  go_wp2_with fail
  generalize hw3 : w2.alloc (.cells #[.int .i64 3, .string ⟨#[97]⟩] 45) = w3 at *
  clear hw3
  have cd := decode_any none 0 0 [] w3 Reads.none_ (by omega) (Nat.le_refl _) (fun _ => rfl)
  refine cd.mono ?_
  rintro e w4 ⟨a4, s4, E4, hd, rfl, hb4⟩
  obtain ⟨rfl, rfl, rfl⟩ := dec_nil hd
  have hz4 := hb4.size
  have Hb5 := Lib.hid ((Hb3.out.trans (hb4.mono Hb3.out.size)).alloc (by have := Hb3.out.size; omega) (.cells #[.int .i64 0, .string ⟨#[]⟩] 45))
  have HB5 := Lib.hid ((HB3.out.below hb4 hz3).alloc (.cells #[.int .i64 0, .string ⟨#[]⟩] 45))
  have hb5 := (hb4.alloc hz4 (.cells #[.int .i64 0, .string ⟨#[]⟩] 45) : Below w3.heap.size w3 _)
  have HR5 := Lib.hid ((HR3.out.below hb5).more hb5.size)
  have hz5 : w2.heap.size < (w4.alloc (.cells #[.int .i64 0, .string ⟨#[]⟩] 45)).heap.size := by simp; omega
  clear cd hd hb4 hb5 HB3 HR3 Hb3
  go_upto_region 4 with (fail)
  generalize hw5 : w4.alloc (.cells #[.int .i64 0, .string ⟨#[]⟩] 45) = w5 at *
  clear hw5
  have hd0 := HB5.out.cell 0
  have hd1 := HB5.out.cell 1
  simp at hd0 hd1
  go_wp2_with fail
  have cf := follow_any 3 9 1 ⟨#[97]⟩ (some ⟨w5.heap.size, 0, none⟩) 3 3 [exD 3, exD 5, exD 7] (w5.alloc (.cells exC 71)) (ex_docs w5) (by omega)
  rw [fol_ex] at cf
  have hb6 := (Below.refl w5.heap.size w5).alloc (Nat.le_refl _) (.cells exC 71)
  refine cf.mono ?_
  rintro e w7 ⟨v7, rfl, hO7⟩
  obtain ⟨A7, c7, rfl, hD7⟩ := hO7.read
  obtain ⟨b7, o7, F7, fn7, fc7, rfl, hbb7, hk0, _⟩ := hD7.at_ (i := 0) (by simp)
  have hb7 := hb6.trans (hO7.bel.mono (by simp))
  have hb8 := hb7.alloc hb7.size (.cells #[.int .i64 5, .string ⟨#[97]⟩] 45)
  have HB8 := Lib.hid (HB5.out.below hb8 hz5)
  have HR8 := Lib.hid (HR5.out.below hb8)
  have HC8 := Lib.hid (Blk.new w7 45 #[.int .i64 5, .string ⟨#[97]⟩])
  have Hk8 : Hid ((w7.alloc (.cells #[.int .i64 5, .string ⟨#[97]⟩] 45)).cell? ⟨b7, o7, none⟩ = some (.int .i64 5)) := Lib.hid (by
    have := (World.cell?_alloc_lt w7 (.cells #[.int .i64 5, .string ⟨#[97]⟩] 45) ⟨b7, o7 + 0 * 3, none⟩ hbb7).trans hk0
    simpa [exD] using this)
  have Hfin := Lib.hid (Hb5.out.trans (hb8.mono Hb5.out.size))
  clear cf hO7 hD7 hk0 hb6 hb7 hb8 HB5 HR5 Hb5 hd0 hd1
  go_upto_region 5 with (fail)
  generalize hw8 : w7.alloc (.cells #[.int .i64 5, .string ⟨#[97]⟩] 45) = w8 at *
  clear hw8
  have hd0 := HB8.out.cell 0
  have hd1 := HB8.out.cell 1
  have he0 := HC8.out.cell 0
  simp at hd0 hd1 he0
  have hk := Hk8.out
  have h18 : (M.length : Int) = 18 := by rw [Hln.out]; rfl
  have h14 : (14 : Int) ≤ (q1 : Int) := by have := Hln.out; omega
  have hcv : (convert 41 9 (.slice (some ⟨g1, 0, none⟩) 14 q1)).run Try.prog w8 = .ok (.string ⟨#[76, 67, 1, 0, 0, 0, 0, 0, 0, 0, 3, 0, 1, 97]⟩) w8 := by
    have h14' : M.take 14 = [76, 67, 1, 0, 0, 0, 0, 0, 0, 0, 3, 0, 1, 97] := by rw [HM.out]; rfl
    have := conv_str (L := M.take 14) (w := w8) (A := some ⟨g1, 0, none⟩) (n := 14) (B := w5.heap.size) q1 ⟨by rw [bv_len, h14']; rfl, fun _ => by
      obtain ⟨b', o', e', hlt, hcl⟩ := HR8.out.2 (by have := Hln.out; omega)
      refine ⟨b', o', e', hlt, fun j u hu => hcl j u ?_⟩
      rw [bv_get, List.getElem?_take] at hu
      rw [bv_get]
      split at hu
      · exact hu
      · cases hu⟩
    rw [this, h14']
  have hself := fun W => cur_self 3 ⟨#[97]⟩ W
  generalize (⟨#[76, 67, 1, 0, 0, 0, 0, 0, 0, 0, 3, 0, 1, 97]⟩ : ByteArray) = X at *
  generalize (⟨#[97]⟩ : ByteArray) = Y at *
  go_wp2
  go_ret
  exact ⟨rfl, Hfin.out⟩
end Go.Proofs.Ytceekocfmbcobaa.Cu
end
