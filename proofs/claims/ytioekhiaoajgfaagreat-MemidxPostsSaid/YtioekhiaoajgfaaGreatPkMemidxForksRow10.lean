import Derived.Test.YtioekhiaoajgfaaGreatPkMemidxForksRow5
import Derived.Test.YtioekhiaoajgfaaGreatPkMemidxForksRow9
section
namespace Go.Proofs.YtioekhiaoajgfaaGreat.Ut
open Go.RowKit
set_option linter.unusedSimpArgs false in
set_option maxHeartbeats 1600000 in
theorem word_ref (r : Int) (w : World) : Calls Tryz.prog 90 #[.int .i64 r] w fun e w' => e = .returned (.bool (isWord r)) ∧ w = w' := by
  go_enter Tryz.func90, Tryz.ntmps90
  go_wp2
  all_goals
    go_ret
    refine ⟨congrArg (fun x => Ending.returned (Value.bool x)) ?_, rfl⟩
    unfold isWord
    rw [Bool.eq_iff_iff]
    try simp only [bne_iff_ne, ne_eq, bne_eq_false_iff_eq] at *
    simp only [Bool.or_eq_true, Bool.and_eq_true, decide_eq_true_eq, bne_iff_ne, ne_eq, Bool.false_eq_true, true_iff, false_iff, reduceCtorEq]
    first | omega | decide
end Go.Proofs.YtioekhiaoajgfaaGreat.Ut
end

section
/- The reference's Runes, put, Encode, Fold, Valid, SameInts. -/
namespace Go.Proofs.YtioekhiaoajgfaaGreat.Ut
open Go.RowKit
set_option maxRecDepth 20000

set_option maxHeartbeats 800000 in
theorem runes_ref (s : ByteArray) (w : World) (hs : s.size ≤ 4398046511104) :
    Calls Tryz.prog 89 #[.string s] w fun e w' => ∃ v, e = .returned v ∧ w'.ownsRow w.heap.size 3 1 v (runes s.data.toList).length (rv (runes s.data.toList)) ∧ Below w.heap.size w w' := by
  obtain ⟨i0, hi0, hz0, hz1, hz2⟩ := info_parts int_info
  go_enter Tryz.func89, Tryz.ntmps89
  go_wp2
  go_loopw [3, 4] (fun v i wr => ∃ (k : Nat) (l : List Nat), k ≤ s.size ∧ i = .int .i64 k ∧ l.length ≤ k ∧ runes s.data.toList = l ++ runes (s.data.toList.drop k) ∧ wr.ownsRow w.heap.size 3 1 v l.length (rv l) ∧ Below w.heap.size w wr)
    (fun _ i _ => s.size - (intOf i).toNat)
  case atStart => exact ⟨0, [], Nat.zero_le _, rfl, by simp, rfl, World.ownsRow_nil _ _ _ _, Below.refl _ _⟩
  case round =>
    obtain ⟨k, l, hk, rfl, hlk, hru, hown, hb⟩ := hrel
    by_cases hlt : k < s.size
    · have hne : s.data.toList.drop k ≠ [] := by rw [drop_cons s k hlt]; simp
      have hsz := dec_size _ hne
      rw [List.length_drop, bsize] at hsz
      have hrc := runes_cons _ hne
      rw [hrc, List.drop_drop] at hru
      have c := decr_any s (k : Int) wr (by omega)
      rw [decAt_nat] at c
      have Hru := Lib.hid hru
      clear hrc hru hne
      generalize dec (s.data.toList.drop k) = d at *
      have hd1 := hsz.1
      have hd2 := hsz.2.1
      have hd4 := hsz.2.2
      clear hsz
      go_wp2_with fail
      refine c.mono ?_
      rintro e wr ⟨rfl, rfl⟩
      have hbw := hb
      have hown2 := hown
      have hsz2 := hbw.size
      go_wp2_with (at_builtin; refine wpList_append_own _ rfl _ _ 72 rfl w.heap.size 3 i0 (.int .i64 0) 1 8 Tryz.underlying72 hi0 hz0 hz1 hz2 rfl (by decide) _ _ _ rfl (hown2.alloc _) ⟨wr.heap.size, 0, none⟩ 1 1 [.int .i64 (d.1 : Int)] rfl rfl ?c1 ?c2 ?c3 ?c4 ?c5 ?_)
      case c1 => exact World.news_of_block (cs := #[.int .i64 (d.1 : Int)]) (t := 3) (fr := (0, 0)) (heap_alloc_new wr _)
      case c2 => intro u hu; simp at hu; subst hu; rfl
      case c3 => unfold maxLen; omega
      case c4 => omega
      case c5 => simp; omega
      intro v' w3 hown3 hg3 _
      have hb3 : Below w.heap.size w w3 := (hbw.alloc hsz2 _).grown hg3 (by simp; omega) (fun j hj => (hown2.lt _ hj).1)
      have Hb3 := Lib.hid hb3
      have Hown3 := Lib.hid hown3
      clear hb3 hown3 hg3 hown2 hbw hown hb
      go_wp2
      go_roundw
      case rel => exact ⟨k + d.2, l ++ [d.1], by omega, by go_num, by rw [List.length_append]; simp; omega, by rw [Hru.out]; simp, by
          rw [List.length_append]
          have := Hown3.out
          simpa [rv] using this, Hb3.out⟩
      case measure => simp [intOf]; omega
    · have hd0 : s.data.toList.drop k = [] := drop_out s k (by omega)
      rw [hd0, runes_nil, List.append_nil] at hru
      have Hru := Lib.hid hru
      clear hru hd0
      go_wp2
      go_ret
      exact ⟨_, rfl, by rw [Hru.out]; exact hown, hb⟩
end Go.Proofs.YtioekhiaoajgfaaGreat.Ut
end

section
/- The reference's put. -/
namespace Go.Proofs.YtioekhiaoajgfaaGreat.Ut
open Go.RowKit
set_option maxRecDepth 20000


set_option maxRecDepth 100000 in
set_option maxHeartbeats 1600000 in
theorem rput_1 (base n : Nat) (v : Value) (xs : List Value) (z : Int) (h0 : 0 ≤ z) (h1 : z < 128) (w : World) (hown : w.ownsRow base 5 1 v n xs) (hbase : base ≤ w.heap.size) (hn : n ≤ 140737488000000) :
    Calls Tryz.prog 127 #[v, .int .i64 z] w (PutPost w base n v xs (encN z.toNat)) := by
  obtain ⟨i0, hi0, hz0, hz1, hz2⟩ := info_parts u8_info
  have Hown := Lib.hid hown
  clear hown
  have fin : Hid ([.int .u8 z] = bv (encN z.toNat) ∧ 1 = (encN z.toNat).length) := by
    show _ ∧ _
    obtain ⟨r, rfl⟩ := Int.eq_ofNat_of_zero_le (show 0 ≤ z by omega)
    rw [Int.toNat_natCast]
    unfold encN
    rw [if_pos (by omega)]
    simp only [bv, List.map_cons, List.map_nil, List.length_cons, List.length_nil, and_true, Nat.zero_add, List.cons.injEq, Value.int.injEq, true_and]
    rw [B_int _ (by omega)]
  go_enter Tryz.func127, Tryz.ntmps127
  go_wp2_with (refine wpList_append_own (o := ⟨some 29, _, _, _, _, _⟩) _ rfl _ _ 157 rfl base 5 i0 (.int .u8 0) 1 1 Tryz.underlying157 hi0 hz0 hz1 hz2 rfl (by decide) v n xs rfl (Hown.out.alloc _) ⟨w.heap.size, 0, none⟩ 1 1 [.int .u8 z] rfl rfl (World.news_of_block (cs := [.int .u8 z].toArray) (t := 5) (fr := (0, 0)) (heap_alloc_new w _)) (by simp [Value.oneCell']) (by unfold maxLen; omega) (by omega) (by simp; omega) ?_; intro v' w3 hown3 hg3 _)
  go_ret
  exact put_end Hown.out hown3 hg3 fin.out

set_option maxRecDepth 100000 in
set_option maxHeartbeats 1600000 in
theorem rput_2 (base n : Nat) (v : Value) (xs : List Value) (z : Int) (h0 : 128 ≤ z) (h1 : z < 2048) (w : World) (hown : w.ownsRow base 5 1 v n xs) (hbase : base ≤ w.heap.size) (hn : n ≤ 140737488000000) :
    Calls Tryz.prog 127 #[v, .int .i64 z] w (PutPost w base n v xs (encN z.toNat)) := by
  obtain ⟨i0, hi0, hz0, hz1, hz2⟩ := info_parts u8_info
  have Hown := Lib.hid hown
  clear hown
  have fin : Hid ([.int .u8 (192 + z / 64), .int .u8 (128 + z % 64)] = bv (encN z.toNat) ∧ 2 = (encN z.toNat).length) := by
    show _ ∧ _
    obtain ⟨r, rfl⟩ := Int.eq_ofNat_of_zero_le (show 0 ≤ z by omega)
    rw [Int.toNat_natCast]
    unfold encN
    rw [if_neg (by omega), if_pos (by omega)]
    simp only [bv, List.map_cons, List.map_nil, List.length_cons, List.length_nil, and_true, Nat.zero_add, List.cons.injEq, Value.int.injEq, true_and]
    refine ⟨by rw [B_int _ (by omega)]; omega, by rw [B_int _ (by omega)]; omega⟩
  go_enter Tryz.func127, Tryz.ntmps127
  go_wp2_with (refine wpList_append_own (o := ⟨some 43, _, _, _, _, _⟩) _ rfl _ _ 157 rfl base 5 i0 (.int .u8 0) 1 1 Tryz.underlying157 hi0 hz0 hz1 hz2 rfl (by decide) v n xs rfl (Hown.out.alloc _) ⟨w.heap.size, 0, none⟩ 2 2 [.int .u8 (192 + z / 64), .int .u8 (128 + z % 64)] rfl rfl (World.news_of_block (cs := [.int .u8 (192 + z / 64), .int .u8 (128 + z % 64)].toArray) (t := 5) (fr := (0, 0)) (heap_alloc_new w _)) (by simp [Value.oneCell']) (by unfold maxLen; omega) (by omega) (by simp; omega) ?_; intro v' w3 hown3 hg3 _)
  go_ret
  exact put_end Hown.out hown3 hg3 fin.out

set_option maxRecDepth 100000 in
set_option maxHeartbeats 1600000 in
theorem rput_3 (base n : Nat) (v : Value) (xs : List Value) (z : Int) (h0 : 2048 ≤ z) (h1 : z ≤ 65535) (h2 : z < 55296 ∨ 57343 < z) (w : World) (hown : w.ownsRow base 5 1 v n xs) (hbase : base ≤ w.heap.size) (hn : n ≤ 140737488000000) :
    Calls Tryz.prog 127 #[v, .int .i64 z] w (PutPost w base n v xs (encN z.toNat)) := by
  obtain ⟨i0, hi0, hz0, hz1, hz2⟩ := info_parts u8_info
  have Hown := Lib.hid hown
  clear hown
  have fin : Hid ([.int .u8 (224 + z / 4096), .int .u8 (128 + z / 64 % 64), .int .u8 (128 + z % 64)] = bv (encN z.toNat) ∧ 3 = (encN z.toNat).length) := by
    show _ ∧ _
    obtain ⟨r, rfl⟩ := Int.eq_ofNat_of_zero_le (show 0 ≤ z by omega)
    rw [Int.toNat_natCast]
    unfold encN
    rw [if_neg (by omega), if_neg (by omega), if_pos (by omega)]
    simp only [bv, List.map_cons, List.map_nil, List.length_cons, List.length_nil, and_true, Nat.zero_add, List.cons.injEq, Value.int.injEq, true_and]
    refine ⟨by rw [B_int _ (by omega)]; omega, by rw [B_int _ (by omega)]; omega, by rw [B_int _ (by omega)]; omega⟩
  rcases h2 with h2 | h2
  · go_enter Tryz.func127, Tryz.ntmps127
    go_wp2_with (refine wpList_append_own (o := ⟨some 62, _, _, _, _, _⟩) _ rfl _ _ 157 rfl base 5 i0 (.int .u8 0) 1 1 Tryz.underlying157 hi0 hz0 hz1 hz2 rfl (by decide) v n xs rfl (Hown.out.alloc _) ⟨w.heap.size, 0, none⟩ 3 3 [.int .u8 (224 + z / 4096), .int .u8 (128 + z / 64 % 64), .int .u8 (128 + z % 64)] rfl rfl (World.news_of_block (cs := [.int .u8 (224 + z / 4096), .int .u8 (128 + z / 64 % 64), .int .u8 (128 + z % 64)].toArray) (t := 5) (fr := (0, 0)) (heap_alloc_new w _)) (by simp [Value.oneCell']) (by unfold maxLen; omega) (by omega) (by simp; omega) ?_; intro v' w3 hown3 hg3 _)
    go_ret
    exact put_end Hown.out hown3 hg3 fin.out
  · go_enter Tryz.func127, Tryz.ntmps127
    go_wp2_with (refine wpList_append_own (o := ⟨some 62, _, _, _, _, _⟩) _ rfl _ _ 157 rfl base 5 i0 (.int .u8 0) 1 1 Tryz.underlying157 hi0 hz0 hz1 hz2 rfl (by decide) v n xs rfl (Hown.out.alloc _) ⟨w.heap.size, 0, none⟩ 3 3 [.int .u8 (224 + z / 4096), .int .u8 (128 + z / 64 % 64), .int .u8 (128 + z % 64)] rfl rfl (World.news_of_block (cs := [.int .u8 (224 + z / 4096), .int .u8 (128 + z / 64 % 64), .int .u8 (128 + z % 64)].toArray) (t := 5) (fr := (0, 0)) (heap_alloc_new w _)) (by simp [Value.oneCell']) (by unfold maxLen; omega) (by omega) (by simp; omega) ?_; intro v' w3 hown3 hg3 _)
    go_ret
    exact put_end Hown.out hown3 hg3 fin.out

set_option maxRecDepth 100000 in
set_option maxHeartbeats 1600000 in
theorem rput_4 (base n : Nat) (v : Value) (xs : List Value) (z : Int) (h0 : 65535 < z) (h1 : z ≤ 1114111) (w : World) (hown : w.ownsRow base 5 1 v n xs) (hbase : base ≤ w.heap.size) (hn : n ≤ 140737488000000) :
    Calls Tryz.prog 127 #[v, .int .i64 z] w (PutPost w base n v xs (encN z.toNat)) := by
  obtain ⟨i0, hi0, hz0, hz1, hz2⟩ := info_parts u8_info
  have Hown := Lib.hid hown
  clear hown
  have fin : Hid ([.int .u8 (240 + z / 262144), .int .u8 (128 + z / 4096 % 64), .int .u8 (128 + z / 64 % 64), .int .u8 (128 + z % 64)] = bv (encN z.toNat) ∧ 4 = (encN z.toNat).length) := by
    show _ ∧ _
    obtain ⟨r, rfl⟩ := Int.eq_ofNat_of_zero_le (show 0 ≤ z by omega)
    rw [Int.toNat_natCast]
    unfold encN
    rw [if_neg (by omega), if_neg (by omega), if_neg (by omega)]
    simp only [bv, List.map_cons, List.map_nil, List.length_cons, List.length_nil, and_true, Nat.zero_add, List.cons.injEq, Value.int.injEq, true_and]
    refine ⟨by rw [B_int _ (by omega)]; omega, by rw [B_int _ (by omega)]; omega, by rw [B_int _ (by omega)]; omega, by rw [B_int _ (by omega)]; omega⟩
  go_enter Tryz.func127, Tryz.ntmps127
  go_wp2_with (refine wpList_append_own (o := ⟨some 83, _, _, _, _, _⟩) _ rfl _ _ 157 rfl base 5 i0 (.int .u8 0) 1 1 Tryz.underlying157 hi0 hz0 hz1 hz2 rfl (by decide) v n xs rfl (Hown.out.alloc _) ⟨w.heap.size, 0, none⟩ 4 4 [.int .u8 (240 + z / 262144), .int .u8 (128 + z / 4096 % 64), .int .u8 (128 + z / 64 % 64), .int .u8 (128 + z % 64)] rfl rfl (World.news_of_block (cs := [.int .u8 (240 + z / 262144), .int .u8 (128 + z / 4096 % 64), .int .u8 (128 + z / 64 % 64), .int .u8 (128 + z % 64)].toArray) (t := 5) (fr := (0, 0)) (heap_alloc_new w _)) (by simp [Value.oneCell']) (by unfold maxLen; omega) (by omega) (by simp; omega) ?_; intro v' w3 hown3 hg3 _)
  go_ret
  exact put_end Hown.out hown3 hg3 fin.out

set_option maxRecDepth 100000 in
set_option maxHeartbeats 1600000 in
theorem rput_bad (base n : Nat) (v : Value) (xs : List Value) (z : Int) (hbad : z < 0 ∨ 1114111 < z ∨ (55296 ≤ z ∧ z ≤ 57343)) (w : World) (hown : w.ownsRow base 5 1 v n xs) (hbase : base ≤ w.heap.size) (hn : n ≤ 140737488000000) :
    Calls Tryz.prog 127 #[v, .int .i64 z] w (PutPost w base n v xs (encN 65533)) := by
  have c := rput_3 base n v xs 65533 (by omega) (by omega) (by omega) w hown hbase hn
  rw [show (65533 : Int).toNat = 65533 from rfl] at c
  clear hown
  rcases hbad with h | h | ⟨h, h'⟩
  · go_enter Tryz.func127, Tryz.ntmps127
    go_wp2_with fail
    refine c.mono ?_
    rintro e w3 ⟨v', rfl, ho, hg⟩
    go_wp2
    go_ret
    exact ⟨v', rfl, ho, hg⟩
  · go_enter Tryz.func127, Tryz.ntmps127
    go_wp2_with fail
    refine c.mono ?_
    rintro e w3 ⟨v', rfl, ho, hg⟩
    go_wp2
    go_ret
    exact ⟨v', rfl, ho, hg⟩
  · go_enter Tryz.func127, Tryz.ntmps127
    go_wp2_with fail
    refine c.mono ?_
    rintro e w3 ⟨v', rfl, ho, hg⟩
    go_wp2
    go_ret
    exact ⟨v', rfl, ho, hg⟩

theorem rput_any (base n : Nat) (v : Value) (xs : List Value) (z : Int) (w : World) (hown : w.ownsRow base 5 1 v n xs) (hbase : base ≤ w.heap.size) (hn : n ≤ 140737488000000) :
    Calls Tryz.prog 127 #[v, .int .i64 z] w (PutPost w base n v xs (enc z)) := by
  unfold enc fix
  by_cases hb : z < 0 ∨ 1114111 < z ∨ (55296 ≤ z ∧ z ≤ 57343)
  · rw [if_pos hb]; exact rput_bad base n v xs z hb w hown hbase hn
  · rw [if_neg hb]
    by_cases h1 : z < 128
    · exact rput_1 base n v xs z (by omega) h1 w hown hbase hn
    · by_cases h2 : z < 2048
      · exact rput_2 base n v xs z (by omega) h2 w hown hbase hn
      · by_cases h3 : z ≤ 65535
        · exact rput_3 base n v xs z (by omega) h3 (by omega) w hown hbase hn
        · exact rput_4 base n v xs z (by omega) (by omega) w hown hbase hn
end Go.Proofs.YtioekhiaoajgfaaGreat.Ut
end

section
/- The reference's Encode. -/
namespace Go.Proofs.YtioekhiaoajgfaaGreat.Ut
open Go.RowKit
set_option maxRecDepth 20000

set_option maxHeartbeats 800000 in
theorem encode_ref (A : Option Addr) (n c : Nat) (rs : List Int) (w : World) (hR : Reads w w.heap.size 1 A n (rs.map (Value.int .i64))) (hn : n ≤ 35000000000000) :
    Calls Tryz.prog 111 #[.slice A n c] w fun e w' => e = .returned (.string (str (encode rs))) ∧ Below w.heap.size w w' := by
  have hlen : rs.length = n := by have := hR.1; simpa using this
  have HR := Lib.hid hR
  have Hl := Lib.hid hlen
  have St := Lib.hid (Putting.start w)
  clear hR hlen
  go_enter Tryz.func111, Tryz.ntmps111
  go_wp2
  go_loopw [3, 4] (fun v i wr => ∃ k : Nat, k ≤ n ∧ i = .int .i64 k ∧ Putting w wr v (rs.take k)) (fun _ i _ => n - (intOf i).toNat)
  case atStart => exact ⟨0, Nat.zero_le _, rfl, St.out⟩
  case round =>
    obtain ⟨k, hk, rfl, hp⟩ := hrel
    have hel := encode_len (rs.take k)
    have htl : (rs.take k).length ≤ n := by rw [List.length_take]; omega
    by_cases hlt : k < n
    · obtain ⟨ab, ao, hkl, rfl, hab, hcw⟩ := HR.out.at_map hlt
      have hcx := (hp.bel.cell (p := ⟨ab, ao + k, none⟩) hab).trans hcw
      have hts : rs.take (k + 1) = rs.take k ++ [rs[k]] := by rw [List.take_succ_eq_append_getElem hkl]
      have Hts := Lib.hid hts
      have c1 := rput_any w.heap.size _ u3 _ rs[k] wr hp.own hp.bel.size (by omega)
      have Hp := Lib.hid hp
      clear hts hcw hp
      generalize rs[k] = r at *
      go_wp2_with fail
      refine c1.mono ?_
      rintro e w2 ⟨v', rfl, hown2, hg2⟩
      have Hp2 := Lib.hid (Hp.out.put hown2 hg2)
      clear hown2 hg2
      go_wp2
      go_roundw
      case rel => exact ⟨k + 1, by omega, by go_num, by rw [Hts.out]; exact Hp2.out⟩
      case measure => simp [intOf]; omega
    · have hall : rs.take k = rs := List.take_of_length_le (by rw [Hl.out]; omega)
      have hcv := conv_own (P := Tryz.prog) (tb := 157) (ts := 9) hp.own Tryz.underlying157 Tryz.underlying5 Tryz.underlying9
      have Hall := Lib.hid hall
      have Hb := Lib.hid hp.bel
      clear hall hp hel htl
      go_wp2
      go_ret
      exact ⟨by rw [Hall.out]; rfl, Hb.out⟩
end Go.Proofs.YtioekhiaoajgfaaGreat.Ut
end
