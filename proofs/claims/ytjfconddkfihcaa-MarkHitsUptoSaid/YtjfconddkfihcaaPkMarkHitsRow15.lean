import Derived.Test.YtjfconddkfihcaaPkMarkHitsRow4
import Derived.Test.YtjfconddkfihcaaPkMarkHitsRow14
import Derived.Test.YtjfconddkfihcaaPkMarkHitsRow13
section
namespace Go.Proofs.Ytjfconddkfihcaa.Ut
open Go.RowKit
set_option linter.unusedSimpArgs false in
set_option maxHeartbeats 1600000 in
theorem word_ref (r : Int) (w : World) : Calls Try.prog 64 #[.int .i64 r] w fun e w' => e = .returned (.bool (isWord r)) ∧ w = w' := by
  go_enter Try.func64, Try.ntmps64
  go_wp2
  all_goals
    go_ret
    refine ⟨congrArg (fun x => Ending.returned (Value.bool x)) ?_, rfl⟩
    unfold isWord
    rw [Bool.eq_iff_iff]
    try simp only [bne_iff_ne, ne_eq, bne_eq_false_iff_eq] at *
    simp only [Bool.or_eq_true, Bool.and_eq_true, decide_eq_true_eq, bne_iff_ne, ne_eq, Bool.false_eq_true, true_iff, false_iff, reduceCtorEq]
    first | omega | decide
end Go.Proofs.Ytjfconddkfihcaa.Ut
end

section
/- The reference's Runes, put, Encode, Fold, Valid, SameInts. -/
namespace Go.Proofs.Ytjfconddkfihcaa.Ut
open Go.RowKit
set_option maxRecDepth 20000

set_option maxHeartbeats 800000 in
theorem runes_ref (s : ByteArray) (w : World) (hs : s.size ≤ 4398046511104) :
    Calls Try.prog 77 #[.string s] w fun e w' => ∃ v, e = .returned v ∧ w'.ownsRow w.heap.size 3 1 v (runes s.data.toList).length (rv (runes s.data.toList)) ∧ Below w.heap.size w w' := by
  obtain ⟨i0, hi0, hz0, hz1, hz2⟩ := info_parts int_info
  go_enter Try.func77, Try.ntmps77
  go_wp2
  go_loopw [3, 4] (fun v i wr => ∃ (k : Nat) (l : List Nat), k ≤ s.size ∧ i = .int .i64 k ∧ l.length ≤ k ∧ runes s.data.toList = l ++ runes (s.data.toList.drop k) ∧ wr.ownsRow w.heap.size 3 1 v l.length (rv l) ∧ Below w.heap.size w wr)
    (fun _ i _ => s.size - (intOf i).toNat)
  case atStart => exact ⟨0, [], Nat.zero_le _, rfl, by simp, rfl, World.ownsRow_nil _ _ _ _, Below.refl _ _⟩
  case round =>
    obtain ⟨k, l, hk, rfl, hlk, hru, hown, hb⟩ := hrel
    by_cases hlt : k < s.size
    · have hne : s.data.toList.drop k ≠ [] := by rw [drop_cons s k hlt]; simp
      have hsz := dec_size _ hne
      rw [List.length_drop, bsize] at hsz
      have hrc := runes_cons _ hne
      rw [hrc, List.drop_drop] at hru
      have c := decr_any s (k : Int) wr (by omega)
      rw [decAt_nat] at c
      have Hru := Lib.hid hru
      clear hrc hru hne
      generalize dec (s.data.toList.drop k) = d at *
      have hd1 := hsz.1
      have hd2 := hsz.2.1
      have hd4 := hsz.2.2
      clear hsz
      go_wp2_with fail
      refine c.mono ?_
      rintro e wr ⟨rfl, rfl⟩
      have hbw := hb
      have hown2 := hown
      have hsz2 := hbw.size
      go_wp2_with (at_builtin; refine wpList_append_own _ rfl _ _ 111 rfl w.heap.size 3 i0 (.int .i64 0) 1 8 Try.underlying111 hi0 hz0 hz1 hz2 rfl (by decide) _ _ _ rfl (hown2.alloc _) ⟨wr.heap.size, 0, none⟩ 1 1 [.int .i64 (d.1 : Int)] rfl rfl ?c1 ?c2 ?c3 ?c4 ?c5 ?_)
      case c1 => exact World.news_of_block (cs := #[.int .i64 (d.1 : Int)]) (t := 3) (fr := (0, 0)) (heap_alloc_new wr _)
      case c2 => intro u hu; simp at hu; subst hu; rfl
      case c3 => unfold maxLen; omega
      case c4 => omega
      case c5 => simp; omega
      intro v' w3 hown3 hg3 _
      have hb3 : Below w.heap.size w w3 := (hbw.alloc hsz2 _).grown hg3 (by simp; omega) (fun j hj => (hown2.lt _ hj).1)
      have Hb3 := Lib.hid hb3
      have Hown3 := Lib.hid hown3
      clear hb3 hown3 hg3 hown2 hbw hown hb
      go_wp2
      go_roundw
      case rel => exact ⟨k + d.2, l ++ [d.1], by omega, by go_num, by rw [List.length_append]; simp; omega, by rw [Hru.out]; simp, by
          rw [List.length_append]
          have := Hown3.out
          simpa [rv] using this, Hb3.out⟩
      case measure => simp [intOf]; omega
    · have hd0 : s.data.toList.drop k = [] := drop_out s k (by omega)
      rw [hd0, runes_nil, List.append_nil] at hru
      have Hru := Lib.hid hru
      clear hru hd0
      go_wp2
      go_ret
      exact ⟨_, rfl, by rw [Hru.out]; exact hown, hb⟩
end Go.Proofs.Ytjfconddkfihcaa.Ut
end

section
/- The reference's put. -/
namespace Go.Proofs.Ytjfconddkfihcaa.Ut
open Go.RowKit
set_option maxRecDepth 20000


set_option maxRecDepth 100000 in
set_option maxHeartbeats 1600000 in
theorem rput_1 (base n : Nat) (v : Value) (xs : List Value) (z : Int) (h0 : 0 ≤ z) (h1 : z < 128) (w : World) (hown : w.ownsRow base 5 1 v n xs) (hbase : base ≤ w.heap.size) (hn : n ≤ 140737488000000) :
    Calls Try.prog 126 #[v, .int .i64 z] w (PutPost w base n v xs (encN z.toNat)) := by
  obtain ⟨i0, hi0, hz0, hz1, hz2⟩ := info_parts u8_info
  have Hown := Lib.hid hown
  clear hown
  have fin : Hid ([.int .u8 z] = bv (encN z.toNat) ∧ 1 = (encN z.toNat).length) := by
    show _ ∧ _
    obtain ⟨r, rfl⟩ := Int.eq_ofNat_of_zero_le (show 0 ≤ z by omega)
    rw [Int.toNat_natCast]
    unfold encN
    rw [if_pos (by omega)]
    simp only [bv, List.map_cons, List.map_nil, List.length_cons, List.length_nil, and_true, Nat.zero_add, List.cons.injEq, Value.int.injEq, true_and]
    rw [B_int _ (by omega)]
  go_enter Try.func126, Try.ntmps126
  go_wp2_with (refine wpList_append_own (o := ⟨some 29, _, _, _, _, _⟩) _ rfl _ _ 102 rfl base 5 i0 (.int .u8 0) 1 1 Try.underlying102 hi0 hz0 hz1 hz2 rfl (by decide) v n xs rfl (Hown.out.alloc _) ⟨w.heap.size, 0, none⟩ 1 1 [.int .u8 z] rfl rfl (World.news_of_block (cs := [.int .u8 z].toArray) (t := 5) (fr := (0, 0)) (heap_alloc_new w _)) (by simp [Value.oneCell']) (by unfold maxLen; omega) (by omega) (by simp; omega) ?_; intro v' w3 hown3 hg3 _)
  go_ret
  exact put_end Hown.out hown3 hg3 fin.out

set_option maxRecDepth 100000 in
set_option maxHeartbeats 1600000 in
theorem rput_2 (base n : Nat) (v : Value) (xs : List Value) (z : Int) (h0 : 128 ≤ z) (h1 : z < 2048) (w : World) (hown : w.ownsRow base 5 1 v n xs) (hbase : base ≤ w.heap.size) (hn : n ≤ 140737488000000) :
    Calls Try.prog 126 #[v, .int .i64 z] w (PutPost w base n v xs (encN z.toNat)) := by
  obtain ⟨i0, hi0, hz0, hz1, hz2⟩ := info_parts u8_info
  have Hown := Lib.hid hown
  clear hown
  have fin : Hid ([.int .u8 (192 + z / 64), .int .u8 (128 + z % 64)] = bv (encN z.toNat) ∧ 2 = (encN z.toNat).length) := by
    show _ ∧ _
    obtain ⟨r, rfl⟩ := Int.eq_ofNat_of_zero_le (show 0 ≤ z by omega)
    rw [Int.toNat_natCast]
    unfold encN
    rw [if_neg (by omega), if_pos (by omega)]
    simp only [bv, List.map_cons, List.map_nil, List.length_cons, List.length_nil, and_true, Nat.zero_add, List.cons.injEq, Value.int.injEq, true_and]
    refine ⟨by rw [B_int _ (by omega)]; omega, by rw [B_int _ (by omega)]; omega⟩
  go_enter Try.func126, Try.ntmps126
  go_wp2_with (refine wpList_append_own (o := ⟨some 43, _, _, _, _, _⟩) _ rfl _ _ 102 rfl base 5 i0 (.int .u8 0) 1 1 Try.underlying102 hi0 hz0 hz1 hz2 rfl (by decide) v n xs rfl (Hown.out.alloc _) ⟨w.heap.size, 0, none⟩ 2 2 [.int .u8 (192 + z / 64), .int .u8 (128 + z % 64)] rfl rfl (World.news_of_block (cs := [.int .u8 (192 + z / 64), .int .u8 (128 + z % 64)].toArray) (t := 5) (fr := (0, 0)) (heap_alloc_new w _)) (by simp [Value.oneCell']) (by unfold maxLen; omega) (by omega) (by simp; omega) ?_; intro v' w3 hown3 hg3 _)
  go_ret
  exact put_end Hown.out hown3 hg3 fin.out

set_option maxRecDepth 100000 in
set_option maxHeartbeats 1600000 in
theorem rput_3 (base n : Nat) (v : Value) (xs : List Value) (z : Int) (h0 : 2048 ≤ z) (h1 : z ≤ 65535) (h2 : z < 55296 ∨ 57343 < z) (w : World) (hown : w.ownsRow base 5 1 v n xs) (hbase : base ≤ w.heap.size) (hn : n ≤ 140737488000000) :
    Calls Try.prog 126 #[v, .int .i64 z] w (PutPost w base n v xs (encN z.toNat)) := by
  obtain ⟨i0, hi0, hz0, hz1, hz2⟩ := info_parts u8_info
  have Hown := Lib.hid hown
  clear hown
  have fin : Hid ([.int .u8 (224 + z / 4096), .int .u8 (128 + z / 64 % 64), .int .u8 (128 + z % 64)] = bv (encN z.toNat) ∧ 3 = (encN z.toNat).length) := by
    show _ ∧ _
    obtain ⟨r, rfl⟩ := Int.eq_ofNat_of_zero_le (show 0 ≤ z by omega)
    rw [Int.toNat_natCast]
    unfold encN
    rw [if_neg (by omega), if_neg (by omega), if_pos (by omega)]
    simp only [bv, List.map_cons, List.map_nil, List.length_cons, List.length_nil, and_true, Nat.zero_add, List.cons.injEq, Value.int.injEq, true_and]
    refine ⟨by rw [B_int _ (by omega)]; omega, by rw [B_int _ (by omega)]; omega, by rw [B_int _ (by omega)]; omega⟩
  rcases h2 with h2 | h2
  · go_enter Try.func126, Try.ntmps126
    go_wp2_with (refine wpList_append_own (o := ⟨some 62, _, _, _, _, _⟩) _ rfl _ _ 102 rfl base 5 i0 (.int .u8 0) 1 1 Try.underlying102 hi0 hz0 hz1 hz2 rfl (by decide) v n xs rfl (Hown.out.alloc _) ⟨w.heap.size, 0, none⟩ 3 3 [.int .u8 (224 + z / 4096), .int .u8 (128 + z / 64 % 64), .int .u8 (128 + z % 64)] rfl rfl (World.news_of_block (cs := [.int .u8 (224 + z / 4096), .int .u8 (128 + z / 64 % 64), .int .u8 (128 + z % 64)].toArray) (t := 5) (fr := (0, 0)) (heap_alloc_new w _)) (by simp [Value.oneCell']) (by unfold maxLen; omega) (by omega) (by simp; omega) ?_; intro v' w3 hown3 hg3 _)
    go_ret
    exact put_end Hown.out hown3 hg3 fin.out
  · go_enter Try.func126, Try.ntmps126
    go_wp2_with (refine wpList_append_own (o := ⟨some 62, _, _, _, _, _⟩) _ rfl _ _ 102 rfl base 5 i0 (.int .u8 0) 1 1 Try.underlying102 hi0 hz0 hz1 hz2 rfl (by decide) v n xs rfl (Hown.out.alloc _) ⟨w.heap.size, 0, none⟩ 3 3 [.int .u8 (224 + z / 4096), .int .u8 (128 + z / 64 % 64), .int .u8 (128 + z % 64)] rfl rfl (World.news_of_block (cs := [.int .u8 (224 + z / 4096), .int .u8 (128 + z / 64 % 64), .int .u8 (128 + z % 64)].toArray) (t := 5) (fr := (0, 0)) (heap_alloc_new w _)) (by simp [Value.oneCell']) (by unfold maxLen; omega) (by omega) (by simp; omega) ?_; intro v' w3 hown3 hg3 _)
    go_ret
    exact put_end Hown.out hown3 hg3 fin.out

set_option maxRecDepth 100000 in
set_option maxHeartbeats 1600000 in
theorem rput_4 (base n : Nat) (v : Value) (xs : List Value) (z : Int) (h0 : 65535 < z) (h1 : z ≤ 1114111) (w : World) (hown : w.ownsRow base 5 1 v n xs) (hbase : base ≤ w.heap.size) (hn : n ≤ 140737488000000) :
    Calls Try.prog 126 #[v, .int .i64 z] w (PutPost w base n v xs (encN z.toNat)) := by
  obtain ⟨i0, hi0, hz0, hz1, hz2⟩ := info_parts u8_info
  have Hown := Lib.hid hown
  clear hown
  have fin : Hid ([.int .u8 (240 + z / 262144), .int .u8 (128 + z / 4096 % 64), .int .u8 (128 + z / 64 % 64), .int .u8 (128 + z % 64)] = bv (encN z.toNat) ∧ 4 = (encN z.toNat).length) := by
    show _ ∧ _
    obtain ⟨r, rfl⟩ := Int.eq_ofNat_of_zero_le (show 0 ≤ z by omega)
    rw [Int.toNat_natCast]
    unfold encN
    rw [if_neg (by omega), if_neg (by omega), if_neg (by omega)]
    simp only [bv, List.map_cons, List.map_nil, List.length_cons, List.length_nil, and_true, Nat.zero_add, List.cons.injEq, Value.int.injEq, true_and]
    refine ⟨by rw [B_int _ (by omega)]; omega, by rw [B_int _ (by omega)]; omega, by rw [B_int _ (by omega)]; omega, by rw [B_int _ (by omega)]; omega⟩
  go_enter Try.func126, Try.ntmps126
  go_wp2_with (refine wpList_append_own (o := ⟨some 83, _, _, _, _, _⟩) _ rfl _ _ 102 rfl base 5 i0 (.int .u8 0) 1 1 Try.underlying102 hi0 hz0 hz1 hz2 rfl (by decide) v n xs rfl (Hown.out.alloc _) ⟨w.heap.size, 0, none⟩ 4 4 [.int .u8 (240 + z / 262144), .int .u8 (128 + z / 4096 % 64), .int .u8 (128 + z / 64 % 64), .int .u8 (128 + z % 64)] rfl rfl (World.news_of_block (cs := [.int .u8 (240 + z / 262144), .int .u8 (128 + z / 4096 % 64), .int .u8 (128 + z / 64 % 64), .int .u8 (128 + z % 64)].toArray) (t := 5) (fr := (0, 0)) (heap_alloc_new w _)) (by simp [Value.oneCell']) (by unfold maxLen; omega) (by omega) (by simp; omega) ?_; intro v' w3 hown3 hg3 _)
  go_ret
  exact put_end Hown.out hown3 hg3 fin.out

set_option maxRecDepth 100000 in
set_option maxHeartbeats 1600000 in
theorem rput_bad (base n : Nat) (v : Value) (xs : List Value) (z : Int) (hbad : z < 0 ∨ 1114111 < z ∨ (55296 ≤ z ∧ z ≤ 57343)) (w : World) (hown : w.ownsRow base 5 1 v n xs) (hbase : base ≤ w.heap.size) (hn : n ≤ 140737488000000) :
    Calls Try.prog 126 #[v, .int .i64 z] w (PutPost w base n v xs (encN 65533)) := by
  have c := rput_3 base n v xs 65533 (by omega) (by omega) (by omega) w hown hbase hn
  rw [show (65533 : Int).toNat = 65533 from rfl] at c
  clear hown
  rcases hbad with h | h | ⟨h, h'⟩
  · go_enter Try.func126, Try.ntmps126
    go_wp2_with fail
    refine c.mono ?_
    rintro e w3 ⟨v', rfl, ho, hg⟩
    go_wp2
    go_ret
    exact ⟨v', rfl, ho, hg⟩
  · go_enter Try.func126, Try.ntmps126
    go_wp2_with fail
    refine c.mono ?_
    rintro e w3 ⟨v', rfl, ho, hg⟩
    go_wp2
    go_ret
    exact ⟨v', rfl, ho, hg⟩
  · go_enter Try.func126, Try.ntmps126
    go_wp2_with fail
    refine c.mono ?_
    rintro e w3 ⟨v', rfl, ho, hg⟩
    go_wp2
    go_ret
    exact ⟨v', rfl, ho, hg⟩

theorem rput_any (base n : Nat) (v : Value) (xs : List Value) (z : Int) (w : World) (hown : w.ownsRow base 5 1 v n xs) (hbase : base ≤ w.heap.size) (hn : n ≤ 140737488000000) :
    Calls Try.prog 126 #[v, .int .i64 z] w (PutPost w base n v xs (enc z)) := by
  unfold enc fix
  by_cases hb : z < 0 ∨ 1114111 < z ∨ (55296 ≤ z ∧ z ≤ 57343)
  · rw [if_pos hb]; exact rput_bad base n v xs z hb w hown hbase hn
  · rw [if_neg hb]
    by_cases h1 : z < 128
    · exact rput_1 base n v xs z (by omega) h1 w hown hbase hn
    · by_cases h2 : z < 2048
      · exact rput_2 base n v xs z (by omega) h2 w hown hbase hn
      · by_cases h3 : z ≤ 65535
        · exact rput_3 base n v xs z (by omega) h3 (by omega) w hown hbase hn
        · exact rput_4 base n v xs z (by omega) (by omega) w hown hbase hn
end Go.Proofs.Ytjfconddkfihcaa.Ut
end

section
/- The reference's Encode. -/
namespace Go.Proofs.Ytjfconddkfihcaa.Ut
open Go.RowKit
set_option maxRecDepth 20000

set_option maxHeartbeats 800000 in
theorem encode_ref (A : Option Addr) (n c : Nat) (rs : List Int) (w : World) (hR : Reads w w.heap.size 1 A n (rs.map (Value.int .i64))) (hn : n ≤ 35000000000000) :
    Calls Try.prog 105 #[.slice A n c] w fun e w' => e = .returned (.string (str (encode rs))) ∧ Below w.heap.size w w' := by
  have hlen : rs.length = n := by have := hR.1; simpa using this
  have HR := Lib.hid hR
  have Hl := Lib.hid hlen
  have St := Lib.hid (Putting.start w)
  clear hR hlen
  go_enter Try.func105, Try.ntmps105
  go_wp2
  go_loopw [3, 4] (fun v i wr => ∃ k : Nat, k ≤ n ∧ i = .int .i64 k ∧ Putting w wr v (rs.take k)) (fun _ i _ => n - (intOf i).toNat)
  case atStart => exact ⟨0, Nat.zero_le _, rfl, St.out⟩
  case round =>
    obtain ⟨k, hk, rfl, hp⟩ := hrel
    have hel := encode_len (rs.take k)
    have htl : (rs.take k).length ≤ n := by rw [List.length_take]; omega
    by_cases hlt : k < n
    · obtain ⟨ab, ao, hkl, rfl, hab, hcw⟩ := HR.out.at_map hlt
      have hcx := (hp.bel.cell (p := ⟨ab, ao + k, none⟩) hab).trans hcw
      have hts : rs.take (k + 1) = rs.take k ++ [rs[k]] := by rw [List.take_succ_eq_append_getElem hkl]
      have Hts := Lib.hid hts
      have c1 := rput_any w.heap.size _ u3 _ rs[k] wr hp.own hp.bel.size (by omega)
      have Hp := Lib.hid hp
      clear hts hcw hp
      generalize rs[k] = r at *
      go_wp2_with fail
      refine c1.mono ?_
      rintro e w2 ⟨v', rfl, hown2, hg2⟩
      have Hp2 := Lib.hid (Hp.out.put hown2 hg2)
      clear hown2 hg2
      go_wp2
      go_roundw
      case rel => exact ⟨k + 1, by omega, by go_num, by rw [Hts.out]; exact Hp2.out⟩
      case measure => simp [intOf]; omega
    · have hall : rs.take k = rs := List.take_of_length_le (by rw [Hl.out]; omega)
      have hcv := conv_own (P := Try.prog) (tb := 102) (ts := 9) hp.own Try.underlying102 Try.underlying5 Try.underlying9
      have Hall := Lib.hid hall
      have Hb := Lib.hid hp.bel
      clear hall hp hel htl
      go_wp2
      go_ret
      exact ⟨by rw [Hall.out]; rfl, Hb.out⟩
end Go.Proofs.Ytjfconddkfihcaa.Ut
end

section
/- loggiaref07: cut, Tokens, Words, IsWord: the walks. -/
namespace Go.Proofs.Ytjfconddkfihcaa.Tk
open Go.RowKit Go.Proofs.Ytjfconddkfihcaa.Ut
set_option maxRecDepth 20000

theorem str_app (a b : List UInt8) : str a ++ str b = str (a ++ b) := by
  have h : (str a ++ str b).data.toList = a ++ b := by simp [str]
  rw [← of_str (str a ++ str b), h]
theorem str_nil : str [] = ByteArray.empty := rfl

set_option maxHeartbeats 800000 in
theorem cut_ref (A : Option Addr) (n c : Nat) (l : List Nat) (w : World) (hR : Reads w w.heap.size 1 A n (rv l)) (hn : n ≤ 4398046511104) :
    Calls Try.prog 78 #[.slice A n c] w fun e w' => e = .returned (.string (str (word l))) ∧ Below w.heap.size w w' := by
  have hlen : l.length = n := by have := hR.1; simpa [rv] using this
  have HR := Lib.hid hR
  have Hl := Lib.hid hlen
  clear hR hlen
  go_enter Try.func78, Try.ntmps78
  go_wp2
  go_loopw [3, 4] (fun s i wr => ∃ (k : Nat) (a : List UInt8), k ≤ n ∧ i = .int .i64 k ∧ s = .string (str a) ∧ a.length ≤ 32 ∧ word l = wordGo a (l.drop k) ∧ Below w.heap.size w wr) (fun _ i _ => n - (intOf i).toNat)
  case atStart => exact ⟨0, [], Nat.zero_le _, rfl, rfl, by simp, rfl, Below.refl _ _⟩
  case round =>
    obtain ⟨k, a, hk, rfl, rfl, ha, hwd, hW⟩ := hrel
    have hsa := str_size a
    by_cases hlt : k < n
    · obtain ⟨ab, ao, hkl, rfl, hab, hcw⟩ := Reads.at_map (f := fun r : Nat => Value.int .i64 (r : Int)) HR.out hlt
      have hcx := (hW.cell (p := ⟨ab, ao + k, none⟩) hab).trans hcw
      rw [List.drop_eq_getElem_cons hkl, wordGo_cons] at hwd
      have c1 := lower_ref (l[k] : Int) wr
      have HW := Lib.hid hW
      have Hwd := Lib.hid hwd
      have hel := enc_len (lower (l[k] : Int))
      clear hwd hcw hW
      generalize lower (l[k] : Int) = z at *
      generalize (l[k] : Int) = r at *
      go_wp2_with fail
      refine c1.mono ?_
      rintro e w' ⟨rfl, rfl⟩
      have c2 := encode_ref _ 1 1 [z] _ (reads_int1 wr 3 z) (by omega)
      rw [encode_one] at c2
      clear c1
      go_wp2_with fail
      refine c2.mono ?_
      rintro e w3 ⟨rfl, hb3⟩
      have hbw := (HW.out.alloc HW.out.size (.cells #[.int .i64 z] 3)).trans (hb3.mono (by have := HW.out.size; simp; omega))
      have hsz := str_size (enc z)
      have happ := str_app a (enc z)
      have Hbw := Lib.hid hbw
      generalize enc z = s at *
      clear hb3 c2 hbw
      by_cases h32 : 32 < a.length + s.length
      · have h32' : (32 : Int) < (a.length : Int) + (s.length : Int) := by omega
        have Fin : Hid (word l = a) := Lib.hid (by rw [Hwd.out, if_pos h32])
        clear h32 happ
        go_wp2
        go_ret
        exact ⟨by rw [Fin.out]; rfl, Hbw.out⟩
      · have h32' : (a.length : Int) + (s.length : Int) ≤ 32 := by omega
        have Fin : Hid (word l = wordGo (a ++ s) (l.drop (k + 1))) := Lib.hid (by rw [Hwd.out, if_neg h32])
        clear h32
        go_wp2
        go_roundw
        case rel => exact ⟨k + 1, a ++ s, by omega, by go_num, by first | rfl | rw [happ], by rw [List.length_append]; omega, Fin.out, Hbw.out⟩
        case measure => simp [intOf]; omega
    · have hd : l.drop k = [] := List.drop_eq_nil_of_le (by rw [Hl.out]; omega)
      rw [hd] at hwd
      have Fin : Hid (word l = a) := Lib.hid hwd
      have Hb := Lib.hid hW
      clear hwd hd hW
      go_wp2
      go_ret
      exact ⟨by rw [Fin.out]; rfl, Hb.out⟩

/-- How far the document's words have been told. -/
structure FarR (l : List Nat) (k : Nat) (ws : List (List UInt8)) : Prop where
  le : k ≤ l.length
  eq : (runs [] l).map word = ws ++ (runs [] (l.drop k)).map word
theorem FarR.gap {l : List Nat} {k : Nat} {ws : List (List UInt8)} (h : FarR l k ws) (hk : k < l.length) (hw : isWord (l[k] : Int) = false) : FarR l (k + 1) ws :=
  ⟨hk, by rw [h.eq, List.drop_eq_getElem_cons hk, runs_cons, hw, if_neg (by decide)]; rfl⟩
theorem FarR.run {l : List Nat} {k m : Nat} {ws : List (List UInt8)} (h : FarR l k ws) (hm : k < m) (hml : m ≤ l.length) (hall : ∀ r ∈ (l.take m).drop k, isWord (r : Int) = true)
    (hend : ∀ hm : m < l.length, isWord (l[m] : Int) = false) : FarR l m (ws ++ [word ((l.take m).drop k)]) := by
  refine ⟨hml, ?_⟩
  have e : l.drop k = (l.take m).drop k ++ l.drop m := by
    conv => lhs; rw [← List.take_append_drop m l]
    rw [List.drop_append_of_le_length (by rw [List.length_take]; omega)]
  have hne : (l.take m).drop k ≠ [] := by
    intro e
    have := congrArg List.length e
    rw [List.length_drop, List.length_take, List.length_nil] at this
    omega
  rw [h.eq, e, runs_all _ [] _ hall, List.nil_append]
  generalize (l.take m).drop k = c at *
  rcases Nat.lt_or_ge m l.length with hlt | hge
  · rw [List.drop_eq_getElem_cons hlt, runs_cons, runs_cons, hend hlt, if_neg (by decide), if_neg (by decide)]
    simp [last, hne]
  · rw [List.drop_eq_nil_of_le hge, runs_nil, runs_nil]
    simp [last, hne]
theorem FarR.done {l : List Nat} {ws : List (List UInt8)} (h : FarR l l.length ws) : (runs [] l).map word = ws := by
  rw [h.eq, List.drop_length, runs_nil]
  simp [last]

set_option maxHeartbeats 1600000 in
theorem tokens_refB (s : ByteArray) (w : World) (hs : s.size ≤ 1048576) : Calls Try.prog 39 #[.string s] w (TokPost w (words s.data.toList)) := by
  obtain ⟨i0, hi0, hz0, hz1, hz2⟩ := info_parts tok_info
  have c0 := runes_ref s w (by omega)
  have hrl := runes_len s.data.toList
  rw [bsize] at hrl
  have Fin : Hid (words s.data.toList = (runs [] (runes s.data.toList)).map word) := rfl
  generalize words s.data.toList = wds at *
  generalize runes s.data.toList = l at *
  go_enter Try.func39, Try.ntmps39
  go_wp2_with fail
  refine c0.mono ?_
  rintro e w1 ⟨v, rfl, hown, hb1⟩
  obtain ⟨A, c, rfl, hR⟩ := own_shape hown
  have hlc : l.length ≤ c := by
    rcases hown.2 with ⟨hv, _⟩ | ⟨g', cap', cur, hv, _, _, hnc, _⟩
    · injection hv with _ hv _; omega
    · injection hv with _ _ hv; omega
  have S0 : Toks w1 w1 (.slice none 0 0) [] := Toks.start w1 w1 (Below.refl _ _)
  have F0 : FarR l 0 [] := ⟨Nat.zero_le _, rfl⟩
  have HR := Lib.hid hR
  have HS0 := Lib.hid S0
  have HF0 := Lib.hid F0
  have Hb1 := Lib.hid hb1
  clear hown hR S0 F0 hb1 c0
  go_wp2_with fail
  go_loopw [3, 5] (fun v i wr => ∃ (k : Nat) (ws : List (List UInt8)), i = .int .i64 k ∧ FarR l k ws ∧ ws.length ≤ k ∧ Toks w1 wr v ws) (fun _ i _ => l.length - (intOf i).toNat)
  case atStart => exact ⟨0, [], rfl, HF0.out, by simp, HS0.out⟩
  case round =>
    obtain ⟨k, ws, rfl, hF, hwl, hT⟩ := hrel
    have hkl := hF.le
    by_cases hlt : k < l.length
    · obtain ⟨wo, rfl⟩ : ∃ wo : World, wo = wr := ⟨_, rfl⟩
      obtain ⟨ab, ao, _, rfl, hab, _⟩ := Reads.at_map (f := fun r : Nat => Value.int .i64 (r : Int)) HR.out hlt
      have HT := Lib.hid hT
      have HF := Lib.hid hF
      clear hT hF
      go_wp2
      go_loop [6] (fun e => ∃ m : Nat, k ≤ m ∧ m ≤ l.length ∧ e = .int .i64 m ∧ ∀ r ∈ (l.take m).drop k, isWord (r : Int) = true) (fun e => l.length - (intOf e).toNat)
      case atStart => exact ⟨k, Nat.le_refl _, hkl, rfl, by
        rw [List.drop_eq_nil_of_le (by rw [List.length_take]; omega)]; intro r hr; cases hr⟩
      case round =>
        obtain ⟨m, hkm, hml, rfl, hall⟩ := hrel
        have Hall := Lib.hid hall
        clear hall
        by_cases hend : m < l.length
        · obtain ⟨ab', ao', _, e, _, hcw⟩ := Reads.at_map (f := fun r : Nat => Value.int .i64 (r : Int)) HR.out hend
          injection e with e
          injection e with e1 e2
          subst e1 e2
          have hcx := (HT.out.bel.cell (p := ⟨ab, ao + m, none⟩) hab).trans hcw
          have c1 := word_ref (l[m] : Int) wo
          clear hcw
          by_cases hw : isWord (l[m] : Int) = true
          · have Hall2 : Hid (∀ r ∈ (l.take (m + 1)).drop k, isWord (r : Int) = true) := Lib.hid (by
              have e : (l.take (m + 1)).drop k = (l.take m).drop k ++ [l[m]] := by
                rw [List.take_succ_eq_append_getElem hend, List.drop_append_of_le_length (by rw [List.length_take]; omega)]
              rw [e]
              intro r hr
              rcases List.mem_append.1 hr with hr | hr
              · exact Hall.out r hr
              · simp only [List.mem_singleton] at hr
                subst hr; exact hw)
            rw [hw] at c1
            clear hw
            generalize (l[m] : Int) = r at *
            go_wp2_with (go_at_call 64; refine c1.mono ?_; rintro e w' ⟨rfl, rfl⟩)
            go_round
            case rel => exact ⟨m + 1, by omega, by omega, by go_num, Hall2.out⟩
            case measure => simp [intOf]; omega
          · have hw' : isWord (l[m] : Int) = false := by simpa using hw
            have Hstop : Hid (∀ hm : m < l.length, isWord (l[m] : Int) = false) := Lib.hid (fun _ => hw')
            rw [hw'] at c1
            clear hw hw'
            generalize (l[m] : Int) = r at *
            obtain ⟨A3, d3, rfl, _⟩ := own_shape HT.out.own
            by_cases hmk : m = k
            · subst hmk
              have HF2 := Lib.hid (HF.out.gap hlt (Hstop.out hlt))
              go_wp2_with (go_at_call 64; refine c1.mono ?_; rintro e w' ⟨rfl, rfl⟩)
              go_roundw
              case rel => exact ⟨m + 1, ws, by go_num, HF2.out, by omega, HT.out⟩
              case measure => simp [intOf]; omega
            · have hkm' : k < m := by omega
              have hmk' : ((m : Int) == (k : Int)) = false := beq_eq_false_iff_ne.2 (by omega)
              have HF2 := Lib.hid (HF.out.run (m := m) (by omega) hml Hall.out Hstop.out)
              have hRs := (HR.out.below HT.out.bel).sub (m := k) (k := m) (by omega) (by omega)
              have hmp : ((rv l).take m).drop k = rv ((l.take m).drop k) := by unfold rv; rw [← List.map_take, ← List.map_drop]
              rw [hmp] at hRs
              have c2 := cut_ref (some ⟨ab, ao + k, none⟩) (m - k) (c - k) _ wo (hRs.more HT.out.bel.size) (by omega)
              clear hRs hmp hmk
              generalize word ((l.take m).drop k) = wd at *
              go_wp2_with fail
              refine c1.mono ?_
              rintro e w' ⟨rfl, rfl⟩
              go_wp2_with fail
              refine c2.mono ?_
              rintro e w4 ⟨rfl, hb4⟩
              have hT4 := HT.out.below hb4
              have hown4 := hT4.own
              have hbs4 := hT4.bel.size
              have HT4 := Lib.hid hT4
              clear c2 hb4 hT4
              go_wp2_with (at_builtin; refine wpList_append_own _ rfl _ _ 65 rfl w1.heap.size 74 i0 _ 2 24 Try.underlying65 hi0 hz0 hz1 hz2 rfl (by decide) _ _ _ rfl (hown4.alloc _) ⟨w4.heap.size, 0, none⟩ 1 1 [.string (str wd), .int .i64 (ws.length : Int)] rfl rfl ?d1 ?d2 ?d3 ?d4 ?d5 ?_)
              case d1 => exact World.news_of_block (cs := #[.string (str wd), .int .i64 (ws.length : Int)]) (t := 74) (fr := (0, 0)) (heap_alloc_new w4 _)
              case d2 => intro u hu; simp at hu; rcases hu with rfl | rfl <;> rfl
              case d3 => unfold maxLen; omega
              case d4 => omega
              case d5 => simp; omega
              intro v' w5 hown5 hg5 _
              have HT5 := Lib.hid ((HT4.out.below ((Below.refl _ _).alloc (Nat.le_refl _) _)).put hown5 hg5)
              clear hown5 hg5 hown4
              go_wp2
              go_roundw
              case rel => exact ⟨m, _, rfl, HF2.out, by rw [List.length_append]; simp; omega, HT5.out⟩
              case measure => simp [intOf]; omega
        · have Hstop : Hid (∀ hm : m < l.length, isWord (l[m] : Int) = false) := Lib.hid (fun hm => absurd hm hend)
          obtain rfl : m = l.length := by omega
          obtain ⟨A3, d3, rfl, _⟩ := own_shape HT.out.own
          by_cases hmk : l.length = k
          · exfalso; omega
          · have hmk' : ((l.length : Int) == (k : Int)) = false := beq_eq_false_iff_ne.2 (by omega)
            have HF2 := Lib.hid (HF.out.run (m := l.length) (by omega) hml Hall.out Hstop.out)
            have hRs := (HR.out.below HT.out.bel).sub (m := k) (k := l.length) (by omega) (by omega)
            have hmp : ((rv l).take l.length).drop k = rv ((l.take l.length).drop k) := by unfold rv; rw [← List.map_take, ← List.map_drop]
            rw [hmp] at hRs
            have c2 := cut_ref (some ⟨ab, ao + k, none⟩) (l.length - k) (c - k) _ wo (hRs.more HT.out.bel.size) (by omega)
            clear hRs hmp hmk
            generalize word ((l.take l.length).drop k) = wd at *
            go_wp2_with fail
            refine c2.mono ?_
            rintro e w4 ⟨rfl, hb4⟩
            have hT4 := HT.out.below hb4
            have hown4 := hT4.own
            have hbs4 := hT4.bel.size
            have HT4 := Lib.hid hT4
            clear c2 hb4 hT4
            go_wp2_with (at_builtin; refine wpList_append_own _ rfl _ _ 65 rfl w1.heap.size 74 i0 _ 2 24 Try.underlying65 hi0 hz0 hz1 hz2 rfl (by decide) _ _ _ rfl (hown4.alloc _) ⟨w4.heap.size, 0, none⟩ 1 1 [.string (str wd), .int .i64 (ws.length : Int)] rfl rfl ?d1 ?d2 ?d3 ?d4 ?d5 ?_)
            case d1 => exact World.news_of_block (cs := #[.string (str wd), .int .i64 (ws.length : Int)]) (t := 74) (fr := (0, 0)) (heap_alloc_new w4 _)
            case d2 => intro u hu; simp at hu; rcases hu with rfl | rfl <;> rfl
            case d3 => unfold maxLen; omega
            case d4 => omega
            case d5 => simp; omega
            intro v' w5 hown5 hg5 _
            have HT5 := Lib.hid ((HT4.out.below ((Below.refl _ _).alloc (Nat.le_refl _) _)).put hown5 hg5)
            clear hown5 hg5 hown4
            go_wp2
            go_roundw
            case rel => exact ⟨l.length, _, rfl, HF2.out, by rw [List.length_append]; simp; omega, HT5.out⟩
            case measure => simp [intOf]; omega
    · obtain rfl : k = l.length := by omega
      have Fin2 := Lib.hid hF.done
      have HT := Lib.hid hT
      clear hF hT
      go_wp2
      go_ret
      have e : wds = ws := by rw [Fin.out, Fin2.out]
      have hz := Hb1.out.size
      exact ⟨_, rfl, by rw [e]; exact HT.out.own.mono hz, Hb1.out.trans (HT.out.bel.mono hz)⟩
theorem tokens_ref (s : ByteArray) (w : World) (hs : s.size ≤ 1048576) : Calls Try.prog 39 #[.string s] w (TokPost w (words s.data.toList)) :=
  tokens_refB s w (by omega)
end Go.Proofs.Ytjfconddkfihcaa.Tk
end
