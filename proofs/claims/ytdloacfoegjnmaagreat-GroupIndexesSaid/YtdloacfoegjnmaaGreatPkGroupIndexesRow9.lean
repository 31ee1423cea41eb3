/- The reference's Decode. -/
import Derived.Test.YtdloacfoegjnmaaGreatPkGroupIndexesRow8
import Derived.Test.YtdloacfoegjnmaaGreatPkGroupIndexesRow4
section
namespace Go.Proofs.YtdloacfoegjnmaaGreat.Ut
open Go.RowKit
set_option maxRecDepth 20000

set_option maxRecDepth 20000 in
set_option maxHeartbeats 1600000 in
theorem decr_2 (s : ByteArray) (k m : Nat) (w : World) (hk : k < s.size) (hs : s.size ≤ 140737488351232) (hm : (s[k]).toNat = m) (h6 : m / 32 = 6) :
    Calls Tryz.prog 130 #[.string s, .int .i64 (k : Int)] w fun e w' => e = .returned (.tuple #[.int .i64 ((form (m % 32) (s.data.toList.drop (k + 1)) 2 128 2047).1 : Nat), .int .i64 ((form (m % 32) (s.data.toList.drop (k + 1)) 2 128 2047).2 : Nat)]) ∧ w = w' := by
  have h0 : ¬ (k : Int) < 0 := by omega
  have h1 : ¬ (s.size : Int) ≤ (k : Int) := by omega
  have h2 : ¬ (m : Int) < 128 := by omega
  have h3 : (m : Int) / 32 = 6 := by omega
  have h4 : ¬ (m : Int) / 16 = 14 := by omega
  have h5 : ¬ (m : Int) / 8 = 30 := by omega
  have c := row_any s k (m % 32) 2 w hk hs (by omega) (by omega) (by omega)
  have hlt := row_lt (m % 32) 32 (s.data.toList.drop (k + 1)) 2 (by omega) (by omega) (by omega) (by omega)
  have hfo := form_row (m % 32) (s.data.toList.drop (k + 1)) 2 128 2047 _ _ rfl rfl
  rw [show ((m % 32 : Nat) : Int) = (m : Int) % 32 from by omega] at c
  generalize form (m % 32) (s.data.toList.drop (k + 1)) 2 128 2047 = F at *
  generalize rowOf (m % 32) (s.data.toList.drop (k + 1)) 2 = a at *
  generalize rowOk (s.data.toList.drop (k + 1)) 2 = ok at *
  clear h6
  by_cases hcase : ok = true ∧ 128 ≤ a
  · obtain ⟨rfl, h128⟩ := hcase
    have hF := hfo.1 rfl h128 (by omega) (by omega)
    subst hF
    have h129 : ¬ (a : Int) < 128 := by omega
    clear hfo
    go_enter Tryz.func130, Tryz.ntmps130
    go_wp2_with fail
    refine c.mono ?_
    rintro e w1 ⟨rfl, rfl⟩
    go_wp2
    go_ret2
    exact ⟨rfl, rfl⟩
  · have hF := hfo.2 (by rcases Bool.eq_false_or_eq_true ok with h | h; (· exact Or.inr (Or.inl (by have : ¬ 128 ≤ a := fun h' => hcase ⟨h, h'⟩; omega))); exact Or.inl h)
    subst hF
    clear hfo
    rcases Bool.eq_false_or_eq_true ok with rfl | rfl
    · have h129 : (a : Int) < 128 := by have : ¬ 128 ≤ a := fun h' => hcase ⟨rfl, h'⟩; omega
      clear hcase
      go_enter Tryz.func130, Tryz.ntmps130
      go_wp2_with fail
      refine c.mono ?_
      rintro e w1 ⟨rfl, rfl⟩
      go_wp2
      go_ret2
      exact ⟨rfl, rfl⟩
    · clear hcase
      go_enter Tryz.func130, Tryz.ntmps130
      go_wp2_with fail
      refine c.mono ?_
      rintro e w1 ⟨rfl, rfl⟩
      go_wp2
      go_ret2
      exact ⟨rfl, rfl⟩

set_option maxRecDepth 20000 in
set_option maxHeartbeats 1600000 in
theorem decr_3 (s : ByteArray) (k m : Nat) (w : World) (hk : k < s.size) (hs : s.size ≤ 140737488351232) (hm : (s[k]).toNat = m) (h6 : m / 16 = 14) :
    Calls Tryz.prog 130 #[.string s, .int .i64 (k : Int)] w fun e w' => e = .returned (.tuple #[.int .i64 ((form (m % 16) (s.data.toList.drop (k + 1)) 3 2048 65535).1 : Nat), .int .i64 ((form (m % 16) (s.data.toList.drop (k + 1)) 3 2048 65535).2 : Nat)]) ∧ w = w' := by
  have h0 : ¬ (k : Int) < 0 := by omega
  have h1 : ¬ (s.size : Int) ≤ (k : Int) := by omega
  have h2 : ¬ (m : Int) < 128 := by omega
  have h3 : ¬ (m : Int) / 32 = 6 := by omega
  have h4 : (m : Int) / 16 = 14 := by omega
  have h5 : ¬ (m : Int) / 8 = 30 := by omega
  have c := row_any s k (m % 16) 3 w hk hs (by omega) (by omega) (by omega)
  have hlt := row_lt (m % 16) 16 (s.data.toList.drop (k + 1)) 3 (by omega) (by omega) (by omega) (by omega)
  have hfo := form_row (m % 16) (s.data.toList.drop (k + 1)) 3 2048 65535 _ _ rfl rfl
  rw [show ((m % 16 : Nat) : Int) = (m : Int) % 16 from by omega] at c
  generalize form (m % 16) (s.data.toList.drop (k + 1)) 3 2048 65535 = F at *
  generalize rowOf (m % 16) (s.data.toList.drop (k + 1)) 3 = a at *
  generalize rowOk (s.data.toList.drop (k + 1)) 3 = ok at *
  clear h6
  have Hlt : Hid (a ≤ 65535) := Lib.hid (by omega)
  clear hlt
  rcases Bool.eq_false_or_eq_true ok with rfl | rfl
  · by_cases g1 : 2048 ≤ a
    · have g1' : ¬ (a : Int) < 2048 := by omega
      by_cases g2 : 55296 ≤ a
      · by_cases g3 : a ≤ 57343
        · have hF := hfo.2 (Or.inr (Or.inr (Or.inr ⟨g2, g3⟩)))
          subst hF
          have g2' : ¬ (a : Int) < 55296 := by omega
          have g3' : ¬ (57343 : Int) < a := by omega
          clear hfo g1 g2 g3
          try dsimp only
          generalize (a : Int) = z at *
          go_enter Tryz.func130, Tryz.ntmps130
          go_wp2_with fail
          refine c.mono ?_
          rintro e w1 ⟨rfl, rfl⟩
          go_wp2
          go_ret2
          exact ⟨rfl, rfl⟩
        · have hF := hfo.1 rfl g1 Hlt.out (by omega)
          subst hF
          have g2' : ¬ (a : Int) < 55296 := by omega
          have g3' : (57343 : Int) < a := by omega
          clear hfo g1 g2 g3
          try dsimp only
          generalize (a : Int) = z at *
          go_enter Tryz.func130, Tryz.ntmps130
          go_wp2_with fail
          refine c.mono ?_
          rintro e w1 ⟨rfl, rfl⟩
          go_wp2
          go_ret2
          exact ⟨rfl, rfl⟩
      · have hF := hfo.1 rfl g1 Hlt.out (by omega)
        subst hF
        have g2' : (a : Int) < 55296 := by omega
        clear hfo g1 g2
        try dsimp only
        generalize (a : Int) = z at *
        go_enter Tryz.func130, Tryz.ntmps130
        go_wp2_with fail
        refine c.mono ?_
        rintro e w1 ⟨rfl, rfl⟩
        go_wp2
        go_ret2
        exact ⟨rfl, rfl⟩
    · have hF := hfo.2 (Or.inr (Or.inl (by omega)))
      subst hF
      have g1' : (a : Int) < 2048 := by omega
      clear hfo g1
      try dsimp only
      generalize (a : Int) = z at *
      go_enter Tryz.func130, Tryz.ntmps130
      go_wp2_with fail
      refine c.mono ?_
      rintro e w1 ⟨rfl, rfl⟩
      go_wp2
      go_ret2
      exact ⟨rfl, rfl⟩
  · have hF := hfo.2 (Or.inl rfl)
    subst hF
    clear hfo
    try dsimp only
    generalize (a : Int) = z at *
    go_enter Tryz.func130, Tryz.ntmps130
    go_wp2_with fail
    refine c.mono ?_
    rintro e w1 ⟨rfl, rfl⟩
    go_wp2
    go_ret2
    exact ⟨rfl, rfl⟩

set_option maxRecDepth 20000 in
set_option maxHeartbeats 1600000 in
theorem decr_4 (s : ByteArray) (k m : Nat) (w : World) (hk : k < s.size) (hs : s.size ≤ 140737488351232) (hm : (s[k]).toNat = m) (h6 : m / 8 = 30) :
    Calls Tryz.prog 130 #[.string s, .int .i64 (k : Int)] w fun e w' => e = .returned (.tuple #[.int .i64 ((form (m % 8) (s.data.toList.drop (k + 1)) 4 65536 1114111).1 : Nat), .int .i64 ((form (m % 8) (s.data.toList.drop (k + 1)) 4 65536 1114111).2 : Nat)]) ∧ w = w' := by
  have h0 : ¬ (k : Int) < 0 := by omega
  have h1 : ¬ (s.size : Int) ≤ (k : Int) := by omega
  have h2 : ¬ (m : Int) < 128 := by omega
  have h3 : ¬ (m : Int) / 32 = 6 := by omega
  have h4 : ¬ (m : Int) / 16 = 14 := by omega
  have h5 : (m : Int) / 8 = 30 := by omega
  have c := row_any s k (m % 8) 4 w hk hs (by omega) (by omega) (by omega)
  have hfo := form_row (m % 8) (s.data.toList.drop (k + 1)) 4 65536 1114111 _ _ rfl rfl
  rw [show ((m % 8 : Nat) : Int) = (m : Int) % 8 from by omega] at c
  generalize form (m % 8) (s.data.toList.drop (k + 1)) 4 65536 1114111 = F at *
  generalize rowOf (m % 8) (s.data.toList.drop (k + 1)) 4 = a at *
  generalize rowOk (s.data.toList.drop (k + 1)) 4 = ok at *
  clear h6
  rcases Bool.eq_false_or_eq_true ok with rfl | rfl
  · by_cases g1 : 65536 ≤ a
    · have g1' : ¬ (a : Int) < 65536 := by omega
      by_cases g2 : a ≤ 1114111
      · have hF := hfo.1 rfl g1 g2 (by omega)
        subst hF
        have g2' : ¬ (1114111 : Int) < a := by omega
        clear hfo g1 g2
        try dsimp only
        generalize (a : Int) = z at *
        go_enter Tryz.func130, Tryz.ntmps130
        go_wp2_with fail
        refine c.mono ?_
        rintro e w1 ⟨rfl, rfl⟩
        go_wp2
        go_ret2
        exact ⟨rfl, rfl⟩
      · have hF := hfo.2 (Or.inr (Or.inr (Or.inl (by omega))))
        subst hF
        have g2' : (1114111 : Int) < a := by omega
        clear hfo g1 g2
        try dsimp only
        generalize (a : Int) = z at *
        go_enter Tryz.func130, Tryz.ntmps130
        go_wp2_with fail
        refine c.mono ?_
        rintro e w1 ⟨rfl, rfl⟩
        go_wp2
        go_ret2
        exact ⟨rfl, rfl⟩
    · have hF := hfo.2 (Or.inr (Or.inl (by omega)))
      subst hF
      have g1' : (a : Int) < 65536 := by omega
      clear hfo g1
      try dsimp only
      generalize (a : Int) = z at *
      go_enter Tryz.func130, Tryz.ntmps130
      go_wp2_with fail
      refine c.mono ?_
      rintro e w1 ⟨rfl, rfl⟩
      go_wp2
      go_ret2
      exact ⟨rfl, rfl⟩
  · have hF := hfo.2 (Or.inl rfl)
    subst hF
    clear hfo
    try dsimp only
    generalize (a : Int) = z at *
    go_enter Tryz.func130, Tryz.ntmps130
    go_wp2_with fail
    refine c.mono ?_
    rintro e w1 ⟨rfl, rfl⟩
    go_wp2
    go_ret2
    exact ⟨rfl, rfl⟩

theorem decr_out (s : ByteArray) (a : Int) (w : World) (h : a < 0 ∨ (s.size : Int) ≤ a) :
    Calls Tryz.prog 130 #[.string s, .int .i64 a] w fun e w' => e = .returned (.tuple #[.int .i64 0, .int .i64 0]) ∧ w = w' := by
  by_cases h0 : a < 0
  · clear h
    go_enter Tryz.func130, Tryz.ntmps130
    go_wp2
    go_ret2
    exact ⟨rfl, rfl⟩
  · have h1 : (s.size : Int) ≤ a := by omega
    clear h
    go_enter Tryz.func130, Tryz.ntmps130
    go_wp2
    go_ret2
    exact ⟨rfl, rfl⟩
theorem decr_low (s : ByteArray) (k m : Nat) (w : World) (hk : k < s.size) (hm : (s[k]).toNat = m) (h : m < 128) :
    Calls Tryz.prog 130 #[.string s, .int .i64 (k : Int)] w fun e w' => e = .returned (.tuple #[.int .i64 (m : Int), .int .i64 1]) ∧ w = w' := by
  have h0 : ¬ (k : Int) < 0 := by omega
  have h1 : ¬ (s.size : Int) ≤ (k : Int) := by omega
  have h2 : (m : Int) < 128 := by omega
  go_enter Tryz.func130, Tryz.ntmps130
  go_wp2
  go_ret2
  exact ⟨rfl, rfl⟩
theorem decr_none (s : ByteArray) (k m : Nat) (w : World) (hk : k < s.size) (hm : (s[k]).toNat = m) (h128 : 128 ≤ m) (h256 : m < 256) (h6 : ¬ m / 32 = 6) (h14 : ¬ m / 16 = 14) (h30 : ¬ m / 8 = 30) :
    Calls Tryz.prog 130 #[.string s, .int .i64 (k : Int)] w fun e w' => e = .returned (.tuple #[.int .i64 65533, .int .i64 1]) ∧ w = w' := by
  have h0 : ¬ (k : Int) < 0 := by omega
  have h1 : ¬ (s.size : Int) ≤ (k : Int) := by omega
  have h2 : ¬ (m : Int) < 128 := by omega
  have h3 : ¬ (m : Int) / 32 = 6 := by omega
  have h4 : ¬ (m : Int) / 16 = 14 := by omega
  have h5 : ¬ (m : Int) / 8 = 30 := by omega
  go_enter Tryz.func130, Tryz.ntmps130
  go_wp2
  go_ret2
  exact ⟨rfl, rfl⟩
/-- The reference's Decode at any place of any text. -/
theorem decr_any (s : ByteArray) (a : Int) (w : World) (hs : s.size ≤ 140737488351232) :
    Calls Tryz.prog 130 #[.string s, .int .i64 a] w fun e w' => e = .returned (.tuple #[.int .i64 ((decAt s a).1 : Nat), .int .i64 ((decAt s a).2 : Nat)]) ∧ w = w' := by
  by_cases h : a < 0 ∨ (s.size : Int) ≤ a
  · have e : decAt s a = (0, 0) := by
      unfold decAt
      by_cases h0 : a < 0
      · rw [if_pos h0]
      · rw [if_neg h0, drop_out s a.toNat (by omega)]; rfl
    rw [e]
    exact decr_out s a w h
  · obtain ⟨k, rfl⟩ := Int.eq_ofNat_of_zero_le (show 0 ≤ a by omega)
    have hk : k < s.size := by omega
    have e : decAt s (k : Int) = dec (s[k] :: s.data.toList.drop (k + 1)) := by
      unfold decAt
      rw [if_neg (by omega), Int.toNat_natCast, drop_cons s k hk]
    rw [e, dec_cons]
    by_cases h1 : (s[k]).toNat < 128
    · rw [if_pos h1]; exact decr_low s k _ w hk rfl h1
    · rw [if_neg h1]
      by_cases h2 : (s[k]).toNat / 32 = 6
      · rw [if_pos h2]; exact decr_2 s k _ w hk hs rfl h2
      · rw [if_neg h2]
        by_cases h3 : (s[k]).toNat / 16 = 14
        · rw [if_pos h3]; exact decr_3 s k _ w hk hs rfl h3
        · rw [if_neg h3]
          by_cases h4 : (s[k]).toNat / 8 = 30
          · rw [if_pos h4]; exact decr_4 s k _ w hk hs rfl h4
          · rw [if_neg h4]; exact decr_none s k _ w hk rfl (by omega) (s[k]).toNat_lt h2 h3 h4
end Go.Proofs.YtdloacfoegjnmaaGreat.Ut
end

section
namespace Go.Proofs.YtdloacfoegjnmaaGreat.Ut
open Go.RowKit
set_option linter.unusedSimpArgs false in
set_option maxHeartbeats 1600000 in
theorem word_ref (r : Int) (w : World) : Calls Tryz.prog 106 #[.int .i64 r] w fun e w' => e = .returned (.bool (isWord r)) ∧ w = w' := by
  go_enter Tryz.func106, Tryz.ntmps106
  go_wp2
  all_goals
    go_ret
    refine ⟨congrArg (fun x => Ending.returned (Value.bool x)) ?_, rfl⟩
    unfold isWord
    rw [Bool.eq_iff_iff]
    try simp only [bne_iff_ne, ne_eq, bne_eq_false_iff_eq] at *
    simp only [Bool.or_eq_true, Bool.and_eq_true, decide_eq_true_eq, bne_iff_ne, ne_eq, Bool.false_eq_true, true_iff, false_iff, reduceCtorEq]
    first | omega | decide
end Go.Proofs.YtdloacfoegjnmaaGreat.Ut
end

section
/- The reference's Runes, put, Encode, Fold, Valid, SameInts. -/
namespace Go.Proofs.YtdloacfoegjnmaaGreat.Ut
open Go.RowKit
set_option maxRecDepth 20000

set_option maxHeartbeats 800000 in
theorem runes_ref (s : ByteArray) (w : World) (hs : s.size ≤ 4398046511104) :
    Calls Tryz.prog 105 #[.string s] w fun e w' => ∃ v, e = .returned v ∧ w'.ownsRow w.heap.size 3 1 v (runes s.data.toList).length (rv (runes s.data.toList)) ∧ Below w.heap.size w w' := by
  obtain ⟨i0, hi0, hz0, hz1, hz2⟩ := info_parts int_info
  go_enter Tryz.func105, Tryz.ntmps105
  go_wp2
  go_loopw [3, 4] (fun v i wr => ∃ (k : Nat) (l : List Nat), k ≤ s.size ∧ i = .int .i64 k ∧ l.length ≤ k ∧ runes s.data.toList = l ++ runes (s.data.toList.drop k) ∧ wr.ownsRow w.heap.size 3 1 v l.length (rv l) ∧ Below w.heap.size w wr)
    (fun _ i _ => s.size - (intOf i).toNat)
  case atStart => exact ⟨0, [], Nat.zero_le _, rfl, by simp, rfl, World.ownsRow_nil _ _ _ _, Below.refl _ _⟩
  case round =>
    obtain ⟨k, l, hk, rfl, hlk, hru, hown, hb⟩ := hrel
    by_cases hlt : k < s.size
    · have hne : s.data.toList.drop k ≠ [] := by rw [drop_cons s k hlt]; simp
      have hsz := dec_size _ hne
      rw [List.length_drop, bsize] at hsz
      have hrc := runes_cons _ hne
      rw [hrc, List.drop_drop] at hru
      have c := decr_any s (k : Int) wr (by omega)
      rw [decAt_nat] at c
      have Hru := Lib.hid hru
      clear hrc hru hne
      generalize dec (s.data.toList.drop k) = d at *
      have hd1 := hsz.1
      have hd2 := hsz.2.1
      have hd4 := hsz.2.2
      clear hsz
      go_wp2_with fail
      refine c.mono ?_
      rintro e wr ⟨rfl, rfl⟩
      have hbw := hb
      have hown2 := hown
      have hsz2 := hbw.size
      go_wp2_with (at_builtin; refine wpList_append_own _ rfl _ _ 68 rfl w.heap.size 3 i0 (.int .i64 0) 1 8 Tryz.underlying68 hi0 hz0 hz1 hz2 rfl (by decide) _ _ _ rfl (hown2.alloc _) ⟨wr.heap.size, 0, none⟩ 1 1 [.int .i64 (d.1 : Int)] rfl rfl ?c1 ?c2 ?c3 ?c4 ?c5 ?_)
      case c1 => exact World.news_of_block (cs := #[.int .i64 (d.1 : Int)]) (t := 3) (fr := (0, 0)) (heap_alloc_new wr _)
      case c2 => intro u hu; simp at hu; subst hu; rfl
      case c3 => unfold maxLen; omega
      case c4 => omega
      case c5 => simp; omega
      intro v' w3 hown3 hg3 _
      have hb3 : Below w.heap.size w w3 := (hbw.alloc hsz2 _).grown hg3 (by simp; omega) (fun j hj => (hown2.lt _ hj).1)
      have Hb3 := Lib.hid hb3
      have Hown3 := Lib.hid hown3
      clear hb3 hown3 hg3 hown2 hbw hown hb
      go_wp2
      go_roundw
      case rel => exact ⟨k + d.2, l ++ [d.1], by omega, by go_num, by rw [List.length_append]; simp; omega, by rw [Hru.out]; simp, by
          rw [List.length_append]
          have := Hown3.out
          simpa [rv] using this, Hb3.out⟩
      case measure => simp [intOf]; omega
    · have hd0 : s.data.toList.drop k = [] := drop_out s k (by omega)
      rw [hd0, runes_nil, List.append_nil] at hru
      have Hru := Lib.hid hru
      clear hru hd0
      go_wp2
      go_ret
      exact ⟨_, rfl, by rw [Hru.out]; exact hown, hb⟩
end Go.Proofs.YtdloacfoegjnmaaGreat.Ut
end

section
/- The reference's put. -/
namespace Go.Proofs.YtdloacfoegjnmaaGreat.Ut
open Go.RowKit
set_option maxRecDepth 20000


set_option maxRecDepth 100000 in
set_option maxHeartbeats 1600000 in
theorem rput_1 (base n : Nat) (v : Value) (xs : List Value) (z : Int) (h0 : 0 ≤ z) (h1 : z < 128) (w : World) (hown : w.ownsRow base 5 1 v n xs) (hbase : base ≤ w.heap.size) (hn : n ≤ 140737488000000) :
    Calls Tryz.prog 142 #[v, .int .i64 z] w (PutPost w base n v xs (encN z.toNat)) := by
  obtain ⟨i0, hi0, hz0, hz1, hz2⟩ := info_parts u8_info
  have Hown := Lib.hid hown
  clear hown
  have fin : Hid ([.int .u8 z] = bv (encN z.toNat) ∧ 1 = (encN z.toNat).length) := by
    show _ ∧ _
    obtain ⟨r, rfl⟩ := Int.eq_ofNat_of_zero_le (show 0 ≤ z by omega)
    rw [Int.toNat_natCast]
    unfold encN
    rw [if_pos (by omega)]
    simp only [bv, List.map_cons, List.map_nil, List.length_cons, List.length_nil, and_true, Nat.zero_add, List.cons.injEq, Value.int.injEq, true_and]
    rw [B_int _ (by omega)]
  go_enter Tryz.func142, Tryz.ntmps142
  go_wp2_with (refine wpList_append_own (o := ⟨some 29, _, _, _, _, _⟩) _ rfl _ _ 114 rfl base 5 i0 (.int .u8 0) 1 1 Tryz.underlying114 hi0 hz0 hz1 hz2 rfl (by decide) v n xs rfl (Hown.out.alloc _) ⟨w.heap.size, 0, none⟩ 1 1 [.int .u8 z] rfl rfl (World.news_of_block (cs := [.int .u8 z].toArray) (t := 5) (fr := (0, 0)) (heap_alloc_new w _)) (by simp [Value.oneCell']) (by unfold maxLen; omega) (by omega) (by simp; omega) ?_; intro v' w3 hown3 hg3 _)
  go_ret
  exact put_end Hown.out hown3 hg3 fin.out

set_option maxRecDepth 100000 in
set_option maxHeartbeats 1600000 in
theorem rput_2 (base n : Nat) (v : Value) (xs : List Value) (z : Int) (h0 : 128 ≤ z) (h1 : z < 2048) (w : World) (hown : w.ownsRow base 5 1 v n xs) (hbase : base ≤ w.heap.size) (hn : n ≤ 140737488000000) :
    Calls Tryz.prog 142 #[v, .int .i64 z] w (PutPost w base n v xs (encN z.toNat)) := by
  obtain ⟨i0, hi0, hz0, hz1, hz2⟩ := info_parts u8_info
  have Hown := Lib.hid hown
  clear hown
  have fin : Hid ([.int .u8 (192 + z / 64), .int .u8 (128 + z % 64)] = bv (encN z.toNat) ∧ 2 = (encN z.toNat).length) := by
    show _ ∧ _
    obtain ⟨r, rfl⟩ := Int.eq_ofNat_of_zero_le (show 0 ≤ z by omega)
    rw [Int.toNat_natCast]
    unfold encN
    rw [if_neg (by omega), if_pos (by omega)]
    simp only [bv, List.map_cons, List.map_nil, List.length_cons, List.length_nil, and_true, Nat.zero_add, List.cons.injEq, Value.int.injEq, true_and]
    refine ⟨by rw [B_int _ (by omega)]; omega, by rw [B_int _ (by omega)]; omega⟩
  go_enter Tryz.func142, Tryz.ntmps142
  go_wp2_with (refine wpList_append_own (o := ⟨some 43, _, _, _, _, _⟩) _ rfl _ _ 114 rfl base 5 i0 (.int .u8 0) 1 1 Tryz.underlying114 hi0 hz0 hz1 hz2 rfl (by decide) v n xs rfl (Hown.out.alloc _) ⟨w.heap.size, 0, none⟩ 2 2 [.int .u8 (192 + z / 64), .int .u8 (128 + z % 64)] rfl rfl (World.news_of_block (cs := [.int .u8 (192 + z / 64), .int .u8 (128 + z % 64)].toArray) (t := 5) (fr := (0, 0)) (heap_alloc_new w _)) (by simp [Value.oneCell']) (by unfold maxLen; omega) (by omega) (by simp; omega) ?_; intro v' w3 hown3 hg3 _)
  go_ret
  exact put_end Hown.out hown3 hg3 fin.out

set_option maxRecDepth 100000 in
set_option maxHeartbeats 1600000 in
theorem rput_3 (base n : Nat) (v : Value) (xs : List Value) (z : Int) (h0 : 2048 ≤ z) (h1 : z ≤ 65535) (h2 : z < 55296 ∨ 57343 < z) (w : World) (hown : w.ownsRow base 5 1 v n xs) (hbase : base ≤ w.heap.size) (hn : n ≤ 140737488000000) :
    Calls Tryz.prog 142 #[v, .int .i64 z] w (PutPost w base n v xs (encN z.toNat)) := by
  obtain ⟨i0, hi0, hz0, hz1, hz2⟩ := info_parts u8_info
  have Hown := Lib.hid hown
  clear hown
  have fin : Hid ([.int .u8 (224 + z / 4096), .int .u8 (128 + z / 64 % 64), .int .u8 (128 + z % 64)] = bv (encN z.toNat) ∧ 3 = (encN z.toNat).length) := by
    show _ ∧ _
    obtain ⟨r, rfl⟩ := Int.eq_ofNat_of_zero_le (show 0 ≤ z by omega)
    rw [Int.toNat_natCast]
    unfold encN
    rw [if_neg (by omega), if_neg (by omega), if_pos (by omega)]
    simp only [bv, List.map_cons, List.map_nil, List.length_cons, List.length_nil, and_true, Nat.zero_add, List.cons.injEq, Value.int.injEq, true_and]
    refine ⟨by rw [B_int _ (by omega)]; omega, by rw [B_int _ (by omega)]; omega, by rw [B_int _ (by omega)]; omega⟩
  rcases h2 with h2 | h2
  · go_enter Tryz.func142, Tryz.ntmps142
    go_wp2_with (refine wpList_append_own (o := ⟨some 62, _, _, _, _, _⟩) _ rfl _ _ 114 rfl base 5 i0 (.int .u8 0) 1 1 Tryz.underlying114 hi0 hz0 hz1 hz2 rfl (by decide) v n xs rfl (Hown.out.alloc _) ⟨w.heap.size, 0, none⟩ 3 3 [.int .u8 (224 + z / 4096), .int .u8 (128 + z / 64 % 64), .int .u8 (128 + z % 64)] rfl rfl (World.news_of_block (cs := [.int .u8 (224 + z / 4096), .int .u8 (128 + z / 64 % 64), .int .u8 (128 + z % 64)].toArray) (t := 5) (fr := (0, 0)) (heap_alloc_new w _)) (by simp [Value.oneCell']) (by unfold maxLen; omega) (by omega) (by simp; omega) ?_; intro v' w3 hown3 hg3 _)
    go_ret
    exact put_end Hown.out hown3 hg3 fin.out
  · go_enter Tryz.func142, Tryz.ntmps142
    go_wp2_with (refine wpList_append_own (o := ⟨some 62, _, _, _, _, _⟩) _ rfl _ _ 114 rfl base 5 i0 (.int .u8 0) 1 1 Tryz.underlying114 hi0 hz0 hz1 hz2 rfl (by decide) v n xs rfl (Hown.out.alloc _) ⟨w.heap.size, 0, none⟩ 3 3 [.int .u8 (224 + z / 4096), .int .u8 (128 + z / 64 % 64), .int .u8 (128 + z % 64)] rfl rfl (World.news_of_block (cs := [.int .u8 (224 + z / 4096), .int .u8 (128 + z / 64 % 64), .int .u8 (128 + z % 64)].toArray) (t := 5) (fr := (0, 0)) (heap_alloc_new w _)) (by simp [Value.oneCell']) (by unfold maxLen; omega) (by omega) (by simp; omega) ?_; intro v' w3 hown3 hg3 _)
    go_ret
    exact put_end Hown.out hown3 hg3 fin.out

set_option maxRecDepth 100000 in
set_option maxHeartbeats 1600000 in
theorem rput_4 (base n : Nat) (v : Value) (xs : List Value) (z : Int) (h0 : 65535 < z) (h1 : z ≤ 1114111) (w : World) (hown : w.ownsRow base 5 1 v n xs) (hbase : base ≤ w.heap.size) (hn : n ≤ 140737488000000) :
    Calls Tryz.prog 142 #[v, .int .i64 z] w (PutPost w base n v xs (encN z.toNat)) := by
  obtain ⟨i0, hi0, hz0, hz1, hz2⟩ := info_parts u8_info
  have Hown := Lib.hid hown
  clear hown
  have fin : Hid ([.int .u8 (240 + z / 262144), .int .u8 (128 + z / 4096 % 64), .int .u8 (128 + z / 64 % 64), .int .u8 (128 + z % 64)] = bv (encN z.toNat) ∧ 4 = (encN z.toNat).length) := by
    show _ ∧ _
    obtain ⟨r, rfl⟩ := Int.eq_ofNat_of_zero_le (show 0 ≤ z by omega)
    rw [Int.toNat_natCast]
    unfold encN
    rw [if_neg (by omega), if_neg (by omega), if_neg (by omega)]
    simp only [bv, List.map_cons, List.map_nil, List.length_cons, List.length_nil, and_true, Nat.zero_add, List.cons.injEq, Value.int.injEq, true_and]
    refine ⟨by rw [B_int _ (by omega)]; omega, by rw [B_int _ (by omega)]; omega, by rw [B_int _ (by omega)]; omega, by rw [B_int _ (by omega)]; omega⟩
  go_enter Tryz.func142, Tryz.ntmps142
  go_wp2_with (refine wpList_append_own (o := ⟨some 83, _, _, _, _, _⟩) _ rfl _ _ 114 rfl base 5 i0 (.int .u8 0) 1 1 Tryz.underlying114 hi0 hz0 hz1 hz2 rfl (by decide) v n xs rfl (Hown.out.alloc _) ⟨w.heap.size, 0, none⟩ 4 4 [.int .u8 (240 + z / 262144), .int .u8 (128 + z / 4096 % 64), .int .u8 (128 + z / 64 % 64), .int .u8 (128 + z % 64)] rfl rfl (World.news_of_block (cs := [.int .u8 (240 + z / 262144), .int .u8 (128 + z / 4096 % 64), .int .u8 (128 + z / 64 % 64), .int .u8 (128 + z % 64)].toArray) (t := 5) (fr := (0, 0)) (heap_alloc_new w _)) (by simp [Value.oneCell']) (by unfold maxLen; omega) (by omega) (by simp; omega) ?_; intro v' w3 hown3 hg3 _)
  go_ret
  exact put_end Hown.out hown3 hg3 fin.out

set_option maxRecDepth 100000 in
set_option maxHeartbeats 1600000 in
theorem rput_bad (base n : Nat) (v : Value) (xs : List Value) (z : Int) (hbad : z < 0 ∨ 1114111 < z ∨ (55296 ≤ z ∧ z ≤ 57343)) (w : World) (hown : w.ownsRow base 5 1 v n xs) (hbase : base ≤ w.heap.size) (hn : n ≤ 140737488000000) :
    Calls Tryz.prog 142 #[v, .int .i64 z] w (PutPost w base n v xs (encN 65533)) := by
  have c := rput_3 base n v xs 65533 (by omega) (by omega) (by omega) w hown hbase hn
  rw [show (65533 : Int).toNat = 65533 from rfl] at c
  clear hown
  rcases hbad with h | h | ⟨h, h'⟩
  · go_enter Tryz.func142, Tryz.ntmps142
    go_wp2_with fail
    refine c.mono ?_
    rintro e w3 ⟨v', rfl, ho, hg⟩
    go_wp2
    go_ret
    exact ⟨v', rfl, ho, hg⟩
  · go_enter Tryz.func142, Tryz.ntmps142
    go_wp2_with fail
    refine c.mono ?_
    rintro e w3 ⟨v', rfl, ho, hg⟩
    go_wp2
    go_ret
    exact ⟨v', rfl, ho, hg⟩
  · go_enter Tryz.func142, Tryz.ntmps142
    go_wp2_with fail
    refine c.mono ?_
    rintro e w3 ⟨v', rfl, ho, hg⟩
    go_wp2
    go_ret
    exact ⟨v', rfl, ho, hg⟩

theorem rput_any (base n : Nat) (v : Value) (xs : List Value) (z : Int) (w : World) (hown : w.ownsRow base 5 1 v n xs) (hbase : base ≤ w.heap.size) (hn : n ≤ 140737488000000) :
    Calls Tryz.prog 142 #[v, .int .i64 z] w (PutPost w base n v xs (enc z)) := by
  unfold enc fix
  by_cases hb : z < 0 ∨ 1114111 < z ∨ (55296 ≤ z ∧ z ≤ 57343)
  · rw [if_pos hb]; exact rput_bad base n v xs z hb w hown hbase hn
  · rw [if_neg hb]
    by_cases h1 : z < 128
    · exact rput_1 base n v xs z (by omega) h1 w hown hbase hn
    · by_cases h2 : z < 2048
      · exact rput_2 base n v xs z (by omega) h2 w hown hbase hn
      · by_cases h3 : z ≤ 65535
        · exact rput_3 base n v xs z (by omega) h3 (by omega) w hown hbase hn
        · exact rput_4 base n v xs z (by omega) (by omega) w hown hbase hn
end Go.Proofs.YtdloacfoegjnmaaGreat.Ut
end

section
/- The reference's Encode. -/
namespace Go.Proofs.YtdloacfoegjnmaaGreat.Ut
open Go.RowKit
set_option maxRecDepth 20000

set_option maxHeartbeats 800000 in
theorem encode_ref (A : Option Addr) (n c : Nat) (rs : List Int) (w : World) (hR : Reads w w.heap.size 1 A n (rs.map (Value.int .i64))) (hn : n ≤ 35000000000000) :
    Calls Tryz.prog 131 #[.slice A n c] w fun e w' => e = .returned (.string (str (encode rs))) ∧ Below w.heap.size w w' := by
  have hlen : rs.length = n := by have := hR.1; simpa using this
  have HR := Lib.hid hR
  have Hl := Lib.hid hlen
  have St := Lib.hid (Putting.start w)
  clear hR hlen
  go_enter Tryz.func131, Tryz.ntmps131
  go_wp2
  go_loopw [3, 4] (fun v i wr => ∃ k : Nat, k ≤ n ∧ i = .int .i64 k ∧ Putting w wr v (rs.take k)) (fun _ i _ => n - (intOf i).toNat)
  case atStart => exact ⟨0, Nat.zero_le _, rfl, St.out⟩
  case round =>
    obtain ⟨k, hk, rfl, hp⟩ := hrel
    have hel := encode_len (rs.take k)
    have htl : (rs.take k).length ≤ n := by rw [List.length_take]; omega
    by_cases hlt : k < n
    · obtain ⟨ab, ao, hkl, rfl, hab, hcw⟩ := HR.out.at_map hlt
      have hcx := (hp.bel.cell (p := ⟨ab, ao + k, none⟩) hab).trans hcw
      have hts : rs.take (k + 1) = rs.take k ++ [rs[k]] := by rw [List.take_succ_eq_append_getElem hkl]
      have Hts := Lib.hid hts
      have c1 := rput_any w.heap.size _ u3 _ rs[k] wr hp.own hp.bel.size (by omega)
      have Hp := Lib.hid hp
      clear hts hcw hp
      generalize rs[k] = r at *
      go_wp2_with fail
      refine c1.mono ?_
      rintro e w2 ⟨v', rfl, hown2, hg2⟩
      have Hp2 := Lib.hid (Hp.out.put hown2 hg2)
      clear hown2 hg2
      go_wp2
      go_roundw
      case rel => exact ⟨k + 1, by omega, by go_num, by rw [Hts.out]; exact Hp2.out⟩
      case measure => simp [intOf]; omega
    · have hall : rs.take k = rs := List.take_of_length_le (by rw [Hl.out]; omega)
      have hcv := conv_own (P := Tryz.prog) (tb := 114) (ts := 9) hp.own Tryz.underlying114 Tryz.underlying5 Tryz.underlying9
      have Hall := Lib.hid hall
      have Hb := Lib.hid hp.bel
      clear hall hp hel htl
      go_wp2
      go_ret
      exact ⟨by rw [Hall.out]; rfl, Hb.out⟩
end Go.Proofs.YtdloacfoegjnmaaGreat.Ut
end
