/- utf.put at every rune. -/
import Derived.Test.YtjeahdnbpiahaaaGreatPkGroupCountsRow7
import Derived.Test.YtjeahdnbpiahaaaGreatPkGroupCountsRow3
section
namespace Go.Proofs.YtjeahdnbpiahaaaGreat.Ut
open Go.RowKit
set_option maxRecDepth 20000

set_option maxRecDepth 100000 in
set_option maxHeartbeats 1600000 in
theorem put_3 (base n : Nat) (v : Value) (xs : List Value) (r : Nat) (h1 : 2048 ≤ r) (h2 : r < 65536) (h3 : ¬ (55296 ≤ r ∧ r ≤ 57343)) (w : World) (hown : w.ownsRow base 5 1 v n xs) (hbase : base ≤ w.heap.size) (hn : n ≤ 140737488000000) :
    Calls Tryz.prog 95 #[v, .int .i64 ((r : Int))] w (PutPost w base n v xs (encN r)) := by
  obtain ⟨i0, hi0, hz0, hz1, hz2⟩ := info_parts u8_info
  have Hown := Lib.hid hown
  clear hown
  have hhf : halfB (r : Int) = false := by simp only [halfB, Bool.and_eq_false_iff, decide_eq_false_iff_not]; omega
  have hx1 : bits BinOp.or IntKind.u8 128 (bits BinOp.and IntKind.i64 ((r : Int)) 63 % 256) = 128 + (r : Int) % 64 := and_or r _ (by omega) (by omega)
  have hx2 : bits BinOp.or IntKind.u8 128 (bits BinOp.and IntKind.i64 ((r : Int) / 64) 63 % 256) = 128 + (r : Int) / 64 % 64 := and_or (r / 64) _ (by omega) (by omega)
  have fin : Hid ([.int .u8 (224 + (r : Int) / 4096), .int .u8 (128 + (r : Int) / 64 % 64), .int .u8 (128 + (r : Int) % 64)] = bv (encN r) ∧ 3 = (encN r).length) := by
    show _ ∧ _
    unfold encN
    rw [if_neg (by omega), if_neg (by omega), if_pos (by omega)]
    simp only [bv, List.map_cons, List.map_nil, List.length_cons, List.length_nil, and_true, Nat.zero_add, List.cons.injEq, Value.int.injEq, true_and]
    refine ⟨by rw [B_int _ (by omega)]; omega, by rw [B_int _ (by omega)]; omega, by rw [B_int _ (by omega)]; omega⟩
  have g1 : (2048 : Int) ≤ (r : Int) := by omega
  have g2 : (r : Int) ≤ 65535 := by omega
  clear h1 h2 h3
  go_enter Tryz.func95, Tryz.ntmps95
  go_wp2_with (first
    | (go_at_call 94; refine (half_any _ _).mono ?_; rintro e w' ⟨rfl, rfl⟩)
    | (refine wpList_lss (o := ⟨some 60, _, _, _, _, _⟩) rfl _ _ _ _ rfl .i64 _ 65536 rfl rfl true (by rw [decide_eq_true_eq]; omega) ?_)
    | (refine wpList_append_own (o := ⟨some 76, _, _, _, _, _⟩) _ rfl _ _ 77 rfl base 5 i0 (.int .u8 0) 1 1 Tryz.underlying77 hi0 hz0 hz1 hz2 rfl (by decide) v n xs rfl (Hown.out.alloc _) ⟨w.heap.size, 0, none⟩ 3 3 [.int .u8 (224 + (r : Int) / 4096), .int .u8 (128 + (r : Int) / 64 % 64), .int .u8 (128 + (r : Int) % 64)] rfl rfl (World.news_of_block (cs := [.int .u8 (224 + (r : Int) / 4096), .int .u8 (128 + (r : Int) / 64 % 64), .int .u8 (128 + (r : Int) % 64)].toArray) (t := 5) (fr := (0, 0)) (heap_alloc_new w _)) (by simp [Value.oneCell']) (by unfold maxLen; omega) (by omega) (by simp; omega) ?_; intro v' w3 hown3 hg3 _))
  go_ret
  exact put_end Hown.out hown3 hg3 fin.out
set_option maxRecDepth 100000 in
set_option maxHeartbeats 1600000 in
theorem put_4 (base n : Nat) (v : Value) (xs : List Value) (r : Nat) (h1 : 65536 ≤ r) (h2 : r ≤ 1114111) (w : World) (hown : w.ownsRow base 5 1 v n xs) (hbase : base ≤ w.heap.size) (hn : n ≤ 140737488000000) :
    Calls Tryz.prog 95 #[v, .int .i64 ((r : Int))] w (PutPost w base n v xs (encN r)) := by
  obtain ⟨i0, hi0, hz0, hz1, hz2⟩ := info_parts u8_info
  have Hown := Lib.hid hown
  clear hown
  have hhf : halfB (r : Int) = false := by simp only [halfB, Bool.and_eq_false_iff, decide_eq_false_iff_not]; omega
  have hx1 : bits BinOp.or IntKind.u8 128 (bits BinOp.and IntKind.i64 ((r : Int)) 63 % 256) = 128 + (r : Int) % 64 := and_or r _ (by omega) (by omega)
  have hx2 : bits BinOp.or IntKind.u8 128 (bits BinOp.and IntKind.i64 ((r : Int) / 64) 63 % 256) = 128 + (r : Int) / 64 % 64 := and_or (r / 64) _ (by omega) (by omega)
  have hx3 : bits BinOp.or IntKind.u8 128 (bits BinOp.and IntKind.i64 ((r : Int) / 4096) 63 % 256) = 128 + (r : Int) / 4096 % 64 := and_or (r / 4096) _ (by omega) (by omega)
  have fin : Hid ([.int .u8 (240 + (r : Int) / 262144), .int .u8 (128 + (r : Int) / 4096 % 64), .int .u8 (128 + (r : Int) / 64 % 64), .int .u8 (128 + (r : Int) % 64)] = bv (encN r) ∧ 4 = (encN r).length) := by
    show _ ∧ _
    unfold encN
    rw [if_neg (by omega), if_neg (by omega), if_neg (by omega)]
    simp only [bv, List.map_cons, List.map_nil, List.length_cons, List.length_nil, and_true, Nat.zero_add, List.cons.injEq, Value.int.injEq, true_and]
    refine ⟨by rw [B_int _ (by omega)]; omega, by rw [B_int _ (by omega)]; omega, by rw [B_int _ (by omega)]; omega, by rw [B_int _ (by omega)]; omega⟩
  have g1 : (65535 : Int) < (r : Int) := by omega
  have g2 : (r : Int) ≤ 1114111 := by omega
  clear h1 h2
  go_enter Tryz.func95, Tryz.ntmps95
  go_wp2_with (first
    | (go_at_call 94; refine (half_any _ _).mono ?_; rintro e w' ⟨rfl, rfl⟩)
    | (refine wpList_lss (o := ⟨some 60, _, _, _, _, _⟩) rfl _ _ _ _ rfl .i64 _ 65536 rfl rfl false (by rw [decide_eq_false_iff_not]; omega) ?_)
    | (refine wpList_append_own (o := ⟨some 35, _, _, _, _, _⟩) _ rfl _ _ 77 rfl base 5 i0 (.int .u8 0) 1 1 Tryz.underlying77 hi0 hz0 hz1 hz2 rfl (by decide) v n xs rfl (Hown.out.alloc _) ⟨w.heap.size, 0, none⟩ 4 4 [.int .u8 (240 + (r : Int) / 262144), .int .u8 (128 + (r : Int) / 4096 % 64), .int .u8 (128 + (r : Int) / 64 % 64), .int .u8 (128 + (r : Int) % 64)] rfl rfl (World.news_of_block (cs := [.int .u8 (240 + (r : Int) / 262144), .int .u8 (128 + (r : Int) / 4096 % 64), .int .u8 (128 + (r : Int) / 64 % 64), .int .u8 (128 + (r : Int) % 64)].toArray) (t := 5) (fr := (0, 0)) (heap_alloc_new w _)) (by simp [Value.oneCell']) (by unfold maxLen; omega) (by omega) (by simp; omega) ?_; intro v' w3 hown3 hg3 _))
  go_ret
  exact put_end Hown.out hown3 hg3 fin.out

/-- utf.put: a rune's bytes behind others. -/
theorem put_any (base n : Nat) (v : Value) (xs : List Value) (r : Int) (w : World) (hown : w.ownsRow base 5 1 v n xs) (hbase : base ≤ w.heap.size) (hn : n ≤ 140737488000000) :
    Calls Tryz.prog 95 #[v, .int .i64 r] w (PutPost w base n v xs (enc r)) := by
  unfold enc fix
  by_cases h : r < 0 ∨ 1114111 < r ∨ (55296 ≤ r ∧ r ≤ 57343)
  · rw [if_pos h]; exact put_bad base n v xs r h w hown hbase hn
  · rw [if_neg h]
    obtain ⟨k, rfl⟩ := Int.eq_ofNat_of_zero_le (show 0 ≤ r by omega)
    rw [Int.toNat_natCast]
    by_cases h1 : k < 128
    · exact put_1 base n v xs k h1 w hown hbase hn
    · by_cases h2 : k < 2048
      · exact put_2 base n v xs k (by omega) h2 w hown hbase hn
      · by_cases h3 : k < 65536
        · exact put_3 base n v xs k (by omega) h3 (by omega) w hown hbase hn
        · exact put_4 base n v xs k (by omega) (by omega) w hown hbase hn
end Go.Proofs.YtjeahdnbpiahaaaGreat.Ut
end

section
/- utf.Encode, Fold, Valid. -/
namespace Go.Proofs.YtjeahdnbpiahaaaGreat.Ut
open Go.RowKit
set_option maxRecDepth 20000

def str (l : List UInt8) : ByteArray := ⟨l.toArray⟩
theorem str_data (l : List UInt8) : (str l).data.toList = l := by simp [str]
theorem str_size (l : List UInt8) : (str l).size = l.length := by rw [← bsize, str_data]
theorem of_str (s : ByteArray) : str s.data.toList = s := by
  obtain ⟨d⟩ := s; simp [str]
/-- 'string(b)' where b is a row of the call's own. -/
theorem conv_own {P : Program} {w : World} {base : Nat} {tb ts tu : TypeId} {v : Value} {n : Nat} {l : List UInt8} (h : w.ownsRow base tu 1 v n (bv l)) (hs : P.underlying tb = some (.slice tu)) (he : P.underlying tu = some (.int .u8)) (hd : P.underlying ts = some .string) :
    (convert tb ts v).run P w = .ok (.string (str l)) w := by
  have hl : l.length = n := by have := h.1; simpa [bv] using this
  rcases h.2 with ⟨rfl, rfl⟩ | ⟨g, cap, cur, rfl, hb, hg, hnc, hcm, hcs, htake⟩
  · have : l = [] := List.eq_nil_of_length_eq_zero hl
    subst this
    rw [run_convert_bytes_nil w tb tu hs he 0 0 ts hd]
    rfl
  · subst hl
    exact run_convert_bytes_back w tb ts tu ⟨g, 0, none⟩ cap l hs he hd fun j hj => by
      have := h.cells (g := g) rfl j (.int .u8 ((l[j]).toNat : Int)) (by simp [bv, List.getElem?_eq_getElem hj])
      exact this

/-- A loop that puts runes: what has been put. -/
structure Putting (w wr : World) (v : Value) (rs : List Int) : Prop where
  own : wr.ownsRow w.heap.size 5 1 v (encode rs).length (bv (encode rs))
  bel : Below w.heap.size w wr
theorem Putting.start (w : World) : Putting w w (.slice none 0 0) [] := ⟨World.ownsRow_nil _ _ _ _, Below.refl _ _⟩
theorem Putting.below {w wr w2 : World} {v : Value} {rs : List Int} (h : Putting w wr v rs) (hb : Below wr.heap.size wr w2) : Putting w w2 v rs :=
  ⟨h.own.kept (grow_of_below hb none) (by cases hv : v.ownBlock <;> simp), h.bel.trans (hb.mono h.bel.size)⟩
theorem Putting.put {w wr w2 : World} {v v' : Value} {rs : List Int} {r : Int} (h : Putting w wr v rs)
    (hp : w2.ownsRow w.heap.size 5 1 v' ((encode rs).length + (enc r).length) (bv (encode rs) ++ bv (enc r))) (hg : wr.grownBy w2 v.ownBlock) : Putting w w2 v' (rs ++ [r]) := by
  refine ⟨?_, h.bel.grown hg h.bel.size (fun k hk => (h.own.lt k hk).1)⟩
  rw [encode_snoc, List.length_append, bv_append]
  exact hp

set_option maxHeartbeats 800000 in
theorem encode_any (A : Option Addr) (n c : Nat) (rs : List Int) (w : World) (hR : Reads w w.heap.size 1 A n (rs.map (Value.int .i64))) (hn : n ≤ 35000000000000) :
    Calls Tryz.prog 66 #[.slice A n c] w fun e w' => e = .returned (.string (str (encode rs))) ∧ Below w.heap.size w w' := by
  have hlen : rs.length = n := by have := hR.1; simpa using this
  have HR := Lib.hid hR
  have Hl := Lib.hid hlen
  have St := Lib.hid (Putting.start w)
  clear hR hlen
  go_enter Tryz.func66, Tryz.ntmps66
  go_wp2
  go_loopw [3, 8] (fun v i wr => ∃ k : Nat, k ≤ n ∧ i = .int .i64 k ∧ Putting w wr v (rs.take k)) (fun _ i _ => n - (intOf i).toNat)
  case atStart => exact ⟨0, Nat.zero_le _, rfl, St.out⟩
  case round =>
    obtain ⟨k, hk, rfl, hp⟩ := hrel
    have hel := encode_len (rs.take k)
    have htl : (rs.take k).length ≤ n := by rw [List.length_take]; omega
    by_cases hlt : k < n
    · obtain ⟨ab, ao, hkl, rfl, hab, hcw⟩ := HR.out.at_map hlt
      have hcx := (hp.bel.cell (p := ⟨ab, ao + k, none⟩) hab).trans hcw
      have hts : rs.take (k + 1) = rs.take k ++ [rs[k]] := by rw [List.take_succ_eq_append_getElem hkl]
      have Hts := Lib.hid hts
      have c1 := put_any w.heap.size _ u3 _ rs[k] wr hp.own hp.bel.size (by omega)
      have Hp := Lib.hid hp
      clear hts hcw hp
      generalize rs[k] = r at *
      go_wp2_with fail
      refine c1.mono ?_
      rintro e w2 ⟨v', rfl, hown2, hg2⟩
      have Hp2 := Lib.hid (Hp.out.put hown2 hg2)
      clear hown2 hg2
      go_wp2
      go_roundw
      case rel => exact ⟨k + 1, by omega, by go_num, by rw [Hts.out]; exact Hp2.out⟩
      case measure => simp [intOf]; omega
    · have hall : rs.take k = rs := List.take_of_length_le (by rw [Hl.out]; omega)
      have hcv := conv_own (P := Tryz.prog) (tb := 77) (ts := 9) hp.own Tryz.underlying77 Tryz.underlying5 Tryz.underlying9
      have Hall := Lib.hid hall
      have Hb := Lib.hid hp.bel
      clear hall hp hel htl
      go_wp2
      go_ret
      exact ⟨by rw [Hall.out]; rfl, Hb.out⟩
end Go.Proofs.YtjeahdnbpiahaaaGreat.Ut
end

section
/- Plain facts on words of words, folded texts, names and terms. No program. -/
namespace Go.Proofs.YtjeahdnbpiahaaaGreat.Tk
open Go.RowKit Go.Proofs.YtjeahdnbpiahaaaGreat.Ut

/-- A rune, lower case. -/
def low (r : Nat) : Nat := (lower (r : Int)).toNat
theorem low_cast (r : Nat) (h : Ut.Good r) : ((low r : Nat) : Int) = lower (r : Int) := Int.toNat_of_nonneg (lower_good r h).1
theorem low_good (r : Nat) (h : Ut.Good r) : Ut.Good (low r) := (lower_good r h).2
theorem low_word (r : Nat) (h : Ut.Good r) : isWord (low r : Nat) = isWord (r : Int) := by rw [low_cast r h, lower_word]
theorem low_low (r : Nat) (h : Ut.Good r) : lower ((low r : Nat) : Int) = lower (r : Int) := by rw [low_cast r h, lower_lower]
/-- How many runes of a word are told. -/
def wordN (a : List UInt8) : List Nat → Nat
  | [] => 0
  | r :: t => if 32 < a.length + (enc (lower (r : Int))).length then 0 else wordN (a ++ enc (lower (r : Int))) t + 1
theorem wordN_cons (a : List UInt8) (r : Nat) (t : List Nat) : wordN a (r :: t) = if 32 < a.length + (enc (lower (r : Int))).length then 0 else wordN (a ++ enc (lower (r : Int))) t + 1 := rfl
theorem wordGo_take : ∀ (l : List Nat) (a : List UInt8), wordGo a (l.take (wordN a l)) = wordGo a l
  | [], a => rfl
  | r :: t, a => by
    rw [wordN_cons, wordGo_cons]
    split
    · rename_i h
      simp only [List.take_zero]
      rfl
    · rename_i h
      rw [List.take_succ_cons, wordGo_cons, if_neg h, wordGo_take]
theorem wordGo_enc : ∀ (l : List Nat) (a : List UInt8), wordGo a l = a ++ encode ((ints (l.take (wordN a l))).map lower)
  | [], a => by simp [wordGo, ints, encode]
  | r :: t, a => by
    rw [wordN_cons, wordGo_cons]
    split
    · simp [ints, encode]
    · rw [List.take_succ_cons, wordGo_enc t]
      simp [ints, encode]
theorem wordN_pos (r : Nat) (t : List Nat) : 1 ≤ wordN [] (r :: t) := by
  rw [wordN_cons, if_neg (by have := (enc_len (lower (r : Int))).2; simp; omega)]
  omega
theorem wordGo_low : ∀ (l : List Nat) (a : List UInt8), (∀ r ∈ l, Ut.Good r) → wordGo a (l.map low) = wordGo a l
  | [], a, _ => rfl
  | r :: t, a, h => by
    rw [List.map_cons, wordGo_cons, wordGo_cons, low_low r (h r (by simp)), wordGo_low t _ (fun x hx => h x (by simp [hx]))]
theorem word_low (l : List Nat) (h : ∀ r ∈ l, Ut.Good r) : word (l.map low) = word l := wordGo_low l [] h
/-- The runes of a word that are told. -/
def told (l : List Nat) : List Nat := (l.take (wordN [] l)).map low
theorem word_told (l : List Nat) (h : ∀ r ∈ l, Ut.Good r) : word (told l) = word l := by
  unfold told
  rw [word_low _ (fun r hr => h r (List.mem_of_mem_take hr))]
  exact wordGo_take l []
theorem runes_word (l : List Nat) (h : ∀ r ∈ l, Ut.Good r) (t : List UInt8) : runes (word l ++ t) = told l ++ runes t := by
  have e : word l = encode ((ints (l.take (wordN [] l))).map lower) := by
    have := wordGo_enc l []
    rw [List.nil_append] at this
    exact this
  rw [e, runes_encode, fix_lower _ (fun r hr => h r (List.mem_of_mem_take hr))]
  rfl
theorem told_ne (l : List Nat) (h : l ≠ []) : told l ≠ [] := by
  obtain ⟨r, t, rfl⟩ : ∃ r t, l = r :: t := by cases l with | nil => exact absurd rfl h | cons r t => exact ⟨r, t, rfl⟩
  intro e
  have h1 := wordN_pos r t
  have h2 := congrArg List.length e
  unfold told at h2
  rw [List.length_map, List.length_take, List.length_cons, List.length_nil] at h2
  omega
/-- A run of runes: some, all of words. -/
def Run (l : List Nat) : Prop := l ≠ [] ∧ (∀ r ∈ l, Ut.Good r) ∧ ∀ r ∈ l, isWord (r : Int) = true
theorem told_run (l : List Nat) (h : Run l) : Run (told l) := by
  refine ⟨told_ne l h.1, ?_, ?_⟩
  · intro r hr
    unfold told at hr
    obtain ⟨x, hx, rfl⟩ := List.mem_map.1 hr
    exact low_good x (h.2.1 x (List.mem_of_mem_take hx))
  · intro r hr
    unfold told at hr
    obtain ⟨x, hx, rfl⟩ := List.mem_map.1 hr
    rw [low_word x (h.2.1 x (List.mem_of_mem_take hx))]
    exact h.2.2 x (List.mem_of_mem_take hx)
theorem runs_all : ∀ (m c x : List Nat), (∀ r ∈ m, isWord (r : Int) = true) → runs c (m ++ x) = runs (c ++ m) x
  | [], c, x, _ => by simp
  | r :: m, c, x, h => by
    rw [List.cons_append, runs_cons, h r (by simp), if_pos rfl, runs_all m (c ++ [r]) x (fun y hy => h y (by simp [hy]))]
    simp
theorem runs_sep (m x : List Nat) (b : Nat) (h : Run m) (hb : isWord (b : Int) = false) : runs [] (m ++ b :: x) = m :: runs [] x := by
  rw [runs_all m [] _ h.2.2, List.nil_append, runs_cons, hb, if_neg (by decide)]
  rw [last, if_neg h.1]; rfl
theorem runs_one (m : List Nat) (h : Run m) : runs [] m = [m] := by
  have := runs_all m [] [] h.2.2
  rw [List.append_nil] at this
  rw [this, List.nil_append, runs_nil]
  rw [last, if_neg h.1]
theorem runs_are : ∀ (l c : List Nat), (∀ r ∈ l, Ut.Good r) → (∀ r ∈ c, Ut.Good r ∧ isWord (r : Int) = true) → ∀ m ∈ runs c l, Run m
  | [], c, _, hc, m, hm => by
    rw [runs_nil] at hm
    unfold last at hm
    split at hm
    · cases hm
    · simp only [List.mem_singleton] at hm
      subst hm
      exact ⟨by assumption, fun r hr => (hc r hr).1, fun r hr => (hc r hr).2⟩
  | r :: t, c, hl, hc, m, hm => by
    rw [runs_cons] at hm
    split at hm
    · rename_i hw
      refine runs_are t (c ++ [r]) (fun x hx => hl x (by simp [hx])) (fun x hx => ?_) m hm
      rcases List.mem_append.1 hx with hx | hx
      · exact hc x hx
      · simp only [List.mem_singleton] at hx
        subst hx
        exact ⟨hl x (by simp), hw⟩
    · rcases List.mem_append.1 hm with hm | hm
      · unfold last at hm
        split at hm
        · cases hm
        · simp only [List.mem_singleton] at hm
          subst hm
          exact ⟨by assumption, fun r hr => (hc r hr).1, fun r hr => (hc r hr).2⟩
      · exact runs_are t [] (fun x hx => hl x (by simp [hx])) (fun x hx => by cases hx) m hm
theorem text_runs (s : List UInt8) : ∀ m ∈ runs [] (runes s), Run m := runs_are _ _ (runes_good s) (fun x hx => by cases hx)
/-- Words, a blank behind each. -/
def joined (ws : List (List UInt8)) : List UInt8 := ws.flatMap (· ++ [32])
theorem joined_cons (w : List UInt8) (ws : List (List UInt8)) : joined (w :: ws) = w ++ 32 :: joined ws := by simp [joined]
theorem joined_snoc (w : List UInt8) (ws : List (List UInt8)) : joined (ws ++ [w]) = joined ws ++ (w ++ [32]) := by simp [joined]
theorem runes_blank (t : List UInt8) : runes (32 :: t) = 32 :: runes t := by
  rw [runes_cons _ (by simp)]
  have e : dec (32 :: t) = (32, 1) := by rw [dec_cons]; simp
  rw [e]; rfl
theorem blank_no : isWord ((32 : Nat) : Int) = false := by decide
theorem runs_joined : ∀ (L : List (List Nat)), (∀ m ∈ L, Run m) → runs [] (runes (joined (L.map word))) = L.map told
  | [], _ => rfl
  | m :: L, h => by
    rw [List.map_cons, joined_cons, runes_word m (h m (by simp)).2.1, runes_blank, runs_sep _ _ _ (told_run m (h m (by simp))) blank_no,
      runs_joined L (fun x hx => h x (by simp [hx])), List.map_cons]
theorem words_joined (s : List UInt8) : words (joined (words s)) = words s := by
  unfold words
  rw [runs_joined _ (text_runs s), List.map_map]
  exact List.map_congr_left fun m hm => word_told m (text_runs s m hm).2.1
theorem words_word (s : List UInt8) : ∀ w ∈ words s, words w = [w] ∧ w.length ≤ 32 := by
  intro w hw
  unfold words at hw
  obtain ⟨m, hm, rfl⟩ := List.mem_map.1 hw
  have hr := text_runs s m hm
  refine ⟨?_, word_len m⟩
  have e := runes_word m hr.2.1 []
  rw [List.append_nil, runes_nil, List.append_nil] at e
  unfold words
  rw [e, runs_one _ (told_run m hr)]
  show [word (told m)] = [word m]
  rw [word_told m hr.2.1]
theorem runs_low : ∀ (l c : List Nat), (∀ r ∈ l, Ut.Good r) → runs (c.map low) (l.map low) = (runs c l).map (List.map low)
  | [], c, _ => by
    rw [List.map_nil, runs_nil, runs_nil]
    unfold last
    by_cases h : c = []
    · subst h; rfl
    · rw [if_neg h, if_neg (by simpa using h)]; rfl
  | r :: t, c, h => by
    rw [List.map_cons, runs_cons, runs_cons, low_word r (h r (by simp))]
    by_cases hw : isWord (r : Int) = true
    · rw [if_pos hw, if_pos hw, ← runs_low t (c ++ [r]) (fun x hx => h x (by simp [hx]))]
      simp
    · rw [if_neg hw, if_neg hw, List.map_append, ← runs_low t [] (fun x hx => h x (by simp [hx]))]
      congr 1
      unfold last
      by_cases hc : c = []
      · subst hc; rfl
      · rw [if_neg hc, if_neg (by simpa using hc)]; rfl
theorem words_fold (s : List UInt8) : words (fold s) = words s := by
  unfold words
  have e : runes (fold s) = (runes s).map low := runes_fold s
  have h := runs_low (runes s) [] (runes_good s)
  rw [List.map_nil] at h
  rw [e, h, List.map_map]
  exact List.map_congr_left fun m hm => word_low m (text_runs s m hm).2.1

/-- Is a text a word? -/
def isW (s : List UInt8) : Bool := words s == [s]
theorem isW_len (s : List UInt8) (h : 32 < s.length) : isW s = false := by
  unfold isW
  rw [beq_eq_false_iff_ne]
  intro e
  have := (words_word s s (by rw [e]; simp)).2
  omega
/-- Is a byte one of a name? Is a text a name? -/
def nameB (c : UInt8) : Bool := c.toNat == 95 || (decide (48 ≤ c.toNat) && decide (c.toNat ≤ 57)) || (decide (97 ≤ c.toNat) && decide (c.toNat ≤ 122))
def isN (s : List UInt8) : Bool := decide (1 ≤ s.length) && decide (s.length ≤ 32) && s.all nameB
/-- Where the first colon stands, or the text's length. -/
def colonAt (s : List UInt8) : Nat := s.findIdx (· == 58)
/-- A term's name, and its word. -/
def term (a b : List UInt8) : List UInt8 := a ++ 58 :: b
def splitOk (s : List UInt8) : Bool := decide (colonAt s < s.length) && isN (s.take (colonAt s)) && isW (s.drop (colonAt s + 1))
theorem isN_no (a : List UInt8) (h : isN a = true) : ∀ x ∈ a, (x == 58) = false := by
  intro x hx
  unfold isN at h
  rw [Bool.and_eq_true, List.all_eq_true] at h
  have hb := h.2 x hx
  rw [beq_eq_false_iff_ne]
  rintro rfl
  revert hb
  decide
theorem colonAt_term (a b : List UInt8) (h : isN a = true) : colonAt (term a b) = a.length := by
  have hn := isN_no a h
  unfold colonAt term
  clear h
  induction a with
  | nil => simp [List.findIdx_cons]
  | cons x a ih =>
    rw [List.cons_append, List.findIdx_cons, hn x (by simp), cond_false, ih (fun y hy => hn y (by simp [hy])), List.length_cons]
theorem split_term (a b : List UInt8) (h : isN a = true) (hb : isW b = true) : splitOk (term a b) = true ∧ (term a b).take (colonAt (term a b)) = a ∧ (term a b).drop (colonAt (term a b) + 1) = b := by
  have e := colonAt_term a b h
  have e1 : (term a b).take a.length = a := by unfold term; simp
  have e2 : (term a b).drop (a.length + 1) = b := by unfold term; simp
  unfold splitOk
  rw [e, e1, e2, h, hb]
  refine ⟨?_, rfl, rfl⟩
  simp [term]
theorem split_back (s : List UInt8) (h : splitOk s = true) : term (s.take (colonAt s)) (s.drop (colonAt s + 1)) = s := by
  unfold splitOk at h
  simp only [Bool.and_eq_true, decide_eq_true_eq] at h
  have h1 : (s[colonAt s]'h.1.1 == 58) = true := by
    have := List.findIdx_getElem (p := (· == 58)) (xs := s) (w := h.1.1)
    exact this
  unfold term
  rw [← (beq_iff_eq.1 h1), ← List.drop_eq_getElem_cons h.1.1, List.take_append_drop]
end Go.Proofs.YtjeahdnbpiahaaaGreat.Tk
end
