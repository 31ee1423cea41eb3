/- utf.Encode, Fold, Valid. -/
import Derived.Test.YtjfconddkfihcaaUtfG
namespace Go.Proofs.Ytjfconddkfihcaa.Ut
open Go.RowKit
set_option maxRecDepth 20000

def str (l : List UInt8) : ByteArray := ⟨l.toArray⟩
theorem str_data (l : List UInt8) : (str l).data.toList = l := by simp [str]
theorem str_size (l : List UInt8) : (str l).size = l.length := by rw [← bsize, str_data]
theorem of_str (s : ByteArray) : str s.data.toList = s := by
  obtain ⟨d⟩ := s; simp [str]
/-- 'string(b)' where b is a row of the call's own. -/
theorem conv_own {P : Program} {w : World} {base : Nat} {tb ts tu : TypeId} {v : Value} {n : Nat} {l : List UInt8} (h : w.ownsRow base tu 1 v n (bv l)) (hs : P.underlying tb = some (.slice tu)) (he : P.underlying tu = some (.int .u8)) (hd : P.underlying ts = some .string) :
    (convert tb ts v).run P w = .ok (.string (str l)) w := by
  have hl : l.length = n := by have := h.1; simpa [bv] using this
  rcases h.2 with ⟨rfl, rfl⟩ | ⟨g, cap, cur, rfl, hb, hg, hnc, hcm, hcs, htake⟩
  · have : l = [] := List.eq_nil_of_length_eq_zero hl
    subst this
    rw [run_convert_bytes_nil w tb tu hs he 0 0 ts hd]
    rfl
  · subst hl
    exact run_convert_bytes_back w tb ts tu ⟨g, 0, none⟩ cap l hs he hd fun j hj => by
      have := h.cells (g := g) rfl j (.int .u8 ((l[j]).toNat : Int)) (by simp [bv, List.getElem?_eq_getElem hj])
      exact this

/-- A loop that puts runes: what has been put. -/
structure Putting (w wr : World) (v : Value) (rs : List Int) : Prop where
  own : wr.ownsRow w.heap.size 5 1 v (encode rs).length (bv (encode rs))
  bel : Below w.heap.size w wr
theorem Putting.start (w : World) : Putting w w (.slice none 0 0) [] := ⟨World.ownsRow_nil _ _ _ _, Below.refl _ _⟩
theorem Putting.below {w wr w2 : World} {v : Value} {rs : List Int} (h : Putting w wr v rs) (hb : Below wr.heap.size wr w2) : Putting w w2 v rs :=
  ⟨h.own.kept (grow_of_below hb none) (by cases hv : v.ownBlock <;> simp), h.bel.trans (hb.mono h.bel.size)⟩
theorem Putting.put {w wr w2 : World} {v v' : Value} {rs : List Int} {r : Int} (h : Putting w wr v rs)
    (hp : w2.ownsRow w.heap.size 5 1 v' ((encode rs).length + (enc r).length) (bv (encode rs) ++ bv (enc r))) (hg : wr.grownBy w2 v.ownBlock) : Putting w w2 v' (rs ++ [r]) := by
  refine ⟨?_, h.bel.grown hg h.bel.size (fun k hk => (h.own.lt k hk).1)⟩
  rw [encode_snoc, List.length_append, bv_append]
  exact hp

set_option maxHeartbeats 800000 in
theorem encode_any (A : Option Addr) (n c : Nat) (rs : List Int) (w : World) (hR : Reads w w.heap.size 1 A n (rs.map (Value.int .i64))) (hn : n ≤ 35000000000000) :
    Calls Try.prog 103 #[.slice A n c] w fun e w' => e = .returned (.string (str (encode rs))) ∧ Below w.heap.size w w' := by
  have hlen : rs.length = n := by have := hR.1; simpa using this
  have HR := Lib.hid hR
  have Hl := Lib.hid hlen
  have St := Lib.hid (Putting.start w)
  clear hR hlen
  go_enter Try.func103, Try.ntmps103
  go_wp2
  go_loopw [3, 8] (fun v i wr => ∃ k : Nat, k ≤ n ∧ i = .int .i64 k ∧ Putting w wr v (rs.take k)) (fun _ i _ => n - (intOf i).toNat)
  case atStart => exact ⟨0, Nat.zero_le _, rfl, St.out⟩
  case round =>
    obtain ⟨k, hk, rfl, hp⟩ := hrel
    have hel := encode_len (rs.take k)
    have htl : (rs.take k).length ≤ n := by rw [List.length_take]; omega
    by_cases hlt : k < n
    · obtain ⟨ab, ao, hkl, rfl, hab, hcw⟩ := HR.out.at_map hlt
      have hcx := (hp.bel.cell (p := ⟨ab, ao + k, none⟩) hab).trans hcw
      have hts : rs.take (k + 1) = rs.take k ++ [rs[k]] := by rw [List.take_succ_eq_append_getElem hkl]
      have Hts := Lib.hid hts
      have c1 := put_any w.heap.size _ u3 _ rs[k] wr hp.own hp.bel.size (by omega)
      have Hp := Lib.hid hp
      clear hts hcw hp
      generalize rs[k] = r at *
      go_wp2_with fail
      refine c1.mono ?_
      rintro e w2 ⟨v', rfl, hown2, hg2⟩
      have Hp2 := Lib.hid (Hp.out.put hown2 hg2)
      clear hown2 hg2
      go_wp2
      go_roundw
      case rel => exact ⟨k + 1, by omega, by go_num, by rw [Hts.out]; exact Hp2.out⟩
      case measure => simp [intOf]; omega
    · have hall : rs.take k = rs := List.take_of_length_le (by rw [Hl.out]; omega)
      have hcv := conv_own (P := Try.prog) (tb := 102) (ts := 9) hp.own Try.underlying102 Try.underlying5 Try.underlying9
      have Hall := Lib.hid hall
      have Hb := Lib.hid hp.bel
      clear hall hp hel htl
      go_wp2
      go_ret
      exact ⟨by rw [Hall.out]; rfl, Hb.out⟩

set_option maxHeartbeats 800000 in
theorem fold_any (s : ByteArray) (w : World) (hs : s.size ≤ 4398046511104) :
    Calls Try.prog 50 #[.string s] w fun e w' => e = .returned (.string (str (fold s.data.toList))) ∧ Below w.heap.size w w' := by
  have c0 := runes_any s w hs
  have hrl := runes_len s.data.toList
  rw [bsize] at hrl
  go_enter Try.func50, Try.ntmps50
  go_wp2_with fail
  refine c0.mono ?_
  rintro e w1 ⟨v, rfl, hown, hb1⟩
  obtain ⟨A, c, rfl, hR⟩ := own_shape hown
  have St : Hid (Putting w1 w1 (.slice none 0 0) ((ints []).map lower)) := Putting.start w1
  have HR := Lib.hid hR
  have Fin : Hid (fold s.data.toList = encode ((ints (runes s.data.toList)).map lower)) := rfl
  clear hR hown c0
  generalize runes s.data.toList = l at *
  go_wp2_with fail
  go_loopw [3, 9] (fun v i wr => ∃ k : Nat, k ≤ l.length ∧ i = .int .i64 k ∧ Putting w1 wr v ((ints (l.take k)).map lower)) (fun _ i _ => l.length - (intOf i).toNat)
  case atStart => exact ⟨0, Nat.zero_le _, rfl, St.out⟩
  case round =>
    obtain ⟨k, hk, rfl, hp⟩ := hrel
    have hel := encode_len ((ints (l.take k)).map lower)
    have htl : ((ints (l.take k)).map lower).length ≤ l.length := by simp [ints]; omega
    by_cases hlt : k < l.length
    · obtain ⟨ab, ao, hkl, rfl, hab, hcw⟩ := Reads.at_map (f := fun r : Nat => Value.int .i64 (r : Int)) HR.out hlt
      have hcx := (hp.bel.cell (p := ⟨ab, ao + k, none⟩) hab).trans hcw
      have hts : (ints (l.take (k + 1))).map lower = (ints (l.take k)).map lower ++ [lower (l[k] : Int)] := by
        rw [List.take_succ_eq_append_getElem hkl]
        simp only [ints, List.map_append, List.map_cons, List.map_nil]
        rfl
      have Hts := Lib.hid hts
      have c1 := lower_any (l[k] : Int) wr
      have Hp := Lib.hid hp
      clear hts hcw hp
      generalize (l[k] : Int) = r at *
      go_wp2_with fail
      refine c1.mono ?_
      rintro e w2 ⟨rfl, hb2⟩
      have hp2 := Hp.out.below hb2
      have c2 := put_any w1.heap.size _ u3 _ (lower r) w2 hp2.own hp2.bel.size (by omega)
      have Hp2 := Lib.hid hp2
      clear hp2 hb2 c1
      go_wp2_with fail
      refine c2.mono ?_
      rintro e w3 ⟨v', rfl, hown3, hg3⟩
      have Hp3 := Lib.hid (Hp2.out.put hown3 hg3)
      clear hown3 hg3
      go_wp2
      go_roundw
      case rel => exact ⟨k + 1, by omega, by go_num, by rw [Hts.out]; exact Hp3.out⟩
      case measure => simp [intOf]; omega
    · have hall : l.take k = l := List.take_of_length_le (by omega)
      rw [hall] at hp
      have hcv := conv_own (P := Try.prog) (tb := 102) (ts := 9) hp.own Try.underlying102 Try.underlying5 Try.underlying9
      have Hb := Lib.hid (hb1.trans (hp.bel.mono hb1.size))
      rw [← Fin.out] at hcv
      clear hall hp hel htl
      go_wp2
      go_ret
      exact ⟨rfl, Hb.out⟩
end Go.Proofs.Ytjfconddkfihcaa.Ut
