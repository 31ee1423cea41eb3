/- The reference's With at any row; its Of; short, few. -/
import Derived.Test.YthhklbjhlfejfaaHistV
import Derived.Laws.AppendOwnNone
namespace Go.Proofs.Ythhklbjhlfejfaa.Hi
open Go.RowKit
set_option maxRecDepth 20000
/-- A row of buckets, nil let in. -/
def Bks (w : World) (B : Nat) (v : Value) (l : List Bk) : Prop :=
  (v = .slice none 0 0 ∧ l = []) ∨ ∃ b o c, v = .slice (some ⟨b, o, none⟩) l.length c ∧ l.length ≤ c ∧ Reads w B 2 (some ⟨b, o, none⟩) l.length (bkC l)
theorem Bks.of_own {w : World} {base : Nat} {v : Value} {l : List Bk} (h : OwnB w base v l) : Bks w w.heap.size v l := by
  rcases h.2 with ⟨rfl, h0⟩ | ⟨g, cap, cur, rfl, _, _, hnc, _⟩
  · exact .inl ⟨rfl, List.eq_nil_of_length_eq_zero h0⟩
  · exact .inr ⟨g, 0, cap, rfl, hnc, Reads.of_own h⟩
theorem Bks.reads {w : World} {B : Nat} {v : Value} {l : List Bk} (h : Bks w B v l) : ∃ A c, v = .slice A l.length c ∧ Reads w B 2 A l.length (bkC l) := by
  rcases h with ⟨rfl, rfl⟩ | ⟨b, o, c, rfl, _, hr⟩
  · exact ⟨none, 0, rfl, Reads.none_⟩
  · exact ⟨_, c, rfl, hr⟩
theorem Bks.below {w w' : World} {B : Nat} {v : Value} {l : List Bk} (h : Bks w B v l) (hb : Below B w w') : Bks w' B v l := by
  rcases h with h | ⟨b, o, c, e, hc, hr⟩
  · exact .inl h
  · exact .inr ⟨b, o, c, e, hc, hr.below hb⟩
theorem Bks.more {w : World} {B B' : Nat} {v : Value} {l : List Bk} (h : Bks w B v l) (hB : B ≤ B') : Bks w B' v l := by
  rcases h with h | ⟨b, o, c, e, hc, hr⟩
  · exact .inl h
  · exact .inr ⟨b, o, c, e, hc, hr.more hB⟩

set_option maxHeartbeats 1600000 in
theorem with_nil (k n : Int) (w : World) : Calls Try.prog 29 #[.slice none 0 0, .int .i64 k, .int .i64 n] w (WithPost w [] k n) := by
  obtain ⟨inf, hi0, hz0, hz1, hz2⟩ := info_parts bk_info
  have R0 := Lib.hid (Row.empty w)
  have F : Hid (putF [] k n = ([(k, n)], decide (n ≤ mostN))) := Lib.hid rfl
  unfold WithPost
  go_enter Try.func29, Try.ntmps29
  go_wp2
  go_loopw [8] (fun i wr => i = .int .i64 0 ∧ wr = w) (fun i _ => 0)
  case atStart => exact ⟨rfl, rfl⟩
  case round =>
    obtain ⟨rfl, rfl⟩ := hrel
    go_wp2_with (at_builtin; refine wpList_append_own _ rfl _ _ 29 rfl wr.heap.size 48 inf _ 2 16 Try.underlying29 hi0 hz0 hz1 hz2 rfl (by decide) (.slice (some ⟨wr.heap.size, 0, none⟩) 0 0) 0 (bkC []) rfl (R0.out.more (by rw [World.size_alloc]; omega) _).own ⟨wr.heap.size + 1, 0, none⟩ 1 1 (bkC [(k, n)]) rfl rfl ?a1 (bkC_one _) ?a3 ?a4 ?a5 ?_)
    case a1 =>
      have := news_one (w := wr.alloc (.cells #[] 48)) k n
      rw [World.size_alloc] at this
      exact this
    case a3 => decide
    case a4 => omega
    case a5 => simp; omega
    intro v2 w2 ho2 hg2 _
    have R2 : Hid (Row wr.heap.size wr w2 v2 [(k, n)]) := Lib.hid ((R0.out.more (by rw [World.size_alloc]; omega) _).app (by simp; omega) rfl ho2 hg2)
    clear ho2 hg2
    go_wp2_with (at_builtin; refine wpList_append_own_none rfl _ _ 29 rfl wr.heap.size 48 inf 2 Try.underlying29 hi0 v2 1 (bkC [(k, n)]) rfl R2.out.own rfl ?_)
    go_wp2
    go_ret2
    exact ⟨v2, by rw [F.out]; rfl, by rw [F.out]; exact R2.out⟩

theorem with_any (v : Value) (l : List Bk) (k n : Int) (w : World) (h : Bks w w.heap.size v l) (hl : l.length ≤ 1000000) (h1 : ∀ b ∈ l, 1 ≤ b.2) (hn : 1 ≤ n) (hn2 : n ≤ 9223372036854775807) :
    Calls Try.prog 29 #[v, .int .i64 k, .int .i64 n] w (WithPost w l k n) := by
  rcases h with ⟨rfl, rfl⟩ | ⟨b, o, c, rfl, hc, hR⟩
  · exact with_nil k n w
  · by_cases hlt : pos l k < l.length
    · have h0 := pos_at l k hlt
      by_cases he : l[pos l k].1 = k
      · by_cases hbig : mostN < n ∨ mostN - n < l[pos l k].2
        · exact with_big b o c l k n w hR hc hl hn hn2 h1 hlt he hbig
        · by_cases hcc : c = pos l k + 1
          · exact with_fnd0 b o c l k n w hR hc hl hn hn2 h1 hlt he hbig hcc
          · exact with_fnd b o c l k n w hR hc hl hn hn2 h1 hlt he hbig hcc
      · exact with_mid b o c l k n w hR hc hl hlt (by omega)
    · by_cases hcc : c = pos l k
      · exact with_end0 b o c l k n w hR hc hl hlt hcc
      · exact with_end b o c l k n w hR hc hl hlt hcc

set_option maxHeartbeats 1600000 in
theorem rof_any (A : Option Addr) (c B : Nat) (d : Int) (ts : List Int) (w : World) (hR : Reads w B 1 A ts.length (ts.map (Value.int .i64))) (hB : B ≤ w.heap.size) (hl : ts.length ≤ 900000) (hd2 : d ≤ 9223372036854775807) (hin : ∀ t ∈ ts, In64 t) :
    Calls Try.prog 16 #[.int .i64 d, .slice A ts.length c] w (fun e w' => ∃ v, e = .returned (.tuple #[v, .int .i64 (if d < 1 then 240 else 0)]) ∧ Below w.heap.size w w' ∧ Bks w' w'.heap.size v (if d < 1 then [] else ofF d ts)) := by
  by_cases hd : d < 1
  · simp only [if_pos hd]
    go_enter Try.func16, Try.ntmps16
    go_wp2
    go_ret2
    exact ⟨.slice none 0 0, rfl, Below.refl _ _, .inl ⟨rfl, rfl⟩⟩
  · simp only [if_neg hd]
    have HR := Lib.hid hR
    have Hin := Lib.hid hin
    clear hR hin
    go_enter Try.func16, Try.ntmps16
    go_wp2
    go_loopw [6, 7] (fun v i wr => ∃ k : Nat, k ≤ ts.length ∧ i = .int .i64 k ∧ Below w.heap.size w wr ∧ Bks wr wr.heap.size v (ofF d (ts.take k))) (fun _ i _ => ts.length - (intOf i).toNat)
    case atStart => exact ⟨0, Nat.zero_le _, rfl, Below.refl _ _, .inl ⟨rfl, rfl⟩⟩
    case round =>
      obtain ⟨k, hk, rfl, hb, hT⟩ := hrel
      by_cases hlt : k < ts.length
      · obtain ⟨bb, o, hl', rfl, hbb, hc1⟩ := HR.out.at_map hlt
        have d1 := (hb.cell (p := ⟨bb, o + k, none⟩) (Nat.lt_of_lt_of_le hbb hB)).trans hc1
        have T := Lib.hid (ofF_take d ts k hlt)
        have G := ofF_good d ts k hk
        have ht := Hin.out _ (List.getElem_mem hlt)
        have c1 := rkey_any ts[k] d wr (by omega) ht hd2
        have c2 := with_any _ _ (ts[k] / d) 1 wr hT (by omega) G.1.one (by omega) (by omega)
        have Hb := Lib.hid hb
        clear hT hc1 ht hb
        generalize ts[k] = x at *
        generalize ofF d (ts.take k) = l at *
        go_wp2_with fail
        refine c1.mono ?_
        rintro e w1 ⟨rfl, rfl⟩
        go_wp2_with fail
        refine c2.mono ?_
        rintro e w2 ⟨v', rfl, hv⟩
        have HV := Lib.hid hv
        clear hv c1 c2
        go_wp2
        go_roundw
        case rel => exact ⟨k + 1, by omega, by go_num, Hb.out.trans (HV.out.bel.mono Hb.out.size), by rw [T.out]; exact Bks.of_own HV.out.own⟩
        case measure => simp [intOf]; omega
      · have hall : ts.take k = ts := List.take_of_length_le (by omega)
        rw [hall] at hT
        have HT := Lib.hid hT
        have Hb := Lib.hid hb
        clear hT hb
        go_wp2
        go_ret2
        exact ⟨_, rfl, Hb.out, HT.out⟩
end Go.Proofs.Ythhklbjhlfejfaa.Hi
