/- hist.Add, the reference's Add. -/
import Derived.Test.YthhklbjhlfejfaaHistAa
namespace Go.Proofs.Ythhklbjhlfejfaa.Hi
open Go.RowKit
set_option maxRecDepth 20000
/-- A row as it may come in: nil has no room. -/
structure InB (w : World) (B : Nat) (A : Option Addr) (c : Nat) (l : List Bk) : Prop where
  rd : Reads w B 2 A l.length (bkC l)
  cap : l.length ≤ c
  nil : A = none → c = 0
theorem InB.below {w w' : World} {B c : Nat} {A : Option Addr} {l : List Bk} (h : InB w B A c l) (hb : Below B w w') : InB w' B A c l := ⟨h.rd.below hb, h.cap, h.nil⟩
theorem with_in (A : Option Addr) (c : Nat) (l : List Bk) (k n : Int) (w : World) (h : InB w w.heap.size A c l) (hl : l.length ≤ 1000000) (h1 : ∀ b ∈ l, 1 ≤ b.2) (hn : 1 ≤ n) (hn2 : n ≤ 9223372036854775807) :
    Calls Try.prog 29 #[.slice A l.length c, .int .i64 k, .int .i64 n] w (WithPost w l k n) := by
  rcases Nat.eq_zero_or_pos l.length with h0 | h0
  · have : l = [] := List.eq_nil_of_length_eq_zero h0
    subst this
    rcases A with _ | a
    · obtain rfl := h.nil rfl
      exact with_nil k n w
    · exact with_empty a c k n w
  · obtain ⟨b, o, rfl⟩ := reads_addr h.rd h0
    exact with_any _ l k n w (.inr ⟨b, o, c, rfl, h.cap, h.rd⟩) hl h1 hn hn2
theorem errF_t : errF true = 0 := rfl
theorem errF_f : errF false = 240 := rfl
theorem own_base {w : World} {B B' : Nat} {v : Value} {l : List Bk} (h : OwnB w B v l) (hB : B' ≤ B) : OwnB w B' v l := by
  refine ⟨h.1, ?_⟩
  rcases h.2 with h0 | ⟨g, cap, cur, e, hb, hr⟩
  · exact .inl h0
  · exact .inr ⟨g, cap, cur, e, by omega, hr⟩
open Classical in
/-- A row with more in a bucket, and the word on it. -/
noncomputable def addF (l : List Bk) (k n : Int) : List Bk × Int :=
  if Fine l ∧ 1 ≤ n then (if (putF l k n).2 = true then ((putF l k n).1, 0) else ([], 5)) else ([], 240)
def AddPost (w : World) (x : List Bk × Int) (e : Ending) (w' : World) : Prop :=
  ∃ v', e = .returned (.tuple #[v', .int .i64 x.2]) ∧ Below w.heap.size w w' ∧ Bks w' w'.heap.size v' x.1
theorem addF_bad {l : List Bk} {k n : Int} (h : ¬ (Fine l ∧ 1 ≤ n)) : addF l k n = ([], 240) := by unfold addF; rw [if_neg h]
theorem addF_big {l : List Bk} {k n : Int} (h : Fine l ∧ 1 ≤ n) (h2 : (putF l k n).2 = false) : addF l k n = ([], 5) := by unfold addF; rw [if_pos h, if_neg (by rw [h2]; simp)]
theorem addF_ok {l : List Bk} {k n : Int} (h : Fine l ∧ 1 ≤ n) (h2 : (putF l k n).2 = true) : addF l k n = ((putF l k n).1, 0) := by unfold addF; rw [if_pos h, if_pos h2]

set_option maxHeartbeats 1600000 in
theorem add_any (A : Option Addr) (c : Nat) (l : List Bk) (k n : Int) (w : World) (h : InB w w.heap.size A c l) (hl : l.length ≤ 900000) (hn2 : n ≤ 9223372036854775807) :
    Calls Try.prog 23 #[.slice A l.length c, .int .i64 k, .int .i64 n] w (AddPost w (addF l k n)) := by
  have c0 := check_any A c w.heap.size l w h.rd (Nat.le_refl _) (by omega)
  have H := Lib.hid h
  clear h
  unfold AddPost
  by_cases hf : Fine l
  · rw [fineB_t hf, errF_t] at c0
    by_cases h1 : 1 ≤ n
    · have hP : ∀ w1 v, OwnB w1 w.heap.size v l → w.heap.size ≤ w1.heap.size → Calls Try.prog 28 #[v, .int .i64 k, .int .i64 n] w1 (PutPost w.heap.size w1 l k n) := fun w1 v ho hB => put_any w.heap.size v l k n w1 ho hB (by omega) hf.up hf.one h1 hn2
      unfold PutPost at hP
      cases hb : (putF l k n).2
      · have F := Lib.hid (addF_big ⟨hf, h1⟩ hb)
        rw [hb] at hP
        clear hf hb
        go_enter Try.func23, Try.ntmps23
        go_wp2_with fail
        refine c0.mono ?_
        rintro e w1 ⟨rfl, hb1⟩
        have Hb1 := Lib.hid hb1
        have c1 := clone_any A c l w1 ((H.out.rd.below hb1).more hb1.size) (by omega)
        clear hb1 c0
        go_wp2_with fail
        refine c1.mono ?_
        rintro e w2 ⟨v1, rfl, hv⟩
        have Hb2 := Lib.hid (Hb1.out.trans (hv.bel.mono Hb1.out.size))
        have c2 := hP w2 v1 (own_base hv.own Hb1.out.size) Hb2.out.size
        clear hv c1 hP
        go_wp2_with fail
        refine c2.mono ?_
        rintro e w3 ⟨v3, rfl, hv3⟩
        have Hb3 := Lib.hid (Hb2.out.trans hv3.bel)
        clear hv3 c2
        go_wp2
        go_ret2
        exact ⟨.slice none 0 0, by rw [F.out]; rfl, Hb3.out, by rw [F.out]; exact .inl ⟨rfl, rfl⟩⟩
      · have F := Lib.hid (addF_ok ⟨hf, h1⟩ hb)
        rw [hb] at hP
        clear hf hb
        go_enter Try.func23, Try.ntmps23
        go_wp2_with fail
        refine c0.mono ?_
        rintro e w1 ⟨rfl, hb1⟩
        have Hb1 := Lib.hid hb1
        have c1 := clone_any A c l w1 ((H.out.rd.below hb1).more hb1.size) (by omega)
        clear hb1 c0
        go_wp2_with fail
        refine c1.mono ?_
        rintro e w2 ⟨v1, rfl, hv⟩
        have Hb2 := Lib.hid (Hb1.out.trans (hv.bel.mono Hb1.out.size))
        have c2 := hP w2 v1 (own_base hv.own Hb1.out.size) Hb2.out.size
        clear hv c1 hP
        go_wp2_with fail
        refine c2.mono ?_
        rintro e w3 ⟨v3, rfl, hv3⟩
        have Hb3 := Lib.hid (Hb2.out.trans hv3.bel)
        have HV := Lib.hid (Bks.of_own hv3.own)
        clear hv3 c2
        go_wp2
        go_ret2
        exact ⟨v3, by rw [F.out]; rfl, Hb3.out, by rw [F.out]; exact HV.out⟩
    · have F := Lib.hid (addF_bad (l := l) (k := k) (n := n) (fun h => h1 h.2))
      clear hf
      go_enter Try.func23, Try.ntmps23
      go_wp2_with fail
      refine c0.mono ?_
      rintro e w1 ⟨rfl, hb1⟩
      have Hb1 := Lib.hid hb1
      clear hb1 c0
      have h1' : n < 1 := by omega
      go_wp2
      go_ret2
      exact ⟨.slice none 0 0, by rw [F.out]; rfl, Hb1.out, by rw [F.out]; exact .inl ⟨rfl, rfl⟩⟩
  · rw [fineB_f hf, errF_f] at c0
    have F := Lib.hid (addF_bad (l := l) (k := k) (n := n) (fun h => hf h.1))
    clear hf
    go_enter Try.func23, Try.ntmps23
    go_wp2_with fail
    refine c0.mono ?_
    rintro e w1 ⟨rfl, hb1⟩
    have Hb1 := Lib.hid hb1
    clear hb1 c0
    go_wp2
    go_ret2
    exact ⟨.slice none 0 0, by rw [F.out]; rfl, Hb1.out, by rw [F.out]; exact .inl ⟨rfl, rfl⟩⟩

set_option maxHeartbeats 1600000 in
theorem radd_any (A : Option Addr) (c : Nat) (l : List Bk) (k n : Int) (w : World) (h : InB w w.heap.size A c l) (hl : l.length ≤ 900000) (hn2 : n ≤ 9223372036854775807) :
    Calls Try.prog 24 #[.slice A l.length c, .int .i64 k, .int .i64 n] w (AddPost w (addF l k n)) := by
  have c0 := is_any A c w.heap.size l w h.rd (Nat.le_refl _) (by omega)
  have H := Lib.hid h
  clear h
  unfold AddPost
  by_cases hf : Fine l
  · rw [fineB_t hf] at c0
    by_cases h1 : 1 ≤ n
    · have hP : ∀ w1, InB w1 w1.heap.size A c l → Calls Try.prog 29 #[.slice A l.length c, .int .i64 k, .int .i64 n] w1 (WithPost w1 l k n) := fun w1 ho => with_in A c l k n w1 ho (by omega) hf.one h1 hn2
      unfold WithPost at hP
      cases hb : (putF l k n).2
      · have F := Lib.hid (addF_big ⟨hf, h1⟩ hb)
        rw [hb] at hP
        clear hf hb
        go_enter Try.func24, Try.ntmps24
        go_wp2_with fail
        refine c0.mono ?_
        rintro e w1 ⟨rfl, hb1⟩
        have Hb1 := Lib.hid hb1
        have hi := H.out.below hb1
        have c2 := hP w1 ⟨hi.rd.more hb1.size, hi.cap, hi.nil⟩
        clear hb1 c0 hP hi
        go_wp2_with fail
        refine c2.mono ?_
        rintro e w3 ⟨v3, rfl, hv3⟩
        have Hb3 := Lib.hid (Hb1.out.trans (hv3.bel.mono Hb1.out.size))
        clear hv3 c2
        go_wp2
        go_ret2
        exact ⟨.slice none 0 0, by rw [F.out]; rfl, Hb3.out, by rw [F.out]; exact .inl ⟨rfl, rfl⟩⟩
      · have F := Lib.hid (addF_ok ⟨hf, h1⟩ hb)
        rw [hb] at hP
        clear hf hb
        go_enter Try.func24, Try.ntmps24
        go_wp2_with fail
        refine c0.mono ?_
        rintro e w1 ⟨rfl, hb1⟩
        have Hb1 := Lib.hid hb1
        have hi := H.out.below hb1
        have c2 := hP w1 ⟨hi.rd.more hb1.size, hi.cap, hi.nil⟩
        clear hb1 c0 hP hi
        go_wp2_with fail
        refine c2.mono ?_
        rintro e w3 ⟨v3, rfl, hv3⟩
        have Hb3 := Lib.hid (Hb1.out.trans (hv3.bel.mono Hb1.out.size))
        have HV := Lib.hid (Bks.of_own hv3.own)
        clear hv3 c2
        go_wp2
        go_ret2
        exact ⟨v3, by rw [F.out]; rfl, Hb3.out, by rw [F.out]; exact HV.out⟩
    · have F := Lib.hid (addF_bad (l := l) (k := k) (n := n) (fun h => h1 h.2))
      clear hf
      go_enter Try.func24, Try.ntmps24
      go_wp2_with fail
      refine c0.mono ?_
      rintro e w1 ⟨rfl, hb1⟩
      have Hb1 := Lib.hid hb1
      clear hb1 c0
      have h1' : n < 1 := by omega
      go_wp2
      go_ret2
      exact ⟨.slice none 0 0, by rw [F.out]; rfl, Hb1.out, by rw [F.out]; exact .inl ⟨rfl, rfl⟩⟩
  · rw [fineB_f hf] at c0
    have F := Lib.hid (addF_bad (l := l) (k := k) (n := n) (fun h => hf h.1))
    clear hf
    go_enter Try.func24, Try.ntmps24
    go_wp2_with fail
    refine c0.mono ?_
    rintro e w1 ⟨rfl, hb1⟩
    have Hb1 := Lib.hid hb1
    clear hb1 c0
    go_wp2
    go_ret2
    exact ⟨.slice none 0 0, by rw [F.out]; rfl, Hb1.out, by rw [F.out]; exact .inl ⟨rfl, rfl⟩⟩
end Go.Proofs.Ythhklbjhlfejfaa.Hi
