/- slices.IndexFunc, slices.ContainsFunc at tokens, fields, queries, over whatever function value. -/
import Derived.Test.YtjeahdnbpiahaaaGreatPkGroupCountsRow14
namespace Go.Proofs.YtjeahdnbpiahaaaGreat.Qy
open Go.RowKit Go.Proofs.YtjeahdnbpiahaaaGreat Go.Proofs.YtjeahdnbpiahaaaGreat.Ut Go.Proofs.YtjeahdnbpiahaaaGreat.Tk
set_option maxRecDepth 20000

/-- A call of a function that has a body: it is entered. -/
theorem callFunc_enter {P : Program} {f : FuncId} {fn : Func} {c : Code} (hf : P.funcs[f]? = some fn) (hname : (fn.name == "runtime.NumGoroutine") = false) (hb : fn.body = some c) (args : Array Value) (w : World) :
    (callFunc f args).run P w = .ok (.enter f args) w := by
  have h1 : fn.name ≠ "runtime.NumGoroutine" := by simpa using hname
  simp [callFunc, hf, h1, hb]

set_option maxHeartbeats 400000 in
theorem containsTok (TA : Option Addr) (n tc : Nat) (T : List (List UInt8)) (f : Nat) (lb : Array Value) (p : Nat → Bool) (w : World) (hcf : ∀ args wx, (callFunc f args).run Tryz.prog wx = .ok (.enter f args) wx) (hT : Reads w w.heap.size 2 TA n (tokC (placed T))) (hn : T.length = n) (hn2 : n ≤ 1048576)
    (hf : ∀ i (h : i < T.length) wx, Below w.heap.size w wx → Calls Tryz.prog f (#[.agg #[.string (str T[i]), .int .i64 (i : Int)]] ++ lb) wx fun e w' => e = .returned (.bool (p i)) ∧ Below wx.heap.size wx w') :
    Calls Tryz.prog 101 #[.slice TA n tc, .func (.func f) #[] lb] w fun e w' => e = .returned (.bool ((List.range n).any p)) ∧ Below w.heap.size w w' := by
  have c1 := indexTok TA n tc T f lb p w hcf hT hn hn2 hf
  have Fin := Lib.hid (idxF_any p n)
  clear hT hn hn2 hf hcf
  generalize idxF p n = z at *
  go_enter Tryz.func101, Tryz.ntmps101
  go_wp2_with fail
  refine c1.mono ?_
  rintro e w1 ⟨rfl, hb1⟩
  have Hb1 := Lib.hid hb1
  clear hb1 c1
  go_wp2
  go_ret
  exact ⟨by rw [← Fin.out]; simp, Hb1.out⟩

set_option maxHeartbeats 800000 in
theorem indexFld (TA : Option Addr) (n tc : Nat) (T : List (ByteArray × ByteArray)) (f : Nat) (lb : Array Value) (p : Nat → Bool) (w : World) (hcf : ∀ args wx, (callFunc f args).run Tryz.prog wx = .ok (.enter f args) wx) (hT : Reads w w.heap.size 2 TA n (fldC T)) (hn : T.length = n) (hn2 : n ≤ 8796093021952)
    (hf : ∀ i (h : i < T.length) wx, Below w.heap.size w wx → Calls Tryz.prog f (#[.agg #[.string T[i].1, .string T[i].2]] ++ lb) wx fun e w' => e = .returned (.bool (p i)) ∧ Below wx.heap.size wx w') :
    Calls Tryz.prog 104 #[.slice TA n tc, .func (.func f) #[] lb] w fun e w' => e = .returned (.int .i64 (idxF p n)) ∧ Below w.heap.size w w' := by
  have HT := Lib.hid hT
  have Hn := Lib.hid hn
  have Hf := Lib.hid hf
  clear hT hn hf
  go_enter Tryz.func104, Tryz.ntmps104
  go_wp2
  go_loopw [8] (fun i wr => ∃ k : Nat, k ≤ n ∧ i = .int .i64 k ∧ (∀ j, j < k → p j = false) ∧ Below w.heap.size w wr) (fun i _ => n - (intOf i).toNat)
  case atStart => exact ⟨0, Nat.zero_le _, rfl, fun j hj => by omega, Below.refl _ _⟩
  case round =>
    obtain ⟨k, hk, rfl, hal, hb⟩ := hrel
    have Hal := Lib.hid hal
    have Hb := Lib.hid hb
    clear hal hb
    by_cases hlt : k < n
    · obtain ⟨tb, tq, rfl, htb, hc1, hc2⟩ := fields_at HT.out (k := k) (by rw [Hn.out]; exact hlt)
      have hd1 := (Hb.out.cell (p := ⟨tb, tq + k * 2, none⟩) htb).trans hc1
      have hd2 := (Hb.out.cell (p := ⟨tb, tq + k * 2 + 1, none⟩) htb).trans hc2
      have c1 := Hf.out k (by rw [Hn.out]; exact hlt) wr Hb.out
      clear hc1 hc2
      have Hs : Hid (∀ b, p k = b → (b = true → idxF p n = (k : Int)) ∧ (b = false → ∀ j, j < k + 1 → p j = false)) := Lib.hid (fun b hb => ⟨fun e => idxF_hit p n k hlt Hal.out (by rw [hb, e]), fun e j hj => by
        by_cases hjk : j = k
        · rw [hjk, hb, e]
        · exact Hal.out j (by omega)⟩)
      generalize (T[k]'(by rw [Hn.out]; exact hlt)) = x at *
      cases hp : p k with
      | true =>
        have Fin := Lib.hid ((Hs.out _ hp).1 rfl)
        rw [hp] at c1
        clear hp Hs
        go_wp2_with fail
        refine c1.mono ?_
        rintro e w2 ⟨rfl, hb2⟩
        have Hb2 := Lib.hid (Hb.out.trans (hb2.mono Hb.out.size))
        clear hb2 c1
        go_wp2
        go_ret
        exact ⟨by rw [Fin.out]; rfl, Hb2.out⟩
      | false =>
        have Hn2 := Lib.hid ((Hs.out _ hp).2 rfl)
        rw [hp] at c1
        clear hp Hs
        go_wp2_with fail
        refine c1.mono ?_
        rintro e w2 ⟨rfl, hb2⟩
        have Hb2 := Lib.hid (Hb.out.trans (hb2.mono Hb.out.size))
        clear hb2 c1
        go_wp2
        go_roundw
        case rel => exact ⟨k + 1, by omega, by go_num, Hn2.out, Hb2.out⟩
        case measure => simp [intOf]; omega
    · obtain rfl : k = n := by omega
      have Fin := Lib.hid (idxF_no p k Hal.out)
      go_wp2
      go_ret
      exact ⟨by rw [Fin.out]; rfl, Hb.out⟩

set_option maxHeartbeats 400000 in
theorem containsFld (TA : Option Addr) (n tc : Nat) (T : List (ByteArray × ByteArray)) (f : Nat) (lb : Array Value) (p : Nat → Bool) (w : World) (hcf : ∀ args wx, (callFunc f args).run Tryz.prog wx = .ok (.enter f args) wx) (hT : Reads w w.heap.size 2 TA n (fldC T)) (hn : T.length = n) (hn2 : n ≤ 8796093021952)
    (hf : ∀ i (h : i < T.length) wx, Below w.heap.size w wx → Calls Tryz.prog f (#[.agg #[.string T[i].1, .string T[i].2]] ++ lb) wx fun e w' => e = .returned (.bool (p i)) ∧ Below wx.heap.size wx w') :
    Calls Tryz.prog 78 #[.slice TA n tc, .func (.func f) #[] lb] w fun e w' => e = .returned (.bool ((List.range n).any p)) ∧ Below w.heap.size w w' := by
  have c1 := indexFld TA n tc T f lb p w hcf hT hn hn2 hf
  have Fin := Lib.hid (idxF_any p n)
  clear hT hn hn2 hf hcf
  generalize idxF p n = z at *
  go_enter Tryz.func78, Tryz.ntmps78
  go_wp2_with fail
  refine c1.mono ?_
  rintro e w1 ⟨rfl, hb1⟩
  have Hb1 := Lib.hid hb1
  clear hb1 c1
  go_wp2
  go_ret
  exact ⟨by rw [← Fin.out]; simp, Hb1.out⟩

set_option maxHeartbeats 800000 in
theorem indexQry (TA : Option Addr) (n tc : Nat) (k0 : Int) (nm0 : ByteArray) (ws0 : List ByteArray) (A0 : Option Addr) (n0 : Nat) (T : List Q) (f : Nat) (lb : Array Value) (p : Nat → Bool) (w : World) (hcf : ∀ args wx, (callFunc f args).run Tryz.prog wx = .ok (.enter f args) wx) (hT : QIs w w.heap.size k0 nm0 ws0 T A0 n0 TA n) (hn : T.length = n) (hn2 : n ≤ 8796093021952)
    (hf : ∀ i (h : i < T.length) a0 a1 a2 a3 wx, QAt w w.heap.size T[i] [a0, a1, a2, a3] → Below w.heap.size w wx → Calls Tryz.prog f (#[.agg #[a0, a1, a2, a3]] ++ lb) wx fun e w' => e = .returned (.bool (p i)) ∧ Below wx.heap.size wx w') :
    Calls Tryz.prog 80 #[.slice TA n tc, .func (.func f) #[] lb] w fun e w' => e = .returned (.int .i64 (idxF p n)) ∧ Below w.heap.size w w' := by
  have HT := Lib.hid hT
  have Hn := Lib.hid hn
  have Hf := Lib.hid hf
  clear hT hn hf
  go_enter Tryz.func80, Tryz.ntmps80
  go_wp2
  go_loopw [8] (fun i wr => ∃ k : Nat, k ≤ n ∧ i = .int .i64 k ∧ (∀ j, j < k → p j = false) ∧ Below w.heap.size w wr) (fun i _ => n - (intOf i).toNat)
  case atStart => exact ⟨0, Nat.zero_le _, rfl, fun j hj => by omega, Below.refl _ _⟩
  case round =>
    obtain ⟨k, hk, rfl, hal, hb⟩ := hrel
    have Hal := Lib.hid hal
    have Hb := Lib.hid hb
    clear hal hb
    by_cases hlt : k < n
    · obtain ⟨tb, tq, A', n', c', C', m', d', rfl, htb, hq, hc0, hc1, hc2, hc3⟩ := HT.out.at_ (i := k) (by rw [Hn.out]; exact hlt)
      have hd0 := (Hb.out.cell (p := ⟨tb, tq + k * 4, none⟩) htb).trans hc0
      have hd1 := (Hb.out.cell (p := ⟨tb, tq + k * 4 + 1, none⟩) htb).trans hc1
      have hd2 := (Hb.out.cell (p := ⟨tb, tq + k * 4 + 2, none⟩) htb).trans hc2
      have hd3 := (Hb.out.cell (p := ⟨tb, tq + k * 4 + 3, none⟩) htb).trans hc3
      have c1 := Hf.out k (by rw [Hn.out]; exact hlt) _ _ _ _ wr hq Hb.out
      clear hc0 hc1 hc2 hc3 hq
      have Hs : Hid (∀ b, p k = b → (b = true → idxF p n = (k : Int)) ∧ (b = false → ∀ j, j < k + 1 → p j = false)) := Lib.hid (fun b hb => ⟨fun e => idxF_hit p n k hlt Hal.out (by rw [hb, e]), fun e j hj => by
        by_cases hjk : j = k
        · rw [hjk, hb, e]
        · exact Hal.out j (by omega)⟩)
      generalize (T[k]'(by rw [Hn.out]; exact hlt)).kind = x0 at *
      generalize (T[k]'(by rw [Hn.out]; exact hlt)).name = x1 at *
      cases hp : p k with
      | true =>
        have Fin := Lib.hid ((Hs.out _ hp).1 rfl)
        rw [hp] at c1
        clear hp Hs
        go_wp2_with fail
        refine c1.mono ?_
        rintro e w2 ⟨rfl, hb2⟩
        have Hb2 := Lib.hid (Hb.out.trans (hb2.mono Hb.out.size))
        clear hb2 c1
        go_wp2
        go_ret
        exact ⟨by rw [Fin.out]; rfl, Hb2.out⟩
      | false =>
        have Hn2 := Lib.hid ((Hs.out _ hp).2 rfl)
        rw [hp] at c1
        clear hp Hs
        go_wp2_with fail
        refine c1.mono ?_
        rintro e w2 ⟨rfl, hb2⟩
        have Hb2 := Lib.hid (Hb.out.trans (hb2.mono Hb.out.size))
        clear hb2 c1
        go_wp2
        go_roundw
        case rel => exact ⟨k + 1, by omega, by go_num, Hn2.out, Hb2.out⟩
        case measure => simp [intOf]; omega
    · obtain rfl : k = n := by omega
      have Fin := Lib.hid (idxF_no p k Hal.out)
      go_wp2
      go_ret
      exact ⟨by rw [Fin.out]; rfl, Hb.out⟩

set_option maxHeartbeats 400000 in
theorem containsQry (TA : Option Addr) (n tc : Nat) (k0 : Int) (nm0 : ByteArray) (ws0 : List ByteArray) (A0 : Option Addr) (n0 : Nat) (T : List Q) (f : Nat) (lb : Array Value) (p : Nat → Bool) (w : World) (hcf : ∀ args wx, (callFunc f args).run Tryz.prog wx = .ok (.enter f args) wx) (hT : QIs w w.heap.size k0 nm0 ws0 T A0 n0 TA n) (hn : T.length = n) (hn2 : n ≤ 8796093021952)
    (hf : ∀ i (h : i < T.length) a0 a1 a2 a3 wx, QAt w w.heap.size T[i] [a0, a1, a2, a3] → Below w.heap.size w wx → Calls Tryz.prog f (#[.agg #[a0, a1, a2, a3]] ++ lb) wx fun e w' => e = .returned (.bool (p i)) ∧ Below wx.heap.size wx w') :
    Calls Tryz.prog 57 #[.slice TA n tc, .func (.func f) #[] lb] w fun e w' => e = .returned (.bool ((List.range n).any p)) ∧ Below w.heap.size w w' := by
  have c1 := indexQry TA n tc k0 nm0 ws0 A0 n0 T f lb p w hcf hT hn hn2 hf
  have Fin := Lib.hid (idxF_any p n)
  clear hT hn hn2 hf hcf
  generalize idxF p n = z at *
  go_enter Tryz.func57, Tryz.ntmps57
  go_wp2_with fail
  refine c1.mono ?_
  rintro e w1 ⟨rfl, hb1⟩
  have Hb1 := Lib.hid hb1
  clear hb1 c1
  go_wp2
  go_ret
  exact ⟨by rw [← Fin.out]; simp, Hb1.out⟩
end Go.Proofs.YtjeahdnbpiahaaaGreat.Qy
