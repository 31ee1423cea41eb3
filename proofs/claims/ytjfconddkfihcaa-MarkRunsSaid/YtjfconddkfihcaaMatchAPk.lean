/- match.leaf: the walk. -/
import Derived.Laws.EntriesVeiled
import Derived.Test.YtjfconddkfihcaaLeafPk
namespace Go.Proofs.Ytjfconddkfihcaa.Qy
open Go.RowKit Go.Proofs.Ytjfconddkfihcaa Go.Proofs.Ytjfconddkfihcaa.Ut Go.Proofs.Ytjfconddkfihcaa.Tk
set_option maxRecDepth 20000
set_option linter.unusedSimpArgs false

theorem leafC (F : Option Addr) (fn fc : Nat) (fs : List (ByteArray × ByteArray)) (qb ab g : Nat) (k : Int) (nm : ByteArray) (ws : List ByteArray) (W : World) (hF : Reads W W.heap.size 2 F fn (fldC fs)) (hn : fs.length = fn) (hn2 : fn ≤ 8796093021952) (hs : ∀ f ∈ fs, f.2.size ≤ 1000000)
    (hq : QBox W qb nm ws) (hab : W.cell? ⟨ab, 0, none⟩ = some (.func (.func g) #[] #[.pointer (some ⟨qb, 0, none⟩)])) (hcf : ∀ args wx, (callFunc g args).run Try.prog wx = .ok (.enter g args) wx)
    (hg : ∀ T TA tc wx, T.length ≤ 1000000 → Reads wx wx.heap.size 2 TA T.length (tokC (placed T)) → Below W.heap.size W wx → Calls Try.prog g #[.slice TA T.length tc, .pointer (some ⟨qb, 0, none⟩)] wx fun e w' => e = .returned (.bool (leafT k ws T)) ∧ Below wx.heap.size wx w') :
    Calls Try.prog 112 #[.slice F fn fc, .func (.func 113) #[] #[.pointer (some ⟨qb, 0, none⟩), .pointer (some ⟨ab, 0, none⟩)]] W fun e w' => e = .returned (.bool (leafB k nm ws fs)) ∧ Below W.heap.size W w' := by
  have c1 := containsFld F fn fc fs 113 #[.pointer (some ⟨qb, 0, none⟩), .pointer (some ⟨ab, 0, none⟩)] (fun i => (fs[i]?).any (fun f => f.1.data.toList == nm.data.toList && leafT k ws (words f.2.data.toList))) W
    (fun args wx => callFunc_enter Try.func113 (by kernel_rfl) rfl args wx) hF hn hn2 (fun i h wx hbx => by
      have hsz := hs _ (List.getElem_mem h)
      have hwl := words_len fs[i].2
      have hla := World.block_lt_of_cell? W _ hab
      have c := leaf3_any fs[i].1 fs[i].2 qb ab g nm ws (leafT k ws (words fs[i].2.data.toList)) wx hsz (hq.grow hbx) ((hbx.cell (p := ⟨ab, 0, none⟩) hla).trans hab) hcf
        (fun TA tc wy hR hby => hg _ TA tc wy (by omega) hR (hbx.trans (hby.mono hbx.size)))
      rw [tl, tl] at c
      rw [List.getElem?_eq_getElem h]
      simpa using c)
  have e := any_idx fs (fun f => f.1.data.toList == nm.data.toList && leafT k ws (words f.2.data.toList))
  rw [hn] at e
  rw [e] at c1
  exact c1

/-- A new block of a query, behind others. -/
theorem qbox_new {w : World} {k : Int} {nm : ByteArray} {ws : List ByteArray} {WA C : Option Addr} {m wc c1 c2 : Nat} (hW : Reads w w.heap.size 1 WA m (ws.map Value.string)) (hm : ws.length = m) (hm2 : m ≤ 8796093021952) :
    QBox (w.alloc (.cells #[.int .i64 k, .string nm, .slice WA m wc, .slice C c1 c2] 37)) w.heap.size nm ws := by
  have hB := Blk.new w 37 #[.int .i64 k, .string nm, .slice WA m wc, .slice C c1 c2]
  exact ⟨hB.cell 1, WA, m, wc, hB.cell 2, reads_grow ((Below.refl _ _).alloc (Nat.le_refl _) _) hW, hm, hm2⟩

set_option maxHeartbeats 1600000 in
theorem leaf_any (k : Int) (nm : ByteArray) (ws : List ByteArray) (WA CA : Option Addr) (m wc c1 c2 : Nat) (t : Int) (F : Option Addr) (fn fc : Nat) (fs : List (ByteArray × ByteArray)) (w : World) (hk : k = 2 ∨ k = 3 ∨ k = 4)
    (hW : Reads w w.heap.size 1 WA m (ws.map Value.string)) (hm : ws.length = m) (hm2 : m ≤ 8796093021952) (hF : Reads w w.heap.size 2 F fn (fldC fs)) (hn : fs.length = fn) (hn2 : fn ≤ 8796093021952) (hs : ∀ f ∈ fs, f.2.size ≤ 1000000) :
    Calls Try.prog 83 #[.agg #[.int .i64 k, .string nm, .slice WA m wc, .slice CA c1 c2], .agg #[.int .i64 t, .slice F fn fc]] w fun e w' => e = .returned (.bool (leafB k nm ws fs)) ∧ Below w.heap.size w w' := by
  have hb2 : Below w.heap.size w (w.alloc (.cells #[.int .i64 k, .string nm, .slice WA m wc, .slice CA c1 c2] 37)) := (Below.refl _ _).alloc (Nat.le_refl _) _
  have q2 := qbox_new (k := k) (nm := nm) (wc := wc) (C := CA) (c1 := c1) (c2 := c2) hW hm hm2
  have hb23 : Below (w.alloc (.cells #[.int .i64 k, .string nm, .slice WA m wc, .slice CA c1 c2] 37)).heap.size (w.alloc (.cells #[.int .i64 k, .string nm, .slice WA m wc, .slice CA c1 c2] 37)) ((w.alloc (.cells #[.int .i64 k, .string nm, .slice WA m wc, .slice CA c1 c2] 37)).alloc (.cells #[.int .i64 t, .slice F fn fc] 49)) := (Below.refl _ _).alloc (Nat.le_refl _) _
  have q3 := q2.grow hb23
  have hb3 := hb2.trans (hb23.mono hb2.size)
  have hF3 := reads_grow hb3 hF
  have hz : ((w.alloc (.cells #[.int .i64 k, .string nm, .slice WA m wc, .slice CA c1 c2] 37)).alloc (.cells #[.int .i64 t, .slice F fn fc] 49)).heap.size = w.heap.size + 1 + 1 := by simp
  have hC : ∀ g, (∀ args wx, (callFunc g args).run Try.prog wx = .ok (.enter g args) wx) → (∀ W T TA tc wx, QBox W w.heap.size nm ws → T.length ≤ 1000000 → Reads wx wx.heap.size 2 TA T.length (tokC (placed T)) → Below W.heap.size W wx → Calls Try.prog g #[.slice TA T.length tc, .pointer (some ⟨w.heap.size, 0, none⟩)] wx fun e w' => e = .returned (.bool (leafT k ws T)) ∧ Below wx.heap.size wx w') →
      Calls Try.prog 112 #[.slice F fn fc, .func (.func 113) #[] #[.pointer (some ⟨w.heap.size, 0, none⟩), .pointer (some ⟨w.heap.size + 1 + 1, 0, none⟩)]]
        (((w.alloc (.cells #[.int .i64 k, .string nm, .slice WA m wc, .slice CA c1 c2] 37)).alloc (.cells #[.int .i64 t, .slice F fn fc] 49)).alloc (.cells #[.func (.func g) #[] #[.pointer (some ⟨w.heap.size, 0, none⟩)]] 139))
        fun e w' => e = .returned (.bool (leafB k nm ws fs)) ∧ Below w.heap.size w w' := fun g hcf hg => by
    have hb35 : Below ((w.alloc (.cells #[.int .i64 k, .string nm, .slice WA m wc, .slice CA c1 c2] 37)).alloc (.cells #[.int .i64 t, .slice F fn fc] 49)).heap.size ((w.alloc (.cells #[.int .i64 k, .string nm, .slice WA m wc, .slice CA c1 c2] 37)).alloc (.cells #[.int .i64 t, .slice F fn fc] 49))
      (((w.alloc (.cells #[.int .i64 k, .string nm, .slice WA m wc, .slice CA c1 c2] 37)).alloc (.cells #[.int .i64 t, .slice F fn fc] 49)).alloc (.cells #[.func (.func g) #[] #[.pointer (some ⟨w.heap.size, 0, none⟩)]] 139)) := (Below.refl _ _).alloc (Nat.le_refl _) _
    have q5 := q3.grow hb35
    have hB5 := Blk.new ((w.alloc (.cells #[.int .i64 k, .string nm, .slice WA m wc, .slice CA c1 c2] 37)).alloc (.cells #[.int .i64 t, .slice F fn fc] 49)) 139 #[.func (.func g) #[] #[.pointer (some ⟨w.heap.size, 0, none⟩)]]
    rw [hz] at hB5
    have hb5 := hb3.trans (hb35.mono hb3.size)
    refine (leafC F fn fc fs w.heap.size (w.heap.size + 1 + 1) g k nm ws _ (reads_grow hb35 hF3) hn hn2 hs q5 (hB5.cell 0) hcf (fun T TA tc wx h1 h2 h3 => hg _ T TA tc wx q5 h1 h2 h3)).mono ?_
    rintro e w' ⟨rfl, hb⟩
    exact ⟨rfl, hb5.trans (hb.mono hb5.size)⟩
  have hb5' : ∀ g, Below w.heap.size w (((w.alloc (.cells #[.int .i64 k, .string nm, .slice WA m wc, .slice CA c1 c2] 37)).alloc (.cells #[.int .i64 t, .slice F fn fc] 49)).alloc (.cells #[.func (.func g) #[] #[.pointer (some ⟨w.heap.size, 0, none⟩)]] 139)) := fun g => hb3.alloc hb3.size _
  have HC := Lib.hid hC
  have Hb5 := Lib.hid hb5'
  have Hm := Lib.hid hm
  clear hW hF hn hs hb2 q2 hb23 q3 hb3 hF3 hz hC hb5' hm
  rcases hk with rfl | rfl | rfl
  · by_cases h1 : m = 1
    · have h1' : ((m : Int) != 1) = false := by rw [bne_eq_false_iff_eq]; omega
      have C := Lib.hid (HC.out 109 (fun args wx => callFunc_enter Try.func109 (by kernel_rfl) rfl args wx) (fun W T TA tc wx hq h1' h2 h3 => by
        have c := leaf1_any TA T.length tc T w.heap.size nm ws wx h2 rfl h1' (hq.grow h3)
        have e : leafT 2 ws T = decide (0 < (phr T ws).length) := by unfold leafT; simp [Hm.out, h1]
        rw [e]; exact c))
      clear h1
      go_enter Try.func83, Try.ntmps83
      go_wp2_with (go_at_call 112; refine C.out.mono ?_; rintro e w1 ⟨rfl, hb1⟩)
      go_ret
      exact ⟨rfl, hb1⟩
    · have h1' : ((m : Int) != 1) = true := by rw [bne_iff_ne]; omega
      have e : leafB 2 nm ws fs = false := by
        have : ∀ T, leafT 2 ws T = false := fun T => by unfold leafT; simp [Hm.out, h1]
        unfold leafB; simp [this]
      have Fin := Lib.hid e
      clear e h1
      go_enter Try.func83, Try.ntmps83
      go_wp2
      go_ret
      exact ⟨by rw [Fin.out]; rfl, Hb5.out _⟩
  · by_cases h1 : m = 1
    · have h1' : ((m : Int) != 1) = false := by rw [bne_eq_false_iff_eq]; omega
      obtain ⟨p, rfl⟩ : ∃ p, ws = [p] := List.length_eq_one_iff.1 (by rw [Hm.out, h1])
      have C := Lib.hid (HC.out 110 (fun args wx => callFunc_enter Try.func110 (by kernel_rfl) rfl args wx) (fun W T TA tc wx hq h1' h2 h3 => by
        have c := leaf2_any TA T.length tc T w.heap.size nm p wx h2 rfl h1' (hq.grow h3)
        have e : leafT 3 [p] T = T.any (begins · p) := by unfold leafT; simp
        rw [e]; exact c))
      clear h1
      go_enter Try.func83, Try.ntmps83
      go_wp2_with (go_at_call 112; refine C.out.mono ?_; rintro e w1 ⟨rfl, hb1⟩)
      go_ret
      exact ⟨rfl, hb1⟩
    · have h1' : ((m : Int) != 1) = true := by rw [bne_iff_ne]; omega
      have e : leafB 3 nm ws fs = false := by
        have : ∀ T, leafT 3 ws T = false := fun T => by
          unfold leafT
          simp only [if_true]
          split
          · rename_i p; exact absurd Hm.out (by simp; omega)
          · rfl
        unfold leafB; simp [this]
      have Fin := Lib.hid e
      clear e h1
      go_enter Try.func83, Try.ntmps83
      go_wp2
      go_ret
      exact ⟨by rw [Fin.out]; rfl, Hb5.out _⟩
  · have C := Lib.hid (HC.out 109 (fun args wx => callFunc_enter Try.func109 (by kernel_rfl) rfl args wx) (fun W T TA tc wx hq h1' h2 h3 => by
      have c := leaf1_any TA T.length tc T w.heap.size nm ws wx h2 rfl h1' (hq.grow h3)
      have e : leafT 4 ws T = decide (0 < (phr T ws).length) := by unfold leafT; simp
      rw [e]; exact c))
    go_enter Try.func83, Try.ntmps83
    go_wp2_with (go_at_call 112; refine C.out.mono ?_; rintro e w1 ⟨rfl, hb1⟩)
    go_ret
    exact ⟨rfl, hb1⟩
end Go.Proofs.Ytjfconddkfihcaa.Qy
