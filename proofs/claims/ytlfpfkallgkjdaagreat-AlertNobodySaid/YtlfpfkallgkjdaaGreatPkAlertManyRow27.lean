/- slices.IndexFunc, slices.ContainsFunc at texts, slices.IndexFunc at numbers, over whatever function value (printed by gen_alx.py). -/
import Derived.Sort.OwnSortedInts
import Derived.Maps.RangeWalk
import Derived.Maps.OwnOps
import Derived.Maps.AppendAt
import Derived.Test.YtlfpfkallgkjdaaGreatPkAlertManyRow24
import Derived.Test.YtlfpfkallgkjdaaGreatPkAlertManyRow19
import Derived.Test.YtlfpfkallgkjdaaGreatPkAlertManyRow25
import Derived.Test.YtlfpfkallgkjdaaGreatShelfPk
section
namespace Go.Proofs.YtlfpfkallgkjdaaGreat.Al
open Go.RowKit Go.Proofs.YtlfpfkallgkjdaaGreat Go.Proofs.YtlfpfkallgkjdaaGreat.Ut Go.Proofs.YtlfpfkallgkjdaaGreat.Tk Go.Proofs.YtlfpfkallgkjdaaGreat.Qy
set_option maxRecDepth 20000
set_option linter.unusedVariables false
set_option linter.unusedSimpArgs false

/-- Numbers, as cells. -/
def itv (l : List Int) : List Value := l.map (Value.int .i64)
theorem itv_len (l : List Int) : (itv l).length = l.length := by simp [itv]
theorem itv_get (l : List Int) (k : Nat) (h : k < l.length) : (itv l)[k]? = some (.int .i64 l[k]) := by unfold itv; rw [List.getElem?_map, List.getElem?_eq_getElem h]; rfl
theorem bsv_get (l : List ByteArray) (k : Nat) (h : k < l.length) : (bsv l)[k]? = some (.string l[k]) := by unfold bsv; rw [List.getElem?_map, List.getElem?_eq_getElem h]; rfl

set_option maxHeartbeats 800000 in
theorem indexStr (TA : Option Addr) (n tc : Nat) (T : List ByteArray) (f : Nat) (lb : Array Value) (p : Nat → Bool) (w : World) (hcf : ∀ args wx, (callFunc f args).run Tryz.prog wx = .ok (.enter f args) wx) (hT : Reads w w.heap.size 1 TA n (bsv T)) (hn : T.length = n) (hn2 : n ≤ 8796093021952)
    (hf : ∀ i (h : i < T.length) wx, Below w.heap.size w wx → Calls Tryz.prog f (#[.string T[i]] ++ lb) wx fun e w' => e = .returned (.bool (p i)) ∧ Below wx.heap.size wx w') :
    Calls Tryz.prog 77 #[.slice TA n tc, .func (.func f) #[] lb] w fun e w' => e = .returned (.int .i64 (idxF p n)) ∧ Below w.heap.size w w' := by
  have HT := Lib.hid hT
  have Hn := Lib.hid hn
  have Hf := Lib.hid hf
  clear hT hn hf
  go_enter Tryz.func77, Tryz.ntmps77
  go_wp2
  go_loopw [8] (fun i wr => ∃ k : Nat, k ≤ n ∧ i = .int .i64 k ∧ (∀ j, j < k → p j = false) ∧ Below w.heap.size w wr) (fun i _ => n - (intOf i).toNat)
  case atStart => exact ⟨0, Nat.zero_le _, rfl, fun j hj => by omega, Below.refl _ _⟩
  case round =>
    obtain ⟨k, hk, rfl, hal, hb⟩ := hrel
    have Hal := Lib.hid hal
    have Hb := Lib.hid hb
    clear hal hb
    by_cases hlt : k < n
    · obtain ⟨tb, tq, rfl, htb, hcl⟩ := HT.out.2 (by omega)
      have hc1 := hcl k _ (bsv_get T k (by rw [Hn.out]; exact hlt))
      have hd1 := (Hb.out.cell (p := ⟨tb, tq + k, none⟩) htb).trans hc1
      have c1 := Hf.out k (by rw [Hn.out]; exact hlt) wr Hb.out
      clear hc1 hcl
      have Hs : Hid (∀ b, p k = b → (b = true → idxF p n = (k : Int)) ∧ (b = false → ∀ j, j < k + 1 → p j = false)) := Lib.hid (fun b hb => ⟨fun e => idxF_hit p n k hlt Hal.out (by rw [hb, e]), fun e j hj => by
        by_cases hjk : j = k
        · rw [hjk, hb, e]
        · exact Hal.out j (by omega)⟩)
      generalize (T[k]'(by rw [Hn.out]; exact hlt)) = x at *
      cases hp : p k with
      | true =>
        have Fin := Lib.hid ((Hs.out _ hp).1 rfl)
        rw [hp] at c1
        clear hp Hs
        go_wp2_with fail
        refine c1.mono ?_
        rintro e w2 ⟨rfl, hb2⟩
        have Hb2 := Lib.hid (Hb.out.trans (hb2.mono Hb.out.size))
        clear hb2 c1
        go_wp2
        go_ret
        exact ⟨by rw [Fin.out]; rfl, Hb2.out⟩
      | false =>
        have Hn2 := Lib.hid ((Hs.out _ hp).2 rfl)
        rw [hp] at c1
        clear hp Hs
        go_wp2_with fail
        refine c1.mono ?_
        rintro e w2 ⟨rfl, hb2⟩
        have Hb2 := Lib.hid (Hb.out.trans (hb2.mono Hb.out.size))
        clear hb2 c1
        go_wp2
        go_roundw
        case rel => exact ⟨k + 1, by omega, by go_num, Hn2.out, Hb2.out⟩
        case measure => simp [intOf]; omega
    · obtain rfl : k = n := by omega
      have Fin := Lib.hid (idxF_no p k Hal.out)
      go_wp2
      go_ret
      exact ⟨by rw [Fin.out]; rfl, Hb.out⟩

set_option maxHeartbeats 400000 in
theorem containsStr (TA : Option Addr) (n tc : Nat) (T : List ByteArray) (f : Nat) (lb : Array Value) (p : Nat → Bool) (w : World) (hcf : ∀ args wx, (callFunc f args).run Tryz.prog wx = .ok (.enter f args) wx) (hT : Reads w w.heap.size 1 TA n (bsv T)) (hn : T.length = n) (hn2 : n ≤ 8796093021952)
    (hf : ∀ i (h : i < T.length) wx, Below w.heap.size w wx → Calls Tryz.prog f (#[.string T[i]] ++ lb) wx fun e w' => e = .returned (.bool (p i)) ∧ Below wx.heap.size wx w') :
    Calls Tryz.prog 41 #[.slice TA n tc, .func (.func f) #[] lb] w fun e w' => e = .returned (.bool ((List.range n).any p)) ∧ Below w.heap.size w w' := by
  have c1 := indexStr TA n tc T f lb p w hcf hT hn hn2 hf
  have Fin := Lib.hid (idxF_any p n)
  clear hT hn hn2 hf hcf
  generalize idxF p n = z at *
  go_enter Tryz.func41, Tryz.ntmps41
  go_wp2_with fail
  refine c1.mono ?_
  rintro e w1 ⟨rfl, hb1⟩
  have Hb1 := Lib.hid hb1
  clear hb1 c1
  go_wp2
  go_ret
  exact ⟨by rw [← Fin.out]; simp, Hb1.out⟩

set_option maxHeartbeats 800000 in
theorem indexInt (TA : Option Addr) (n tc : Nat) (T : List Int) (f : Nat) (lb : Array Value) (p : Nat → Bool) (w : World) (hcf : ∀ args wx, (callFunc f args).run Tryz.prog wx = .ok (.enter f args) wx) (hT : Reads w w.heap.size 1 TA n (itv T)) (hn : T.length = n) (hn2 : n ≤ 8796093021952)
    (hf : ∀ i (h : i < T.length) wx, Below w.heap.size w wx → Calls Tryz.prog f (#[.int .i64 T[i]] ++ lb) wx fun e w' => e = .returned (.bool (p i)) ∧ Below wx.heap.size wx w') :
    Calls Tryz.prog 80 #[.slice TA n tc, .func (.func f) #[] lb] w fun e w' => e = .returned (.int .i64 (idxF p n)) ∧ Below w.heap.size w w' := by
  have HT := Lib.hid hT
  have Hn := Lib.hid hn
  have Hf := Lib.hid hf
  clear hT hn hf
  go_enter Tryz.func80, Tryz.ntmps80
  go_wp2
  go_loopw [8] (fun i wr => ∃ k : Nat, k ≤ n ∧ i = .int .i64 k ∧ (∀ j, j < k → p j = false) ∧ Below w.heap.size w wr) (fun i _ => n - (intOf i).toNat)
  case atStart => exact ⟨0, Nat.zero_le _, rfl, fun j hj => by omega, Below.refl _ _⟩
  case round =>
    obtain ⟨k, hk, rfl, hal, hb⟩ := hrel
    have Hal := Lib.hid hal
    have Hb := Lib.hid hb
    clear hal hb
    by_cases hlt : k < n
    · obtain ⟨tb, tq, rfl, htb, hcl⟩ := HT.out.2 (by omega)
      have hc1 := hcl k _ (itv_get T k (by rw [Hn.out]; exact hlt))
      have hd1 := (Hb.out.cell (p := ⟨tb, tq + k, none⟩) htb).trans hc1
      have c1 := Hf.out k (by rw [Hn.out]; exact hlt) wr Hb.out
      clear hc1 hcl
      have Hs : Hid (∀ b, p k = b → (b = true → idxF p n = (k : Int)) ∧ (b = false → ∀ j, j < k + 1 → p j = false)) := Lib.hid (fun b hb => ⟨fun e => idxF_hit p n k hlt Hal.out (by rw [hb, e]), fun e j hj => by
        by_cases hjk : j = k
        · rw [hjk, hb, e]
        · exact Hal.out j (by omega)⟩)
      generalize (T[k]'(by rw [Hn.out]; exact hlt)) = x at *
      cases hp : p k with
      | true =>
        have Fin := Lib.hid ((Hs.out _ hp).1 rfl)
        rw [hp] at c1
        clear hp Hs
        go_wp2_with fail
        refine c1.mono ?_
        rintro e w2 ⟨rfl, hb2⟩
        have Hb2 := Lib.hid (Hb.out.trans (hb2.mono Hb.out.size))
        clear hb2 c1
        go_wp2
        go_ret
        exact ⟨by rw [Fin.out]; rfl, Hb2.out⟩
      | false =>
        have Hn2 := Lib.hid ((Hs.out _ hp).2 rfl)
        rw [hp] at c1
        clear hp Hs
        go_wp2_with fail
        refine c1.mono ?_
        rintro e w2 ⟨rfl, hb2⟩
        have Hb2 := Lib.hid (Hb.out.trans (hb2.mono Hb.out.size))
        clear hb2 c1
        go_wp2
        go_roundw
        case rel => exact ⟨k + 1, by omega, by go_num, Hn2.out, Hb2.out⟩
        case measure => simp [intOf]; omega
    · obtain rfl : k = n := by omega
      have Fin := Lib.hid (idxF_no p k Hal.out)
      go_wp2
      go_ret
      exact ⟨by rw [Fin.out]; rfl, Hb.out⟩
end Go.Proofs.YtlfpfkallgkjdaaGreat.Al
end

section
/- slices.Sort at numbers; alert.Len, Query, IDs: the walks (printed by gen_ald.py). -/
namespace Go.Proofs.YtlfpfkallgkjdaaGreat.Al
open Go.RowKit Go.Maps Go.Sort Go.Proofs.YtlfpfkallgkjdaaGreat Go.Proofs.YtlfpfkallgkjdaaGreat.Ut Go.Proofs.YtlfpfkallgkjdaaGreat.Tk Go.Proofs.YtlfpfkallgkjdaaGreat.Qy Go.Proofs.YtlfpfkallgkjdaaGreat.Qp Go.Proofs.YtlfpfkallgkjdaaGreat.Ev Go.Proofs.YtlfpfkallgkjdaaGreat.Mv
set_option linter.unusedVariables false
set_option linter.unusedSimpArgs false
set_option maxRecDepth 20000

theorem int_info : (Tryz.prog.info? 3).map (fun i => (i.zero, i.size, i.bytes)) = some (some (.int .i64 0), 1, 8) := by kernel_rfl
theorem sortI_own {w : World} {base : Nat} {v : Value} {L : List Int} (h : w.ownsRow base 3 1 v L.length (itv L)) (hl : L.length ≤ 4294967296) :
    Calls Tryz.prog 43 #[v] w fun e w' => e = .returned (.tuple #[]) ∧ w'.ownsRow base 3 1 v L.length (itv (L.mergeSort fun x y => decide (x ≤ y))) ∧ w.grownBy w' v.ownBlock := by
  rcases h.2 with ⟨hnil, h0⟩ | ⟨g, cap, cur, hv, hbase, hb, h1, h2, h3, h4⟩
  · subst hnil
    have hL : L = [] := List.length_eq_zero_iff.1 h0
    subst hL
    refine (Tryz.slices_Sort_int_none none 0 w).mono ?_
    rintro e w2 ⟨rfl, rfl⟩
    exact ⟨rfl, by simpa using h, grownBy_refl _ _⟩
  · subst hv
    have hgl : g < w.heap.size := (Array.getElem?_eq_some_iff.1 hb).1
    have hH : Holds (Value.int .i64) w g 0 L.toArray := holds_of_blockI hb (by simpa [itv] using h4)
    refine (Tryz.slices_Sort_int g 0 cap L w hH hgl (by omega)).mono ?_
    rintro e w2 ⟨rfl, n, os, rfl⟩
    exact ⟨rfl, ownsRow_sortedI (by simp) hbase hb h1 h2 h3, grownBy_sortedI _⟩
/-- The way through a map: what has come, what is still to come. -/
structure WayK {κ : Type} (L : KeyLit κ) (D : DataW Value) (F : κ → Option Value) (left : Lit → Bool) (l : List κ) : Prop where
  got : ∀ s ∈ l, (F s).isSome = true ∧ left (L.lit s) = false
  rest : ∀ s, (F s).isSome = true → left (L.lit s) = true ∨ s ∈ l
  nd : l.Nodup
  ofD : ∀ kl, left kl = true → Maps.has D kl = true
theorem WayK.start {D : DataW Value} {κ : Type} {L : KeyLit κ} {F : κ → Option Value} (h : TabV L D F) : WayK L D F (Maps.has D) [] :=
  ⟨fun x hx => (nomatch hx), fun s e => .inl (by rw [h.has, e]), List.nodup_nil, fun _ h => h⟩
theorem WayK.step {D : DataW Value} {κ : Type} [DecidableEq κ] {L : KeyLit κ} {F : κ → Option Value} {left : Lit → Bool} {l : List κ} (h : WayK L D F left l) (hD : TabV L D F) {s : κ} (hl : left (L.lit s) = true) :
    (F s).isSome = true ∧ s ∉ l ∧ WayK L D F (fun z => left z && !z.sameKey (L.lit s)) (l ++ [s]) := by
  have hs : (F s).isSome = true := by
    have h1 := hD.has s
    rw [h.ofD _ hl] at h1
    exact h1.symm
  have hn : s ∉ l := fun hm => by
    have := (h.got s hm).2
    rw [hl] at this
    cases this
  refine ⟨hs, hn, fun x hx => ?_, fun t ht => ?_, ?_, fun kl hk => h.ofD kl (by rw [Bool.and_eq_true] at hk; exact hk.1)⟩
  · rcases List.mem_append.1 hx with hx | hx
    · exact ⟨(h.got x hx).1, by rw [(h.got x hx).2]; rfl⟩
    · rw [List.mem_singleton] at hx
      subst hx
      exact ⟨hs, by rw [same_dec L]; simp⟩
  · rcases h.rest t ht with h1 | h1
    · by_cases e : t = s
      · exact .inr (by rw [e]; simp)
      · left
        rw [h1, same_dec L, decide_eq_false e]
        rfl
    · exact .inr (List.mem_append_left _ h1)
  · rw [List.nodup_append]
    exact ⟨h.nd, by simp, fun a ha b hb e => by rw [List.mem_singleton] at hb; rw [e, hb] at ha; exact hn ha⟩
theorem WayK.fin {D : DataW Value} {κ : Type} {L : KeyLit κ} {F : κ → Option Value} {left : Lit → Bool} {l : List κ} (h : WayK L D F left l) (h0 : ∀ kl, left kl = false) : ∀ s, s ∈ l ↔ (F s).isSome = true := fun s =>
  ⟨fun hs => (h.got s hs).1, fun hs => by
    rcases h.rest s hs with h1 | h1
    · rw [h0] at h1; cases h1
    · exact h1⟩
theorem keyI_inv {key : Value} {kl : Lit} (h : keyOf Tryz.prog 3 key = some kl) : ∃ i : Int, key = .int .i64 i ∧ kl = litI.lit i ∧ I64 i := by
  obtain ⟨x, e1, e2, e3⟩ := Maps.keyOf_int_inv Tryz.underlying3 h
  exact ⟨x, e1, e2, e3⟩
theorem keyS_inv {key : Value} {kl : Lit} (h : keyOf Tryz.prog 9 key = some kl) : ∃ s : ByteArray, key = .string s ∧ kl = litS.lit s ∧ s.size ≤ maxLen := by
  have hk := Tryz.underlying9
  cases key <;> simp [keyOf, hk, mapKey] at h
  exact ⟨_, rfl, h.2.symm, h.1⟩
/-- Numbers of the call's own. -/
def NumsP (w : World) (L : List Int) (e : Ending) (w' : World) : Prop := ∃ v, e = .returned v ∧ w'.ownsRow w.heap.size 3 1 v L.length (itv L) ∧ Below w.heap.size w w'
theorem ids_mem {κ : Type} : ∀ (l : List (Int × κ)) (i : Int), i ∈ l.map (·.1) ↔ (get l i).isSome = true
  | [], i => by simp [get]
  | x :: l, i => by
    have ih := ids_mem l i
    rw [List.map_cons, List.mem_cons, ih, get_cons]
    by_cases h : x.1 = i
    · simp [h]
    · rw [if_neg h]
      constructor
      · rintro (e | e)
        · exact absurd e.symm h
        · exact e
      · exact .inr
theorem ids_up {κ : Type} {l : List (Int × κ)} (h : UpI l) : (l.map (·.1)).Pairwise (· < ·) := by
  rw [List.pairwise_map]
  exact h
theorem ids_sorted {κ : Type} {l : List (Int × κ)} (hu : UpI l) {ks : List Int} (hn : ks.Nodup) (hm : ∀ i, i ∈ ks ↔ (get l i).isSome = true) : (ks.mergeSort fun x y => decide (x ≤ y)) = l.map (·.1) :=
  sort_ids hn (ids_up hu) (fun i => (hm i).trans (ids_mem l i).symm)
section
variable {w : World} {X cn M1 M2 : Nat} {F1 : Int → Option Value} {F2 : ByteArray → Option Nat} {l : List (Int × Kp)}
theorem mapz_len {κ : Type} {P : Program} {k : TypeId} {L : KeyLit κ} {b n : Nat} {f : κ → Option Value} (h : MapZ P k L w b n f) {t e : TypeId} (ht : P.underlying t = some (.map k e)) (ty : TypeId) : (Builtin.len_ #[t] ty #[.map (some b)]).run P w = .ok (.int .i64 (n : Nat)) w := by
  obtain ⟨D, h1, h2, h3⟩ := h.ex
  rw [h1.len ht ty, h3]
theorem len_any (h : AlX w X cn M1 M2 F1 F2 l) : Calls Tryz.prog 11 #[.pointer (some ⟨X, 0, none⟩)] w fun e w' => e = .returned (.int .i64 (l.length : Nat)) ∧ w' = w := by
  have c0 := h.c0
  have c1 := none_no c0
  have hl := fun ty => mapz_len h.al.m1 Tryz.underlying83 ty
  clear h
  go_enter Tryz.func11, Tryz.ntmps11
  go_wp2_with fail
  refine c1.mono ?_
  rintro e w2 ⟨rfl, rfl⟩
  clear c1
  go_wp2
  go_ret
  exact ⟨rfl, rfl⟩
/-- What Query tells. -/
def textOf (o : Option Kp) : ByteArray := match o with
  | some k => k.text
  | none => ByteArray.empty
set_option maxHeartbeats 800000 in
theorem query_any (i : Int) (hi : I64 i) (h : AlX w X cn M1 M2 F1 F2 l) : Calls Tryz.prog 25 #[.pointer (some ⟨X, 0, none⟩), .int .i64 i] w fun e w' => e = .returned (.tuple #[.string (textOf (get l i)), .bool (get l i).isSome]) ∧ Below w.heap.size w w' := by
  have q0 := h.c0
  have c1 := none_no q0
  have HKI := Lib.hid (keyI hi)
  have H := Lib.hid h
  cases hg : get l i with
  | none =>
    have hF := h.al.kn i hg
    have Hb := Lib.hid ((Below.refl w.heap.size w).alloc (Nat.le_refl _) (.cells #[.string ⟨#[]⟩, .int .i64 0, .string ⟨#[]⟩, .slice none 0 0, .slice none 0 0, .slice none 0 0] 92))
    clear h hg
    go_enter Tryz.func25, Tryz.ntmps25
    go_wp2_with fail
    refine c1.mono ?_
    rintro e w2 ⟨rfl, rfl⟩
    clear c1
    go_wp2_with (first
      | (at_lookup; refine wpList_look2_v rfl (.tmp 14) (.tmp 15) 83 92 rfl lawI Tryz.underlying83 (Tryz.zeroValue92 _) M1 l.length F1 rfl H.out.al.m1.v i rfl HKI.out (.agg #[.string ⟨#[]⟩, .int .i64 0, .string ⟨#[]⟩, .slice none 0 0, .slice none 0 0, .slice none 0 0]) false (by rw [hF]; rfl) (by rw [hF]; rfl) ?_)
      | go_in)
    go_ret2
    exact ⟨rfl, Hb.out⟩
  | some k =>
    obtain ⟨v, hFv, hkv⟩ := h.al.kv i k hg
    obtain ⟨A1, n1, c1', A2, n2, c2, A, c, rfl, _, _⟩ := hkv.parts
    have HFV : Hid (F1 i = some _) := Lib.hid hFv
    clear hkv hg h hFv
    generalize hnn : k.needs.length = nn at *
    generalize hqk : k.q.kind = qk at *
    generalize hqn : k.q.name = qn at *
    have Htx : Hid (textOf (some k) = k.text) := Lib.hid rfl
    generalize htx : k.text = tx at *
    clear hnn htx hqk hqn
    have Hb := Lib.hid ((Below.refl w.heap.size w).alloc (Nat.le_refl _) (.cells #[.string tx, .int .i64 qk, .string qn, .slice A1 n1 c1', .slice A2 n2 c2, .slice A nn c] 92))
    go_enter Tryz.func25, Tryz.ntmps25
    go_wp2_with fail
    refine c1.mono ?_
    rintro e w2 ⟨rfl, rfl⟩
    clear c1
    go_wp2_with (first
      | (at_lookup; refine wpList_look2_v rfl (.tmp 14) (.tmp 15) 83 92 rfl lawI Tryz.underlying83 (Tryz.zeroValue92 _) M1 l.length F1 rfl H.out.al.m1.v i rfl HKI.out (.agg #[.string tx, .int .i64 qk, .string qn, .slice A1 n1 c1', .slice A2 n2 c2, .slice A nn c]) true (by rw [HFV.out]; rfl) (by rw [HFV.out]; rfl) ?_)
      | go_in)
    go_ret2
    exact ⟨by rw [Htx.out]; rfl, Hb.out⟩
set_option maxHeartbeats 1600000 in
theorem ids_any (h : AlX w X cn M1 M2 F1 F2 l) (hll : l.length ≤ 4294967295) : Calls Tryz.prog 27 #[.pointer (some ⟨X, 0, none⟩)] w (NumsP w (l.map (·.1))) := by
  obtain ⟨i0, hi0, hz0, hz1, hz2⟩ := info_parts int_info
  have q0 := h.c0
  have c1 := none_no q0
  obtain ⟨D, hown, hT, hsz⟩ := h.al.m1.ex
  have hbl := hown.lt
  have HT := Lib.hid hT
  have hiff := h.al.iff
  have HU := Lib.hid h.al.up
  have HIFF := Lib.hid hiff
  clear h hT hiff
  go_enter Tryz.func27, Tryz.ntmps27
  go_wp2_with fail
  refine c1.mono ?_
  rintro e w' ⟨rfl, rfl⟩
  clear c1
  go_wp2_with (first
    | (at_range; refine wpList_range_own _ rfl _ 83 rfl 3 92 lawI Tryz.underlying83 rawR M1 l.length D rfl hown ?_; intro w0 hrg0 hg0 hs0)
    | go_in)
  go_frame
  have Hb0 := Lib.hid ((Below.refl w.heap.size w).grown hg0 (Nat.le_refl _) (fun j hj => by cases hj))
  have Hsz := Lib.hid hsz
  clear hg0 hown q0 hsz
  go_loopw [3] (fun v wr => ∃ (left : Lit → Bool) (cnt : Nat) (ks : List Int), wr.ranges Tryz.prog 3 rawR M1 w.heap.size l.length D left cnt ∧ ks.length + cnt ≤ l.length ∧ Hid (WayK litI D F1 left ks) ∧ Hid (wr.ownsRow (w.heap.size + 1) 3 1 v ks.length (itv ks)) ∧ Hid (Below w.heap.size w wr) ∧ w.heap.size < wr.heap.size)
    (fun _ wr => wr.rangeLeft M1 w.heap.size)
  case atStart => exact ⟨_, _, [], hrg0, by have := Hsz.out; simp only [List.length_nil]; omega, Lib.hid (WayK.start HT.out), Lib.hid (World.ownsRow_nil _ _ _ _), Hb0, by omega⟩
  case round =>
    obtain ⟨left, cnt, ks, hrg, hcs, hW, hO, hB, hzr⟩ := hrel
    go_wp2_with (first
      | (at_next; refine wpList_next_ranges _ rfl _ rfl 3 lawI rawR (Value.int .i64) (fun v : Value => v) (fun key kl hkey => by obtain ⟨x, rfl, _⟩ := keyI_inv hkey; exact ⟨x, rfl⟩) (fun v y hv => ⟨v, rfl⟩) M1 w.heap.size _ _ _ _ rfl hrg ?_ ?_)
      | go_in)
    · intro hc0 hl0
      have hfin := hW.out.fin hl0
      have hst := ids_sorted HU.out hW.out.nd (fun i => (hfin i).trans (by rw [HIFF.out i]))
      have HST := Lib.hid hst
      have CS := Lib.hid (sortI_own hO.out (by omega))
      have HBS := Lib.hid (fun b (hb : Value.ownBlock _ = some b) => (hO.out.lt b hb).1)
      clear hrg hl0 hW hfin hst
      go_wp2_with fail
      refine CS.out.mono ?_
      rintro e w2 ⟨rfl, ho2, hg2⟩
      rw [HST.out] at ho2
      have hlen : ks.length = (l.map (·.1)).length := by rw [← HST.out]; simp
      rw [hlen] at ho2
      have FIN : Hid (NumsP w (l.map (·.1)) (.returned _) w2) := Lib.hid ⟨_, rfl, own_mono ho2 (Nat.le_succ _), hB.out.grown hg2 hB.out.size (fun b hb => by have := HBS.out b hb; omega)⟩
      clear ho2 hg2 hlen CS hO HBS
      go_wp2
      go_ret
      exact FIN.out
    · intro x c klx ya yb w3 cnt1 hkey hlx hv hat hrg1 hlt1 hg1 hs1 hen
      obtain ⟨x', ex, rfl, hxs⟩ := keyI_inv hkey
      injection ex with _ ex
      subst ex
      obtain ⟨_, _, hW1⟩ := hW.out.step HT.out hlx
      have hO1 := hO.out.kept hg1 (by cases hv' : Value.ownBlock _ with | none => exact .inl rfl | some g => exact .inr (fun e => by injection e with e; have := (hO.out.lt g hv').1; omega))
      have hB1 := hB.out.grown hg1 hB.out.size (fun j hj => by injection hj with hj; omega)
      have HW1 := Lib.hid hW1
      have HO1 := Lib.hid hO1
      have HB1 := Lib.hid hB1
      have hb3 := hB1.size
      have hzw : w.heap.size < w3.heap.size := by omega
      clear hW hW1 hO hO1 hB hB1 hg1 hat hkey hv hlx hs1
      go_wp2_with (first
        | (at_builtin; refine wpList_append_own _ rfl _ _ 38 rfl (w.heap.size + 1) 3 i0 _ 1 8 Tryz.underlying38 hi0 hz0 hz1 hz2 rfl (by decide) _ ks.length (itv ks) rfl (HO1.out.alloc _) ⟨w3.heap.size, 0, none⟩ 1 1 [.int .i64 x] rfl rfl (World.news_of_block (cs := #[.int .i64 x]) (t := 3) (fr := (0, 0)) (heap_alloc_new w3 _)) (by simp [Value.oneCell']) ?c1 ?c2 ?c3 ?_)
        | go_in)
      case c1 => unfold maxLen; omega
      case c2 => omega
      intro v4 w4 ho4 hg4 _
      have hne : ∀ k : Nat, k ≤ w.heap.size → some k ≠ Value.ownBlock _ := fun k hk e => by have := (HO1.out.lt k e.symm).1; omega
      have hrg4 := (hrg1.kept (World.grownBy_alloc _ _ none) (by simp) (by simp)).kept hg4 (hne M1 (by omega)) (hne w.heap.size (Nat.le_refl _))
      have hb4 := (HB1.out.alloc HB1.out.size _).grown hg4 (by rw [World.size_alloc]; omega) (fun j hj => by have := (HO1.out.lt j hj).1; omega)
      have hz5 := hg4.size
      rw [World.size_alloc] at hz5
      have hm4 := hrg4.left_eq
      have hm0 := hrg.left_eq
      have Ho4 : Hid (w4.ownsRow (w.heap.size + 1) 3 1 v4 (ks ++ [x]).length (itv (ks ++ [x]))) := Lib.hid (by
        have e1 : itv (ks ++ [x]) = itv ks ++ [.int .i64 x] := by simp [itv]
        rw [e1, List.length_append]
        exact ho4)
      have Hrg4 := Lib.hid hrg4
      have Hb4 := Lib.hid hb4
      clear ho4 hg4 hrg4 hb4 hne hrg1 hen
      go_wp2
      go_roundw
      case rel => exact ⟨_, cnt1, ks ++ [x], Hrg4.out, by rw [List.length_append, List.length_singleton]; omega, HW1, Ho4, Hb4, by omega⟩
      case measure => rw [hm4, hm0]; exact hlt1
end
end Go.Proofs.YtlfpfkallgkjdaaGreat.Al
end
