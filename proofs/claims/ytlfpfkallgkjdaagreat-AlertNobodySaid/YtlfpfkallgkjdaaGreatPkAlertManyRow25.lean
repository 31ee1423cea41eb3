/- alert.New, none, first, drop, put: the walks (printed by gen_ala.py). -/
import Derived.Test.YtlfpfkallgkjdaaGreatPkAlertManyRow24
import Derived.Test.YtlfpfkallgkjdaaGreatPkAlertManyRow11
section
namespace Go.Proofs.YtlfpfkallgkjdaaGreat.Al
open Go.RowKit Go.Maps Go.Proofs.YtlfpfkallgkjdaaGreat Go.Proofs.YtlfpfkallgkjdaaGreat.Ut Go.Proofs.YtlfpfkallgkjdaaGreat.Tk Go.Proofs.YtlfpfkallgkjdaaGreat.Qy Go.Proofs.YtlfpfkallgkjdaaGreat.Qp Go.Proofs.YtlfpfkallgkjdaaGreat.Ev Go.Proofs.YtlfpfkallgkjdaaGreat.Mv
set_option linter.unusedVariables false
set_option linter.unusedSimpArgs false
set_option maxRecDepth 20000

theorem lawI : Keyed Tryz.prog 3 := int_keyed Tryz.underlying3
theorem lawS : Keyed Tryz.prog 9 := string_keyed Tryz.underlying9
/-- A number that an int holds. -/
def I64 (i : Int) : Prop := (Lit.int .i64 i).wf = true
theorem I64.of {i : Int} (h : 0 ≤ i ∧ i ≤ 999999) : I64 i := by
  unfold I64
  simp [Lit.wf, IntKind.min, IntKind.max, IntKind.signed, IntKind.bits]
  omega
theorem keyI {i : Int} (h : I64 i) : keyOf Tryz.prog 3 (litI.val i) = some (litI.lit i) := keyOf_int_mk Tryz.underlying3 h
theorem keyS {s : ByteArray} (h : s.size ≤ maxLen) : keyOf Tryz.prog 9 (litS.val s) = some (litS.lit s) := Go.WideMaps.keyOf_string_mk Tryz.underlying9 h
theorem eq1_some (b : Nat) (w : World) : (binOp .eql 83 (.map (some b)) (.map none)).run Tryz.prog w = .ok (.bool false) w := by kernel_rfl
theorem eq1_none (w : World) : (binOp .eql 83 (.map none) (.map none)).run Tryz.prog w = .ok (.bool true) w := by kernel_rfl
theorem eq3_some (b : Nat) (w : World) : (binOp .eql 106 (.map (some b)) (.map none)).run Tryz.prog w = .ok (.bool false) w := by kernel_rfl
theorem eq3_none (w : World) : (binOp .eql 106 (.map none) (.map none)).run Tryz.prog w = .ok (.bool true) w := by kernel_rfl
theorem mk1 (w : World) : (Instr.makeMap 83 none).run Tryz.prog w = .ok (.map (some w.heap.size)) (w.alloc (.map #[] 0)) := rfl
theorem mk2 (w : World) : (Instr.makeMap 84 none).run Tryz.prog w = .ok (.map (some w.heap.size)) (w.alloc (.map #[] 0)) := rfl
theorem mk3 (w : World) : (Instr.makeMap 106 none).run Tryz.prog w = .ok (.map (some w.heap.size)) (w.alloc (.map #[] 0)) := rfl
theorem wpList_del_v {κ : Type} [DecidableEq κ] {P : Program} {k : TypeId} {L : KeyLit κ} {w : World} {ops : Array Oper} {rest : List Oper} {o : Oper} {a : Act} {Q : Exit → Act → World → Prop}
    (hg : o.guard = none) (m x : Operand) (t e : TypeId) (hop : o.op = Op.call { callee := Callee.builtin Builtin.delete, args := #[m, x], argTypes := #[t, k] }) (K : Keyed P k) (ht : P.underlying t = some (.map k e)) (b n : Nat) (f : κ → Option Value)
    (hm : a.eval m = .map (some b)) (h : MapV P k L w b n f) (s : κ) (hx : a.eval x = L.val s) (hkey : keyOf P k (L.val s) = some (L.lit s))
    (hK : ∀ w', MapV P k L w' b n (delV f s) → w.grownBy w' (some b) → wpList P ops Q rest (a.put o.dst (.tuple #[])) w') : wpList P ops Q (o :: rest) a w := by
  obtain ⟨D, h1, h2⟩ := h.ex
  exact wpList_delete_own w hg m x t k hop e K ht rawR b n D hm h1 (L.val s) (L.lit s) hx hkey (fun w' ho htr => hK w' ⟨⟨_, ho, h2.del s⟩⟩ htr.grown)
/-- An object of kept queries. -/
structure AlX (w : World) (X cn M1 M2 : Nat) (F1 : Int → Option Value) (F2 : ByteArray → Option Nat) (l : List (Int × Kp)) : Prop where
  blk : Blk w X 86 #[.map (some M1), .map (some M2)]
  al : AlM w cn M1 M2 F1 F2 l
theorem blk_sc {w : World} {X : Nat} {T : TypeId} {cs : Array Value} (h : Blk w X T cs) : Sc w X := ⟨cs, T, _, h⟩
theorem AlX.notX {w : World} {X cn M1 M2 : Nat} {F1 : Int → Option Value} {F2 : ByteArray → Option Nat} {l : List (Int × Kp)} (h : AlX w X cn M1 M2 F1 F2 l) : ¬ Own M1 M2 F2 X := fun ho => h.al.noSc X ho (blk_sc h.blk)
theorem blk_chg {w w' : World} {X : Nat} {T : TypeId} {cs : Array Value} {O : Nat → Prop} (h : Blk w X T cs) (hc : Chg O w w') (hO : ∀ b, O b → ¬ Sc w b) : Blk w' X T cs := (hc.block X h.lt (fun o => hO X o (blk_sc h))).trans h
theorem AlX.below {w w' : World} {X cn M1 M2 : Nat} {F1 : Int → Option Value} {F2 : ByteArray → Option Nat} {l : List (Int × Kp)} (h : AlX w X cn M1 M2 F1 F2 l) (hb : Below w.heap.size w w') : AlX w' X cn M1 M2 F1 F2 l := ⟨h.blk.below hb h.blk.lt, h.al.below hb⟩
theorem AlX.c0 {w : World} {X cn M1 M2 : Nat} {F1 : Int → Option Value} {F2 : ByteArray → Option Nat} {l : List (Int × Kp)} (h : AlX w X cn M1 M2 F1 F2 l) : w.cell? ⟨X, 0, none⟩ = some (.map (some M1)) := by
  have := h.blk.cell 0
  simpa using this
theorem AlX.c1 {w : World} {X cn M1 M2 : Nat} {F1 : Int → Option Value} {F2 : ByteArray → Option Nat} {l : List (Int × Kp)} (h : AlX w X cn M1 M2 F1 F2 l) : w.cell? ⟨X, 1, none⟩ = some (.map (some M2)) := by
  have := h.blk.cell 1
  simpa using this
/-- What New hands back. -/
def NewP (w : World) (e : Ending) (w' : World) : Prop := ∃ X M1 M2, e = .returned (.pointer (some ⟨X, 0, none⟩)) ∧ AlX w' X 0 M1 M2 noV (fun _ => none) [] ∧ Below w.heap.size w w' ∧ w.heap.size ≤ M1 ∧ w.heap.size ≤ M2 ∧ w.heap.size ≤ X
theorem new_any (w : World) : Calls Tryz.prog 9 #[] w (NewP w) := by
  have h1 := mk1
  have h2 := mk2
  go_enter Tryz.func9, Tryz.ntmps9
  go_wp2
  go_ret
  have m1 := MapZ.made Tryz.prog 3 litI w
  have m2 := MapV.made Tryz.prog 9 litS (w.alloc (.map #[] 0))
  have b1 : Below w.heap.size w (w.alloc (.map #[] 0)) := (Below.refl _ _).alloc (Nat.le_refl _) _
  have b2 : Below (w.alloc (.map #[] 0)).heap.size (w.alloc (.map #[] 0)) ((w.alloc (.map #[] 0)).alloc (.map #[] 0)) := (Below.refl _ _).alloc (Nat.le_refl _) _
  have b3 : Below ((w.alloc (.map #[] 0)).alloc (.map #[] 0)).heap.size ((w.alloc (.map #[] 0)).alloc (.map #[] 0)) (((w.alloc (.map #[] 0)).alloc (.map #[] 0)).alloc (.cells #[.map (some w.heap.size), .map (some (w.heap.size + 1))] 86)) := (Below.refl _ _).alloc (Nat.le_refl _) _
  have hX := Blk.new ((w.alloc (.map #[] 0)).alloc (.map #[] 0)) 86 #[.map (some w.heap.size), .map (some (w.heap.size + 1))]
  have s1 : (w.alloc (.map #[] 0)).heap.size = w.heap.size + 1 := by simp
  have s2 : ((w.alloc (.map #[] 0)).alloc (.map #[] 0)).heap.size = w.heap.size + 1 + 1 := by simp
  rw [s1] at m2
  rw [s2] at hX
  have hal := AlM.empty _ w.heap.size (w.heap.size + 1) ((m1.below b2).below b3) (m2.below b3) (by omega)
  exact ⟨w.heap.size + 1 + 1, w.heap.size, w.heap.size + 1, rfl, ⟨hX, hal⟩, (b1.trans (b2.mono (by omega))).trans (b3.mono (by omega)), Nat.le_refl _, by omega, by omega⟩
set_option maxHeartbeats 400000 in
theorem none_no {w : World} {X M1 : Nat} (c0 : w.cell? ⟨X, 0, none⟩ = some (.map (some M1))) : Calls Tryz.prog 33 #[.pointer (some ⟨X, 0, none⟩)] w fun e w' => e = .returned (.bool false) ∧ w = w' := by
  have e1 := fun b => eq1_some b w
  go_enter Tryz.func33, Tryz.ntmps33
  go_wp2
  go_ret
  exact ⟨rfl, rfl⟩
theorem none_nil (w : World) : Calls Tryz.prog 33 #[.pointer none] w fun e w' => e = .returned (.bool true) ∧ w = w' := by
  go_enter Tryz.func33, Tryz.ntmps33
  go_wp2
  go_ret
  exact ⟨rfl, rfl⟩
theorem none_zero (X : Nat) (w : World) (h : w.cell? ⟨X, 0, none⟩ = some (.map none)) : Calls Tryz.prog 33 #[.pointer (some ⟨X, 0, none⟩)] w fun e w' => e = .returned (.bool true) ∧ w = w' := by
  have e1 := eq1_none w
  go_enter Tryz.func33, Tryz.ntmps33
  go_wp2
  go_ret
  exact ⟨rfl, rfl⟩
/-- What is kept, its parts. -/
theorem KpV.parts {w : World} {k : Kp} {v : Value} (h : KpV w k v) : ∃ A1 n1 c1 A2 n2 c2 A c, v = .agg #[.string k.text, .int .i64 k.q.kind, .string k.q.name, .slice A1 n1 c1, .slice A2 n2 c2, .slice A k.needs.length c] ∧ QF w (Sc w) k.q [.int .i64 k.q.kind, .string k.q.name, .slice A1 n1 c1, .slice A2 n2 c2] ∧ ReadsS w (Sc w) 1 A k.needs.length (bsv k.needs) := by
  obtain ⟨a0, a1, a2, a3, A, c, rfl, h1, h2⟩ := h
  obtain ⟨A1, n1, c1, A2, n2, c2, e⟩ := h1.four
  simp only [List.cons.injEq, and_true] at e
  obtain ⟨rfl, rfl, rfl, rfl⟩ := e
  exact ⟨A1, n1, c1, A2, n2, c2, A, c, rfl, h1, h2⟩
set_option maxHeartbeats 800000 in
theorem first_any {w : World} {k : Kp} {v : Value} (h : KpV w k v) : Calls Tryz.prog 66 #[v] w fun e w' => e = .returned (.string (first k)) ∧ Below w.heap.size w w' := by
  obtain ⟨A1, n1, c1, A2, n2, c2, A, c, rfl, _, hR⟩ := h.parts
  clear h
  generalize k.text = tx
  generalize k.q.kind = qk
  generalize k.q.name = qn
  have hb := (Below.refl w.heap.size w).alloc (Nat.le_refl _) (.cells #[.string tx, .int .i64 qk, .string qn, .slice A1 n1 c1, .slice A2 n2 c2, .slice A k.needs.length c] 92)
  have Hb := Lib.hid hb
  cases hn : k.needs with
  | nil =>
    rw [hn] at Hb
    have hf : first k = ByteArray.empty := by unfold Al.first; rw [hn]; rfl
    rw [hf]
    clear hR hf hb hn
    simp only [List.length_nil] at *
    go_enter Tryz.func66, Tryz.ntmps66
    go_wp2
    go_ret
    exact ⟨rfl, Hb.out⟩
  | cons s t =>
    rw [hn] at hR Hb
    have hf : first k = s := by unfold Al.first; rw [hn]; rfl
    rw [hf]
    obtain ⟨b, o, rfl, hS, hc⟩ := hR.2 (by simp)
    have hbl := hS.lt
    have h0 := hc 0 (.string s) rfl
    rw [Nat.add_zero] at h0
    have h1 := (hb.cell (p := ⟨b, o, none⟩) hbl).trans h0
    rw [hn] at h1
    generalize hm : (s :: t).length = m at *
    have hm1 : 0 < m := by rw [← hm]; simp
    have hm2 : ((m : Int) == 0) = false := beq_eq_false_iff_ne.2 (by omega)
    clear hR hf hb hn hS hc hm
    go_enter Tryz.func66, Tryz.ntmps66
    go_wp2
    go_ret
    exact ⟨rfl, Hb.out⟩
end Go.Proofs.YtlfpfkallgkjdaaGreat.Al
end

section
/- alert.drop, put: the walks (printed by gen_alb.py). -/
namespace Go.Proofs.YtlfpfkallgkjdaaGreat.Al
open Go.RowKit Go.Maps Go.Proofs.YtlfpfkallgkjdaaGreat Go.Proofs.YtlfpfkallgkjdaaGreat.Ut Go.Proofs.YtlfpfkallgkjdaaGreat.Tk Go.Proofs.YtlfpfkallgkjdaaGreat.Qy Go.Proofs.YtlfpfkallgkjdaaGreat.Qp Go.Proofs.YtlfpfkallgkjdaaGreat.Ev Go.Proofs.YtlfpfkallgkjdaaGreat.Mv
set_option linter.unusedVariables false
set_option linter.unusedSimpArgs false
set_option maxRecDepth 20000

abbrev AdF : Nat := 37
/-- What drop leaves. -/
def DropP (w : World) (X cn M1 M2 : Nat) (F2 : ByteArray → Option Nat) (l : List (Int × Kp)) (i : Int) (e : Ending) (w' : World) : Prop :=
  e = .returned (.bool (get l i).isSome) ∧ ∃ F1', AlX w' X cn M1 M2 F1' F2 (drop l i) ∧ Chg (Own M1 M2 F2) w w'
/-- The box of what is kept. -/
theorem KpV.blk_sc {w : World} {k : Kp} {v : Value} (h : KpV w k v) {O : Nat → Prop} {w' : World} (hc : Chg O w w') (hO : ∀ b, O b → ¬ Sc w b) : KpV w' k v := h.chg hc hO
theorem size_in {w w' : World} {O : Nat → Prop} (h : Chg O w w') : w.heap.size ≤ w'.heap.size := h.size
theorem looks {κ : Type} {P : Program} {k t e : TypeId} {L : KeyLit κ} {w : World} {b n : Nat} {f : κ → Option Value} (h : MapV P k L w b n f) (K : Keyed P k) (ht : P.underlying t = some (.map k e)) {z : Value} (hz : ∀ w, (zeroValue e).run P w = .ok z w) (s : κ) (hkey : keyOf P k (L.val s) = some (L.lit s)) {u : Value} (hu : (f s).getD z = u) :
    ∀ wx, Below w.heap.size w wx → (Instr.lookup t (.map (some b)) (L.val s) false).run P wx = .ok u wx := fun wx hb => by
  have := (h.below hb).look K ht (hz wx) s hkey
  rw [hu] at this
  exact this
theorem looksS {P : Program} {k t e : TypeId} {w : World} {b n : Nat} {f : ByteArray → Option Value} (h : MapV P k litS w b n f) (K : Keyed P k) (ht : P.underlying t = some (.map k e)) {z : Value} (hz : ∀ w, (zeroValue e).run P w = .ok z w) (s : ByteArray) (hkey : keyOf P k (litS.val s) = some (litS.lit s)) {u : Value} (hu : (f s).getD z = u) :
    ∀ wx, Below w.heap.size w wx → (Instr.lookup t (.map (some b)) (.string s) false).run P wx = .ok u wx := looks h K ht hz s hkey hu
theorem looksI {P : Program} {k t e : TypeId} {w : World} {b n : Nat} {f : Int → Option Value} (h : MapV P k litI w b n f) (K : Keyed P k) (ht : P.underlying t = some (.map k e)) {z : Value} (hz : ∀ w, (zeroValue e).run P w = .ok z w) (s : Int) (hkey : keyOf P k (litI.val s) = some (litI.lit s)) {u : Value} (hu : (f s).getD z = u) :
    ∀ wx, Below w.heap.size w wx → (Instr.lookup t (.map (some b)) (.int .i64 s) false).run P wx = .ok u wx := looks h K ht hz s hkey hu
set_option maxHeartbeats 3200000 in
theorem drop_any {w : World} {X cn M1 M2 : Nat} {F1 : Int → Option Value} {F2 : ByteArray → Option Nat} {l : List (Int × Kp)} (i : Int) (hi : I64 i) (h : AlX w X cn M1 M2 F1 F2 l) :
    Calls Tryz.prog 37 #[.pointer (some ⟨X, 0, none⟩), .int .i64 i] w (DropP w X cn M1 M2 F2 l i) := by
  have q0 := h.c0
  have HKI := Lib.hid (keyI hi)
  have H := Lib.hid h
  cases hg : get l i with
  | none =>
    have hF := h.al.kn i hg
    have hb := (Below.refl w.heap.size w).alloc (Nat.le_refl _) (.cells #[.string ⟨#[]⟩, .int .i64 0, .string ⟨#[]⟩, .slice none 0 0, .slice none 0 0, .slice none 0 0] 92)
    have FIN := Lib.hid (show DropP w X cn M1 M2 F2 l i (.returned (.bool false)) _ from ⟨by rw [hg]; rfl, F1, by rw [drop_no hg]; exact h.below hb, Chg.of_new hb⟩)
    clear hb h hg
    go_enter Tryz.func37, Tryz.ntmps37
    go_wp2_with (first
      | (at_lookup; refine wpList_look2_v rfl (.tmp 11) (.tmp 12) 83 92 rfl lawI Tryz.underlying83 (Tryz.zeroValue92 _) M1 l.length F1 rfl H.out.al.m1.v i rfl HKI.out (.agg #[.string ⟨#[]⟩, .int .i64 0, .string ⟨#[]⟩, .slice none 0 0, .slice none 0 0, .slice none 0 0]) false (by rw [hF]; rfl) (by rw [hF]; rfl) ?_)
      | go_in)
    go_ret
    exact FIN.out
  | some k =>
    obtain ⟨v, hFv, hkv⟩ := h.al.kv i k hg
    obtain ⟨m, hm⟩ := h.al.has hg
    obtain ⟨A1, n1, c1, A2, n2, c2, A, c, rfl, _, _⟩ := hkv.parts
    have hko := h.al.ok _ (get_mem hg)
    have hfs : (first k).size ≤ 65 := hko.first
    have HG := Lib.hid hg
    have HKV := Lib.hid hkv
    have HM := Lib.hid hm
    have hks : keyOf Tryz.prog 9 (litS.val (first k)) = some (litS.lit (first k)) := keyS (by unfold maxLen; omega)
    have HKS := Lib.hid hks
    have HFV : Hid (F1 i = some _) := Lib.hid hFv
    clear hko hfs hm hkv hg h hks hFv
    generalize hnn : k.needs.length = nn at *
    generalize htx : k.text = tx at *
    generalize hqk : k.q.kind = qk at *
    generalize hqn : k.q.name = qn at *
    clear hnn htx hqk hqn
    have hb := (Below.refl w.heap.size w).alloc (Nat.le_refl _) (.cells #[.string tx, .int .i64 qk, .string qn, .slice A1 n1 c1, .slice A2 n2 c2, .slice A nn c] 92)
    have hbx := Blk.new w 92 #[.string tx, .int .i64 qk, .string qn, .slice A1 n1 c1, .slice A2 n2 c2, .slice A nn c]
    have H1 := Lib.hid (H.out.below hb)
    have HB := Lib.hid hb
    have HBX := Lib.hid hbx
    have hz : w.heap.size < (w.alloc (.cells #[.string tx, .int .i64 qk, .string qn, .slice A1 n1 c1, .slice A2 n2 c2, .slice A nn c] 92)).heap.size := by simp
    clear hb hbx
    go_enter Tryz.func37, Tryz.ntmps37
    go_upto_region 4 with (first
      | (at_lookup; refine wpList_look2_v rfl (.tmp 11) (.tmp 12) 83 92 rfl lawI Tryz.underlying83 (Tryz.zeroValue92 _) M1 l.length F1 rfl H.out.al.m1.v i rfl HKI.out (.agg #[.string tx, .int .i64 qk, .string qn, .slice A1 n1 c1, .slice A2 n2 c2, .slice A nn c]) true (by rw [HFV.out]; rfl) (by rw [HFV.out]; rfl) ?_)
      | go_in)
    generalize w.alloc (.cells #[.string tx, .int .i64 qk, .string qn, .slice A1 n1 c1, .slice A2 n2 c2, .slice A nn c] 92) = w1 at *
    clear q0
    have q0 := H1.out.c0
    go_upto_region 5 with (first
      | (at_delete; refine wpList_del_z rfl (.tmp 21) (.tmp 22) 83 92 rfl lawI Tryz.underlying83 M1 l.length F1 rfl H1.out.al.m1 i rfl HKI.out ?_; intro w3 hm3 hg3)
      | go_in)
    clear q0
    rw [HFV.out] at hm3
    simp only [Option.isSome_some, if_true] at hm3
    have hXM : X ≠ M1 := fun e => H1.out.notX (.inl e)
    have hgM : w.heap.size ≠ M1 := fun e => (H1.out.al.noSc M1 (.inl rfl)) (e ▸ Al.blk_sc HBX.out)
    have hX3 : Blk w3 X 86 #[.map (some M1), .map (some M2)] := (hg3.block X H1.out.blk.lt (fun e => by injection e with e; exact hXM e)).trans H1.out.blk
    have hB3 : Blk w3 w.heap.size 92 #[.string tx, .int .i64 qk, .string qn, .slice A1 n1 c1, .slice A2 n2 c2, .slice A nn c] := (hg3.block _ hz (fun e => by injection e with e; exact hgM e)).trans HBX.out
    have hm2 := H1.out.al.m2.kept hg3 (fun e => by injection e with e; exact H1.out.al.n12 e.symm)
    have C03 : Chg (Own M1 M2 F2) w w3 := (Chg.of_new HB.out).trans (O' := Own M1 M2 F2) (Chg.of_grown hg3 (fun b hb => by injection hb with hb; exact .inl hb.symm)) (fun x hx => .inl hx)
    have hkv3 := HKV.out.chg C03 H.out.al.noSc
    have hs3 := C03.size
    have Hcells : Hid (∀ wx, Below w3.heap.size w3 wx → wx.cell? ⟨X, 1, none⟩ = some (.map (some M2)) ∧ wx.cell? ⟨w.heap.size, 0, none⟩ = some (.string tx) ∧ wx.cell? ⟨w.heap.size, 1, none⟩ = some (.int .i64 qk) ∧ wx.cell? ⟨w.heap.size, 2, none⟩ = some (.string qn) ∧ wx.cell? ⟨w.heap.size, 3, none⟩ = some (.slice A1 n1 c1) ∧ wx.cell? ⟨w.heap.size, 4, none⟩ = some (.slice A2 n2 c2) ∧ wx.cell? ⟨w.heap.size, 5, none⟩ = some (.slice A nn c)) := Lib.hid (fun wx hb => by
      have k1 := (hX3.below hb hX3.lt).cell 1
      have r := hB3.below hb hB3.lt
      have r0 := r.cell 0
      have r1 := r.cell 1
      have r2 := r.cell 2
      have r3 := r.cell 3
      have r4 := r.cell 4
      have r5 := r.cell 5
      simp only [List.getElem?_toArray, List.getElem?_cons_zero, List.getElem?_cons_succ] at k1 r0 r1 r2 r3 r4 r5
      exact ⟨k1, r0, r1, r2, r3, r4, r5⟩)
    have HLK := Lib.hid (looksS hm2 lawS Tryz.underlying84 Tryz.zeroValue106 (first k) HKS.out (u := .map (some m)) (by unfold F2v; rw [HM.out]; rfl))
    have CF : Hid (∀ wx, Below w3.heap.size w3 wx → Calls Tryz.prog 66 #[.agg #[.string tx, .int .i64 qk, .string qn, .slice A1 n1 c1, .slice A2 n2 c2, .slice A nn c]] wx fun e w' => e = .returned (.string (first k)) ∧ Below wx.heap.size wx w') := Lib.hid (fun wx hb => first_any (hkv3.chg (O := fun _ => False) (Chg.of_new hb) (fun _ h => h.elim)))
    have HM3 := Lib.hid hm3
    have HG3 := Lib.hid hg3
    have HC3 := Lib.hid C03
    have HX3 := Lib.hid hX3
    generalize hfk : first k = fk at *
    have HFK := Lib.hid hfk
    clear hfk hm3 hg3 C03 hX3 hB3 hm2 hkv3 hXM hgM
    refine wp_region_grow_tail 8 (specOf [(5, ⟨Unit, fun _ => .string fk, fun _ _ => True⟩)]) (fun wx => Below w3.heap.size w3 wx) (fun w1 w2 => Below w1.heap.size w1 w2) (by kernel_rfl) (by kernel_rfl) (stab_cons (fun x wa wb hg h => trivial) (stab_nil)) ((Below.refl _ _).drew) ?_
    simp only [List.take_succ_cons, List.take_zero, List.drop_succ_cons, List.drop_zero]
    refine grow_fix 1 ?_ rfl (by rfl) (by rfl) (fun wx hC hD => ?_) ?_
    rotate_left
    · have hSw := Hcells.out wx hC
      go_simp
      all_goals with_reducible rfl
    try simp only [Act.put, List.setIfInBounds_toArray, List.set_cons_zero, List.set_cons_succ]
    refine grow_fix 2 ?_ rfl (by rfl) (by rfl) (fun wx hC hD => ?_) ?_
    rotate_left
    · have hSw := Hcells.out wx hC
      go_simp
      all_goals with_reducible rfl
    try simp only [Act.put, List.setIfInBounds_toArray, List.set_cons_zero, List.set_cons_succ]
    refine grow_fix 3 ?_ rfl (by rfl) (by rfl) (fun wx hC hD => ?_) ?_
    rotate_left
    · have hSw := Hcells.out wx hC
      go_simp
      all_goals with_reducible rfl
    try simp only [Act.put, List.setIfInBounds_toArray, List.set_cons_zero, List.set_cons_succ]
    refine grow_fix 4 ?_ rfl (by rfl) (by rfl) (fun wx hC hD => ?_) ?_
    rotate_left
    · have hSw := Hcells.out wx hC
      go_simp
      all_goals with_reducible rfl
    try simp only [Act.put, List.setIfInBounds_toArray, List.set_cons_zero, List.set_cons_succ]
    refine grow_fix 5 ?_ rfl (by rfl) (by rfl) (fun wx hC hD => ?_) ?_
    rotate_left
    · have hSw := Hcells.out wx hC
      go_simp
      all_goals with_reducible rfl
    try simp only [Act.put, List.setIfInBounds_toArray, List.set_cons_zero, List.set_cons_succ]
    refine grow_give 6 _ rfl (by rfl) (by rfl) (fun wx hC hD => ?_) (fun x => ?_)
    · refine give_enter (f := ?_) (args := ?_) ?_ ?_
      rotate_left 2
      · have hSw := Hcells.out wx hC
        go_simp
        all_goals first | with_reducible rfl | (refine ⟨?_, ?_⟩ <;> with_reducible rfl)
      refine (CF.out wx hC).mono ?_
      rintro e w9 ⟨rfl, hb9⟩
      exact ⟨_, rfl, hb9, hC.trans (hb9.mono hC.size), (), rfl, trivial⟩
    obtain ⟨⟩ := x
    try simp only [Act.put, List.setIfInBounds_toArray, List.set_cons_zero, List.set_cons_succ]
    refine grow_fix 7 ?_ rfl (by rfl) (by rfl) (fun wx hC hD => ?_) ?_
    rotate_left
    · have hlk := HLK.out wx hC
      have hSw := Hcells.out wx hC
      go_simp
      all_goals with_reducible rfl
    try simp only [Act.put, List.setIfInBounds_toArray, List.set_cons_zero, List.set_cons_succ]
    refine grow_fix 8 ?_ rfl (by rfl) (by rfl) (fun wx hC hD => ?_) ?_
    rotate_left
    · have hSw := Hcells.out wx hC
      go_simp
      all_goals with_reducible rfl
    try simp only [Act.put, List.setIfInBounds_toArray, List.set_cons_zero, List.set_cons_succ]
    refine grow_nil (fun w5 hC hF => ?_)
    have hs5 := hC.size
    obtain ⟨f, hf, hfi⟩ := H.out.al.sub fk m HM.out
    have hmM := H.out.al.n1 fk m HM.out
    have hml := (mo_v hf).lt
    have k13 : ∀ b, b < w.heap.size → b ≠ M1 → w5.heap[b]? = w.heap[b]? := fun b hb hne => by
      have e1 := HB.out.block b hb
      have e2 := HG3.out.block b (by have := HB.out.size; omega) (fun e => by injection e with e; exact hne e)
      have e3 := hC.block b (by have := HB.out.size; have := HG3.out.size; omega)
      exact e3.trans (e2.trans e1)
    have hf5 := hf.same (k13 m hml hmM.1)
    have HF5 := Lib.hid hf5
    have HFI := Lib.hid hfi
    have HMM := Lib.hid hmM
    have K13 := Lib.hid k13
    have HC5 := Lib.hid hC
    clear hF hC hf5 hf hfi hmM k13
    try simp only [List.drop_succ_cons, List.drop_zero]
    refine wpList_del_v rfl (.tmp 29) (.tmp 30) 106 100 rfl lawI Tryz.underlying106 m cn f rfl HF5.out i rfl HKI.out (fun w6 hm6 hg6 => ?_)
    have hml2 : M1 < w5.heap.size := by have := HM3.out.lt; omega
    have hfin : DropP w X cn M1 M2 F2 l i (.returned (.bool true)) w6 := by
      have hc56 : Chg (Own M1 M2 F2) w w6 := (HC3.out.then_new HC5.out).trans (O' := Own M1 M2 F2) (Chg.of_grown hg6 (fun b hb => by injection hb with hb; exact .inr (.inr ⟨fk, by rw [HM.out, hb]⟩))) (fun x hx => .inl hx)
      have k6 : ∀ b, b < w.heap.size → b ≠ M1 → b ≠ m → w6.heap[b]? = w.heap[b]? := fun b hb h1 h2 => (hg6.block b (by omega) (fun e => by injection e with e; exact h2 e)).trans (K13.out b hb h1)
      have hX6 : Blk w6 X 86 #[.map (some M1), .map (some M2)] := blk_chg H.out.blk hc56 H.out.al.noSc
      refine ⟨by rw [HG.out]; rfl, delV F1 i, ⟨hX6, ?_⟩, hc56⟩
      have hM := HM.out
      rw [← HFK.out] at hM
      refine H.out.al.del HG.out hM hc56 ?_ (k6 M2 (mo_v H.out.al.m2).lt (fun e => H.out.al.n12 e.symm) (fun e => HMM.out.2 e.symm)) ⟨delV f i, hm6, fun j => ?_⟩ (fun s m' hs hs' => ?_)
      · exact (HM3.out.below HC5.out).kept hg6 (fun e => by injection e with e; exact HMM.out.1 e.symm)
      · have := HFI.out j
        rw [HFK.out]
        show (delV f i j).isSome = true ↔ j ≠ i ∧ Und l fk j
        rw [← this]
        unfold delV
        by_cases e : j = i
        · simp [e]
        · simp [e]
      · exact k6 m' ((H.out.al.sub s m' hs').mo).lt (H.out.al.n1 s m' hs').1 (fun e => hs (H.out.al.apart s _ m (by rw [← e]; exact hs') hM))
    have FIN := Lib.hid hfin
    clear hfin hm6 hg6
    try simp only [Act.put]
    go_wp2
    go_ret
    exact FIN.out
end Go.Proofs.YtlfpfkallgkjdaaGreat.Al
end
