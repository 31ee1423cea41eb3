/- Plain facts on filters: a text's number, its places, bits of bytes. No program. -/
import Derived.Test.YtambdddahbgelaaBase
namespace Go.Proofs.Ytambdddahbgelaa.Bl
open Go.RowKit

def fnv0 : Nat := 14695981039346656037
def fnvStep (n : Nat) (c : UInt8) : Nat := ((n ^^^ c.toNat) * 1099511628211) % 18446744073709551616
def fnv (l : List UInt8) : Nat := l.foldl fnvStep fnv0
theorem fnv_nil : fnv [] = fnv0 := rfl
theorem fnv0_int : (fnv0 : Int) = 14695981039346656037 := by unfold fnv0; rfl
theorem fnv_lt (l : List UInt8) : fnv l < 18446744073709551616 := by
  unfold fnv
  have h0 : fnv0 < 18446744073709551616 := by unfold fnv0; decide
  generalize fnv0 = a at *
  induction l generalizing a with
  | nil => exact h0
  | cons c l ih => exact ih _ (Nat.mod_lt _ (by decide))
theorem fold_snoc (l : List UInt8) (c : UInt8) (a : Nat) (f : Nat → UInt8 → Nat) : (l ++ [c]).foldl f a = f (l.foldl f a) c := by
  rw [List.foldl_append]; rfl
theorem fnv_snoc1 (l : List UInt8) (c : UInt8) : fnv (l ++ [c]) = fnvStep (fnv l) c := fold_snoc l c fnv0 fnvStep
theorem fnv_snoc (s : ByteArray) (k : Nat) (h : k < s.size) : fnv (s.data.toList.take (k + 1)) = fnvStep (fnv (s.data.toList.take k)) s[k] := by
  rw [take_snoc s k h]
  exact fnv_snoc1 _ _
theorem fnv_start : Value.int .u64 14695981039346656037 = Value.int .u64 (fnv [] : Nat) := by rw [fnv_nil, fnv0_int]
/-- The walk's own form of a step. -/
theorem fnv_walk (f : Nat) (c : UInt8) (hf : f < 18446744073709551616) : IntKind.u64.wrap (bits .xor .u64 (f : Int) (c.toNat : Int) * 1099511628211) = (fnvStep f c : Nat) := by
  have hc := c.toNat_lt
  rw [bits_xor_u64_nat _ _ hf (by omega), IntKind.wrap_u64]
  unfold fnvStep
  omega

def fir (l : List UInt8) : Nat := fnv l % 4294967296
def sec (l : List UInt8) : Nat := fnv l / 4294967296 ||| 1
def pl (l : List UInt8) (m i : Nat) : Nat := (fir l + i * sec l) % m
theorem fir_lt (l : List UInt8) : fir l < 4294967296 := Nat.mod_lt _ (by decide)
theorem sec_lt (l : List UInt8) : sec l < 4294967296 := by
  have h := fnv_lt l
  unfold sec
  exact Nat.or_lt_two_pow (n := 32) (by omega) (by omega)
theorem fir_walk (l : List UInt8) : bits .and .u64 (fnv l : Int) 4294967295 = (fir l : Nat) := by
  have h := fnv_lt l
  have := bits_and_u64_nat (fnv l) 4294967295 h (by omega)
  rw [show (4294967295 : Int) = ((4294967295 : Nat) : Int) from rfl, this]
  unfold fir
  congr 1
  exact Nat.and_two_pow_sub_one_eq_mod _ 32
theorem sec_walk (l : List UInt8) : bits .or .u64 ((fnv l : Int) / 4294967296) 1 = (sec l : Nat) := by
  have h := fnv_lt l
  have := bits_or_u64_nat (fnv l / 4294967296) 1 (by omega) (by omega)
  rw [show (fnv l : Int) / 4294967296 = ((fnv l / 4294967296 : Nat) : Int) from by omega, show (1 : Int) = ((1 : Nat) : Int) from rfl, this]
  rfl
theorem pl_lt (l : List UInt8) (m i : Nat) (h : 0 < m) : pl l m i < m := Nat.mod_lt _ h
def pls (l : List UInt8) (m : Nat) : List Nat := [pl l m 0, pl l m 1, pl l m 2, pl l m 3]
theorem pls_lt (l : List UInt8) (m : Nat) (h : 0 < m) : ∀ k ∈ pls l m, k < m := by
  intro k hk
  simp only [pls, List.mem_cons, List.not_mem_nil, or_false] at hk
  rcases hk with rfl | rfl | rfl | rfl <;> exact pl_lt _ _ _ h

/-- The k-th bit of bytes; bytes with the k-th bit set. -/
def gb (bs : List Nat) (k : Nat) : Bool := (bs.getD (k / 8) 0).testBit (k % 8)
def sb (bs : List Nat) (k : Nat) : List Nat := bs.set (k / 8) (bs.getD (k / 8) 0 ||| 2 ^ (k % 8))
def Bytes (bs : List Nat) : Prop := ∀ b ∈ bs, b < 256
theorem Bytes.getD {bs : List Nat} (h : Bytes bs) (i : Nat) : bs.getD i 0 < 256 := by
  rw [List.getD_eq_getElem?_getD]
  rcases hb : bs[i]? with _ | b
  · simp
  · exact h b (List.mem_of_getElem? hb)
theorem pow8 (k : Nat) : 2 ^ (k % 8) < 256 := Nat.lt_of_lt_of_le (Nat.pow_lt_pow_right (by decide) (Nat.mod_lt k (by decide))) (by decide)
theorem Bytes.sb {bs : List Nat} (h : Bytes bs) (k : Nat) : Bytes (sb bs k) := by
  intro b hb
  unfold Bl.sb at hb
  rcases List.mem_or_eq_of_mem_set hb with hb | rfl
  · exact h b hb
  · exact Nat.or_lt_two_pow (n := 8) (h.getD _) (pow8 k)
theorem length_sb (bs : List Nat) (k : Nat) : (sb bs k).length = bs.length := by simp [sb]
theorem gb_sb_self (bs : List Nat) (k : Nat) (h : k < 8 * bs.length) : gb (sb bs k) k = true := by
  have : k / 8 < bs.length := by omega
  unfold gb sb
  simp [List.getD_eq_getElem?_getD, this, Nat.testBit_or, Nat.testBit_two_pow_self]
theorem gb_sb (bs : List Nat) (k j : Nat) (h : gb bs j = true) : gb (sb bs k) j = true := by
  unfold gb sb at *
  by_cases e : k / 8 = j / 8
  · by_cases hl : k / 8 < bs.length
    · rw [e] at hl ⊢
      simp [List.getD_eq_getElem?_getD, hl, Nat.testBit_or] at h ⊢
      simp [h]
    · rw [List.set_eq_of_length_le (by omega)]; exact h
  · rw [List.getD_eq_getElem?_getD, List.getElem?_set_ne e, ← List.getD_eq_getElem?_getD]; exact h
/-- The walk's own forms. -/
theorem gb_walk (b k : Nat) (hb : b < 256) : (bits BinOp.and IntKind.u8 ((b : Int) / 2 ^ (k % 8)) 1 == 1) = b.testBit (k % 8) := by
  have h1 : (b : Int) / 2 ^ (k % 8) = ((b / 2 ^ (k % 8) : Nat) : Int) := by
    rw [Int.natCast_ediv, Int.natCast_pow]; rfl
  have h2 : b / 2 ^ (k % 8) < 256 := Nat.lt_of_le_of_lt (Nat.div_le_self _ _) hb
  rw [h1, show (1 : Int) = ((1 : Nat) : Int) from rfl, u8_and_nat _ _ h2 (by omega), Nat.testBit_eq_decide_div_mod_eq, Nat.and_one_is_mod]
  rw [Bool.eq_iff_iff]
  simp
  omega
theorem sb_walk (b k : Nat) (hb : b < 256) : bits BinOp.or IntKind.u8 (b : Int) (2 ^ (k % 8) % 256) = ((b ||| 2 ^ (k % 8) : Nat) : Int) := by
  have h1 : (2 : Int) ^ (k % 8) % 256 = ((2 ^ (k % 8) : Nat) : Int) := by
    have := pow8 k
    rw [Int.emod_eq_of_lt]
    · simp
    · exact Int.le_of_lt (Int.pow_pos (by decide))
    · have : ((2 ^ (k % 8) : Nat) : Int) < 256 := by omega
      simpa using this
  rw [h1, u8_or_nat _ _ hb (pow8 k)]

/-- The cells of bytes. -/
def bc (b : Nat) : Value := .int .u8 (b : Int)
def bcs (bs : List Nat) : Array Value := (bs.map bc).toArray
theorem bcs_get (bs : List Nat) (i : Nat) (h : i < bs.length) : (bcs bs)[i]? = some (.int .u8 (bs.getD i 0 : Nat)) := by
  simp [bcs, List.getElem?_eq_getElem h, bc]
theorem bcs_set (bs : List Nat) (i b : Nat) : (bcs bs).setIfInBounds i (.int .u8 (b : Int)) = bcs (bs.set i b) := by
  simp [bcs, bc, List.map_set]

/-- What adding does: bits that were not there, counted. -/
def step (x : List Nat × Nat) (k : Nat) : List Nat × Nat := if gb x.1 k then x else (sb x.1 k, x.2 + 1)
def addK (x : List Nat × Nat) (ks : List Nat) : List Nat × Nat := ks.foldl step x
def addT (x : List Nat × Nat) (ts : List ByteArray) : List Nat × Nat := ts.foldl (fun x s => addK x (pls s.data.toList (8 * x.1.length))) x
theorem step_len (x : List Nat × Nat) (k : Nat) : (step x k).1.length = x.1.length := by unfold step; split <;> simp [length_sb]
theorem addK_len (ks : List Nat) : ∀ x : List Nat × Nat, (addK x ks).1.length = x.1.length := by
  induction ks with
  | nil => intro x; rfl
  | cons k ks ih => intro x; exact (ih (step x k)).trans (step_len x k)
theorem addT_len (ts : List ByteArray) : ∀ x : List Nat × Nat, (addT x ts).1.length = x.1.length := by
  induction ts with
  | nil => intro x; rfl
  | cons s ts ih => intro x; exact (ih _).trans (addK_len _ x)
theorem step_bytes (x : List Nat × Nat) (k : Nat) (h : Bytes x.1) : Bytes (step x k).1 := by unfold step; split; exact h; exact h.sb k
theorem addK_bytes (ks : List Nat) : ∀ x : List Nat × Nat, Bytes x.1 → Bytes (addK x ks).1 := by
  induction ks with
  | nil => intro x h; exact h
  | cons k ks ih => intro x h; exact ih _ (step_bytes x k h)
theorem addT_bytes (ts : List ByteArray) : ∀ x : List Nat × Nat, Bytes x.1 → Bytes (addT x ts).1 := by
  induction ts with
  | nil => intro x h; exact h
  | cons s ts ih => intro x h; exact ih _ (addK_bytes _ x h)
theorem step_keep (x : List Nat × Nat) (k j : Nat) (h : gb x.1 j = true) : gb (step x k).1 j = true := by unfold step; split; exact h; exact gb_sb _ _ _ h
theorem addK_keep (ks : List Nat) : ∀ x : List Nat × Nat, ∀ j, gb x.1 j = true → gb (addK x ks).1 j = true := by
  induction ks with
  | nil => intro x j h; exact h
  | cons k ks ih => intro x j h; exact ih _ j (step_keep x k j h)
theorem addK_has (ks : List Nat) : ∀ x : List Nat × Nat, (∀ k ∈ ks, k < 8 * x.1.length) → ∀ k ∈ ks, gb (addK x ks).1 k = true := by
  induction ks with
  | nil => intro x _ k hk; cases hk
  | cons k0 ks ih =>
    intro x hx k hk
    rcases List.mem_cons.1 hk with rfl | hk
    · refine addK_keep ks _ k ?_
      unfold step
      split
      · assumption
      · exact gb_sb_self _ _ (hx k (by simp))
    · exact ih (step x k0) (fun k' hk' => by rw [step_len]; exact hx k' (by simp [hk'])) k hk
theorem addK_none (ks : List Nat) : ∀ x : List Nat × Nat, (∀ k ∈ ks, gb x.1 k = true) → addK x ks = x := by
  induction ks with
  | nil => intro x _; rfl
  | cons k ks ih =>
    intro x hx
    have : step x k = x := by unfold step; rw [if_pos (hx k (by simp))]
    show addK (step x k) ks = x
    rw [this]
    exact ih x fun k' hk' => hx k' (by simp [hk'])
theorem addK_n_le (ks : List Nat) : ∀ x : List Nat × Nat, (addK x ks).2 ≤ x.2 + ks.length := by
  induction ks with
  | nil => intro x; simp [addK]
  | cons k ks ih =>
    intro x
    have := ih (step x k)
    have h2 : (step x k).2 ≤ x.2 + 1 := by unfold step; split <;> simp
    simp only [addK, List.foldl_cons, List.length_cons] at *
    omega
theorem addT_n_le (ts : List ByteArray) : ∀ x : List Nat × Nat, (addT x ts).2 ≤ x.2 + 4 * ts.length := by
  induction ts with
  | nil => intro x; simp [addT]
  | cons s ts ih =>
    intro x
    have := ih (addK x (pls s.data.toList (8 * x.1.length)))
    have h2 := addK_n_le (pls s.data.toList (8 * x.1.length)) x
    simp only [addT, List.foldl_cons, List.length_cons, pls, List.length_nil] at *
    omega
def may (bs : List Nat) (s : List UInt8) : Bool := (pls s (8 * bs.length)).all (gb bs)
theorem may_add (x : List Nat × Nat) (s : ByteArray) (h : 0 < x.1.length) : may (addK x (pls s.data.toList (8 * x.1.length))).1 s.data.toList = true := by
  unfold may
  rw [addK_len, List.all_eq_true]
  exact addK_has _ x (pls_lt _ _ (by omega))
theorem may_keep (x : List Nat × Nat) (ks : List Nat) (s : List UInt8) (h : may x.1 s = true) : may (addK x ks).1 s = true := by
  unfold may at *
  rw [addK_len]
  rw [List.all_eq_true] at h ⊢
  exact fun k hk => addK_keep ks x k (h k hk)
theorem addT_none (ts : List ByteArray) (x : List Nat × Nat) (h : ∀ s ∈ ts, may x.1 s.data.toList = true) : addT x ts = x := by
  induction ts with
  | nil => rfl
  | cons s ts ih =>
    show addT (addK x (pls s.data.toList (8 * x.1.length))) ts = x
    have h1 := h s (by simp)
    unfold may at h1
    rw [addK_none _ x (by rwa [List.all_eq_true] at h1)]
    exact ih fun s' hs' => h s' (by simp [hs'])
end Go.Proofs.Ytambdddahbgelaa.Bl
