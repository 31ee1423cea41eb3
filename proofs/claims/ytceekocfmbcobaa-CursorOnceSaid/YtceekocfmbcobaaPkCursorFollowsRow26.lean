/- The cyclic sum of 32 bits: plain words. No program. -/
import Derived.Lib.Hide
import Derived.Test.YtceekocfmbcobaaProg
import Derived.Laws.BitsAllLaws
import Derived.Deep.QuietTactic
import Derived.BigQuiet
import Derived.Outline
import Derived.Test.YtceekocfmbcobaaQpOPk
import Derived.Test.YtceekocfmbcobaaPkCursorFollowsRow0
section
namespace Go.Proofs.Ytceekocfmbcobaa.Cr

/-- A sum goes on by one bit. -/
def on1 (x : Nat) : Nat := if x % 2 = 1 then (x / 2) ^^^ 3988292384 else x / 2
/-- By eight. -/
def tab (x : Nat) : Nat := on1 (on1 (on1 (on1 (on1 (on1 (on1 (on1 x)))))))
/-- By a byte. -/
def on (s : Nat) (c : UInt8) : Nat := tab (s ^^^ c.toNat)
/-- By bytes. -/
def run (s : Nat) (l : List UInt8) : Nat := l.foldl on s
def nots (x : Nat) : Nat := x ^^^ 4294967295
/-- The sum of bytes. -/
def crc (l : List UInt8) : Nat := nots (run 4294967295 l)

theorem on1_lin (a b : Nat) : on1 (a ^^^ b) = on1 a ^^^ on1 b := by
  have hm : (a ^^^ b) % 2 = (a % 2) ^^^ (b % 2) := Nat.xor_mod_two_pow (n := 1)
  have hd : (a ^^^ b) / 2 = (a / 2) ^^^ (b / 2) := Nat.xor_div_two_pow (n := 1)
  unfold on1
  rw [hm, hd]
  rcases Nat.mod_two_eq_zero_or_one a with ha | ha <;> rcases Nat.mod_two_eq_zero_or_one b with hb | hb <;> rw [ha, hb] <;> simp only [Nat.xor_self, Nat.xor_zero, Nat.zero_xor, if_true, if_false, Nat.zero_ne_one]
  · rw [Nat.xor_assoc]
  · rw [Nat.xor_assoc, Nat.xor_assoc, Nat.xor_comm 3988292384]
  · rw [Nat.xor_assoc, ← Nat.xor_assoc 3988292384, Nat.xor_comm 3988292384, Nat.xor_assoc, Nat.xor_self, Nat.xor_zero]
theorem on1_two (y : Nat) : on1 (2 * y) = y := by
  unfold on1
  rw [if_neg (by omega)]
  omega
theorem on1_lt {x : Nat} (h : x < 2 ^ 32) : on1 x < 2 ^ 32 := by
  unfold on1
  split
  · exact Nat.xor_lt_two_pow (by omega) (by omega)
  · omega
theorem xor_eq_zero {a b : Nat} (h : a ^^^ b = 0) : a = b := by
  have h1 : (a ^^^ b) ^^^ b = 0 ^^^ b := by rw [h]
  rwa [Nat.xor_assoc, Nat.xor_self, Nat.xor_zero, Nat.zero_xor] at h1
theorem on1_inj {a b : Nat} (ha : a < 2 ^ 32) (hb : b < 2 ^ 32) (h : on1 a = on1 b) : a = b := by
  have hz : on1 (a ^^^ b) = 0 := by rw [on1_lin, h, Nat.xor_self]
  have hlt : a ^^^ b < 2 ^ 32 := Nat.xor_lt_two_pow ha hb
  refine xor_eq_zero ?_
  generalize a ^^^ b = z at *
  unfold on1 at hz
  split at hz
  · have := xor_eq_zero hz
    omega
  · omega
theorem tab_lin (a b : Nat) : tab (a ^^^ b) = tab a ^^^ tab b := by unfold tab; simp only [on1_lin]
theorem tab_lt {x : Nat} (h : x < 2 ^ 32) : tab x < 2 ^ 32 := on1_lt (on1_lt (on1_lt (on1_lt (on1_lt (on1_lt (on1_lt (on1_lt h)))))))
theorem tab_inj {a b : Nat} (ha : a < 2 ^ 32) (hb : b < 2 ^ 32) (h : tab a = tab b) : a = b := by
  unfold tab at h
  have l1 := fun {x : Nat} (h : x < 2 ^ 32) => on1_lt h
  exact on1_inj ha hb (on1_inj (l1 ha) (l1 hb) (on1_inj (l1 (l1 ha)) (l1 (l1 hb)) (on1_inj (l1 (l1 (l1 ha))) (l1 (l1 (l1 hb))) (on1_inj (l1 (l1 (l1 (l1 ha)))) (l1 (l1 (l1 (l1 hb))))
    (on1_inj (l1 (l1 (l1 (l1 (l1 ha))))) (l1 (l1 (l1 (l1 (l1 hb))))) (on1_inj (l1 (l1 (l1 (l1 (l1 (l1 ha)))))) (l1 (l1 (l1 (l1 (l1 (l1 hb)))))) (on1_inj (l1 (l1 (l1 (l1 (l1 (l1 (l1 ha))))))) (l1 (l1 (l1 (l1 (l1 (l1 (l1 hb))))))) h)))))))
theorem tab_256 (k : Nat) : tab (256 * k) = k := by
  have e : 256 * k = 2 * (2 * (2 * (2 * (2 * (2 * (2 * (2 * k))))))) := by omega
  rw [e]
  unfold tab
  simp only [on1_two]
theorem xor_mod (a b : Nat) : (a ^^^ b) % 256 = (a % 256) ^^^ (b % 256) := Nat.xor_mod_two_pow (n := 8)
theorem xor_div (a b : Nat) : (a ^^^ b) / 256 = (a / 256) ^^^ (b / 256) := Nat.xor_div_two_pow (n := 8)
theorem split_256 (n : Nat) : (n % 256) ^^^ (256 * (n / 256)) = n := by
  have hm : ((n % 256) ^^^ (256 * (n / 256))) % 256 = n % 256 := by
    rw [xor_mod, Nat.mul_mod_right, Nat.xor_zero, Nat.mod_mod]
  have hd : ((n % 256) ^^^ (256 * (n / 256))) / 256 = n / 256 := by
    rw [xor_div, Nat.mul_div_cancel_left _ (by omega), Nat.div_eq_of_lt (Nat.mod_lt _ (by omega)), Nat.zero_xor]
  omega
/-- The program's way: a table's cell, and what is left. -/
theorem on_table (s : Nat) (c : UInt8) : on s c = tab ((s % 256) ^^^ c.toNat) ^^^ (s / 256) := by
  have hc : c.toNat < 256 := c.toNat_lt
  have h1 : (s ^^^ c.toNat) % 256 = (s % 256) ^^^ c.toNat := by rw [xor_mod, Nat.mod_eq_of_lt hc]
  have h2 : (s ^^^ c.toNat) / 256 = s / 256 := by rw [xor_div, Nat.div_eq_of_lt hc, Nat.xor_zero]
  have h3 := split_256 (s ^^^ c.toNat)
  unfold on
  rw [← h3, tab_lin, tab_256, h1, h2]
theorem on_lt {s : Nat} (h : s < 2 ^ 32) (c : UInt8) : on s c < 2 ^ 32 := tab_lt (Nat.xor_lt_two_pow h (by have := c.toNat_lt; omega))
theorem run_lt {s : Nat} (h : s < 2 ^ 32) (l : List UInt8) : run s l < 2 ^ 32 := by
  induction l generalizing s with
  | nil => exact h
  | cons c l ih => exact ih (on_lt h c)
theorem run_snoc (s : Nat) (l : List UInt8) (c : UInt8) : run s (l ++ [c]) = on (run s l) c := by unfold run; rw [List.foldl_append]; rfl
theorem run_app (s : Nat) (l m : List UInt8) : run s (l ++ m) = run (run s l) m := by unfold run; rw [List.foldl_append]
theorem nots_lt {x : Nat} (h : x < 2 ^ 32) : nots x < 2 ^ 32 := Nat.xor_lt_two_pow h (by omega)
theorem crc_lt (l : List UInt8) : crc l < 2 ^ 32 := nots_lt (run_lt (by omega) l)
theorem xor_inj {a b c : Nat} (h : a ^^^ c = b ^^^ c) : a = b := by
  have h1 : (a ^^^ c) ^^^ c = (b ^^^ c) ^^^ c := by rw [h]
  rwa [Nat.xor_assoc, Nat.xor_assoc, Nat.xor_self, Nat.xor_zero, Nat.xor_zero] at h1
theorem on_inj {a b : Nat} (ha : a < 2 ^ 32) (hb : b < 2 ^ 32) (c : UInt8) (h : on a c = on b c) : a = b := by
  have hc : c.toNat < 2 ^ 32 := by have := c.toNat_lt; omega
  exact xor_inj (tab_inj (Nat.xor_lt_two_pow ha hc) (Nat.xor_lt_two_pow hb hc) h)
theorem run_inj {a b : Nat} (ha : a < 2 ^ 32) (hb : b < 2 ^ 32) (l : List UInt8) (h : run a l = run b l) : a = b := by
  induction l generalizing a b with
  | nil => exact h
  | cons c l ih => exact on_inj ha hb c (ih (on_lt ha c) (on_lt hb c) h)

/-- Bytes as one number, the lowest first. -/
def word : List UInt8 → Nat
  | [] => 0
  | c :: l => c.toNat ^^^ (256 * word l)
def tabs : Nat → Nat → Nat
  | 0, x => x
  | n + 1, x => tabs n (tab x)
theorem run_word (s : Nat) (l : List UInt8) : run s l = tabs l.length (s ^^^ word l) := by
  induction l generalizing s with
  | nil => exact (Nat.xor_zero s).symm
  | cons c l ih =>
    have h : run s (c :: l) = run (on s c) l := rfl
    have e : s ^^^ word (c :: l) = (s ^^^ c.toNat) ^^^ (256 * word l) := (Nat.xor_assoc _ _ _).symm
    rw [h, ih, List.length_cons, e]
    show tabs l.length (tab (s ^^^ c.toNat) ^^^ word l) = tabs l.length (tab _)
    rw [tab_lin (s ^^^ c.toNat) (256 * word l), tab_256]
theorem tabs_inj (n : Nat) {a b : Nat} (ha : a < 2 ^ 32) (hb : b < 2 ^ 32) (h : tabs n a = tabs n b) : a = b := by
  induction n generalizing a b with
  | zero => exact h
  | succ n ih => exact tab_inj ha hb (ih (tab_lt ha) (tab_lt hb) h)
theorem word_mod (c : UInt8) (l : List UInt8) : word (c :: l) % 256 = c.toNat := by
  show (c.toNat ^^^ (256 * word l)) % 256 = _
  rw [xor_mod, Nat.mul_mod_right, Nat.xor_zero, Nat.mod_eq_of_lt c.toNat_lt]
theorem word_div (c : UInt8) (l : List UInt8) : word (c :: l) / 256 = word l := by
  show (c.toNat ^^^ (256 * word l)) / 256 = _
  rw [xor_div, Nat.mul_div_cancel_left _ (by omega), Nat.div_eq_of_lt c.toNat_lt, Nat.zero_xor]
theorem word_inj {l m : List UInt8} (hl : l.length = m.length) (h : word l = word m) : l = m := by
  induction l generalizing m with
  | nil => cases m with | nil => rfl | cons => simp at hl
  | cons c l ih =>
    cases m with
    | nil => simp at hl
    | cons d m =>
      have h1 : c.toNat = d.toNat := by rw [← word_mod c l, ← word_mod d m, h]
      have h2 : word l = word m := by rw [← word_div c l, ← word_div d m, h]
      rw [UInt8.toNat_inj.1 h1, ih (by simpa using hl) h2]
theorem word_lt4 {l : List UInt8} (h : l.length ≤ 4) : word l < 2 ^ 32 := by
  have step : ∀ (c : UInt8) (l : List UInt8) (B : Nat), word l < B → word (c :: l) < 256 * B := fun c l B hB => by
    have h1 := word_mod c l
    have h2 := word_div c l
    have h3 := c.toNat_lt
    omega
  have h0 : word [] < 1 := by unfold word; omega
  match l, h with
  | [], _ => omega
  | [a], _ => have := step a [] 1 h0; omega
  | [a, b], _ => have := step a _ _ (step b [] 1 h0); omega
  | [a, b, c], _ => have := step a _ _ (step b _ _ (step c [] 1 h0)); omega
  | [a, b, c, d], _ => have := step a _ _ (step b _ _ (step c _ _ (step d [] 1 h0))); omega
  | _ :: _ :: _ :: _ :: _ :: _, h => simp at h
/-- What differs within four bytes that follow one another makes another sum. -/
theorem burst {s : Nat} (hs : s < 2 ^ 32) {l m : List UInt8} (hl : l.length = m.length) (h4 : l.length ≤ 4) (h : run s l = run s m) : l = m := by
  rw [run_word, run_word, hl] at h
  have h1 := tabs_inj _ (Nat.xor_lt_two_pow hs (word_lt4 h4)) (Nat.xor_lt_two_pow hs (word_lt4 (by omega))) h
  rw [Nat.xor_comm s, Nat.xor_comm s] at h1
  exact word_inj hl (xor_inj h1)
/-- A number's four bytes, the lowest first. -/
def le4 (n : Nat) : List UInt8 := [UInt8.ofNat n, UInt8.ofNat (n / 256), UInt8.ofNat (n / 65536), UInt8.ofNat (n / 16777216)]
theorem word_le4 {n : Nat} (h : n < 2 ^ 32) : word (le4 n) = n := by
  have e : ∀ k : Nat, (UInt8.ofNat k).toNat = k % 256 := fun k => UInt8.toNat_ofNat'
  have h1 := split_256 n
  have h2 := split_256 (n / 256)
  have h3 := split_256 (n / 65536)
  have h4 : n / 16777216 < 256 := by omega
  have d2 : n / 256 / 256 = n / 65536 := by omega
  have d3 : n / 65536 / 256 = n / 16777216 := by omega
  rw [d2] at h2
  rw [d3] at h3
  unfold le4 word word word word word
  rw [e, e, e, e, Nat.mul_zero, Nat.xor_zero, Nat.mod_eq_of_lt h4, h3, h2, h1]
/-- Bytes with their own sum behind end at one number. -/
theorem run_whole (l : List UInt8) : run 4294967295 (l ++ le4 (crc l)) = tabs 4 4294967295 := by
  rw [run_app, run_word, word_le4 (crc_lt l)]
  show tabs 4 _ = _
  unfold crc nots
  rw [← Nat.xor_assoc, Nat.xor_self, Nat.zero_xor]
/-- Two rows of bytes with their own sums, that differ within four bytes alone, are one. -/
theorem whole_turned {x y a l m b : List UInt8} (hx : a ++ l ++ b = x ++ le4 (crc x)) (hy : a ++ m ++ b = y ++ le4 (crc y)) (hl : l.length = m.length) (h4 : l.length ≤ 4) : l = m := by
  have h : run 4294967295 (a ++ l ++ b) = run 4294967295 (a ++ m ++ b) := by rw [hx, hy, run_whole, run_whole]
  rw [run_app, run_app, run_app _ (a ++ m), run_app _ a m] at h
  have hs : run 4294967295 a < 2 ^ 32 := run_lt (by omega) a
  exact burst hs hl h4 (run_inj (run_lt hs l) (run_lt hs m) b h)
/-- By so many bits. -/
def ons : Nat → Nat → Nat
  | 0, x => x
  | n + 1, x => on1 (ons n x)
theorem ons_tab (x : Nat) : ons 8 x = tab x := rfl
theorem ons_lt (n : Nat) {x : Nat} (h : x < 2 ^ 32) : ons n x < 2 ^ 32 := by
  induction n with
  | zero => exact h
  | succ n ih => exact on1_lt ih
end Go.Proofs.Ytceekocfmbcobaa.Cr
end

section
/- A cursor's bytes: plain words. No program. -/
namespace Go.Proofs.Ytceekocfmbcobaa.Cu
open Go.Proofs.Ytceekocfmbcobaa.Cr

/-- A number's bytes, the highest first. -/
def be (s n : Nat) : List UInt8 := (List.range s).map fun j => UInt8.ofNat (n / 2 ^ (8 * (s - 1 - j)))
def pre (a : Nat) (q : List UInt8) : List UInt8 := [76, 67, 1] ++ be 8 a ++ be 2 q.length ++ q
def enc (a : Nat) (q : List UInt8) : List UInt8 := pre a q ++ le4 (crc (pre a q))
theorem be_len (s n : Nat) : (be s n).length = s := by simp [be]
theorem be_snoc (s n k : Nat) (h : k < s) : (be s n).take (k + 1) = (be s n).take k ++ [UInt8.ofNat (n / 2 ^ (8 * (s - 1 - k)))] := by
  rw [List.take_succ_eq_append_getElem (by rw [be_len]; exact h)]
  congr 1
  simp [be]
theorem le4_len (n : Nat) : (le4 n).length = 4 := rfl
theorem pre_len (a : Nat) (q : List UInt8) : (pre a q).length = q.length + 13 := by
  simp [pre, be_len]; omega
theorem enc_len (a : Nat) (q : List UInt8) : (enc a q).length = q.length + 17 := by
  unfold enc; rw [List.length_append, pre_len, le4_len]
/-- Bytes as a number, the highest first. -/
def num (l : List UInt8) : Nat := l.foldl (fun u c => u * 256 + c.toNat) 0
theorem num_snoc (l : List UInt8) (c : UInt8) : num (l ++ [c]) = num l * 256 + c.toNat := by unfold num; rw [List.foldl_append]; rfl
theorem num_lt (l : List UInt8) : num l < 256 ^ l.length := by
  have h : ∀ (l : List UInt8) (u n : Nat), u < 256 ^ n → l.foldl (fun u c => u * 256 + c.toNat) u < 256 ^ (n + l.length) := by
    intro l
    induction l with
    | nil => intro u n h; exact h
    | cons c l ih =>
      intro u n h
      have hc := c.toNat_lt
      have := ih (u * 256 + c.toNat) (n + 1) (by rw [Nat.pow_succ]; omega)
      rw [List.length_cons, show n + (l.length + 1) = n + 1 + l.length by omega]
      exact this
  have := h l 0 0 (by simp)
  rwa [Nat.zero_add] at this
theorem u8n (k : Nat) : (UInt8.ofNat k).toNat = k % 256 := UInt8.toNat_ofNat'
theorem num_be2 (n : Nat) (h : n < 65536) : num (be 2 n) = n := by
  have e : be 2 n = [UInt8.ofNat (n / 256), UInt8.ofNat n] := by simp [be, List.range, List.range.loop]
  rw [e]
  unfold num
  simp only [List.foldl_cons, List.foldl_nil, u8n]
  omega
theorem num_be8 (n : Nat) (h : n < 18446744073709551616) : num (be 8 n) = n := by
  have e : be 8 n = [UInt8.ofNat (n / 72057594037927936), UInt8.ofNat (n / 281474976710656), UInt8.ofNat (n / 1099511627776), UInt8.ofNat (n / 4294967296), UInt8.ofNat (n / 16777216), UInt8.ofNat (n / 65536), UInt8.ofNat (n / 256), UInt8.ofNat n] := by
    simp [be, List.range, List.range.loop]
  rw [e]
  unfold num
  simp only [List.foldl_cons, List.foldl_nil, u8n]
  omega
/-- What is read of bytes: a number, a length, a text. -/
def aOf (L : List UInt8) : Nat := num ((L.drop 3).take 8)
def nOf (L : List UInt8) : Nat := num ((L.drop 11).take 2)
def qOf (L : List UInt8) : List UInt8 := (L.drop 13).take (nOf L)
/-- The document's text: all but the sum. -/
def qRef (L : List UInt8) : List UInt8 := (L.drop 13).take (L.length - 17)
theorem enc_cut (a : Nat) (q : List UInt8) : enc a q = [76, 67, 1] ++ (be 8 a ++ (be 2 q.length ++ (q ++ le4 (crc (pre a q))))) := by
  unfold enc
  generalize le4 (crc (pre a q)) = z
  simp [pre]
theorem aOf_enc (a : Nat) (q : List UInt8) (h : a < 18446744073709551616) : aOf (enc a q) = a := by
  unfold aOf
  rw [enc_cut, show (3 : Nat) = ([76, 67, 1] : List UInt8).length from rfl, List.drop_left]
  rw [List.take_left' (be_len 8 a)]
  exact num_be8 a h
theorem drop_enc11 (a : Nat) (q : List UInt8) : (enc a q).drop 11 = be 2 q.length ++ (q ++ le4 (crc (pre a q))) := by
  rw [enc_cut, ← List.append_assoc, show (11 : Nat) = ([76, 67, 1] ++ be 8 a : List UInt8).length by rw [List.length_append, be_len]; rfl, List.drop_left]
theorem drop_enc13 (a : Nat) (q : List UInt8) : (enc a q).drop 13 = q ++ le4 (crc (pre a q)) := by
  rw [enc_cut, ← List.append_assoc, ← List.append_assoc, show (13 : Nat) = ([76, 67, 1] ++ be 8 a ++ be 2 q.length : List UInt8).length by rw [List.length_append, List.length_append, be_len, be_len]; rfl, List.drop_left]
theorem nOf_enc (a : Nat) (q : List UInt8) (h : q.length < 65536) : nOf (enc a q) = q.length := by
  unfold nOf
  rw [drop_enc11, List.take_left' (be_len 2 _)]
  exact num_be2 _ h
theorem qOf_enc (a : Nat) (q : List UInt8) (h : q.length < 65536) : qOf (enc a q) = q := by
  unfold qOf
  rw [nOf_enc a q h, drop_enc13, List.take_left]
theorem qRef_enc (a : Nat) (q : List UInt8) : qRef (enc a q) = q := by
  unfold qRef
  rw [enc_len, drop_enc13, show q.length + 17 - 17 = q.length by omega, List.take_left]
/-- A cursor has one row of bytes, and these are of one cursor. -/
theorem enc_inj {a a' : Nat} {q q' : List UInt8} (ha : a < 18446744073709551616) (ha' : a' < 18446744073709551616) (hq : q.length < 65536) (hq' : q'.length < 65536) (h : enc a q = enc a' q') : a = a' ∧ q = q' :=
  ⟨by rw [← aOf_enc a q ha, h, aOf_enc a' q' ha'], by rw [← qOf_enc a q hq, h, qOf_enc a' q' hq']⟩
/-- Two cursors' bytes that differ within four that follow one another are one. -/
theorem enc_turned {a a' : Nat} {q q' x l m y : List UInt8} (h : x ++ l ++ y = enc a q) (h' : x ++ m ++ y = enc a' q') (hl : l.length = m.length) (h4 : l.length ≤ 4) : l = m :=
  whole_turned h h' hl h4
/-- What is taken is held. -/
theorem num_part (L : List UInt8) (k n : Nat) (h : k ≤ n) : num (L.take k) ≤ num (L.take n) := by
  have mono : ∀ (l : List UInt8) (u v : Nat), u ≤ v → u ≤ l.foldl (fun u c => u * 256 + c.toNat) v := by
    intro l
    induction l with
    | nil => intro u v h; exact h
    | cons c l ih => intro u v h; exact ih u (v * 256 + c.toNat) (by omega)
  have e : L.take n = L.take k ++ (L.drop k).take (n - k) := by
    rw [← List.take_append_drop k (L.take n), List.take_take, Nat.min_eq_left h, List.drop_take]
  rw [e]
  unfold num
  rw [List.foldl_append]
  exact mono _ _ _ (Nat.le_refl _)
end Go.Proofs.Ytceekocfmbcobaa.Cu
end

section
/- cursor.may: the walk. -/
namespace Go.Proofs.Ytceekocfmbcobaa.Cu
open Go.RowKit Go.Proofs.Ytceekocfmbcobaa Go.Proofs.Ytceekocfmbcobaa.Cr Go.Proofs.Ytceekocfmbcobaa.Qp Go.Proofs.Ytceekocfmbcobaa.Qy
set_option maxRecDepth 20000
set_option linter.unusedSimpArgs false

/-- A cursor that may be. -/
def IsC (a : Int) (q : ByteArray) : Prop := 0 ≤ a ∧ a ≤ 1099511627776 ∧ ∃ o, PrsR q.data.toList 0 o
open Classical in
noncomputable def mayB (a : Int) (q : ByteArray) : Bool := decide (IsC a q)
open Classical in
theorem mayB_yes {a : Int} {q : ByteArray} (h : IsC a q) : mayB a q = true := by unfold mayB; exact decide_eq_true h
open Classical in
theorem mayB_no {a : Int} {q : ByteArray} (h : ¬ IsC a q) : mayB a q = false := by unfold mayB; exact decide_eq_false h
theorem IsC.short {a : Int} {q : ByteArray} (h : IsC a q) : q.size ≤ 1024 := by
  obtain ⟨_, _, o, hp⟩ := h
  rw [← bsize]
  cases hp with
  | ok h _ _ _ _ => exact h
theorem isC_of {a : Int} {q : ByteArray} {E : Int} {o : Option Q} (hp : PrsR q.data.toList E o) : IsC a q ↔ (0 ≤ a ∧ a ≤ 1099511627776 ∧ E = 0) :=
  ⟨fun ⟨h1, h2, o', h3⟩ => ⟨h1, h2, (hp.det h3).1⟩, fun ⟨h1, h2, h3⟩ => ⟨h1, h2, o, by rw [← h3]; exact hp⟩⟩

set_option maxHeartbeats 1600000 in
theorem may_any (a : Int) (q : ByteArray) (w : World) : Calls Try.prog 41 #[.agg #[.int .i64 a, .string q]] w fun e w' => e = .returned (.bool (mayB a q)) ∧ Below w.heap.size w w' := by
  have hb0 := (Below.refl w.heap.size w).alloc (Nat.le_refl _) (.cells #[.int .i64 a, .string q] 45)
  have hB0 := Blk.new w 45 #[.int .i64 a, .string q]
  have hz0 : (w.alloc (.cells #[.int .i64 a, .string q] 45)).heap.size = w.heap.size + 1 := by simp
  have c1 := parse_any q (w.alloc (.cells #[.int .i64 a, .string q] 45))
  generalize hm : mayB a q = b
  have Hm := Lib.hid hm
  have Hb0 := Lib.hid hb0
  have HB0 := Lib.hid hB0
  have Hz0 := Lib.hid hz0
  clear hm hb0 hB0 hz0
  go_enter Try.func41, Try.ntmps41
  go_wp2_with fail
  refine c1.mono ?_
  rintro e w1 ⟨E, oq, a0, a1, a2, a3, hp, rfl, hF, hb1⟩
  have hbx := (HB0.out.below hb1 (by rw [Hz0.out]; omega)).alloc (.cells #[a0, a1, a2, a3] 29)
  have hz1 := hb1.size
  have Hfin := Lib.hid ((Hb0.out.trans (hb1.mono (by rw [Hz0.out]; omega))).alloc (by have := Hz0.out; omega) (.cells #[a0, a1, a2, a3] 29))
  have HI := Lib.hid (isC_of (a := a) hp)
  have hc0 := hbx.cell 0
  have hc1 := hbx.cell 1
  have hlt : w.heap.size < w1.heap.size := by have := Hz0.out; omega
  obtain ⟨A', n', c', C', m', d', e4⟩ := hF.four
  simp only [List.cons.injEq, and_true] at e4
  obtain ⟨rfl, rfl, rfl, rfl⟩ := e4
  simp at hc0 hc1
  clear c1 hp hF hb1 hbx hz1 HB0 Hb0 Hz0
  generalize (oq.getD noQ).kind = k9 at *
  generalize (oq.getD noQ).name = s9 at *
  have key : Hid (∀ x : Bool, (x = true ↔ (0 ≤ a ∧ a ≤ 1099511627776 ∧ E = 0)) → x = b) := Lib.hid (fun x hx => by
    rw [← Hm.out]
    by_cases h : IsC a q
    · rw [mayB_yes h]; exact hx.2 (HI.out.1 h)
    · rw [mayB_no h]
      cases x with
      | false => rfl
      | true => exact absurd (HI.out.2 (hx.1 rfl)) h)
  clear HI Hm
  by_cases h0 : 0 ≤ a
  · by_cases h1 : a ≤ 1099511627776
    · by_cases hE : E = 0
      · subst hE
        go_wp2
        go_ret
        exact ⟨by rw [← key.out true (by simp [h0, h1])]; rfl, Hfin.out⟩
      · have hE' : (E == 0) = false := by rw [beq_eq_false_iff_ne]; exact hE
        have Hn := Lib.hid (key.out false (by simp [hE]))
        clear hE
        go_wp2
        go_ret
        exact ⟨by rw [← Hn.out]; rfl, Hfin.out⟩
    · have Hn := Lib.hid (key.out false (by simp [h1]))
      have h2 : 1099511627776 < a := by omega
      go_wp2
      go_ret
      exact ⟨by rw [← Hn.out]; rfl, Hfin.out⟩
  · have Hn := Lib.hid (key.out false (by simp [h0]))
    have h2 : a < 0 := by omega
    go_wp2
    go_ret
    exact ⟨by rw [← Hn.out]; rfl, Hfin.out⟩
end Go.Proofs.Ytceekocfmbcobaa.Cu
end

section
/- The program's crc: its table, the sum of bytes: the walks. -/
namespace Go.Proofs.Ytceekocfmbcobaa.Cr
open Go.RowKit Go.Proofs.Ytceekocfmbcobaa
set_option maxRecDepth 20000
set_option linter.unusedSimpArgs false

/-- The table, as far as it is made. -/
structure TabAt (w wr : World) (g k : Nat) : Prop where
  bel : Below w.heap.size w wr
  ge : g = w.heap.size
  ex : ∃ cs, Blk wr g 124 cs ∧ cs.size = 256 ∧ ∀ j, j < k → cs[j]? = some (.int .u32 (tab j : Nat))
theorem zero_size : (Try.zeroCells124).size = 256 := by kernel_rfl
theorem TabAt.start (w : World) : TabAt w (w.alloc (.cells Try.zeroCells124 124)) w.heap.size 0 :=
  ⟨(Below.refl _ _).alloc (Nat.le_refl _) _, rfl, _, Blk.new _ _ _, zero_size, fun j h => absurd h (by omega)⟩
theorem TabAt.put {w wr : World} {g k : Nat} (h : TabAt w wr g k) (hk : k < 256) : TabAt w (wr.setCell ⟨g, k, none⟩ (.int .u32 (tab k : Nat))) g (k + 1) := by
  obtain ⟨hb, rfl, cs, hB, hz, hc⟩ := h
  refine ⟨hb.setCell (p := ⟨w.heap.size, k, none⟩) (Nat.le_refl _) _, rfl, _, hB.set_ k _, by simpa using hz, fun j hj => ?_⟩
  rw [Array.getElem?_setIfInBounds]
  by_cases e : k = j
  · subst e; rw [if_pos rfl, if_pos (by omega)]
  · rw [if_neg e]; exact hc j (by omega)
theorem TabAt.old {w wr : World} {g k : Nat} (h : TabAt w wr g k) (i : Nat) (hk : i < 256) : ∃ u, wr.cell? ⟨g, i, none⟩ = some u ∧ wr.frozen? ⟨g, i, none⟩ = false := by
  obtain ⟨hb, rfl, cs, hB, hz, hc⟩ := h
  exact ⟨cs[i]'(by omega), by rw [hB.cell, Array.getElem?_eq_getElem], hB.frozen i⟩
theorem odd_bits (x : Nat) (h : x < 2 ^ 32) : bits .and .u32 (x : Int) 1 = ((x % 2 : Nat) : Int) := by
  have := u32_and_nat x 1 (by omega) (by omega)
  rw [show (1 : Int) = ((1 : Nat) : Int) from rfl, this]
  congr 1
  exact Nat.and_two_pow_sub_one_eq_mod x 1
theorem xor_bits (x y : Nat) (h : x < 2 ^ 32) (hy : y < 2 ^ 32) : bits .xor .u32 (x : Int) (y : Int) = ((x ^^^ y : Nat) : Int) := u32_xor_nat x y (by omega) (by omega)
theorem half (x : Nat) : ((x / 2 : Nat) : Int) = (x : Int) / 2 := by omega

set_option maxHeartbeats 1600000 in
theorem table_any (w : World) : Calls Try.prog 63 #[] w fun e w' => ∃ g, e = .returned (.pointer (some ⟨g, 0, none⟩)) ∧ TabAt w w' g 256 := by
  have H0 := Lib.hid (TabAt.start w)
  go_enter Try.func63, Try.ntmps63
  go_wp2_with fail
  generalize hw0 : w.alloc (.cells Try.zeroCells124 124) = w0 at *
  clear hw0
  go_loopw [5] (fun i wr => ∃ k : Nat, k ≤ 256 ∧ i = .int .i64 k ∧ TabAt w wr w.heap.size k) (fun i _ => 256 - (intOf i).toNat)
  case atStart => exact ⟨0, by omega, rfl, H0.out⟩
  case round =>
    obtain ⟨k, hk, rfl, hT⟩ := hrel
    have HT := Lib.hid hT
    clear hT
    by_cases hlt : k < 256
    · have hki : (k : Int) < 256 := by omega
      have hkm : (k : Int) % 4294967296 = k := by omega
      go_wp2_with fail
      go_loop [3, 10] (fun x n => ∃ m : Nat, m ≤ 8 ∧ n = .int .i64 m ∧ x = .int .u32 (ons m k : Nat)) (fun _ n => 8 - (intOf n).toNat)
      case atStart => exact ⟨0, by omega, rfl, rfl⟩
      case round =>
        obtain ⟨m, hm, rfl, rfl⟩ := hrel
        have hx := ons_lt m (x := k) (by omega)
        have hs : ons (m + 1) k = on1 (ons m k) := rfl
        have h8 : m = 8 → ons m k = tab k := fun e => by rw [e, ons_tab]
        have Hs := Lib.hid hs
        have H8 := Lib.hid h8
        clear hs h8
        generalize ons m k = x at *
        by_cases hm8 : m < 8
        · have hmi : (m : Int) < 8 := by omega
          have hx0 : (0 : Int) ≤ (x : Int) := by omega
          have hx1 : (x : Int) < 4294967296 := by omega
          rcases Nat.mod_two_eq_zero_or_one x with h2 | h2
          · have hb : bits .and .u32 (x : Int) 1 = 0 := by rw [odd_bits x hx, h2]; rfl
            have Fin : Hid (on1 x = x / 2) := Lib.hid (by unfold on1; rw [if_neg (by omega)])
            clear h2
            go_wp2
            go_round
            case rel => exact ⟨m + 1, by omega, by go_num, by rw [Hs.out, Fin.out, half]⟩
            case measure => simp [intOf]; omega
          · have hb : bits .and .u32 (x : Int) 1 = 1 := by rw [odd_bits x hx, h2]; rfl
            have hxb : bits .xor .u32 ((x : Int) / 2) 3988292384 = ((on1 x : Nat) : Int) := by
              rw [← half, show (3988292384 : Int) = ((3988292384 : Nat) : Int) from rfl, xor_bits _ _ (by omega) (by omega)]
              unfold on1; rw [if_pos h2]
            clear h2
            go_wp2
            go_round
            case rel => exact ⟨m + 1, by omega, by go_num, by rw [Hs.out]⟩
            case measure => simp [intOf]; omega
        · obtain rfl : m = 8 := by omega
          obtain ⟨u, hu, huf⟩ := HT.out.old k hlt
          have HP := Lib.hid (HT.out.put hlt)
          have e8 := H8.out rfl
          subst e8
          go_wp2
          go_roundw
          case rel => exact ⟨k + 1, by omega, by go_num, HP.out⟩
          case measure => simp [intOf]; omega
    · obtain rfl : k = 256 := by omega
      go_wp2
      go_ret
      exact ⟨_, rfl, HT.out⟩
end Go.Proofs.Ytceekocfmbcobaa.Cr
end

section
/- The program's crc.Next, Sum: the walks. -/
namespace Go.Proofs.Ytceekocfmbcobaa.Cr
open Go.RowKit Go.Proofs.Ytceekocfmbcobaa
set_option maxRecDepth 20000
set_option linter.unusedSimpArgs false

/-- Bytes, as values. -/
def bv (L : List UInt8) : List Value := L.map fun c => .int .u8 (c.toNat : Int)
theorem bv_len (L : List UInt8) : (bv L).length = L.length := by unfold bv; rw [List.length_map]
theorem bv_app (L M : List UInt8) : bv (L ++ M) = bv L ++ bv M := by unfold bv; rw [List.map_append]
theorem TabAt.get {w wr : World} {g k : Nat} (h : TabAt w wr g k) {j : Nat} (hj : j < k) : wr.cell? ⟨g, j, none⟩ = some (.int .u32 (tab j : Nat)) := by
  obtain ⟨hb, rfl, cs, hB, hz, hc⟩ := h
  rw [hB.cell]; exact hc j hj
theorem not_bits (x : Nat) (h : x < 2 ^ 32) : bits .xor .u32 IntKind.u32.max (x : Int) = ((nots x : Nat) : Int) := by
  have := xor_bits 4294967295 x (by omega) h
  rw [show IntKind.u32.max = ((4294967295 : Nat) : Int) by rfl, this, Nat.xor_comm]
  rfl

set_option maxHeartbeats 1600000 in
theorem next_any (s : Nat) (A : Option Addr) (n c : Nat) (L : List UInt8) (w : World) (hs : s < 2 ^ 32) (hR : Reads w w.heap.size 1 A n (bv L)) (hn : n ≤ 140737488351232) :
    Calls Try.prog 58 #[.int .u32 (s : Int), .slice A n c] w fun e w' => e = .returned (.int .u32 (nots (run (nots s) L) : Nat)) ∧ Below w.heap.size w w' := by
  have hln : L.length = n := by have := hR.1; rw [bv_len] at this; omega
  have Hln := Lib.hid hln
  have HR := Lib.hid hR
  have hs0 : (0 : Int) ≤ (s : Int) := by omega
  have hs1 : (s : Int) ≤ 4294967295 := by omega
  have hns := nots_lt hs
  have hnb := not_bits s hs
  have hsg : IntKind.u32.signed = false := rfl
  have hr0 := run_lt hns ([] : List UInt8)
  clear hR hln
  have c1 := table_any w
  go_enter Try.func58, Try.ntmps58
  go_wp2_with fail
  refine c1.mono ?_
  rintro e w1 ⟨g, rfl, hT⟩
  have hb := hT.bel
  have hg : g = w.heap.size := hT.ge
  have HR1 := Lib.hid (HR.out.below hb)
  have HT := Lib.hid hT
  have Hb := Lib.hid hb
  clear c1 hT hb HR hg
  go_wp2_with fail
  clear hnb
  go_loop [6, 14] (fun x i => ∃ k : Nat, k ≤ n ∧ i = .int .i64 k ∧ x = .int .u32 (run (nots s) (L.take k) : Nat)) (fun _ i => n - (intOf i).toNat)
  case atStart => exact ⟨0, Nat.zero_le _, rfl, rfl⟩
  case round =>
    obtain ⟨k, hk, rfl, rfl⟩ := hrel
    have hx := run_lt hns (L.take k)
    by_cases hlt : k < n
    · have hkl : k < L.length := by rw [Hln.out]; exact hlt
      obtain ⟨b, o, hl, rfl, hbl, hcell⟩ := HR1.out.at_map hlt
      have hts : run (nots s) (L.take (k + 1)) = on (run (nots s) (L.take k)) L[k] := by
        rw [List.take_succ_eq_append_getElem hkl, run_snoc]
      have Hts := Lib.hid hts
      clear hts
      generalize run (nots s) (L.take k) = x at *
      generalize L[k] = q at *
      have hq := q.toNat_lt
      have hI : bits .xor .u8 ((x : Int) % 256) (q.toNat : Int) = (((x % 256) ^^^ q.toNat : Nat) : Int) := by
        have := u8_xor_nat (x % 256) q.toNat (by omega) hq
        rw [← this]; rfl
      have hy : (x % 256) ^^^ q.toNat < 256 := Nat.xor_lt_two_pow (n := 8) (by omega) (by omega)
      have Ho := Lib.hid (on_table x q)
      generalize (x % 256) ^^^ q.toNat = y at *
      have hg := HT.out.get hy
      have hty := tab_lt (x := y) (by omega)
      have hdv : bits .xor .u32 (tab y : Int) ((x : Int) / 256) = ((on x q : Nat) : Int) := by
        rw [show (x : Int) / 256 = ((x / 256 : Nat) : Int) by omega, xor_bits _ _ hty (by omega), Ho.out]
      generalize tab y = ty at *
      have hx0 : (0 : Int) ≤ (x : Int) := by omega
      have hx1 : (x : Int) ≤ 4294967295 := by omega
      have hyi : (y : Int) < 256 := by omega
      go_wp2
      go_round
      case rel => exact ⟨k + 1, by omega, by go_num, by rw [Hts.out]⟩
      case measure => simp [intOf]; omega
    · obtain rfl : k = n := by omega
      have Fin : Hid (L.take k = L) := Lib.hid (List.take_of_length_le (by rw [Hln.out]; exact Nat.le_refl _))
      have hnb := not_bits _ hx
      rw [Fin.out] at hx hnb ⊢
      generalize hxx : run (nots s) L = x at *
      have Hx := Lib.hid hxx
      clear hxx
      go_wp2
      go_ret
      rw [Hx.out]
      exact ⟨rfl, Hb.out⟩
/-- The sum of one row of bytes, held in a row of rows. -/
theorem nots_zero : nots 0 = 4294967295 := by decide
set_option maxHeartbeats 1600000 in
theorem sum_any (p : Nat) (A : Option Addr) (n c c1 : Nat) (L : List UInt8) (w : World) (hp : w.cell? ⟨p, 0, none⟩ = some (.slice A n c)) (hpl : p < w.heap.size) (hR : Reads w w.heap.size 1 A n (bv L)) (hn : n ≤ 140737488351232) :
    Calls Try.prog 42 #[.slice (some ⟨p, 0, none⟩) 1 c1] w fun e w' => e = .returned (.int .u32 (crc L : Nat)) ∧ Below w.heap.size w w' := by
  have c1 := next_any 0 A n c L w (by omega) hR hn
  rw [nots_zero] at c1
  have hcr : crc L = nots (run 4294967295 L) := rfl
  rw [← hcr] at c1
  generalize crc L = r at *
  clear hcr hR
  go_enter Try.func42, Try.ntmps42
  go_wp2_with fail
  go_loopw [3, 8] (fun x i wr => (i = .int .i64 0 ∧ x = .int .u32 0 ∧ wr = w) ∨ (i = .int .i64 1 ∧ x = .int .u32 (r : Int) ∧ Below w.heap.size w wr)) (fun _ i _ => 1 - (intOf i).toNat)
  case atStart => exact .inl ⟨rfl, rfl, rfl⟩
  case round =>
    rcases hrel with ⟨rfl, rfl, rfl⟩ | ⟨rfl, rfl, hb⟩
    · go_wp2_with fail
      refine c1.mono ?_
      rintro e w2 ⟨rfl, hb⟩
      have Hb := Lib.hid hb
      clear hb c1
      go_wp2
      go_roundw
      case rel => exact .inr ⟨rfl, rfl, Hb.out⟩
      case measure => simp [intOf]
    · have Hb := Lib.hid hb
      clear hb
      go_wp2
      go_ret
      exact ⟨rfl, Hb.out⟩
end Go.Proofs.Ytceekocfmbcobaa.Cr
end
