/- Plain facts on the document's filters: bits by division, by sums. No program. -/
import Derived.Test.YtambdddahbgelaaBloomP
namespace Go.Proofs.Ytambdddahbgelaa.Bl
open Go.RowKit

theorem bit_all : ∀ (b : Fin 256) (j : Fin 8), (decide (b.val / 2 ^ j.val % 2 = 1) = b.val.testBit j.val) ∧ (b.val.testBit j.val = false → b.val + 2 ^ j.val = (b.val ||| 2 ^ j.val) ∧ b.val + 2 ^ j.val < 256) := by decide +kernel
theorem bit_div (b j : Nat) (hb : b < 256) (hj : j < 8) : decide (b / 2 ^ j % 2 = 1) = b.testBit j := (bit_all ⟨b, hb⟩ ⟨j, hj⟩).1
theorem bit_add (b j : Nat) (hb : b < 256) (hj : j < 8) (h : b.testBit j = false) : b + 2 ^ j = (b ||| 2 ^ j) ∧ b + 2 ^ j < 256 := (bit_all ⟨b, hb⟩ ⟨j, hj⟩).2 h
/-- The second number, made odd by adding. -/
theorem or_one (n : Nat) : n ||| 1 = if n % 2 = 0 then n + 1 else n := by
  split
  · rename_i h
    obtain ⟨k, rfl⟩ : ∃ k, n = 2 * k := ⟨n / 2, by omega⟩
    have := Nat.two_pow_add_eq_or_of_lt (i := 1) (b := 1) (by omega) k
    rw [Nat.pow_one] at this
    rw [← this]
  · rename_i h
    obtain ⟨k, rfl⟩ : ∃ k, n = 2 * k + 1 := ⟨n / 2, by omega⟩
    have := Nat.two_pow_add_eq_or_of_lt (i := 1) (b := 1) (by omega) k
    rw [Nat.pow_one] at this
    rw [this, Nat.or_assoc, Nat.or_self]
theorem sec_odd (l : List UInt8) : sec l = if fnv l / 4294967296 % 2 = 0 then fnv l / 4294967296 + 1 else fnv l / 4294967296 := or_one _
/-- The walk's own forms. -/
theorem hasr_walk (b k : Nat) (hb : b < 256) : ((b : Int) / (2 ^ (k % 8) % 256) % 2 == 1) = b.testBit (k % 8) := by
  have h1 : (2 : Int) ^ (k % 8) % 256 = ((2 ^ (k % 8) : Nat) : Int) := by
    have := pow8 k
    rw [Int.emod_eq_of_lt]
    · simp
    · exact Int.le_of_lt (Int.pow_pos (by decide))
    · have : ((2 ^ (k % 8) : Nat) : Int) < 256 := by omega
      simpa using this
  rw [h1, ← bit_div b (k % 8) hb (Nat.mod_lt _ (by decide)), Bool.eq_iff_iff]
  rw [show (b : Int) / ((2 ^ (k % 8) : Nat) : Int) % 2 = ((b / 2 ^ (k % 8) % 2 : Nat) : Int) from by rw [Int.natCast_emod, Int.natCast_ediv]; rfl]
  generalize b / 2 ^ (k % 8) % 2 = z
  rw [beq_iff_eq, decide_eq_true_eq]
  omega
theorem pow_ne (k : Nat) : ¬ (2 : Int) ^ (k % 8) % 256 = 0 := by
  have h := pow8 k
  have h1 : (2 : Int) ^ (k % 8) % 256 = ((2 ^ (k % 8) : Nat) : Int) := by
    rw [Int.emod_eq_of_lt]
    · simp
    · exact Int.le_of_lt (Int.pow_pos (by decide))
    · have : ((2 ^ (k % 8) : Nat) : Int) < 256 := by omega
      simpa using this
  have h0 : 0 < 2 ^ (k % 8) := Nat.pow_pos (by decide)
  omega
theorem addr_walk (b k : Nat) (hb : b < 256) (h : b.testBit (k % 8) = false) : IntKind.u8.wrap ((b : Int) + 2 ^ (k % 8) % 256) = ((b ||| 2 ^ (k % 8) : Nat) : Int) := by
  have hp := pow8 k
  have h1 : (2 : Int) ^ (k % 8) % 256 = ((2 ^ (k % 8) : Nat) : Int) := by
    rw [Int.emod_eq_of_lt]
    · simp
    · exact Int.le_of_lt (Int.pow_pos (by decide))
    · have : ((2 ^ (k % 8) : Nat) : Int) < 256 := by omega
      simpa using this
  have h2 := bit_add b (k % 8) hb (Nat.mod_lt _ (by decide)) h
  rw [h1, IntKind.wrap_u8, ← h2.1]
  omega
theorem Bytes.of_set {bs : List Nat} (h : Bytes bs) (i b : Nat) (hb : b < 256) : Bytes (bs.set i b) := by
  intro x hx
  rcases List.mem_or_eq_of_mem_set hx with hx | rfl
  · exact h x hx
  · exact hb
theorem addT_one (x : List Nat × Nat) (s : ByteArray) : addT x [s] = addK x (pls s.data.toList (8 * x.1.length)) := rfl
end Go.Proofs.Ytambdddahbgelaa.Bl
