/- A byte of a word read and set: bits as arithmetic. -/
import Derived.Test.YtkpjkbkglnabiaaGreatDoorBase
set_option linter.unusedVariables false
namespace Go.Proofs.YtkpjkbkglnabiaaGreatDoor
open Go.RowKit

/-- Byte r of a word, and the word with another byte there. -/
def byteOf (w r : Nat) : Nat := w / 2 ^ (8 * r) % 256
def setByte (w r b : Nat) : Nat := 2 ^ (8 * r + 8) * (w / 2 ^ (8 * r + 8)) + (2 ^ (8 * r) * b + w % 2 ^ (8 * r))

theorem setByte_lt (w r b : Nat) (hw : w < 4294967296) (hr : r < 4) (hb : b < 256) : setByte w r b < 4294967296 := by
  unfold setByte
  rcases (by omega : r = 0 ∨ r = 1 ∨ r = 2 ∨ r = 3) with rfl | rfl | rfl | rfl <;> simp <;> omega

theorem mask_bit (n : Nat) (hn : n = 0 ∨ n = 8 ∨ n = 16 ∨ n = 24) (j : Nat) (hj : j < 32) : (4294967295 - 255 * 2 ^ n).testBit j = decide (j < n ∨ n + 8 ≤ j) := by
  rcases hn with rfl | rfl | rfl | rfl <;> revert j <;> decide

theorem set_bits (w b n : Nat) (hw : w < 4294967296) (hb : b < 256) (hn : n = 0 ∨ n = 8 ∨ n = 16 ∨ n = 24) :
    (w &&& (4294967295 - 255 * 2 ^ n)) ||| (b * 2 ^ n) = 2 ^ (n + 8) * (w / 2 ^ (n + 8)) + (2 ^ n * b + w % 2 ^ n) := by
  have hp : 0 < 2 ^ n := Nat.two_pow_pos n
  have h1 : w % 2 ^ n < 2 ^ n := Nat.mod_lt _ hp
  have h2 : 2 ^ n * b + w % 2 ^ n < 2 ^ (n + 8) := by
    rw [Nat.pow_add]
    calc 2 ^ n * b + w % 2 ^ n < 2 ^ n * b + 2 ^ n := by omega
      _ = 2 ^ n * (b + 1) := by rw [Nat.mul_add, Nat.mul_one]
      _ ≤ 2 ^ n * 2 ^ 8 := Nat.mul_le_mul_left _ (by omega)
  have hw32 : ∀ j, 32 ≤ j → w.testBit j = false := fun j hj => Nat.testBit_lt_two_pow (Nat.lt_of_lt_of_le hw (Nat.pow_le_pow_right (n := 2) (by omega) hj))
  have hb8 : ∀ j, 8 ≤ j → b.testBit j = false := fun j hj => Nat.testBit_lt_two_pow (Nat.lt_of_lt_of_le hb (Nat.pow_le_pow_right (n := 2) (by omega) hj))
  apply Nat.eq_of_testBit_eq
  intro j
  rw [Nat.testBit_two_pow_mul_add _ h2, Nat.testBit_two_pow_mul_add _ h1, Nat.testBit_or, Nat.testBit_and, Nat.testBit_mul_two_pow, Nat.testBit_mod_two_pow, Nat.testBit_div_two_pow]
  by_cases hj : j < 32
  · rw [mask_bit n hn j hj]
    by_cases c1 : j < n
    · simp [c1, show j < n + 8 by omega, show ¬ n ≤ j by omega]
    · by_cases c2 : j < n + 8
      · simp [c1, c2, show n ≤ j by omega, show ¬ n + 8 ≤ j by omega]
      · have e : j - (n + 8) + (n + 8) = j := by omega
        simp [c1, c2, show n ≤ j by omega, show n + 8 ≤ j by omega, hb8 (j - n) (by omega)]
  · have : ¬ j < n + 8 := by omega
    simp [this, hw32 j (by omega), show n ≤ j by omega, hb8 (j - n) (by omega), show n + 8 ≤ j by omega]

theorem setByte_bits (w r b : Nat) (hw : w < 4294967296) (hb : b < 256) (hr : r < 4) :
    bits .or .u32 (bits .andNot .u32 (w : Int) ((255 * 2 ^ (8 * r) : Nat) : Int)) ((b * 2 ^ (8 * r) : Nat) : Int) = (setByte w r b : Nat) := by
  have hn : 8 * r = 0 ∨ 8 * r = 8 ∨ 8 * r = 16 ∨ 8 * r = 24 := by omega
  have h1 : 255 * 2 ^ (8 * r) < 4294967296 := by rcases hn with h | h | h | h <;> rw [h] <;> omega
  have h2 : b * 2 ^ (8 * r) < 4294967296 := by rcases hn with h | h | h | h <;> rw [h] <;> omega
  rw [u32_andNot_nat _ _ hw h1, u32_or_nat _ _ (Nat.lt_of_le_of_lt Nat.and_le_left hw) h2, set_bits w b (8 * r) hw hb hn]
  rfl
end Go.Proofs.YtkpjkbkglnabiaaGreatDoor
