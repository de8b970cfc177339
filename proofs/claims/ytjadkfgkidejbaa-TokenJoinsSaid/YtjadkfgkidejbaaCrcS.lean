/- crc: the walk of the reference's remainder and Sixteen. -/
import Derived.Test.YtjadkfgkidejbaaCrcB
import Derived.Test.YtjadkfgkidejbaaCrcR
namespace Go.Proofs.Ytjadkfgkidejbaa
open Go.RowKit
set_option linter.unusedVariables false

theorem u8_bit (c k : Nat) (hc : c < 256) : bits .and .u8 ((c : Int) / 2 ^ k) 1 = if c.testBit k then 1 else 0 := by
  have e : ((c : Int) / 2 ^ k) = ((c / 2 ^ k : Nat) : Int) := by simp
  rw [e, show (1 : Int) = ((1 : Nat) : Int) by rfl, u8_and_nat _ 1 (Nat.lt_of_le_of_lt (Nat.div_le_self _ _) hc) (by omega), nat_mask1]
  have h : c.testBit k = (c / 2 ^ k % 2 == 1) := by simp [Nat.testBit, Nat.shiftRight_eq_div_pow]
  rw [h]
  by_cases h1 : c / 2 ^ k % 2 = 1
  · rw [h1]; rfl
  · have h0 : c / 2 ^ k % 2 = 0 := by omega
    rw [h0]; rfl
theorem u32_top (v : Nat) (hv : v < 65536) : bits .and .u32 (v : Int) 32768 = if v.testBit 15 then 32768 else 0 := by
  have := nat_bit 15 v
  rw [show (32768 : Int) = ((32768 : Nat) : Int) by rfl, u32_and_nat _ _ (by omega) (by omega), show (32768 : Nat) = 2 ^ 15 by rfl, this, testBit_top16]
  by_cases h : v / 32768 % 2 = 1
  · rw [show (2 : Nat) ^ 15 = 32768 by rfl, h]; rfl
  · have h0 : v / 32768 % 2 = 0 := by omega
    rw [show (2 : Nat) ^ 15 = 32768 by rfl, h0]; rfl
theorem u32_mask (v : Nat) (hv : v < 65536) : bits .and .u32 ((v : Int) * 2) 65535 = ((2 * v % 65536 : Nat) : Int) := by
  rw [show (v : Int) * 2 = ((2 * v : Nat) : Int) by simp; omega, show (65535 : Int) = ((65535 : Nat) : Int) by rfl, u32_and_nat _ _ (by omega) (by omega), show (65535 : Nat) = 2 ^ 16 - 1 by rfl, Nat.and_two_pow_sub_one_eq_mod]

end Go.Proofs.Ytjadkfgkidejbaa
