/- crc: the reference's bit-by-bit remainder, the plain law (16 bits). -/
import Derived.Test.YtogpdmpefdafnaaCrcQ
namespace Go.Proofs.Ytogpdmpefdafnaa.Crc
open Go

/-- One bit of a message into a register of n bits. -/
def rb (n g s : Nat) (b : Bool) : Nat := if (s.testBit (n - 1)) != b then (2 * s % 2 ^ n) ^^^ g else 2 * s % 2 ^ n
/-- The lowest k bits of c, the highest first. -/
def rbk (n g c : Nat) : Nat → Nat → Nat
  | 0, s => s
  | k + 1, s => rbk n g c k (rb n g s (c.testBit k))

theorem rb_lt (n g s : Nat) (b : Bool) (hg : g < 2 ^ n) : rb n g s b < 2 ^ n := by
  have := Nat.mod_lt (2 * s) (Nat.two_pow_pos n)
  unfold rb
  split
  · exact Nat.xor_lt_two_pow this hg
  · exact this

theorem rb_step16 (s d : Nat) : rd 16 4129 (s ^^^ (256 * d)) = rb 16 4129 s (d.testBit 7) ^^^ (256 * (2 * d % 256)) := by
  have h1 : (256 * d).testBit 15 = d.testBit 7 := by
    simp only [Nat.testBit, Nat.shiftRight_eq_div_pow]
    congr 2
    omega
  have h2 : 2 * (256 * d) % 2 ^ 16 = 256 * (2 * d % 256) := by omega
  unfold rd rb
  rw [Nat.testBit_xor, show 16 - 1 = 15 by rfl, h1, two_mul_xor, Nat.xor_mod_two_pow, h2]
  generalize 2 * s % 2 ^ 16 = A
  generalize 256 * (2 * d % 256) = B
  cases s.testBit 15 <;> cases d.testBit 7 <;> simp
  · rw [Nat.xor_assoc, Nat.xor_comm B, Nat.xor_assoc]
  · rw [Nat.xor_assoc, Nat.xor_comm B, Nat.xor_assoc]

theorem top_bit (c k : Nat) (hk : k < 8) : (2 ^ (7 - k) * c % 256).testBit 7 = c.testBit k := by
  rw [show (256 : Nat) = 2 ^ 8 by rfl, Nat.testBit_mod_two_pow, Nat.mul_comm, Nat.testBit_mul_two_pow]
  simp
  rw [show 7 - (7 - k) = k by omega]

theorem rbk_step16 (c : Nat) : ∀ k s, k ≤ 8 → rds 16 4129 k (s ^^^ (256 * (2 ^ (8 - k) * c % 256))) = rbk 16 4129 c k s
  | 0, s, _ => by
    have : 2 ^ (8 - 0) * c % 256 = 0 := by rw [show 2 ^ (8 - 0) = 256 by rfl]; omega
    rw [this]; simp [rds, rbk]
  | k + 1, s, h => by
    have e : 8 - (k + 1) = 7 - k := by omega
    have e2 : 2 * (2 ^ (7 - k) * c % 256) % 256 = 2 ^ (8 - k) * c % 256 := by
      rw [show 8 - k = (7 - k) + 1 by omega, Nat.pow_succ, Nat.mul_right_comm]
      omega
    rw [e]
    show rds 16 4129 k (rd 16 4129 _) = rbk 16 4129 c k (rb 16 4129 s (c.testBit k))
    rw [rb_step16, top_bit c k (by omega), e2, rbk_step16 c k _ (by omega)]

theorem st16_rbk (s c : Nat) (hc : c < 256) : rbk 16 4129 c 8 s = st16 s c := by
  rw [← rbk_step16 c 8 s (Nat.le_refl _)]
  have : 2 ^ (8 - 8) * c % 256 = c := by simp; omega
  rw [this]; rfl

end Go.Proofs.Ytogpdmpefdafnaa.Crc
