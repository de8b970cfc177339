/- crc: the plain laws of the two sums, in Nat: one round, a byte, a row; mixing; one bit turned; bursts. -/
import Derived.Laws.BitsAllLaws
namespace Go.Proofs.Ytogpdmpefdafnaa.Crc
open Go

/-- One round of a register of n bits with the polynomial g. -/
def rd (n g v : Nat) : Nat := if v.testBit (n - 1) then (2 * v % 2 ^ n) ^^^ g else 2 * v % 2 ^ n
def rds (n g : Nat) : Nat → Nat → Nat
  | 0, v => v
  | k + 1, v => rds n g k (rd n g v)

theorem two_mul_xor (a b : Nat) : 2 * (a ^^^ b) = (2 * a) ^^^ (2 * b) := by
  have := Nat.shiftLeft_xor_distrib (a := a) (b := b) (i := 1)
  simpa [Nat.shiftLeft_eq, Nat.mul_comm] using this

theorem rd_xor (n g a b : Nat) : rd n g (a ^^^ b) = rd n g a ^^^ rd n g b := by
  unfold rd
  rw [Nat.testBit_xor, two_mul_xor, Nat.xor_mod_two_pow]
  generalize 2 * a % 2 ^ n = A
  generalize 2 * b % 2 ^ n = B
  cases a.testBit (n - 1) <;> cases b.testBit (n - 1) <;> simp
  · rw [Nat.xor_assoc]
  · rw [Nat.xor_assoc, Nat.xor_assoc, Nat.xor_comm g]
  · rw [Nat.xor_assoc, Nat.xor_comm g, Nat.xor_assoc, Nat.xor_self, Nat.xor_zero]

theorem rds_xor (n g : Nat) : ∀ k a b, rds n g k (a ^^^ b) = rds n g k a ^^^ rds n g k b
  | 0, _, _ => rfl
  | k + 1, a, b => by simp only [rds, rd_xor, rds_xor n g k]

theorem rds_add (n g : Nat) : ∀ j k v, rds n g (j + k) v = rds n g k (rds n g j v)
  | 0, k, v => by rw [Nat.zero_add]; rfl
  | j + 1, k, v => by rw [show j + 1 + k = (j + k) + 1 by omega]; simp only [rds, rds_add n g j k]

theorem rds_succ (n g k v : Nat) : rds n g (k + 1) v = rd n g (rds n g k v) := rds_add n g k 1 v

theorem rd_zero (n g : Nat) : rd n g 0 = 0 := by simp [rd]
theorem rds_zero (n g : Nat) : ∀ k, rds n g k 0 = 0
  | 0 => rfl
  | k + 1 => by simp only [rds, rd_zero, rds_zero n g k]

theorem rd_lt (n g v : Nat) (hg : g < 2 ^ n) : rd n g v < 2 ^ n := by
  have h := Nat.mod_lt (2 * v) (Nat.two_pow_pos n)
  unfold rd
  split
  · exact Nat.xor_lt_two_pow h hg
  · exact h
theorem rds_lt (n g : Nat) (hg : g < 2 ^ n) : ∀ k v, v < 2 ^ n → rds n g k v < 2 ^ n
  | 0, _, h => h
  | k + 1, v, _ => rds_lt n g hg k _ (rd_lt n g v hg)

theorem rd_even (n g v : Nat) (hg : g % 2 = 0) (hn : 0 < n) : rd n g v % 2 = 0 := by
  have h2 : (2 * v % 2 ^ n) % 2 = 0 := by
    obtain ⟨m, rfl⟩ : ∃ m, n = m + 1 := ⟨n - 1, by omega⟩
    rw [Nat.pow_succ, Nat.mul_comm (2 ^ m) 2, Nat.mul_mod_mul_left]; omega
  unfold rd
  split
  · have := Nat.xor_mod_two_pow (a := 2 * v % 2 ^ n) (b := g) (n := 1)
    simp only [Nat.pow_one, h2, hg] at this
    exact this
  · exact h2

/-- A register whose highest bits are 0 is moved up. -/
theorem rds_pow (n g : Nat) : ∀ k j, k + j < n → rds n g k (2 ^ j) = 2 ^ (k + j)
  | 0, j, _ => by rw [Nat.zero_add]; rfl
  | k + 1, j, h => by
    have e : rd n g (2 ^ j) = 2 ^ (j + 1) := by
      unfold rd
      rw [Nat.testBit_two_pow, if_neg (by simp; omega), Nat.pow_succ, Nat.mul_comm 2, Nat.mod_eq_of_lt]
      rw [← Nat.pow_succ]; exact Nat.pow_lt_pow_right (by omega) (by omega)
    simp only [rds, e]
    rw [rds_pow n g k (j + 1) (by omega)]
    congr 1; omega

theorem rds_small (n g : Nat) : ∀ k v, 2 ^ k * v < 2 ^ n → rds n g k v = 2 ^ k * v
  | 0, v, _ => by simp [rds]
  | k + 1, v, h => by
    have h1 : 2 * v < 2 ^ n := by
      refine Nat.lt_of_le_of_lt ?_ h
      rw [Nat.pow_succ, Nat.mul_assoc]
      exact Nat.le_mul_of_pos_left _ (Nat.two_pow_pos k)
    have e : rd n g v = 2 * v := by
      unfold rd
      have ht : v.testBit (n - 1) = false := by
        apply Nat.testBit_lt_two_pow
        cases n with
        | zero => simp at h1; omega
        | succ m => rw [Nat.pow_succ] at h1; simp; omega
      rw [ht, Nat.mod_eq_of_lt h1]; simp
    simp only [rds, e]
    rw [rds_small n g k (2 * v) (by rw [← Nat.mul_assoc, ← Nat.pow_succ]; exact h), ← Nat.mul_assoc, ← Nat.pow_succ]

/-! The two sums. A state of the first is kept at the top of a byte (twice the sum). -/
abbrev r8 := rds 8 18
abbrev r16 := rds 16 4129

def st7 (s c : Nat) : Nat := r8 8 (s ^^^ c)
def st16 (s c : Nat) : Nat := r16 8 (s ^^^ (256 * c))
def sum7 (l : List Nat) : Nat := l.foldl st7 0 / 2
def sum16 (l : List Nat) : Nat := l.foldl st16 0

theorem mul256_xor (a b : Nat) : 256 * (a ^^^ b) = (256 * a) ^^^ (256 * b) := by
  have := Nat.shiftLeft_xor_distrib (a := a) (b := b) (i := 8)
  simpa [Nat.shiftLeft_eq, Nat.mul_comm] using this

theorem xor4 (a b c d : Nat) : (a ^^^ b) ^^^ (c ^^^ d) = (a ^^^ c) ^^^ (b ^^^ d) := by
  rw [Nat.xor_assoc, Nat.xor_assoc, ← Nat.xor_assoc b, Nat.xor_comm b c, Nat.xor_assoc]

theorem st7_xor (s t c d : Nat) : st7 (s ^^^ t) (c ^^^ d) = st7 s c ^^^ st7 t d := by unfold st7 r8; rw [xor4, rds_xor]
theorem st16_xor (s t c d : Nat) : st16 (s ^^^ t) (c ^^^ d) = st16 s c ^^^ st16 t d := by unfold st16 r16; rw [mul256_xor, xor4, rds_xor]

theorem fold7_xor : ∀ (a b : List Nat) (s t : Nat), a.length = b.length → (List.zipWith (· ^^^ ·) a b).foldl st7 (s ^^^ t) = a.foldl st7 s ^^^ b.foldl st7 t
  | [], [], _, _, _ => rfl
  | x :: a, y :: b, s, t, h => by simp only [List.zipWith_cons_cons, List.foldl_cons, st7_xor]; exact fold7_xor a b _ _ (by simpa using h)
  | [], _ :: _, _, _, h => by simp at h
  | _ :: _, [], _, _, h => by simp at h
theorem fold16_xor : ∀ (a b : List Nat) (s t : Nat), a.length = b.length → (List.zipWith (· ^^^ ·) a b).foldl st16 (s ^^^ t) = a.foldl st16 s ^^^ b.foldl st16 t
  | [], [], _, _, _ => rfl
  | x :: a, y :: b, s, t, h => by simp only [List.zipWith_cons_cons, List.foldl_cons, st16_xor]; exact fold16_xor a b _ _ (by simpa using h)
  | [], _ :: _, _, _, h => by simp at h
  | _ :: _, [], _, _, h => by simp at h

theorem half_xor (a b : Nat) : (a ^^^ b) / 2 = a / 2 ^^^ b / 2 := by
  have := Nat.shiftRight_xor_distrib (a := a) (b := b) (i := 1)
  simpa [Nat.shiftRight_eq_div_pow] using this

theorem sum16_mix (a b : List Nat) (h : a.length = b.length) : sum16 (List.zipWith (· ^^^ ·) a b) = sum16 a ^^^ sum16 b := by
  have := fold16_xor a b 0 0 h
  rwa [Nat.xor_self] at this
theorem sum7_mix (a b : List Nat) (h : a.length = b.length) : sum7 (List.zipWith (· ^^^ ·) a b) = sum7 a ^^^ sum7 b := by
  have := fold7_xor a b 0 0 h
  rw [Nat.xor_self] at this
  unfold sum7
  rw [this, half_xor]

theorem st7_lt (s c : Nat) (hs : s < 256) (hc : c < 256) : st7 s c < 256 := rds_lt 8 18 (by omega) 8 _ (Nat.xor_lt_two_pow (n := 8) hs hc)
theorem st16_lt (s c : Nat) (hs : s < 65536) (hc : c < 256) : st16 s c < 65536 := rds_lt 16 4129 (by omega) 8 _ (Nat.xor_lt_two_pow (n := 16) hs (by omega))
theorem fold7_lt : ∀ (l : List Nat) (s : Nat), s < 256 → (∀ c ∈ l, c < 256) → l.foldl st7 s < 256
  | [], s, h, _ => h
  | c :: l, s, h, hc => fold7_lt l _ (st7_lt s c h (hc c (by simp))) (fun d hd => hc d (by simp [hd]))
theorem fold16_lt : ∀ (l : List Nat) (s : Nat), s < 65536 → (∀ c ∈ l, c < 256) → l.foldl st16 s < 65536
  | [], s, h, _ => h
  | c :: l, s, h, hc => fold16_lt l _ (st16_lt s c h (hc c (by simp))) (fun d hd => hc d (by simp [hd]))
theorem sum7_lt (l : List Nat) (hc : ∀ c ∈ l, c < 256) : sum7 l < 128 := by have := fold7_lt l 0 (by omega) hc; unfold sum7; omega
theorem sum16_lt (l : List Nat) (hc : ∀ c ∈ l, c < 256) : sum16 l < 65536 := fold16_lt l 0 (by omega) hc

theorem st16_zero : st16 0 0 = 0 := by decide
theorem st7_zero : st7 0 0 = 0 := by decide
theorem zeros16 : ∀ z, (List.replicate z 0).foldl st16 0 = 0
  | 0 => rfl
  | z + 1 => by rw [List.replicate_succ, List.foldl_cons, st16_zero]; exact zeros16 z
theorem zeros7 : ∀ z, (List.replicate z 0).foldl st7 0 = 0
  | 0 => rfl
  | z + 1 => by rw [List.replicate_succ, List.foldl_cons, st7_zero]; exact zeros7 z
theorem sum16_zeros (z : Nat) (l : List Nat) : sum16 (List.replicate z 0 ++ l) = sum16 l := by unfold sum16; rw [List.foldl_append, zeros16]
theorem sum7_zeros (z : Nat) (l : List Nat) : sum7 (List.replicate z 0 ++ l) = sum7 l := by unfold sum7; rw [List.foldl_append, zeros7]

/-- The higher byte taken off. -/
theorem xor_high (s : Nat) (hs : s < 65536) : s ^^^ (256 * (s / 256)) = s % 256 := by
  apply Nat.eq_of_testBit_eq
  intro j
  rw [Nat.testBit_xor, show (256 : Nat) = 2 ^ 8 by rfl, Nat.testBit_mod_two_pow]
  have e := Nat.testBit_two_pow_mul (a := s / 2 ^ 8) (i := 8) (j := j)
  rw [e]
  by_cases h : j < 8
  · simp [h, show ¬ 8 ≤ j by omega]
  · simp only [h, show 8 ≤ j by omega, decide_true, decide_false, Bool.true_and, Bool.false_and]
    rw [Nat.testBit_div_two_pow, show j - 8 + 8 = j by omega]; simp

theorem ends16 (s : Nat) (hs : s < 65536) : st16 (st16 s (s / 256)) (s % 256) = 0 := by
  have h1 : st16 s (s / 256) = 256 * (s % 256) := by
    unfold st16 r16
    rw [xor_high s hs, rds_small 16 4129 8 _ (by omega)]
  rw [h1]
  unfold st16 r16
  rw [Nat.xor_self, rds_zero]

theorem sum16_ends (l : List Nat) (hc : ∀ c ∈ l, c < 256) : sum16 (l ++ [sum16 l / 256, sum16 l % 256]) = 0 := by
  have h := sum16_lt l hc
  have e : sum16 (l ++ [sum16 l / 256, sum16 l % 256]) = st16 (st16 (sum16 l) (sum16 l / 256)) (sum16 l % 256) := by
    simp only [sum16, List.foldl_append, List.foldl_cons, List.foldl_nil]
  rw [e, ends16 _ h]

end Go.Proofs.Ytogpdmpefdafnaa.Crc
