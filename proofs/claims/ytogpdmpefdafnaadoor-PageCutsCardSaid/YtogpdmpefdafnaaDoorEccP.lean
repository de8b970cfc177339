/- ecc: the plain laws of columns and checks, in Nat. -/
import Derived.Lib.TrailingZeros
namespace Go.Proofs.YtogpdmpefdafnaaDoor.Ecc
open Go

def colsL : List Nat := [7, 11, 13, 14, 19, 21, 22, 25, 26, 28, 35, 37, 38, 41, 42, 44, 49, 50, 52, 56, 67, 69, 70, 73, 74, 76, 81, 82, 84, 88, 97, 98, 100, 104, 112, 131, 133, 134, 137, 138, 140, 145, 146, 148, 152, 161, 162, 164, 168, 176, 193, 194, 196, 200, 208, 224, 31, 47, 55, 59, 61, 62, 79, 87]
def col (i : Nat) : Nat := colsL.getD i 0

def chkTo : Nat → Nat → Nat
  | 0, _ => 0
  | n + 1, x => chkTo n x ^^^ (if x.testBit n then col n else 0)
def chk (x : Nat) : Nat := chkTo 64 x

theorem col_lt (i : Nat) : col i < 256 := by
  by_cases h : i < 64
  · have : ∀ i, i < 64 → col i < 256 := by decide +kernel
    exact this i h
  · unfold col; have e : colsL.getD i 0 = 0 := by rw [List.getD, List.getElem?_eq_none (show colsL.length ≤ i by have : colsL.length = 64 := rfl; omega)]; rfl
    rw [e]; omega

theorem chkTo_lt : ∀ n x, chkTo n x < 256
  | 0, _ => by simp [chkTo]
  | n + 1, x => by
    have h1 := chkTo_lt n x
    have h2 : (if x.testBit n then col n else 0) < 256 := by
      split
      · exact col_lt n
      · omega
    exact Nat.xor_lt_two_pow (n := 8) h1 h2
theorem chk_lt (x : Nat) : chk x < 256 := chkTo_lt 64 x

theorem chkTo_xor : ∀ n a b, chkTo n (a ^^^ b) = chkTo n a ^^^ chkTo n b
  | 0, _, _ => by simp [chkTo]
  | n + 1, a, b => by
    simp only [chkTo, chkTo_xor n a b, Nat.testBit_xor]
    have e : (if (a.testBit n ^^ b.testBit n) then col n else 0) = (if a.testBit n then col n else 0) ^^^ (if b.testBit n then col n else 0) := by
      cases a.testBit n <;> cases b.testBit n <;> simp
    rw [e]
    generalize chkTo n a = A
    generalize chkTo n b = B
    generalize (if a.testBit n then col n else 0) = C
    generalize (if b.testBit n then col n else 0) = D
    rw [Nat.xor_assoc, Nat.xor_assoc, ← Nat.xor_assoc B C D, Nat.xor_comm B C, Nat.xor_assoc]
theorem chk_xor (a b : Nat) : chk (a ^^^ b) = chk a ^^^ chk b := chkTo_xor 64 a b

/-- Two words that part at bit t alone. -/
theorem chkTo_bit (x y t : Nat) (hx : x.testBit t = true) (hy : y.testBit t = false) (h : ∀ j, j ≠ t → x.testBit j = y.testBit j) : ∀ n, chkTo n x = chkTo n y ^^^ (if t < n then col t else 0)
  | 0 => by simp [chkTo]
  | n + 1 => by
    simp only [chkTo, chkTo_bit x y t hx hy h n]
    by_cases ht : n = t
    · subst ht
      rw [hx, hy, if_neg (Nat.lt_irrefl n), if_pos (Nat.lt_succ_self n)]; simp
    · rw [h n ht]
      by_cases h2 : t < n
      · rw [if_pos h2, if_pos (show t < n + 1 by omega), Nat.xor_assoc, Nat.xor_assoc, Nat.xor_comm (col t)]
      · rw [if_neg h2, if_neg (show ¬ t < n + 1 by omega)]; simp

theorem low_clear (t m : Nat) : (2 ^ t * (2 * m + 1)) &&& (2 ^ t * (2 * m + 1) - 1) = 2 ^ (t + 1) * m := by
  have hp : 0 < 2 ^ t := Nat.two_pow_pos t
  have e1 : 2 ^ t * (2 * m + 1) = 2 ^ (t + 1) * m + 2 ^ t := by rw [Nat.pow_succ, Nat.mul_add, Nat.mul_one, Nat.mul_assoc]
  have e2 : 2 ^ t * (2 * m + 1) - 1 = 2 ^ (t + 1) * m + (2 ^ t - 1) := by rw [e1]; omega
  have l1 : 2 ^ t < 2 ^ (t + 1) := by rw [Nat.pow_succ]; omega
  rw [e2, e1]
  apply Nat.eq_of_testBit_eq
  intro j
  rw [Nat.testBit_and, Nat.testBit_two_pow_mul_add _ l1, Nat.testBit_two_pow_mul_add _ (by omega : 2 ^ t - 1 < 2 ^ (t + 1))]
  have e3 := Nat.testBit_two_pow_mul_add m (Nat.two_pow_pos (t + 1)) j
  rw [Nat.add_zero] at e3
  rw [e3]
  by_cases hj : j < t + 1
  · simp only [hj, if_true, Nat.testBit_two_pow, Nat.testBit_two_pow_sub_one, Nat.zero_testBit]
    by_cases h2 : t = j <;> simp [h2]
  · simp only [hj, if_false, Bool.and_self]

theorem low_bits (t m : Nat) : (2 ^ t * (2 * m + 1)).testBit t = true ∧ (2 ^ (t + 1) * m).testBit t = false ∧ ∀ j, j ≠ t → (2 ^ t * (2 * m + 1)).testBit j = (2 ^ (t + 1) * m).testBit j := by
  have e1 : 2 ^ t * (2 * m + 1) = 2 ^ (t + 1) * m + 2 ^ t := by rw [Nat.pow_succ, Nat.mul_add, Nat.mul_one, Nat.mul_assoc]
  have l1 : 2 ^ t < 2 ^ (t + 1) := by have : 0 < 2 ^ t := Nat.two_pow_pos t; rw [Nat.pow_succ]; omega
  have b1 := fun j => Nat.testBit_two_pow_mul_add m l1 j
  have b2 := fun j => Nat.testBit_two_pow_mul_add m (Nat.two_pow_pos (t + 1)) j
  simp only [Nat.add_zero] at b2
  rw [e1]
  refine ⟨by rw [b1]; simp, by rw [b2]; simp, fun j hj => ?_⟩
  rw [b1, b2]
  by_cases h : j < t + 1
  · simp only [h, if_true, Nat.testBit_two_pow, Nat.zero_testBit]
    simp; omega
  · simp [h]

/-- The loop's step: the lowest bit's column is taken out. -/
theorem chk_step (x : Nat) (h0 : x ≠ 0) (hx : x < 2 ^ 64) : chk x = chk (x &&& (x - 1)) ^^^ col (Lib.ctz 64 x) ∧ Lib.ctz 64 x < 64 ∧ x &&& (x - 1) < x := by
  obtain ⟨m, hm, ht⟩ := Lib.ctzFrom_spec 64 x (by omega) hx
  have hc : Lib.ctz 64 x = Lib.ctzFrom 64 x := by unfold Lib.ctz; rw [if_neg h0]
  rw [hc]
  generalize Lib.ctzFrom 64 x = t at *
  subst hm
  rw [low_clear]
  obtain ⟨l1, l2, l3⟩ := low_bits t m
  refine ⟨?_, ht, ?_⟩
  · unfold chk
    rw [chkTo_bit _ _ t l1 l2 l3 64, if_pos ht]
  · have hp : 0 < 2 ^ t := Nat.two_pow_pos t
    rw [Nat.pow_succ, Nat.mul_add, Nat.mul_one, Nat.mul_assoc]; omega

theorem chk_pow (i : Nat) (h : i < 64) : chk (2 ^ i) = col i := by
  have : ∀ i, i < 64 → chk (2 ^ i) = col i := by decide +kernel
  exact this i h

/-- How many bits of a byte are 1. -/
def pops (x : Nat) : Nat := x % 2 + x / 2 % 2 + x / 4 % 2 + x / 8 % 2 + x / 16 % 2 + x / 32 % 2 + x / 64 % 2 + x / 128 % 2
theorem cols_odd : ∀ i, i < 64 → pops (col i) % 2 = 1 ∧ 1 < pops (col i) := by decide +kernel
theorem cols_apart : ∀ i, i < 64 → ∀ j, j < 64 → (col i = col j ↔ i = j) := by decide +kernel

/-- The place of a column in the list, its length if there is none. -/
def findIn : List Nat → Nat → Nat
  | [], _ => 0
  | c :: r, s => if c = s then 0 else findIn r s + 1
def findCol (s : Nat) : Nat := findIn colsL s

theorem findIn_at : ∀ (l : List Nat) (s n : Nat), n < l.length → l.getD n 0 = s → (∀ j, j < n → l.getD j 0 ≠ s) → findIn l s = n
  | [], _, _, h, _, _ => by simp at h
  | c :: r, s, 0, _, h, _ => by simp at h; simp [findIn, h]
  | c :: r, s, n + 1, hl, h, hj => by
    have h0 : c ≠ s := by simpa using hj 0 (by omega)
    have := findIn_at r s n (by simpa using hl) (by simpa using h) (fun j hj' => by simpa using hj (j + 1) (by omega))
    simp [findIn, h0, this]
theorem findIn_none : ∀ (l : List Nat) (s : Nat), (∀ j, j < l.length → l.getD j 0 ≠ s) → findIn l s = l.length
  | [], _, _ => rfl
  | c :: r, s, hj => by
    have h0 : c ≠ s := by simpa using hj 0 (by simp)
    have := findIn_none r s (fun j hj' => by simpa using hj (j + 1) (by simpa using hj'))
    simp [findIn, h0, this]
theorem findCol_at (s n : Nat) (hn : n < 64) (h : col n = s) (hj : ∀ j, j < n → col j ≠ s) : findCol s = n := findIn_at colsL s n hn h hj
theorem findCol_none (s : Nat) (hj : ∀ j, j < 64 → col j ≠ s) : findCol s = 64 := findIn_none colsL s hj

/-- A word with its check, mended; and how. -/
def mendW (w c : Nat) : Nat × Nat × Nat :=
  if chk w ^^^ c = 0 then (w, c, 0) else if findCol (chk w ^^^ c) < 64 then (w ^^^ 2 ^ findCol (chk w ^^^ c), c, 1) else if pops (chk w ^^^ c) = 1 then (w, c ^^^ (chk w ^^^ c), 1) else (w, c, 2)

def turnW (w c k : Nat) : Nat × Nat := if k < 64 then (w ^^^ 2 ^ k, c) else (w, c ^^^ 2 ^ (k - 64))
def pat (k : Nat) : Nat := if k < 64 then col k else 2 ^ (k - 64)

theorem pat_one : ∀ k, k < 72 → pat k ≠ 0 ∧ (k < 64 → findCol (pat k) = k) ∧ (64 ≤ k → findCol (pat k) = 64 ∧ pops (pat k) = 1) := by decide +kernel
theorem pat_two : ∀ i, i < 72 → ∀ j, j < 72 → i ≠ j → pat i ^^^ pat j ≠ 0 ∧ findCol (pat i ^^^ pat j) = 64 ∧ pops (pat i ^^^ pat j) ≠ 1 := by decide +kernel

theorem xor_cancel (a b : Nat) : a ^^^ b ^^^ b = a := by rw [Nat.xor_assoc, Nat.xor_self, Nat.xor_zero]
theorem xor_left (a b : Nat) : a ^^^ (a ^^^ b) = b := by rw [← Nat.xor_assoc, Nat.xor_self, Nat.zero_xor]

theorem turn_syn (w c k : Nat) (hk : k < 72) : chk (turnW w c k).1 ^^^ (turnW w c k).2 = (chk w ^^^ c) ^^^ pat k := by
  unfold turnW pat
  by_cases h : k < 64
  · simp only [h, if_true, chk_xor, chk_pow k h]
    rw [Nat.xor_assoc, Nat.xor_assoc, Nat.xor_comm c]
  · simp only [h, if_false]
    rw [Nat.xor_assoc]

theorem mend_one (w k : Nat) (hk : k < 72) : mendW (turnW w (chk w) k).1 (turnW w (chk w) k).2 = (w, chk w, 1) := by
  have hs := turn_syn w (chk w) k hk
  rw [Nat.xor_self, Nat.zero_xor] at hs
  obtain ⟨p0, p1, p2⟩ := pat_one k hk
  unfold mendW
  rw [hs, if_neg p0]
  by_cases h : k < 64
  · rw [p1 h, if_pos h]
    unfold turnW
    simp only [h, if_true, xor_cancel]
  · obtain ⟨q1, q2⟩ := p2 (by omega)
    rw [q1, if_neg (by omega), q2, if_pos rfl]
    unfold turnW pat
    simp only [h, if_false, xor_cancel]

theorem mend_two (w k j : Nat) (hk : k < 72) (hj : j < 72) (hkj : k ≠ j) :
    mendW (turnW (turnW w (chk w) k).1 (turnW w (chk w) k).2 j).1 (turnW (turnW w (chk w) k).1 (turnW w (chk w) k).2 j).2 =
      ((turnW (turnW w (chk w) k).1 (turnW w (chk w) k).2 j).1, (turnW (turnW w (chk w) k).1 (turnW w (chk w) k).2 j).2, 2) := by
  have hs := turn_syn w (chk w) k hk
  rw [Nat.xor_self, Nat.zero_xor] at hs
  have ht := turn_syn (turnW w (chk w) k).1 (turnW w (chk w) k).2 j hj
  rw [hs] at ht
  obtain ⟨p0, p1, p2⟩ := pat_two k hk j hj hkj
  unfold mendW
  rw [ht, if_neg p0, p1, if_neg (by omega), if_neg p2]

theorem turnW_lt (w c k : Nat) (hw : w < 2 ^ 64) (hc : c < 2 ^ 8) (hk : k < 72) : (turnW w c k).1 < 2 ^ 64 ∧ (turnW w c k).2 < 2 ^ 8 := by
  unfold turnW
  by_cases h : k < 64
  · simp only [h, if_true]
    exact ⟨Nat.xor_lt_two_pow hw (Nat.pow_lt_pow_right (by omega) h), hc⟩
  · simp only [h, if_false]
    exact ⟨hw, Nat.xor_lt_two_pow hc (Nat.pow_lt_pow_right (by omega) (by omega))⟩

end Go.Proofs.YtogpdmpefdafnaaDoor.Ecc
