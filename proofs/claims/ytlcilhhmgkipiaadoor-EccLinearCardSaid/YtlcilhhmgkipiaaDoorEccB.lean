/- EccLinear: the walk. -/
import Derived.Test.YtlcilhhmgkipiaaDoorEccA
namespace Go.Proofs.YtlcilhhmgkipiaaDoor
open Go.RowKit
set_option linter.unusedVariables false

def popTo : Nat → Nat → Nat
  | 0, _ => 0
  | k + 1, x => popTo k x + x / 2 ^ k % 2

theorem popTo_le : ∀ k x, popTo k x ≤ k
  | 0, _ => by simp [popTo]
  | k + 1, x => by have := popTo_le k x; simp only [popTo]; omega
theorem pops8 : ∀ i, i < 64 → popTo 8 (Ecc.col i) % 2 = 1 ∧ 1 < popTo 8 (Ecc.col i) := by decide +kernel

set_option maxHeartbeats 1000000 in
theorem linear_walk (a b : Nat) (i j : Int) (w : World) (hT : Deb w) (ha : a < 18446744073709551616) (hb : b < 18446744073709551616) (hi : 0 ≤ i ∧ i < 64) (hj : 0 ≤ j ∧ j < 64) :
    Calls Tryd.prog 3 #[.int .u64 a, .int .u64 b, .int .i64 i, .int .i64 j] w fun e w' => e = .returned (.bool true) ∧ w = w' := by
  obtain ⟨i, rfl⟩ : ∃ n : Nat, i = n := ⟨i.toNat, by omega⟩
  obtain ⟨j, rfl⟩ : ∃ n : Nat, j = n := ⟨j.toNat, by omega⟩
  have hi2 : i < 64 := by omega
  have hj2 : j < 64 := by omega
  have hci := Ecc.col_lt i
  have HX : Hid (bits .xor .u64 (a : Int) (b : Int) = ((a ^^^ b : Nat) : Int)) := u64_xor_nat a b ha hb
  have HC : Hid (colOf i = (Ecc.col i : Int)) := by unfold Hid colOf; rw [if_pos ⟨by omega, by omega⟩]; rfl
  go_enter Tryd.func3, Tryd.ntmps3
  go_wp2_with fail
  refine (known_any _ hT).mono ?_
  rintro e w1 ⟨rfl, rfl⟩
  go_wp2_with fail
  rw [HX.out]
  refine (check_any (a ^^^ b) (Nat.xor_lt_two_pow (n := 64) ha hb) _ hT).mono ?_
  rintro e w1 ⟨rfl, rfl⟩
  go_wp2_with fail
  refine (check_any a ha _ hT).mono ?_
  rintro e w1 ⟨rfl, rfl⟩
  go_wp2_with fail
  refine (check_any b hb _ hT).mono ?_
  rintro e w1 ⟨rfl, rfl⟩
  have h5 : (Ecc.chk (a ^^^ b) : Int) = bits .xor .u8 (Ecc.chk a : Int) (Ecc.chk b : Int) := by rw [u8_xor_nat _ _ (Ecc.chk_lt a) (Ecc.chk_lt b), Ecc.chk_xor]
  go_wp2_with fail
  refine (column_any _ _).mono ?_
  rintro e w1 ⟨rfl, rfl⟩
  rw [HC.out]
  clear h5
  go_wp2_with fail
  go_loop [10, 11] (fun o k => ∃ n : Nat, n ≤ 8 ∧ k = .int .i64 n ∧ o = .int .i64 (popTo n (Ecc.col i))) (fun _ k => 8 - (intOf k).toNat)
  case atStart => exact ⟨0, by omega, rfl, rfl⟩
  case round =>
    obtain ⟨n, hn, rfl, rfl⟩ := hrel
    by_cases hlt : n < 8
    · obtain ⟨q, hq, hq2⟩ : ∃ q, q = Ecc.col i / 2 ^ n % 2 ∧ q ≤ 1 := ⟨_, rfl, by omega⟩
      have hbit : bits BinOp.and IntKind.u8 ((Ecc.col i : Int) / 2 ^ n) 1 = (q : Int) := by
        have e : ((Ecc.col i : Int) / 2 ^ n) = ((Ecc.col i / 2 ^ n : Nat) : Int) := by simp
        rw [e, show (1 : Int) = ((1 : Nat) : Int) by rfl, u8_and_nat _ 1 (Nat.lt_of_le_of_lt (Nat.div_le_self _ _) hci) (by omega), nat_mask1, hq]
      have hpl := popTo_le n (Ecc.col i)
      have HQ := Lib.hid hq
      clear hq
      go_wp2
      go_round
      case rel => exact ⟨n + 1, by omega, by go_num, by simp only [popTo, ← HQ.out]; go_num⟩
      case measure => simp [intOf]; omega
    · obtain rfl : n = 8 := by omega
      have o1 := (pops8 i hi2).1
      have o2 := (pops8 i hi2).2
      obtain ⟨z, hz⟩ : ∃ z, z = popTo 8 (Ecc.col i) := ⟨_, rfl⟩
      rw [← hz] at o1 o2 ⊢
      clear hz
      have h1 : (((z : Int) % 2) == 1) = true := by simp; omega
      have HJ : Hid (colOf j = (Ecc.col j : Int)) := by unfold Hid colOf; rw [if_pos ⟨by omega, by omega⟩]; rfl
      have hpow : 2 ^ i < 18446744073709551616 := Nat.pow_lt_pow_right (show 1 < 2 by omega) hi2
      have HP : Hid (IntKind.u64.wrap (2 ^ i) = ((2 ^ i : Nat) : Int)) := by
        unfold Hid
        rw [IntKind.wrap_u64, show (2 : Int) ^ i = ((2 ^ i : Nat) : Int) by simp]
        generalize 2 ^ i = q at hpow
        omega
      have h6 : (((Ecc.col i : Int) == (Ecc.col j : Int)) == ((i : Int) == (j : Int))) = true := by
        have := Ecc.cols_apart i hi2 j hj2
        by_cases h : i = j
        · subst h; simp
        · have h7 : ¬ Ecc.col i = Ecc.col j := fun e => h (this.1 e)
          have e1 : ((Ecc.col i : Int) == (Ecc.col j : Int)) = false := by simp; omega
          have e2 : ((i : Int) == (j : Int)) = false := by simp; omega
          rw [e1, e2]; rfl
      go_wp2_with fail
      refine (column_any _ _).mono ?_
      rintro e w1 ⟨rfl, rfl⟩
      rw [HJ.out]
      go_wp2_with fail
      rw [HP.out]
      refine (check_any (2 ^ i) hpow _ hT).mono ?_
      rintro e w1 ⟨rfl, rfl⟩
      rw [Ecc.chk_pow i hi2]
      go_wp2
      go_ret
      exact ⟨rfl, rfl⟩

theorem linear_any (a b : Nat) (i j : Int) (w : World) (hT : Deb w) (ha : a < 18446744073709551616) (hb : b < 18446744073709551616) :
    Calls Tryd.prog 3 #[.int .u64 a, .int .u64 b, .int .i64 i, .int .i64 j] w fun e w' => e = .returned (.bool true) ∧ w = w' := by
  rcases (show (0 ≤ i ∧ i < 64 ∧ 0 ≤ j ∧ j < 64) ∨ (i < 0 ∨ (0 ≤ i ∧ 63 < i) ∨ (0 ≤ i ∧ i ≤ 63 ∧ j < 0) ∨ (0 ≤ i ∧ i ≤ 63 ∧ 0 ≤ j ∧ 63 < j)) by omega) with ⟨h1, h2, h3, h4⟩ | h
  · exact linear_walk a b i j w hT ha hb ⟨h1, h2⟩ ⟨h3, h4⟩
  · have HX : Hid (bits .xor .u64 (a : Int) (b : Int) = ((a ^^^ b : Nat) : Int)) := u64_xor_nat a b ha hb
    rcases h with h1 | ⟨h1, h2⟩ | ⟨h1, h2, h3⟩ | ⟨h1, h2, h3, h4⟩
    all_goals
      go_enter Tryd.func3, Tryd.ntmps3
      go_wp2_with fail
      refine (known_any _ hT).mono ?_
      rintro e w1 ⟨rfl, rfl⟩
      go_wp2_with fail
      rw [HX.out]
      refine (check_any (a ^^^ b) (Nat.xor_lt_two_pow (n := 64) ha hb) _ hT).mono ?_
      rintro e w1 ⟨rfl, rfl⟩
      go_wp2_with fail
      refine (check_any a ha _ hT).mono ?_
      rintro e w1 ⟨rfl, rfl⟩
      go_wp2_with fail
      refine (check_any b hb _ hT).mono ?_
      rintro e w1 ⟨rfl, rfl⟩
      have h5 : (Ecc.chk (a ^^^ b) : Int) = bits .xor .u8 (Ecc.chk a : Int) (Ecc.chk b : Int) := by rw [u8_xor_nat _ _ (Ecc.chk_lt a) (Ecc.chk_lt b), Ecc.chk_xor]
      go_wp2
      go_ret
      exact ⟨rfl, rfl⟩
end Go.Proofs.YtlcilhhmgkipiaaDoor
