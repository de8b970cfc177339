/- ecc: the walks of TrailingZeros64, Check, Column, Syndrome; known. -/
import Derived.Test.YtogpdmpefdafnaaDoorKit
import Derived.Test.YtogpdmpefdafnaaDoorEccP
import Derived.Laws.Bits64b
namespace Go.Proofs.YtogpdmpefdafnaaDoor
open Go.RowKit
set_option linter.unusedVariables false

/-- The library's table lies in its variable. -/
def Deb (w : World) : Prop := ∀ j, j < 64 → w.cell? ⟨0, j, none⟩ = some (.int .u8 (Lib.deBruijn64tab.getD j 0))

set_option maxHeartbeats 1000000 in
theorem tz_core (x k idx : Nat) (w : World) (hx0 : ((x : Int) == 0) = false)
    (key : IntKind.u64.wrap (bits BinOp.and IntKind.u64 (x : Int) (IntKind.u64.wrap (-(x : Int))) * 285870213051353865) / 288230376151711744 = (idx : Int))
    (hi : idx < 64) (hk : k < 64) (hcell : w.cell? ⟨0, idx, none⟩ = some (.int .u8 k)) :
    Calls Tryd.prog 20 #[.int .u64 x] w fun e w' => e = .returned (.int .i64 k) ∧ w = w' := by
  go_enter Tryd.func20, Tryd.ntmps20
  go_wp2_with (simp only [key])
  go_ret
  exact ⟨rfl, rfl⟩

theorem tz_key (x a : Nat) (hx : x < 18446744073709551616) (hx0 : x ≠ 0) (hlow : x &&& (18446744073709551616 - x) = a) :
    IntKind.u64.wrap (bits BinOp.and IntKind.u64 (x : Int) (IntKind.u64.wrap (-(x : Int))) * 285870213051353865) / 288230376151711744 = ((a * 285870213051353865 % 18446744073709551616 / 288230376151711744 : Nat) : Int) := by
  have e1 : IntKind.u64.wrap (-(x : Int)) = ((18446744073709551616 - x : Nat) : Int) := by rw [IntKind.wrap_u64]; omega
  rw [e1, bits_and_u64_nat x _ hx (by omega), hlow, IntKind.wrap_u64]
  omega

theorem tz_any (x : Nat) (hx : x < 18446744073709551616) (hx0 : x ≠ 0) (w : World) (hT : Deb w) :
    Calls Tryd.prog 20 #[.int .u64 x] w fun e w' => e = .returned (.int .i64 (Lib.ctz 64 x)) ∧ w = w' := by
  obtain ⟨hlow, hk⟩ := Lib.lowest_bit 64 x hx0 hx
  obtain ⟨hi, htab⟩ := Lib.deBruijn64_at _ hk
  have hcell := hT _ hi
  rw [htab] at hcell
  exact tz_core x _ _ w (by simp; omega) (tz_key x _ hx hx0 hlow) hi hk hcell

def colsB : ByteArray := { data := #[7, 11, 13, 14, 19, 21, 22, 25, 26, 28, 35, 37, 38, 41, 42, 44, 49, 50, 52, 56, 67, 69, 70, 73, 74, 76, 81, 82, 84, 88, 97, 98, 100, 104, 112, 131, 133, 134, 137, 138, 140, 145, 146, 148, 152, 161, 162, 164, 168, 176, 193, 194, 196, 200, 208, 224, 31, 47, 55, 59, 61, 62, 79, 87] }
theorem colsB_at : ∀ n, (h : n < 64) → (colsB[n]'h).toNat = Ecc.col n := by decide +kernel

def colOf (i : Int) : Int := if 0 ≤ i ∧ i < 64 then (Ecc.col i.toNat : Int) else 0

theorem xor_step (a b c d : Nat) (h : d = b ^^^ c) : (a ^^^ c) ^^^ b = a ^^^ d := by
  rw [h, Nat.xor_assoc, Nat.xor_comm c b]

set_option maxHeartbeats 1000000 in
theorem check_any (x0 : Nat) (hx0 : x0 < 18446744073709551616) (w : World) (hT : Deb w) :
    Calls Tryd.prog 14 #[.int .u64 x0] w fun e w' => e = .returned (.int .u8 (Ecc.chk x0)) ∧ w = w' := by
  go_enter Tryd.func14, Tryd.ntmps14
  go_wp2
  go_loop [0, 3] (fun v c => ∃ x k : Nat, x < 18446744073709551616 ∧ k < 256 ∧ k ^^^ Ecc.chk x = Ecc.chk x0 ∧ v = .int .u64 x ∧ c = .int .u8 k) (fun v _ => (intOf v).toNat)
  case atStart => exact ⟨x0, 0, hx0, by omega, by simp, rfl, rfl⟩
  case round =>
    obtain ⟨x, k, hx, hk, he, rfl, rfl⟩ := hrel
    have HE := Lib.hid he
    clear he
    by_cases h0 : x = 0
    · subst h0
      have h1 : k = Ecc.chk x0 := by rw [← HE.out]; have : Ecc.chk 0 = 0 := by decide
                                     rw [this]; simp
      subst h1
      go_wp2
      go_ret
      exact ⟨rfl, rfl⟩
    · obtain ⟨s1, s2, s3⟩ := Ecc.chk_step x h0 hx
      have HS := Lib.hid s1
      clear s1
      go_wp2_with (go_at_call 20; refine (tz_any x hx h0 _ hT).mono ?_; rintro e w' ⟨rfl, rfl⟩)
      go_round
      case rel =>
        refine ⟨x &&& (x - 1), k ^^^ Ecc.col (Lib.ctz 64 x), by omega, Nat.xor_lt_two_pow (n := 8) hk (Ecc.col_lt _), ?_, ?_, ?_⟩
        · rw [Nat.xor_assoc, Nat.xor_comm (Ecc.col _), ← HS.out]; exact HE.out
        · rw [show ((x : Int) - 1) = ((x - 1 : Nat) : Int) by omega, u64_and_nat x (x - 1) hx (by omega)]
        · show Value.int .u8 (bits .xor .u8 (k : Int) ((colsB[Lib.ctz 64 x]'s2).toNat : Int)) = _
          rw [colsB_at _ s2, u8_xor_nat _ _ hk (Ecc.col_lt _)]
      case measure => 
        simp only [intOf]
        rw [show ((x : Int) - 1) = ((x - 1 : Nat) : Int) by omega, u64_and_nat x (x - 1) hx (by omega)]
        simp; omega

theorem syndrome_any (x : Nat) (c : Nat) (hx : x < 18446744073709551616) (hc : c < 256) (w : World) (hT : Deb w) :
    Calls Tryd.prog 21 #[.int .u64 x, .int .u8 c] w fun e w' => e = .returned (.int .u8 ((Ecc.chk x ^^^ c : Nat) : Int)) ∧ w = w' := by
  go_enter Tryd.func21, Tryd.ntmps21
  go_wp2_with (go_at_call 14; refine (check_any x hx _ hT).mono ?_; rintro e w' ⟨rfl, rfl⟩)
  go_ret
  exact ⟨by rw [← u8_xor_nat _ _ (Ecc.chk_lt x) hc]; rfl, rfl⟩

theorem Deb.of_laid {W : World} (h : laidMetH Tryd.prog [("math/bits.deBruijn64tab", Rows.laid_math_bits_deBruijn64tab)] W) : Deb W := by
  have t : Lib.TabIs Tryd.prog W "math/bits.deBruijn64tab" .u8 (Lib.deBruijn64tab.map fun n : Nat => (n : Int)) :=
    Lib.tabIs_of_head (rest := []) (g := 0) (by kernel_rfl) (by kernel_rfl) Tryd.underlying51 Tryd.underlying5 (by kernel_rfl) (by kernel_rfl) h
  intro j hj
  have := t.cell (g := 0) (by kernel_rfl) j (by rw [List.length_map]; exact hj)
  rw [this]
  have e : (Lib.deBruijn64tab.map fun n : Nat => (n : Int)).getD j 0 = ((Lib.deBruijn64tab.getD j 0 : Nat) : Int) := by
    have : ∀ j, j < 64 → (Lib.deBruijn64tab.map fun n : Nat => (n : Int)).getD j 0 = ((Lib.deBruijn64tab.getD j 0 : Nat) : Int) := by decide +kernel
    exact this j hj
  rw [e]

end Go.Proofs.YtogpdmpefdafnaaDoor
