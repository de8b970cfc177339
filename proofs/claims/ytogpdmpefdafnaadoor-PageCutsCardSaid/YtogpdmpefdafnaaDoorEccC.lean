/- ecc: the walks of OnesCount8 and Mend; EccMends. -/
import Derived.Test.YtogpdmpefdafnaaDoorEccA
namespace Go.Proofs.YtogpdmpefdafnaaDoor
open Go.RowKit
set_option linter.unusedVariables false

theorem wrap_u64_nat (q : Nat) (h : q < 18446744073709551616) : IntKind.u64.wrap ((q : Nat) : Int) = (q : Int) := by rw [IntKind.wrap_u64]; omega
theorem wrap_pow (i : Nat) (h : i < 64) : IntKind.u64.wrap ((2 : Int) ^ i) = ((2 ^ i : Nat) : Int) := by
  have hpow : 2 ^ i < 18446744073709551616 := Nat.pow_lt_pow_right (show 1 < 2 by omega) h
  rw [show (2 : Int) ^ i = ((2 ^ i : Nat) : Int) by simp, wrap_u64_nat _ hpow]
theorem pow64_lt (i : Nat) (h : i < 64) : 2 ^ i < 18446744073709551616 := Nat.pow_lt_pow_right (show 1 < 2 by omega) h

def popsB : ByteArray := { data := #[0, 1, 1, 2, 1, 2, 2, 3, 1, 2, 2, 3, 2, 3, 3, 4, 1, 2, 2, 3, 2, 3, 3, 4, 2, 3, 3, 4, 3, 4, 4, 5, 1, 2, 2, 3, 2, 3, 3, 4, 2, 3, 3, 4, 3, 4, 4, 5, 2, 3, 3, 4, 3, 4, 4, 5, 3, 4, 4, 5, 4, 5, 5, 6, 1, 2, 2, 3, 2, 3, 3, 4, 2, 3, 3, 4, 3, 4, 4, 5, 2, 3, 3, 4, 3, 4, 4, 5, 3, 4, 4, 5, 4, 5, 5, 6, 2, 3, 3, 4, 3, 4, 4, 5, 3, 4, 4, 5, 4, 5, 5, 6, 3, 4, 4, 5, 4, 5, 5, 6, 4, 5, 5, 6, 5, 6, 6, 7, 1, 2, 2, 3, 2, 3, 3, 4, 2, 3, 3, 4, 3, 4, 4, 5, 2, 3, 3, 4, 3, 4, 4, 5, 3, 4, 4, 5, 4, 5, 5, 6, 2, 3, 3, 4, 3, 4, 4, 5, 3, 4, 4, 5, 4, 5, 5, 6, 3, 4, 4, 5, 4, 5, 5, 6, 4, 5, 5, 6, 5, 6, 6, 7, 2, 3, 3, 4, 3, 4, 4, 5, 3, 4, 4, 5, 4, 5, 5, 6, 3, 4, 4, 5, 4, 5, 5, 6, 4, 5, 5, 6, 5, 6, 6, 7, 3, 4, 4, 5, 4, 5, 5, 6, 4, 5, 5, 6, 5, 6, 6, 7, 4, 5, 5, 6, 5, 6, 6, 7, 5, 6, 6, 7, 6, 7, 7, 8] }
set_option maxRecDepth 100000 in
theorem popsB_at : ∀ n, (h : n < 256) → (popsB[n]'h).toNat = Ecc.pops n := by decide +kernel
theorem pops_le (n : Nat) : Ecc.pops n ≤ 8 := by unfold Ecc.pops; omega

set_option maxRecDepth 100000 in
theorem ones8_any (x : Nat) (hx : x < 256) (w : World) :
    Calls Tryd.prog 19 #[.int .u8 x] w fun e w' => e = .returned (.int .i64 (Ecc.pops x)) ∧ w = w' := by
  go_enter Tryd.func19, Tryd.ntmps19
  go_wp2
  go_ret
  refine ⟨?_, rfl⟩
  show Ending.returned (.int .i64 (wrap64 ((popsB[x]'hx).toNat : Int))) = _
  rw [popsB_at x hx, IntWalk.wrap64_in _ (by have := pops_le x; omega)]

def mendV (w c : Nat) : Value := .tuple #[.int .u64 (Ecc.mendW w c).1, .int .u8 (Ecc.mendW w c).2.1, .int .i64 (Ecc.mendW w c).2.2]

set_option maxHeartbeats 1000000 in
theorem mend_any (x c : Nat) (hx : x < 18446744073709551616) (hc : c < 256) (w : World) (hT : Deb w) :
    Calls Tryd.prog 16 #[.int .u64 x, .int .u8 c] w fun e w' => e = .returned (mendV x c) ∧ w = w' := by
  obtain ⟨s, hs⟩ : ∃ s, s = Ecc.chk x ^^^ c := ⟨_, rfl⟩
  have hsl : s < 256 := by rw [hs]; exact Nat.xor_lt_two_pow (n := 8) (Ecc.chk_lt x) hc
  have HS := Lib.hid hs
  by_cases h0 : s = 0
  · have HV : Hid (mendV x c = .tuple #[.int .u64 x, .int .u8 c, .int .i64 0]) := by unfold Hid mendV Ecc.mendW; rw [← hs, if_pos h0]; rfl
    clear hs
    have h1 : ((s : Int) == 0) = true := by simp [h0]
    clear h0
    go_enter Tryd.func16, Tryd.ntmps16
    go_wp2_with (go_at_call 21; refine (syndrome_any x c hx hc _ hT).mono ?_; rintro e w' ⟨rfl, rfl⟩; rw [← HS.out])
    go_ret3
    exact ⟨by rw [HV.out]; rfl, rfl⟩
  · have hV1 : ∀ n, n < 64 → Ecc.findCol s = n → mendV x c = .tuple #[.int .u64 ((x ^^^ 2 ^ n : Nat) : Int), .int .u8 c, .int .i64 1] := by
      intro n hn hf; unfold mendV Ecc.mendW; rw [← hs, if_neg h0, hf, if_pos hn]; rfl
    have hV2 : Ecc.findCol s = 64 → Ecc.pops s = 1 → mendV x c = .tuple #[.int .u64 x, .int .u8 ((c ^^^ s : Nat) : Int), .int .i64 1] := by
      intro hf hp; unfold mendV Ecc.mendW; rw [← hs, if_neg h0, hf, if_neg (by omega), if_pos hp]; rfl
    have hV3 : Ecc.findCol s = 64 → ¬ Ecc.pops s = 1 → mendV x c = .tuple #[.int .u64 x, .int .u8 c, .int .i64 2] := by
      intro hf hp; unfold mendV Ecc.mendW; rw [← hs, if_neg h0, hf, if_neg (by omega), if_neg hp]; rfl
    have HV1 := Lib.hid hV1
    have HV2 := Lib.hid hV2
    have HV3 := Lib.hid hV3
    clear hs hV1 hV2 hV3
    have h1 : ((s : Int) == 0) = false := by simp; omega
    go_enter Tryd.func16, Tryd.ntmps16
    go_wp2_with (go_at_call 21; refine (syndrome_any x c hx hc _ hT).mono ?_; rintro e w' ⟨rfl, rfl⟩; rw [← HS.out])
    go_loop [16] (fun i => ∃ n : Nat, n ≤ 64 ∧ i = .int .i64 n ∧ Hid (∀ j, j < n → Ecc.col j ≠ s)) (fun i => 64 - (intOf i).toNat)
    case atStart => exact ⟨0, by omega, rfl, fun j hj => by omega⟩
    case round =>
      obtain ⟨n, hn, rfl, HJ⟩ := hrel
      by_cases hlt : n < 64
      · have hp := pow64_lt n hlt
        go_wp2
        · have hq : (((colsB[n]'hlt).toNat : Int) == (s : Int)) = true := by assumption
          rw [colsB_at n hlt] at hq
          have hq2 : Ecc.col n = s := by simp at hq; omega
          go_ret3
          refine ⟨?_, rfl⟩
          rw [HV1.out n hlt (Ecc.findCol_at s n hlt hq2 HJ.out)]
          show Ending.returned (.tuple #[.int .u64 (bits .xor .u64 (x : Int) (IntKind.u64.wrap (2 ^ n))), _, _]) = _
          rw [wrap_pow n hlt, u64_xor_nat _ _ hx hp]; rfl
        · have hq : (((colsB[n]'hlt).toNat : Int) == (s : Int)) = false := by assumption
          rw [colsB_at n hlt] at hq
          have hq2 : ¬ Ecc.col n = s := by simp at hq; omega
          go_round
          case rel => exact ⟨n + 1, by omega, by go_num, fun j hj => by
                        by_cases e : j = n
                        · rw [e]; exact hq2
                        · exact HJ.out j (by omega)⟩
          case measure => simp [intOf]; omega
      · obtain rfl : n = 64 := by omega
        have HF : Hid (Ecc.findCol s = 64) := Ecc.findCol_none s HJ.out
        by_cases hp : Ecc.pops s = 1
        · have hp1 : ((Ecc.pops s : Int) == 1) = true := by simp; omega
          have HP := Lib.hid hp
          clear hp
          go_wp2_with (go_at_call 19; refine (ones8_any s hsl _).mono ?_; rintro e w' ⟨rfl, rfl⟩)
          go_ret3
          refine ⟨?_, rfl⟩
          rw [HV2.out HF.out HP.out]
          show Ending.returned (.tuple #[_, .int .u8 (bits .xor .u8 (c : Int) (s : Int)), _]) = _
          rw [u8_xor_nat _ _ hc hsl]; rfl
        · have hp1 : ((Ecc.pops s : Int) == 1) = false := by simp; omega
          have HP := Lib.hid hp
          clear hp
          go_wp2_with (go_at_call 19; refine (ones8_any s hsl _).mono ?_; rintro e w' ⟨rfl, rfl⟩)
          go_ret3
          exact ⟨by rw [HV3.out HF.out HP.out]; rfl, rfl⟩

def turnV (w c k : Nat) : Value := .tuple #[.int .u64 (Ecc.turnW w c k).1, .int .u8 (Ecc.turnW w c k).2]

theorem mend_as {x c a b h : Nat} (e : Ecc.mendW x c = (a, b, h)) (hx : x < 18446744073709551616) (hc : c < 256) (w : World) (hT : Deb w) :
    Calls Tryd.prog 16 #[.int .u64 x, .int .u8 c] w fun e w' => e = .returned (.tuple #[.int .u64 a, .int .u8 b, .int .i64 h]) ∧ w = w' := by
  have h := mend_any x c hx hc w hT
  unfold mendV at h
  rw [e] at h
  exact h

end Go.Proofs.YtogpdmpefdafnaaDoor
