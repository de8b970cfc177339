/- sha: the reference's root. -/
import Derived.Test.YtkdjimcpdbpemaaShaY
namespace Go.Proofs.Ytkdjimcpdbpemaa
open Go Go.RowKit
set_option linter.unusedVariables false

set_option maxRecDepth 100000 in
set_option maxHeartbeats 4000000 in
theorem rroot_any (v k : Nat) (w : World) (hv : v < 4294967296) (hk : k ≤ 3) :
    Calls Try.prog 38 #[.int .u64 (v : Int), .int .i64 (k : Int)] w fun e w' => e = .returned (.int .u32 (rootL v k : Nat)) ∧ Below w.heap.size w w' := by
  have HB0 : Hid (Below w.heap.size w w) := Lib.hid (Below.refl _ _)
  go_enter Try.func38, Try.ntmps38
  go_wp2_with fail
  go_loopw [5, 6] (fun x i wr => ∃ n r : Nat, n ≤ 37 ∧ i = .int .i64 ((n : Int) - 1) ∧ x = .int .u64 (r : Int) ∧ r < 137438953472 ∧ Hid (rootTo v k n r = rootTo v k 37 0) ∧ Hid (Below w.heap.size w wr)) (fun _ i _ => (intOf i + 1).toNat)
  case atStart => exact ⟨37, 0, by omega, rfl, rfl, by omega, Lib.hid rfl, HB0⟩
  case round =>
    clear HB0
    obtain ⟨n, r, hn, rfl, rfl, hr, HR, HB⟩ := hrel
    obtain ⟨wo, rfl⟩ : ∃ wo : World, wo = wr := ⟨_, rfl⟩
    rcases n with _ | q
    · have HF : Hid (rootL v k = r % 4294967296) := Lib.hid (by unfold rootL; rw [← HR.out]; rfl)
      go_wp2_with fail
      go_ret
      exact ⟨by rw [HF.out]; rfl, HB.out⟩
    · rw [show ((q + 1 : Nat) : Int) - 1 = (q : Int) by omega]
      have hq : q ≤ 36 := by omega
      have hp : 2 ^ q < 137438953472 := Nat.lt_of_le_of_lt (Nat.pow_le_pow_right (by omega) hq) (by decide)
      obtain ⟨pw, hpw⟩ : ∃ p, p = 2 ^ q := ⟨_, rfl⟩
      have hpi : (2 : Int) ^ q % 18446744073709551616 = (pw : Int) := by
        rw [show (2 : Int) ^ q = ((2 ^ q : Nat) : Int) by simp, ← hpw]
        rw [← hpw] at hp
        omega
      have hpi2 : (2 : Int) ^ q = (pw : Int) := by rw [hpw]; simp
      rw [← hpw] at hp
      obtain ⟨y, hy⟩ : ∃ y, y = r ||| pw := ⟨_, rfl⟩
      have hyl : y < 137438953472 := by rw [hy]; exact Nat.or_lt_two_pow (n := 37) hr hp
      have hor : bits .or .u64 (r : Int) (pw : Int) = (y : Int) := by rw [bits_or_u64_nat _ _ (by omega) (by omega), hy]
      have hs : rootTo v k q (if belowL y k v then y else r) = rootTo v k 37 0 := by rw [← HR.out, rootTo, ← hpw, ← hy]
      have HS := Lib.hid hs
      have t1 : (0 : Int) ≤ (q : Int) := by omega
      have t2 : q < 64 := by omega
      have t3 : min q 64 = q := by omega
      have t4 : (pw : Int) % 18446744073709551616 = (pw : Int) := by omega
      clear hs hpw hy
      go_wp2_with fail
      refine (rbelow_any y k v _ (by omega) hk hv).mono ?_
      rintro e w2 ⟨rfl, hb2⟩
      have HB2 := Lib.hid (HB.out.trans (hb2.mono HB.out.size))
      clear hb2
      cases hb : belowL y k v
      · have hs := HS.out
        rw [hb] at hs
        have HS2 : Hid (rootTo v k q r = rootTo v k 37 0) := Lib.hid hs
        clear hs hb
        go_wp2_with fail
        go_roundw
        case rel => exact ⟨q, r, by omega, by go_num, rfl, hr, HS2, HB2⟩
        case measure => simp [intOf]
      · have hs := HS.out
        rw [hb] at hs
        have HS2 : Hid (rootTo v k q y = rootTo v k 37 0) := Lib.hid hs
        clear hs hb
        go_wp2_with fail
        go_roundw
        case rel => exact ⟨q, y, by omega, by go_num, rfl, hyl, HS2, HB2⟩
        case measure => simp [intOf]

end Go.Proofs.Ytkdjimcpdbpemaa
