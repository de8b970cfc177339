/- crc: the walk of the reference's remainder and Sixteen. -/
import Derived.Test.YtogpdmpefdafnaaCrcB
import Derived.Test.YtogpdmpefdafnaaCrcR
namespace Go.Proofs.Ytogpdmpefdafnaa
open Go.RowKit
set_option linter.unusedVariables false

theorem u8_bit (c k : Nat) (hc : c < 256) : bits .and .u8 ((c : Int) / 2 ^ k) 1 = if c.testBit k then 1 else 0 := by
  have e : ((c : Int) / 2 ^ k) = ((c / 2 ^ k : Nat) : Int) := by simp
  rw [e, show (1 : Int) = ((1 : Nat) : Int) by rfl, u8_and_nat _ 1 (Nat.lt_of_le_of_lt (Nat.div_le_self _ _) hc) (by omega), nat_mask1]
  have h : c.testBit k = (c / 2 ^ k % 2 == 1) := by simp [Nat.testBit, Nat.shiftRight_eq_div_pow]
  rw [h]
  by_cases h1 : c / 2 ^ k % 2 = 1
  · rw [h1]; rfl
  · have h0 : c / 2 ^ k % 2 = 0 := by omega
    rw [h0]; rfl
theorem u32_top (v : Nat) (hv : v < 65536) : bits .and .u32 (v : Int) 32768 = if v.testBit 15 then 32768 else 0 := by
  have := nat_bit 15 v
  rw [show (32768 : Int) = ((32768 : Nat) : Int) by rfl, u32_and_nat _ _ (by omega) (by omega), show (32768 : Nat) = 2 ^ 15 by rfl, this, testBit_top16]
  by_cases h : v / 32768 % 2 = 1
  · rw [show (2 : Nat) ^ 15 = 32768 by rfl, h]; rfl
  · have h0 : v / 32768 % 2 = 0 := by omega
    rw [show (2 : Nat) ^ 15 = 32768 by rfl, h0]; rfl
theorem u32_mask (v : Nat) (hv : v < 65536) : bits .and .u32 ((v : Int) * 2) 65535 = ((2 * v % 65536 : Nat) : Int) := by
  rw [show (v : Int) * 2 = ((2 * v : Nat) : Int) by simp; omega, show (65535 : Int) = ((65535 : Nat) : Int) by rfl, u32_and_nat _ _ (by omega) (by omega), show (65535 : Nat) = 2 ^ 16 - 1 by rfl, Nat.and_two_pow_sub_one_eq_mod]

set_option maxRecDepth 100000 in
set_option maxHeartbeats 2000000 in
theorem rem16_any (a : Option Addr) (len cap : Nat) (l : List Nat) (w : World) (hi : Bytes w a len l) (hm : len ≤ 9223372036854775807) :
    Calls Try.prog 62 #[.slice a len cap, .int .i64 16, .int .u32 4129] w fun e w' => e = .returned (.int .u32 (Crc.sum16 l : Nat)) ∧ w = w' := by
  obtain ⟨hz, hcl, hc⟩ := hi
  have HZ := Lib.hid hz
  clear hz
  go_enter Try.func62, Try.ntmps62
  go_wp2
  go_loop [7, 10] (fun x i => ∃ k : Nat, k ≤ len ∧ i = .int .i64 k ∧ x = .int .u32 (part16 l k : Nat)) (fun _ i => len - (intOf i).toNat)
  case atStart => exact ⟨0, by omega, rfl, rfl⟩
  case round =>
    obtain ⟨k, hk, rfl, rfl⟩ := hrel
    by_cases hlt : k < len
    · obtain ⟨b, off, rfl, hbl, hcell⟩ := hc (by omega)
      have hcellk := hcell k hlt
      have hkl : k < l.length := by rw [HZ.out]; exact hlt
      have hb : ∀ c ∈ l.take k, c < 256 := fun c hc' => hcl c (List.mem_of_mem_take hc')
      have h7 : part16 l k < 65536 := Crc.fold16_lt (l.take k) 0 (by omega) hb
      have HN : Hid (Crc.st16 (part16 l k) (l.getD k 0) = part16 l (k + 1)) := by
        unfold Hid part16
        rw [take_snoc l k hkl, List.foldl_append]; rfl
      obtain ⟨z, hz⟩ : ∃ z, z = l.getD k 0 := ⟨_, rfl⟩
      have hzl : z < 256 := by rw [hz]; exact hcl _ (by rw [List.getD, List.getElem?_eq_getElem hkl]; exact List.getElem_mem _)
      rw [← hz] at hcellk HN
      clear hz hcell hc hb
      have HN2 : Hid (Crc.rbk 16 4129 z 8 (part16 l k) = part16 l (k + 1)) := by
        unfold Hid; rw [Crc.st16_rbk _ _ hzl, HN.out]
      have hout : decide ((k : Int) < (len : Int)) = true := by simp; omega
      go_wp2_with fail
      go_loop [7, 11] (fun x i => ∃ j r : Nat, j ≤ 8 ∧ r < 65536 ∧ i = .int .i64 ((j : Int) - 1) ∧ x = .int .u32 (r : Nat) ∧ Hid (Crc.rbk 16 4129 z j r = part16 l (k + 1))) (fun _ i => (intOf i + 1).toNat)
      case atStart => exact ⟨8, part16 l k, by omega, h7, rfl, rfl, HN2⟩
      case round =>
        obtain ⟨j, r, hj, hr, rfl, rfl, HR⟩ := hrel
        rcases j with _ | j
        · have hr : r = part16 l (k + 1) := HR.out
          have HV := Lib.hid hr
          clear hr
          go_wp2
          go_round
          case rel => exact ⟨k + 1, by omega, by go_num, by rw [← HV.out]⟩
          case measure => simp [intOf]; omega
        · rw [show ((j + 1 : Nat) : Int) - 1 = (j : Int) by omega]
          have h8 := u8_bit z j hzl
          have ht := u32_top r hr
          have hm := u32_mask r hr
          obtain ⟨m, hme⟩ : ∃ m, m = 2 * r % 65536 := ⟨_, rfl⟩
          rw [← hme] at hm
          have hml : m < 65536 := by omega
          have hx : bits .xor .u32 (m : Int) 4129 = ((m ^^^ 4129 : Nat) : Int) := u32_xor_nat m 4129 (by omega) (by omega)
          obtain ⟨y, hye⟩ : ∃ y, y = m ^^^ 4129 := ⟨_, rfl⟩
          rw [← hye] at hx
          have hyl : y < 65536 := by rw [hye]; exact Nat.xor_lt_two_pow (n := 16) hml (by omega)
          have HN3 : Hid (Crc.rbk 16 4129 z j (if (r.testBit 15) != z.testBit j then y else m) = part16 l (k + 1)) := by
            unfold Hid
            rw [← HR.out, hye, hme]; rfl
          clear hme hye
          cases hb1 : r.testBit 15 <;> cases hb2 : z.testBit j <;> rw [hb1, hb2] at HN3 <;> rw [hb1] at ht <;> rw [hb2] at h8 <;> clear hb1 hb2
          all_goals
            simp at h8 ht
            go_wp2
            go_round
            case rel => first | exact ⟨j, m, by omega, hml, by go_num, rfl, HN3⟩ | exact ⟨j, y, by omega, hyl, by go_num, rfl, HN3⟩
            case measure => first | (simp [intOf]; done) | (simp [intOf]; omega)
    · obtain rfl : k = len := by omega
      have hf : part16 l k = Crc.sum16 l := by unfold part16 Crc.sum16; rw [← HZ.out, List.take_length]
      have HF := Lib.hid hf
      clear hf
      go_wp2
      go_ret
      exact ⟨by rw [HF.out]; rfl, rfl⟩

theorem ref16_any (a : Option Addr) (len cap : Nat) (l : List Nat) (w : World) (hi : Bytes w a len l) (hm : len ≤ 9223372036854775807) :
    Calls Try.prog 28 #[.slice a len cap] w fun e w' => e = .returned (.int .u16 (Crc.sum16 l : Nat)) ∧ w = w' := by
  have hs := Crc.sum16_lt l hi.2.1
  obtain ⟨s, hS⟩ : ∃ s, s = Crc.sum16 l := ⟨_, rfl⟩
  rw [← hS] at hs
  have HS := Lib.hid hS
  clear hS
  go_enter Try.func28, Try.ntmps28
  go_wp2_with (go_at_call 62; refine (rem16_any a len cap l _ hi hm).mono ?_; rintro e w' ⟨rfl, rfl⟩; rw [← HS.out])
  go_ret
  exact ⟨by rw [← HS.out]; rfl, rfl⟩

end Go.Proofs.Ytogpdmpefdafnaa
