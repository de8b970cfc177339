/- crc: the reference's remainder of 7 bits: plain law and walk. -/
import Derived.Test.YtogpdmpefdafnaaCrcS
namespace Go.Proofs.Ytogpdmpefdafnaa.Crc
open Go

theorem rb_step7 (s d : Nat) : rd 8 18 (2 * s ^^^ d) = 2 * rb 7 9 s (d.testBit 7) ^^^ (2 * d % 256) := by
  have h1 : (2 * s).testBit 7 = s.testBit 6 := by
    simp only [Nat.testBit, Nat.shiftRight_eq_div_pow]
    congr 2
    omega
  have h2 : 2 * (2 * s) % 2 ^ 8 = 2 * (2 * s % 2 ^ 7) := by omega
  unfold rd rb
  rw [Nat.testBit_xor, show 8 - 1 = 7 by rfl, show 7 - 1 = 6 by rfl, h1, two_mul_xor, Nat.xor_mod_two_pow, h2]
  rw [show (2 : Nat) ^ 8 = 256 by rfl]
  generalize 2 * s % 2 ^ 7 = A
  generalize 2 * d % 256 = B
  cases s.testBit 6 <;> cases d.testBit 7 <;> simp [two_mul_xor]
  · rw [Nat.xor_assoc, Nat.xor_comm B, Nat.xor_assoc]
  · rw [Nat.xor_assoc, Nat.xor_comm B, Nat.xor_assoc]

theorem rbk_step7 (c : Nat) : ∀ k s, k ≤ 8 → rds 8 18 k (2 * s ^^^ (2 ^ (8 - k) * c % 256)) = 2 * rbk 7 9 c k s
  | 0, s, _ => by
    have : 2 ^ (8 - 0) * c % 256 = 0 := by rw [show 2 ^ (8 - 0) = 256 by rfl]; omega
    rw [this]; simp [rds, rbk]
  | k + 1, s, h => by
    have e : 8 - (k + 1) = 7 - k := by omega
    have e2 : 2 * (2 ^ (7 - k) * c % 256) % 256 = 2 ^ (8 - k) * c % 256 := by
      rw [show 8 - k = (7 - k) + 1 by omega, Nat.pow_succ, Nat.mul_right_comm]
      omega
    rw [e]
    show rds 8 18 k (rd 8 18 _) = 2 * rbk 7 9 c k (rb 7 9 s (c.testBit k))
    rw [rb_step7, top_bit c k (by omega), e2, rbk_step7 c k _ (by omega)]

theorem st7_rbk (s c : Nat) (hc : c < 256) : 2 * rbk 7 9 c 8 s = st7 (2 * s) c := by
  rw [← rbk_step7 c 8 s (Nat.le_refl _)]
  have : 2 ^ (8 - 8) * c % 256 = c := by simp; omega
  rw [this]; rfl

end Go.Proofs.Ytogpdmpefdafnaa.Crc
namespace Go.Proofs.Ytogpdmpefdafnaa
open Go.RowKit
set_option linter.unusedVariables false

theorem testBit_top7 (v : Nat) : v.testBit 6 = (v / 64 % 2 == 1) := by simp [Nat.testBit, Nat.shiftRight_eq_div_pow]
theorem u32_top7 (v : Nat) (hv : v < 65536) : bits .and .u32 (v : Int) 64 = if v.testBit 6 then 64 else 0 := by
  have := nat_bit 6 v
  rw [show (64 : Int) = ((64 : Nat) : Int) by rfl, u32_and_nat _ _ (by omega) (by omega), show (64 : Nat) = 2 ^ 6 by rfl, this, testBit_top7]
  by_cases h : v / 64 % 2 = 1
  · rw [show (2 : Nat) ^ 6 = 64 by rfl, h]; rfl
  · have h0 : v / 64 % 2 = 0 := by omega
    rw [show (2 : Nat) ^ 6 = 64 by rfl, h0]; rfl
theorem u32_mask7 (v : Nat) (hv : v < 65536) : bits .and .u32 ((v : Int) * 2) 127 = ((2 * v % 128 : Nat) : Int) := by
  rw [show (v : Int) * 2 = ((2 * v : Nat) : Int) by simp; omega, show (127 : Int) = ((127 : Nat) : Int) by rfl, u32_and_nat _ _ (by omega) (by omega), show (127 : Nat) = 2 ^ 7 - 1 by rfl, Nat.and_two_pow_sub_one_eq_mod]

set_option maxRecDepth 100000 in
set_option maxHeartbeats 2000000 in
theorem rem7_any (a : Option Addr) (len cap : Nat) (l : List Nat) (w : World) (hi : Bytes w a len l) (hm : len ≤ 9223372036854775807) :
    Calls Try.prog 62 #[.slice a len cap, .int .i64 7, .int .u32 9] w fun e w' => e = .returned (.int .u32 (Crc.sum7 l : Nat)) ∧ w = w' := by
  obtain ⟨hz, hcl, hc⟩ := hi
  have HZ := Lib.hid hz
  clear hz
  go_enter Try.func62, Try.ntmps62
  go_wp2
  go_loop [7, 10] (fun x i => ∃ k : Nat, k ≤ len ∧ i = .int .i64 k ∧ x = .int .u32 (half7 l k : Nat)) (fun _ i => len - (intOf i).toNat)
  case atStart => exact ⟨0, by omega, rfl, by simp [half7]⟩
  case round =>
    obtain ⟨k, hk, rfl, rfl⟩ := hrel
    by_cases hlt : k < len
    · obtain ⟨b, off, rfl, hbl, hcell⟩ := hc (by omega)
      have hcellk := hcell k hlt
      have hkl : k < l.length := by rw [HZ.out]; exact hlt
      have hb : ∀ c ∈ l.take k, c < 256 := fun c hc' => hcl c (List.mem_of_mem_take hc')
      have hf := Crc.fold7_lt (l.take k) 0 (by omega) hb
      have hev := fold7_even (l.take k) 0 (by omega)
      have h7 : half7 l k < 128 := by unfold half7; omega
      have HN : Hid (Crc.st7 (2 * half7 l k) (l.getD k 0) / 2 = half7 l (k + 1)) := by
        unfold Hid half7
        rw [take_snoc l k hkl, List.foldl_append, show 2 * ((l.take k).foldl Crc.st7 0 / 2) = (l.take k).foldl Crc.st7 0 by omega]; rfl
      obtain ⟨z, hz⟩ : ∃ z, z = l.getD k 0 := ⟨_, rfl⟩
      have hzl : z < 256 := by rw [hz]; exact hcl _ (by rw [List.getD, List.getElem?_eq_getElem hkl]; exact List.getElem_mem _)
      rw [← hz] at hcellk HN
      clear hz hcell hc hb hf hev
      have HN2 : Hid (Crc.rbk 7 9 z 8 (half7 l k) = half7 l (k + 1)) := by
        unfold Hid
        have := Crc.st7_rbk (half7 l k) z hzl
        rw [← HN.out, ← this]; omega
      have hout : decide ((k : Int) < (len : Int)) = true := by simp; omega
      go_wp2_with fail
      go_loop [7, 11] (fun x i => ∃ j r : Nat, j ≤ 8 ∧ r < 128 ∧ i = .int .i64 ((j : Int) - 1) ∧ x = .int .u32 (r : Nat) ∧ Hid (Crc.rbk 7 9 z j r = half7 l (k + 1))) (fun _ i => (intOf i + 1).toNat)
      case atStart => exact ⟨8, half7 l k, by omega, h7, rfl, rfl, HN2⟩
      case round =>
        obtain ⟨j, r, hj, hr, rfl, rfl, HR⟩ := hrel
        rcases j with _ | j
        · have hr : r = half7 l (k + 1) := HR.out
          have HV := Lib.hid hr
          clear hr
          go_wp2
          go_round
          case rel => exact ⟨k + 1, by omega, by go_num, by rw [← HV.out]⟩
          case measure => simp [intOf]; omega
        · rw [show ((j + 1 : Nat) : Int) - 1 = (j : Int) by omega]
          have h8 := u8_bit z j hzl
          have ht := u32_top7 r (by omega)
          have hm := u32_mask7 r (by omega)
          obtain ⟨m, hme⟩ : ∃ m, m = 2 * r % 128 := ⟨_, rfl⟩
          rw [← hme] at hm
          have hml : m < 128 := by omega
          have hx : bits .xor .u32 (m : Int) 9 = ((m ^^^ 9 : Nat) : Int) := u32_xor_nat m 9 (by omega) (by omega)
          obtain ⟨y, hye⟩ : ∃ y, y = m ^^^ 9 := ⟨_, rfl⟩
          rw [← hye] at hx
          have hyl : y < 128 := by rw [hye]; exact Nat.xor_lt_two_pow (n := 7) hml (by omega)
          have HN3 : Hid (Crc.rbk 7 9 z j (if (r.testBit 6) != z.testBit j then y else m) = half7 l (k + 1)) := by
            unfold Hid
            rw [← HR.out, hye, hme]; rfl
          clear hme hye
          cases hb1 : r.testBit 6 <;> cases hb2 : z.testBit j <;> rw [hb1, hb2] at HN3 <;> rw [hb1] at ht <;> rw [hb2] at h8 <;> clear hb1 hb2
          all_goals
            simp at h8 ht
            go_wp2
            go_round
            case rel => first | exact ⟨j, m, by omega, hml, by go_num, rfl, HN3⟩ | exact ⟨j, y, by omega, hyl, by go_num, rfl, HN3⟩
            case measure => first | (simp [intOf]; done) | (simp [intOf]; omega)
    · obtain rfl : k = len := by omega
      have hf : half7 l k = Crc.sum7 l := by unfold half7 Crc.sum7; rw [← HZ.out, List.take_length]
      have HF := Lib.hid hf
      clear hf
      go_wp2
      go_ret
      exact ⟨by rw [HF.out]; rfl, rfl⟩

theorem sum7_lt (l : List Nat) (h : ∀ c ∈ l, c < 256) : Crc.sum7 l < 128 := by
  have := Crc.fold7_lt l 0 (by omega) h
  unfold Crc.sum7; omega

theorem ref7_any (a : Option Addr) (len cap : Nat) (l : List Nat) (w : World) (hi : Bytes w a len l) (hm : len ≤ 9223372036854775807) :
    Calls Try.prog 27 #[.slice a len cap] w fun e w' => e = .returned (.int .u8 (Crc.sum7 l : Nat)) ∧ w = w' := by
  have hs := sum7_lt l hi.2.1
  obtain ⟨s, hS⟩ : ∃ s, s = Crc.sum7 l := ⟨_, rfl⟩
  rw [← hS] at hs
  have HS := Lib.hid hS
  clear hS
  go_enter Try.func27, Try.ntmps27
  go_wp2_with (go_at_call 62; refine (rem7_any a len cap l _ hi hm).mono ?_; rintro e w' ⟨rfl, rfl⟩; rw [← HS.out])
  go_ret
  exact ⟨by rw [← HS.out]; rfl, rfl⟩

end Go.Proofs.Ytogpdmpefdafnaa
