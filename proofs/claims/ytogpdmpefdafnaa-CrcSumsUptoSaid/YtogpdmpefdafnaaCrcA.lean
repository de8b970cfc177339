/- crc: the walks of the two sums. -/
import Derived.Test.YtogpdmpefdafnaaKit
import Derived.Test.YtogpdmpefdafnaaCrcP
namespace Go.Proofs.Ytogpdmpefdafnaa
open Go.RowKit
set_option linter.unusedVariables false

theorem testBit_top8 (v : Nat) : v.testBit 7 = (v / 128 % 2 == 1) := by simp [Nat.testBit, Nat.shiftRight_eq_div_pow]
theorem testBit_top16 (v : Nat) : v.testBit 15 = (v / 32768 % 2 == 1) := by simp [Nat.testBit, Nat.shiftRight_eq_div_pow]

theorem and128 (v : Nat) (hv : v < 256) : bits .and .u8 (v : Int) 128 = if v.testBit 7 then 128 else 0 := by
  have := nat_bit 7 v
  rw [show (128 : Int) = ((128 : Nat) : Int) by rfl, u8_and_nat _ _ hv (by omega), show (128 : Nat) = 2 ^ 7 by rfl, this, testBit_top8]
  by_cases h : v / 128 % 2 = 1
  · rw [show (2 : Nat) ^ 7 = 128 by rfl, h]; rfl
  · have h0 : v / 128 % 2 = 0 := by omega
    rw [show (2 : Nat) ^ 7 = 128 by rfl, h0]; rfl
theorem and32768 (v : Nat) (hv : v < 65536) : bits .and .u16 (v : Int) 32768 = if v.testBit 15 then 32768 else 0 := by
  have := nat_bit 15 v
  rw [show (32768 : Int) = ((32768 : Nat) : Int) by rfl, u16_and_nat _ _ hv (by omega), show (32768 : Nat) = 2 ^ 15 by rfl, this, testBit_top16]
  by_cases h : v / 32768 % 2 = 1
  · rw [show (2 : Nat) ^ 15 = 32768 by rfl, h]; rfl
  · have h0 : v / 32768 % 2 = 0 := by omega
    rw [show (2 : Nat) ^ 15 = 32768 by rfl, h0]; rfl

set_option maxHeartbeats 1000000 in
theorem seven_step (s c : Nat) (hs : s < 128) (hc : c < 256) (w : World) :
    Calls Try.prog 63 #[.int .u8 s, .int .u8 c] w fun e w' => e = .returned (.int .u8 ((Crc.st7 (2 * s) c / 2 : Nat) : Int)) ∧ w = w' := by
  have h1 : 2 * s < 256 := by omega
  have HX : Hid (bits .xor .u8 ((s : Int) * 2) (c : Int) = ((2 * s ^^^ c : Nat) : Int)) := by
    unfold Hid
    rw [show (s : Int) * 2 = ((2 * s : Nat) : Int) by simp; omega, u8_xor_nat _ _ h1 hc]
  have hv : 2 * s ^^^ c < 256 := Nat.xor_lt_two_pow (n := 8) h1 hc
  go_enter Try.func63, Try.ntmps63
  go_wp2_with fail
  go_loop [5, 10] (fun x i => ∃ k v : Nat, k ≤ 8 ∧ v < 256 ∧ i = .int .i64 k ∧ x = .int .u8 v ∧ Hid (Crc.r8 (8 - k) v = Crc.st7 (2 * s) c)) (fun _ i => 8 - (intOf i).toNat)
  case atStart => exact ⟨0, 2 * s ^^^ c, by omega, hv, rfl, by rw [HX.out], rfl⟩
  case round =>
    obtain ⟨k, v, hk, hvl, rfl, rfl, HR⟩ := hrel
    by_cases hlt : k < 8
    · have hr : Crc.r8 (8 - (k + 1)) (Crc.rd 8 18 v) = Crc.st7 (2 * s) c := by
        have := HR.out
        rw [show 8 - k = (8 - (k + 1)) + 1 by omega] at this
        exact this
      have HS := Lib.hid hr
      clear hr
      have ha := and128 v hvl
      by_cases ht : v.testBit 7 = true
      · rw [if_pos ht] at ha
        have hrd : Crc.rd 8 18 v = (2 * v % 256) ^^^ 18 := by unfold Crc.rd; rw [if_pos ht]
        have HRD := Lib.hid hrd
        have HT := Lib.hid ht
        clear ht hrd
        go_wp2
        go_round
        case rel =>
          refine ⟨k + 1, Crc.rd 8 18 v, by omega, Crc.rd_lt 8 18 v (by omega), by go_num, ?_, HS⟩
          rw [HRD.out, ← u8_xor_nat _ _ (Nat.mod_lt _ (by omega)) (by omega)]
          congr 1; congr 1; omega
        case measure => simp [intOf]; omega
      · have ht2 : v.testBit 7 = false := by simpa using ht
        rw [if_neg ht] at ha
        have hrd : Crc.rd 8 18 v = 2 * v % 256 := by unfold Crc.rd; rw [if_neg ht]
        have HRD := Lib.hid hrd
        clear ht ht2 hrd
        go_wp2
        go_round
        case rel =>
          refine ⟨k + 1, Crc.rd 8 18 v, by omega, Crc.rd_lt 8 18 v (by omega), by go_num, ?_, HS⟩
          rw [HRD.out]
          congr 1; omega
        case measure => simp [intOf]; omega
    · obtain rfl : k = 8 := by omega
      have hr : v = Crc.st7 (2 * s) c := HR.out
      have HV := Lib.hid hr
      clear hr
      go_wp2
      go_ret
      exact ⟨by rw [← HV.out]; simp, rfl⟩

set_option maxHeartbeats 1000000 in
theorem sixteen_step (s c : Nat) (hs : s < 65536) (hc : c < 256) (w : World) :
    Calls Try.prog 64 #[.int .u16 s, .int .u8 c] w fun e w' => e = .returned (.int .u16 (Crc.st16 s c : Nat)) ∧ w = w' := by
  have h1 : 256 * c < 65536 := by omega
  have HX : Hid (bits .xor .u16 (s : Int) ((c : Int) * 256) = ((s ^^^ 256 * c : Nat) : Int)) := by
    unfold Hid
    rw [show (c : Int) * 256 = ((256 * c : Nat) : Int) by simp; omega, u16_xor_nat _ _ hs h1]
  have hv : s ^^^ 256 * c < 65536 := Nat.xor_lt_two_pow (n := 16) hs h1
  go_enter Try.func64, Try.ntmps64
  go_wp2_with fail
  go_loop [5, 11] (fun x i => ∃ k v : Nat, k ≤ 8 ∧ v < 65536 ∧ i = .int .i64 k ∧ x = .int .u16 v ∧ Hid (Crc.r16 (8 - k) v = Crc.st16 s c)) (fun _ i => 8 - (intOf i).toNat)
  case atStart => exact ⟨0, s ^^^ 256 * c, by omega, hv, rfl, by rw [HX.out], rfl⟩
  case round =>
    obtain ⟨k, v, hk, hvl, rfl, rfl, HR⟩ := hrel
    by_cases hlt : k < 8
    · have hr : Crc.r16 (8 - (k + 1)) (Crc.rd 16 4129 v) = Crc.st16 s c := by
        have := HR.out
        rw [show 8 - k = (8 - (k + 1)) + 1 by omega] at this
        exact this
      have HS := Lib.hid hr
      clear hr
      have ha := and32768 v hvl
      by_cases ht : v.testBit 15 = true
      · rw [if_pos ht] at ha
        have hrd : Crc.rd 16 4129 v = (2 * v % 65536) ^^^ 4129 := by unfold Crc.rd; rw [if_pos ht]
        have HRD := Lib.hid hrd
        have HT := Lib.hid ht
        clear ht hrd
        go_wp2
        go_round
        case rel =>
          refine ⟨k + 1, Crc.rd 16 4129 v, by omega, Crc.rd_lt 16 4129 v (by omega), by go_num, ?_, HS⟩
          rw [HRD.out, ← u16_xor_nat _ _ (Nat.mod_lt _ (by omega)) (by omega)]
          rw [IntKind.wrap_u16]; congr 1; congr 1; omega
        case measure => simp [intOf]; omega
      · have ht2 : v.testBit 15 = false := by simpa using ht
        rw [if_neg ht] at ha
        have hrd : Crc.rd 16 4129 v = 2 * v % 65536 := by unfold Crc.rd; rw [if_neg ht]
        have HRD := Lib.hid hrd
        clear ht ht2 hrd
        go_wp2
        go_round
        case rel =>
          refine ⟨k + 1, Crc.rd 16 4129 v, by omega, Crc.rd_lt 16 4129 v (by omega), by go_num, ?_, HS⟩
          rw [HRD.out, IntKind.wrap_u16]
          congr 1; omega
        case measure => simp [intOf]; omega
    · obtain rfl : k = 8 := by omega
      have hr : v = Crc.st16 s c := HR.out
      have HV := Lib.hid hr
      clear hr
      go_wp2
      go_ret
      exact ⟨by rw [← HV.out]; rfl, rfl⟩

theorem fold7_even : ∀ (l : List Nat) (s : Nat), s % 2 = 0 → (l.foldl Crc.st7 s) % 2 = 0
  | [], s, h => h
  | c :: l, s, _ => by
    simp only [List.foldl_cons]
    refine fold7_even l _ ?_
    unfold Crc.st7 Crc.r8
    rw [Crc.rds_succ]
    exact Crc.rd_even 8 18 _ (by omega) (by omega)

def half7 (l : List Nat) (k : Nat) : Nat := (l.take k).foldl Crc.st7 0 / 2

set_option maxHeartbeats 1000000 in
theorem seven_any (a : Option Addr) (len cap : Nat) (l : List Nat) (w : World) (hi : Bytes w a len l) (hm : len ≤ 9223372036854775807) :
    Calls Try.prog 29 #[.slice a len cap] w fun e w' => e = .returned (.int .u8 (Crc.sum7 l : Nat)) ∧ w = w' := by
  obtain ⟨hz, hcl, hc⟩ := hi
  have HZ := Lib.hid hz
  clear hz
  go_enter Try.func29, Try.ntmps29
  go_wp2
  go_loop [3, 8] (fun x i => ∃ k : Nat, k ≤ len ∧ i = .int .i64 k ∧ x = .int .u8 (half7 l k : Nat)) (fun _ i => len - (intOf i).toNat)
  case atStart => exact ⟨0, by omega, rfl, by simp [half7]⟩
  case round =>
    obtain ⟨k, hk, rfl, rfl⟩ := hrel
    by_cases hlt : k < len
    · obtain ⟨b, off, rfl, hbl, hcell⟩ := hc (by omega)
      have hcellk := hcell k hlt
      have hkl : k < l.length := by rw [HZ.out]; exact hlt
      have hb : ∀ c ∈ l.take k, c < 256 := fun c hc' => hcl c (List.mem_of_mem_take hc')
      have hf := Crc.fold7_lt (l.take k) 0 (by omega) hb
      have hev := fold7_even (l.take k) 0 (by omega)
      have h7 : half7 l k < 128 := by unfold half7; omega
      have HN : Hid (Crc.st7 (2 * half7 l k) (l.getD k 0) / 2 = half7 l (k + 1)) := by
        unfold Hid half7
        rw [take_snoc l k hkl, List.foldl_append, show 2 * ((l.take k).foldl Crc.st7 0 / 2) = (l.take k).foldl Crc.st7 0 by omega]; rfl
      obtain ⟨z, hz⟩ : ∃ z, z = l.getD k 0 := ⟨_, rfl⟩
      have hzl : z < 256 := by rw [hz]; exact hcl _ (by rw [List.getD, List.getElem?_eq_getElem hkl]; exact List.getElem_mem _)
      rw [← hz] at hcellk HN
      clear hz hcell hc hb hf hev
      go_wp2_with (go_at_call 63; refine (seven_step (half7 l k) z h7 hzl _).mono ?_; rintro e w' ⟨rfl, rfl⟩)
      go_round
      case rel => exact ⟨k + 1, by omega, by go_num, by rw [← HN.out]; simp⟩
      case measure => simp [intOf]; omega
    · obtain rfl : k = len := by omega
      have HA : Hid (half7 l k = Crc.sum7 l) := by unfold Hid half7 Crc.sum7; rw [List.take_of_length_le (by rw [HZ.out]; exact Nat.le_refl _)]
      go_wp2
      go_ret
      exact ⟨by rw [← HA.out]; rfl, rfl⟩

def part16 (l : List Nat) (k : Nat) : Nat := (l.take k).foldl Crc.st16 0

set_option maxHeartbeats 1000000 in
theorem sixteen_any (a : Option Addr) (len cap : Nat) (l : List Nat) (w : World) (hi : Bytes w a len l) (hm : len ≤ 9223372036854775807) :
    Calls Try.prog 30 #[.slice a len cap] w fun e w' => e = .returned (.int .u16 (Crc.sum16 l : Nat)) ∧ w = w' := by
  obtain ⟨hz, hcl, hc⟩ := hi
  have HZ := Lib.hid hz
  clear hz
  go_enter Try.func30, Try.ntmps30
  go_wp2
  go_loop [3, 8] (fun x i => ∃ k : Nat, k ≤ len ∧ i = .int .i64 k ∧ x = .int .u16 (part16 l k : Nat)) (fun _ i => len - (intOf i).toNat)
  case atStart => exact ⟨0, by omega, rfl, rfl⟩
  case round =>
    obtain ⟨k, hk, rfl, rfl⟩ := hrel
    by_cases hlt : k < len
    · obtain ⟨b, off, rfl, hbl, hcell⟩ := hc (by omega)
      have hcellk := hcell k hlt
      have hkl : k < l.length := by rw [HZ.out]; exact hlt
      have hb : ∀ c ∈ l.take k, c < 256 := fun c hc' => hcl c (List.mem_of_mem_take hc')
      have h7 : part16 l k < 65536 := Crc.fold16_lt (l.take k) 0 (by omega) hb
      have HN : Hid (Crc.st16 (part16 l k) (l.getD k 0) = part16 l (k + 1)) := by
        unfold Hid part16
        rw [take_snoc l k hkl, List.foldl_append]; rfl
      obtain ⟨z, hz⟩ : ∃ z, z = l.getD k 0 := ⟨_, rfl⟩
      have hzl : z < 256 := by rw [hz]; exact hcl _ (by rw [List.getD, List.getElem?_eq_getElem hkl]; exact List.getElem_mem _)
      rw [← hz] at hcellk HN
      clear hz hcell hc hb
      go_wp2_with (go_at_call 64; refine (sixteen_step (part16 l k) z h7 hzl _).mono ?_; rintro e w' ⟨rfl, rfl⟩)
      go_round
      case rel => exact ⟨k + 1, by omega, by go_num, by rw [← HN.out]⟩
      case measure => simp [intOf]; omega
    · obtain rfl : k = len := by omega
      have HA : Hid (part16 l k = Crc.sum16 l) := by unfold Hid part16 Crc.sum16; rw [List.take_of_length_le (by rw [HZ.out]; exact Nat.le_refl _)]
      go_wp2
      go_ret
      exact ⟨by rw [← HA.out]; rfl, rfl⟩

end Go.Proofs.Ytogpdmpefdafnaa
