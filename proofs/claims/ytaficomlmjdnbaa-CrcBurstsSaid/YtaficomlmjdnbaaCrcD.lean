/- crc: the walk of turned; CrcBits. -/
import Derived.Test.YtaficomlmjdnbaaCrcB
import Derived.Test.YtaficomlmjdnbaaCrcQ
namespace Go.Proofs.Ytaficomlmjdnbaa
open Go.RowKit
set_option linter.unusedVariables false

theorem bit_of (P k : Nat) (hP : P < 4294967296) : bits .and .u32 ((P : Int) / 2 ^ k) 1 = if P.testBit k then 1 else 0 := by
  have e : ((P : Int) / 2 ^ k) = ((P / 2 ^ k : Nat) : Int) := by simp
  rw [e, show (1 : Int) = ((1 : Nat) : Int) by rfl, u32_and_nat _ 1 (Nat.lt_of_le_of_lt (Nat.div_le_self _ _) hP) (by omega), nat_mask1]
  have h : P.testBit k = (P / 2 ^ k % 2 == 1) := by simp [Nat.testBit, Nat.shiftRight_eq_div_pow]
  rw [h]
  by_cases h1 : P / 2 ^ k % 2 = 1
  · rw [h1]; rfl
  · have h0 : P / 2 ^ k % 2 = 0 := by omega
    rw [h0]; rfl
theorem top_shr (j : Nat) (h : j < 8) : (128 : Int) / 2 ^ j = ((2 ^ (7 - j) : Nat) : Int) := by
  have : ∀ j, j < 8 → (128 : Int) / 2 ^ j = ((2 ^ (7 - j) : Nat) : Int) := by decide
  exact this j h

/-- What 'turned' hands back. -/
def TurnedAt (B : Nat) (w : World) (len : Nat) (l : List Nat) (e : Ending) : Prop := ∃ a cap, e = .returned (.slice a len cap) ∧ Bytes w a len l ∧ (a = none → cap = 0) ∧ len ≤ cap ∧ ∀ x, a = some x → B ≤ x.block

set_option maxRecDepth 100000 in
set_option maxHeartbeats 4000000 in
theorem turned_any (a : Option Addr) (len cap : Nat) (l : List Nat) (bit P n : Nat) (w : World) (hi : Bytes w a len l) (hnil : a = none → cap = 0) (hl : len ≤ 1000000) (hbit : bit ≤ 9223372036854775807) (hP : P < 4294967296) (hn : n ≤ 16) :
    Calls Try.prog 15 #[.slice a len cap, .int .i64 (bit : Int), .int .u32 (P : Int), .int .i64 (n : Int)] w fun e w' => TurnedAt w.heap.size w' len (Crc.burst l bit P n) e ∧ Below w.heap.size w w' := by
  go_enter Try.func15, Try.ntmps15
  go_wp2_with (first | (at_builtin; refine Stop.mk ?_) | (at_make; refine Stop.mk ?_))
  refine Stop.go ?_
  refine wpList_app_u8 rfl _ _ 22 rfl w.heap.size 5 Try.underlying22 Try.infoU8 (.slice (some ⟨w.heap.size, 0, none⟩) 0 0) 0 [] rfl (own_empty (Nat.le_refl _)) a len cap l rfl (hi.alloc _) hnil (by omega) (by simp) ?_
  intro v w1 hown hgrow
  rw [Nat.zero_add, List.nil_append] at hown
  have hb : Below w.heap.size w w1 := ((Below.refl _ _).alloc (Nat.le_refl _) _).grown hgrow (by simp) (fun k hk => by simp [Value.ownBlock] at hk; omega)
  obtain ⟨a1, cap1, hv⟩ := own_form hown
  rw [hv] at hown ⊢
  have HLen : Hid (l.length = len) := hi.1
  have hcl := hi.2.1
  clear hv hgrow hi
  go_wp2
  go_loopw [10] (fun i wr => ∃ k : Nat, k ≤ n ∧ i = .int .i64 k ∧ wr.ownsRow w.heap.size 5 1 (.slice a1 len cap1) len (u8s (Crc.burst l bit P k)) ∧ Below w.heap.size w wr) (fun i _ => n - (intOf i).toNat)
  case atStart => exact ⟨0, by omega, rfl, hown, hb⟩
  case round =>
    clear hown hb
    obtain ⟨k, hk, rfl, hown, hb⟩ := hrel
    by_cases hin : k < n ∧ bit + k < 8 * len
    · obtain ⟨h1, h2⟩ := hin
      have hbt := bit_of P k hP
      by_cases ht : P.testBit k = true
      · rw [if_pos ht] at hbt
        obtain ⟨g, cap', hv⟩ := own_shape hown (by omega)
        obtain ⟨rfl, rfl⟩ : a1 = some ⟨g, 0, none⟩ ∧ cap1 = cap' := by simpa using hv
        clear hv
        have hg := hown.lt g rfl
        have hk8 : (bit + k) / 8 < len := by omega
        obtain ⟨m, hm⟩ : ∃ m, m = (bit + k) / 8 := ⟨_, rfl⟩
        obtain ⟨z, hz⟩ : ∃ z, z = (Crc.burst l bit P k).getD m 0 := ⟨_, rfl⟩
        have hbl := Crc.burst_len l bit P k
        have hcell : wr.cell? ⟨g, (bit + k) / 8, none⟩ = some (.int .u8 (z : Nat)) := by
          rw [hown.cellAt _ (by omega), hz, hm]
          have : (bit + k) / 8 < (Crc.burst l bit P k).length := by rw [hbl, HLen.out]; exact hk8
          simp [u8s, List.getD, this]
        have hzl : z < 256 := by rw [hz]; exact Crc.getD_lt (Crc.burst_lt l bit P hcl k) _
        have hfr := hown.frozenAt ((bit + k) / 8)
        have hsh := top_shr ((bit + k) % 8) (by omega)
        have HNX : Hid (Crc.burst l bit P (k + 1) = (Crc.burst l bit P k).set m (z ^^^ 2 ^ (7 - (bit + k) % 8))) := by
          unfold Hid
          rw [Crc.burst, if_pos ⟨ht, by rw [HLen.out]; exact h2⟩, Crc.flip, hz, hm]
        have hp2 : 2 ^ (7 - (bit + k) % 8) < 256 := Nat.pow_lt_pow_right (show 1 < 2 by omega) (show 7 - (bit + k) % 8 < 8 by omega)
        have hst := hown.stored m (.int .u8 ((z ^^^ 2 ^ (7 - (bit + k) % 8) : Nat) : Int))
        rw [u8s_set, ← HNX.out] at hst
        have HST := Lib.hid hst.1
        have HB := Lib.hid hb
        have HM := Lib.hid hm
        clear hst hown hb hz hm hbl ht
        go_wp2
        have e : bits .xor .u8 (z : Int) (2 ^ (7 - (bit + k) % 8)) = ((z ^^^ 2 ^ (7 - (bit + k) % 8) : Nat) : Int) := by
          rw [← u8_xor_nat z _ hzl hp2]; simp
        rw [← HM.out, e]
        go_roundw
        case rel => exact ⟨k + 1, by omega, by go_num, HST.out, HB.out.setCell hg.1 _⟩
        case measure => simp [intOf]; omega
      · rw [if_neg ht] at hbt
        have HNX : Hid (Crc.burst l bit P (k + 1) = Crc.burst l bit P k) := by
          unfold Hid
          rw [Crc.burst, if_neg (fun h => ht h.1)]
        have HO := Lib.hid hown
        clear ht hown
        go_wp2
        go_roundw
        case rel => exact ⟨k + 1, by omega, by go_num, by rw [HNX.out]; exact HO.out, hb⟩
        case measure => simp [intOf]; omega
    · have HE : Hid (Crc.burst l bit P k = Crc.burst l bit P n) := by
        unfold Hid
        by_cases hkn : k = n
        · rw [hkn]
        · have := Crc.burst_past l bit P k (by rw [HLen.out]; omega) (n - k)
          rw [show k + (n - k) = n by omega] at this
          exact this.symm
      have hby := bytes_of_own' hown (Crc.burst_lt l bit P hcl k)
      rw [HE.out] at hby
      obtain ⟨a2, cap2, hv2, hy⟩ := hby
      obtain ⟨rfl, rfl⟩ : a1 = a2 ∧ cap1 = cap2 := by simpa using hv2
      have HY := Lib.hid hy
      have hnone : a1 = none → cap1 = 0 := by
        intro h0
        rcases hown.2 with ⟨h, _⟩ | ⟨g, cap', cur, h, _⟩
        · simp at h; exact h.2.2
        · simp at h; rw [h.1] at h0; simp at h0
      have hblk : ∀ x, a1 = some x → w.heap.size ≤ x.block := fun x hx => (hown.lt x.block (by rw [hx]; rfl)).1
      have hlc : len ≤ cap1 := by
        rcases hown.2 with ⟨h, h2⟩ | ⟨g, cap', cur, h, _, _, h3, _⟩
        · omega
        · simp at h; omega
      have HN := Lib.hid hnone
      have HK := Lib.hid hblk
      clear hv2 hy hown hnone hblk
      by_cases hkn : k < n
      · have hge : ¬ bit + k < 8 * len := fun h => hin ⟨hkn, h⟩
        clear hin
        go_wp2
        go_ret
        exact ⟨⟨a1, cap1, rfl, HY.out, HN.out, hlc, HK.out⟩, hb⟩
      · clear hin
        go_wp2
        go_ret
        exact ⟨⟨a1, cap1, rfl, HY.out, HN.out, hlc, HK.out⟩, hb⟩

set_option maxRecDepth 100000 in
set_option maxHeartbeats 1000000 in
theorem bits_walk (a : Option Addr) (len cap : Nat) (l : List Nat) (bit : Int) (w : World) (hi : Bytes w a len l) (hnil : a = none → cap = 0) (hl : len ≤ 4096) (h0 : 0 < len) (hbit : I64 bit) :
    Calls Try.prog 6 #[.slice a len cap, .int .i64 bit] w fun e w' => e = .returned (.bool true) ∧ Below w.heap.size w w' := by
  have HLen : Hid (l.length = len) := hi.1
  have h00 : ((len : Int) == 0) = false := by simp; omega
  have H3 : (∃ p : Nat, p < 8 * len ∧ 0 ≤ bit ∧ bit % (8 * (len : Int)) = (p : Int)) ∨ (∃ p : Nat, p < 8 * len ∧ bit < 0 ∧ bit.tmod (8 * (len : Int)) = (p : Int)) ∨ (∃ p : Nat, p < 8 * len ∧ bit < 0 ∧ 0 < p ∧ bit.tmod (8 * (len : Int)) = (p : Int) - 8 * (len : Int)) := by
    have hlt := Int.emod_lt_of_pos bit (show 0 < 8 * (len : Int) by omega)
    have hge := Int.emod_nonneg bit (show 8 * (len : Int) ≠ 0 by omega)
    have hlt2 := Int.emod_lt_of_pos (-bit) (show 0 < 8 * (len : Int) by omega)
    have hge2 := Int.emod_nonneg (-bit) (show 8 * (len : Int) ≠ 0 by omega)
    by_cases hat : 0 ≤ bit
    · exact .inl ⟨(bit % (8 * (len : Int))).toNat, by omega, hat, by omega⟩
    · have e : bit.tmod (8 * (len : Int)) = -((-bit) % (8 * (len : Int))) := by
        rw [← Int.tmod_eq_emod_of_nonneg (show 0 ≤ -bit by omega), Int.neg_tmod, Int.neg_neg]
      by_cases h0 : (-bit) % (8 * (len : Int)) = 0
      · exact (.inr (.inl ⟨0, by omega, by omega, by rw [e, h0]; rfl⟩))
      · exact .inr (.inr ⟨(8 * (len : Int) - (-bit) % (8 * (len : Int))).toNat, by omega, by omega, by omega, by rw [e]; omega⟩)
  rcases H3 with ⟨p, hp, hb0, hq⟩ | ⟨p, hp, hb0, hq⟩ | ⟨p, hp, hb0, hp0, hq⟩
  all_goals
    have HB1 : Hid (Crc.burst l p 1 1 = Crc.flip l p) := by
      unfold Hid
      rw [Crc.burst, if_pos ⟨by decide, by rw [HLen.out]; omega⟩, Nat.add_zero]; rfl
    have hd1 : ((Crc.sum16 l : Nat) : Int) != ((Crc.sum16 (Crc.flip l p) : Nat) : Int) := by
      rw [bne_iff_ne]; intro h; exact Crc.bit16 l p (by rw [HLen.out]; exact hp) (by omega)
    have hd2 : ((Crc.sum7 l : Nat) : Int) != ((Crc.sum7 (Crc.flip l p) : Nat) : Int) := by
      rw [bne_iff_ne]; intro h; exact Crc.bit7 l p (by rw [HLen.out]; exact hp) (by omega)
    have D1 := Lib.hid hd1
    have D2 := Lib.hid hd2
    clear hd1 hd2
    go_enter Try.func6, Try.ntmps6
    go_wp2_with fail
    refine (known_any _).mono ?_
    rintro e w1 ⟨rfl, hb⟩
    have hi1 := hi.below hb (Nat.le_refl _)
    have hsz := hb.size
    go_wp2_with fail
    have hpe : (p : Int) - 8 * (len : Int) + 8 * (len : Int) = (p : Int) := by omega
    try rw [hpe]
    refine (turned_any a len cap l p 1 1 _ hi1 hnil (by omega) (by omega) (by omega) (by omega)).mono ?_
    rintro e w2 ⟨⟨a2, cap2, he, hy, hn2, _, _⟩, hb2⟩
    rw [HB1.out] at hy
    have hb3 := hb.trans (hb2.mono hsz)
    have hi2 := hi.below hb3 (Nat.le_refl _)
    subst he
    clear hb hb2
    go_wp2_with fail
    refine (sixteen_any a len cap l _ hi2 (by omega)).mono ?_
    rintro e w3 ⟨rfl, rfl⟩
    go_wp2_with fail
    refine (sixteen_any a2 len cap2 _ _ hy (by omega)).mono ?_
    rintro e w3 ⟨rfl, rfl⟩
    have hd1 := D1.out
    go_wp2_with fail
    refine (seven_any a len cap l _ hi2 (by omega)).mono ?_
    rintro e w3 ⟨rfl, rfl⟩
    go_wp2_with fail
    refine (seven_any a2 len cap2 _ _ hy (by omega)).mono ?_
    rintro e w3 ⟨rfl, rfl⟩
    have hd2 := D2.out
    go_wp2
    go_ret
    exact ⟨rfl, hb3⟩

theorem bits_any (a : Option Addr) (len cap : Nat) (l : List Nat) (bit : Int) (w : World) (hm : len ≤ maxLen) (hi : Bytes w a len l) (hnil : a = none → cap = 0) (hbit : I64 bit) :
    Calls Try.prog 6 #[.slice a len cap, .int .i64 bit] w fun e w' => e = .returned (.bool true) ∧ Below w.heap.size w w' := by
  unfold maxLen at hm
  rcases (show (len ≤ 4096 ∧ 0 < len) ∨ (4096 < len ∨ (len ≤ 4096 ∧ len = 0)) by omega) with ⟨h1, h2⟩ | h
  · exact bits_walk a len cap l bit w hi hnil h1 h2 hbit
  · rcases h with h | ⟨h, h2⟩
    all_goals
      go_enter Try.func6, Try.ntmps6
      go_wp2_with (go_at_call 12; refine (known_any _).mono ?_; rintro e w1 ⟨rfl, hb⟩)
      go_ret
      exact ⟨rfl, hb⟩

end Go.Proofs.Ytaficomlmjdnbaa
