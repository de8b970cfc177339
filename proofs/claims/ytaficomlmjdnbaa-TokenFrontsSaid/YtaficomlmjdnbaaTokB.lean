/- token: known; TokenBursts. -/
import Derived.Test.YtaficomlmjdnbaaTokA
import Derived.Lib.SlBytesConst
namespace Go.Proofs.Ytaficomlmjdnbaa
open Go.RowKit
set_option linter.unusedVariables false

theorem join_bytes (s : Nat) : (256 * (s / 256) ||| s % 256) = s := by
  rw [nat_join 8 (256 * (s / 256)) (s % 256) (by omega) (by omega)]; omega

theorem layL_parts (l : List Nat) : ((layL l).drop 1).take l.length = l ∧ (layL l).getD 0 0 = 254 ∧ (layL l).getD (1 + l.length) 0 = Crc.sum16 l / 256 ∧ (layL l).getD (2 + l.length) 0 = Crc.sum16 l % 256 := by
  refine ⟨by simp [layL], rfl, ?_, ?_⟩
  · rw [Nat.add_comm 1]; simp [layL, List.getD]
  · rw [show 2 + l.length = (l.length + 1) + 1 by omega]; simp [layL, List.getD]

theorem read_lay (l : List Nat) (h : l.length ≤ 4096) : readErr (layL l) l.length = 0 ∧ readN (layL l) l.length = (l.length : Int) + 3 ∧ readL (layL l) l.length = l := by
  obtain ⟨p1, p2, p3, p4⟩ := layL_parts l
  have e : readErr (layL l) l.length = 0 := by
    unfold readErr
    rw [if_neg (by rw [layL_len]; omega), if_neg (by rw [p2]; omega), if_neg (by rw [layL_len]; omega), Int.toNat_natCast, p1, p3, p4, if_pos (join_bytes _).symm]
  refine ⟨e, ?_, ?_⟩
  · unfold readN; rw [if_pos e]
  · unfold readL; rw [if_pos e, Int.toNat_natCast, p1]

def abL : List Nat := [97, 98]

theorem ab_bytes (w : World) : Bytes (w.alloc (.cells #[.int .u8 97, .int .u8 98] 5 (2, 3))) (some ⟨w.heap.size, 0, none⟩) 2 abL :=
  ⟨rfl, by decide, fun _ => ⟨w.heap.size, 0, rfl, by simp, fun i hi => by
    rw [Nat.zero_add, World.cell?_alloc_mark]
    match i, hi with
    | 0, _ => rfl
    | 1, _ => rfl⟩⟩

set_option maxRecDepth 100000 in
set_option maxHeartbeats 2000000 in
theorem tknown_any (w : World) : Calls Try.prog 16 #[] w fun e w' => e = .returned (.bool true) ∧ Below w.heap.size w w' := by
  obtain ⟨r1, r2, r3⟩ := read_lay abL (by decide)
  have hkc := fun (w : World) (C : Array Value) (n c : Nat) => Lib.run_convert_bytes_const (P := Try.prog) w 22 5 C n c Try.underlying22 Try.underlying5
  have R1 : Hid (readErr (layL abL) 2 = 0) := r1
  have R2 : Hid (readN (layL abL) 2 = 5) := r2
  have R3 : Hid (readL (layL abL) 2 = abL) := r3
  clear r1 r2 r3
  have hab : Bytes _ _ 2 abL := ab_bytes w
  have HAB := Lib.hid hab
  clear hab
  go_enter Try.func16, Try.ntmps16
  go_wp2_with fail
  refine (lay_any _ 2 2 abL _ HAB.out (fun h => by simp at h) (by omega)).mono ?_
  rintro e w1 ⟨⟨g, cap, he, hown⟩, hb⟩
  have hb1 : Below w.heap.size w w1 := ((Below.refl w.heap.size w).alloc (Nat.le_refl _) _).trans (hb.mono (by simp))
  have hy := bytes_of_own hown (layL_lt abL (by decide))
  have hcap : 5 ≤ cap ∧ cap ≤ maxLen := by
    rcases hown.2 with ⟨h, _⟩ | ⟨g', cap', cur, h, _, _, h3, h4, _⟩
    · simp at h
    · simp at h; obtain ⟨rfl, rfl⟩ := h; exact ⟨h3, h4⟩
  subst he
  clear hb hown hkc HAB
  go_wp2_with fail
  refine (read_any _ _ _ _ _ _ hy (fun h => by simp at h) (by omega) hcap.1 hcap.2).mono ?_
  rintro e w2 ⟨⟨a2, cap2, he, hy2, _, _⟩, hb2⟩
  rw [R1.out, R2.out, R3.out] at he
  rw [R3.out] at hy2
  have hb3 := hb1.trans (hb2.mono hb1.size)
  have hy3 := hy.below hb2 (Nat.le_refl _)
  have hstr := run_str (P := Try.prog) hy2 22 5 9 Try.underlying22 Try.underlying5 Try.underlying9 cap2
  obtain ⟨b3, o3, he3, _, hc3⟩ := hy3.2.2 (by omega)
  obtain ⟨rfl, rfl⟩ : g = b3 ∧ 0 = o3 := by simpa using he3
  have c0 := hc3 0 (by omega)
  have c0' : w2.cell? ⟨g, 0, none⟩ = some (.int .u8 254) := c0
  have hs2 : (((strB abL).toList == ({ data := #[97, 98] } : ByteArray).toList)) = true := by decide +kernel
  subst he
  clear hy hy2 hy3 he3 hc3 c0 hb2 hb1 R1 R2 R3
  go_wp2
  go_ret
  exact ⟨by show Ending.returned (.bool ((strB abL).toList == [97, 98])) = _; rw [show ((strB abL).toList == [97, 98]) = true by decide +kernel], hb3⟩

theorem flip_cons (c : Nat) (xs : List Nat) (p : Nat) : Crc.flip (c :: xs) (p + 8) = c :: Crc.flip xs p := by
  unfold Crc.flip
  rw [show (p + 8) / 8 = p / 8 + 1 by omega, show (p + 8) % 8 = p % 8 by omega, List.set_cons_succ, List.getD_cons_succ]
theorem burst_cons (c : Nat) (xs : List Nat) (bit P : Nat) : ∀ n, Crc.burst (c :: xs) (bit + 8) P n = c :: Crc.burst xs bit P n
  | 0 => rfl
  | n + 1 => by
    simp only [Crc.burst, burst_cons c xs bit P n, List.length_cons]
    by_cases h : P.testBit n = true ∧ bit + n < 8 * xs.length
    · rw [if_pos h, if_pos ⟨h.1, by omega⟩, show bit + 8 + n = bit + n + 8 by omega, flip_cons]
    · rw [if_neg h, if_neg (fun h2 => h ⟨h2.1, by omega⟩)]

theorem readErr_burst (l : List Nat) (hl : ∀ c ∈ l, c < 256) (h : l.length ≤ 4096) (bit P : Nat) (Y : List Nat) (hY : Y = Crc.burst (layL l) (bit + 8) P 16) :
    readErr Y l.length = if Y = layL l then 0 else 25 := by
  have hc : Y = 254 :: Crc.burst (l ++ [Crc.sum16 l / 256, Crc.sum16 l % 256]) bit P 16 := by rw [hY]; exact burst_cons 254 _ bit P 16
  have hlen : Y.length = l.length + 3 := by rw [hY, Crc.burst_len, layL_len]
  obtain ⟨Z, hZ⟩ : ∃ Z, Z = Crc.burst (l ++ [Crc.sum16 l / 256, Crc.sum16 l % 256]) bit P 16 := ⟨_, rfl⟩
  have hf := Crc.sixteen_found l hl bit P Z hZ
  rw [← hZ] at hc
  have e0 : Y.getD 0 0 = 254 := by rw [hc]; rfl
  have e1 : (Y.drop 1).take l.length = Z.take l.length := by rw [hc]; rfl
  have e2 : Y.getD (1 + l.length) 0 = Z.getD l.length 0 := by rw [hc, Nat.add_comm 1]; rfl
  have e3 : Y.getD (2 + l.length) 0 = Z.getD (l.length + 1) 0 := by rw [hc, show 2 + l.length = (l.length + 1) + 1 by omega]; rfl
  have hiff : Y = layL l ↔ Z = l ++ [Crc.sum16 l / 256, Crc.sum16 l % 256] := by
    rw [hc]; unfold layL
    exact ⟨fun h => (List.cons.inj h).2, fun h => by rw [h]⟩
  unfold readErr
  rw [if_neg (by omega), if_neg (by rw [e0]; omega), if_neg (by omega), Int.toNat_natCast, e1, e2, e3]
  by_cases hq : Z = l ++ [Crc.sum16 l / 256, Crc.sum16 l % 256]
  · rw [if_pos (hf.2 hq), if_pos (hiff.2 hq)]
  · rw [if_neg (fun h => hq (hf.1 h)), if_neg (fun h => hq (hiff.1 h))]

theorem bit_of16 (P k : Nat) (hP : P < 65536) : bits .and .u16 ((P : Int) / 2 ^ k) 1 = if P.testBit k then 1 else 0 := by
  have e : ((P : Int) / 2 ^ k) = ((P / 2 ^ k : Nat) : Int) := by simp
  rw [e, show (1 : Int) = ((1 : Nat) : Int) by rfl, u16_and_nat _ 1 (Nat.lt_of_le_of_lt (Nat.div_le_self _ _) hP) (by omega), nat_mask1]
  have h : P.testBit k = (P / 2 ^ k % 2 == 1) := by simp [Nat.testBit, Nat.shiftRight_eq_div_pow]
  rw [h]
  by_cases h1 : P / 2 ^ k % 2 = 1
  · rw [h1]; rfl
  · have h0 : P / 2 ^ k % 2 = 0 := by omega
    rw [h0]; rfl
theorem top_shr' (j : Nat) (h : j < 8) : (128 : Int) / 2 ^ j = ((2 ^ (7 - j) : Nat) : Int) := by
  have : ∀ j, j < 8 → (128 : Int) / 2 ^ j = ((2 ^ (7 - j) : Nat) : Int) := by decide
  exact this j h

set_option maxRecDepth 100000 in
set_option maxHeartbeats 4000000 in
theorem tbursts_walk (a : Option Addr) (len cap : Nat) (l : List Nat) (bit P : Nat) (w : World) (hi : Bytes w a len l) (hnil : a = none → cap = 0) (hl : len ≤ 4096) (hbit : bit ≤ 9223372036854775807) (hP : P < 65536) :
    Calls Try.prog 7 #[.slice a len cap, .int .i64 (bit : Int), .int .u16 (P : Int)] w fun e w' => e = .returned (.bool true) ∧ Below w.heap.size w w' := by
  have HLen : Hid (l.length = len) := hi.1
  obtain ⟨X, hX⟩ : ∃ X, X = layL l := ⟨_, rfl⟩
  have hXl : ∀ c ∈ X, c < 256 := by rw [hX]; exact layL_lt l hi.2.1
  have hXn : Hid (X.length = len + 3) := by unfold Hid; rw [hX, layL_len, hi.1]
  have HX := Lib.hid hX
  go_enter Try.func7, Try.ntmps7
  go_wp2_with fail
  refine (tknown_any _).mono ?_
  rintro e w1 ⟨rfl, hb⟩
  have hi1 := hi.below hb (Nat.le_refl _)
  have hsz := hb.size
  go_wp2_with fail
  refine (lay_any a len cap l _ hi1 hnil (by omega)).mono ?_
  rintro e w2 ⟨⟨gx, capx, he, hownx⟩, hb2⟩
  have hb2' : Below w.heap.size w w2 := hb.trans (hb2.mono hsz)
  have hsz2 := hb2'.size
  rw [← hX] at hownx
  have hyx := bytes_of_own hownx hXl
  have hgx := (hownx.lt gx rfl).1
  have hcx : len + 3 ≤ capx := by
    rcases hownx.2 with ⟨h, _⟩ | ⟨g', cap', cur, h, _, _, h3, h4, _⟩
    · simp at h
    · simp at h; omega
  subst he
  clear hb hb2 hi1 hownx hX
  go_wp2_with (first | (at_builtin; refine Stop.mk ?_) | (at_make; refine Stop.mk ?_))
  refine Stop.go ?_
  refine wpList_app_u8 rfl _ _ 22 rfl w2.heap.size 5 Try.underlying22 Try.infoU8 (.slice (some ⟨w2.heap.size, 0, none⟩) 0 0) 0 [] rfl (own_empty (Nat.le_refl _)) (some ⟨gx, 0, none⟩) (len + 3) capx X rfl (hyx.alloc _) (fun h => by simp at h) (by omega) (by simp) ?_
  intro v w3 hown hgrow
  rw [Nat.zero_add, List.nil_append] at hown
  have hbx := ((Below.refl w2.heap.size w2).alloc (Nat.le_refl _) (.cells #[] 5)).grown hgrow (by simp) (fun k hk => by simp [Value.ownBlock] at hk; omega)
  obtain ⟨g, cap1, hv⟩ := own_shape hown (by omega)
  rw [hv] at hown ⊢
  have hgg := (hown.lt g rfl).1
  clear hv hgrow
  go_wp2
  go_loopw [9] (fun i wr => ∃ k : Nat, k ≤ 16 ∧ i = .int .i64 k ∧ wr.ownsRow w2.heap.size 5 1 (.slice (some ⟨g, 0, none⟩) (len + 3) cap1) (len + 3) (u8s (Crc.burst X (bit + 8) P k)) ∧ Below w2.heap.size w2 wr) (fun i _ => 16 - (intOf i).toNat)
  case atStart => exact ⟨0, by omega, rfl, hown, hbx⟩
  case round =>
    clear hown hbx
    obtain ⟨k, hk, rfl, hown, hbx⟩ := hrel
    by_cases hin : k < 16 ∧ bit + k < 8 * len + 16
    · obtain ⟨h1, h2⟩ := hin
      have hbt := bit_of16 P k hP
      by_cases ht : P.testBit k = true
      · rw [if_pos ht] at hbt
        have hg := hown.lt g rfl
        have hk8 : 1 + (bit + k) / 8 < len + 3 := by omega
        obtain ⟨m, hm⟩ : ∃ m, m = 1 + (bit + k) / 8 := ⟨_, rfl⟩
        obtain ⟨z, hz⟩ : ∃ z, z = (Crc.burst X (bit + 8) P k).getD m 0 := ⟨_, rfl⟩
        have hbl := Crc.burst_len X (bit + 8) P k
        have hcell : wr.cell? ⟨g, 1 + (bit + k) / 8, none⟩ = some (.int .u8 (z : Nat)) := by
          rw [hown.cellAt _ (by omega), hz, hm]
          have : 1 + (bit + k) / 8 < (Crc.burst X (bit + 8) P k).length := by rw [hbl, hXn.out]; exact hk8
          simp [u8s, List.getD, this]
        have hzl : z < 256 := by rw [hz]; exact Crc.getD_lt (Crc.burst_lt X (bit + 8) P hXl k) _
        have hfr := hown.frozenAt (1 + (bit + k) / 8)
        have hsh := top_shr' ((bit + k) % 8) (by omega)
        have HNX : Hid (Crc.burst X (bit + 8) P (k + 1) = (Crc.burst X (bit + 8) P k).set m (z ^^^ 2 ^ (7 - (bit + k) % 8))) := by
          unfold Hid
          rw [Crc.burst, if_pos ⟨ht, by rw [hXn.out]; omega⟩, Crc.flip, show (bit + 8 + k) / 8 = m by omega, show (bit + 8 + k) % 8 = (bit + k) % 8 by omega, hz]
        have hp2 : 2 ^ (7 - (bit + k) % 8) < 256 := Nat.pow_lt_pow_right (show 1 < 2 by omega) (show 7 - (bit + k) % 8 < 8 by omega)
        have hst := hown.stored m (.int .u8 ((z ^^^ 2 ^ (7 - (bit + k) % 8) : Nat) : Int))
        rw [u8s_set, ← HNX.out] at hst
        have HST := Lib.hid hst.1
        have HB := Lib.hid hbx
        have HM := Lib.hid hm
        clear hst hown hbx hz hm hbl ht
        go_wp2
        have e : bits .xor .u8 (z : Int) (2 ^ (7 - (bit + k) % 8)) = ((z ^^^ 2 ^ (7 - (bit + k) % 8) : Nat) : Int) := by
          rw [← u8_xor_nat z _ hzl hp2]; simp
        rw [← HM.out, e]
        go_roundw
        case rel => exact ⟨k + 1, by omega, by go_num, HST.out, HB.out.setCell hg.1 _⟩
        case measure => simp [intOf]; omega
      · rw [if_neg ht] at hbt
        have HNX : Hid (Crc.burst X (bit + 8) P (k + 1) = Crc.burst X (bit + 8) P k) := by
          unfold Hid
          rw [Crc.burst, if_neg (fun h => ht h.1)]
        have HO := Lib.hid hown
        clear ht hown
        go_wp2
        go_roundw
        case rel => exact ⟨k + 1, by omega, by go_num, by rw [HNX.out]; exact HO.out, hbx⟩
        case measure => simp [intOf]; omega
    · have HE : Hid (Crc.burst X (bit + 8) P k = Crc.burst X (bit + 8) P 16) := by
        unfold Hid
        by_cases hkn : k = 16
        · rw [hkn]
        · have := Crc.burst_past X (bit + 8) P k (by rw [hXn.out]; omega) (16 - k)
          rw [show k + (16 - k) = 16 by omega] at this
          exact this.symm
      rw [HE.out] at hown
      obtain ⟨Y, hY⟩ : ∃ Y, Y = Crc.burst X (bit + 8) P 16 := ⟨_, rfl⟩
      rw [← hY] at hown
      have hYl : ∀ c ∈ Y, c < 256 := by rw [hY]; exact Crc.burst_lt _ _ _ hXl 16
      have hyy := bytes_of_own hown hYl
      have hcy : len + 3 ≤ cap1 ∧ cap1 ≤ maxLen := by
        rcases hown.2 with ⟨h, _⟩ | ⟨g', cap', cur, h, _, _, h3, h4, _⟩
        · simp at h
        · simp at h; obtain ⟨rfl, rfl⟩ := h; exact ⟨h3, h4⟩
      have hyx3 := hyx.below hbx (Nat.le_refl _)
      have hbw : Below w.heap.size w wr := hb2'.trans (hbx.mono hsz2)
      have hre : readErr Y len = if Y = X then 0 else 25 := by
        have := readErr_burst l hi.2.1 (by rw [HLen.out]; exact hl) bit P Y (by rw [hY, HX.out])
        rwa [HLen.out, ← HX.out] at this
      have hll := read_lay l (by rw [HLen.out]; exact hl)
      rw [HLen.out, ← HX.out] at hll
      have HRE := Lib.hid hre
      have HLL := Lib.hid hll
      clear hY hre hll hown HE
      rcases (show (k < 16 ∧ ¬ bit + k < 8 * len + 16) ∨ ¬ k < 16 by omega) with ⟨h1, h2⟩ | h1
      all_goals
        clear hin
        go_wp2_with fail
        refine (read_any _ _ _ _ _ _ hyy (fun h => by simp at h) (by omega) hcy.1 hcy.2).mono ?_
        rintro e w5 ⟨⟨a5, cap5, he, hy5, _, _⟩, hb5⟩
        have hbf := hbw.trans (hb5.mono hbw.size)
        have hyx5 := hyx3.below hb5 (Nat.le_refl _)
        have hyy5 := hyy.below hb5 (Nat.le_refl _)
        have hi5 := hi.below hbf (Nat.le_refl _)
        have hsx := run_str (P := Try.prog) hyx5 22 5 9 Try.underlying22 Try.underlying5 Try.underlying9 capx
        have hsy := run_str (P := Try.prog) hyy5 22 5 9 Try.underlying22 Try.underlying5 Try.underlying9 cap1
        have hsl := run_str (P := Try.prog) hi5 22 5 9 Try.underlying22 Try.underlying5 Try.underlying9 cap
        have hxy := strB_beq hXl hYl
        by_cases hYX : Y = X
        · obtain ⟨r1, r2, r3⟩ := HLL.out
          rw [hYX, r1, r2, r3] at he
          rw [hYX, r3] at hy5
          have hlen := HLen.out
          have hs5 := run_str (P := Try.prog) hy5 22 5 9 Try.underlying22 Try.underlying5 Try.underlying9 cap5
          rw [hlen] at he hs5
          have hq : ((strB X).toList == (strB Y).toList) = true := by rw [hxy, hYX]; simp
          clear hxy hYX r1 r2 r3 hlen hy5 hyx5 hyy5 hi5 hyx3 hyy
          subst he
          go_wp2
          go_ret
          exact ⟨by simp, hbf⟩
        · have r1 : readErr Y len = 25 := by rw [HRE.out, if_neg hYX]
          have r2 : readN Y len = 0 := by unfold readN; rw [if_neg (by rw [r1]; omega)]
          have r3 : readL Y len = [] := by unfold readL; rw [if_neg (by rw [r1]; omega)]
          rw [r1, r2, r3] at he
          have hq : ((strB X).toList == (strB Y).toList) = false := by rw [hxy, beq_eq_false_iff_ne]; exact fun h => hYX h.symm
          clear hxy hYX r1 r2 r3 hy5 hyx5 hyy5 hi5 hyx3 hyy
          subst he
          go_wp2
          go_ret
          exact ⟨by simp, hbf⟩

theorem tbursts_any (a : Option Addr) (len cap : Nat) (l : List Nat) (bit : Int) (P : Nat) (w : World) (hm : len ≤ maxLen) (hi : Bytes w a len l) (hnil : a = none → cap = 0) (hbit : I64 bit) (hP : P < 65536) :
    Calls Try.prog 7 #[.slice a len cap, .int .i64 bit, .int .u16 (P : Int)] w fun e w' => e = .returned (.bool true) ∧ Below w.heap.size w w' := by
  unfold maxLen at hm
  rcases (show (len ≤ 4096 ∧ 0 ≤ bit) ∨ (4096 < len ∨ (len ≤ 4096 ∧ bit < 0)) by omega) with ⟨h, h2⟩ | h
  · obtain ⟨m, rfl⟩ : ∃ m : Nat, bit = m := ⟨bit.toNat, by omega⟩
    exact tbursts_walk a len cap l m P w hi hnil h (by unfold I64 at hbit; omega) hP
  · rcases h with h | ⟨h, h2⟩
    all_goals
      go_enter Try.func7, Try.ntmps7
      go_wp2_with (go_at_call 16; refine (tknown_any _).mono ?_; rintro e w1 ⟨rfl, hb⟩)
      go_ret
      exact ⟨rfl, hb⟩

end Go.Proofs.Ytaficomlmjdnbaa
