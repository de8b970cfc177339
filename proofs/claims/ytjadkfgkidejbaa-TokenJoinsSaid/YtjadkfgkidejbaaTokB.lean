/- token: known; TokenBursts. -/
import Derived.Test.YtjadkfgkidejbaaTokA
import Derived.Lib.SlBytesConst
namespace Go.Proofs.Ytjadkfgkidejbaa
open Go.RowKit
set_option linter.unusedVariables false

theorem join_bytes (s : Nat) : (256 * (s / 256) ||| s % 256) = s := by
  rw [nat_join 8 (256 * (s / 256)) (s % 256) (by omega) (by omega)]; omega

theorem layL_parts (l : List Nat) : ((layL l).drop 1).take l.length = l ∧ (layL l).getD 0 0 = 254 ∧ (layL l).getD (1 + l.length) 0 = Crc.sum16 l / 256 ∧ (layL l).getD (2 + l.length) 0 = Crc.sum16 l % 256 := by
  refine ⟨by simp [layL], rfl, ?_, ?_⟩
  · rw [Nat.add_comm 1]; simp [layL, List.getD]
  · rw [show 2 + l.length = (l.length + 1) + 1 by omega]; simp [layL, List.getD]

theorem read_lay (l : List Nat) (h : l.length ≤ 4096) : readErr (layL l) l.length = 0 ∧ readN (layL l) l.length = (l.length : Int) + 3 ∧ readL (layL l) l.length = l := by
  obtain ⟨p1, p2, p3, p4⟩ := layL_parts l
  have e : readErr (layL l) l.length = 0 := by
    unfold readErr
    rw [if_neg (by rw [layL_len]; omega), if_neg (by rw [p2]; omega), if_neg (by rw [layL_len]; omega), Int.toNat_natCast, p1, p3, p4, if_pos (join_bytes _).symm]
  refine ⟨e, ?_, ?_⟩
  · unfold readN; rw [if_pos e]
  · unfold readL; rw [if_pos e, Int.toNat_natCast, p1]

def abL : List Nat := [97, 98]

theorem ab_bytes (w : World) : Bytes (w.alloc (.cells #[.int .u8 97, .int .u8 98] 5 (2, 3))) (some ⟨w.heap.size, 0, none⟩) 2 abL :=
  ⟨rfl, by decide, fun _ => ⟨w.heap.size, 0, rfl, by simp, fun i hi => by
    rw [Nat.zero_add, World.cell?_alloc_mark]
    match i, hi with
    | 0, _ => rfl
    | 1, _ => rfl⟩⟩

set_option maxRecDepth 100000 in
set_option maxHeartbeats 2000000 in
theorem tknown_any (w : World) : Calls Try.prog 15 #[] w fun e w' => e = .returned (.bool true) ∧ Below w.heap.size w w' := by
  obtain ⟨r1, r2, r3⟩ := read_lay abL (by decide)
  have hkc := fun (w : World) (C : Array Value) (n c : Nat) => Lib.run_convert_bytes_const (P := Try.prog) w 24 5 C n c Try.underlying24 Try.underlying5
  have R1 : Hid (readErr (layL abL) 2 = 0) := r1
  have R2 : Hid (readN (layL abL) 2 = 5) := r2
  have R3 : Hid (readL (layL abL) 2 = abL) := r3
  clear r1 r2 r3
  have hab : Bytes _ _ 2 abL := ab_bytes w
  have HAB := Lib.hid hab
  clear hab
  go_enter Try.func15, Try.ntmps15
  go_wp2_with fail
  refine (lay_any _ 2 2 abL _ HAB.out (fun h => by simp at h) (by omega)).mono ?_
  rintro e w1 ⟨⟨g, cap, he, hown⟩, hb⟩
  have hb1 : Below w.heap.size w w1 := ((Below.refl w.heap.size w).alloc (Nat.le_refl _) _).trans (hb.mono (by simp))
  have hy := bytes_of_own hown (layL_lt abL (by decide))
  have hcap : 5 ≤ cap ∧ cap ≤ maxLen := by
    rcases hown.2 with ⟨h, _⟩ | ⟨g', cap', cur, h, _, _, h3, h4, _⟩
    · simp at h
    · simp at h; obtain ⟨rfl, rfl⟩ := h; exact ⟨h3, h4⟩
  subst he
  clear hb hown hkc HAB
  go_wp2_with fail
  refine (read_any _ _ _ _ _ _ hy (fun h => by simp at h) (by omega) hcap.1 hcap.2).mono ?_
  rintro e w2 ⟨⟨a2, cap2, he, hy2, _, _⟩, hb2⟩
  rw [R1.out, R2.out, R3.out] at he
  rw [R3.out] at hy2
  have hb3 := hb1.trans (hb2.mono hb1.size)
  have hy3 := hy.below hb2 (Nat.le_refl _)
  have hstr := run_str (P := Try.prog) hy2 24 5 9 Try.underlying24 Try.underlying5 Try.underlying9 cap2
  obtain ⟨b3, o3, he3, _, hc3⟩ := hy3.2.2 (by omega)
  obtain ⟨rfl, rfl⟩ : g = b3 ∧ 0 = o3 := by simpa using he3
  have c0 := hc3 0 (by omega)
  have c0' : w2.cell? ⟨g, 0, none⟩ = some (.int .u8 254) := c0
  have hs2 : (((strB abL).toList == ({ data := #[97, 98] } : ByteArray).toList)) = true := by decide +kernel
  subst he
  clear hy hy2 hy3 he3 hc3 c0 hb2 hb1 R1 R2 R3
  go_wp2
  go_ret
  exact ⟨by show Ending.returned (.bool ((strB abL).toList == [97, 98])) = _; rw [show ((strB abL).toList == [97, 98]) = true by decide +kernel], hb3⟩

theorem flip_cons (c : Nat) (xs : List Nat) (p : Nat) : Crc.flip (c :: xs) (p + 8) = c :: Crc.flip xs p := by
  unfold Crc.flip
  rw [show (p + 8) / 8 = p / 8 + 1 by omega, show (p + 8) % 8 = p % 8 by omega, List.set_cons_succ, List.getD_cons_succ]
theorem burst_cons (c : Nat) (xs : List Nat) (bit P : Nat) : ∀ n, Crc.burst (c :: xs) (bit + 8) P n = c :: Crc.burst xs bit P n
  | 0 => rfl
  | n + 1 => by
    simp only [Crc.burst, burst_cons c xs bit P n, List.length_cons]
    by_cases h : P.testBit n = true ∧ bit + n < 8 * xs.length
    · rw [if_pos h, if_pos ⟨h.1, by omega⟩, show bit + 8 + n = bit + n + 8 by omega, flip_cons]
    · rw [if_neg h, if_neg (fun h2 => h ⟨h2.1, by omega⟩)]

theorem readErr_burst (l : List Nat) (hl : ∀ c ∈ l, c < 256) (h : l.length ≤ 4096) (bit P : Nat) (Y : List Nat) (hY : Y = Crc.burst (layL l) (bit + 8) P 16) :
    readErr Y l.length = if Y = layL l then 0 else 25 := by
  have hc : Y = 254 :: Crc.burst (l ++ [Crc.sum16 l / 256, Crc.sum16 l % 256]) bit P 16 := by rw [hY]; exact burst_cons 254 _ bit P 16
  have hlen : Y.length = l.length + 3 := by rw [hY, Crc.burst_len, layL_len]
  obtain ⟨Z, hZ⟩ : ∃ Z, Z = Crc.burst (l ++ [Crc.sum16 l / 256, Crc.sum16 l % 256]) bit P 16 := ⟨_, rfl⟩
  have hf := Crc.sixteen_found l hl bit P Z hZ
  rw [← hZ] at hc
  have e0 : Y.getD 0 0 = 254 := by rw [hc]; rfl
  have e1 : (Y.drop 1).take l.length = Z.take l.length := by rw [hc]; rfl
  have e2 : Y.getD (1 + l.length) 0 = Z.getD l.length 0 := by rw [hc, Nat.add_comm 1]; rfl
  have e3 : Y.getD (2 + l.length) 0 = Z.getD (l.length + 1) 0 := by rw [hc, show 2 + l.length = (l.length + 1) + 1 by omega]; rfl
  have hiff : Y = layL l ↔ Z = l ++ [Crc.sum16 l / 256, Crc.sum16 l % 256] := by
    rw [hc]; unfold layL
    exact ⟨fun h => (List.cons.inj h).2, fun h => by rw [h]⟩
  unfold readErr
  rw [if_neg (by omega), if_neg (by rw [e0]; omega), if_neg (by omega), Int.toNat_natCast, e1, e2, e3]
  by_cases hq : Z = l ++ [Crc.sum16 l / 256, Crc.sum16 l % 256]
  · rw [if_pos (hf.2 hq), if_pos (hiff.2 hq)]
  · rw [if_neg (fun h => hq (hf.1 h)), if_neg (fun h => hq (hiff.1 h))]

theorem bit_of16 (P k : Nat) (hP : P < 65536) : bits .and .u16 ((P : Int) / 2 ^ k) 1 = if P.testBit k then 1 else 0 := by
  have e : ((P : Int) / 2 ^ k) = ((P / 2 ^ k : Nat) : Int) := by simp
  rw [e, show (1 : Int) = ((1 : Nat) : Int) by rfl, u16_and_nat _ 1 (Nat.lt_of_le_of_lt (Nat.div_le_self _ _) hP) (by omega), nat_mask1]
  have h : P.testBit k = (P / 2 ^ k % 2 == 1) := by simp [Nat.testBit, Nat.shiftRight_eq_div_pow]
  rw [h]
  by_cases h1 : P / 2 ^ k % 2 = 1
  · rw [h1]; rfl
  · have h0 : P / 2 ^ k % 2 = 0 := by omega
    rw [h0]; rfl
theorem top_shr' (j : Nat) (h : j < 8) : (128 : Int) / 2 ^ j = ((2 ^ (7 - j) : Nat) : Int) := by
  have : ∀ j, j < 8 → (128 : Int) / 2 ^ j = ((2 ^ (7 - j) : Nat) : Int) := by decide
  exact this j h

end Go.Proofs.Ytjadkfgkidejbaa
