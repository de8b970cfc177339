/- regs: Get, Set, Show, Next. -/
import Derived.Test.YtjjeopanffcbiaaRegsB
import Derived.Outline
namespace Go.Proofs.Ytjjeopanffcbiaa
open Go Go.RowKit
set_option linter.unusedVariables false

def getS (vs : List Int) (n : Int) : Int := if kindS n = 0 then 0 else vs.getD n.toNat 0

theorem get_any (g : Nat) (vs : List Int) (n : Int) (w : World) (hf : RFile w g vs) :
    Calls Try.prog 36 #[.pointer (some ⟨g, 0, none⟩), .int .i64 n] w fun e w' => e = .returned (.int .u8 (getS vs n)) ∧ w = w' := by
  unfold getS
  by_cases h : kindS n = 0
  · rw [if_pos h]
    have HK := Lib.hid h
    clear h hf
    go_enter Try.func36, Try.ntmps36
    go_wp2_with (go_at_call 33; refine (kind_any _ _).mono ?_; rintro e w' ⟨rfl, rfl⟩; rw [HK.out])
    go_ret
    exact ⟨rfl, rfl⟩
  · rw [if_neg h]
    obtain ⟨h0, h1⟩ := kindS_range h
    obtain ⟨m, rfl⟩ : ∃ m : Nat, n = m := ⟨n.toNat, by omega⟩
    have hc := hf.cell m (by omega)
    have t1 : (0 : Int) ≤ (m : Int) := by omega
    have hb : (kindS (m : Int) == 0) = false := by simpa using h
    rw [Int.toNat_natCast]
    obtain ⟨x, hx⟩ : ∃ x, x = vs.getD m 0 := ⟨_, rfl⟩
    rw [← hx] at hc ⊢
    clear h hf hx
    go_enter Try.func36, Try.ntmps36
    go_wp2_with (go_at_call 33; refine (kind_any _ _).mono ?_; rintro e w' ⟨rfl, rfl⟩)
    go_ret
    exact ⟨rfl, rfl⟩

def showS (vs : List Int) (n v : Int) : List Int := if kindS n = 4 then vs.set n.toNat v else vs
theorem show_any (g : Nat) (vs : List Int) (n v : Int) (w : World) (hf : RFile w g vs) :
    Calls Try.prog 70 #[.pointer (some ⟨g, 0, none⟩), .int .i64 n, .int .u8 v] w fun e w' => (e = .returned (.tuple #[]) ∧ RFile w' g (showS vs n v)) ∧ w.grownBy w' (some g) := by
  unfold showS
  by_cases h : kindS n = 4
  · rw [if_pos h]
    obtain ⟨h0, h1⟩ := kindS_range (n := n) (by omega)
    obtain ⟨m, rfl⟩ : ∃ m : Nat, n = m := ⟨n.toNat, by omega⟩
    have hc := hf.cell m (by omega)
    have hfr := hf.free m
    have t1 : (0 : Int) ≤ (m : Int) := by omega
    have HF := Lib.hid (hf.set m v)
    rw [Int.toNat_natCast]
    have HK := Lib.hid h
    clear h hf
    go_enter Try.func70, Try.ntmps70
    go_wp2_with (go_at_call 33; refine (kind_any _ _).mono ?_; rintro e w' ⟨rfl, rfl⟩; rw [HK.out])
    go_end0
    exact ⟨⟨rfl, HF.out⟩, gb_set (gb_refl _ _) _ _⟩
  · rw [if_neg h]
    have hb : (kindS n == 4) = false := by simpa using h
    have HF := Lib.hid hf
    clear h hf
    go_enter Try.func70, Try.ntmps70
    go_wp2_with (go_at_call 33; refine (kind_any _ _).mono ?_; rintro e w' ⟨rfl, rfl⟩)
    go_end0
    exact ⟨⟨rfl, HF.out⟩, gb_refl _ _⟩

def howOf (a : Int) : Int := bits .and .u32 (a / 16777216) 3
def numOf' (a : Int) : Int := bits .and .u32 (a / 65536) 255
def valOf (a : Int) : Int := a / 256 % 256
def nextR (vs : List Int) (a : Int) : Int × Int × Int :=
  if howOf a = 0 then (0, 0, 1) else if writesS (numOf' a) = false then (0, 0, 2)
  else (numOf' a, if howOf a = 1 then bits .or .u8 (getS vs (numOf' a)) (valOf a) else if howOf a = 2 then bits .andNot .u8 (getS vs (numOf' a)) (valOf a) else valOf a, 0)

theorem u32_in (op : BinOp) (a b : Int) : 0 ≤ bits op .u32 a b ∧ bits op .u32 a b < 4294967296 := by
  have h := bits_within op .u32 a b
  simp [IntKind.min, IntKind.max, IntKind.signed, IntKind.bits] at h
  omega
theorem turn1_any (gv : Nat) (x v : Int) (w : World) (hc : w.cell? ⟨gv, 0, none⟩ = some (.int .u8 v)) :
    Calls Try.prog 93 #[.int .u8 x, .pointer (some ⟨gv, 0, none⟩)] w fun e w' => e = .returned (.int .u8 (v)) ∧ w = w' := by
  go_enter Try.func93, Try.ntmps93
  go_wp2
  go_ret
  exact ⟨rfl, rfl⟩
theorem turn2_any (gv : Nat) (x v : Int) (w : World) (hc : w.cell? ⟨gv, 0, none⟩ = some (.int .u8 v)) :
    Calls Try.prog 94 #[.int .u8 x, .pointer (some ⟨gv, 0, none⟩)] w fun e w' => e = .returned (.int .u8 (bits .or .u8 x v)) ∧ w = w' := by
  go_enter Try.func94, Try.ntmps94
  go_wp2
  go_ret
  exact ⟨rfl, rfl⟩
theorem turn3_any (gv : Nat) (x v : Int) (w : World) (hc : w.cell? ⟨gv, 0, none⟩ = some (.int .u8 v)) :
    Calls Try.prog 95 #[.int .u8 x, .pointer (some ⟨gv, 0, none⟩)] w fun e w' => e = .returned (.int .u8 (bits .andNot .u8 x v)) ∧ w = w' := by
  go_enter Try.func95, Try.ntmps95
  go_wp2
  go_ret
  exact ⟨rfl, rfl⟩
set_option maxHeartbeats 1000000 in
theorem rnext_file (g : Nat) (vs : List Int) (a : Int) (w : World) (hf : RFile w g vs) (h0 : 0 ≤ a) (h1 : a < 4294967296) :
    Calls Try.prog 37 #[.pointer (some ⟨g, 0, none⟩), .int .u32 a] w fun e w' => e = .returned (.tuple #[.int .i64 (nextR vs a).1, .int .u8 (nextR vs a).2.1, .int .i64 (nextR vs a).2.2]) ∧ Below w.heap.size w w' := by
  obtain ⟨R, hR⟩ : ∃ R, R = nextR vs a := ⟨_, rfl⟩
  rw [← hR]
  unfold nextR at hR
  have HF := Lib.hid hf
  clear hf
  obtain ⟨N, hN⟩ : ∃ N, numOf' a = N := ⟨_, rfl⟩
  obtain ⟨H, hH⟩ : ∃ H, howOf a = H := ⟨_, rfl⟩
  rw [hN, hH] at hR
  unfold numOf' at hN
  unfold howOf at hH
  obtain ⟨n0, n1⟩ := u32_in .and (a / 65536) 255
  rw [hN] at n0 n1
  by_cases hw : H = 0
  · rw [if_pos hw] at hR
    subst hR
    subst hw
    go_enter Try.func37, Try.ntmps37
    go_wp2
    go_ret3
    exact ⟨rfl, (Below.refl _ _).alloc (Nat.le_refl _) _⟩
  · rw [if_neg hw] at hR
    have b0 : (H == 0) = false := by simpa using hw
    cases hwr : writesS N
    · rw [if_pos hwr] at hR
      subst hR
      have HW := Lib.hid hwr
      clear hwr hw
      go_enter Try.func37, Try.ntmps37
      go_wp2_with (go_at_call 88; refine (writes_any _ _).mono ?_; rintro e w' ⟨rfl, rfl⟩; rw [HW.out])
      all_goals
        go_ret3
        exact ⟨rfl, (Below.refl _ _).alloc (Nat.le_refl _) _⟩
    · rw [if_neg (by simp [hwr])] at hR
      have HW := Lib.hid hwr
      clear hwr hw
      obtain ⟨x, hx⟩ : ∃ x, x = getS vs N := ⟨_, rfl⟩
      rw [← hx] at hR
      have HX := Lib.hid hx
      clear hx
      have HCV := Lib.hid (show (w.alloc (.cells #[.int .u8 (a / 256 % 256)] 5)).cell? ⟨w.heap.size, 0, none⟩ = some (.int .u8 (a / 256 % 256)) by simp)
      by_cases h1 : H = 1
      · rw [if_pos h1] at hR
        subst h1
        subst hR
        go_enter Try.func37, Try.ntmps37
        go_wp2_with (first | (go_at_call 88; refine (writes_any _ _).mono ?_; rintro e w' ⟨rfl, rfl⟩; rw [HW.out]) | (go_at_call 36; refine (get_any g vs N _ (HF.out.below ((Below.refl _ _).alloc (Nat.le_refl _) _))).mono ?_; rintro e w' ⟨rfl, rfl⟩; rw [← HX.out]) | (go_at_call 93; refine (turn1_any w.heap.size x _ _ HCV.out).mono ?_; rintro e w' ⟨rfl, rfl⟩) | (go_at_call 94; refine (turn2_any w.heap.size x _ _ HCV.out).mono ?_; rintro e w' ⟨rfl, rfl⟩) | (go_at_call 95; refine (turn3_any w.heap.size x _ _ HCV.out).mono ?_; rintro e w' ⟨rfl, rfl⟩))
        go_ret3
        exact ⟨rfl, (Below.refl _ _).alloc (Nat.le_refl _) _⟩
      · rw [if_neg h1] at hR
        have b1 : (H == 1) = false := by simpa using h1
        clear h1
        by_cases h2 : H = 2
        · rw [if_pos h2] at hR
          subst h2
          subst hR
          go_enter Try.func37, Try.ntmps37
          go_wp2_with (first | (go_at_call 88; refine (writes_any _ _).mono ?_; rintro e w' ⟨rfl, rfl⟩; rw [HW.out]) | (go_at_call 36; refine (get_any g vs N _ (HF.out.below ((Below.refl _ _).alloc (Nat.le_refl _) _))).mono ?_; rintro e w' ⟨rfl, rfl⟩; rw [← HX.out]) | (go_at_call 93; refine (turn1_any w.heap.size x _ _ HCV.out).mono ?_; rintro e w' ⟨rfl, rfl⟩) | (go_at_call 94; refine (turn2_any w.heap.size x _ _ HCV.out).mono ?_; rintro e w' ⟨rfl, rfl⟩) | (go_at_call 95; refine (turn3_any w.heap.size x _ _ HCV.out).mono ?_; rintro e w' ⟨rfl, rfl⟩))
          go_ret3
          exact ⟨rfl, (Below.refl _ _).alloc (Nat.le_refl _) _⟩
        · rw [if_neg h2] at hR
          subst hR
          have b2 : (H == 2) = false := by simpa using h2
          clear h2
          go_enter Try.func37, Try.ntmps37
          go_wp2_with (first | (go_at_call 88; refine (writes_any _ _).mono ?_; rintro e w' ⟨rfl, rfl⟩; rw [HW.out]) | (go_at_call 36; refine (get_any g vs N _ (HF.out.below ((Below.refl _ _).alloc (Nat.le_refl _) _))).mono ?_; rintro e w' ⟨rfl, rfl⟩; rw [← HX.out]) | (go_at_call 93; refine (turn1_any w.heap.size x _ _ HCV.out).mono ?_; rintro e w' ⟨rfl, rfl⟩) | (go_at_call 94; refine (turn2_any w.heap.size x _ _ HCV.out).mono ?_; rintro e w' ⟨rfl, rfl⟩) | (go_at_call 95; refine (turn3_any w.heap.size x _ _ HCV.out).mono ?_; rintro e w' ⟨rfl, rfl⟩))
          go_ret3
          exact ⟨rfl, (Below.refl _ _).alloc (Nat.le_refl _) _⟩

end Go.Proofs.Ytjjeopanffcbiaa
