/- regs: Write, Get, Next. -/
import Derived.Test.YtjjeopanffcbiaaRegsA
namespace Go.Proofs.Ytjjeopanffcbiaa
open Go Go.RowKit
set_option linter.unusedVariables false

def onceS (vs : List Int) (n : Nat) (v : Int) : Int × List Int :=
  if n = 6 ∨ n = 13 then (if bits .andNot .u8 (vs.getD n 0) v ≠ 0 then (22, vs) else (0, vs.set n v)) else if vs.getD 13 0 ≠ 0 then (22, vs) else (0, vs.set n v)

set_option maxHeartbeats 1000000 in
theorem once_any (g : Nat) (vs : List Int) (n : Nat) (v : Int) (w : World) (hf : RFile w g vs) (hn : n < 64) :
    Calls Try.prog 92 #[.pointer (some ⟨g, 0, none⟩), .int .i64 (n : Int), .int .u8 v] w fun e w' => (e = .returned (.int .i64 (onceS vs n v).1) ∧ RFile w' g (onceS vs n v).2) ∧ w.grownBy w' (some g) := by
  have hc := hf.cell n hn
  have hd := hf.cell 13 (by omega)
  have t1 : (0 : Int) ≤ (n : Int) := by omega
  have t2 : (n : Int) < 64 := by omega
  have HF := Lib.hid hf
  obtain ⟨R, hR⟩ : ∃ R, R = onceS vs n v := ⟨_, rfl⟩
  rw [← hR]
  unfold onceS at hR
  obtain ⟨x, hx⟩ : ∃ x, x = vs.getD n 0 := ⟨_, rfl⟩
  obtain ⟨y, hy⟩ : ∃ y, y = vs.getD 13 0 := ⟨_, rfl⟩
  rw [← hx, ← hy] at hR
  rw [← hx] at hc
  rw [← hy] at hd
  have HY := Lib.hid hy
  have HX := Lib.hid hx
  clear hx hy hf
  have arms : ∀ (w : World), RFile w g vs → Calls Try.prog 90 #[.pointer (some ⟨g, 0, none⟩), .int .i64 (n : Int), .int .u8 v] w fun e w' => (e = .returned (.int .i64 0) ∧ RFile w' g (vs.set n v)) ∧ w.grownBy w' (some g) := fun w h => again_any g vs n v w h hn
  have HArms := Lib.hid arms
  clear arms
  by_cases h613 : n = 6 ∨ n = 13
  · rw [if_pos h613] at hR
    by_cases ha : bits .andNot .u8 x v ≠ 0
    · rw [if_pos ha] at hR
      subst hR
      have hb : (bits BinOp.andNot .u8 x v != 0) = true := by simpa using ha
      clear ha HX
      rcases h613 with rfl | rfl
      · clear hd
        go_enter Try.func92, Try.ntmps92
        go_wp2
        go_ret
        exact ⟨⟨rfl, HF.out⟩, gb_refl _ _⟩
      · clear hd
        go_enter Try.func92, Try.ntmps92
        go_wp2
        go_ret
        exact ⟨⟨rfl, HF.out⟩, gb_refl _ _⟩
    · rw [if_neg ha] at hR
      subst hR
      have hb : (bits BinOp.andNot .u8 x v != 0) = false := by simpa using ha
      clear ha HX
      rcases h613 with rfl | rfl
      · clear hd
        go_enter Try.func92, Try.ntmps92
        go_wp2_with (go_at_call 90; refine (HArms.out _ HF.out).mono ?_; rintro e w' ⟨⟨rfl, hF⟩, hg⟩)
        go_ret
        exact ⟨⟨rfl, hF⟩, hg⟩
      · clear hd
        go_enter Try.func92, Try.ntmps92
        go_wp2_with (go_at_call 90; refine (HArms.out _ HF.out).mono ?_; rintro e w' ⟨⟨rfl, hF⟩, hg⟩)
        go_ret
        exact ⟨⟨rfl, hF⟩, hg⟩
  · rw [if_neg h613] at hR
    have b6 : ((n : Int) == 6) = false := by simp; omega
    have b13 : ((n : Int) == 13) = false := by simp; omega
    clear h613 hc
    by_cases ha : y ≠ 0
    · rw [if_pos ha] at hR
      subst hR
      have hb : (y != 0) = true := by simpa using ha
      clear ha
      go_enter Try.func92, Try.ntmps92
      go_wp2
      go_ret
      exact ⟨⟨rfl, HF.out⟩, gb_refl _ _⟩
    · rw [if_neg ha] at hR
      subst hR
      have hb : (y != 0) = false := by simpa using ha
      clear ha
      go_enter Try.func92, Try.ntmps92
      go_wp2_with (go_at_call 90; refine (HArms.out _ HF.out).mono ?_; rintro e w' ⟨⟨rfl, hF⟩, hg⟩)
      go_ret
      exact ⟨⟨rfl, hF⟩, hg⟩

theorem nothing_any (g : Nat) (n v : Int) (w : World) :
    Calls Try.prog 91 #[.pointer (some ⟨g, 0, none⟩), .int .i64 n, .int .u8 v] w fun e w' => e = .returned (.int .i64 0) ∧ w = w' := by
  go_enter Try.func91, Try.ntmps91
  go_wp2
  go_ret
  exact ⟨rfl, rfl⟩

set_option maxHeartbeats 1000000 in
theorem write_any (g : Nat) (vs : List Int) (n v : Int) (w : World) (hf : RFile w g vs) :
    Calls Try.prog 35 #[.pointer (some ⟨g, 0, none⟩), .int .i64 n, .int .u8 v] w fun e w' => (e = .returned (.int .i64 (writeS vs n v).1) ∧ RFile w' g (writeS vs n v).2) ∧ w.grownBy w' (some g) := by
  have HF := Lib.hid hf
  clear hf
  cases hw : writesS n
  · have hr : writeS vs n v = (2, vs) := by unfold writeS; rw [if_pos hw]
    rw [hr]
    have HW := Lib.hid hw
    clear hr hw
    go_enter Try.func35, Try.ntmps35
    go_wp2_with (go_at_call 88; refine (writes_any _ _).mono ?_; rintro e w' ⟨rfl, rfl⟩; rw [HW.out])
    go_ret
    exact ⟨⟨rfl, HF.out⟩, gb_refl _ _⟩
  · cases hmay : mayS n v
    · have hr : writeS vs n v = (1, vs) := by unfold writeS; rw [if_neg (by simp [hw]), if_pos hmay]
      rw [hr]
      have HW := Lib.hid hw
      have HMay := Lib.hid hmay
      clear hr hw hmay
      go_enter Try.func35, Try.ntmps35
      go_wp2_with (first | (go_at_call 88; refine (writes_any _ _).mono ?_; rintro e w' ⟨rfl, rfl⟩; rw [HW.out]) | (go_at_call 89; refine (may_any _ _ _).mono ?_; rintro e w' ⟨rfl, rfl⟩; rw [HMay.out]))
      go_ret
      exact ⟨⟨rfl, HF.out⟩, gb_refl _ _⟩
    · have hk : kindS n = 1 ∨ kindS n = 2 ∨ kindS n = 3 := by
        rcases kindS_five n with h | h | h | h | h <;> simp [writesS, h] at hw ⊢
      have hrg := kindS_range (n := n) (by omega)
      obtain ⟨m, rfl⟩ : ∃ m : Nat, n = m := ⟨n.toNat, by omega⟩
      have hm64 : m < 64 := by omega
      clear hrg
      rcases hk with h | h | h
      · have hr : writeS vs m v = (0, vs.set m v) := by unfold writeS; rw [if_neg (by simp [hw]), if_neg (by simp [hmay]), h]; simp
        rw [hr]
        have HW := Lib.hid hw
        have HMay := Lib.hid hmay
        have HK := Lib.hid h
        clear hr hw hmay h
        go_enter Try.func35, Try.ntmps35
        go_wp2_with (first | (go_at_call 88; refine (writes_any _ _).mono ?_; rintro e w' ⟨rfl, rfl⟩; rw [HW.out]) | (go_at_call 89; refine (may_any _ _ _).mono ?_; rintro e w' ⟨rfl, rfl⟩; rw [HMay.out]) | (go_at_call 33; refine (kind_any _ _).mono ?_; rintro e w' ⟨rfl, rfl⟩; rw [HK.out]) | (go_at_call 90; refine (again_any g vs m v _ HF.out hm64).mono ?_; rintro e w' ⟨⟨rfl, hF⟩, hg⟩))
        go_ret
        exact ⟨⟨rfl, hF⟩, hg⟩
      · have hr : writeS vs m v = (0, vs) := by unfold writeS; rw [if_neg (by simp [hw]), if_neg (by simp [hmay]), h]; simp
        rw [hr]
        have HW := Lib.hid hw
        have HMay := Lib.hid hmay
        have HK := Lib.hid h
        clear hr hw hmay h
        go_enter Try.func35, Try.ntmps35
        go_wp2_with (first | (go_at_call 88; refine (writes_any _ _).mono ?_; rintro e w' ⟨rfl, rfl⟩; rw [HW.out]) | (go_at_call 89; refine (may_any _ _ _).mono ?_; rintro e w' ⟨rfl, rfl⟩; rw [HMay.out]) | (go_at_call 33; refine (kind_any _ _).mono ?_; rintro e w' ⟨rfl, rfl⟩; rw [HK.out]) | (go_at_call 91; refine (nothing_any g _ v _).mono ?_; rintro e w' ⟨rfl, rfl⟩))
        go_ret
        exact ⟨⟨rfl, HF.out⟩, gb_refl _ _⟩
      · have hr : writeS vs m v = onceS vs m v := by
          unfold writeS onceS
          rw [if_neg (by simp [hw]), if_neg (by simp [hmay]), h, if_neg (by omega), if_pos rfl]
          simp only [Int.toNat_natCast]
          have e1 : ((m : Int) = 6 ∨ (m : Int) = 13) ↔ (m = 6 ∨ m = 13) := by omega
          simp only [e1]
        rw [hr]
        have HW := Lib.hid hw
        have HMay := Lib.hid hmay
        have HK := Lib.hid h
        clear hr hw hmay h
        obtain ⟨R, hR⟩ : ∃ R, R = onceS vs m v := ⟨_, rfl⟩
        have ho := fun (w : World) (h : RFile w g vs) => once_any g vs m v w h hm64
        rw [← hR] at ho ⊢
        have HO := Lib.hid ho
        clear ho hR
        go_enter Try.func35, Try.ntmps35
        go_wp2_with (first | (go_at_call 88; refine (writes_any _ _).mono ?_; rintro e w' ⟨rfl, rfl⟩; rw [HW.out]) | (go_at_call 89; refine (may_any _ _ _).mono ?_; rintro e w' ⟨rfl, rfl⟩; rw [HMay.out]) | (go_at_call 33; refine (kind_any _ _).mono ?_; rintro e w' ⟨rfl, rfl⟩; rw [HK.out]) | (go_at_call 92; refine (HO.out _ HF.out).mono ?_; rintro e w' ⟨⟨rfl, hF⟩, hg⟩))
        go_ret
        exact ⟨⟨rfl, hF⟩, hg⟩

end Go.Proofs.Ytjjeopanffcbiaa
