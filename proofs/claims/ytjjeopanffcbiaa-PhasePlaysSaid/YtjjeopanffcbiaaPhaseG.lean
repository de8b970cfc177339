/- phase: Receive, Got; the reference's machine. -/
import Derived.Test.YtjjeopanffcbiaaPhaseF
namespace Go.Proofs.Ytjjeopanffcbiaa
open Go Go.RowKit Go.Maps
set_option linter.unusedVariables false

def clampS (n : Int) : Int := if n < 1 then 1 else if 64 < n then 64 else n
def recvS (s l n : Int) : Int := if s = 6 then clampS n else l
def gotS (s l : Int) : Int × Int × Bool := if s = 6 then (if l = 1 then (4, 0, true) else (6, l - 1, true)) else (s, l, false)

theorem receive_any (g : Nat) (s a l n : Int) (w : World) (hm : Mach w g s a l) :
    Calls Try.prog 64 #[.pointer (some ⟨g, 0, none⟩), .int .i64 n] w fun e w' => (e = .returned (.tuple #[]) ∧ Mach w' g s a (recvS s l n)) ∧ w.grownBy w' (some g) := by
  obtain ⟨hg, c0, c1, c2⟩ := hm.three
  have f2 := hm.free 2
  have HM := Lib.hid hm
  clear hm
  by_cases h6 : s = 6
  · subst h6
    have h1 : n < 1 ∨ 64 < n ∨ (1 ≤ n ∧ n ≤ 64) := by omega
    rcases h1 with h | h | ⟨h, h'⟩
    · have hr : recvS 6 l n = 1 := by simp [recvS, clampS, h]
      rw [hr]
      go_enter Try.func64, Try.ntmps64
      go_wp2
      go_end0
      exact ⟨⟨rfl, HM.out.set 2 _⟩, gb_set (gb_refl _ _) _ _⟩
    · have hr : recvS 6 l n = 64 := by simp [recvS, clampS]; omega
      rw [hr]
      go_enter Try.func64, Try.ntmps64
      go_wp2
      go_end0
      exact ⟨⟨rfl, HM.out.set 2 _⟩, gb_set (gb_refl _ _) _ _⟩
    · have hr : recvS 6 l n = n := by simp [recvS, clampS]; omega
      rw [hr]
      go_enter Try.func64, Try.ntmps64
      go_wp2
      go_end0
      exact ⟨⟨rfl, HM.out.set 2 _⟩, gb_set (gb_refl _ _) _ _⟩
  · have hb : (s == 6) = false := by simpa using h6
    have hr : recvS s l n = l := by simp [recvS, h6]
    rw [hr]
    clear h6 hr
    go_enter Try.func64, Try.ntmps64
    go_wp2
    go_end0
    exact ⟨⟨rfl, HM.out⟩, gb_refl _ _⟩

theorem got_any (g : Nat) (s a l : Int) (w : World) (hm : Mach w g s a l) (h0 : -1000 ≤ l) (h1 : l ≤ 1000) :
    Calls Try.prog 66 #[.pointer (some ⟨g, 0, none⟩)] w fun e w' => (e = .returned (.bool (gotS s l).2.2) ∧ Mach w' g (gotS s l).1 a (gotS s l).2.1) ∧ w.grownBy w' (some g) := by
  obtain ⟨hg, c0, c1, c2⟩ := hm.three
  have f2 := hm.free 2
  have HM := Lib.hid hm
  clear hm
  by_cases h6 : s = 6
  · subst h6
    by_cases hl : l = 1
    · subst hl
      have HM2 : Mach (w.setCell ⟨g, 2, none⟩ (.int .i64 0)) g 6 a 0 := HM.out.set 2 (.int .i64 0)
      go_enter Try.func66, Try.ntmps66
      go_wp2_with (go_at_call 97; refine (to_any g 6 a 0 4 _ HM2).mono ?_; rintro e w2 ⟨rfl, hM2, hg2⟩)
      go_ret
      exact ⟨⟨rfl, hM2⟩, gb_trans (gb_set (gb_refl _ _) _ _) hg2⟩
    · have hb : (l - 1 == 0) = false := by simp; omega
      have hr : gotS 6 l = (6, l - 1, true) := by simp [gotS, hl]
      rw [hr]
      clear hl hr
      go_enter Try.func66, Try.ntmps66
      go_wp2
      go_ret
      exact ⟨⟨rfl, HM.out.set 2 _⟩, gb_set (gb_refl _ _) _ _⟩
  · have hb : (s != 6) = true := by simpa using h6
    have hr : gotS s l = (s, l, false) := by simp [gotS, h6]
    rw [hr]
    clear h6 hr
    go_enter Try.func66, Try.ntmps66
    go_wp2
    go_ret
    exact ⟨⟨rfl, HM.out⟩, gb_refl _ _⟩

/-! ### the reference's -/
theorem mine_any (g : Nat) (s l a arg : Int) (w : World) (hm : RMach w g s l a) (h0 : 0 ≤ arg) (h1 : arg < 4294967296) :
    Calls Try.prog 123 #[.pointer (some ⟨g, 0, none⟩), .int .u32 arg] w fun e w' => e = .returned (.bool (ownB a arg)) ∧ w = w' := by
  obtain ⟨hg, c0, c1, c2⟩ := hm.three
  clear hm
  go_enter Try.func123, Try.ntmps123
  go_wp2
  go_ret
  exact ⟨rfl, rfl⟩

theorem rlegal_any (g : Nat) (s l a i arg : Int) (w : World) (hm : RMach w g s l a) (h0 : 0 ≤ arg) (h1 : arg < 4294967296) :
    Calls Try.prog 62 #[.pointer (some ⟨g, 0, none⟩), .int .i64 i, .int .u32 arg] w fun e w' => e = .returned (.bool (nextS s i (ownB a arg)).2) ∧ Below w.heap.size w w' := by
  obtain ⟨hg, c0, c1, c2⟩ := hm.three
  have HM := Lib.hid hm
  clear hm
  go_enter Try.func62, Try.ntmps62
  go_wp2_with fail
  go_region_with (first | (go_at_call 123; refine (mine_any g s l a arg _ HM.out.drew h0 h1).mono ?_; rintro e w' ⟨rfl, rfl⟩) | (go_at_call 30; refine (rnext_any s i _ _).mono ?_; rintro e w' ⟨rfl, rfl⟩))
  all_goals
    go_wp2
    go_ret
    exact ⟨rfl, (Below.refl _ _).drew⟩

theorem rreceive_any (g : Nat) (s l a n : Int) (w : World) (hm : RMach w g s l a) :
    Calls Try.prog 65 #[.pointer (some ⟨g, 0, none⟩), .int .i64 n] w fun e w' => (e = .returned (.tuple #[]) ∧ RMach w' g s (recvS s l n) a) ∧ w.grownBy w' (some g) := by
  obtain ⟨hg, c0, c1, c2⟩ := hm.three
  have f2 := hm.free 1
  have HM := Lib.hid hm
  clear hm
  by_cases h6 : s = 6
  · subst h6
    have h1 : n < 1 ∨ 64 < n ∨ (1 ≤ n ∧ n ≤ 64) := by omega
    rcases h1 with h | h | ⟨h, h'⟩
    · have hr : recvS 6 l n = 1 := by simp [recvS, clampS, h]
      rw [hr]
      go_enter Try.func65, Try.ntmps65
      go_wp2
      go_end0
      exact ⟨⟨rfl, HM.out.set 1 _⟩, gb_set (gb_refl _ _) _ _⟩
    · have hr : recvS 6 l n = 64 := by simp [recvS, clampS]; omega
      rw [hr]
      go_enter Try.func65, Try.ntmps65
      go_wp2
      go_end0
      exact ⟨⟨rfl, HM.out.set 1 _⟩, gb_set (gb_refl _ _) _ _⟩
    · have hr : recvS 6 l n = n := by simp [recvS, clampS]; omega
      rw [hr]
      go_enter Try.func65, Try.ntmps65
      go_wp2
      go_end0
      exact ⟨⟨rfl, HM.out.set 1 _⟩, gb_set (gb_refl _ _) _ _⟩
  · have hb : (s != 6) = true := by simpa using h6
    have hr : recvS s l n = l := by simp [recvS, h6]
    rw [hr]
    clear h6 hr
    go_enter Try.func65, Try.ntmps65
    go_wp2
    refine bodyPost_ret (results_none (by kernel_rfl) _ _ _) rfl ?_
    exact ⟨⟨rfl, HM.out⟩, gb_refl _ _⟩

theorem rgot_any (g : Nat) (s l a : Int) (w : World) (hm : RMach w g s l a) (h0 : -1000 ≤ l) (h1 : l ≤ 1000) :
    Calls Try.prog 67 #[.pointer (some ⟨g, 0, none⟩)] w fun e w' => (e = .returned (.bool (gotS s l).2.2) ∧ RMach w' g (gotS s l).1 (gotS s l).2.1 a) ∧ w.grownBy w' (some g) := by
  obtain ⟨hg, c0, c1, c2⟩ := hm.three
  have f2 := hm.free 1
  have f0 := hm.free 0
  have HM := Lib.hid hm
  clear hm
  by_cases h6 : s = 6
  · subst h6
    by_cases hl : l = 1
    · subst hl
      go_enter Try.func67, Try.ntmps67
      go_wp2
      go_ret
      exact ⟨⟨rfl, (HM.out.set 1 (.int .i64 0)).set 0 (.int .i64 4)⟩, gb_set (gb_set (gb_refl _ _) _ _) _ _⟩
    · have hb : (l - 1 == 0) = false := by simp; omega
      have hr : gotS 6 l = (6, l - 1, true) := by simp [gotS, hl]
      rw [hr]
      clear hl hr
      go_enter Try.func67, Try.ntmps67
      go_wp2
      go_ret
      exact ⟨⟨rfl, HM.out.set 1 _⟩, gb_set (gb_refl _ _) _ _⟩
  · have hb : (s != 6) = true := by simpa using h6
    have hr : gotS s l = (s, l, false) := by simp [gotS, h6]
    rw [hr]
    clear h6 hr
    go_enter Try.func67, Try.ntmps67
    go_wp2
    go_ret
    exact ⟨⟨rfl, HM.out⟩, gb_refl _ _⟩

end Go.Proofs.Ytjjeopanffcbiaa
