/- ecc: EccRowMends, whatever the lengths. -/
import Derived.Test.YtfefjabdfelhnaaDoorEccAD
namespace Go.Proofs.YtfefjabdfelhnaaDoor
open Go Go.RowKit
set_option linter.unusedVariables false

theorem erm_any (a : Option Addr) (len cap : Nat) (l : List Nat) (a2 : Option Addr) (bl cap2 : Nat) (zs : List Int) (tw : Int) (w : World) (hi : Bytes w a len l) (hj : IntsK .i64 w a2 bl zs) (hz : ∀ z ∈ zs, I64 z) (hc : len ≤ cap) (hcm : cap ≤ maxLen) (hc2 : bl ≤ cap2) (hcm2 : cap2 ≤ maxLen) (hnil : a = none → cap = 0) (hT : Deb w) (htw : I64 tw) :
    Calls Tryd.prog 4 #[.slice a len cap, .slice a2 bl cap2, .int .i64 tw] w fun e w' => e = .returned (.bool true) ∧ Below w.heap.size w w' := by
  unfold maxLen at hcm hcm2
  by_cases h1 : 1 ≤ len ∧ len ≤ 600 ∧ len % 8 = 0 ∧ bl ≤ 100
  · obtain ⟨h1, h2, h3, h4⟩ := h1
    exact erm_walk a len cap l a2 bl cap2 zs tw w hi hj hz (len / 8) (by omega) (by omega) (by omega) h4 hc hnil hT htw
  · have HT := Lib.hid hT
    have hcs : 600 < len ∨ len = 0 ∨ (1 ≤ len ∧ len ≤ 600 ∧ len % 8 ≠ 0) ∨ (1 ≤ len ∧ len ≤ 600 ∧ len % 8 = 0 ∧ 100 < bl) := by omega
    clear hi hj hz hT h1
    rcases hcs with h | h | ⟨h, h2, h3⟩ | ⟨h, h2, h3, h4⟩
    · go_enter Tryd.func4, Tryd.ntmps4
      go_wp2_with (go_at_call 9; refine (known_any _ HT.out).mono ?_; rintro e w1 ⟨rfl, rfl⟩)
      go_ret
      exact ⟨rfl, Below.refl _ _⟩
    · subst h
      go_enter Tryd.func4, Tryd.ntmps4
      go_wp2_with (go_at_call 9; refine (known_any _ HT.out).mono ?_; rintro e w1 ⟨rfl, rfl⟩)
      go_ret
      exact ⟨rfl, Below.refl _ _⟩
    · have t1 : ((len : Int) == 0) = false := by simp; omega
      have t2 : ((len : Int) % 8 != 0) = true := by simp; omega
      go_enter Tryd.func4, Tryd.ntmps4
      go_wp2_with (go_at_call 9; refine (known_any _ HT.out).mono ?_; rintro e w1 ⟨rfl, rfl⟩)
      go_ret
      exact ⟨rfl, Below.refl _ _⟩
    · have t1 : ((len : Int) == 0) = false := by simp; omega
      have t2 : (len : Int) % 8 = 0 := by omega
      go_enter Tryd.func4, Tryd.ntmps4
      go_wp2_with (go_at_call 9; refine (known_any _ HT.out).mono ?_; rintro e w1 ⟨rfl, rfl⟩)
      go_ret
      exact ⟨rfl, Below.refl _ _⟩

end Go.Proofs.YtfefjabdfelhnaaDoor
