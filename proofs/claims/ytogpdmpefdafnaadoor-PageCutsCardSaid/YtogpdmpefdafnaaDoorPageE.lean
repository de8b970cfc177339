/- page: the reference's State, both Chunks. -/
import Derived.Test.YtogpdmpefdafnaaDoorPageD
namespace Go.Proofs.YtogpdmpefdafnaaDoor
open Go Go.RowKit
set_option linter.unusedVariables false

def chunksP (n : Int) : Int := if n < 1 then 1 else (n - 1) / 64 + 1
theorem chunks_any (n : Int) (hn : I64 n) (w : World) : Calls Tryd.prog 6 #[.int .i64 n] w fun e w' => e = .returned (.int .i64 (chunksP n)) ∧ w = w' := by
  unfold I64 at hn
  unfold chunksP
  by_cases h : n < 1
  · rw [if_pos h]
    have t1 : max n 1 = 1 := by omega
    go_enter Tryd.func6, Tryd.ntmps6
    go_wp2
    go_ret
    exact ⟨rfl, rfl⟩
  · rw [if_neg h]
    have t1 : max n 1 = n := by omega
    have t2 : 0 ≤ (n - 1) / 64 := by omega
    have t3 : (n - 1) / 64 ≤ 144115188075855872 := by omega
    go_enter Tryd.func6, Tryd.ntmps6
    go_wp2
    go_ret
    exact ⟨rfl, rfl⟩
end Go.Proofs.YtogpdmpefdafnaaDoor
