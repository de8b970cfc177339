/- token: TokenReads, whatever the length. -/
import Derived.Test.YtjjeopanffcbiaaTokH
namespace Go.Proofs.Ytjjeopanffcbiaa
open Go.RowKit
set_option linter.unusedVariables false

theorem treads_any (a : Option Addr) (len cap : Nat) (l : List Nat) (size x : Int) (w : World) (hi : Bytes w a len l) (hnil : a = none → cap = 0) (hc : len ≤ cap) (hcm : cap ≤ maxLen) :
    Calls Try.prog 3 #[.slice a len cap, .int .i64 size, .int .i64 x] w fun e w' => e = .returned (.bool true) ∧ Below w.heap.size w w' := by
  by_cases h : len ≤ 4096
  · exact treads_walk a len cap l size x w hi hnil h hc hcm
  · have hm : len ≤ maxLen := Nat.le_trans hc hcm
    unfold maxLen at hm
    have h4 : 4096 < len := by omega
    clear h
    go_enter Try.func3, Try.ntmps3
    go_wp2_with (go_at_call 15; refine (tknown_any _).mono ?_; rintro e w1 ⟨rfl, hb⟩)
    go_ret
    exact ⟨rfl, hb⟩

end Go.Proofs.Ytjjeopanffcbiaa
