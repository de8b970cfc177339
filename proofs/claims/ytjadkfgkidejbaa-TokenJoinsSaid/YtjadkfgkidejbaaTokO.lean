/- token: TokenJoins, whatever came in. -/
import Derived.Test.YtjadkfgkidejbaaTokN
namespace Go.Proofs.Ytjadkfgkidejbaa
open Go.RowKit
set_option linter.unusedVariables false

theorem tjoins_any (a : Option Addr) (n cap : Nat) (ls : List (List Nat)) (size stop : Int) (w : World) (hR : RowsR w a ls) (hn : ls.length = n) (hls : ∀ x ∈ ls, ∀ c ∈ x, c < 256) (hc : n ≤ cap) (hcm : cap ≤ maxLen) (hsz : I64 size) (hst : I64 stop) :
    Calls Try.prog 3 #[.slice a n cap, .int .i64 size, .int .i64 stop] w fun e w' => e = .returned (.bool true) ∧ Below w.heap.size w w' := by
  unfold maxLen at hcm
  by_cases h : n ≤ 60 ∧ 0 ≤ size ∧ size ≤ 200
  · obtain ⟨h1, h2, h3⟩ := h
    obtain ⟨sz, rfl⟩ : ∃ sz : Nat, size = sz := ⟨size.toNat, by omega⟩
    exact tjoins_walk a n cap ls sz stop w hR hn hls h1 (by omega) hst
  · have hcs : 60 < n ∨ (n ≤ 60 ∧ size < 0) ∨ (n ≤ 60 ∧ ¬ size < 0 ∧ 200 < size) := by omega
    unfold I64 at hsz hst
    have hb0 : Below w.heap.size w (w.alloc (.cells #[.int .i64 stop] 3)) := (Below.refl _ _).alloc (Nat.le_refl _) _
    clear hR hn hls h
    rcases hcs with h | ⟨h, h2⟩ | ⟨h, h2, h3⟩
    · go_enter Try.func3, Try.ntmps3
      go_wp2_with (go_at_call 15; refine (tknown_any _).mono ?_; rintro e w1 ⟨rfl, hb⟩)
      go_ret
      exact ⟨rfl, hb0.trans (hb.mono (by simp))⟩
    · go_enter Try.func3, Try.ntmps3
      go_wp2_with (go_at_call 15; refine (tknown_any _).mono ?_; rintro e w1 ⟨rfl, hb⟩)
      go_ret
      exact ⟨rfl, hb0.trans (hb.mono (by simp))⟩
    · go_enter Try.func3, Try.ntmps3
      go_wp2_with (go_at_call 15; refine (tknown_any _).mono ?_; rintro e w1 ⟨rfl, hb⟩)
      go_ret
      exact ⟨rfl, hb0.trans (hb.mono (by simp))⟩

end Go.Proofs.Ytjadkfgkidejbaa
