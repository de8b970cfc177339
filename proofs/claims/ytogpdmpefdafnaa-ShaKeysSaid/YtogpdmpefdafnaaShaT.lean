/- sha: ShaKeys, all ways. -/
import Derived.Test.YtogpdmpefdafnaaShaP
import Derived.Test.YtogpdmpefdafnaaShaQ
import Derived.Test.YtogpdmpefdafnaaShaR
import Derived.Test.YtogpdmpefdafnaaShaS
namespace Go.Proofs.Ytogpdmpefdafnaa
open Go Go.RowKit
set_option linter.unusedVariables false

set_option maxRecDepth 100000 in
theorem shakeys_any (a : Option Addr) (len cap : Nat) (key : List Nat) (a2 : Option Addr) (len2 cap2 : Nat) (b : List Nat) (z : Int) (r : List Nat) (w : World) (hi : Bytes w a len key) (hnil : a = none → cap = 0) (hlc : len ≤ cap) (hcm : cap ≤ maxLen) (hi2 : Bytes w a2 len2 b) (hnil2 : a2 = none → cap2 = 0) (hlc2 : len2 ≤ cap2) (hcm2 : cap2 ≤ maxLen) (hz : I64 z) (hr : r.length = 32) (hr8 : ∀ c ∈ r, c < 256) :
    Calls Try.prog 4 #[.slice a len cap, .slice a2 len2 cap2, .int .i64 z, .agg (u8s r).toArray] w fun e w' => e = .returned (.bool true) ∧ Below w.heap.size w w' := by
  by_cases h : len ≤ 4096 ∧ len2 ≤ 4096
  · by_cases hbig : 64 < len
    · exact shakeys_big a len cap key a2 len2 cap2 b z r w hi hnil hlc hcm hi2 hnil2 hlc2 hcm2 hz hr hr8 h.1 h.2 hbig
    · by_cases hc : z < 0
      · exact shakeys_z1 a len cap key a2 len2 cap2 b z r w hi hnil hlc hcm hi2 hnil2 hlc2 hcm2 hz hr hr8 h.1 h.2 hbig hc
      · by_cases hc' : 64 - (len : Int) < z
        · exact shakeys_z2 a len cap key a2 len2 cap2 b z r w hi hnil hlc hcm hi2 hnil2 hlc2 hcm2 hz hr hr8 h.1 h.2 hbig hc hc'
        · exact shakeys_z3 a len cap key a2 len2 cap2 b z r w hi hnil hlc hcm hi2 hnil2 hlc2 hcm2 hz hr hr8 h.1 h.2 hbig hc hc'
  · unfold maxLen at hcm hcm2
    obtain ⟨RR, hRR⟩ : ∃ M, M = (u8s r).toArray := ⟨_, rfl⟩
    rw [← hRR]
    have HBa : Hid (Below w.heap.size w (w.alloc (.cells RR 28))) := Lib.hid ((Below.refl _ _).alloc (Nat.le_refl _) _)
    have hcs : (4096 < (len : Int)) ∨ (¬ 4096 < (len : Int) ∧ 4096 < (len2 : Int)) := by omega
    clear hi hi2 hz hr hr8 h hRR
    rcases hcs with h | ⟨h, h2⟩
    all_goals
      go_enter Try.func4, Try.ntmps4
      go_wp2_with (go_at_call 13; refine (sknown_any _).mono ?_; rintro e w1 ⟨rfl, hb⟩)
      go_ret
      exact ⟨rfl, HBa.out.trans (hb.mono HBa.out.size)⟩

end Go.Proofs.Ytogpdmpefdafnaa
