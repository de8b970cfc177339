/- ecc: EccRows. -/
import Derived.Test.YtogpdmpefdafnaaDoorEccZ
import Derived.Test.YtogpdmpefdafnaaDoorHeld
namespace Go.Proofs.YtogpdmpefdafnaaDoor
open Go Go.RowKit
set_option linter.unusedVariables false

theorem str_below {w : World} {a : Option Addr} {n : Nat} {l : List Nat} (h : Bytes w a n l) (cap : Nat) (w' : World) (hb : Below w.heap.size w w') : (convert 22 9 (.slice a n cap)).run Tryd.prog w' = .ok (.string (strB l)) w' :=
  run_str (P := Tryd.prog) (h.below hb (Nat.le_refl _)) 22 5 9 Tryd.underlying22 Tryd.underlying5 Tryd.underlying9 cap
theorem chain {w W w' : World} (h1 : Below w.heap.size w W) (h2 : Below W.heap.size W w') : Below w.heap.size w w' := h1.trans (h2.mono h1.size)

def outL (s : Option (List Nat × Nat)) : List Nat := match s with | some (o, _) => o | none => []
def outN (s : Option (List Nat × Nat)) : Nat := match s with | some (_, n) => n | none => 0
theorem MendV.flat {B : Nat} {w : World} {s : Option (List Nat × Nat)} {e : Ending} (h : MendV B w s e) : ∃ a cap, e = .returned (.tuple #[.slice a (outL s).length cap, .int .i64 (outN s : Nat), .bool s.isSome]) ∧ Bytes w a (outL s).length (outL s) := by
  cases s with
  | none => exact ⟨none, 0, h, rfl, by simp [outL], fun h => by simp [outL] at h⟩
  | some x =>
    obtain ⟨v, h1, a, cap, h2, h3, _⟩ := h
    subst h2
    exact ⟨a, cap, h1, h3⟩

end Go.Proofs.YtogpdmpefdafnaaDoor
