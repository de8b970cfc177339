/- ecc: the law's flip. -/
import Derived.Test.YtogpdmpefdafnaaDoorEccAA
import Derived.Test.YtogpdmpefdafnaaDoorEccAB
namespace Go.Proofs.YtogpdmpefdafnaaDoor
open Go Go.RowKit
set_option linter.unusedVariables false

/-- Two rows of bytes that the call has made. -/
def Two (B : Nat) (w : World) (gx n capx : Nat) (x : List Nat) (gc m capc : Nat) (c : List Nat) : Prop :=
  w.ownsRow B 5 1 (.slice (some ⟨gx, 0, none⟩) n capx) n (u8s x) ∧ w.ownsRow B 5 1 (.slice (some ⟨gc, 0, none⟩) m capc) m (u8s c) ∧ gx ≠ gc

theorem own_at {w : World} {B : Nat} {e : TypeId} {g n cap : Nat} {l : List Nat} (h : w.ownsRow B e 1 (.slice (some ⟨g, 0, none⟩) n cap) n (u8s l)) (p : Nat) (hp : p < n) : w.cell? ⟨g, p, none⟩ = some (.int .u8 ((l.getD p 0 : Nat) : Int)) := by
  have hn : l.length = n := by simpa [u8s] using h.1
  have hpl : p < l.length := by omega
  rw [h.cellAt p (by omega)]
  simp [u8s, List.getD, hpl]

end Go.Proofs.YtogpdmpefdafnaaDoor
