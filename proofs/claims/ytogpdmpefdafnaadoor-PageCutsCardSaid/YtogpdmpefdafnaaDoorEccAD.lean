/- ecc: EccRowMends. -/
import Derived.Test.YtogpdmpefdafnaaDoorEccAC
namespace Go.Proofs.YtogpdmpefdafnaaDoor
open Go Go.RowKit
set_option linter.unusedVariables false

theorem own_mono {w : World} {base base' : Nat} {e : TypeId} {size : Nat} {v : Value} {n : Nat} {xs : List Value} (h : w.ownsRow base e size v n xs) (hb : base' ≤ base) : w.ownsRow base' e size v n xs :=
  ⟨h.1, h.2.imp id fun ⟨g, cap, cur, h1, h2, r⟩ => ⟨g, cap, cur, h1, Nat.le_trans hb h2, r⟩⟩
theorem Two.below {B : Nat} {w w' : World} {gx n capx : Nat} {x : List Nat} {gc m capc : Nat} {c : List Nat} (h : Two B w gx n capx x gc m capc c) (hb : Below w.heap.size w w') : Two B w' gx n capx x gc m capc c :=
  ⟨own_below h.1 hb (Nat.le_refl _), own_below h.2.1 hb (Nat.le_refl _), h.2.2⟩
theorem Two.bytes {B : Nat} {w : World} {gx n capx : Nat} {x : List Nat} {gc m capc : Nat} {c : List Nat} (h : Two B w gx n capx x gc m capc c) (hx : ∀ v ∈ x, v < 256) (hc : ∀ v ∈ c, v < 256) : Bytes w (some ⟨gx, 0, none⟩) n x ∧ Bytes w (some ⟨gc, 0, none⟩) m c := ⟨bytes_of_own h.1 hx, bytes_of_own h.2.1 hc⟩

end Go.Proofs.YtogpdmpefdafnaaDoor
