/- ecc: the reference's word and Words. -/
import Derived.Test.YtogpdmpefdafnaaDoorEccX
namespace Go.Proofs.YtogpdmpefdafnaaDoor
open Go Go.RowKit
set_option linter.unusedVariables false

theorem or_low (x c : Nat) (hx : x < 72057594037927936) (hc : c < 256) : bits .or .u64 ((x * 256 : Nat) : Int) (c : Int) = ((x * 256 + c : Nat) : Int) := by
  rw [u64_or_nat _ _ (by omega) (by omega)]
  have h := Nat.shiftLeft_add_eq_or_of_lt (i := 8) (b := c) (by omega) x
  rw [Nat.shiftLeft_eq] at h
  rw [show x * 256 = x * 2 ^ 8 by rfl, ← h]

theorem Cols.below {w w' : World} {a : Option Addr} {cap : Nat} (h : Cols w a cap) {B : Nat} (hb : Below B w w') (hB : w.heap.size ≤ B) : Cols w' a cap := by
  obtain ⟨g, rfl, hg, hc⟩ := h
  refine ⟨g, rfl, by have := hb.size; omega, fun i hi => ?_⟩
  rw [← hc i hi]
  exact hb.cell (p := ⟨g, i, none⟩) (Nat.lt_of_lt_of_le hg hB)

theorem FreshB.mono {B B' : Nat} {w : World} {v : Value} {l : List Nat} (h : FreshB B w v l) (hB : B' ≤ B) : FreshB B' w v l := by
  obtain ⟨a, cap, h1, h2, h3, h4, h5, h6⟩ := h
  exact ⟨a, cap, h1, h2, h3, h4, h5, fun h0 ad e => Nat.le_trans hB (h6 h0 ad e)⟩

end Go.Proofs.YtogpdmpefdafnaaDoor
