/- ecc: the reference's Column, Check, Mend; EccWords. -/
import Derived.Test.YtogpdmpefdafnaaDoorEccR
namespace Go.Proofs.YtogpdmpefdafnaaDoor
open Go.RowKit
set_option linter.unusedVariables false

def cnt (want c : Nat) : Nat := (gat want c).length
theorem cnt_succ (want c : Nat) : cnt want (c + 1) = cnt want c + if Ecc.pops c = want then 1 else 0 := by
  unfold cnt; rw [gat_succ, List.length_append]; split <;> rfl
theorem cnt3_at : ∀ c, c < 256 → Ecc.pops c = 3 → Ecc.col (cnt 3 c) = c := by decide +kernel
theorem cnt5_at : ∀ c, c < 256 → Ecc.pops c = 5 → 56 + cnt 5 c < 64 → Ecc.col (56 + cnt 5 c) = c := by decide +kernel
theorem cnt_end : cnt 3 256 = 56 ∧ cnt 5 256 = 56 := by decide +kernel
theorem cnt_le (want : Nat) (c : Nat) : cnt want c ≤ c := by unfold cnt gat; have := List.length_filter_le (fun x => decide (Ecc.pops x = want)) (List.range c); simpa using this

theorem ColsAt.cols {B : Nat} {w : World} {v : Value} (h : ColsAt B w v) : ∃ a cap, v = .slice a 64 cap ∧ Cols w a cap := by
  obtain ⟨g, cap, rfl, _, hg, hc⟩ := h
  exact ⟨_, cap, rfl, ⟨g, rfl, hg, hc⟩⟩

theorem Deb.below {w w' : World} (h : Deb w) {B : Nat} (hb : Below B w w') (hB : w.heap.size ≤ B) : Deb w' := by
  have hlt : 0 < w.heap.size := by
    have h0 := h 0 (by omega)
    unfold World.cell? at h0
    by_cases hl : 0 < w.heap.size
    · exact hl
    · rw [Array.getElem?_eq_none (by simpa using hl)] at h0
      simp at h0
  intro j hj
  exact (hb.cell (p := ⟨0, j, none⟩) (Nat.lt_of_lt_of_le hlt hB)).trans (h j hj)

end Go.Proofs.YtogpdmpefdafnaaDoor
