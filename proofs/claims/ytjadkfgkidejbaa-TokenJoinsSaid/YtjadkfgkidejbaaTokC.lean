/- token: TokenFronts. -/
import Derived.Test.YtjadkfgkidejbaaTokB
namespace Go.Proofs.Ytjadkfgkidejbaa
open Go.RowKit
set_option linter.unusedVariables false

theorem read_cut (l : List Nat) (h : l.length ≤ 4096) (c : Nat) (hc : c < l.length + 3) : readErr ((layL l).take c) l.length = 23 := by
  unfold readErr
  have hl : ((layL l).take c).length = c := by simp [layL_len]; omega
  by_cases h0 : c = 0
  · rw [if_pos (by rw [hl]; exact h0)]
  · have e0 : ((layL l).take c).getD 0 0 = 254 := by
      obtain ⟨k, rfl⟩ : ∃ k, c = k + 1 := ⟨c - 1, by omega⟩
      simp [layL]
    rw [if_neg (by rw [hl]; exact h0), if_neg (by rw [e0]; omega), if_pos (by rw [hl]; omega)]

theorem read_more (l m : List Nat) (h : l.length ≤ 4096) : readErr (layL l ++ m) l.length = 0 ∧ readN (layL l ++ m) l.length = (l.length : Int) + 3 ∧ readL (layL l ++ m) l.length = l := by
  have hll := layL_len l
  have p1 : ((layL l ++ m).drop 1).take l.length = l := by simp [layL, List.take_append]
  have g : ∀ i, i < l.length + 3 → (layL l ++ m).getD i 0 = (layL l).getD i 0 := by
    intro i hi
    rw [List.getD, List.getElem?_append_left (by omega), List.getD]
  obtain ⟨_, p2, p3, p4⟩ := layL_parts l
  have e : readErr (layL l ++ m) l.length = 0 := by
    unfold readErr
    rw [if_neg (by rw [List.length_append]; omega), if_neg (by rw [g 0 (by omega), p2]; omega), if_neg (by rw [List.length_append]; omega), Int.toNat_natCast, p1, g _ (by omega), p3, g _ (by omega), p4, if_pos (join_bytes _).symm]
  refine ⟨e, ?_, ?_⟩
  · unfold readN; rw [if_pos e]
  · unfold readL; rw [if_pos e, Int.toNat_natCast, p1]

theorem read_first (l : List Nat) (h : l.length ≤ 4096) (f : Nat) : readErr ((layL l).set 0 f) l.length = if f = 254 then 0 else 24 := by
  by_cases hf : f = 254
  · have e : (layL l).set 0 f = layL l := by rw [hf]; rfl
    rw [e, if_pos hf, (read_lay l h).1]
  · rw [if_neg hf]
    unfold readErr
    have hl : ((layL l).set 0 f).length = l.length + 3 := by rw [List.length_set, layL_len]
    have e0 : ((layL l).set 0 f).getD 0 0 = f := rfl
    rw [if_neg (by omega), if_pos (by rw [e0]; exact .inl hf)]

end Go.Proofs.Ytjadkfgkidejbaa
