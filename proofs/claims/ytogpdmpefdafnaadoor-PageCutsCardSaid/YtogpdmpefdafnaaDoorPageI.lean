/- page: what was laid is read (plain). -/
import Derived.Test.YtogpdmpefdafnaaDoorPageH
namespace Go.Proofs.YtogpdmpefdafnaaDoor
open Go Go.RowKit
set_option linter.unusedVariables false

theorem part_left (A B : List Nat) (i n : Nat) (h : i + n ≤ A.length) : ((A ++ B).drop i).take n = (A.drop i).take n := by
  rw [List.drop_append_of_le_length (by omega), List.take_append_of_le_length (by rw [List.length_drop]; omega)]
theorem part_right (A B : List Nat) (i n : Nat) : ((A ++ B).drop (A.length + i)).take n = (B.drop i).take n := by
  rw [← List.drop_drop, List.drop_left]
theorem getD_left (A B : List Nat) (i : Nat) (h : i < A.length) : (A ++ B).getD i 0 = A.getD i 0 := by simp [List.getD, List.getElem?_append_left h]
theorem getD_right (A B : List Nat) (i : Nat) : (A ++ B).getD (A.length + i) 0 = B.getD i 0 := by
  simp only [List.getD]
  rw [List.getElem?_append_right (by omega), show A.length + i - A.length = i by omega]

theorem chunk_parts (P : List Nat) (k : Nat) (h : 64 * k + 64 ≤ P.length) : ((layChunk P k).drop 0).take 64 = chunkAt P k ∧ ((layChunk P k).drop 64).take 8 = wordsOf (chunkAt P k) ∧ (layChunk P k).getD 72 0 = 0 := by
  have h1 := chunk_len P k h
  have h2 : (wordsOf (chunkAt P k)).length = 8 := by unfold wordsOf; rw [wordsTo_len, h1]
  unfold layChunk
  refine ⟨?_, ?_, ?_⟩
  · rw [List.drop_zero, List.append_assoc, List.take_append_of_le_length (by omega), List.take_of_length_le (by omega)]
  · rw [List.append_assoc, show 64 = (chunkAt P k).length + 0 by omega, part_right, List.drop_zero, List.take_append_of_le_length (by omega), List.take_of_length_le (by omega)]
  · rw [show 72 = (chunkAt P k ++ wordsOf (chunkAt P k)).length + 0 by rw [List.length_append]; omega, getD_right]
    rfl
theorem raw_parts (P : List Nat) : ∀ (c k : Nat), 64 * c ≤ P.length → k < c → rawData (layTo P c) k = chunkAt P k ∧ rawChecks (layTo P c) k = wordsOf (chunkAt P k) ∧ (layTo P c).getD (73 * k + 72) 0 = 0
  | c + 1, k, h, hk => by
    have hl := layTo_len P c (by omega)
    rw [layTo]
    unfold rawData rawChecks
    by_cases h1 : k < c
    · obtain ⟨a, b, d⟩ := raw_parts P c k (by omega) h1
      unfold rawData at a
      unfold rawChecks at b
      rw [part_left _ _ _ _ (by omega), part_left _ _ _ _ (by omega), getD_left _ _ _ (by omega)]
      exact ⟨a, b, d⟩
    · obtain rfl : k = c := by omega
      obtain ⟨a, b, d⟩ := chunk_parts P k (by omega)
      rw [show 73 * k = (layTo P k).length + 0 by omega, part_right, show (layTo P k).length + 0 + 64 = (layTo P k).length + 64 by omega, part_right, show (layTo P k).length + 0 + 72 = (layTo P k).length + 72 by omega, getD_right]
      exact ⟨a, b, d⟩

theorem mend_own {l : List Nat} (h : ∀ c ∈ l, c < 256) (M : Nat) (hl : l.length = 8 * M) : mendAllS l (wordsOf l) = some (l, 0) := by
  obtain ⟨a, b⟩ := turned_past (zs := []) M 0 (by simp) (turned_zero h [] M hl)
  rw [Nat.zero_add] at a b
  have := mendAll_at h [] hl a
  rw [this, b]
  rfl
theorem take_chunk (P : List Nat) (k : Nat) : P.take (64 * (k + 1)) = P.take (64 * k) ++ chunkAt P k := by
  rw [show 64 * (k + 1) = 64 * k + 64 by omega, List.take_add]
  rfl
theorem read_laid {P : List Nat} (h : ∀ c ∈ P, c < 256) (c : Nat) (hP : 64 * c ≤ P.length) : ∀ k, k ≤ c → readTo (layTo P c) k = some (P.take (64 * k), 0)
  | 0, _ => by simp [readTo]
  | k + 1, hk => by
    obtain ⟨a, b, _⟩ := raw_parts P c k hP (by omega)
    rw [readTo, read_laid h c hP k (by omega), a, b, mend_own (chunk_lt h k) 8 (chunk_len P k (by omega)), take_chunk]
    rfl
theorem marks_laid {P : List Nat} (c : Nat) (hP : 64 * c ≤ P.length) : ∀ k, k ≤ c → marksTo (layTo P c) k = k
  | 0, _ => rfl
  | k + 1, hk => by
    obtain ⟨_, _, d⟩ := raw_parts P c k hP (by omega)
    rw [marksTo, marks_laid c hP k (by omega), d, if_pos (by decide)]
theorem state_laid {P : List Nat} (c : Nat) (hP : 64 * c ≤ P.length) (h1 : 1 ≤ c) (h8 : c ≤ 8) : stateP (layTo P c) = 2 := by
  have hl := layTo_len P c hP
  have hd : (layTo P c).length / 73 = c := by omega
  unfold stateP rightP
  rw [hd, marks_laid c hP c (Nat.le_refl _), hl]
  rw [if_pos (by simp only [Bool.and_eq_true, decide_eq_true_eq]; omega), if_neg (by omega), if_pos rfl]
theorem page_read {P : List Nat} (h : ∀ c ∈ P, c < 256) (c : Nat) (hP : P.length = 64 * c) (h1 : 1 ≤ c) (h8 : c ≤ 8) (B : Nat) (hB : B ≤ 64 * c) : readL5 (layTo P c) B = P.take B ∧ readN5 (layTo P c) B = 0 ∧ readS5 (layTo P c) B = 2 := by
  have hl := layTo_len P c (by omega)
  have hd : (layTo P c).length / 73 = c := by omega
  have hs := state_laid (P := P) c (by omega) h1 h8
  have hok : readOk (layTo P c) B = some (P, 0) := by
    unfold readOk
    rw [if_pos hs, hd, if_pos (by omega), read_laid h c (by omega) c (Nat.le_refl _), List.take_of_length_le (by omega)]
  unfold readL5 readN5 readS5
  rw [hok, if_pos hs]
  exact ⟨rfl, rfl, rfl⟩
theorem pad_again (l : List Nat) (N B : Nat) (h : l.length ≤ B) (hB : B ≤ N) : padTo ((padTo l N).take B) N = padTo l N := by
  unfold padTo
  rw [List.take_append, List.take_of_length_le h, List.take_replicate, show min (B - l.length) (N - l.length) = B - l.length by omega, List.append_assoc]
  congr 1
  rw [List.length_append, List.length_replicate, List.replicate_append_replicate]
  congr 1
  omega
theorem pad_get (l : List Nat) (N B i : Nat) (hi : i < B) (hB : B ≤ N) : ((padTo l N).take B).getD i 0 = if i < l.length then l.getD i 0 else 0 := by
  unfold padTo
  by_cases h : i < l.length
  · rw [if_pos h]
    simp [List.getD, List.getElem?_take_of_lt hi, List.getElem?_append_left h]
  · rw [if_neg h]
    simp only [List.getD, List.getElem?_take_of_lt hi, List.getElem?_append_right (Nat.le_of_not_lt h)]
    rw [List.getElem?_replicate]
    split <;> rfl

end Go.Proofs.YtogpdmpefdafnaaDoor
