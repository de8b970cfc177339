/- page: bits turned in laid pages (plain). -/
import Derived.Test.YtogpdmpefdafnaaDoorPageI
namespace Go.Proofs.YtogpdmpefdafnaaDoor
open Go Go.RowKit
set_option linter.unusedVariables false

theorem part_set (l : List Nat) (p v i n : Nat) : ((l.set p v).drop i).take n = if i ≤ p then ((l.drop i).take n).set (p - i) v else (l.drop i).take n := by
  apply List.ext_getElem?
  intro t
  by_cases hi : i ≤ p
  · rw [if_pos hi]
    by_cases ht : t < n
    · rw [List.getElem?_take_of_lt ht, List.getElem?_drop, List.getElem?_set, List.getElem?_set, List.getElem?_take_of_lt ht, List.getElem?_drop, List.length_take, List.length_drop]
      by_cases hp : p = i + t
      · subst hp
        by_cases hl : i + t < l.length
        · simp [hl, ht]; omega
        · simp [hl]
          omega
      · rw [if_neg hp, if_neg (by omega)]
    · rw [List.getElem?_eq_none (by simp; omega), List.getElem?_eq_none (by simp; omega)]
  · rw [if_neg hi]
    by_cases ht : t < n
    · rw [List.getElem?_take_of_lt ht, List.getElem?_drop, List.getElem?_set, List.getElem?_take_of_lt ht, List.getElem?_drop, if_neg (by omega)]
    · rw [List.getElem?_eq_none (by simp; omega), List.getElem?_eq_none (by simp; omega)]

/-- The turns of chunk j's words. -/
def zsJ (zs : List Int) (j : Nat) : List Int := (zs.drop (9 * j)).take 8
theorem zsJ_turn (zs : List Int) (j t : Nat) (ht : t < 8) : turnOf (zsJ zs j) t = turnOf zs (9 * j + t) := by
  unfold turnOf zsJ
  have hl : t < ((zs.drop (9 * j)).take 8).length ↔ 9 * j + t < zs.length := by simp; omega
  by_cases h : 9 * j + t < zs.length
  · have e : ((zs.drop (9 * j)).take 8).getD t 0 = zs.getD (9 * j + t) 0 := by
      simp [List.getD, List.getElem?_take_of_lt ht]
    rw [e]
    simp only [hl]
  · rw [if_neg (by rw [hl]; omega), if_neg (by omega)]

/-- A page of which the words (and marks) ahead of w are turned. -/
def RawAt (P : List Nat) (c : Nat) (zs : List Int) (w : Nat) (raw : List Nat) : Prop :=
  raw.length = 73 * c ∧ (∀ v ∈ raw, v < 256) ∧ ∀ j, j < c → TurnedTo (chunkAt P j) (zsJ zs j) 8 (min 8 (w - 9 * j)) (rawData raw j) (rawChecks raw j) ∧ ((raw.getD (73 * j + 72) 0 = 0) ∨ (9 * j + 8 < w ∧ ∃ t, t < 8 ∧ raw.getD (73 * j + 72) 0 = 2 ^ t))

/-- How many words are turned. -/
def cntW (zs : List Int) : Nat → Nat
  | 0 => 0
  | w + 1 => cntW zs w + (if w % 9 ≠ 8 ∧ (turnOf zs w).isSome then 1 else 0)

theorem rawAt_start {P : List Nat} (h : ∀ v ∈ P, v < 256) (c : Nat) (hP : P.length = 64 * c) (zs : List Int) : RawAt P c zs 0 (layTo P c) := by
  refine ⟨layTo_len P c (by omega), layTo_lt h c, fun j hj => ?_⟩
  obtain ⟨a, b, d⟩ := raw_parts P c j (by omega) hj
  rw [a, b]
  refine ⟨?_, .inl d⟩
  rw [show min 8 (0 - 9 * j) = 0 by omega]
  exact turned_zero (chunk_lt h j) (zsJ zs j) 8 (chunk_len P j (by omega))

theorem pops_pow : ∀ t, t < 8 → Ecc.pops (2 ^ t) = 1 := by decide
theorem rawAt_marks {P : List Nat} {c : Nat} {zs : List Int} {w : Nat} {raw : List Nat} (h : RawAt P c zs w raw) : ∀ k, k ≤ c → marksTo raw k = k
  | 0, _ => rfl
  | k + 1, hk => by
    have hm : markB (raw.getD (73 * k + 72) 0) = true := by
      rcases (h.2.2 k (by omega)).2 with q | ⟨_, t, ht, q⟩
      · rw [q]; decide
      · rw [q]; unfold markB; rw [pops_pow t ht]; decide
    rw [marksTo, rawAt_marks h k (by omega), hm]
    rfl
theorem rawAt_state {P : List Nat} {c : Nat} {zs : List Int} {w : Nat} {raw : List Nat} (h : RawAt P c zs w raw) (h1 : 1 ≤ c) (h8 : c ≤ 8) : stateP raw = 2 := by
  have hl := h.1
  have hd : raw.length / 73 = c := by omega
  unfold stateP rightP
  rw [hd, rawAt_marks h c (Nat.le_refl _), hl]
  rw [if_pos (by simp only [Bool.and_eq_true, decide_eq_true_eq]; omega), if_neg (by omega), if_pos rfl]

theorem getD_set_ne {l : List Nat} {p v t : Nat} (h : t ≠ p) : (l.set p v).getD t 0 = l.getD t 0 := by rw [getD_set, if_neg (by omega)]
theorem set_len_noop {l : List Nat} {p v : Nat} (h : l.length ≤ p) : l.set p v = l := by
  apply List.ext_getElem?
  intro t
  rw [List.getElem?_set]
  by_cases hp : p = t
  · subst hp; rw [if_pos rfl, List.getElem?_eq_none h]; simp; omega
  · rw [if_neg hp]
theorem raw_get (raw : List Nat) (i n t : Nat) (ht : t < n) : ((raw.drop i).take n).getD t 0 = raw.getD (i + t) 0 := by simp [List.getD, List.getElem?_take_of_lt ht]

/-- The bit of a word or its check, in the raw page. -/
def turnRaw (raw : List Nat) (j t k : Nat) : List Nat :=
  if k < 64 then raw.set (73 * j + 8 * t + k / 8) (raw.getD (73 * j + 8 * t + k / 8) 0 ^^^ 2 ^ (k % 8)) else raw.set (73 * j + 64 + t) (raw.getD (73 * j + 64 + t) 0 ^^^ 2 ^ (k - 64))
theorem turnRaw_len (raw : List Nat) (j t k : Nat) : (turnRaw raw j t k).length = raw.length := by unfold turnRaw; split <;> simp
theorem turnRaw_lt {raw : List Nat} (h : ∀ v ∈ raw, v < 256) (j t k : Nat) (hk : k < 72) : ∀ v ∈ turnRaw raw j t k, v < 256 := by
  unfold turnRaw
  split
  · exact set_lt h _ _ (bit_lt (getD_byte h _) (by omega))
  · exact set_lt h _ _ (bit_lt (getD_byte h _) (by omega))
theorem turnRaw_own {raw : List Nat} (j t k : Nat) (ht : t < 8) (hk : k < 72) : rawData (turnRaw raw j t k) j = flipX (rawData raw j) t k ∧ rawChecks (turnRaw raw j t k) j = flipC (rawChecks raw j) t k ∧ (turnRaw raw j t k).getD (73 * j + 72) 0 = raw.getD (73 * j + 72) 0 := by
  unfold turnRaw flipX flipC rawData rawChecks
  by_cases h6 : k < 64
  · simp only [h6, if_true]
    refine ⟨?_, ?_, getD_set_ne (by omega)⟩
    · rw [part_set, if_pos (by omega), raw_get _ _ _ _ (by omega)]
      rw [show 73 * j + 8 * t + k / 8 - 73 * j = 8 * t + k / 8 by omega, show 73 * j + (8 * t + k / 8) = 73 * j + 8 * t + k / 8 by omega]
    · rw [part_set, if_neg (by omega)]
  · simp only [h6, if_false]
    refine ⟨?_, ?_, getD_set_ne (by omega)⟩
    · rw [part_set, if_pos (by omega)]
      exact set_len_noop (by simp; omega)
    · rw [part_set, if_pos (by omega), raw_get _ _ _ _ (by omega)]
      rw [show 73 * j + 64 + t - (73 * j + 64) = t by omega]
theorem turnRaw_far {raw : List Nat} (j i t k : Nat) (ht : t < 8) (hk : k < 72) (hij : i ≠ j) : rawData (turnRaw raw j t k) i = rawData raw i ∧ rawChecks (turnRaw raw j t k) i = rawChecks raw i ∧ (turnRaw raw j t k).getD (73 * i + 72) 0 = raw.getD (73 * i + 72) 0 := by
  have far : ∀ p v, 73 * j ≤ p → p < 73 * j + 72 → rawData (raw.set p v) i = rawData raw i ∧ rawChecks (raw.set p v) i = rawChecks raw i ∧ (raw.set p v).getD (73 * i + 72) 0 = raw.getD (73 * i + 72) 0 := by
    intro p v h1 h2
    unfold rawData rawChecks
    refine ⟨?_, ?_, getD_set_ne (by omega)⟩
    · rw [part_set]
      split
      · exact set_len_noop (by simp; omega)
      · rfl
    · rw [part_set]
      split
      · exact set_len_noop (by simp; omega)
      · rfl
  unfold turnRaw
  split
  · exact far _ _ (by omega) (by omega)
  · exact far _ _ (by omega) (by omega)

/-- A word that is turned. -/
theorem rawAt_word {P : List Nat} {c : Nat} {zs : List Int} {j t k : Nat} {raw : List Nat} (h : RawAt P c zs (9 * j + t) raw) (hj : j < c) (ht : t < 8) (hk : turnOf zs (9 * j + t) = some k) : RawAt P c zs (9 * j + t + 1) (turnRaw raw j t k) := by
  obtain ⟨h1, h2, h3⟩ := h
  have hk72 := turnOf_lt hk
  refine ⟨by rw [turnRaw_len, h1], turnRaw_lt h2 j t k hk72, fun i hi => ?_⟩
  by_cases hij : i = j
  · subst hij
    obtain ⟨a, b, d⟩ := turnRaw_own (raw := raw) i t k ht hk72
    rw [a, b, d]
    obtain ⟨q1, q2⟩ := h3 i hi
    rw [show min 8 (9 * i + t - 9 * i) = t by omega] at q1
    rw [show min 8 (9 * i + t + 1 - 9 * i) = t + 1 by omega]
    refine ⟨turned_step q1 ht (by rw [zsJ_turn zs i t ht]; exact hk), ?_⟩
    rcases q2 with q | ⟨q, _⟩
    · exact .inl q
    · omega
  · obtain ⟨a, b, d⟩ := turnRaw_far (raw := raw) j i t k ht hk72 hij
    rw [a, b, d]
    obtain ⟨q1, q2⟩ := h3 i hi
    have e : min 8 (9 * j + t + 1 - 9 * i) = min 8 (9 * j + t - 9 * i) := by omega
    rw [e]
    refine ⟨q1, ?_⟩
    rcases q2 with q | ⟨q, q3⟩
    · exact .inl q
    · exact .inr ⟨by omega, q3⟩
/-- A word that is not. -/
theorem rawAt_skip {P : List Nat} {c : Nat} {zs : List Int} {w : Nat} {raw : List Nat} (h : RawAt P c zs w raw) (hk : w % 9 = 8 ∨ turnOf zs w = none) : RawAt P c zs (w + 1) raw := by
  obtain ⟨h1, h2, h3⟩ := h
  refine ⟨h1, h2, fun i hi => ?_⟩
  obtain ⟨q1, q2⟩ := h3 i hi
  refine ⟨?_, ?_⟩
  · by_cases hw : 9 * i ≤ w ∧ w < 9 * i + 8
    · obtain ⟨hw1, hw2⟩ := hw
      rw [show min 8 (w - 9 * i) = w - 9 * i by omega] at q1
      rw [show min 8 (w + 1 - 9 * i) = w - 9 * i + 1 by omega]
      refine turned_skip q1 ?_
      rw [zsJ_turn zs i (w - 9 * i) (by omega), show 9 * i + (w - 9 * i) = w by omega]
      rcases hk with hk | hk
      · omega
      · exact hk
    · rw [show min 8 (w + 1 - 9 * i) = min 8 (w - 9 * i) by omega]
      exact q1
  · rcases q2 with q | ⟨q, q3⟩
    · exact .inl q
    · exact .inr ⟨by omega, q3⟩
/-- A mark that is turned. -/
theorem rawAt_mark {P : List Nat} {c : Nat} {zs : List Int} {j t : Nat} {raw : List Nat} (h : RawAt P c zs (9 * j + 8) raw) (hj : j < c) (ht : t < 8) : RawAt P c zs (9 * j + 9) (raw.set (73 * j + 72) (raw.getD (73 * j + 72) 0 ^^^ 2 ^ t)) := by
  have h' := rawAt_skip h (.inl (by omega))
  obtain ⟨h1, h2, h3⟩ := h'
  refine ⟨by simpa using h1, set_lt h2 _ _ (bit_lt (getD_byte h2 _) ht), fun i hi => ?_⟩
  obtain ⟨q1, q2⟩ := h3 i hi
  have e1 : rawData (raw.set (73 * j + 72) (raw.getD (73 * j + 72) 0 ^^^ 2 ^ t)) i = rawData raw i := by
    unfold rawData
    rw [part_set]
    split
    · exact set_len_noop (by simp; omega)
    · rfl
  have e2 : rawChecks (raw.set (73 * j + 72) (raw.getD (73 * j + 72) 0 ^^^ 2 ^ t)) i = rawChecks raw i := by
    unfold rawChecks
    rw [part_set]
    split
    · exact set_len_noop (by simp; omega)
    · rfl
  rw [e1, e2]
  refine ⟨q1, ?_⟩
  by_cases hij : i = j
  · subst hij
    have h0 : raw.getD (73 * i + 72) 0 = 0 := by
      rcases (h.2.2 i hi).2 with q | ⟨q, _⟩
      · exact q
      · omega
    rw [getD_set, if_pos ⟨rfl, by omega⟩, h0, Nat.zero_xor]
    exact .inr ⟨by omega, t, ht, rfl⟩
  · rw [getD_set_ne (by omega)]
    exact q2

/-- A page whose turns are all done is read. -/
theorem cntW_chunk (zs : List Int) (j : Nat) : ∀ t, t ≤ 8 → cntW zs (9 * j + t) = cntW zs (9 * j) + countTo (zsJ zs j) t
  | 0, _ => rfl
  | t + 1, ht => by
    rw [← Nat.add_assoc, cntW, cntW_chunk zs j t (by omega), countTo, zsJ_turn zs j t (by omega), Nat.add_assoc]
    congr 2
    by_cases h : (turnOf zs (9 * j + t)).isSome
    · rw [if_pos ⟨by omega, h⟩, if_pos h]
    · rw [if_neg (by intro q; exact h q.2), if_neg h]
theorem cntW_nine (zs : List Int) (j : Nat) : cntW zs (9 * (j + 1)) = cntW zs (9 * j) + countTo (zsJ zs j) 8 := by
  rw [show 9 * (j + 1) = 9 * j + 8 + 1 by omega, cntW, cntW_chunk zs j 8 (Nat.le_refl _), if_neg (by omega), Nat.add_zero]
theorem rawAt_read {P : List Nat} (hP8 : ∀ v ∈ P, v < 256) {c : Nat} (hP : P.length = 64 * c) {zs : List Int} {w : Nat} {raw : List Nat} (h : RawAt P c zs w raw) (hw : 9 * c ≤ w) : ∀ k, k ≤ c → readTo raw k = some (P.take (64 * k), cntW zs (9 * k))
  | 0, _ => by simp [readTo, cntW]
  | k + 1, hk => by
    have q1 := (h.2.2 k (by omega)).1
    rw [show min 8 (w - 9 * k) = 8 by omega] at q1
    rw [readTo, rawAt_read hP8 hP h hw k (by omega), mendAll_at (chunk_lt hP8 k) (zsJ zs k) (chunk_len P k (by omega)) q1, take_chunk, cntW_nine]
    rfl
/-- Past the last turn nothing is turned. -/
theorem rawAt_past {P : List Nat} {c : Nat} {zs : List Int} {raw : List Nat} : ∀ (d w : Nat), zs.length ≤ w → RawAt P c zs w raw → RawAt P c zs (w + d) raw ∧ cntW zs (w + d) = cntW zs w
  | 0, w, _, h => ⟨h, rfl⟩
  | d + 1, w, hz, h => by
    obtain ⟨a, b⟩ := rawAt_past d (w + 1) (by omega) (rawAt_skip h (.inr (turnOf_past hz)))
    rw [show w + (d + 1) = w + 1 + d by omega]
    refine ⟨a, ?_⟩
    rw [b, cntW, turnOf_past hz]
    simp

end Go.Proofs.YtogpdmpefdafnaaDoor
