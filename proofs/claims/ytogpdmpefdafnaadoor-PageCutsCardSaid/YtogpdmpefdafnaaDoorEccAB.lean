/- ecc: bits turned in rows, plain. -/
import Derived.Test.YtogpdmpefdafnaaDoorEccT
namespace Go.Proofs.YtogpdmpefdafnaaDoor
open Go.RowKit
set_option linter.unusedVariables false

theorem le_congr {l r : List Nat} : ∀ n, (∀ t, t < n → l.getD t 0 = r.getD t 0) → le l n = le r n
  | 0, _ => rfl
  | n + 1, h => by rw [le, le, le_congr n (fun t ht => h t (by omega)), h n (by omega)]

theorem testBit_byte (x m : Nat) : x.testBit m = (byteN x (m / 8)).testBit (m % 8) := by
  unfold byteN
  rw [show (256 : Nat) ^ (m / 8) = 2 ^ (8 * (m / 8)) by rw [show (256 : Nat) = 2 ^ 8 by rfl, ← Nat.pow_mul], show (256 : Nat) = 2 ^ 8 by rfl, Nat.testBit_mod_two_pow, Nat.testBit_div_two_pow]
  rw [decide_eq_true (show m % 8 < 8 by omega), Bool.true_and, show m % 8 + 8 * (m / 8) = m by omega]

theorem le_test {l : List Nat} (h : ∀ c ∈ l, c < 256) (n m : Nat) : (le l n).testBit m = if m < 8 * n then (l.getD (m / 8) 0).testBit (m % 8) else false := by
  split
  · rename_i hm
    rw [testBit_byte, byteN_le h n (m / 8) (by omega)]
  · rename_i hm
    refine Nat.testBit_lt_two_pow (Nat.lt_of_lt_of_le (le_lt h n) ?_)
    rw [show (256 : Nat) = 2 ^ 8 by rfl, ← Nat.pow_mul]
    exact Nat.pow_le_pow_right (by omega) (by omega)

theorem le_xor {l r : List Nat} (hl : ∀ c ∈ l, c < 256) (hr : ∀ c ∈ r, c < 256) (n q j : Nat) (hq : q < n) (hj : j < 8) (h : ∀ t, t < n → r.getD t 0 = if t = q then l.getD t 0 ^^^ 2 ^ j else l.getD t 0) : le r n = le l n ^^^ 2 ^ (8 * q + j) := by
  apply Nat.eq_of_testBit_eq
  intro m
  rw [Nat.testBit_xor, le_test hl, le_test hr, Nat.testBit_two_pow]
  by_cases hm : m < 8 * n
  · rw [if_pos hm, if_pos hm, h (m / 8) (by omega)]
    by_cases hq2 : m / 8 = q
    · rw [if_pos hq2, Nat.testBit_xor, Nat.testBit_two_pow]
      have : decide (j = m % 8) = decide (8 * q + j = m) := by
        rw [Bool.eq_iff_iff, decide_eq_true_eq, decide_eq_true_eq]; omega
      rw [this]
    · rw [if_neg hq2]
      have : decide (8 * q + j = m) = false := by rw [decide_eq_false_iff_not]; omega
      rw [this, Bool.xor_false]
  · rw [if_neg hm, if_neg hm]
    have : decide (8 * q + j = m) = false := by rw [decide_eq_false_iff_not]; omega
    rw [this]
    rfl

theorem getD_set (l : List Nat) (p v t : Nat) : (l.set p v).getD t 0 = if t = p ∧ p < l.length then v else l.getD t 0 := by
  simp only [List.getD, List.getElem?_set]
  by_cases h : p = t
  · subst h
    by_cases h2 : p < l.length
    · simp [h2]
    · simp [h2, List.getElem?_eq_none (Nat.le_of_not_lt h2)]
  · simp [h, Ne.symm h]
theorem set_lt {l : List Nat} (h : ∀ c ∈ l, c < 256) (p v : Nat) (hv : v < 256) : ∀ c ∈ l.set p v, c < 256 := by
  intro c hc
  rcases List.mem_or_eq_of_mem_set hc with q | q
  · exact h c q
  · omega
theorem getD_byte {l : List Nat} (h : ∀ c ∈ l, c < 256) (p : Nat) : l.getD p 0 < 256 := by
  rcases Nat.lt_or_ge p l.length with q | q
  · have : l.getD p 0 ∈ l := by simp [List.getD, q]
    exact h _ this
  · simp [List.getD, List.getElem?_eq_none q]
theorem drop_getD (l : List Nat) (k t : Nat) : (l.drop k).getD t 0 = l.getD (k + t) 0 := by simp [List.getD]

/-- A bit of word i is turned. -/
def flipX (l : List Nat) (i k : Nat) : List Nat := if k < 64 then l.set (8 * i + k / 8) (l.getD (8 * i + k / 8) 0 ^^^ 2 ^ (k % 8)) else l
def flipC (c : List Nat) (i k : Nat) : List Nat := if k < 64 then c else c.set i (c.getD i 0 ^^^ 2 ^ (k - 64))
theorem bit_lt {v j : Nat} (hv : v < 256) (hj : j < 8) : v ^^^ 2 ^ j < 256 := Nat.xor_lt_two_pow (n := 8) hv (Nat.pow_lt_pow_right (by omega) hj)
theorem flipX_lt {l : List Nat} (h : ∀ c ∈ l, c < 256) (i k : Nat) : ∀ c ∈ flipX l i k, c < 256 := by
  unfold flipX
  split
  · exact set_lt h _ _ (bit_lt (getD_byte h _) (by omega))
  · exact h
theorem flipC_lt {l : List Nat} (h : ∀ c ∈ l, c < 256) (i k : Nat) (hk : k < 72) : ∀ c ∈ flipC l i k, c < 256 := by
  unfold flipC
  split
  · exact h
  · exact set_lt h _ _ (bit_lt (getD_byte h _) (by omega))
theorem flipX_len (l : List Nat) (i k : Nat) : (flipX l i k).length = l.length := by unfold flipX; split <;> simp
theorem flipC_len (l : List Nat) (i k : Nat) : (flipC l i k).length = l.length := by unfold flipC; split <;> simp

theorem flip_word {l : List Nat} (h : ∀ c ∈ l, c < 256) (c : List Nat) (M i j k : Nat) (hl : l.length = 8 * M) (hc : c.length = M) (hi : i < M) (hj : j < M) (hk : k < 72) :
    (wordAt (flipX l i k) j, (flipC c i k).getD j 0) = if j = i then Ecc.turnW (wordAt l j) (c.getD j 0) k else (wordAt l j, c.getD j 0) := by
  by_cases h6 : k < 64
  · have e1 : flipC c i k = c := if_pos h6
    rw [e1]
    by_cases hji : j = i
    · subst hji
      rw [if_pos rfl]
      unfold Ecc.turnW
      rw [if_pos h6]
      refine Prod.ext ?_ rfl
      show le ((flipX l j k).drop (8 * j)) 8 = le (l.drop (8 * j)) 8 ^^^ 2 ^ k
      rw [le_xor (l := l.drop (8 * j)) (r := (flipX l j k).drop (8 * j)) (fun c hc => h c (List.mem_of_mem_drop hc)) (fun c hc => flipX_lt h _ _ c (List.mem_of_mem_drop hc)) 8 (k / 8) (k % 8) (by omega) (by omega) ?_]
      · rw [show 8 * (k / 8) + k % 8 = k by omega]
      · intro t ht
        rw [drop_getD, drop_getD]
        unfold flipX
        rw [if_pos h6, getD_set]
        by_cases hq : t = k / 8
        · subst hq
          rw [if_pos ⟨rfl, by omega⟩, if_pos rfl]
        · rw [if_neg (by omega), if_neg hq]
    · rw [if_neg hji]
      refine Prod.ext ?_ rfl
      refine le_congr 8 fun t ht => ?_
      rw [drop_getD, drop_getD]
      unfold flipX
      rw [if_pos h6, getD_set, if_neg (by omega)]
  · have e1 : flipX l i k = l := if_neg h6
    rw [e1]
    unfold flipC
    rw [if_neg h6, getD_set]
    by_cases hji : j = i
    · subst hji
      rw [if_pos ⟨rfl, by omega⟩, if_pos rfl]
      unfold Ecc.turnW
      rw [if_neg h6]
    · rw [if_neg (by omega), if_neg hji]

/-- Which word is turned at first, and how. -/
def turnOf (zs : List Int) (j : Nat) : Option Nat := if j < zs.length ∧ 0 ≤ zs.getD j 0 then some ((zs.getD j 0).toNat % 72) else none
theorem turnOf_lt {zs : List Int} {j k : Nat} (h : turnOf zs j = some k) : k < 72 := by
  unfold turnOf at h
  split at h
  · have := Option.some.inj h
    omega
  · cases h
/-- The words behind the first i turns: x and c hold l with its checks, some turned. -/
def TurnedTo (l : List Nat) (zs : List Int) (M i : Nat) (x c : List Nat) : Prop :=
  x.length = 8 * M ∧ c.length = M ∧ (∀ v ∈ x, v < 256) ∧ (∀ v ∈ c, v < 256) ∧
  ∀ j, j < M → (wordAt x j, c.getD j 0) = match turnOf zs j with
    | some k => if j < i then Ecc.turnW (wordAt l j) (Ecc.chk (wordAt l j)) k else (wordAt l j, Ecc.chk (wordAt l j))
    | none => (wordAt l j, Ecc.chk (wordAt l j))
def countTo (zs : List Int) : Nat → Nat
  | 0 => 0
  | i + 1 => countTo zs i + (if (turnOf zs i).isSome then 1 else 0)

theorem range_getD (f : Nat → Nat) (n j : Nat) (h : j < n) : ((List.range n).map f).getD j 0 = f j := by
  simp only [List.getD, List.getElem?_map, List.getElem?_range h, Option.map_some, Option.getD_some]
theorem wordsOf_at (l : List Nat) (j : Nat) (h : j < (l.length + 7) / 8) : (wordsOf l).getD j 0 = Ecc.chk (wordAt l j) :=
  range_getD (fun i => Ecc.chk (wordAt l i)) _ j h
theorem turned_zero {l : List Nat} (h : ∀ c ∈ l, c < 256) (zs : List Int) (M : Nat) (hl : l.length = 8 * M) : TurnedTo l zs M 0 l (wordsOf l) := by
  refine ⟨hl, ?_, h, wordsTo_lt l _, fun j hj => ?_⟩
  · unfold wordsOf; rw [wordsTo_len]; omega
  · rw [wordsOf_at l j (by omega)]
    cases turnOf zs j <;> rfl
theorem turned_skip {l : List Nat} {zs : List Int} {M i : Nat} {x c : List Nat} (h : TurnedTo l zs M i x c) (ht : turnOf zs i = none) : TurnedTo l zs M (i + 1) x c := by
  obtain ⟨h1, h2, h3, h4, h5⟩ := h
  refine ⟨h1, h2, h3, h4, fun j hj => ?_⟩
  rw [h5 j hj]
  cases e : turnOf zs j with
  | none => rfl
  | some k =>
    have : j ≠ i := by intro hh; subst hh; rw [e] at ht; cases ht
    simp only
    by_cases hji : j < i
    · rw [if_pos hji, if_pos (by omega)]
    · rw [if_neg hji, if_neg (by omega)]
theorem turned_step {l : List Nat} {zs : List Int} {M i k : Nat} {x c : List Nat} (h : TurnedTo l zs M i x c) (hi : i < M) (ht : turnOf zs i = some k) : TurnedTo l zs M (i + 1) (flipX x i k) (flipC c i k) := by
  obtain ⟨h1, h2, h3, h4, h5⟩ := h
  have hk := turnOf_lt ht
  refine ⟨by rw [flipX_len, h1], by rw [flipC_len, h2], flipX_lt h3 _ _, flipC_lt h4 _ _ hk, fun j hj => ?_⟩
  rw [flip_word h3 c M i j k h1 h2 hi hj hk]
  have h6 := h5 j hj
  have ha := congrArg Prod.fst h6
  have hb := congrArg Prod.snd h6
  by_cases hji : j = i
  · subst hji
    rw [if_pos rfl]
    rw [ht] at ha hb ⊢
    simp only [Nat.lt_irrefl, if_false] at ha hb
    simp only [Nat.lt_succ_self, if_true]
    rw [ha, hb]
  · rw [if_neg hji, h6]
    cases turnOf zs j with
    | none => rfl
    | some k =>
      simp only
      by_cases h7 : j < i
      · rw [if_pos h7, if_pos (by omega)]
      · rw [if_neg h7, if_neg (by omega)]

theorem pow8 : (256 : Nat) ^ 8 = 18446744073709551616 := by decide
theorem wordAt_bytes {l : List Nat} (h : ∀ c ∈ l, c < 256) (i : Nat) (hi : 8 * i + 8 ≤ l.length) : bytesN (wordAt l i) 8 = (l.drop (8 * i)).take 8 := by
  refine List.ext_getElem (by rw [bytesN_len, List.length_take, List.length_drop]; omega) fun t h1 h2 => ?_
  rw [bytesN_len] at h1
  have a1 := bytesN_get (wordAt l i) 8 t h1
  unfold wordAt at a1
  rw [byteN_le (fun c hc => h c (List.mem_of_mem_drop hc)) 8 t h1, drop_getD] at a1
  have e1 : (bytesN (wordAt l i) 8).getD t 0 = (bytesN (wordAt l i) 8)[t]'(by rw [bytesN_len]; exact h1) := by simp [List.getD, bytesN_len, h1]
  rw [← e1]
  unfold wordAt
  rw [a1]
  simp [List.getD, show 8 * i + t < l.length by omega]

theorem mendOne_at {l : List Nat} (h : ∀ c ∈ l, c < 256) (zs : List Int) {M : Nat} {x c : List Nat} (hl : l.length = 8 * M) (hT : TurnedTo l zs M M x c) (i : Nat) (hi : i < M) :
    mendOne (wordAt x i) (c.getD i 0) (min 8 (x.length - 8 * i)) = some ((l.drop (8 * i)).take 8, if (turnOf zs i).isSome then 1 else 0) := by
  obtain ⟨h1, h2, h3, h4, h5⟩ := hT
  have h6 := h5 i hi
  have hw := wordAt_lt h i
  have hb8 := wordAt_bytes h i (by omega)
  obtain ⟨W, hW⟩ : ∃ W, W = wordAt l i := ⟨_, rfl⟩
  obtain ⟨X, hX⟩ : ∃ X, X = wordAt x i := ⟨_, rfl⟩
  obtain ⟨C, hC⟩ : ∃ C, C = c.getD i 0 := ⟨_, rfl⟩
  rw [← hW] at hw hb8 h6
  rw [← hX, ← hC] at h6 ⊢
  rw [show min 8 (x.length - 8 * i) = 8 by omega]
  clear hW hX hC
  cases e : turnOf zs i with
  | none =>
    rw [e] at h6
    simp only at h6
    have ha : X = W := congrArg Prod.fst h6
    have hb : C = Ecc.chk W := congrArg Prod.snd h6
    have hm : Ecc.mendW W C = (W, C, 0) := by
      rw [hb]; unfold Ecc.mendW; rw [Nat.xor_self, if_pos rfl]
    have hk : W < 256 ^ 8 := by rw [pow8]; exact hw
    unfold mendOne
    rw [ha, hm]
    simp only
    rw [if_neg (by omega), hb8]
    rfl
  | some k =>
    rw [e] at h6
    simp only at h6
    rw [if_pos hi] at h6
    have ha : X = (Ecc.turnW W (Ecc.chk W) k).1 := congrArg Prod.fst h6
    have hb : C = (Ecc.turnW W (Ecc.chk W) k).2 := congrArg Prod.snd h6
    have hm : Ecc.mendW X C = (W, Ecc.chk W, 1) := by
      rw [ha, hb]; exact Ecc.mend_one _ _ (turnOf_lt e)
    have hk : W < 256 ^ 8 := by rw [pow8]; exact hw
    unfold mendOne
    rw [hm]
    simp only
    rw [if_neg (by omega), hb8]
    rfl

theorem mendTo_at {l : List Nat} (h : ∀ c ∈ l, c < 256) (zs : List Int) {M : Nat} {x c : List Nat} (hl : l.length = 8 * M) (hT : TurnedTo l zs M M x c) : ∀ i, i ≤ M → mendTo x c i = some (l.take (8 * i), countTo zs i)
  | 0, _ => by simp [mendTo_zero, countTo]
  | i + 1, hi => by
    rw [mendTo_succ, mendTo_at h zs hl hT i (by omega), mendOne_at h zs hl hT i (by omega)]
    unfold addOn
    simp only
    rw [countTo, show 8 * (i + 1) = 8 * i + 8 by omega, List.take_add]

theorem mendAll_at {l : List Nat} (h : ∀ c ∈ l, c < 256) (zs : List Int) {M : Nat} {x c : List Nat} (hl : l.length = 8 * M) (hT : TurnedTo l zs M M x c) : mendAllS x c = some (l, countTo zs M) := by
  unfold mendAllS
  rw [if_pos (by rw [hT.1, hT.2.1]; omega), hT.2.1, mendTo_at h zs hl hT M (Nat.le_refl _), List.take_of_length_le (by omega)]

theorem mendOne_bad {x c k : Nat} (h : (Ecc.mendW x c).2.2 = 2) : mendOne x c k = none := by unfold mendOne; rw [if_pos (.inl h)]
/-- Two bits of one word turned: none. -/
theorem mendAll_two {l : List Nat} (h : ∀ c ∈ l, c < 256) (zs : List Int) {M : Nat} {x c : List Nat} (hl : l.length = 8 * M) (hT : TurnedTo l zs M M x c) (i k k2 : Nat) (hi : i < M)
    (x2 c2 : List Nat) (hx : (turnOf zs i = some k ∧ x2 = flipX x i k2 ∧ c2 = flipC c i k2) ∨ (turnOf zs i = none ∧ x2 = flipX (flipX x i k) i k2 ∧ c2 = flipC (flipC c i k) i k2)) (hk : k < 72) (hk2 : k2 < 72) (hne : k ≠ k2) : mendAllS x2 c2 = none := by
  obtain ⟨h1, h2, h3, h4, h5⟩ := hT
  have h6 := h5 i hi
  have key : mendOne (wordAt x2 i) (c2.getD i 0) (min 8 (x2.length - 8 * i)) = none ∧ c2.length = M ∧ x2.length = 8 * M := by
    rcases hx with ⟨e, rfl, rfl⟩ | ⟨e, rfl, rfl⟩
    · rw [e] at h6
      simp only at h6
      rw [if_pos hi] at h6
      have h7 := flip_word h3 c M i i k2 h1 h2 hi hi hk2
      rw [if_pos rfl, show wordAt x i = (wordAt x i, c.getD i 0).1 by rfl, h6, show c.getD i 0 = (wordAt x i, c.getD i 0).2 by rfl, h6] at h7
      refine ⟨mendOne_bad ?_, by rw [flipC_len, h2], by rw [flipX_len, h1]⟩
      rw [show wordAt (flipX x i k2) i = (wordAt (flipX x i k2) i, (flipC c i k2).getD i 0).1 by rfl, show (flipC c i k2).getD i 0 = (wordAt (flipX x i k2) i, (flipC c i k2).getD i 0).2 by rfl, h7, Ecc.mend_two _ _ _ hk hk2 hne]
    · rw [e] at h6
      simp only at h6
      have h8 := flip_word h3 c M i i k h1 h2 hi hi hk
      rw [if_pos rfl, show wordAt x i = (wordAt x i, c.getD i 0).1 by rfl, h6, show c.getD i 0 = (wordAt x i, c.getD i 0).2 by rfl, h6] at h8
      have h7 := flip_word (flipX_lt h3 i k) (flipC c i k) M i i k2 (by rw [flipX_len, h1]) (by rw [flipC_len, h2]) hi hi hk2
      rw [if_pos rfl, show wordAt (flipX x i k) i = (wordAt (flipX x i k) i, (flipC c i k).getD i 0).1 by rfl, show (flipC c i k).getD i 0 = (wordAt (flipX x i k) i, (flipC c i k).getD i 0).2 by rfl, h8] at h7
      refine ⟨mendOne_bad ?_, by rw [flipC_len, flipC_len, h2], by rw [flipX_len, flipX_len, h1]⟩
      rw [show wordAt (flipX (flipX x i k) i k2) i = (wordAt (flipX (flipX x i k) i k2) i, (flipC (flipC c i k) i k2).getD i 0).1 by rfl, show (flipC (flipC c i k) i k2).getD i 0 = (wordAt (flipX (flipX x i k) i k2) i, (flipC (flipC c i k) i k2).getD i 0).2 by rfl, h7, Ecc.mend_two _ _ _ hk hk2 hne]
  obtain ⟨k1, k3, k4⟩ := key
  unfold mendAllS
  rw [if_pos (by rw [k3, k4]; omega), k3]
  have hn : mendTo x2 c2 (i + 1) = none := by rw [mendTo_succ, k1, addOn_none']
  have := mendTo_none hn (M - (i + 1))
  rwa [show i + 1 + (M - (i + 1)) = M by omega] at this

theorem countTo_le (zs : List Int) : ∀ i, countTo zs i ≤ i
  | 0 => by simp [countTo]
  | i + 1 => by
    have := countTo_le zs i
    rw [countTo]
    split <;> omega
theorem countTo_some {zs : List Int} {i k : Nat} (h : turnOf zs i = some k) : countTo zs (i + 1) = countTo zs i + 1 := by rw [countTo, h]; rfl
theorem countTo_none {zs : List Int} {i : Nat} (h : turnOf zs i = none) : countTo zs (i + 1) = countTo zs i := by rw [countTo, h]; rfl
/-- Past the last number nothing is turned. -/
theorem turnOf_past {zs : List Int} {j : Nat} (h : zs.length ≤ j) : turnOf zs j = none := by unfold turnOf; rw [if_neg (by omega)]
theorem turned_past {l : List Nat} {zs : List Int} {M : Nat} {x c : List Nat} : ∀ (d i : Nat), zs.length ≤ i → TurnedTo l zs M i x c → TurnedTo l zs M (i + d) x c ∧ countTo zs (i + d) = countTo zs i
  | 0, i, _, h => ⟨h, rfl⟩
  | d + 1, i, hz, h => by
    obtain ⟨a, b⟩ := turned_past d (i + 1) (by omega) (turned_skip h (turnOf_past hz))
    rw [show i + (d + 1) = i + 1 + d by omega]
    exact ⟨a, by rw [b, countTo_none (turnOf_past hz)]⟩

end Go.Proofs.YtogpdmpefdafnaaDoor
