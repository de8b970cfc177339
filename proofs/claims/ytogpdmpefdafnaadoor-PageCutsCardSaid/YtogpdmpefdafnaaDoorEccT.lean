/- ecc: bytes and words (plain). -/
import Derived.Test.YtogpdmpefdafnaaDoorEccS
namespace Go.Proofs.YtogpdmpefdafnaaDoor
open Go.RowKit
set_option linter.unusedVariables false

/-- The first n bytes as a number, the least ones first. -/
def le (l : List Nat) : Nat → Nat
  | 0 => 0
  | n + 1 => le l n + l.getD n 0 * 256 ^ n
theorem le_lt {l : List Nat} (h : ∀ c ∈ l, c < 256) : ∀ n, le l n < 256 ^ n
  | 0 => by simp [le]
  | n + 1 => by
    have ih := le_lt h n
    have hc : l.getD n 0 ≤ 255 := by
      rcases Nat.lt_or_ge n l.length with q | q
      · have : l.getD n 0 ∈ l := by simp [List.getD, q]
        have := h _ this; omega
      · simp [List.getD, List.getElem?_eq_none q]
    have h2 : l.getD n 0 * 256 ^ n ≤ 255 * 256 ^ n := Nat.mul_le_mul_right _ hc
    rw [le, Nat.pow_succ]
    omega
theorem le_past {l : List Nat} {n : Nat} (h : l.length ≤ n) : ∀ k, le l (n + k) = le l n
  | 0 => rfl
  | k + 1 => by
    rw [← Nat.add_assoc, le, le_past h k]
    simp [List.getD, List.getElem?_eq_none (show l.length ≤ n + k by omega)]
theorem le_cons (l : List Nat) : ∀ m, le l (m + 1) = l.getD 0 0 + 256 * le (l.drop 1) m
  | 0 => by simp [le]
  | m + 1 => by
    rw [le, le_cons l m, le]
    have : (l.drop 1).getD m 0 = l.getD (m + 1) 0 := by simp [List.getD, Nat.add_comm]
    rw [this, Nat.pow_succ]
    rw [Nat.mul_add, Nat.add_assoc]
    congr 2
    rw [Nat.mul_comm 256 (_ * _), Nat.mul_assoc]
/-- The byte k of a number. -/
def byteN (x k : Nat) : Nat := x / 256 ^ k % 256
theorem byteN_lt (x k : Nat) : byteN x k < 256 := Nat.mod_lt _ (by omega)
theorem byteN_le {l : List Nat} (h : ∀ c ∈ l, c < 256) : ∀ n k, k < n → byteN (le l n) k = l.getD k 0
  | n + 1, 0, _ => by
    have hc : l.getD 0 0 < 256 := by
      rcases Nat.lt_or_ge 0 l.length with q | q
      · have : l.getD 0 0 ∈ l := by simp [List.getD, q]
        exact h _ this
      · simp [List.getD, List.getElem?_eq_none q]
    rw [le_cons]
    unfold byteN
    simp only [Nat.pow_zero, Nat.div_one]
    omega
  | n + 1, k + 1, hk => by
    have ih := byteN_le (l := l.drop 1) (fun c hc => h c (List.mem_of_mem_drop hc)) n k (by omega)
    have hc : l.getD 0 0 < 256 := by
      rcases Nat.lt_or_ge 0 l.length with q | q
      · have : l.getD 0 0 ∈ l := by simp [List.getD, q]
        exact h _ this
      · simp [List.getD, List.getElem?_eq_none q]
    have e1 : (l.drop 1).getD k 0 = l.getD (k + 1) 0 := by simp [List.getD, Nat.add_comm]
    rw [← e1, ← ih, le_cons]
    unfold byteN
    rw [Nat.pow_succ, Nat.mul_comm (256 ^ k) 256, ← Nat.div_div_eq_div_mul, show (l.getD 0 0 + 256 * le (l.drop 1) n) / 256 = le (l.drop 1) n by omega]
/-- The bytes of a number. -/
def bytesN (x n : Nat) : List Nat := (List.range n).map (byteN x)
theorem bytesN_len (x n : Nat) : (bytesN x n).length = n := by simp [bytesN]
theorem bytesN_get (x n k : Nat) (h : k < n) : (bytesN x n).getD k 0 = byteN x k := by simp [bytesN, List.getD, h]
theorem bytesN_lt (x n : Nat) : ∀ c ∈ bytesN x n, c < 256 := by
  intro c hc
  simp only [bytesN, List.mem_map] at hc
  obtain ⟨k, _, rfl⟩ := hc
  exact byteN_lt x k
theorem le_or (l : List Nat) (h : ∀ c ∈ l, c < 256) (n : Nat) : le l n ||| l.getD n 0 * 256 ^ n = le l (n + 1) := by
  have hl := le_lt h n
  have e : 256 ^ n = 2 ^ (8 * n) := by rw [show (256 : Nat) = 2 ^ 8 by rfl, ← Nat.pow_mul]
  rw [e] at hl
  have := Nat.two_pow_add_eq_or_of_lt (i := 8 * n) (b := le l n) hl (l.getD n 0)
  rw [le, e, Nat.or_comm, Nat.mul_comm (l.getD n 0), ← this]
  omega

/-- The i-th word of bytes. -/
def wordAt (l : List Nat) (i : Nat) : Nat := le (l.drop (8 * i)) 8
theorem wordAt_lt {l : List Nat} (h : ∀ c ∈ l, c < 256) (i : Nat) : wordAt l i < 18446744073709551616 := by
  have := le_lt (l := l.drop (8 * i)) (fun c hc => h c (List.mem_of_mem_drop hc)) 8
  simpa [wordAt] using this
/-- The checks of the first n words. -/
def wordsTo (l : List Nat) (n : Nat) : List Nat := (List.range n).map fun i => Ecc.chk (wordAt l i)
def wordsOf (l : List Nat) : List Nat := wordsTo l ((l.length + 7) / 8)
theorem wordsTo_succ (l : List Nat) (n : Nat) : wordsTo l (n + 1) = wordsTo l n ++ [Ecc.chk (wordAt l n)] := by
  simp [wordsTo, List.range_succ]
theorem wordsTo_len (l : List Nat) (n : Nat) : (wordsTo l n).length = n := by simp [wordsTo]
theorem wordsTo_lt (l : List Nat) (n : Nat) : ∀ c ∈ wordsTo l n, c < 256 := by
  intro c hc
  simp only [wordsTo, List.mem_map] at hc
  obtain ⟨i, _, rfl⟩ := hc
  exact Ecc.chk_lt _

/-- One word with its check, mended, as k bytes; none where it cannot be. -/
def mendOne (x c k : Nat) : Option (List Nat × Nat) :=
  if (Ecc.mendW x c).2.2 = 2 ∨ 256 ^ k ≤ (Ecc.mendW x c).1 then none else some (bytesN (Ecc.mendW x c).1 k, if (Ecc.mendW x c).2.2 = 1 then 1 else 0)
theorem mendOne_some {x c k : Nat} {b : List Nat} {m : Nat} (h : mendOne x c k = some (b, m)) : b.length = k ∧ m ≤ 1 ∧ ∀ x ∈ b, x < 256 := by
  unfold mendOne at h
  split at h
  · cases h
  · have h1 := Option.some.inj h
    have h2 := congrArg Prod.fst h1
    have h3 := congrArg Prod.snd h1
    simp only at h2 h3
    rw [← h2, ← h3]
    exact ⟨bytesN_len _ _, by split <;> omega, bytesN_lt _ _⟩
/-- What is joined behind another. -/
def addOn (a b : Option (List Nat × Nat)) : Option (List Nat × Nat) := match a, b with
  | some (o, n), some (p, m) => some (o ++ p, n + m)
  | _, _ => none
/-- The first i words mended: their bytes, how many were. -/
def mendTo (l c : List Nat) (i : Nat) : Option (List Nat × Nat) := (List.range i).foldl (fun a i => addOn a (mendOne (wordAt l i) (c.getD i 0) (min 8 (l.length - 8 * i)))) (some ([], 0))
theorem mendTo_succ (l c : List Nat) (i : Nat) : mendTo l c (i + 1) = addOn (mendTo l c i) (mendOne (wordAt l i) (c.getD i 0) (min 8 (l.length - 8 * i))) := by
  unfold mendTo
  rw [List.range_succ, List.foldl_append]
  rfl
theorem mendTo_zero (l c : List Nat) : mendTo l c 0 = some ([], 0) := rfl
def mendAllS (l c : List Nat) : Option (List Nat × Nat) := if c.length = (l.length + 7) / 8 then mendTo l c c.length else none
theorem addOn_none (b : Option (List Nat × Nat)) : addOn none b = none := rfl
theorem addOn_none' (a : Option (List Nat × Nat)) : addOn a none = none := by cases a <;> rfl
theorem addOn_some {a b : Option (List Nat × Nat)} {o : List Nat} {n : Nat} (h : addOn a b = some (o, n)) : ∃ o1 n1 p m, a = some (o1, n1) ∧ b = some (p, m) ∧ o = o1 ++ p ∧ n = n1 + m := by
  cases a with
  | none => cases h
  | some x =>
    cases b with
    | none => cases h
    | some y =>
      have h1 := Option.some.inj h
      exact ⟨x.1, x.2, y.1, y.2, rfl, rfl, (congrArg Prod.fst h1).symm, (congrArg Prod.snd h1).symm⟩
theorem mendTo_none {l c : List Nat} {i : Nat} (h : mendTo l c i = none) : ∀ k, mendTo l c (i + k) = none
  | 0 => h
  | k + 1 => by rw [← Nat.add_assoc, mendTo_succ, mendTo_none h k, addOn_none]
theorem mendTo_len {l c : List Nat} : ∀ (i : Nat) (o : List Nat) (n : Nat), mendTo l c i = some (o, n) → o.length = min (8 * i) l.length ∧ n ≤ i ∧ ∀ x ∈ o, x < 256
  | 0, o, n, h => by
    rw [mendTo_zero] at h
    have h1 := Option.some.inj h
    have h2 : ([] : List Nat) = o := congrArg Prod.fst h1
    have h3 : (0 : Nat) = n := congrArg Prod.snd h1
    rw [← h2, ← h3]
    simp
  | i + 1, o, n, h => by
    rw [mendTo_succ] at h
    obtain ⟨o1, n1, p, m, e1, e2, rfl, rfl⟩ := addOn_some h
    obtain ⟨h1, h2, h3⟩ := mendTo_len i o1 n1 e1
    obtain ⟨g1, g2, g3⟩ := mendOne_some e2
    refine ⟨by rw [List.length_append, g1, h1]; omega, by omega, ?_⟩
    intro x hx
    rcases List.mem_append.1 hx with q | q
    · exact h3 x q
    · exact g3 x q

end Go.Proofs.YtogpdmpefdafnaaDoor
