/- token: the reference's Read. -/
import Derived.Test.YtjadkfgkidejbaaTokD
namespace Go.Proofs.Ytjadkfgkidejbaa
open Go.RowKit
set_option linter.unusedVariables false

theorem layL_same (l : List Nat) (n : Nat) (h : n + 3 ≤ l.length) (hl : ∀ c ∈ l, c < 256) (h0 : l.getD 0 0 = 254) :
    (layL ((l.drop 1).take n) == l.take (n + 3)) = decide (Crc.sum16 ((l.drop 1).take n) = (256 * l.getD (1 + n) 0 ||| l.getD (2 + n) 0)) := by
  have hs := Crc.sum16_lt ((l.drop 1).take n) (fun c hc => hl c (List.mem_of_mem_drop (List.mem_of_mem_take hc)))
  have hp := Crc.getD_lt hl (1 + n)
  have hq := Crc.getD_lt hl (2 + n)
  have e : l.take (n + 3) = 254 :: ((l.drop 1).take n ++ [l.getD (1 + n) 0, l.getD (2 + n) 0]) := by
    cases l with
    | nil => simp at h
    | cons x xs =>
      have hx : x = 254 := by simpa using h0
      subst hx
      have hxs : n + 2 ≤ xs.length := by simp at h; omega
      have hY := Crc.split2 (xs.take (n + 2)) n (by simp; omega)
      simp only [List.take_succ_cons, List.drop_one, List.tail_cons]
      congr 1
      rw [hY]
      congr 1
      · rw [List.take_take]; congr 1; omega
      · rw [show 1 + n = n + 1 by omega, show 2 + n = n + 1 + 1 by omega]
        simp [List.getD]
  rw [e]
  unfold layL
  rw [← Crc.xor_or _ _ hq]
  rw [Bool.eq_iff_iff, beq_iff_eq, decide_eq_true_iff]
  generalize Crc.sum16 ((l.drop 1).take n) = s at *
  generalize l.getD (1 + n) 0 = p at *
  generalize l.getD (2 + n) 0 = q at *
  rw [Crc.xor_or _ _ hq, show (256 : Nat) = 2 ^ 8 by rfl, ← Nat.two_pow_add_eq_or_of_lt (by omega)]
  constructor
  · intro hh
    have := (List.cons.inj hh).2
    have := List.append_cancel_left this
    simp at this
    omega
  · intro hh
    have h1 : s / 2 ^ 8 = p := by omega
    have h2 : s % 2 ^ 8 = q := by omega
    rw [h1, h2]

end Go.Proofs.Ytjadkfgkidejbaa
