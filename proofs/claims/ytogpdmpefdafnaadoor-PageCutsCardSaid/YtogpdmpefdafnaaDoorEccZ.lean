/- ecc: the reference's MendAll. -/
import Derived.Test.YtogpdmpefdafnaaDoorEccY
namespace Go.Proofs.YtogpdmpefdafnaaDoor
open Go Go.RowKit
set_option linter.unusedVariables false

theorem Cols.drewN {w : World} {a : Option Addr} {cap : Nat} (h : Cols w a cap) (n : Nat) : Cols (w.drewN n) a cap := by
  obtain ⟨g, rfl, hg, hc⟩ := h
  exact ⟨g, rfl, by simpa using hg, fun i hi => by simpa using hc i hi⟩

theorem below_of_noughts {p m : Nat} (hm : m ≤ 8) (hp : p < 18446744073709551616) (h : ∀ t, m ≤ t → t < 8 → byteN p t = 0) : p < 256 ^ m := by
  have h0 := digits_zero (8 - m) (p / 256 ^ m) (by rw [Nat.div_lt_iff_lt_mul (Nat.pos_of_ne_zero (by simp)), ← Nat.pow_add, show 8 - m + m = 8 by omega]; exact hp) (fun j hj => by
    have := h (m + j) (by omega) (by omega)
    unfold byteN at this ⊢
    rwa [Nat.div_div_eq_div_mul, ← Nat.pow_add])
  rcases Nat.lt_or_ge p (256 ^ m) with q | q
  · exact q
  · have := Nat.div_pos q (Nat.pos_of_ne_zero (by simp)); omega

/-- What stands in the reference's output: the bytes so far, and noughts behind them. -/
def padded (o : List Nat) (len : Nat) : List Nat := o ++ List.replicate (len - o.length) 0
theorem padded_full (o : List Nat) (len : Nat) (h : o.length = len) : padded o len = o := by simp [padded, h]
theorem padded_len (o : List Nat) (len : Nat) (h : o.length ≤ len) : (padded o len).length = len := by simp [padded]; omega
theorem padded_nil (len : Nat) : padded [] len = List.replicate len 0 := by simp [padded]
theorem padded_set (o : List Nat) (len x : Nat) (h : o.length < len) : (padded o len).set o.length x = padded (o ++ [x]) len := by
  unfold padded
  obtain ⟨m, hm⟩ : ∃ m, len - o.length = m + 1 := ⟨len - o.length - 1, by omega⟩
  rw [hm, List.replicate_succ, List.set_append_right _ _ (Nat.le_refl _), Nat.sub_self]
  simp [show len - (o.length + 1) = m by omega]

theorem padded_at (o : List Nat) (len : Nat) (h : o.length < len) : (u8s (padded o len))[o.length]? = some (.int .u8 ((0 : Nat) : Int)) := by
  obtain ⟨m, hm⟩ : ∃ m, len - o.length = m + 1 := ⟨len - o.length - 1, by omega⟩
  unfold padded
  rw [hm, List.replicate_succ, u8s_append, List.getElem?_append_right (by rw [u8s_len]; exact Nat.le_refl _), u8s_len, Nat.sub_self]
  rfl

end Go.Proofs.YtogpdmpefdafnaaDoor
