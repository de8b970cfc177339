/- token: blocks that are joined are split into themselves (plain). -/
import Derived.Test.YtjadkfgkidejbaaTokL
import Derived.Test.YtjadkfgkidejbaaTokC
namespace Go.Proofs.Ytjadkfgkidejbaa
open Go.RowKit
set_option linter.unusedVariables false

theorem flat_len (sz : Nat) : ∀ (r : List (List Nat)), (∀ x ∈ r, x.length = sz) → (r.flatMap layL).length = r.length * (sz + 3)
  | [], _ => by simp
  | x :: r, h => by
    rw [List.flatMap_cons, List.length_append, layL_len, h x (by simp), flat_len sz r (fun y hy => h y (by simp [hy]))]
    simp [Nat.add_mul]; omega
theorem split_run (sz : Nat) (hs : sz ≤ 4096) (L : List Nat) : ∀ (r pre : List (List Nat)) (f : Nat), (∀ x ∈ r, x.length = sz) → r.length ≤ f → L = pre.flatMap layL ++ r.flatMap layL →
    splitR L sz f (pre.flatMap layL).length pre = (pre ++ r, L.length, 0)
  | [], pre, f, _, _, hL => by
    rw [splitR_end _ _ _ _ _ (by rw [hL]; simp), List.append_nil]
    rw [hL]; simp
  | x :: r, pre, f, h, hf, hL => by
    obtain ⟨f, rfl⟩ : ∃ g, f = g + 1 := ⟨f - 1, by simp at hf; omega⟩
    have hx := h x (by simp)
    have hd : L.drop (pre.flatMap layL).length = layL x ++ r.flatMap layL := by rw [hL, List.drop_left, List.flatMap_cons]
    have hr := read_more x (r.flatMap layL) (by omega)
    rw [splitR_step _ _ _ _ _ (by rw [hL, List.flatMap_cons, List.length_append, List.length_append, layL_len]; omega), hd, ← hx, if_pos hr.1, hr.2.2, Int.toNat_natCast]
    have h2 := split_run sz hs L r (pre ++ [x]) f (fun y hy => h y (by simp [hy])) (by simpa using hf) (by rw [hL]; simp)
    rw [show (pre.flatMap layL).length + (x.length + 3) = ((pre ++ [x]).flatMap layL).length by simp [layL_len]]
    rw [hx, h2]
    simp
theorem split_joined (sz : Nat) (hs : sz ≤ 4096) (ls : List (List Nat)) (h : ∀ x ∈ ls, x.length = sz) : splitAll (joinTo ls ls.length) sz = (ls, (joinTo ls ls.length).length, 0) := by
  have hl := flat_len sz ls h
  have e1 : joinTo ls ls.length = ls.flatMap layL := by unfold joinTo; rw [List.take_length]
  rw [e1]
  have h2 := split_run sz hs (ls.flatMap layL) ls [] ((ls.flatMap layL).length + 1) h (by rw [hl, Nat.mul_add]; omega) (by simp)
  exact h2
theorem joined_len (sz : Nat) (ls : List (List Nat)) (h : ∀ x ∈ ls, x.length = sz) (n : Nat) (hn : ls.length = n) : (joinTo ls n).length = n * (sz + 3) := by
  subst hn
  unfold joinTo
  rw [List.take_length, flat_len sz ls h]

/-- Bytes made as long as a block. -/
def fitB (sz : Nat) (x : List Nat) : List Nat := overlay (List.replicate sz 0) x
theorem fitB_len (sz : Nat) (x : List Nat) : (fitB sz x).length = sz := by unfold fitB; rw [overlay_len]; simp
theorem fitB_lt (sz : Nat) (x : List Nat) (h : ∀ c ∈ x, c < 256) : ∀ c ∈ fitB sz x, c < 256 := overlay_lt (by intro c hc; have := List.eq_of_mem_replicate hc; omega) h

end Go.Proofs.Ytjadkfgkidejbaa
