/- sha: the reference's constants, as they are filled in. -/
import Derived.Test.YtkdjimcpdbpemaaShaAA
namespace Go.Proofs.Ytkdjimcpdbpemaa
open Go Go.RowKit
set_option linter.unusedVariables false

/-- A row of numbers of which the first i are filled in. -/
def toL (L : List Int) (i : Nat) : List Int := L.take i ++ List.replicate (L.length - i) 0
theorem toL_len (L : List Int) (i : Nat) : (toL L i).length = L.length := by simp [toL]; omega
theorem toL_all (L : List Int) (i : Nat) (h : L.length ≤ i) : toL L i = L := by
  unfold toL
  rw [List.take_of_length_le h, show L.length - i = 0 by omega]; simp
theorem toL_set (L : List Int) (i : Nat) (h : i < L.length) : (toL L i).set i (L.getD i 0) = toL L (i + 1) := by
  have hl : (L.take i).length = i := by rw [List.length_take]; omega
  unfold toL
  rw [List.set_append_right _ _ (by omega), hl, Nat.sub_self, show L.length - i = (L.length - (i + 1)) + 1 by omega, List.replicate_succ, List.set_cons_zero]
  rw [List.take_add_one, List.append_assoc]
  congr 1
  simp [List.getD, List.getElem?_eq_getElem h]
theorem k_list : KL = K64.map (fun n : Nat => (n : Int)) := by decide +kernel
theorem h_list : H0.list = H8.map (fun n : Nat => (n : Int)) := by decide +kernel
theorem map_getD (f : Nat → Nat) (l : List Nat) (i : Nat) (h : i < l.length) : (l.map f).getD i 0 = f (l.getD i 0) := by
  simp [List.getD, List.getElem?_map, List.getElem?_eq_getElem h]
theorem k_at (i : Nat) (h : i < 64) : ((rootL (P64.getD i 0) 3 : Nat) : Int) = KL.getD i 0 := by
  have h1 := map_getD (fun p => rootL p 3) P64 i (by rw [show P64.length = 64 from rfl]; exact h)
  rw [roots_three] at h1
  rw [← h1, k_list]
  simp [List.getD, List.getElem?_map, List.getElem?_eq_getElem (show i < K64.length by rw [show K64.length = 64 from rfl]; exact h)]
theorem h_at (i : Nat) (h : i < 8) : ((rootL (P64.getD i 0) 2 : Nat) : Int) = H0.list.getD i 0 := by
  have h1 := map_getD (fun p => rootL p 2) (P64.take 8) i (by rw [show (P64.take 8).length = 8 from rfl]; exact h)
  rw [roots_two] at h1
  have h2 : (P64.take 8).getD i 0 = P64.getD i 0 := by simp [List.getD, List.getElem?_take, h]
  rw [h2] at h1
  rw [← h1, h_list]
  simp [List.getD, List.getElem?_map, List.getElem?_eq_getElem (show i < H8.length by rw [show H8.length = 8 from rfl]; exact h)]
theorem p_lt (i : Nat) : P64.getD i 0 < 312 := by
  by_cases h : i < P64.length
  · have hm : P64.getD i 0 ∈ P64 := by simp [List.getD, h]
    rw [← primes_all] at hm
    have := (primes_lt 312 _ hm).2
    rw [primes_all] at this
    exact this
  · simp [List.getD, List.getElem?_eq_none (show P64.length ≤ i by omega)]
end Go.Proofs.Ytkdjimcpdbpemaa
