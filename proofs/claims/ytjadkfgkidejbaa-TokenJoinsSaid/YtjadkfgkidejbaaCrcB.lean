/- crc: known, and CrcEnds. -/
import Derived.Test.YtjadkfgkidejbaaCrcA
namespace Go.Proofs.Ytjadkfgkidejbaa
open Go.RowKit
set_option linter.unusedVariables false

theorem Try.infoU8 : (Try.prog.info? 5).map (fun i => (i.zero, i.size, i.bytes)) = some (some (.int .u8 0), 1, 1) := by kernel_rfl

def ffs (k : Nat) : List Nat := List.replicate k 255 ++ List.replicate (512 - k) 0
theorem ffs_zero : ffs 0 = List.replicate 512 0 := by unfold ffs; rw [List.replicate_zero, List.nil_append]
theorem ffs_len (k : Nat) (h : k ≤ 512) : (ffs k).length = 512 := by simp [ffs]; omega
theorem ffs_lt (k : Nat) : ∀ c ∈ ffs k, c < 256 := by
  intro c hc
  unfold ffs at hc
  rcases List.mem_append.1 hc with h | h
  · have := (List.mem_replicate.1 h).2; omega
  · have := (List.mem_replicate.1 h).2; omega
theorem ffs_set (k : Nat) (h : k < 512) : (ffs k).set k 255 = ffs (k + 1) := by
  unfold ffs
  rw [List.set_append, if_neg (by simp), List.length_replicate, Nat.sub_self, show 512 - k = (512 - (k + 1)) + 1 by omega, List.replicate_succ, List.set_cons_zero, List.replicate_succ' (n := k), List.append_assoc]
  rfl
set_option maxRecDepth 100000 in
theorem ffs_sum : Crc.sum16 (ffs 512) = 32673 := by decide +kernel
theorem s7a : Crc.sum7 [64, 0, 0, 0, 0] = 74 := by decide +kernel
theorem s7b : Crc.sum7 [81, 0, 0, 0, 0] = 42 := by decide +kernel

theorem u8_lt2 {a b : Nat} (ha : a < 256) (hb : b < 256) : ∀ c ∈ [a, b], c < 256 := by intro c hc; simp at hc; omega

end Go.Proofs.Ytjadkfgkidejbaa
