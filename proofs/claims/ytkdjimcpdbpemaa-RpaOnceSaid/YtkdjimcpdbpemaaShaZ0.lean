/- sha: the zero value of a digest (76 cells), named: for a seat whose program's form gives none of it. -/
import Derived.Test.YtkdjimcpdbpemaaShaI
namespace Go.Proofs.Ytkdjimcpdbpemaa
open Go Go.RowKit

def zD : Array Value := (cellsU (List.replicate 8 0) ++ (Value.slice none 0 0 :: Value.int .u64 0 :: Value.bool false :: u8s (List.replicate 64 0))).toArray
@[simp] theorem zD_size : zD.size = 75 := by kernel_rfl
@[simp] theorem zD_ne : zD ≠ #[] := by
  intro h
  have := zD_size
  rw [h] at this
  exact absurd this (by decide)
@[simp] theorem zeroD (w : World) : Sem.run Try.prog (zeroValue 109) w = .ok (.agg zD) w := by kernel_rfl
end Go.Proofs.Ytkdjimcpdbpemaa
