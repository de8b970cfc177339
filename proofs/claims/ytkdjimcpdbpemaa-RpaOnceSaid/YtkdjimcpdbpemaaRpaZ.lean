/- rpa: zero values of more than 64 cells, named. -/
import Derived.Test.YtkdjimcpdbpemaaRpaA
namespace Go.Proofs.Ytkdjimcpdbpemaa
open Go Go.RowKit

def z128 : Array Value := (u8s (List.replicate 128 0)).toArray
@[simp] theorem z128_size : z128.size = 128 := by kernel_rfl
@[simp] theorem z128_ne : z128 ≠ #[] := by
  intro h
  have := z128_size
  rw [h] at this
  exact absurd this (by decide)
@[simp] theorem zero128 (w : World) : Sem.run Try.prog (zeroValue 45) w = .ok (.agg z128) w := by kernel_rfl
def zF : Array Value := (u8s (List.replicate 112 0) ++ [Value.int .u32 0, Value.int .i64 0, Value.int .i64 0, Value.int .i64 0, Value.int .i64 0]).toArray
@[simp] theorem zF_size : zF.size = 117 := by kernel_rfl
@[simp] theorem zF_ne : zF ≠ #[] := by
  intro h
  have := zF_size
  rw [h] at this
  exact absurd this (by decide)
@[simp] theorem zeroF (w : World) : Sem.run Try.prog (zeroValue 37) w = .ok (.agg zF) w := by kernel_rfl
@[simp] theorem zeroFR (w : World) : Sem.run Try.prog (zeroValue 54) w = .ok (.agg zF) w := by kernel_rfl
end Go.Proofs.Ytkdjimcpdbpemaa
