/- sha: the reference's digest, plainly: all blocks of the padded bytes are those that the program reckons by the way. -/
import Derived.Test.YtkdjimcpdbpemaaShaZ
import Derived.Test.YtkdjimcpdbpemaaShaK
namespace Go.Proofs.Ytkdjimcpdbpemaa
open Go Go.RowKit
set_option linter.unusedVariables false

/-- What the reference pads a row with. -/
def refPad (l : List Nat) : List Nat := l ++ padS (l.length % 64) l.length
theorem refPad_len (l : List Nat) : (refPad l).length % 64 = 0 := by
  unfold refPad padS
  simp only [List.length_append, List.length_cons, List.length_replicate, be8_len]
  omega
theorem ref_sha (l : List Nat) : outS (runB H0 (refPad l)) = shaL l := by
  unfold shaL endS refPad
  rw [restB_len, (run_append H0 l _).1]
/-- The reference's padding loop: how many bytes 0 it lays. -/
theorem pad_steps (n z : Nat) (h : z ≤ (119 - n % 64) % 64) : (n + 1 + z) % 64 = 56 ↔ z = (119 - n % 64) % 64 := by omega
end Go.Proofs.Ytkdjimcpdbpemaa
