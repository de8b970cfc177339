/- geom.Groups, geom.Sizes. -/
import Derived.Test.YteclcciionjjcaaGeomB
namespace Go.Proofs.Yteclcciionjjcaa
open Go.RowKit
set_option linter.unusedVariables false

def groupsOf (c : Cfg) : Int := if c.group < 1 then 0 else c.user / c.group

theorem groups_any (c : Cfg) (w : World) (hok : OkC c) :
    Calls Try.prog 12 #[.agg #[.int .i64 c.blocks, .int .i64 c.pages, .int .i64 c.sector, .int .i64 c.user, .int .i64 c.boot, .int .i64 c.rpa, .int .i64 c.group, .int .i64 c.cache, .int .i64 c.spare]] w fun x w' => x = .returned (.int .i64 (c.user / c.group)) ∧ Below w.heap.size w w' := by
  obtain ⟨c1, c2, c3, c4, c5, c6, c7, c8, c9, c10, c11, c12, c13, c14, c15, c16, c17, c18, c19, c20, c21, c22⟩ := hok
  have h0 : ¬ c.group = 0 := by omega
  have h1 : ¬ c.group < 1 := by omega
  have h2 : 0 ≤ c.user / c.group := Int.ediv_nonneg (by omega) (by omega)
  go_enter Try.func12, Try.ntmps12
  go_wp2
  go_ret
  exact ⟨rfl, (Below.refl _ _).alloc (Nat.le_refl _) _⟩

/-- What Sizes tells: the user's area, boot twice, the keyed one, four general ones. -/
def sizesV (c : Cfg) (a b d e : Int) : Array Value := #[.int .i64 (c.user - a * c.group - b * c.group - d * c.group - e * c.group), .int .i64 c.boot, .int .i64 c.boot, .int .i64 c.rpa, .int .i64 (a * c.group), .int .i64 (b * c.group), .int .i64 (d * c.group), .int .i64 (e * c.group)]

theorem mul_in {a g : Int} (h1 : 0 ≤ a) (h2 : a ≤ 32) (h3 : 1 ≤ g) (h4 : g ≤ 16384) : 0 ≤ a * g ∧ a * g ≤ 524288 :=
  ⟨Int.mul_nonneg h1 (by omega), by have := Int.mul_le_mul h2 h4 (by omega) (by omega : (0 : Int) ≤ 32); omega⟩

end Go.Proofs.Yteclcciionjjcaa
