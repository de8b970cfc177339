/- geom.Groups, geom.Sizes. -/
import Derived.Test.YtdbnadhmkfhdkaaGeomB
namespace Go.Proofs.Ytdbnadhmkfhdkaa
open Go.RowKit
set_option linter.unusedVariables false

def groupsOf (c : Cfg) : Int := if c.group < 1 then 0 else c.user / c.group

theorem groups_any (c : Cfg) (w : World) (hok : OkC c) :
    Calls Try.prog 36 #[.agg #[.int .i64 c.blocks, .int .i64 c.pages, .int .i64 c.sector, .int .i64 c.user, .int .i64 c.boot, .int .i64 c.rpa, .int .i64 c.group, .int .i64 c.cache, .int .i64 c.spare]] w fun x w' => x = .returned (.int .i64 (c.user / c.group)) ∧ Below w.heap.size w w' := by
  obtain ⟨c1, c2, c3, c4, c5, c6, c7, c8, c9, c10, c11, c12, c13, c14, c15, c16, c17, c18, c19, c20, c21, c22⟩ := hok
  have h0 : ¬ c.group = 0 := by omega
  have h1 : ¬ c.group < 1 := by omega
  have h2 : 0 ≤ c.user / c.group := Int.ediv_nonneg (by omega) (by omega)
  go_enter Try.func36, Try.ntmps36
  go_wp2
  go_ret
  exact ⟨rfl, (Below.refl _ _).alloc (Nat.le_refl _) _⟩

/-- What '==' says of two arrays of four numbers. -/
theorem eqFour (a b c d x y z u : Int) (w : World) : (Op.equalIn 10000 34 (.agg #[.int .i64 a, .int .i64 b, .int .i64 c, .int .i64 d]) (.agg #[.int .i64 x, .int .i64 y, .int .i64 z, .int .i64 u])).run Try.prog w = .ok (a == x && b == y && c == z && d == u) w := by
  have u3 := Try.underlying3
  have a3 := Try.isAgg3
  have z3 := Try.sizeOf3
  rw [show (10000 : Nat) = 9999 + 1 from rfl, Op.equalIn]
  simp only [Sem.run_bind, run_underlying Try.underlying34, Result.andThen_ok]
  simp only [Std.Legacy.Range.forIn_eq_forIn_range', Std.Legacy.Range.size, Nat.sub_zero, Nat.add_sub_cancel, Nat.div_one, List.range'_succ, List.range'_zero, List.forIn_cons, List.forIn_nil]
  go_simp
  by_cases h1 : a = x <;> by_cases h2 : b = y <;> by_cases h3 : c = z <;> by_cases h4 : d = u <;> simp [h1, h2, h3, h4]

/-- What Sizes tells: the user's area, boot twice, the keyed one, four general ones. -/
def sizesV (c : Cfg) (a b d e : Int) : Array Value := #[.int .i64 (c.user - a * c.group - b * c.group - d * c.group - e * c.group), .int .i64 c.boot, .int .i64 c.boot, .int .i64 c.rpa, .int .i64 (a * c.group), .int .i64 (b * c.group), .int .i64 (d * c.group), .int .i64 (e * c.group)]

theorem mul_in {a g : Int} (h1 : 0 ≤ a) (h2 : a ≤ 32) (h3 : 1 ≤ g) (h4 : g ≤ 16384) : 0 ≤ a * g ∧ a * g ≤ 524288 :=
  ⟨Int.mul_nonneg h1 (by omega), by have := Int.mul_le_mul h2 h4 (by omega) (by omega : (0 : Int) ≤ 32); omega⟩

set_option maxRecDepth 100000 in
set_option maxHeartbeats 4000000 in
theorem sizes_any (c : Cfg) (a b d e : Int) (w : World) (hok : OkC c) (ha : 0 ≤ a ∧ a ≤ 32) (hb : 0 ≤ b ∧ b ≤ 32) (hd : 0 ≤ d ∧ d ≤ 32) (he : 0 ≤ e ∧ e ≤ 32) :
    Calls Try.prog 58 #[.agg #[.int .i64 c.blocks, .int .i64 c.pages, .int .i64 c.sector, .int .i64 c.user, .int .i64 c.boot, .int .i64 c.rpa, .int .i64 c.group, .int .i64 c.cache, .int .i64 c.spare], .agg #[.int .i64 a, .int .i64 b, .int .i64 d, .int .i64 e]] w fun x w' => x = .returned (.agg (sizesV c a b d e)) ∧ Below w.heap.size w w' := by
  obtain ⟨c1, c2, c3, c4, c5, c6, c7, c8, c9, c10, c11, c12, c13, c14, c15, c16, c17, c18, c19, c20, c21, c22⟩ := hok
  obtain ⟨ha1, ha2⟩ := ha
  obtain ⟨hb1, hb2⟩ := hb
  obtain ⟨hd1, hd2⟩ := hd
  obtain ⟨he1, he2⟩ := he
  obtain ⟨m1, m2⟩ := mul_in ha1 ha2 c15 (by omega)
  obtain ⟨m3, m4⟩ := mul_in hb1 hb2 c15 (by omega)
  obtain ⟨m5, m6⟩ := mul_in hd1 hd2 c15 (by omega)
  obtain ⟨m7, m8⟩ := mul_in he1 he2 c15 (by omega)
  by_cases hz : a = 0 ∧ b = 0 ∧ d = 0 ∧ e = 0
  · obtain ⟨rfl, rfl, rfl, rfl⟩ := hz
    have hq : ∀ w, (Op.equalIn 10000 34 (.agg #[.int .i64 0, .int .i64 0, .int .i64 0, .int .i64 0]) (.agg #[.int .i64 0, .int .i64 0, .int .i64 0, .int .i64 0])).run Try.prog w = .ok true w := fun w => eqFour 0 0 0 0 0 0 0 0 w
    go_enter Try.func58, Try.ntmps58
    go_wp2_with fail
    refine bodyPost_ret (v := .agg (sizesV c 0 0 0 0)) (by simp [results, Try.results58, go_sem, sizesV]) rfl ⟨rfl, ?_⟩
    exact ((((Below.refl _ _).alloc (Nat.le_refl _) _).alloc (by simp) _).alloc (by simp; omega) _).alloc (by simp; omega) _
  · have hq : ∀ w, (Op.equalIn 10000 34 (.agg #[.int .i64 a, .int .i64 b, .int .i64 d, .int .i64 e]) (.agg #[.int .i64 0, .int .i64 0, .int .i64 0, .int .i64 0])).run Try.prog w = .ok false w := fun w => by
      rw [eqFour]
      congr 1
      by_cases h1 : a = 0 <;> by_cases h2 : b = 0 <;> by_cases h3 : d = 0 <;> by_cases h4 : e = 0 <;> simp_all
    have hi0 : ∀ w, (Instr.index 34 (.agg #[.int .i64 a, .int .i64 b, .int .i64 d, .int .i64 e]) (.int .i64 0)).run Try.prog w = .ok (.int .i64 a) w := fun w => index_arr 34 3 4 _ .i64 0 _ Try.underlying34 Try.sizeOf3 Try.isAgg3 (by omega) rfl
    have hi1 : ∀ w, (Instr.index 34 (.agg #[.int .i64 a, .int .i64 b, .int .i64 d, .int .i64 e]) (.int .i64 1)).run Try.prog w = .ok (.int .i64 b) w := fun w => index_arr 34 3 4 _ .i64 1 _ Try.underlying34 Try.sizeOf3 Try.isAgg3 (by omega) rfl
    have hi2 : ∀ w, (Instr.index 34 (.agg #[.int .i64 a, .int .i64 b, .int .i64 d, .int .i64 e]) (.int .i64 2)).run Try.prog w = .ok (.int .i64 d) w := fun w => index_arr 34 3 4 _ .i64 2 _ Try.underlying34 Try.sizeOf3 Try.isAgg3 (by omega) rfl
    have hi3 : ∀ w, (Instr.index 34 (.agg #[.int .i64 a, .int .i64 b, .int .i64 d, .int .i64 e]) (.int .i64 3)).run Try.prog w = .ok (.int .i64 e) w := fun w => index_arr 34 3 4 _ .i64 3 _ Try.underlying34 Try.sizeOf3 Try.isAgg3 (by omega) rfl
    go_enter Try.func58, Try.ntmps58
    go_wp2_with fail
    refine wp_loop_rounds 5 ?_
    rw [rounds_succ]
    go_wp2_with fail
    rw [rounds_succ]
    go_wp2_with fail
    rw [rounds_succ]
    go_wp2_with fail
    rw [rounds_succ]
    go_wp2_with fail
    rw [rounds_succ]
    go_wp2_with fail
    refine bodyPost_ret (v := .agg (sizesV c a b d e)) (by simp [results, Try.results58, go_sem, sizesV]) rfl ⟨rfl, ?_⟩
    exact ((((Below.refl _ _).alloc (Nat.le_refl _) _).alloc (by simp) _).alloc (by simp; omega) _).alloc (by simp; omega) _

end Go.Proofs.Ytdbnadhmkfhdkaa
