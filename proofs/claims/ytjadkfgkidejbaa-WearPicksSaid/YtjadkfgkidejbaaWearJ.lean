/- The reference's tests of blocks: Right, may, better, fresher. -/
import Derived.Test.YtjadkfgkidejbaaWearF
namespace Go.Proofs.Ytjadkfgkidejbaa
open Go.RowKit
set_option linter.unusedVariables false

theorem rright_any (n l p o : Int) (x y z : Bool) (w : World) : Calls Try.prog 38 #[.agg #[.int .i64 n, .int .i64 l, .int .i64 p, .int .i64 o, .bool x, .bool y, .bool z]] w fun e w' => e = .returned (.bool (rightB ⟨n, l, p, o, x, y, z⟩)) ∧ Below w.heap.size w w' := by
  go_enter Try.func38, Try.ntmps38
  go_wp2
  all_goals
    go_ret
    exact ⟨by (first | (simp [rightB, *]; done) | (simp [rightB, *]; omega)), (Below.refl _ _).alloc (Nat.le_refl _) _⟩

theorem rmay_any (b : Blk) (w : World) : Calls Try.prog 98 #[.agg #[.int .i64 b.n, .int .i64 b.live, .int .i64 b.pages, .int .i64 b.worn, .bool b.op, .bool b.one, .bool b.bad]] w fun e w' => e = .returned (.bool (okB b)) ∧ Below w.heap.size w w' := by
  cases hr : rightB b
  all_goals
    have HQ : Hid (∀ x y v, rightB ⟨b.n, b.live, b.pages, b.worn, x, y, v⟩ = rightB b) := Lib.hid fun _ _ _ => rfl
    go_enter Try.func98, Try.ntmps98
    go_wp2_with (go_at_call 38; refine (rright_any _ _ _ _ _ _ _ _).mono ?_; rintro e w1 ⟨rfl, hb⟩; rw [HQ.out, hr]; have hc4 := hb.cell (p := ⟨w.heap.size, 4, none⟩) (by simp); have hc6 := hb.cell (p := ⟨w.heap.size, 6, none⟩) (by simp))
    all_goals
      go_ret
      exact ⟨by simp [okB, closedB, *], ((Below.refl _ _).alloc (Nat.le_refl _) _).trans (hb.mono (by simp))⟩

theorem rbetter_any (a b : Blk) (w : World) (ha : rightB a = true) (hb : rightB b = true) :
    Calls Try.prog 99 #[.agg #[.int .i64 a.n, .int .i64 a.live, .int .i64 a.pages, .int .i64 a.worn, .bool a.op, .bool a.one, .bool a.bad], .agg #[.int .i64 b.n, .int .i64 b.live, .int .i64 b.pages, .int .i64 b.worn, .bool b.op, .bool b.one, .bool b.bad]] w fun e w' => e = .returned (.bool (aheadV a b)) ∧ Below w.heap.size w w' := by
  obtain ⟨a1, a2, a3, a4, a5, a6, a7⟩ := rightB_bd ha
  obtain ⟨b1, b2, b3, b4, b5, b6, b7⟩ := rightB_bd hb
  have m1 : 0 ≤ a.live * b.pages := Int.mul_nonneg a4 (by omega)
  have m2 : a.live * b.pages ≤ 256 * 256 := Int.mul_le_mul (by omega) b3 (by omega) (by omega)
  have m3 : 0 ≤ b.live * a.pages := Int.mul_nonneg b4 (by omega)
  have m4 : b.live * a.pages ≤ 256 * 256 := Int.mul_le_mul (by omega) a3 (by omega) (by omega)
  go_enter Try.func99, Try.ntmps99
  go_wp2
  all_goals
    go_ret
    exact ⟨by simp_all [aheadV], ((Below.refl _ _).alloc (Nat.le_refl _) _).alloc (by simp) _⟩

theorem rfresher_any (one : Bool) (a b : Blk) (w : World) :
    Calls Try.prog 102 #[.agg #[.int .i64 a.n, .int .i64 a.live, .int .i64 a.pages, .int .i64 a.worn, .bool a.op, .bool a.one, .bool a.bad], .agg #[.int .i64 b.n, .int .i64 b.live, .int .i64 b.pages, .int .i64 b.worn, .bool b.op, .bool b.one, .bool b.bad], .bool one] w fun e w' => e = .returned (.bool (aheadF one a b)) ∧ Below w.heap.size w w' := by
  go_enter Try.func102, Try.ntmps102
  go_wp2
  all_goals
    go_ret
    exact ⟨by simp_all [aheadF], ((Below.refl _ _).alloc (Nat.le_refl _) _).alloc (by simp) _⟩

end Go.Proofs.Ytjadkfgkidejbaa
