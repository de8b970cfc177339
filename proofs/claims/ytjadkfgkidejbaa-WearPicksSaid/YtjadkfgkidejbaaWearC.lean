/- wear.Block by value: Right, closed, the choices' tests. -/
import Derived.Test.YtjadkfgkidejbaaStructs
import Derived.Test.YtjadkfgkidejbaaWearA
namespace Go.Proofs.Ytjadkfgkidejbaa
open Go.RowKit
set_option linter.unusedVariables false

structure Blk where
  n : Int
  live : Int
  pages : Int
  worn : Int
  op : Bool
  one : Bool
  bad : Bool

def Blk.cells (b : Blk) : List Value := [.int .i64 b.n, .int .i64 b.live, .int .i64 b.pages, .int .i64 b.worn, .bool b.op, .bool b.one, .bool b.bad]
def Blk.wf (b : Blk) : Prop := I64 b.n ∧ I64 b.live ∧ I64 b.pages ∧ I64 b.worn
def Blk.zero : Blk := ⟨0, 0, 0, 0, false, false, false⟩

/-- A block that may be. -/
def rightB (b : Blk) : Bool := decide (0 ≤ b.n) && decide (1 ≤ b.pages) && decide (b.pages ≤ 256) && decide (0 ≤ b.live) && decide (b.live ≤ b.pages) && decide (0 ≤ b.worn) && decide (b.worn ≤ 1073741824)
def closedB (b : Blk) : Bool := !b.op && !b.bad

theorem right_any (b : Blk) (w : World) : Calls Try.prog 37 #[.agg #[.int .i64 b.n, .int .i64 b.live, .int .i64 b.pages, .int .i64 b.worn, .bool b.op, .bool b.one, .bool b.bad]] w fun e w' => e = .returned (.bool (rightB b)) ∧ Below w.heap.size w w' := by
  go_enter Try.func37, Try.ntmps37
  go_wp2
  all_goals
    go_ret
    exact ⟨by (first | (simp [rightB, *]; done) | (simp [rightB, *]; omega)), (Below.refl _ _).alloc (Nat.le_refl _) _⟩


theorem closed_any (b : Blk) (w : World) : Calls Try.prog 96 #[.agg #[.int .i64 b.n, .int .i64 b.live, .int .i64 b.pages, .int .i64 b.worn, .bool b.op, .bool b.one, .bool b.bad]] w fun e w' => e = .returned (.bool (closedB b)) ∧ Below w.heap.size w w' := by
  go_enter Try.func96, Try.ntmps96
  go_wp2
  all_goals
    go_ret
    exact ⟨by simp [closedB, *], (Below.refl _ _).alloc (Nat.le_refl _) _⟩

def emptyB (b : Blk) : Bool := closedB b && decide (b.live = 0)
def aheadV (a b : Blk) : Bool := if a.live * b.pages = b.live * a.pages then (if a.worn = b.worn then decide (a.n < b.n) else decide (a.worn < b.worn)) else decide (a.live * b.pages < b.live * a.pages)
def aheadF (one : Bool) (a b : Blk) : Bool := if a.worn = b.worn then (if a.one = b.one then decide (a.n < b.n) else (a.one == one)) else decide (a.worn < b.worn)

theorem rightB_bd {b : Blk} (h : rightB b = true) : 0 ≤ b.n ∧ 1 ≤ b.pages ∧ b.pages ≤ 256 ∧ 0 ≤ b.live ∧ b.live ≤ b.pages ∧ 0 ≤ b.worn ∧ b.worn ≤ 1073741824 := by
  simp [rightB] at h
  omega

theorem empty_any (b : Blk) (w : World) : Calls Try.prog 100 #[.agg #[.int .i64 b.n, .int .i64 b.live, .int .i64 b.pages, .int .i64 b.worn, .bool b.op, .bool b.one, .bool b.bad]] w fun e w' => e = .returned (.bool (emptyB b)) ∧ Below w.heap.size w w' := by
  cases hc : closedB b
  all_goals
    go_enter Try.func100, Try.ntmps100
    go_wp2_with (go_at_call 96; refine (closed_any b _).mono ?_; rintro e w1 ⟨rfl, hb⟩; rw [hc]; have hcl := hb.cell (p := ⟨w.heap.size, 1, none⟩) (by simp))
    all_goals
      go_ret
      exact ⟨by (simp [emptyB, *]; try rfl), ((Below.refl _ _).alloc (Nat.le_refl _) _).trans (hb.mono (by simp))⟩

theorem aheadF_any (one : Bool) (a b : Blk) (Bo : Nat) (w : World) (hB : Bo < w.heap.size) (hone : w.cell? ⟨Bo, 0, none⟩ = some (.bool one)) :
    Calls Try.prog 101 #[.agg #[.int .i64 a.n, .int .i64 a.live, .int .i64 a.pages, .int .i64 a.worn, .bool a.op, .bool a.one, .bool a.bad], .agg #[.int .i64 b.n, .int .i64 b.live, .int .i64 b.pages, .int .i64 b.worn, .bool b.op, .bool b.one, .bool b.bad], .pointer (some ⟨Bo, 0, none⟩)] w fun e w' => e = .returned (.bool (aheadF one a b)) ∧ Below w.heap.size w w' := by
  go_enter Try.func101, Try.ntmps101
  go_wp2
  all_goals
    go_ret
    exact ⟨by simp_all [aheadF], ((Below.refl _ _).alloc (Nat.le_refl _) _).alloc (by simp) _⟩

theorem aheadV_any (a b : Blk) (w : World) (ha : rightB a = true) (hb : rightB b = true) :
    Calls Try.prog 97 #[.agg #[.int .i64 a.n, .int .i64 a.live, .int .i64 a.pages, .int .i64 a.worn, .bool a.op, .bool a.one, .bool a.bad], .agg #[.int .i64 b.n, .int .i64 b.live, .int .i64 b.pages, .int .i64 b.worn, .bool b.op, .bool b.one, .bool b.bad]] w fun e w' => e = .returned (.bool (aheadV a b)) ∧ Below w.heap.size w w' := by
  obtain ⟨a1, a2, a3, a4, a5, a6, a7⟩ := rightB_bd ha
  obtain ⟨b1, b2, b3, b4, b5, b6, b7⟩ := rightB_bd hb
  have m1 : 0 ≤ a.live * b.pages := Int.mul_nonneg a4 (by omega)
  have m2 : a.live * b.pages ≤ 256 * 256 := Int.mul_le_mul (by omega) b3 (by omega) (by omega)
  have m3 : 0 ≤ b.live * a.pages := Int.mul_nonneg b4 (by omega)
  have m4 : b.live * a.pages ≤ 256 * 256 := Int.mul_le_mul (by omega) a3 (by omega) (by omega)
  go_enter Try.func97, Try.ntmps97
  go_wp2
  go_quiet (fail)
  all_goals (try go_wp2)
  all_goals
    go_ret
    exact ⟨by simp_all [aheadV], below_drewN' (((Below.refl _ _).alloc (Nat.le_refl _) _).alloc (by simp) _) _⟩

end Go.Proofs.Ytjadkfgkidejbaa
