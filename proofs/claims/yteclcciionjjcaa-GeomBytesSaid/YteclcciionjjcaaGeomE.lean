/- GeomSplits: the plain law of Need; known. -/
import Derived.Test.YteclcciionjjcaaGeomD
namespace Go.Proofs.Yteclcciionjjcaa
open Go.RowKit
set_option linter.unusedVariables false

theorem up_le (x b : Int) (hb : 1 ≤ b) : x ≤ upOf x b * b := by
  unfold upOf
  have h := Int.lt_ediv_add_one_mul_self (x + b - 1) (show 0 < b by omega)
  rw [Int.add_mul] at h
  omega
theorem up_lt (x b : Int) (hb : 1 ≤ b) : upOf x b * b ≤ x + b - 1 := by
  unfold upOf
  exact Int.ediv_mul_le _ (by omega)
theorem up_le_of {x b q : Int} (hb : 1 ≤ b) (h : x ≤ q * b) : upOf x b ≤ q := by
  unfold upOf
  have : (x + b - 1) / b < q + 1 := by
    rw [Int.ediv_lt_iff_lt_mul (by omega), Int.add_mul]
    omega
  omega
theorem le_up_of {x b q : Int} (hb : 1 ≤ b) (h : q * b ≤ x + b - 1) : q ≤ upOf x b := by
  unfold upOf
  exact (Int.le_ediv_iff_mul_le (by omega)).2 h

theorem up_add (x d b : Int) (hb : 1 ≤ b) : upOf (x + d) b ≤ upOf x b + upOf d b := by
  refine up_le_of hb ?_
  rw [Int.add_mul]
  have := up_le x b hb
  have := up_le d b hb
  omega
theorem up_sub (y d b : Int) (hb : 1 ≤ b) : upOf y b + d / b ≤ upOf (y + d) b := by
  refine le_up_of hb ?_
  rw [Int.add_mul]
  have := up_lt y b hb
  have := Int.ediv_mul_le d (show b ≠ 0 by omega)
  omega
theorem up_half (d h : Int) (hd : 0 ≤ d) (hh : 1 ≤ h) : upOf d (2 * h) ≤ (d / h + 2) / 2 := by
  refine up_le_of (by omega) ?_
  have h1 := Int.lt_ediv_add_one_mul_self d (show 0 < h by omega)
  have h2 : (d / h + 1) * h ≤ ((d / h + 2) / 2 * 2) * h := Int.mul_le_mul_of_nonneg_right (by omega) (by omega)
  rw [show (d / h + 2) / 2 * (2 * h) = ((d / h + 2) / 2 * 2) * h from by rw [Int.mul_assoc]]
  omega

theorem need_mono (c : Cfg) (n m : Int) (hok : OkC c) (h0 : 0 ≤ n) (h1 : n ≤ m) (h2 : m ≤ c.user) : needOf c n ≤ needOf c m + 3 := by
  obtain ⟨c1, c2, c3, c4, c5, c6, c7, c8, c9, c10, c11, c12, c13, c14, c15, c16, c17, c18, c19, c20, c21, c22⟩ := hok
  have e1 : clampOf n c.user = n := by unfold clampOf; rw [if_neg (by omega), if_neg (by omega)]
  have e2 : clampOf m c.user = m := by unfold clampOf; rw [if_neg (by omega), if_neg (by omega)]
  unfold needOf blocksOf
  rw [e1, e2]
  have hp : c.pages = 2 * (c.pages / 2) := by omega
  have a1 := up_add (c.user - m) (m - n) c.pages (by omega)
  have a2 := up_sub (2 * c.boot + c.rpa + n) (m - n) (c.pages / 2) (by omega)
  have a3 := up_half (m - n) (c.pages / 2) (by omega) (by omega)
  rw [← hp] at a3
  rw [show c.user - m + (m - n) = c.user - n from by omega] at a1
  rw [show 2 * c.boot + c.rpa + n + (m - n) = 2 * c.boot + c.rpa + m from by omega] at a2
  have p1 := (upOf_bd (c.user - n) c.pages (by omega) (by omega)).1
  have p2 := (upOf_bd (c.user - m) c.pages (by omega) (by omega)).1
  have p3 := (upOf_bd (2 * c.boot + c.rpa + n) (c.pages / 2) (by omega) (by omega)).1
  have p4 : 0 ≤ (m - n) / (c.pages / 2) := Int.ediv_nonneg (by omega) (by omega)
  generalize upOf (c.user - n) c.pages = u1 at *
  generalize upOf (c.user - m) c.pages = v1 at *
  generalize upOf (2 * c.boot + c.rpa + n) (c.pages / 2) = u2 at *
  generalize upOf (2 * c.boot + c.rpa + m) (c.pages / 2) = v2 at *
  generalize upOf (m - n) c.pages = A at *
  generalize (m - n) / (c.pages / 2) = F at *
  unfold upOf
  omega

def shapeC : Cfg := ⟨70, 16, 128, 256, 8, 8, 16, 8, 2⟩
theorem shape_ok : OkC shapeC := by unfold OkC shapeC; decide
theorem shape_wf : shapeC.wf := by unfold Cfg.wf shapeC I64; decide
theorem shape_need : needOf shapeC 0 = 55 := by decide
theorem shape_check : checkOf shapeC = 0 := check_yes shape_ok (by rw [shape_need]; decide)

theorem chunks_any (c : Cfg) (w : World) (h : 0 ≤ c.sector ∧ c.sector ≤ 1000) :
    Calls Try.prog 13 #[.agg #[.int .i64 c.blocks, .int .i64 c.pages, .int .i64 c.sector, .int .i64 c.user, .int .i64 c.boot, .int .i64 c.rpa, .int .i64 c.group, .int .i64 c.cache, .int .i64 c.spare]] w fun x w' => x = .returned (.int .i64 (upOf (c.sector + 64) 64)) ∧ Below w.heap.size w w' := by
  obtain ⟨h1, h2⟩ := h
  go_enter Try.func13, Try.ntmps13
  go_wp2_with (go_at_call 21; refine (up_any _ _ _ ?_ ?_ ?_ ?_).mono ?_; omega; omega; omega; omega; rintro e w1 ⟨rfl, rfl⟩)
  go_ret
  exact ⟨rfl, (Below.refl _ _).alloc (Nat.le_refl _) _⟩

theorem shape_any (w : World) : Calls Try.prog 10 #[] w fun x w' => x = .returned (.agg #[.int .i64 70, .int .i64 16, .int .i64 128, .int .i64 256, .int .i64 8, .int .i64 8, .int .i64 16, .int .i64 8, .int .i64 2]) ∧ Below w.heap.size w w' := by
  go_enter Try.func10, Try.ntmps10
  go_wp2
  exact bodyPost_ret (v := .agg #[.int .i64 70, .int .i64 16, .int .i64 128, .int .i64 256, .int .i64 8, .int .i64 8, .int .i64 16, .int .i64 8, .int .i64 2]) (by simp [results, Try.results10, go_sem]) rfl ⟨rfl, (Below.refl _ _).alloc (Nat.le_refl _) _⟩

set_option maxRecDepth 100000 in
set_option maxHeartbeats 4000000 in
theorem gknown_any (w : World) : Calls Try.prog 4 #[] w fun e w' => e = .returned (.bool true) ∧ Below w.heap.size w w' := by
  have hch : upOf (shapeC.sector + 64) 64 = 3 := by decide
  have hgr : shapeC.user / shapeC.group = 16 := by decide
  go_enter Try.func4, Try.ntmps4
  go_wp2_with fail
  refine (shape_any _).mono ?_
  rintro e w1 ⟨rfl, hb1⟩
  go_wp2_with fail
  refine (check_any shapeC _ shape_wf).mono ?_
  rintro e w2 ⟨rfl, hb2⟩
  rw [shape_check]
  have hB2 := below_call (below_new hb1 hb1.size _) hb2 (by simp; have := hb1.size; omega)
  have n2 := (HasB.new w1 _ _).below hb2 (by simp)
  obtain ⟨l2, x0, x1, x2, x3, x4, x5, x6, x7, x8⟩ := HasB.nine n2
  go_wp2_with fail
  refine (need_any shapeC 0 _ shape_ok (by unfold I64; omega)).mono ?_
  rintro e w3 ⟨rfl, hb3⟩
  rw [shape_need]
  have hB3 := below_call hB2 hb3 hB2.size
  have n3 := n2.below hb3 l2
  obtain ⟨l3, y0, y1, y2, y3, y4, y5, y6, y7, y8⟩ := HasB.nine n3
  go_wp2_with fail
  refine (groups_any shapeC _ shape_ok).mono ?_
  rintro e w4 ⟨rfl, hb4⟩
  rw [hgr]
  have hB4 := below_call hB3 hb4 hB3.size
  have n4 := n3.below hb4 l3
  obtain ⟨l4, z0, z1, z2, z3, z4, z5, z6, z7, z8⟩ := HasB.nine n4
  go_wp2_with fail
  refine (chunks_any shapeC _ (by unfold shapeC; decide)).mono ?_
  rintro e w5 ⟨rfl, hb5⟩
  rw [hch]
  have hB5 := below_call hB4 hb5 hB4.size
  go_wp2_with fail
  go_ret
  exact ⟨rfl, hB5⟩

end Go.Proofs.Yteclcciionjjcaa
