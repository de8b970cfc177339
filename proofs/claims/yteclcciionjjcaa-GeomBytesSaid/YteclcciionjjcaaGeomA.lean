/- geom: a shape by value; up, blocks, between, Need, Check. -/
import Derived.Test.YteclcciionjjcaaStructs
namespace Go.Proofs.Yteclcciionjjcaa
open Go.RowKit
set_option linter.unusedVariables false

structure Cfg where
  blocks : Int
  pages : Int
  sector : Int
  user : Int
  boot : Int
  rpa : Int
  group : Int
  cache : Int
  spare : Int

def Cfg.cells (c : Cfg) : List Value := [.int .i64 c.blocks, .int .i64 c.pages, .int .i64 c.sector, .int .i64 c.user, .int .i64 c.boot, .int .i64 c.rpa, .int .i64 c.group, .int .i64 c.cache, .int .i64 c.spare]
def Cfg.wf (c : Cfg) : Prop := I64 c.blocks ∧ I64 c.pages ∧ I64 c.sector ∧ I64 c.user ∧ I64 c.boot ∧ I64 c.rpa ∧ I64 c.group ∧ I64 c.cache ∧ I64 c.spare

def btw (v lo hi : Int) : Bool := decide (lo ≤ v) && decide (v ≤ hi)
def upOf (n b : Int) : Int := (n + b - 1) / b
def blocksOf (n p : Int) : Int := upOf n p + upOf (upOf n p) 2
def clampOf (e u : Int) : Int := if e < 0 then 0 else if u < e then u else e
def needOf (c : Cfg) (e : Int) : Int := blocksOf (c.user - clampOf e c.user) c.pages + blocksOf (2 * c.boot + c.rpa + clampOf e c.user) (c.pages / 2) + 24 + c.spare
def OkC (c : Cfg) : Prop := 1 ≤ c.blocks ∧ c.blocks ≤ 1024 ∧ 4 ≤ c.pages ∧ c.pages ≤ 256 ∧ c.pages % 2 = 0 ∧ 128 ≤ c.sector ∧ c.sector ≤ 448 ∧ c.sector % 64 = 0 ∧ 1 ≤ c.user ∧ c.user ≤ 16384 ∧ 1 ≤ c.boot ∧ c.boot ≤ 256 ∧ 1 ≤ c.rpa ∧ c.rpa ≤ 256 ∧
  1 ≤ c.group ∧ c.group ≤ c.user ∧ c.user % c.group = 0 ∧ c.user / c.group ≤ 32 ∧ 0 ≤ c.cache ∧ c.cache ≤ 64 ∧ 0 ≤ c.spare ∧ c.spare ≤ c.blocks

theorem wr64 (n : Int) (h1 : -9223372036854775808 ≤ n) (h2 : n ≤ 9223372036854775807) : IntKind.i64.wrap n = n := by rw [IntKind.wrap_i64]; omega

theorem btw_any (v lo hi : Int) (w : World) : Calls Try.prog 19 #[.int .i64 v, .int .i64 lo, .int .i64 hi] w fun e w' => e = .returned (.bool (btw v lo hi)) ∧ w = w' := by
  by_cases h : lo ≤ v
  all_goals
    go_enter Try.func19, Try.ntmps19
    go_wp2
    go_ret
    exact ⟨by (first | (simp [btw, h]; done) | (simp [btw]; omega)), rfl⟩

theorem up_any (n b : Int) (w : World) (h1 : 0 ≤ n) (h2 : n ≤ 1099511627776) (h3 : 1 ≤ b) (h4 : b ≤ 1099511627776) : Calls Try.prog 21 #[.int .i64 n, .int .i64 b] w fun e w' => e = .returned (.int .i64 (upOf n b)) ∧ w = w' := by
  have h5 : ¬ b = 0 := by omega
  go_enter Try.func21, Try.ntmps21
  go_wp2
  go_ret
  exact ⟨rfl, rfl⟩

theorem upOf_bd (n b : Int) (h1 : 0 ≤ n) (h3 : 1 ≤ b) : 0 ≤ upOf n b ∧ upOf n b ≤ n := by
  unfold upOf
  refine ⟨Int.ediv_nonneg (by omega) (by omega), ?_⟩
  have : (n + b - 1) / b ≤ n ↔ (n + b - 1) < (n + 1) * b := by rw [← Int.ediv_lt_iff_lt_mul (by omega)]; omega
  rw [this]
  have : n * 1 ≤ n * b := Int.mul_le_mul_of_nonneg_left h3 h1
  rw [Int.add_mul]
  omega

theorem blocks_any (n p : Int) (w : World) (h1 : 0 ≤ n) (h2 : n ≤ 1099511627776) (h3 : 1 ≤ p) (h4 : p ≤ 1099511627776) : Calls Try.prog 20 #[.int .i64 n, .int .i64 p] w fun e w' => e = .returned (.int .i64 (blocksOf n p)) ∧ w = w' := by
  obtain ⟨u1, u2⟩ := upOf_bd n p h1 h3
  obtain ⟨u3, u4⟩ := upOf_bd (upOf n p) 2 u1 (by omega)
  go_enter Try.func20, Try.ntmps20
  go_wp2_with (go_at_call 21; refine (up_any _ _ _ ?_ ?_ ?_ ?_).mono ?_; omega; omega; omega; omega; rintro e w1 ⟨rfl, rfl⟩)
  go_ret
  exact ⟨rfl, rfl⟩

theorem blocksOf_bd (n p : Int) (h1 : 0 ≤ n) (h3 : 1 ≤ p) : 0 ≤ blocksOf n p ∧ blocksOf n p ≤ 2 * n := by
  obtain ⟨u1, u2⟩ := upOf_bd n p h1 h3
  obtain ⟨u3, u4⟩ := upOf_bd (upOf n p) 2 u1 (by omega)
  unfold blocksOf
  omega

set_option maxRecDepth 100000 in
set_option maxHeartbeats 1000000 in
theorem need_any (c : Cfg) (e : Int) (w : World) (hok : OkC c) (he : I64 e) :
    Calls Try.prog 11 #[.agg #[.int .i64 c.blocks, .int .i64 c.pages, .int .i64 c.sector, .int .i64 c.user, .int .i64 c.boot, .int .i64 c.rpa, .int .i64 c.group, .int .i64 c.cache, .int .i64 c.spare], .int .i64 e] w fun x w' => x = .returned (.int .i64 (needOf c e)) ∧ Below w.heap.size w w' := by
  obtain ⟨c1, c2, c3, c4, c5, c6, c7, c8, c9, c10, c11, c12, c13, c14, c15, c16, c17, c18, c19, c20, c21, c22⟩ := hok
  have hcl : 0 ≤ clampOf e c.user ∧ clampOf e c.user ≤ c.user := by unfold clampOf; split <;> (try split) <;> omega
  have b1 := blocksOf_bd (c.user - clampOf e c.user) c.pages (by omega) (by omega)
  have b2 := blocksOf_bd (2 * c.boot + c.rpa + clampOf e c.user) (c.pages / 2) (by omega) (by omega)
  obtain ⟨cl, hcl'⟩ : ∃ cl, cl = clampOf e c.user := ⟨_, rfl⟩
  by_cases he0 : e < 0
  · have hX : clampOf e c.user = 0 := by unfold clampOf; rw [if_pos he0]
    have eA : c.user - 0 = c.user := by omega
    have eB : 2 * c.boot + c.rpa + 0 = 2 * c.boot + c.rpa := by omega
    rw [hX] at hcl b1 b2
    rw [eA] at b1
    rw [eB] at b2
    have q1 := wr64 (c.user) (by omega) (by omega)
    have q2 := wr64 (2 * c.boot) (by omega) (by omega)
    have q3 := wr64 (2 * c.boot + c.rpa) (by omega) (by omega)
    have q4 := wr64 (2 * c.boot + c.rpa) (by omega) (by omega)
    have q5 : c.pages.tdiv 2 = c.pages / 2 := Int.tdiv_eq_ediv_of_nonneg (by omega)
    have q6 := wr64 (c.pages / 2) (by omega) (by omega)
    obtain ⟨m1, M1⟩ : ∃ m1, Hid (blocksOf (c.user) c.pages = m1) := ⟨_, Lib.hid rfl⟩
    obtain ⟨m2, M2⟩ : ∃ m2, Hid (blocksOf (2 * c.boot + c.rpa) (c.pages / 2) = m2) := ⟨_, Lib.hid rfl⟩
    rw [M1.out] at b1
    rw [M2.out] at b2
    have q7 := wr64 (m1 + m2) (by omega) (by omega)
    have q8 := wr64 (m1 + m2 + 24) (by omega) (by omega)
    have q9 := wr64 (m1 + m2 + 24 + c.spare) (by omega) (by omega)
    have HN : Hid (needOf c e = m1 + m2 + 24 + c.spare) := Lib.hid (by unfold needOf; rw [hX, eA, eB, M1.out, M2.out])
    have N1 := M1.out
    have N2 := M2.out
    clear hX eA eB
    go_enter Try.func11, Try.ntmps11
    go_wp2_with fail
    go_quiet ((go_at_call 20; exact quietC (blocks_any _ _ _ (by omega) (by omega) (by omega) (by omega))))
    go_wp2_with fail
    go_ret
    exact ⟨by rw [HN.out]; rfl, below_drewN' ((Below.refl _ _).alloc (Nat.le_refl _) _) _⟩
  · by_cases heu : c.user < e
    · have hX : clampOf e c.user = c.user := by unfold clampOf; rw [if_neg he0, if_pos heu]
      have eA : c.user - c.user = 0 := by omega
      have eB : 2 * c.boot + c.rpa + c.user = 2 * c.boot + c.rpa + c.user := by omega
      rw [hX] at hcl b1 b2
      rw [eA] at b1
      rw [eB] at b2
      have q1 := wr64 (0) (by omega) (by omega)
      have q2 := wr64 (2 * c.boot) (by omega) (by omega)
      have q3 := wr64 (2 * c.boot + c.rpa) (by omega) (by omega)
      have q4 := wr64 (2 * c.boot + c.rpa + c.user) (by omega) (by omega)
      have q5 : c.pages.tdiv 2 = c.pages / 2 := Int.tdiv_eq_ediv_of_nonneg (by omega)
      have q6 := wr64 (c.pages / 2) (by omega) (by omega)
      obtain ⟨m1, M1⟩ : ∃ m1, Hid (blocksOf (0) c.pages = m1) := ⟨_, Lib.hid rfl⟩
      obtain ⟨m2, M2⟩ : ∃ m2, Hid (blocksOf (2 * c.boot + c.rpa + c.user) (c.pages / 2) = m2) := ⟨_, Lib.hid rfl⟩
      rw [M1.out] at b1
      rw [M2.out] at b2
      have q7 := wr64 (m1 + m2) (by omega) (by omega)
      have q8 := wr64 (m1 + m2 + 24) (by omega) (by omega)
      have q9 := wr64 (m1 + m2 + 24 + c.spare) (by omega) (by omega)
      have HN : Hid (needOf c e = m1 + m2 + 24 + c.spare) := Lib.hid (by unfold needOf; rw [hX, eA, eB, M1.out, M2.out])
      have N1 := M1.out
      have N2 := M2.out
      clear hX eA eB
      go_enter Try.func11, Try.ntmps11
      go_wp2_with fail
      go_quiet ((go_at_call 20; exact quietC (blocks_any _ _ _ (by omega) (by omega) (by omega) (by omega))))
      go_wp2_with fail
      go_ret
      exact ⟨by rw [HN.out]; rfl, below_drewN' ((Below.refl _ _).alloc (Nat.le_refl _) _) _⟩
    · have hX : clampOf e c.user = e := by unfold clampOf; rw [if_neg he0, if_neg heu]
      have eA : c.user - e = c.user - e := by omega
      have eB : 2 * c.boot + c.rpa + e = 2 * c.boot + c.rpa + e := by omega
      rw [hX] at hcl b1 b2
      rw [eA] at b1
      rw [eB] at b2
      have q1 := wr64 (c.user - e) (by omega) (by omega)
      have q2 := wr64 (2 * c.boot) (by omega) (by omega)
      have q3 := wr64 (2 * c.boot + c.rpa) (by omega) (by omega)
      have q4 := wr64 (2 * c.boot + c.rpa + e) (by omega) (by omega)
      have q5 : c.pages.tdiv 2 = c.pages / 2 := Int.tdiv_eq_ediv_of_nonneg (by omega)
      have q6 := wr64 (c.pages / 2) (by omega) (by omega)
      obtain ⟨m1, M1⟩ : ∃ m1, Hid (blocksOf (c.user - e) c.pages = m1) := ⟨_, Lib.hid rfl⟩
      obtain ⟨m2, M2⟩ : ∃ m2, Hid (blocksOf (2 * c.boot + c.rpa + e) (c.pages / 2) = m2) := ⟨_, Lib.hid rfl⟩
      rw [M1.out] at b1
      rw [M2.out] at b2
      have q7 := wr64 (m1 + m2) (by omega) (by omega)
      have q8 := wr64 (m1 + m2 + 24) (by omega) (by omega)
      have q9 := wr64 (m1 + m2 + 24 + c.spare) (by omega) (by omega)
      have HN : Hid (needOf c e = m1 + m2 + 24 + c.spare) := Lib.hid (by unfold needOf; rw [hX, eA, eB, M1.out, M2.out])
      have N1 := M1.out
      have N2 := M2.out
      clear hX eA eB
      go_enter Try.func11, Try.ntmps11
      go_wp2_with fail
      go_quiet ((go_at_call 20; exact quietC (blocks_any _ _ _ (by omega) (by omega) (by omega) (by omega))))
      go_wp2_with fail
      go_ret
      exact ⟨by rw [HN.out]; rfl, below_drewN' ((Below.refl _ _).alloc (Nat.le_refl _) _) _⟩

end Go.Proofs.Yteclcciionjjcaa
