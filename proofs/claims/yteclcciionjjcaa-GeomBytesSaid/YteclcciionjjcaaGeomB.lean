/- geom.Check. -/
import Derived.Test.YteclcciionjjcaaGeomA
namespace Go.Proofs.Yteclcciionjjcaa
open Go.RowKit
set_option linter.unusedVariables false

theorem btw_true {v lo hi : Int} (h : btw v lo hi = true) : lo ≤ v ∧ v ≤ hi := by simpa [btw] using h
theorem btw_false {v lo hi : Int} (h : ¬ btw v lo hi = true) : ¬ (lo ≤ v ∧ v ≤ hi) := fun k => h (by simp [btw, k])

noncomputable def checkOf (c : Cfg) : Int := by
  classical
  exact if OkC c ∧ needOf c 0 ≤ c.blocks then 0 else 1

theorem check_no {c : Cfg} (h : ¬ OkC c) : checkOf c = 1 := by unfold checkOf; rw [if_neg (fun k => h k.1)]
theorem check_yes {c : Cfg} (h : OkC c) (h2 : needOf c 0 ≤ c.blocks) : checkOf c = 0 := by unfold checkOf; rw [if_pos ⟨h, h2⟩]
theorem check_more {c : Cfg} (h2 : ¬ needOf c 0 ≤ c.blocks) : checkOf c = 1 := by unfold checkOf; rw [if_neg (fun k => h2 k.2)]
theorem check_zero {c : Cfg} (h : checkOf c = 0) : OkC c ∧ needOf c 0 ≤ c.blocks := by
  unfold checkOf at h
  split at h
  · assumption
  · cases h

set_option maxRecDepth 100000 in
set_option maxHeartbeats 4000000 in
theorem check_any (c : Cfg) (w : World) (hwf : c.wf) :
    Calls Try.prog 9 #[.agg #[.int .i64 c.blocks, .int .i64 c.pages, .int .i64 c.sector, .int .i64 c.user, .int .i64 c.boot, .int .i64 c.rpa, .int .i64 c.group, .int .i64 c.cache, .int .i64 c.spare]] w fun x w' => x = .returned (.int .i64 (checkOf c)) ∧ Below w.heap.size w w' := by
  by_cases g0 : ¬ btw c.blocks 1 1024 = true
  · have HR : Hid (checkOf c = 1) := Lib.hid (check_no (fun k => btw_false g0 (by unfold OkC at k; omega)))
    have g0' : btw c.blocks 1 1024 = false := by simpa using g0
    go_enter Try.func9, Try.ntmps9
    go_wp2_with (go_at_call 19; refine (btw_any _ _ _ _).mono ?_; rintro e w1 ⟨rfl, rfl⟩)
    go_quiet (fail)
    go_wp2
    go_ret
    exact ⟨by rw [HR.out]; rfl, below_drewN' ((Below.refl _ _).alloc (Nat.le_refl _) _) _⟩
  have g0 : btw c.blocks 1 1024 = true := Classical.not_not.1 g0
  have k0 := btw_true g0
  obtain ⟨k0a, k0b⟩ := k0
  by_cases g1 : ¬ btw c.pages 4 256 = true
  · have HR : Hid (checkOf c = 1) := Lib.hid (check_no (fun k => btw_false g1 (by unfold OkC at k; omega)))
    have g1' : btw c.pages 4 256 = false := by simpa using g1
    go_enter Try.func9, Try.ntmps9
    go_wp2_with (go_at_call 19; refine (btw_any _ _ _ _).mono ?_; rintro e w1 ⟨rfl, rfl⟩)
    go_quiet (fail)
    go_wp2
    go_ret
    exact ⟨by rw [HR.out]; rfl, below_drewN' ((Below.refl _ _).alloc (Nat.le_refl _) _) _⟩
  have g1 : btw c.pages 4 256 = true := Classical.not_not.1 g1
  have k1 := btw_true g1
  obtain ⟨k1a, k1b⟩ := k1
  have t2 : c.pages.tmod 2 = c.pages % 2 := Int.tmod_eq_emod_of_nonneg (by omega)
  by_cases g2 : ¬ (c.pages % 2 = 0)
  · have HR : Hid (checkOf c = 1) := Lib.hid (check_no (fun k => g2 (by unfold OkC at k; obtain ⟨c1, c2, c3, c4, c5, c6, c7, c8, c9, c10, c11, c12, c13, c14, c15, c16, c17, c18, c19, c20, c21, c22⟩ := k; assumption)))
    go_enter Try.func9, Try.ntmps9
    go_wp2_with (go_at_call 19; refine (btw_any _ _ _ _).mono ?_; rintro e w1 ⟨rfl, rfl⟩)
    go_quiet (fail)
    go_wp2
    go_ret
    exact ⟨by rw [HR.out]; rfl, below_drewN' ((Below.refl _ _).alloc (Nat.le_refl _) _) _⟩
  have g2 : c.pages % 2 = 0 := Classical.not_not.1 g2
  by_cases g3 : ¬ btw c.sector 128 448 = true
  · have HR : Hid (checkOf c = 1) := Lib.hid (check_no (fun k => btw_false g3 (by unfold OkC at k; omega)))
    have g3' : btw c.sector 128 448 = false := by simpa using g3
    go_enter Try.func9, Try.ntmps9
    go_wp2_with (go_at_call 19; refine (btw_any _ _ _ _).mono ?_; rintro e w1 ⟨rfl, rfl⟩)
    go_quiet (fail)
    go_wp2
    go_ret
    exact ⟨by rw [HR.out]; rfl, below_drewN' ((Below.refl _ _).alloc (Nat.le_refl _) _) _⟩
  have g3 : btw c.sector 128 448 = true := Classical.not_not.1 g3
  have k3 := btw_true g3
  obtain ⟨k3a, k3b⟩ := k3
  have t4 : c.sector.tmod 64 = c.sector % 64 := Int.tmod_eq_emod_of_nonneg (by omega)
  by_cases g4 : ¬ (c.sector % 64 = 0)
  · have HR : Hid (checkOf c = 1) := Lib.hid (check_no (fun k => g4 (by unfold OkC at k; obtain ⟨c1, c2, c3, c4, c5, c6, c7, c8, c9, c10, c11, c12, c13, c14, c15, c16, c17, c18, c19, c20, c21, c22⟩ := k; assumption)))
    go_enter Try.func9, Try.ntmps9
    go_wp2_with (go_at_call 19; refine (btw_any _ _ _ _).mono ?_; rintro e w1 ⟨rfl, rfl⟩)
    go_quiet (fail)
    go_wp2
    go_ret
    exact ⟨by rw [HR.out]; rfl, below_drewN' ((Below.refl _ _).alloc (Nat.le_refl _) _) _⟩
  have g4 : c.sector % 64 = 0 := Classical.not_not.1 g4
  by_cases g5 : ¬ btw c.user 1 16384 = true
  · have HR : Hid (checkOf c = 1) := Lib.hid (check_no (fun k => btw_false g5 (by unfold OkC at k; omega)))
    have g5' : btw c.user 1 16384 = false := by simpa using g5
    go_enter Try.func9, Try.ntmps9
    go_wp2_with (go_at_call 19; refine (btw_any _ _ _ _).mono ?_; rintro e w1 ⟨rfl, rfl⟩)
    go_quiet (fail)
    go_wp2
    go_ret
    exact ⟨by rw [HR.out]; rfl, below_drewN' ((Below.refl _ _).alloc (Nat.le_refl _) _) _⟩
  have g5 : btw c.user 1 16384 = true := Classical.not_not.1 g5
  have k5 := btw_true g5
  obtain ⟨k5a, k5b⟩ := k5
  by_cases g6 : ¬ btw c.boot 1 256 = true
  · have HR : Hid (checkOf c = 1) := Lib.hid (check_no (fun k => btw_false g6 (by unfold OkC at k; omega)))
    have g6' : btw c.boot 1 256 = false := by simpa using g6
    go_enter Try.func9, Try.ntmps9
    go_wp2_with (go_at_call 19; refine (btw_any _ _ _ _).mono ?_; rintro e w1 ⟨rfl, rfl⟩)
    go_quiet (fail)
    go_wp2
    go_ret
    exact ⟨by rw [HR.out]; rfl, below_drewN' ((Below.refl _ _).alloc (Nat.le_refl _) _) _⟩
  have g6 : btw c.boot 1 256 = true := Classical.not_not.1 g6
  have k6 := btw_true g6
  obtain ⟨k6a, k6b⟩ := k6
  by_cases g7 : ¬ btw c.rpa 1 256 = true
  · have HR : Hid (checkOf c = 1) := Lib.hid (check_no (fun k => btw_false g7 (by unfold OkC at k; omega)))
    have g7' : btw c.rpa 1 256 = false := by simpa using g7
    go_enter Try.func9, Try.ntmps9
    go_wp2_with (go_at_call 19; refine (btw_any _ _ _ _).mono ?_; rintro e w1 ⟨rfl, rfl⟩)
    go_quiet (fail)
    go_wp2
    go_ret
    exact ⟨by rw [HR.out]; rfl, below_drewN' ((Below.refl _ _).alloc (Nat.le_refl _) _) _⟩
  have g7 : btw c.rpa 1 256 = true := Classical.not_not.1 g7
  have k7 := btw_true g7
  obtain ⟨k7a, k7b⟩ := k7
  by_cases g8 : ¬ btw c.group 1 c.user = true
  · have HR : Hid (checkOf c = 1) := Lib.hid (check_no (fun k => btw_false g8 (by unfold OkC at k; omega)))
    have g8' : btw c.group 1 c.user = false := by simpa using g8
    go_enter Try.func9, Try.ntmps9
    go_wp2_with (go_at_call 19; refine (btw_any _ _ _ _).mono ?_; rintro e w1 ⟨rfl, rfl⟩)
    go_quiet (fail)
    go_wp2
    go_ret
    exact ⟨by rw [HR.out]; rfl, below_drewN' ((Below.refl _ _).alloc (Nat.le_refl _) _) _⟩
  have g8 : btw c.group 1 c.user = true := Classical.not_not.1 g8
  have k8 := btw_true g8
  obtain ⟨k8a, k8b⟩ := k8
  have t9 : c.user.tmod c.group = c.user % c.group := Int.tmod_eq_emod_of_nonneg (by omega)
  by_cases g9 : ¬ (c.user % c.group = 0)
  · have HR : Hid (checkOf c = 1) := Lib.hid (check_no (fun k => g9 (by unfold OkC at k; obtain ⟨c1, c2, c3, c4, c5, c6, c7, c8, c9, c10, c11, c12, c13, c14, c15, c16, c17, c18, c19, c20, c21, c22⟩ := k; assumption)))
    go_enter Try.func9, Try.ntmps9
    go_wp2_with (go_at_call 19; refine (btw_any _ _ _ _).mono ?_; rintro e w1 ⟨rfl, rfl⟩)
    go_quiet (fail)
    go_wp2
    go_ret
    exact ⟨by rw [HR.out]; rfl, below_drewN' ((Below.refl _ _).alloc (Nat.le_refl _) _) _⟩
  have g9 : c.user % c.group = 0 := Classical.not_not.1 g9
  by_cases g10 : ¬ (c.user / c.group ≤ 32)
  · have HR : Hid (checkOf c = 1) := Lib.hid (check_no (fun k => g10 (by unfold OkC at k; obtain ⟨c1, c2, c3, c4, c5, c6, c7, c8, c9, c10, c11, c12, c13, c14, c15, c16, c17, c18, c19, c20, c21, c22⟩ := k; assumption)))
    go_enter Try.func9, Try.ntmps9
    go_wp2_with (go_at_call 19; refine (btw_any _ _ _ _).mono ?_; rintro e w1 ⟨rfl, rfl⟩)
    go_quiet (fail)
    go_wp2
    go_ret
    exact ⟨by rw [HR.out]; rfl, below_drewN' ((Below.refl _ _).alloc (Nat.le_refl _) _) _⟩
  have g10 : c.user / c.group ≤ 32 := Classical.not_not.1 g10
  by_cases g11 : ¬ btw c.cache 0 64 = true
  · have HR : Hid (checkOf c = 1) := Lib.hid (check_no (fun k => btw_false g11 (by unfold OkC at k; omega)))
    have g11' : btw c.cache 0 64 = false := by simpa using g11
    go_enter Try.func9, Try.ntmps9
    go_wp2_with (go_at_call 19; refine (btw_any _ _ _ _).mono ?_; rintro e w1 ⟨rfl, rfl⟩)
    go_quiet (fail)
    go_wp2
    go_ret
    exact ⟨by rw [HR.out]; rfl, below_drewN' ((Below.refl _ _).alloc (Nat.le_refl _) _) _⟩
  have g11 : btw c.cache 0 64 = true := Classical.not_not.1 g11
  have k11 := btw_true g11
  obtain ⟨k11a, k11b⟩ := k11
  by_cases g12 : ¬ btw c.spare 0 c.blocks = true
  · have HR : Hid (checkOf c = 1) := Lib.hid (check_no (fun k => btw_false g12 (by unfold OkC at k; omega)))
    have g12' : btw c.spare 0 c.blocks = false := by simpa using g12
    go_enter Try.func9, Try.ntmps9
    go_wp2_with (go_at_call 19; refine (btw_any _ _ _ _).mono ?_; rintro e w1 ⟨rfl, rfl⟩)
    go_quiet (fail)
    go_wp2
    go_ret
    exact ⟨by rw [HR.out]; rfl, below_drewN' ((Below.refl _ _).alloc (Nat.le_refl _) _) _⟩
  have g12 : btw c.spare 0 c.blocks = true := Classical.not_not.1 g12
  have k12 := btw_true g12
  obtain ⟨k12a, k12b⟩ := k12
  have hok : OkC c := by unfold OkC; refine ⟨?_, ?_, ?_, ?_, ?_, ?_, ?_, ?_, ?_, ?_, ?_, ?_, ?_, ?_, ?_, ?_, ?_, ?_, ?_, ?_, ?_, ?_⟩ <;> assumption
  have hb0 : needOf c 0 ≤ 200000 := by
    have h1 : clampOf 0 c.user = 0 := by unfold clampOf; rw [if_neg (by omega), if_neg (by omega)]
    have b1 := blocksOf_bd (c.user - 0) c.pages (by omega) (by omega)
    have b2 := blocksOf_bd (2 * c.boot + c.rpa + 0) (c.pages / 2) (by omega) (by omega)
    unfold needOf
    rw [h1]
    omega
  by_cases hn : needOf c 0 ≤ c.blocks
  · have HR : Hid (checkOf c = 0) := Lib.hid (check_yes hok hn)
    go_enter Try.func9, Try.ntmps9
    go_wp2_with (go_at_call 19; refine (btw_any _ _ _ _).mono ?_; rintro e w1 ⟨rfl, rfl⟩)
    go_region_with (go_at_call 11; refine (need_any c 0 _ hok (by unfold I64; omega)).mono ?_; rintro e w1 ⟨rfl, hb⟩; have hc0 := hb.cell (p := ⟨w.heap.size, 0, none⟩) (by simp))
    all_goals
      go_wp2
      go_ret
      exact ⟨by rw [HR.out]; rfl, by first | exact (((Below.refl w.heap.size w).alloc (Nat.le_refl _) _).drew).trans (Below.mono (by assumption) (by simp)) | exact ((Below.refl w.heap.size w).alloc (Nat.le_refl _) _).trans (Below.mono (by assumption) (by simp)) | exact (((Below.refl w.heap.size w).alloc (Nat.le_refl _) _).drew.drew).trans (Below.mono (by assumption) (by simp))⟩
  · have HR : Hid (checkOf c = 1) := Lib.hid (check_more hn)
    go_enter Try.func9, Try.ntmps9
    go_wp2_with (go_at_call 19; refine (btw_any _ _ _ _).mono ?_; rintro e w1 ⟨rfl, rfl⟩)
    go_region_with (go_at_call 11; refine (need_any c 0 _ hok (by unfold I64; omega)).mono ?_; rintro e w1 ⟨rfl, hb⟩; have hc0 := hb.cell (p := ⟨w.heap.size, 0, none⟩) (by simp))
    all_goals
      go_wp2
      go_ret
      exact ⟨by rw [HR.out]; rfl, by first | exact (((Below.refl w.heap.size w).alloc (Nat.le_refl _) _).drew).trans (Below.mono (by assumption) (by simp)) | exact ((Below.refl w.heap.size w).alloc (Nat.le_refl _) _).trans (Below.mono (by assumption) (by simp)) | exact (((Below.refl w.heap.size w).alloc (Nat.le_refl _) _).drew.drew).trans (Below.mono (by assumption) (by simp))⟩

end Go.Proofs.Yteclcciionjjcaa
