/- the reference's plain, Need, Check of any shape. -/
import Derived.Test.YteclcciionjjcaaAreasI
namespace Go.Proofs.Yteclcciionjjcaa
open Go Go.RowKit
set_option linter.unusedVariables false

theorem btw_t {v lo hi : Int} (h : lo ≤ v ∧ v ≤ hi) : btw v lo hi = true := by simp [btw, h.1, h.2]
theorem btw_f {v lo hi : Int} (h : ¬ (lo ≤ v ∧ v ≤ hi)) : btw v lo hi = false := by
  unfold btw
  by_cases h1 : lo ≤ v
  · have h2 : ¬ v ≤ hi := fun k => h ⟨h1, k⟩
    simp [h2]
  · simp [h1]
set_option maxRecDepth 100000 in
set_option maxHeartbeats 8000000 in
theorem rplain_no (c : Cfg) (w : World) (hok : ¬ OkC c) :
    Calls Try.prog 24 #[.agg #[.int .i64 c.blocks, .int .i64 c.pages, .int .i64 c.sector, .int .i64 c.user, .int .i64 c.boot, .int .i64 c.rpa, .int .i64 c.group, .int .i64 c.cache, .int .i64 c.spare]] w fun x w' => x = .returned (.bool false) ∧ Below w.heap.size w w' := by
  have HB : Hid (∀ A, Below w.heap.size w (w.alloc A)) := Lib.hid (fun A => (Below.refl _ _).alloc (Nat.le_refl _) A)
  by_cases h0 : (1 ≤ c.blocks ∧ c.blocks ≤ 1024)
  rotate_left
  · have b0 : btw c.blocks 1 1024 = false := btw_f h0
    clear hok h0
    go_enter Try.func24, Try.ntmps24
    go_wp2_with (go_at_call 26; refine (rin_any _ _ _ _).mono ?_; rintro e w1 ⟨rfl, rfl⟩)
    go_ret
    exact ⟨rfl, HB.out _⟩
  have b0 : btw c.blocks 1 1024 = true := btw_t h0
  by_cases h1 : (4 ≤ c.pages ∧ c.pages ≤ 256)
  rotate_left
  · have b1 : btw c.pages 4 256 = false := btw_f h1
    clear hok h1
    go_enter Try.func24, Try.ntmps24
    go_wp2_with (go_at_call 26; refine (rin_any _ _ _ _).mono ?_; rintro e w1 ⟨rfl, rfl⟩)
    go_ret
    exact ⟨rfl, HB.out _⟩
  have b1 : btw c.pages 4 256 = true := btw_t h1
  have e2 : c.pages.tmod 2 = c.pages % 2 := Int.tmod_eq_emod_of_nonneg (by omega)
  by_cases h2 : c.pages % 2 = 0
  rotate_left
  · have b2 : ((c.pages % 2) == 0) = false := by simp [h2]
    have b2p : ¬ c.pages % 2 = 0 := h2
    clear hok
    go_enter Try.func24, Try.ntmps24
    go_wp2_with (go_at_call 26; refine (rin_any _ _ _ _).mono ?_; rintro e w1 ⟨rfl, rfl⟩)
    go_ret
    exact ⟨rfl, HB.out _⟩
  have b2 : c.pages.tmod 2 = 0 := by rw [e2]; exact h2
  clear e2
  by_cases h3 : (128 ≤ c.sector ∧ c.sector ≤ 448)
  rotate_left
  · have b3 : btw c.sector 128 448 = false := btw_f h3
    clear hok h3
    go_enter Try.func24, Try.ntmps24
    go_wp2_with (go_at_call 26; refine (rin_any _ _ _ _).mono ?_; rintro e w1 ⟨rfl, rfl⟩)
    go_ret
    exact ⟨rfl, HB.out _⟩
  have b3 : btw c.sector 128 448 = true := btw_t h3
  have e4 : c.sector.tmod 64 = c.sector % 64 := Int.tmod_eq_emod_of_nonneg (by omega)
  by_cases h4 : c.sector % 64 = 0
  rotate_left
  · have b4 : ((c.sector % 64) == 0) = false := by simp [h4]
    have b4p : ¬ c.sector % 64 = 0 := h4
    clear hok
    go_enter Try.func24, Try.ntmps24
    go_wp2_with (go_at_call 26; refine (rin_any _ _ _ _).mono ?_; rintro e w1 ⟨rfl, rfl⟩)
    go_ret
    exact ⟨rfl, HB.out _⟩
  have b4 : c.sector.tmod 64 = 0 := by rw [e4]; exact h4
  clear e4
  by_cases h5 : (1 ≤ c.user ∧ c.user ≤ 16384)
  rotate_left
  · have b5 : btw c.user 1 16384 = false := btw_f h5
    clear hok h5
    go_enter Try.func24, Try.ntmps24
    go_wp2_with (go_at_call 26; refine (rin_any _ _ _ _).mono ?_; rintro e w1 ⟨rfl, rfl⟩)
    go_ret
    exact ⟨rfl, HB.out _⟩
  have b5 : btw c.user 1 16384 = true := btw_t h5
  by_cases h6 : (1 ≤ c.boot ∧ c.boot ≤ 256)
  rotate_left
  · have b6 : btw c.boot 1 256 = false := btw_f h6
    clear hok h6
    go_enter Try.func24, Try.ntmps24
    go_wp2_with (go_at_call 26; refine (rin_any _ _ _ _).mono ?_; rintro e w1 ⟨rfl, rfl⟩)
    go_ret
    exact ⟨rfl, HB.out _⟩
  have b6 : btw c.boot 1 256 = true := btw_t h6
  by_cases h7 : (1 ≤ c.rpa ∧ c.rpa ≤ 256)
  rotate_left
  · have b7 : btw c.rpa 1 256 = false := btw_f h7
    clear hok h7
    go_enter Try.func24, Try.ntmps24
    go_wp2_with (go_at_call 26; refine (rin_any _ _ _ _).mono ?_; rintro e w1 ⟨rfl, rfl⟩)
    go_ret
    exact ⟨rfl, HB.out _⟩
  have b7 : btw c.rpa 1 256 = true := btw_t h7
  by_cases h8 : (1 ≤ c.group ∧ c.group ≤ c.user)
  rotate_left
  · have b8 : btw c.group 1 c.user = false := btw_f h8
    clear hok h8
    go_enter Try.func24, Try.ntmps24
    go_wp2_with (go_at_call 26; refine (rin_any _ _ _ _).mono ?_; rintro e w1 ⟨rfl, rfl⟩)
    go_ret
    exact ⟨rfl, HB.out _⟩
  have b8 : btw c.group 1 c.user = true := btw_t h8
  have g0 : ¬ c.group = 0 := by omega
  have e9 : c.user.tmod c.group = c.user % c.group := Int.tmod_eq_emod_of_nonneg (by omega)
  by_cases h9 : c.user % c.group = 0
  rotate_left
  · have b9 : ((c.user % c.group) == 0) = false := by simp [h9]
    have b9p : ¬ c.user % c.group = 0 := h9
    clear hok
    go_enter Try.func24, Try.ntmps24
    go_wp2_with (go_at_call 26; refine (rin_any _ _ _ _).mono ?_; rintro e w1 ⟨rfl, rfl⟩)
    go_ret
    exact ⟨rfl, HB.out _⟩
  have b9 : c.user.tmod c.group = 0 := by rw [e9]; exact h9
  clear e9
  have d0 : 0 ≤ c.user / c.group := Int.ediv_nonneg (by omega) (by omega)
  have d1 : c.user.tdiv c.group = c.user / c.group := Int.tdiv_eq_ediv_of_nonneg (by omega)
  by_cases h10 : c.user / c.group ≤ 32
  rotate_left
  · have d2 : c.user / c.group ≤ c.user := Int.ediv_le_self _ (by omega)
    have h10c : 32 < c.user / c.group := by omega
    have h10b : decide (c.user / c.group ≤ 32) = false := by simp; omega
    clear hok
    go_enter Try.func24, Try.ntmps24
    go_wp2_with (go_at_call 26; refine (rin_any _ _ _ _).mono ?_; rintro e w1 ⟨rfl, rfl⟩)
    go_ret
    exact ⟨rfl, HB.out _⟩
  by_cases h11 : (0 ≤ c.cache ∧ c.cache ≤ 64)
  rotate_left
  · have b11 : btw c.cache 0 64 = false := btw_f h11
    clear hok h11
    go_enter Try.func24, Try.ntmps24
    go_wp2_with (go_at_call 26; refine (rin_any _ _ _ _).mono ?_; rintro e w1 ⟨rfl, rfl⟩)
    go_ret
    exact ⟨rfl, HB.out _⟩
  have b11 : btw c.cache 0 64 = true := btw_t h11
  by_cases h12 : (0 ≤ c.spare ∧ c.spare ≤ c.blocks)
  rotate_left
  · have b12 : btw c.spare 0 c.blocks = false := btw_f h12
    clear hok h12
    go_enter Try.func24, Try.ntmps24
    go_wp2_with (go_at_call 26; refine (rin_any _ _ _ _).mono ?_; rintro e w1 ⟨rfl, rfl⟩)
    go_ret
    exact ⟨rfl, HB.out _⟩
  have b12 : btw c.spare 0 c.blocks = true := btw_t h12
  exact absurd ⟨h0.1, h0.2, h1.1, h1.2, h2, h3.1, h3.2, h4, h5.1, h5.2, h6.1, h6.2, h7.1, h7.2, h8.1, h8.2, h9, h10, h11.1, h11.2, h12.1, h12.2⟩ hok
end Go.Proofs.Yteclcciionjjcaa
