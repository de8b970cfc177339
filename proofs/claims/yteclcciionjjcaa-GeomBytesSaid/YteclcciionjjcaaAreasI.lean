/- the reference's Check, of a shape that is right. -/
import Derived.Test.YteclcciionjjcaaGeomE
import Derived.Test.YteclcciionjjcaaHeld
namespace Go.Proofs.Yteclcciionjjcaa
open Go Go.RowKit
set_option linter.unusedVariables false

theorem rin_any (v lo hi : Int) (w : World) : Calls Try.prog 26 #[.int .i64 v, .int .i64 lo, .int .i64 hi] w fun e w' => e = .returned (.bool (btw v lo hi)) ∧ w = w' := by
  by_cases h1 : lo ≤ v
  · by_cases h2 : v ≤ hi
    · have e : btw v lo hi = true := by simp [btw, h1, h2]
      rw [e]
      go_enter Try.func26, Try.ntmps26
      go_wp2_with fail
      go_ret
      exact ⟨rfl, rfl⟩
    · have e : btw v lo hi = false := by simp [btw, h2]
      rw [e]
      go_enter Try.func26, Try.ntmps26
      go_wp2_with fail
      go_ret
      exact ⟨rfl, rfl⟩
  · have e : btw v lo hi = false := by simp [btw, h1]
    rw [e]
    go_enter Try.func26, Try.ntmps26
    go_wp2_with fail
    go_ret
    exact ⟨rfl, rfl⟩
theorem rup_any (n b : Int) (w : World) (h1 : 0 ≤ n) (h2 : n ≤ 1099511627776) (h3 : 1 ≤ b) (h4 : b ≤ 1099511627776) : Calls Try.prog 27 #[.int .i64 n, .int .i64 b] w fun e w' => e = .returned (.int .i64 (upOf n b)) ∧ w = w' := by
  have hb : ¬ b = 0 := by omega
  have e1 : IntKind.i64.wrap ((n + b - 1) / b) = (n + b - 1) / b := wr64 _ (by have := Int.ediv_nonneg (show 0 ≤ n + b - 1 by omega) (show 0 ≤ b by omega); omega) (by have := Int.ediv_le_self b (show 0 ≤ n + b - 1 by omega); omega)
  unfold upOf
  go_enter Try.func27, Try.ntmps27
  go_wp2_with fail
  go_ret
  exact ⟨rfl, rfl⟩

set_option maxRecDepth 100000 in
set_option maxHeartbeats 2000000 in
theorem rplain_any (c : Cfg) (w : World) (hok : OkC c) :
    Calls Try.prog 24 #[.agg #[.int .i64 c.blocks, .int .i64 c.pages, .int .i64 c.sector, .int .i64 c.user, .int .i64 c.boot, .int .i64 c.rpa, .int .i64 c.group, .int .i64 c.cache, .int .i64 c.spare]] w fun x w' => x = .returned (.bool true) ∧ Below w.heap.size w w' := by
  obtain ⟨c1, c2, c3, c4, c5, c6, c7, c8, c9, c10, c11, c12, c13, c14, c15, c16, c17, c18, c19, c20, c21, c22⟩ := hok
  have b1 : btw c.blocks 1 1024 = true := by simp [btw, c1, c2]
  have b2 : btw c.pages 4 256 = true := by simp [btw, c3, c4]
  have b3 : btw c.sector 128 448 = true := by simp [btw, c6, c7]
  have b4 : btw c.user 1 16384 = true := by simp [btw, c9, c10]
  have b5 : btw c.boot 1 256 = true := by simp [btw, c11, c12]
  have b6 : btw c.rpa 1 256 = true := by simp [btw, c13, c14]
  have b7 : btw c.group 1 c.user = true := by simp [btw, c15, c16]
  have b8 : btw c.cache 0 64 = true := by simp [btw, c19, c20]
  have b9 : btw c.spare 0 c.blocks = true := by simp [btw, c21, c22]
  have m1 : c.pages.tmod 2 = 0 := by rw [Int.tmod_eq_emod_of_nonneg (by omega)]; exact c5
  have m2 : c.sector.tmod 64 = 0 := by rw [Int.tmod_eq_emod_of_nonneg (by omega)]; exact c8
  have m3 : c.user.tmod c.group = 0 := by rw [Int.tmod_eq_emod_of_nonneg (by omega)]; exact c17
  have d0 : 0 ≤ c.user / c.group := Int.ediv_nonneg (by omega) (by omega)
  have d1 : c.user.tdiv c.group = c.user / c.group := Int.tdiv_eq_ediv_of_nonneg (by omega)
  have g0 : ¬ c.group = 0 := by omega
  have HB : Hid (∀ A, Below w.heap.size w (w.alloc A)) := Lib.hid (fun A => (Below.refl _ _).alloc (Nat.le_refl _) A)
  go_enter Try.func24, Try.ntmps24
  go_wp2_with (go_at_call 26; refine (rin_any _ _ _ _).mono ?_; rintro e w1 ⟨rfl, rfl⟩)
  go_ret
  exact ⟨rfl, HB.out _⟩

set_option maxRecDepth 100000 in
set_option maxHeartbeats 2000000 in
theorem rneed_zero (c : Cfg) (w : World) (hok : OkC c) :
    Calls Try.prog 25 #[.agg #[.int .i64 c.blocks, .int .i64 c.pages, .int .i64 c.sector, .int .i64 c.user, .int .i64 c.boot, .int .i64 c.rpa, .int .i64 c.group, .int .i64 c.cache, .int .i64 c.spare], .int .i64 0] w fun x w' => x = .returned (.int .i64 (needOf c 0)) ∧ Below w.heap.size w w' := by
  obtain ⟨c1, c2, c3, c4, c5, c6, c7, c8, c9, c10, c11, c12, c13, c14, c15, c16, c17, c18, c19, c20, c21, c22⟩ := hok
  have hcl : clampOf 0 c.user = 0 := by unfold clampOf; rw [if_neg (by omega), if_neg (by omega)]
  obtain ⟨A, hA⟩ : ∃ A, A = upOf c.user c.pages := ⟨_, rfl⟩
  obtain ⟨B, hB⟩ : ∃ B, B = upOf (2 * c.boot + c.rpa) (c.pages / 2) := ⟨_, rfl⟩
  have hAb := upOf_bd c.user c.pages (by omega) (by omega)
  have hBb := upOf_bd (2 * c.boot + c.rpa) (c.pages / 2) (by omega) (by omega)
  rw [← hA] at hAb
  rw [← hB] at hBb
  obtain ⟨A2, hA2⟩ : ∃ A2, A2 = upOf A 2 := ⟨_, rfl⟩
  obtain ⟨B2, hB2⟩ : ∃ B2, B2 = upOf B 2 := ⟨_, rfl⟩
  have hA2b := upOf_bd A 2 (by omega) (by omega)
  have hB2b := upOf_bd B 2 (by omega) (by omega)
  rw [← hA2] at hA2b
  rw [← hB2] at hB2b
  have hN : needOf c 0 = A + A2 + B + B2 + 24 + c.spare := by
    unfold needOf blocksOf
    rw [hcl, show c.user - 0 = c.user by omega, show 2 * c.boot + c.rpa + 0 = 2 * c.boot + c.rpa by omega, ← hA, ← hB, ← hA2, ← hB2]
    omega
  rw [hN]
  have HA := Lib.hid hA
  have HBB := Lib.hid hB
  have HA2 := Lib.hid hA2
  have HB2 := Lib.hid hB2
  have d1 : c.pages.tdiv 2 = c.pages / 2 := Int.tdiv_eq_ediv_of_nonneg (by omega)
  have HB : Hid (∀ A, Below w.heap.size w (w.alloc A)) := Lib.hid (fun A => (Below.refl _ _).alloc (Nat.le_refl _) A)
  have z1 : ¬ (c.user < 0) := by omega
  clear hN hcl hA hB hA2 hB2
  go_enter Try.func25, Try.ntmps25
  go_wp2_with fail
  refine (rup_any c.user c.pages _ (by omega) (by omega) (by omega) (by omega)).mono ?_
  rintro e w1 ⟨rfl, rfl⟩
  rw [← HA.out]
  go_wp2_with fail
  refine (rup_any (2 * c.boot + c.rpa) (c.pages / 2) _ (by omega) (by omega) (by omega) (by omega)).mono ?_
  rintro e w1 ⟨rfl, rfl⟩
  rw [← HBB.out]
  have n9 := HasB.new w #[.int .i64 c.blocks, .int .i64 c.pages, .int .i64 c.sector, .int .i64 c.user, .int .i64 c.boot, .int .i64 c.rpa, .int .i64 c.group, .int .i64 c.cache, .int .i64 c.spare] 23
  have hbb := HB.out (.cells #[.int .i64 c.blocks, .int .i64 c.pages, .int .i64 c.sector, .int .i64 c.user, .int .i64 c.boot, .int .i64 c.rpa, .int .i64 c.group, .int .i64 c.cache, .int .i64 c.spare] 23)
  obtain ⟨wb, hwb⟩ : ∃ wb, w.alloc (.cells #[.int .i64 c.blocks, .int .i64 c.pages, .int .i64 c.sector, .int .i64 c.user, .int .i64 c.boot, .int .i64 c.rpa, .int .i64 c.group, .int .i64 c.cache, .int .i64 c.spare] 23) = wb := ⟨_, rfl⟩
  rw [hwb] at n9 hbb ⊢
  have HN9 := Lib.hid n9
  have HBb := Lib.hid hbb
  have x8 : ∀ w', Below wb.heap.size wb w' → w'.cell? ⟨w.heap.size, 8, none⟩ = some (.int .i64 c.spare) := fun w' hb => (HN9.out.below hb HN9.out.lt).at 8
  clear n9 hbb hwb
  go_wp2_with fail
  refine wp_region_held_drew (S := (fun w' => Below wb.heap.size wb w')) (by kernel_rfl) ((Below.refl _ _).drew) (fun hHeld => ?_)
  refine held_take 0 (v := ?_) rfl (by kernel_rfl) (by kernel_rfl) (by kernel_rfl) (fun _ _ _ h => h) (by rfl) (fun w hS => ?_) (by assumption) ?_
  rotate_left
  · try dsimp only at hS
    go_simp <;> with_reducible rfl
  try simp only [Act.put, List.setIfInBounds_toArray, List.set_cons_zero, List.set_cons_succ]
  refine held_take 1 (v := ?_) rfl (by kernel_rfl) (by kernel_rfl) (by kernel_rfl) (fun _ _ _ h => h) (by rfl) (fun w hS => ?_) (by assumption) ?_
  rotate_left
  · try dsimp only at hS
    go_simp <;> with_reducible rfl
  try simp only [Act.put, List.setIfInBounds_toArray, List.set_cons_zero, List.set_cons_succ]
  refine held_take 4 (v := ?_) rfl (by kernel_rfl) (by kernel_rfl) (by kernel_rfl) (fun _ _ _ h => h) (by rfl) (fun w hS => ?_) (by assumption) ?_
  rotate_left
  · try dsimp only at hS
    go_simp <;> with_reducible rfl
  try simp only [Act.put, List.setIfInBounds_toArray, List.set_cons_zero, List.set_cons_succ]
  refine held_take 6 (v := ?_) rfl (by kernel_rfl) (by kernel_rfl) (by kernel_rfl) (fun _ _ _ h => h) (by rfl) (fun w hS => ?_) (by assumption) ?_
  rotate_left
  · try dsimp only at hS
    go_simp <;> with_reducible rfl
  try simp only [Act.put, List.setIfInBounds_toArray, List.set_cons_zero, List.set_cons_succ]
  refine held_take 10 (v := ?_) rfl (by kernel_rfl) (by kernel_rfl) (by kernel_rfl) (fun _ _ _ h => h) (by rfl) (fun w hS => ?_) (by assumption) ?_
  rotate_left
  · try dsimp only at hS
    go_simp <;> with_reducible rfl
  try simp only [Act.put, List.setIfInBounds_toArray, List.set_cons_zero, List.set_cons_succ]
  refine held_take 11 (v := ?_) rfl (by kernel_rfl) (by kernel_rfl) (by kernel_rfl) (fun _ _ _ h => h) (by rfl) (fun w hS => ?_) (by assumption) ?_
  rotate_left
  · try dsimp only at hS
    go_simp <;> with_reducible rfl
  try simp only [Act.put, List.setIfInBounds_toArray, List.set_cons_zero, List.set_cons_succ]
  refine held_one 2 rfl (by kernel_rfl) (fun K hK => ?_)
  go_simp
  refine Calls.mono (rup_any A 2 _ (by omega) (by omega) (by omega) (by omega)) ?_
  rintro e wm ⟨rfl, rfl⟩
  rw [← HA2.out]
  refine hK.out _ _ (fun w' => Below wb.heap.size wb w') (fun _ h => h) (Below.refl wb.heap.size wb).drew (fun hHeld => ?_)
  clear hK K
  try simp only [Act.put, List.setIfInBounds_toArray, List.set_cons_zero, List.set_cons_succ]
  refine held_take 3 (v := ?_) rfl (by kernel_rfl) (by kernel_rfl) (by kernel_rfl) (fun _ _ _ h => h) (by rfl) (fun w hS => ?_) (by assumption) ?_
  rotate_left
  · try dsimp only at hS
    go_simp <;> with_reducible rfl
  try simp only [Act.put, List.setIfInBounds_toArray, List.set_cons_zero, List.set_cons_succ]
  refine held_take 5 (v := ?_) rfl (by kernel_rfl) (by kernel_rfl) (by kernel_rfl) (fun _ _ _ h => h) (by rfl) (fun w hS => ?_) (by assumption) ?_
  rotate_left
  · try dsimp only at hS
    go_simp <;> with_reducible rfl
  try simp only [Act.put, List.setIfInBounds_toArray, List.set_cons_zero, List.set_cons_succ]
  refine held_one 7 rfl (by kernel_rfl) (fun K hK => ?_)
  go_simp
  refine Calls.mono (rup_any B 2 _ (by omega) (by omega) (by omega) (by omega)) ?_
  rintro e wm ⟨rfl, rfl⟩
  rw [← HB2.out]
  refine hK.out _ _ (fun w' => Below wb.heap.size wb w') (fun _ h => h) (Below.refl wb.heap.size wb).drew (fun hHeld => ?_)
  clear hK K
  try simp only [Act.put, List.setIfInBounds_toArray, List.set_cons_zero, List.set_cons_succ]
  refine held_take 8 (v := ?_) rfl (by kernel_rfl) (by kernel_rfl) (by kernel_rfl) (fun _ _ _ h => h) (by rfl) (fun w hS => ?_) (by assumption) ?_
  rotate_left
  · try dsimp only at hS
    go_simp <;> with_reducible rfl
  try simp only [Act.put, List.setIfInBounds_toArray, List.set_cons_zero, List.set_cons_succ]
  refine held_take 9 (v := ?_) rfl (by kernel_rfl) (by kernel_rfl) (by kernel_rfl) (fun _ _ _ h => h) (by rfl) (fun w hS => ?_) (by assumption) ?_
  rotate_left
  · try dsimp only at hS
    go_simp <;> with_reducible rfl
  try simp only [Act.put, List.setIfInBounds_toArray, List.set_cons_zero, List.set_cons_succ]
  refine held_take 12 (v := ?_) rfl (by kernel_rfl) (by kernel_rfl) (by kernel_rfl) (fun _ _ _ h => h) (by rfl) (fun w hS => ?_) (by assumption) ?_
  rotate_left
  · try dsimp only at hS
    go_simp <;> with_reducible rfl
  try simp only [Act.put, List.setIfInBounds_toArray, List.set_cons_zero, List.set_cons_succ]
  refine held_take 13 (v := ?_) rfl (by kernel_rfl) (by kernel_rfl) (by kernel_rfl) (fun _ _ _ h => h) (by rfl) (fun w hS => ?_) (by assumption) ?_
  rotate_left
  · try dsimp only at hS
    go_simp <;> with_reducible rfl
  try simp only [Act.put, List.setIfInBounds_toArray, List.set_cons_zero, List.set_cons_succ]
  refine held_done (by kernel_rfl) ?_
  clear x8
  go_wp2_with fail
  go_ret
  have w1 := wr64 (A + A2) (by omega) (by omega)
  have w2 := wr64 (A + A2 + B) (by omega) (by omega)
  have w3 := wr64 (A + A2 + B + B2) (by omega) (by omega)
  have w4 := wr64 (A + A2 + B + B2 + 24) (by omega) (by omega)
  have w5 := wr64 (A + A2 + B + B2 + 24 + c.spare) (by omega) (by omega)
  refine ⟨?_, HBb.out.drew⟩
  show Ending.returned (.int .i64 (IntKind.i64.wrap (IntKind.i64.wrap (IntKind.i64.wrap (IntKind.i64.wrap (IntKind.i64.wrap (A + A2) + B) + B2) + 24) + c.spare))) = _
  rw [w1, w2, w3, w4, w5]

/-- The reference's Check of a shape that is right. -/
theorem rcheck_ok (c : Cfg) (w : World) (hck : checkOf c = 0) :
    Calls Try.prog 17 #[.agg #[.int .i64 c.blocks, .int .i64 c.pages, .int .i64 c.sector, .int .i64 c.user, .int .i64 c.boot, .int .i64 c.rpa, .int .i64 c.group, .int .i64 c.cache, .int .i64 c.spare]] w fun x w' => x = .returned (.int .i64 0) ∧ Below w.heap.size w w' := by
  obtain ⟨hok, hneed⟩ := check_zero hck
  have n1 := HasB.new w #[.int .i64 c.blocks, .int .i64 c.pages, .int .i64 c.sector, .int .i64 c.user, .int .i64 c.boot, .int .i64 c.rpa, .int .i64 c.group, .int .i64 c.cache, .int .i64 c.spare] 23
  have hb1 : Below w.heap.size w (w.alloc (.cells #[.int .i64 c.blocks, .int .i64 c.pages, .int .i64 c.sector, .int .i64 c.user, .int .i64 c.boot, .int .i64 c.rpa, .int .i64 c.group, .int .i64 c.cache, .int .i64 c.spare] 23)) := (Below.refl _ _).alloc (Nat.le_refl _) _
  obtain ⟨wa, hwa⟩ : ∃ wa, w.alloc (.cells #[.int .i64 c.blocks, .int .i64 c.pages, .int .i64 c.sector, .int .i64 c.user, .int .i64 c.boot, .int .i64 c.rpa, .int .i64 c.group, .int .i64 c.cache, .int .i64 c.spare] 23) = wa := ⟨_, rfl⟩
  rw [hwa] at n1 hb1
  have HN := Lib.hid (fun (w' : World) (hb : Below wa.heap.size wa w') => (n1.below hb n1.lt).nine)
  have HBa := Lib.hid hb1
  have hneed' : ¬ (c.blocks < needOf c 0) := by omega
  obtain ⟨ND, hND⟩ : ∃ ND, ND = needOf c 0 := ⟨_, rfl⟩
  have HND := Lib.hid hND
  rw [← hND] at hneed'
  have x0 : ∀ w', Below wa.heap.size wa w' → w'.cell? ⟨w.heap.size, 0, none⟩ = some (.int .i64 c.blocks) := fun w' hb => (HN.out w' hb).2.1
  have x1 : ∀ w', Below wa.heap.size wa w' → w'.cell? ⟨w.heap.size, 1, none⟩ = some (.int .i64 c.pages) := fun w' hb => (HN.out w' hb).2.2.1
  have x2 : ∀ w', Below wa.heap.size wa w' → w'.cell? ⟨w.heap.size, 2, none⟩ = some (.int .i64 c.sector) := fun w' hb => (HN.out w' hb).2.2.2.1
  have x3 : ∀ w', Below wa.heap.size wa w' → w'.cell? ⟨w.heap.size, 3, none⟩ = some (.int .i64 c.user) := fun w' hb => (HN.out w' hb).2.2.2.2.1
  have x4 : ∀ w', Below wa.heap.size wa w' → w'.cell? ⟨w.heap.size, 4, none⟩ = some (.int .i64 c.boot) := fun w' hb => (HN.out w' hb).2.2.2.2.2.1
  have x5 : ∀ w', Below wa.heap.size wa w' → w'.cell? ⟨w.heap.size, 5, none⟩ = some (.int .i64 c.rpa) := fun w' hb => (HN.out w' hb).2.2.2.2.2.2.1
  have x6 : ∀ w', Below wa.heap.size wa w' → w'.cell? ⟨w.heap.size, 6, none⟩ = some (.int .i64 c.group) := fun w' hb => (HN.out w' hb).2.2.2.2.2.2.2.1
  have x7 : ∀ w', Below wa.heap.size wa w' → w'.cell? ⟨w.heap.size, 7, none⟩ = some (.int .i64 c.cache) := fun w' hb => (HN.out w' hb).2.2.2.2.2.2.2.2.1
  have x8 : ∀ w', Below wa.heap.size wa w' → w'.cell? ⟨w.heap.size, 8, none⟩ = some (.int .i64 c.spare) := fun w' hb => (HN.out w' hb).2.2.2.2.2.2.2.2.2
  clear hneed hND n1 hb1
  go_enter Try.func17, Try.ntmps17
  go_wp2_with fail
  refine wp_region_held_drew (S := (fun w' => Below wa.heap.size wa w')) (by kernel_rfl) ((Below.refl _ _).drew) (fun hHeld => ?_)
  refine held_take 0 (v := ?_) rfl (by kernel_rfl) (by kernel_rfl) (by kernel_rfl) (fun _ _ _ h => h) (by rfl) (fun w hS => ?_) (by assumption) ?_
  rotate_left
  · try dsimp only at hS
    go_simp <;> with_reducible rfl
  try simp only [Act.put, List.setIfInBounds_toArray, List.set_cons_zero, List.set_cons_succ]
  refine held_one 1 rfl (by kernel_rfl) (fun K hK => ?_)
  go_simp
  refine Calls.mono (rplain_any c _ hok) ?_
  rintro e wm ⟨rfl, hbm⟩
  have hbm' : Below wa.heap.size wa wm := (Below.refl wa.heap.size wa).drew.trans (hbm.mono (Nat.le_refl _))
  have HBm := Lib.hid hbm'
  clear hbm
  refine hK.out _ _ (fun w' => Below wa.heap.size wa w') (fun _ h => h) hbm' (fun hHeld => ?_)
  clear hK K
  try simp only [Act.put, List.setIfInBounds_toArray, List.set_cons_zero, List.set_cons_succ]
  refine held_take 2 (v := ?_) rfl (by kernel_rfl) (by kernel_rfl) (by kernel_rfl) (fun _ _ _ h => h) (by rfl) (fun w hS => ?_) (by assumption) ?_
  rotate_left
  · try dsimp only at hS
    go_simp <;> with_reducible rfl
  try simp only [Act.put, List.setIfInBounds_toArray, List.set_cons_zero, List.set_cons_succ]
  refine held_take 3 (v := ?_) rfl (by kernel_rfl) (by kernel_rfl) (by kernel_rfl) (fun _ _ _ h => h) (by rfl) (fun w hS => ?_) (by assumption) ?_
  rotate_left
  · try dsimp only at hS
    go_simp <;> with_reducible rfl
  try simp only [Act.put, List.setIfInBounds_toArray, List.set_cons_zero, List.set_cons_succ]
  refine held_take 4 (v := ?_) rfl (by kernel_rfl) (by kernel_rfl) (by kernel_rfl) (fun _ _ _ h => h) (by rfl) (fun w hS => ?_) (by assumption) ?_
  rotate_left
  · try dsimp only at hS
    go_simp <;> with_reducible rfl
  try simp only [Act.put, List.setIfInBounds_toArray, List.set_cons_zero, List.set_cons_succ]
  refine held_take 6 (v := ?_) rfl (by kernel_rfl) (by kernel_rfl) (by kernel_rfl) (fun _ _ _ h => h) (by rfl) (fun w hS => ?_) (by assumption) ?_
  rotate_left
  · try dsimp only at hS
    go_simp <;> with_reducible rfl
  try simp only [Act.put, List.setIfInBounds_toArray, List.set_cons_zero, List.set_cons_succ]
  refine held_take 7 (v := ?_) rfl (by kernel_rfl) (by kernel_rfl) (by kernel_rfl) (fun _ _ _ h => h) (by rfl) (fun w hS => ?_) (by assumption) ?_
  rotate_left
  · try dsimp only at hS
    go_simp <;> with_reducible rfl
  try simp only [Act.put, List.setIfInBounds_toArray, List.set_cons_zero, List.set_cons_succ]
  refine held_one 5 rfl (by kernel_rfl) (fun K hK => ?_)
  go_simp
  refine Calls.mono (rneed_zero c _ hok) ?_
  rintro e wq ⟨rfl, hbq⟩
  rw [← HND.out]
  have hbq' : Below wa.heap.size wa wq := HBm.out.trans (hbq.mono HBm.out.size)
  have HBq := Lib.hid hbq'
  clear hbq
  refine hK.out _ _ (fun w' => Below wa.heap.size wa w') (fun _ h => h) hbq' (fun hHeld => ?_)
  clear hK K
  try simp only [Act.put, List.setIfInBounds_toArray, List.set_cons_zero, List.set_cons_succ]
  refine held_take 8 (v := ?_) rfl (by kernel_rfl) (by kernel_rfl) (by kernel_rfl) (fun _ _ _ h => h) (by rfl) (fun w hS => ?_) (by assumption) ?_
  rotate_left
  · try dsimp only at hS
    go_simp <;> with_reducible rfl
  try simp only [Act.put, List.setIfInBounds_toArray, List.set_cons_zero, List.set_cons_succ]
  refine held_take 9 (v := ?_) rfl (by kernel_rfl) (by kernel_rfl) (by kernel_rfl) (fun _ _ _ h => h) (by rfl) (fun w hS => ?_) (by assumption) ?_
  rotate_left
  · try dsimp only at hS
    go_simp <;> with_reducible rfl
  try simp only [Act.put, List.setIfInBounds_toArray, List.set_cons_zero, List.set_cons_succ]
  refine held_done (by kernel_rfl) ?_
  have HBe := Lib.hid (HBa.out.trans (HBq.out.mono HBa.out.size))
  clear x0 x1 x2 x3 x4 x5 x6 x7 x8
  go_wp2_with fail
  go_ret
  exact ⟨rfl, HBe.out⟩
end Go.Proofs.Yteclcciionjjcaa
