/- RegsLoads. -/
import Derived.Test.YtjjeopanffcbiaaRegsM
namespace Go.Proofs.Ytjjeopanffcbiaa
open Go Go.RowKit
set_option linter.unusedVariables false

set_option maxRecDepth 100000 in
set_option maxHeartbeats 8000000 in
theorem loads_walk (a : Option Addr) (len cap : Nat) (l : List Nat) (W : World) (hi : Bytes W a len l) (hl : len ≤ 100) :
    Calls Try.prog 13 #[.slice a len cap] W fun e w' => e = .returned (.bool true) ∧ Below W.heap.size W w' := by
  have HIn := Lib.hid hi
  have hll := hi.1
  clear hi
  obtain ⟨s, hs⟩ : ∃ s, s = strB l := ⟨_, rfl⟩
  have HS := Lib.hid hs
  clear hs
  go_enter Try.func13, Try.ntmps13
  go_wp2_with fail
  refine (rknown_any _).mono ?_
  rintro e w1 ⟨rfl, hb1⟩
  have HB1 := Lib.hid hb1
  clear hb1
  go_wp2_with fail
  refine (load_any a len cap l _ (HIn.out.below HB1.out (Nat.le_refl _)) (by omega)).mono ?_
  rintro e wp ⟨hL, hb⟩
  have HB := Lib.hid (HB1.out.trans (hb.mono HB1.out.size))
  clear hb
  cases hok : loadOk l
  · unfold LoadAt at hL
    rw [if_neg (by simp [hok])] at hL
    subst hL
    have HOk := Lib.hid hok
    clear hok
    go_wp2_with fail
    refine (qload_any a len cap l _ (HIn.out.below HB.out (Nat.le_refl _)) (by omega)).mono ?_
    rintro e wq ⟨hL, hb⟩
    have HB2 := Lib.hid (HB.out.trans (hb.mono HB.out.size))
    unfold LoadAt at hL
    rw [if_neg (by simp [HOk.out])] at hL
    subst hL
    clear hb
    go_wp2_with fail
    go_quiet (fail)
    go_wp2
    go_ret
    exact ⟨rfl, below_drewN' HB2.out _⟩
  · unfold LoadAt at hL
    rw [if_pos hok] at hL
    obtain ⟨g, rfl, hg, hF⟩ := hL
    have HF := Lib.hid hF
    have HOk := Lib.hid hok
    have h7 : len = 7 := by
      unfold loadOk at hok
      rw [Bool.and_eq_true] at hok
      have := hok.1
      simp at this
      omega
    have hm : ∀ i, i < 7 → mayAt l i = true := by
      unfold loadOk at hok
      rw [Bool.and_eq_true] at hok
      intro i hi
      exact List.all_eq_true.1 hok.2 i (by simpa using hi)
    have HOK := Lib.hid (loadTo_ok HIn.out.2.1 7 (by omega) hm)
    have HLast := Lib.hid (loadTo_last (l := l) (by omega))
    have H7 := Lib.hid h7
    clear hok hm hF h7 hg
    go_wp2_with fail
    refine (qload_any a len cap l _ (HIn.out.below HB.out (Nat.le_refl _)) (by omega)).mono ?_
    rintro e wq ⟨hL, hb⟩
    have HB2 := Lib.hid (HB.out.trans (hb.mono HB.out.size))
    have HF2 := Lib.hid (HF.out.below hb)
    unfold LoadAt at hL
    rw [if_pos HOk.out] at hL
    obtain ⟨g2, rfl, hg2, hQ⟩ := hL
    have HQ := Lib.hid hQ
    clear hb hQ hg2 HF
    go_wp2_with fail
    refine wp_region_held_drew (S := (fun w' => Below wq.heap.size wq w')) (by kernel_rfl) ((Below.refl _ _).drew) (fun hHeld => ?_)
    refine held_take 0 (v := ?_) rfl (by kernel_rfl) (by kernel_rfl) (by kernel_rfl) (fun _ _ _ h => h) (by rfl) (fun w hS => ?_) (by assumption) ?_
    rotate_left
    · try dsimp only at hS
      go_simp <;> with_reducible rfl
    try simp only [Act.put, List.setIfInBounds_toArray, List.set_cons_zero, List.set_cons_succ]
    refine held_take 1 (v := ?_) rfl (by kernel_rfl) (by kernel_rfl) (by kernel_rfl) (fun _ _ _ h => h) (by rfl) (fun w hS => ?_) (by assumption) ?_
    rotate_left
    · try dsimp only at hS
      go_simp <;> with_reducible rfl
    try simp only [Act.put, List.setIfInBounds_toArray, List.set_cons_zero, List.set_cons_succ]
    refine held_take 2 (v := ?_) rfl (by kernel_rfl) (by kernel_rfl) (by kernel_rfl) (fun _ _ _ h => h) (by rfl) (fun w hS => ?_) (by assumption) ?_
    rotate_left
    · try dsimp only at hS
      go_simp <;> with_reducible rfl
    try simp only [Act.put, List.setIfInBounds_toArray, List.set_cons_zero, List.set_cons_succ]
    refine held_take 3 (v := ?_) rfl (by kernel_rfl) (by kernel_rfl) (by kernel_rfl) (fun _ _ _ h => h) (by rfl) (fun w hS => ?_) (by assumption) ?_
    rotate_left
    · try dsimp only at hS
      go_simp <;> with_reducible rfl
    try simp only [Act.put, List.setIfInBounds_toArray, List.set_cons_zero, List.set_cons_succ]
    refine held_take 4 (v := ?_) rfl (by kernel_rfl) (by kernel_rfl) (by kernel_rfl) (fun _ _ _ h => h) (by rfl) (fun w hS => ?_) (by assumption) ?_
    rotate_left
    · try dsimp only at hS
      go_simp <;> with_reducible rfl
    try simp only [Act.put, List.setIfInBounds_toArray, List.set_cons_zero, List.set_cons_succ]
    refine held_one 5 rfl (by kernel_rfl) (fun K hK => ?_)
    go_simp
    refine (looks_any g g2 _ 6 _ HF2.out.drew HQ.out.drew HOK.out).mono ?_
    rintro e wl ⟨rfl, hb⟩
    have hbl : Below wq.heap.size wq wl := (Below.refl _ _).drew.trans hb
    have hbL : Below W.heap.size W wl := HB2.out.trans (hbl.mono HB2.out.size)
    have s2 : ∀ w', Below wl.heap.size wl w' → (convert 22 9 (.slice a len cap)).run Try.prog w' = .ok (.string (strB l)) w' := fun w' h => run_str (P := Try.prog) (HIn.out.below (hbL.trans (h.mono hbL.size)) (Nat.le_refl _)) 22 5 9 Try.underlying22 Try.underlying5 Try.underlying9 cap
    rw [← HS.out] at s2
    refine hK.out _ _ (fun w' => Below wl.heap.size wl w') (fun _ h => hbl.trans (h.mono hbl.size)) (Below.refl _ _) (fun hHeld => ?_)
    clear hK K
    try simp only [Act.put, List.setIfInBounds_toArray, List.set_cons_zero, List.set_cons_succ]
    refine held_take 6 (v := ?_) rfl (by kernel_rfl) (by kernel_rfl) (by kernel_rfl) (fun _ _ _ h => h) (by rfl) (fun w hS => ?_) (by assumption) ?_
    rotate_left
    · try dsimp only at hS
      go_simp <;> with_reducible rfl
    try simp only [Act.put, List.setIfInBounds_toArray, List.set_cons_zero, List.set_cons_succ]
    refine held_take 7 (v := ?_) rfl (by kernel_rfl) (by kernel_rfl) (by kernel_rfl) (fun _ _ _ h => h) (by rfl) (fun w hS => ?_) (by assumption) ?_
    rotate_left
    · try dsimp only at hS
      go_simp <;> with_reducible rfl
    try simp only [Act.put, List.setIfInBounds_toArray, List.set_cons_zero, List.set_cons_succ]
    refine held_take 10 (v := ?_) rfl (by kernel_rfl) (by kernel_rfl) (by kernel_rfl) (fun _ _ _ h => h) (by rfl) (fun w hS => ?_) (by assumption) ?_
    rotate_left
    · try dsimp only at hS
      go_simp <;> with_reducible rfl
    try simp only [Act.put, List.setIfInBounds_toArray, List.set_cons_zero, List.set_cons_succ]
    refine held_take 11 (v := ?_) rfl (by kernel_rfl) (by kernel_rfl) (by kernel_rfl) (fun _ _ _ h => h) (by rfl) (fun w hS => ?_) (by assumption) ?_
    rotate_left
    · try dsimp only at hS
      go_simp <;> with_reducible rfl
    try simp only [Act.put, List.setIfInBounds_toArray, List.set_cons_zero, List.set_cons_succ]
    refine held_one 8 rfl (by kernel_rfl) (fun K hK => ?_)
    go_simp
    refine (lastingB_any g _ _ (HF2.out.below hbl) HOK.out.1).mono ?_
    rintro e wm ⟨⟨q, cq, rfl, hq, hcq, hY⟩, hb8⟩
    have hbT : Below W.heap.size W wm := HB2.out.trans ((hbl.trans (hb8.mono hbl.size)).mono HB2.out.size)
    rw [HLast.out] at hY
    have s1 : ∀ w', Below wm.heap.size wm w' → (convert 22 9 (.slice (some ⟨q, 0, none⟩) 7 cq)).run Try.prog w' = .ok (.string (strB l)) w' := fun w' h => run_str (P := Try.prog) (hY.below h (Nat.le_refl _)) 22 5 9 Try.underlying22 Try.underlying5 Try.underlying9 cq
    rw [← HS.out] at s1
    clear hY hq hcq
    refine hK.out _ _ (fun w' => Below wm.heap.size wm w') (fun _ h => hb8.trans (h.mono hb8.size)) (Below.refl _ _) (fun hHeld => ?_)
    clear hK K
    try simp only [Act.put, List.setIfInBounds_toArray, List.set_cons_zero, List.set_cons_succ]
    refine held_take 9 (v := ?_) rfl (by kernel_rfl) (by kernel_rfl) (by kernel_rfl) (fun _ _ _ h => h) (by rfl) (fun w hS => ?_) (by assumption) ?_
    rotate_left
    · try dsimp only at hS
      go_simp <;> with_reducible rfl
    try simp only [Act.put, List.setIfInBounds_toArray, List.set_cons_zero, List.set_cons_succ]
    refine held_take 12 (v := ?_) rfl (by kernel_rfl) (by kernel_rfl) (by kernel_rfl) (fun _ _ _ h => h) (by rfl) (fun w hS => ?_) (by assumption) ?_
    rotate_left
    · try dsimp only at hS
      go_simp <;> with_reducible rfl
    try simp only [Act.put, List.setIfInBounds_toArray, List.set_cons_zero, List.set_cons_succ]
    refine held_take 13 (v := ?_) rfl (by kernel_rfl) (by kernel_rfl) (by kernel_rfl) (fun _ _ _ h => h) (by rfl) (fun w hS => ?_) (by assumption) ?_
    rotate_left
    · try dsimp only at hS
      go_simp <;> with_reducible rfl
    try simp only [Act.put, List.setIfInBounds_toArray, List.set_cons_zero, List.set_cons_succ]
    refine held_take 14 (v := ?_) rfl (by kernel_rfl) (by kernel_rfl) (by kernel_rfl) (fun _ _ _ h => h) (by rfl) (fun w hS => ?_) (by assumption) ?_
    rotate_left
    · try dsimp only at hS
      go_simp <;> with_reducible rfl
    try simp only [Act.put, List.setIfInBounds_toArray, List.set_cons_zero, List.set_cons_succ]
    refine held_take 15 (v := ?_) rfl (by kernel_rfl) (by kernel_rfl) (by kernel_rfl) (fun _ _ _ h => h) (by rfl) (fun w hS => ?_) (by assumption) ?_
    rotate_left
    · try dsimp only at hS
      go_simp <;> with_reducible rfl
    try simp only [Act.put, List.setIfInBounds_toArray, List.set_cons_zero, List.set_cons_succ]
    refine held_done (by kernel_rfl) ?_
    go_wp2
    go_ret
    exact ⟨rfl, hbT⟩

theorem loads_any (a : Option Addr) (len cap : Nat) (l : List Nat) (W : World) (hi : Bytes W a len l) (hm : len ≤ 9223372036854775807) :
    Calls Try.prog 13 #[.slice a len cap] W fun e w' => e = .returned (.bool true) ∧ Below W.heap.size W w' := by
  by_cases h : len ≤ 100
  · exact loads_walk a len cap l W hi h
  · have h2 : 100 < len := by omega
    clear h
    go_enter Try.func13, Try.ntmps13
    go_wp2_with fail
    refine (rknown_any _).mono ?_
    rintro e w1 ⟨rfl, hb1⟩
    go_wp2_with fail
    go_ret
    exact ⟨rfl, hb1⟩

end Go.Proofs.Ytjjeopanffcbiaa
