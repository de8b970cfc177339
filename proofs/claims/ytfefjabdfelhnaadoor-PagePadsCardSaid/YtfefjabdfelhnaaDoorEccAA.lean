/- ecc: EccRows. -/
import Derived.Test.YtfefjabdfelhnaaDoorEccZ
import Derived.Test.YtfefjabdfelhnaaDoorHeld
namespace Go.Proofs.YtfefjabdfelhnaaDoor
open Go Go.RowKit
set_option linter.unusedVariables false

theorem str_below {w : World} {a : Option Addr} {n : Nat} {l : List Nat} (h : Bytes w a n l) (cap : Nat) (w' : World) (hb : Below w.heap.size w w') : (convert 22 9 (.slice a n cap)).run Tryd.prog w' = .ok (.string (strB l)) w' :=
  run_str (P := Tryd.prog) (h.below hb (Nat.le_refl _)) 22 5 9 Tryd.underlying22 Tryd.underlying5 Tryd.underlying9 cap
theorem chain {w W w' : World} (h1 : Below w.heap.size w W) (h2 : Below W.heap.size W w') : Below w.heap.size w w' := h1.trans (h2.mono h1.size)

def outL (s : Option (List Nat × Nat)) : List Nat := match s with | some (o, _) => o | none => []
def outN (s : Option (List Nat × Nat)) : Nat := match s with | some (_, n) => n | none => 0
theorem MendV.flat {B : Nat} {w : World} {s : Option (List Nat × Nat)} {e : Ending} (h : MendV B w s e) : ∃ a cap, e = .returned (.tuple #[.slice a (outL s).length cap, .int .i64 (outN s : Nat), .bool s.isSome]) ∧ Bytes w a (outL s).length (outL s) := by
  cases s with
  | none => exact ⟨none, 0, h, rfl, by simp [outL], fun h => by simp [outL] at h⟩
  | some x =>
    obtain ⟨v, h1, a, cap, h2, h3, _⟩ := h
    subst h2
    exact ⟨a, cap, h1, h3⟩

set_option maxRecDepth 100000 in
set_option maxHeartbeats 40000000 in
theorem erows_walk (a : Option Addr) (len cap : Nat) (l : List Nat) (a2 : Option Addr) (cl cap2 : Nat) (c : List Nat) (w : World) (hi : Bytes w a len l) (hj : Bytes w a2 cl c) (hl : len ≤ 600) (hcl : cl ≤ 600) (hc : len ≤ cap) (hc2 : cl ≤ cap2) (hT : Deb w) :
    Calls Tryd.prog 3 #[.slice a len cap, .slice a2 cl cap2] w fun e w' => e = .returned (.bool true) ∧ Below w.heap.size w w' := by
  have HI := Lib.hid hi
  have HJ := Lib.hid hj
  have HT := Lib.hid hT
  clear hi hj hT
  obtain ⟨m, hm⟩ : ∃ m, m = mendAllS l c := ⟨_, rfl⟩
  obtain ⟨mn, hmn⟩ : ∃ mn, mn = outN m := ⟨_, rfl⟩
  obtain ⟨ml, hml⟩ : ∃ ml, ml = (outL m).length := ⟨_, rfl⟩
  obtain ⟨mb, hmb⟩ : ∃ mb, mb = m.isSome := ⟨_, rfl⟩
  have HM := Lib.hid hm
  have HMN := Lib.hid hmn
  have HML := Lib.hid hml
  have HMB := Lib.hid hmb
  clear hm hmn hml hmb
  go_enter Tryd.func3, Tryd.ntmps3
  go_wp2_with fail
  refine (known_any _ HT.out).mono ?_
  rintro e w1 ⟨rfl, rfl⟩
  go_wp2_with fail
  refine (mendAllB_any a len cap l a2 cl cap2 c _ HI.out HJ.out (by omega) (by omega) hc hc2 HT.out).mono ?_
  rintro e w2 ⟨hv, hb2⟩
  obtain ⟨a3, cap3, he, hy3⟩ := hv.flat
  rw [← HM.out, ← HMN.out, ← HML.out, ← HMB.out] at he
  subst he
  have hi2 := HI.out.below hb2 (Nat.le_refl _)
  have hj2 := HJ.out.below hb2 (Nat.le_refl _)
  have hz2 := hb2.size
  go_wp2_with fail
  refine (rmendAllB_any a len cap l a2 cl cap2 c _ hi2 hj2 (by omega) (by omega) hc hc2).mono ?_
  rintro e w5 ⟨hv2, hb5⟩
  obtain ⟨a4, cap4, he, hy4⟩ := hv2.flat
  rw [← HM.out, ← HMN.out, ← HML.out, ← HMB.out] at he
  subst he
  have hb5w := hb2.trans (hb5.mono hz2)
  have HI5 := Lib.hid (HI.out.below hb5w (Nat.le_refl _))
  have HT5 := Lib.hid (Deb.below HT.out hb5w (Nat.le_refl _))
  have hz5 := hb5w.size
  rw [← HM.out, ← HML.out] at hy3 hy4
  have hsx := str_below (hy3.below hb5 (Nat.le_refl _)) cap3
  have hsy := str_below hy4 cap4
  have HW := Lib.hid hb5w
  clear hi2 hj2 hy3 hy4 hb2 hb5 hb5w hv hv2
  have hd : Below w5.heap.size w5 w5.drew := (Below.refl _ _).drew
  obtain ⟨sx, hsxx⟩ : ∃ sx, sx = strB (outL m) := ⟨_, rfl⟩
  rw [← hsxx] at hsx hsy
  obtain ⟨sq, HSQ⟩ : ∃ sq, Hid (sq = strB (wordsOf l)) := ⟨_, Lib.hid rfl⟩
  clear hsxx HM HMN HML HMB
  go_wp2_with fail
  refine wp_region_held_drew (S := (fun w' => Below w5.heap.size w5 w')) (by kernel_rfl) (hd) (fun hHeld => ?_)
  refine held_take 0 (v := ?_) rfl (by kernel_rfl) (by kernel_rfl) (by kernel_rfl) (fun _ _ _ h => h) (by rfl) (fun w hS => ?_) (by assumption) ?_
  rotate_left
  · try dsimp only at hS
    go_simp <;> with_reducible rfl
  try simp only [Act.put, List.setIfInBounds_toArray, List.set_cons_zero, List.set_cons_succ]
  refine held_take 3 (v := ?_) rfl (by kernel_rfl) (by kernel_rfl) (by kernel_rfl) (fun _ _ _ h => h) (by rfl) (fun w hS => ?_) (by assumption) ?_
  rotate_left
  · try dsimp only at hS
    go_simp <;> with_reducible rfl
  try simp only [Act.put, List.setIfInBounds_toArray, List.set_cons_zero, List.set_cons_succ]
  refine held_one 1 rfl (by kernel_rfl) (fun K hK => ?_)
  go_simp
  refine Calls.mono (wordsB_any a len cap l _ (HI5.out.below hd (Nat.le_refl _)) (by omega) hc (Deb.below HT5.out hd (Nat.le_refl _))) ?_
  rintro e wa ⟨⟨v, rfl, g, c9, rfl, hyy, _, _, _, _⟩, hb⟩
  have hq := str_below hyy c9
  have hbA : Below w5.heap.size w5 wa := chain hd hb
  rw [← HSQ.out] at hq
  have hsxA := fun w' (h : Below wa.heap.size wa w') => hsx w' (chain hbA h)
  have hsyA := fun w' (h : Below wa.heap.size wa w') => hsy w' (chain hbA h)
  clear hyy hsx hsy
  refine hK.out _ _ (fun w' => Below wa.heap.size wa w') (fun _ h => chain hbA h) (Below.refl _ _) (fun hHeld => ?_)
  clear hK K
  try simp only [Act.put, List.setIfInBounds_toArray, List.set_cons_zero, List.set_cons_succ]
  refine held_take 2 (v := ?_) rfl (by kernel_rfl) (by kernel_rfl) (by kernel_rfl) (fun _ _ _ h => h) (by rfl) (fun w hS => ?_) (by assumption) ?_
  rotate_left
  · try dsimp only at hS
    go_simp <;> with_reducible rfl
  try simp only [Act.put, List.setIfInBounds_toArray, List.set_cons_zero, List.set_cons_succ]
  refine held_one 4 rfl (by kernel_rfl) (fun K hK => ?_)
  go_simp
  refine Calls.mono (rwordsB_any a len cap l _ (HI5.out.below hbA (Nat.le_refl _)) (by omega) hc) ?_
  rintro e wb ⟨⟨v, rfl, g2, c8, rfl, hyy, _, _, _, _⟩, hb⟩
  have hq2 := str_below hyy c8
  have hbB : Below wa.heap.size wa wb := hb
  have hbR : Below w5.heap.size w5 wb := chain hbA hbB
  rw [← HSQ.out] at hq2
  have hsx := fun w' (h : Below wb.heap.size wb w') => hsxA w' (chain hbB h)
  have hsy := fun w' (h : Below wb.heap.size wb w') => hsyA w' (chain hbB h)
  clear hyy hsxA hsyA hq
  refine hK.out _ _ (fun w' => Below wb.heap.size wb w') (fun _ h => chain hbB h) (Below.refl _ _) (fun hHeld => ?_)
  clear hK K
  try simp only [Act.put, List.setIfInBounds_toArray, List.set_cons_zero, List.set_cons_succ]
  refine held_take 5 (v := ?_) rfl (by kernel_rfl) (by kernel_rfl) (by kernel_rfl) (fun _ _ _ h => h) (by rfl) (fun w hS => ?_) (by assumption) ?_
  rotate_left
  · try dsimp only at hS
    go_simp <;> with_reducible rfl
  try simp only [Act.put, List.setIfInBounds_toArray, List.set_cons_zero, List.set_cons_succ]
  refine held_take 6 (v := ?_) rfl (by kernel_rfl) (by kernel_rfl) (by kernel_rfl) (fun _ _ _ h => h) (by rfl) (fun w hS => ?_) (by assumption) ?_
  rotate_left
  · try dsimp only at hS
    go_simp <;> with_reducible rfl
  try simp only [Act.put, List.setIfInBounds_toArray, List.set_cons_zero, List.set_cons_succ]
  refine held_take 7 (v := ?_) rfl (by kernel_rfl) (by kernel_rfl) (by kernel_rfl) (fun _ _ _ h => h) (by rfl) (fun w hS => ?_) (by assumption) ?_
  rotate_left
  · try dsimp only at hS
    go_simp <;> with_reducible rfl
  try simp only [Act.put, List.setIfInBounds_toArray, List.set_cons_zero, List.set_cons_succ]
  refine held_take 8 (v := ?_) rfl (by kernel_rfl) (by kernel_rfl) (by kernel_rfl) (fun _ _ _ h => h) (by rfl) (fun w hS => ?_) (by assumption) ?_
  rotate_left
  · try dsimp only at hS
    go_simp <;> with_reducible rfl
  try simp only [Act.put, List.setIfInBounds_toArray, List.set_cons_zero, List.set_cons_succ]
  refine held_take 9 (v := ?_) rfl (by kernel_rfl) (by kernel_rfl) (by kernel_rfl) (fun _ _ _ h => h) (by rfl) (fun w hS => ?_) (by assumption) ?_
  rotate_left
  · try dsimp only at hS
    go_simp <;> with_reducible rfl
  try simp only [Act.put, List.setIfInBounds_toArray, List.set_cons_zero, List.set_cons_succ]
  refine held_take 10 (v := ?_) rfl (by kernel_rfl) (by kernel_rfl) (by kernel_rfl) (fun _ _ _ h => h) (by rfl) (fun w hS => ?_) (by assumption) ?_
  rotate_left
  · try dsimp only at hS
    go_simp <;> with_reducible rfl
  try simp only [Act.put, List.setIfInBounds_toArray, List.set_cons_zero, List.set_cons_succ]
  refine held_take 11 (v := ?_) rfl (by kernel_rfl) (by kernel_rfl) (by kernel_rfl) (fun _ _ _ h => h) (by rfl) (fun w hS => ?_) (by assumption) ?_
  rotate_left
  · try dsimp only at hS
    go_simp <;> with_reducible rfl
  try simp only [Act.put, List.setIfInBounds_toArray, List.set_cons_zero, List.set_cons_succ]
  refine held_take 12 (v := ?_) rfl (by kernel_rfl) (by kernel_rfl) (by kernel_rfl) (fun _ _ _ h => h) (by rfl) (fun w hS => ?_) (by assumption) ?_
  rotate_left
  · try dsimp only at hS
    go_simp <;> with_reducible rfl
  try simp only [Act.put, List.setIfInBounds_toArray, List.set_cons_zero, List.set_cons_succ]
  refine held_take 13 (v := ?_) rfl (by kernel_rfl) (by kernel_rfl) (by kernel_rfl) (fun _ _ _ h => h) (by rfl) (fun w hS => ?_) (by assumption) ?_
  rotate_left
  · try dsimp only at hS
    go_simp <;> with_reducible rfl
  try simp only [Act.put, List.setIfInBounds_toArray, List.set_cons_zero, List.set_cons_succ]
  refine held_take 14 (v := ?_) rfl (by kernel_rfl) (by kernel_rfl) (by kernel_rfl) (fun _ _ _ h => h) (by rfl) (fun w hS => ?_) (by assumption) ?_
  rotate_left
  · try dsimp only at hS
    go_simp <;> with_reducible rfl
  try simp only [Act.put, List.setIfInBounds_toArray, List.set_cons_zero, List.set_cons_succ]
  refine held_take 15 (v := ?_) rfl (by kernel_rfl) (by kernel_rfl) (by kernel_rfl) (fun _ _ _ h => h) (by rfl) (fun w hS => ?_) (by assumption) ?_
  rotate_left
  · try dsimp only at hS
    go_simp <;> with_reducible rfl
  try simp only [Act.put, List.setIfInBounds_toArray, List.set_cons_zero, List.set_cons_succ]
  refine held_take 16 (v := ?_) rfl (by kernel_rfl) (by kernel_rfl) (by kernel_rfl) (fun _ _ _ h => h) (by rfl) (fun w hS => ?_) (by assumption) ?_
  rotate_left
  · try dsimp only at hS
    go_simp <;> with_reducible rfl
  try simp only [Act.put, List.setIfInBounds_toArray, List.set_cons_zero, List.set_cons_succ]
  refine held_take 17 (v := ?_) rfl (by kernel_rfl) (by kernel_rfl) (by kernel_rfl) (fun _ _ _ h => h) (by rfl) (fun w hS => ?_) (by assumption) ?_
  rotate_left
  · try dsimp only at hS
    go_simp <;> with_reducible rfl
  try simp only [Act.put, List.setIfInBounds_toArray, List.set_cons_zero, List.set_cons_succ]
  refine held_take 18 (v := ?_) rfl (by kernel_rfl) (by kernel_rfl) (by kernel_rfl) (fun _ _ _ h => h) (by rfl) (fun w hS => ?_) (by assumption) ?_
  rotate_left
  · try dsimp only at hS
    go_simp <;> with_reducible rfl
  try simp only [Act.put, List.setIfInBounds_toArray, List.set_cons_zero, List.set_cons_succ]
  refine held_take 19 (v := ?_) rfl (by kernel_rfl) (by kernel_rfl) (by kernel_rfl) (fun _ _ _ h => h) (by rfl) (fun w hS => ?_) (by assumption) ?_
  rotate_left
  · try dsimp only at hS
    go_simp <;> with_reducible rfl
  try simp only [Act.put, List.setIfInBounds_toArray, List.set_cons_zero, List.set_cons_succ]
  refine held_take 20 (v := ?_) rfl (by kernel_rfl) (by kernel_rfl) (by kernel_rfl) (fun _ _ _ h => h) (by rfl) (fun w hS => ?_) (by assumption) ?_
  rotate_left
  · try dsimp only at hS
    go_simp <;> with_reducible rfl
  try simp only [Act.put, List.setIfInBounds_toArray, List.set_cons_zero, List.set_cons_succ]
  refine held_take 21 (v := ?_) rfl (by kernel_rfl) (by kernel_rfl) (by kernel_rfl) (fun _ _ _ h => h) (by rfl) (fun w hS => ?_) (by assumption) ?_
  rotate_left
  · try dsimp only at hS
    go_simp <;> with_reducible rfl
  try simp only [Act.put, List.setIfInBounds_toArray, List.set_cons_zero, List.set_cons_succ]
  refine held_take 22 (v := ?_) rfl (by kernel_rfl) (by kernel_rfl) (by kernel_rfl) (fun _ _ _ h => h) (by rfl) (fun w hS => ?_) (by assumption) ?_
  rotate_left
  · try dsimp only at hS
    go_simp <;> with_reducible rfl
  try simp only [Act.put, List.setIfInBounds_toArray, List.set_cons_zero, List.set_cons_succ]
  refine held_take 23 (v := ?_) rfl (by kernel_rfl) (by kernel_rfl) (by kernel_rfl) (fun _ _ _ h => h) (by rfl) (fun w hS => ?_) (by assumption) ?_
  rotate_left
  · try dsimp only at hS
    go_simp <;> with_reducible rfl
  try simp only [Act.put, List.setIfInBounds_toArray, List.set_cons_zero, List.set_cons_succ]
  refine held_take 24 (v := ?_) rfl (by kernel_rfl) (by kernel_rfl) (by kernel_rfl) (fun _ _ _ h => h) (by rfl) (fun w hS => ?_) (by assumption) ?_
  rotate_left
  · try dsimp only at hS
    go_simp <;> with_reducible rfl
  try simp only [Act.put, List.setIfInBounds_toArray, List.set_cons_zero, List.set_cons_succ]
  refine held_done (by kernel_rfl) ?_
  go_wp2
  go_ret
  exact ⟨rfl, HW.out.trans (Below.mono hbR hz5)⟩

theorem erows_any (a : Option Addr) (len cap : Nat) (l : List Nat) (a2 : Option Addr) (cl cap2 : Nat) (c : List Nat) (w : World) (hi : Bytes w a len l) (hj : Bytes w a2 cl c) (hc : len ≤ cap) (hc2 : cl ≤ cap2) (hcm : cap ≤ maxLen) (hcm2 : cap2 ≤ maxLen) (hT : Deb w) :
    Calls Tryd.prog 3 #[.slice a len cap, .slice a2 cl cap2] w fun e w' => e = .returned (.bool true) ∧ Below w.heap.size w w' := by
  unfold maxLen at hcm hcm2
  have HI := Lib.hid hi
  have HJ := Lib.hid hj
  have HT := Lib.hid hT
  by_cases h1 : len ≤ 600
  · by_cases h2 : cl ≤ 600
    · exact erows_walk a len cap l a2 cl cap2 c w hi hj h1 h2 hc hc2 hT
    · clear hi hj hT
      go_enter Tryd.func3, Tryd.ntmps3
      go_wp2_with (go_at_call 9; refine (known_any _ HT.out).mono ?_; rintro e w1 ⟨rfl, rfl⟩)
      go_ret
      exact ⟨rfl, Below.refl _ _⟩
  · clear hi hj hT
    go_enter Tryd.func3, Tryd.ntmps3
    go_wp2_with (go_at_call 9; refine (known_any _ HT.out).mono ?_; rintro e w1 ⟨rfl, rfl⟩)
    go_ret
    exact ⟨rfl, Below.refl _ _⟩

end Go.Proofs.YtfefjabdfelhnaaDoor
