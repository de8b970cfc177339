/- token: TokenReads. -/
import Derived.Test.YtjjeopanffcbiaaTokG
import Derived.Test.YtjjeopanffcbiaaTokB
import Derived.Test.YtjjeopanffcbiaaHeld
namespace Go.Proofs.Ytjjeopanffcbiaa
open Go.RowKit
set_option linter.unusedVariables false

theorem str_below {w : World} {a : Option Addr} {n : Nat} {l : List Nat} (h : Bytes w a n l) (cap : Nat) (w' : World) (hb : Below w.heap.size w w') : (convert 22 9 (.slice a n cap)).run Try.prog w' = .ok (.string (strB l)) w' :=
  run_str (P := Try.prog) (h.below hb (Nat.le_refl _)) 22 5 9 Try.underlying22 Try.underlying5 Try.underlying9 cap

theorem chain {w W w' : World} (h1 : Below w.heap.size w W) (h2 : Below W.heap.size W w') : Below w.heap.size w w' := h1.trans (h2.mono h1.size)
theorem splitR_len (l : List Nat) (size : Int) : ∀ (f k : Nat) (ls : List (List Nat)), ls.length ≤ k → ls.length ≤ l.length → (splitR l size f k ls).1.length ≤ l.length
  | 0, k, ls, h, h2 => h2
  | f + 1, k, ls, h, h2 => by
    unfold splitR
    split
    · split
      · exact splitR_len l size f _ _ (by simp; omega) (by simp; omega)
      · exact h2
    · exact h2

set_option maxRecDepth 100000 in
set_option maxHeartbeats 40000000 in
theorem treads_walk (a : Option Addr) (len cap : Nat) (l : List Nat) (size x : Int) (w : World) (hi : Bytes w a len l) (hnil : a = none → cap = 0) (hl : len ≤ 4096) (hc : len ≤ cap) (hcm : cap ≤ maxLen) :
    Calls Try.prog 3 #[.slice a len cap, .int .i64 size, .int .i64 x] w fun e w' => e = .returned (.bool true) ∧ Below w.heap.size w w' := by
  have HI := Lib.hid hi
  clear hi
  go_enter Try.func3, Try.ntmps3
  go_wp2_with fail
  refine (tknown_any _).mono ?_
  rintro e w1 ⟨rfl, hb1⟩
  have hi1 := HI.out.below hb1 (Nat.le_refl _)
  have hz1 := hb1.size
  go_wp2_with fail
  refine (read_any a len cap l size _ hi1 hnil (by omega) hc hcm).mono ?_
  rintro e w2 ⟨⟨a3, cap3, he, hy3, _, _⟩, hb2⟩
  subst he
  have hb2w := hb1.trans (hb2.mono hz1)
  have hi2 := HI.out.below hb2w (Nat.le_refl _)
  have hz2 := hb2w.size
  go_wp2_with fail
  refine (rread_any a len cap l size _ hi2 hnil (by omega) hc hcm).mono ?_
  rintro e w3 ⟨⟨a4, cap4, he, hy4, _, _⟩, hb3⟩
  subst he
  have hb3w := hb2w.trans (hb3.mono hz2)
  have hi3 := HI.out.below hb3w (Nat.le_refl _)
  have hz3 := hb3w.size
  have hy33 := hy3.below hb3 (Nat.le_refl _)
  go_wp2_with fail
  refine (tsplit_any a len cap l size _ hi3 hnil (by omega) hc hcm).mono ?_
  rintro e w4 ⟨⟨v5, he, hr5⟩, hb4⟩
  subst he
  have hb4w := hb3w.trans (hb4.mono hz3)
  have hi4 := HI.out.below hb4w (Nat.le_refl _)
  have hz4 := hb4w.size
  have hy34 := hy33.below hb4 (Nat.le_refl _)
  have hy44 := hy4.below hb4 (Nat.le_refl _)
  go_wp2_with fail
  refine (rsplit_any a len cap l size _ hi4 hnil (by omega) hc hcm).mono ?_
  rintro e w5 ⟨⟨v6, he, hr6⟩, hb5⟩
  subst he
  have hb5w := hb4w.trans (hb5.mono hz4)
  have HI5 := Lib.hid (HI.out.below hb5w (Nat.le_refl _))
  have hz5 := hb5w.size
  have hsx := str_below (hy34.below hb5 (Nat.le_refl _)) cap3
  have hsy := str_below (hy44.below hb5 (Nat.le_refl _)) cap4
  have HR5 := Lib.hid (hr5.below hb5)
  have HR6 := Lib.hid hr6
  have HW := Lib.hid hb5w
  clear hi1 hi2 hi3 hi4 hy3 hy33 hy34 hy4 hy44 hr5 hr6 hb1 hb2 hb3 hb4 hb5 hb2w hb3w hb4w hb5w
  have hd : Below w5.heap.size w5 w5.drew := (Below.refl _ _).drew
  have hll : (splitAll l size).1.length ≤ 1000000 := Nat.le_trans (splitR_len l size _ _ _ (by simp) (by simp)) (by rw [HI5.out.1]; omega)
  obtain ⟨rl, HRL⟩ : ∃ rl, Hid (rl = readL l size) := ⟨_, Lib.hid rfl⟩
  obtain ⟨rn, HRN⟩ : ∃ rn, Hid (rn = readN l size) := ⟨_, Lib.hid rfl⟩
  obtain ⟨re, HRE⟩ : ∃ re, Hid (re = readErr l size) := ⟨_, Lib.hid rfl⟩
  obtain ⟨sl, HSL⟩ : ∃ sl, Hid (sl = (splitAll l size).1) := ⟨_, Lib.hid rfl⟩
  obtain ⟨sn, HSN⟩ : ∃ sn : Int, Hid (sn = ((splitAll l size).2.1 : Int)) := ⟨_, Lib.hid rfl⟩
  obtain ⟨se, HSE⟩ : ∃ se, Hid (se = (splitAll l size).2.2) := ⟨_, Lib.hid rfl⟩
  rw [← HRL.out] at hsx hsy
  rw [← HSL.out] at HR5 HR6 hll
  rw [← HRL.out, ← HRN.out, ← HRE.out, ← HSN.out, ← HSE.out]
  obtain ⟨n3, hn3⟩ : ∃ n3, n3 = rl.length := ⟨_, rfl⟩
  rw [← hn3] at hsx hsy ⊢
  obtain ⟨sx, hsxx⟩ : ∃ sx, sx = strB rl := ⟨_, rfl⟩
  rw [← hsxx] at hsx hsy
  obtain ⟨sq, HSQ⟩ : ∃ sq, Hid (sq = strB (layL l)) := ⟨_, Lib.hid rfl⟩
  clear hn3 hsxx HRL HRN HRE HSL HSN HSE
  go_wp2_with fail
  refine wp_region_held_drew (S := (fun w' => Below w5.heap.size w5 w')) (by kernel_rfl) (hd) (fun hHeld => ?_)
  refine held_take 0 (v := ?_) rfl (by kernel_rfl) (by kernel_rfl) (by kernel_rfl) (fun _ _ _ h => h) (by rfl) (fun w hS => ?_) (by assumption) ?_
  rotate_left
  · try dsimp only at hS
    go_simp <;> with_reducible rfl
  try simp only [Act.put, List.setIfInBounds_toArray, List.set_cons_zero, List.set_cons_succ]
  refine held_take 3 (v := ?_) rfl (by kernel_rfl) (by kernel_rfl) (by kernel_rfl) (fun _ _ _ h => h) (by rfl) (fun w hS => ?_) (by assumption) ?_
  rotate_left
  · try dsimp only at hS
    go_simp <;> with_reducible rfl
  try simp only [Act.put, List.setIfInBounds_toArray, List.set_cons_zero, List.set_cons_succ]
  refine held_one 1 rfl (by kernel_rfl) (fun K hK => ?_)
  go_simp
  refine Calls.mono (lay_any a len cap l _ (HI5.out.below hd (Nat.le_refl _)) hnil (by omega)) ?_
  rintro e wa ⟨⟨g, c, rfl, hown⟩, hb⟩
  have hq := str_below (bytes_of_own hown (layL_lt l HI5.out.2.1))
  have hbA : Below w5.heap.size w5 wa := chain hd hb
  rw [← HSQ.out] at hq
  have hsxA := fun w' (h : Below wa.heap.size wa w') => hsx w' (chain hbA h)
  have hsyA := fun w' (h : Below wa.heap.size wa w') => hsy w' (chain hbA h)
  clear hown hsx hsy
  refine hK.out _ _ (fun w' => Below wa.heap.size wa w') (fun _ h => chain hbA h) (Below.refl _ _) (fun hHeld => ?_)
  clear hK K
  try simp only [Act.put, List.setIfInBounds_toArray, List.set_cons_zero, List.set_cons_succ]
  refine held_take 2 (v := ?_) rfl (by kernel_rfl) (by kernel_rfl) (by kernel_rfl) (fun _ _ _ h => h) (by rfl) (fun w hS => ?_) (by assumption) ?_
  rotate_left
  · try dsimp only at hS
    go_simp <;> with_reducible rfl
  try simp only [Act.put, List.setIfInBounds_toArray, List.set_cons_zero, List.set_cons_succ]
  refine held_one 4 rfl (by kernel_rfl) (fun K hK => ?_)
  go_simp
  refine Calls.mono (rlay_any a len cap l _ (HI5.out.below hbA (Nat.le_refl _)) hnil (by omega)) ?_
  rintro e wb ⟨⟨g2, c2, rfl, hown⟩, hb⟩
  have hq2 := str_below (bytes_of_own hown (layL_lt l HI5.out.2.1))
  have hbB : Below wa.heap.size wa wb := hb
  have hbR : Below w5.heap.size w5 wb := chain hbA hbB
  rw [← HSQ.out] at hq2
  have hsx := fun w' (h : Below wb.heap.size wb w') => hsxA w' (chain hbB h)
  have hsy := fun w' (h : Below wb.heap.size wb w') => hsyA w' (chain hbB h)
  clear hown hsxA hsyA hq
  refine hK.out _ _ (fun w' => Below wb.heap.size wb w') (fun _ h => chain hbB h) (Below.refl _ _) (fun hHeld => ?_)
  clear hK K
  try simp only [Act.put, List.setIfInBounds_toArray, List.set_cons_zero, List.set_cons_succ]
  refine held_take 5 (v := ?_) rfl (by kernel_rfl) (by kernel_rfl) (by kernel_rfl) (fun _ _ _ h => h) (by rfl) (fun w hS => ?_) (by assumption) ?_
  rotate_left
  · try dsimp only at hS
    go_simp <;> with_reducible rfl
  try simp only [Act.put, List.setIfInBounds_toArray, List.set_cons_zero, List.set_cons_succ]
  refine held_take 6 (v := ?_) rfl (by kernel_rfl) (by kernel_rfl) (by kernel_rfl) (fun _ _ _ h => h) (by rfl) (fun w hS => ?_) (by assumption) ?_
  rotate_left
  · try dsimp only at hS
    go_simp <;> with_reducible rfl
  try simp only [Act.put, List.setIfInBounds_toArray, List.set_cons_zero, List.set_cons_succ]
  refine held_take 7 (v := ?_) rfl (by kernel_rfl) (by kernel_rfl) (by kernel_rfl) (fun _ _ _ h => h) (by rfl) (fun w hS => ?_) (by assumption) ?_
  rotate_left
  · try dsimp only at hS
    go_simp <;> with_reducible rfl
  try simp only [Act.put, List.setIfInBounds_toArray, List.set_cons_zero, List.set_cons_succ]
  refine held_take 8 (v := ?_) rfl (by kernel_rfl) (by kernel_rfl) (by kernel_rfl) (fun _ _ _ h => h) (by rfl) (fun w hS => ?_) (by assumption) ?_
  rotate_left
  · try dsimp only at hS
    go_simp <;> with_reducible rfl
  try simp only [Act.put, List.setIfInBounds_toArray, List.set_cons_zero, List.set_cons_succ]
  refine held_take 9 (v := ?_) rfl (by kernel_rfl) (by kernel_rfl) (by kernel_rfl) (fun _ _ _ h => h) (by rfl) (fun w hS => ?_) (by assumption) ?_
  rotate_left
  · try dsimp only at hS
    go_simp <;> with_reducible rfl
  try simp only [Act.put, List.setIfInBounds_toArray, List.set_cons_zero, List.set_cons_succ]
  refine held_take 10 (v := ?_) rfl (by kernel_rfl) (by kernel_rfl) (by kernel_rfl) (fun _ _ _ h => h) (by rfl) (fun w hS => ?_) (by assumption) ?_
  rotate_left
  · try dsimp only at hS
    go_simp <;> with_reducible rfl
  try simp only [Act.put, List.setIfInBounds_toArray, List.set_cons_zero, List.set_cons_succ]
  refine held_take 11 (v := ?_) rfl (by kernel_rfl) (by kernel_rfl) (by kernel_rfl) (fun _ _ _ h => h) (by rfl) (fun w hS => ?_) (by assumption) ?_
  rotate_left
  · try dsimp only at hS
    go_simp <;> with_reducible rfl
  try simp only [Act.put, List.setIfInBounds_toArray, List.set_cons_zero, List.set_cons_succ]
  refine held_take 12 (v := ?_) rfl (by kernel_rfl) (by kernel_rfl) (by kernel_rfl) (fun _ _ _ h => h) (by rfl) (fun w hS => ?_) (by assumption) ?_
  rotate_left
  · try dsimp only at hS
    go_simp <;> with_reducible rfl
  try simp only [Act.put, List.setIfInBounds_toArray, List.set_cons_zero, List.set_cons_succ]
  refine held_take 13 (v := ?_) rfl (by kernel_rfl) (by kernel_rfl) (by kernel_rfl) (fun _ _ _ h => h) (by rfl) (fun w hS => ?_) (by assumption) ?_
  rotate_left
  · try dsimp only at hS
    go_simp <;> with_reducible rfl
  try simp only [Act.put, List.setIfInBounds_toArray, List.set_cons_zero, List.set_cons_succ]
  refine held_take 14 (v := ?_) rfl (by kernel_rfl) (by kernel_rfl) (by kernel_rfl) (fun _ _ _ h => h) (by rfl) (fun w hS => ?_) (by assumption) ?_
  rotate_left
  · try dsimp only at hS
    go_simp <;> with_reducible rfl
  try simp only [Act.put, List.setIfInBounds_toArray, List.set_cons_zero, List.set_cons_succ]
  refine held_take 15 (v := ?_) rfl (by kernel_rfl) (by kernel_rfl) (by kernel_rfl) (fun _ _ _ h => h) (by rfl) (fun w hS => ?_) (by assumption) ?_
  rotate_left
  · try dsimp only at hS
    go_simp <;> with_reducible rfl
  try simp only [Act.put, List.setIfInBounds_toArray, List.set_cons_zero, List.set_cons_succ]
  refine held_take 16 (v := ?_) rfl (by kernel_rfl) (by kernel_rfl) (by kernel_rfl) (fun _ _ _ h => h) (by rfl) (fun w hS => ?_) (by assumption) ?_
  rotate_left
  · try dsimp only at hS
    go_simp <;> with_reducible rfl
  try simp only [Act.put, List.setIfInBounds_toArray, List.set_cons_zero, List.set_cons_succ]
  refine held_take 17 (v := ?_) rfl (by kernel_rfl) (by kernel_rfl) (by kernel_rfl) (fun _ _ _ h => h) (by rfl) (fun w hS => ?_) (by assumption) ?_
  rotate_left
  · try dsimp only at hS
    go_simp <;> with_reducible rfl
  try simp only [Act.put, List.setIfInBounds_toArray, List.set_cons_zero, List.set_cons_succ]
  refine held_take 18 (v := ?_) rfl (by kernel_rfl) (by kernel_rfl) (by kernel_rfl) (fun _ _ _ h => h) (by rfl) (fun w hS => ?_) (by assumption) ?_
  rotate_left
  · try dsimp only at hS
    go_simp <;> with_reducible rfl
  try simp only [Act.put, List.setIfInBounds_toArray, List.set_cons_zero, List.set_cons_succ]
  refine held_take 19 (v := ?_) rfl (by kernel_rfl) (by kernel_rfl) (by kernel_rfl) (fun _ _ _ h => h) (by rfl) (fun w hS => ?_) (by assumption) ?_
  rotate_left
  · try dsimp only at hS
    go_simp <;> with_reducible rfl
  try simp only [Act.put, List.setIfInBounds_toArray, List.set_cons_zero, List.set_cons_succ]
  refine held_take 20 (v := ?_) rfl (by kernel_rfl) (by kernel_rfl) (by kernel_rfl) (fun _ _ _ h => h) (by rfl) (fun w hS => ?_) (by assumption) ?_
  rotate_left
  · try dsimp only at hS
    go_simp <;> with_reducible rfl
  try simp only [Act.put, List.setIfInBounds_toArray, List.set_cons_zero, List.set_cons_succ]
  refine held_take 21 (v := ?_) rfl (by kernel_rfl) (by kernel_rfl) (by kernel_rfl) (fun _ _ _ h => h) (by rfl) (fun w hS => ?_) (by assumption) ?_
  rotate_left
  · try dsimp only at hS
    go_simp <;> with_reducible rfl
  try simp only [Act.put, List.setIfInBounds_toArray, List.set_cons_zero, List.set_cons_succ]
  refine held_take 22 (v := ?_) rfl (by kernel_rfl) (by kernel_rfl) (by kernel_rfl) (fun _ _ _ h => h) (by rfl) (fun w hS => ?_) (by assumption) ?_
  rotate_left
  · try dsimp only at hS
    go_simp <;> with_reducible rfl
  try simp only [Act.put, List.setIfInBounds_toArray, List.set_cons_zero, List.set_cons_succ]
  refine held_take 23 (v := ?_) rfl (by kernel_rfl) (by kernel_rfl) (by kernel_rfl) (fun _ _ _ h => h) (by rfl) (fun w hS => ?_) (by assumption) ?_
  rotate_left
  · try dsimp only at hS
    go_simp <;> with_reducible rfl
  try simp only [Act.put, List.setIfInBounds_toArray, List.set_cons_zero, List.set_cons_succ]
  refine held_take 24 (v := ?_) rfl (by kernel_rfl) (by kernel_rfl) (by kernel_rfl) (fun _ _ _ h => h) (by rfl) (fun w hS => ?_) (by assumption) ?_
  rotate_left
  · try dsimp only at hS
    go_simp <;> with_reducible rfl
  try simp only [Act.put, List.setIfInBounds_toArray, List.set_cons_zero, List.set_cons_succ]
  refine held_take 25 (v := ?_) rfl (by kernel_rfl) (by kernel_rfl) (by kernel_rfl) (fun _ _ _ h => h) (by rfl) (fun w hS => ?_) (by assumption) ?_
  rotate_left
  · try dsimp only at hS
    go_simp <;> with_reducible rfl
  try simp only [Act.put, List.setIfInBounds_toArray, List.set_cons_zero, List.set_cons_succ]
  refine held_take 26 (v := ?_) rfl (by kernel_rfl) (by kernel_rfl) (by kernel_rfl) (fun _ _ _ h => h) (by rfl) (fun w hS => ?_) (by assumption) ?_
  rotate_left
  · try dsimp only at hS
    go_simp <;> with_reducible rfl
  try simp only [Act.put, List.setIfInBounds_toArray, List.set_cons_zero, List.set_cons_succ]
  refine held_one 27 rfl (by kernel_rfl) (fun K hK => ?_)
  go_simp
  refine Calls.mono (rows_any (B := w3.heap.size) (C := w4.heap.size) v5 v6 sl _ (RowsAt.below HR5.out hbR) (RowsAt.below HR6.out hbR) hll) ?_
  rintro e wr ⟨rfl, hbr⟩
  have hbT : Below w5.heap.size w5 wr := chain hbR hbr
  clear hq2 hsx hsy
  refine hK.out _ _ (fun w' => Below wr.heap.size wr w') (fun _ h => chain hbr h) (Below.refl _ _) (fun hHeld => ?_)
  clear hK K
  try simp only [Act.put, List.setIfInBounds_toArray, List.set_cons_zero, List.set_cons_succ]
  refine held_take 28 (v := ?_) rfl (by kernel_rfl) (by kernel_rfl) (by kernel_rfl) (fun _ _ _ h => h) (by rfl) (fun w hS => ?_) (by assumption) ?_
  rotate_left
  · try dsimp only at hS
    go_simp <;> with_reducible rfl
  try simp only [Act.put, List.setIfInBounds_toArray, List.set_cons_zero, List.set_cons_succ]
  refine held_take 29 (v := ?_) rfl (by kernel_rfl) (by kernel_rfl) (by kernel_rfl) (fun _ _ _ h => h) (by rfl) (fun w hS => ?_) (by assumption) ?_
  rotate_left
  · try dsimp only at hS
    go_simp <;> with_reducible rfl
  try simp only [Act.put, List.setIfInBounds_toArray, List.set_cons_zero, List.set_cons_succ]
  refine held_take 30 (v := ?_) rfl (by kernel_rfl) (by kernel_rfl) (by kernel_rfl) (fun _ _ _ h => h) (by rfl) (fun w hS => ?_) (by assumption) ?_
  rotate_left
  · try dsimp only at hS
    go_simp <;> with_reducible rfl
  try simp only [Act.put, List.setIfInBounds_toArray, List.set_cons_zero, List.set_cons_succ]
  refine held_take 31 (v := ?_) rfl (by kernel_rfl) (by kernel_rfl) (by kernel_rfl) (fun _ _ _ h => h) (by rfl) (fun w hS => ?_) (by assumption) ?_
  rotate_left
  · try dsimp only at hS
    go_simp <;> with_reducible rfl
  try simp only [Act.put, List.setIfInBounds_toArray, List.set_cons_zero, List.set_cons_succ]
  refine held_take 32 (v := ?_) rfl (by kernel_rfl) (by kernel_rfl) (by kernel_rfl) (fun _ _ _ h => h) (by rfl) (fun w hS => ?_) (by assumption) ?_
  rotate_left
  · try dsimp only at hS
    go_simp <;> with_reducible rfl
  try simp only [Act.put, List.setIfInBounds_toArray, List.set_cons_zero, List.set_cons_succ]
  refine held_take 33 (v := ?_) rfl (by kernel_rfl) (by kernel_rfl) (by kernel_rfl) (fun _ _ _ h => h) (by rfl) (fun w hS => ?_) (by assumption) ?_
  rotate_left
  · try dsimp only at hS
    go_simp <;> with_reducible rfl
  try simp only [Act.put, List.setIfInBounds_toArray, List.set_cons_zero, List.set_cons_succ]
  refine held_take 34 (v := ?_) rfl (by kernel_rfl) (by kernel_rfl) (by kernel_rfl) (fun _ _ _ h => h) (by rfl) (fun w hS => ?_) (by assumption) ?_
  rotate_left
  · try dsimp only at hS
    go_simp <;> with_reducible rfl
  try simp only [Act.put, List.setIfInBounds_toArray, List.set_cons_zero, List.set_cons_succ]
  refine held_take 35 (v := ?_) rfl (by kernel_rfl) (by kernel_rfl) (by kernel_rfl) (fun _ _ _ h => h) (by rfl) (fun w hS => ?_) (by assumption) ?_
  rotate_left
  · try dsimp only at hS
    go_simp <;> with_reducible rfl
  try simp only [Act.put, List.setIfInBounds_toArray, List.set_cons_zero, List.set_cons_succ]
  refine held_take 36 (v := ?_) rfl (by kernel_rfl) (by kernel_rfl) (by kernel_rfl) (fun _ _ _ h => h) (by rfl) (fun w hS => ?_) (by assumption) ?_
  rotate_left
  · try dsimp only at hS
    go_simp <;> with_reducible rfl
  try simp only [Act.put, List.setIfInBounds_toArray, List.set_cons_zero, List.set_cons_succ]
  refine held_take 37 (v := ?_) rfl (by kernel_rfl) (by kernel_rfl) (by kernel_rfl) (fun _ _ _ h => h) (by rfl) (fun w hS => ?_) (by assumption) ?_
  rotate_left
  · try dsimp only at hS
    go_simp <;> with_reducible rfl
  try simp only [Act.put, List.setIfInBounds_toArray, List.set_cons_zero, List.set_cons_succ]
  refine held_take 38 (v := ?_) rfl (by kernel_rfl) (by kernel_rfl) (by kernel_rfl) (fun _ _ _ h => h) (by rfl) (fun w hS => ?_) (by assumption) ?_
  rotate_left
  · try dsimp only at hS
    go_simp <;> with_reducible rfl
  try simp only [Act.put, List.setIfInBounds_toArray, List.set_cons_zero, List.set_cons_succ]
  refine held_take 39 (v := ?_) rfl (by kernel_rfl) (by kernel_rfl) (by kernel_rfl) (fun _ _ _ h => h) (by rfl) (fun w hS => ?_) (by assumption) ?_
  rotate_left
  · try dsimp only at hS
    go_simp <;> with_reducible rfl
  try simp only [Act.put, List.setIfInBounds_toArray, List.set_cons_zero, List.set_cons_succ]
  refine held_take 40 (v := ?_) rfl (by kernel_rfl) (by kernel_rfl) (by kernel_rfl) (fun _ _ _ h => h) (by rfl) (fun w hS => ?_) (by assumption) ?_
  rotate_left
  · try dsimp only at hS
    go_simp <;> with_reducible rfl
  try simp only [Act.put, List.setIfInBounds_toArray, List.set_cons_zero, List.set_cons_succ]
  refine held_take 42 (v := ?_) rfl (by kernel_rfl) (by kernel_rfl) (by kernel_rfl) (fun _ _ _ h => h) (by rfl) (fun w hS => ?_) (by assumption) ?_
  rotate_left
  · try dsimp only at hS
    go_simp <;> with_reducible rfl
  try simp only [Act.put, List.setIfInBounds_toArray, List.set_cons_zero, List.set_cons_succ]
  refine held_one 41 rfl (by kernel_rfl) (fun K hK => ?_)
  go_simp
  refine (answer_any x _).mono ?_
  rintro e wa2 ⟨rfl, rfl⟩
  refine hK.out _ _ (fun w' => Below wr.heap.size wr w') (fun _ h => h) (Below.refl _ _) (fun hHeld => ?_)
  clear hK K
  try simp only [Act.put, List.setIfInBounds_toArray, List.set_cons_zero, List.set_cons_succ]
  refine held_one 43 rfl (by kernel_rfl) (fun K hK => ?_)
  go_simp
  refine (ranswer_any x _).mono ?_
  rintro e wa3 ⟨rfl, rfl⟩
  refine hK.out _ _ (fun w' => Below wr.heap.size wr w') (fun _ h => h) (Below.refl _ _) (fun hHeld => ?_)
  clear hK K
  try simp only [Act.put, List.setIfInBounds_toArray, List.set_cons_zero, List.set_cons_succ]
  refine held_take 44 (v := ?_) rfl (by kernel_rfl) (by kernel_rfl) (by kernel_rfl) (fun _ _ _ h => h) (by rfl) (fun w hS => ?_) (by assumption) ?_
  rotate_left
  · try dsimp only at hS
    go_simp <;> with_reducible rfl
  try simp only [Act.put, List.setIfInBounds_toArray, List.set_cons_zero, List.set_cons_succ]
  refine held_take 45 (v := ?_) rfl (by kernel_rfl) (by kernel_rfl) (by kernel_rfl) (fun _ _ _ h => h) (by rfl) (fun w hS => ?_) (by assumption) ?_
  rotate_left
  · try dsimp only at hS
    go_simp <;> with_reducible rfl
  try simp only [Act.put, List.setIfInBounds_toArray, List.set_cons_zero, List.set_cons_succ]
  refine held_take 46 (v := ?_) rfl (by kernel_rfl) (by kernel_rfl) (by kernel_rfl) (fun _ _ _ h => h) (by rfl) (fun w hS => ?_) (by assumption) ?_
  rotate_left
  · try dsimp only at hS
    go_simp <;> with_reducible rfl
  try simp only [Act.put, List.setIfInBounds_toArray, List.set_cons_zero, List.set_cons_succ]
  refine held_done (by kernel_rfl) ?_
  go_wp2
  go_ret
  exact ⟨rfl, HW.out.trans (Below.mono hbT hz5)⟩

end Go.Proofs.Ytjjeopanffcbiaa
