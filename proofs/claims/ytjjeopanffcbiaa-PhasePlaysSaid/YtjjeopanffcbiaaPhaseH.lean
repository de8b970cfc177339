/- phase: the reference's Go. -/
import Derived.Test.YtjjeopanffcbiaaPhaseG
namespace Go.Proofs.Ytjjeopanffcbiaa
open Go Go.RowKit Go.Maps
set_option linter.unusedVariables false

theorem HasB.drewN {w : World} {g : Nat} {vs : Array Value} {T : TypeId} (h : HasB w g vs T) (n : Nat) : HasB (w.drewN n) g vs T := h
theorem gb_drewN {a b : World} {row : Option Nat} (h : a.grownBy b row) (n : Nat) : a.grownBy (b.drewN n) row := ⟨h.os, h.tape, h.output, h.size, h.block⟩

set_option maxRecDepth 100000 in
set_option maxHeartbeats 2000000 in
theorem rgo_any (g : Nat) (s l a i arg : Int) (w : World) (hm : RMach w g s l a) (h0 : 0 ≤ arg) (h1 : arg < 4294967296) :
    Calls Try.prog 63 #[.pointer (some ⟨g, 0, none⟩), .int .i64 i, .int .u32 arg] w fun e w' => (e = .returned (.tuple #[.bool (goS s a l i arg).2.2.2.1, .bool (goS s a l i arg).2.2.2.2]) ∧ RMach w' g (goS s a l i arg).1 (goS s a l i arg).2.2.1 (goS s a l i arg).2.1) ∧ w.grownBy w' (some g) := by
  obtain ⟨hg, c0, c1, c2⟩ := hm.three
  have f0 := hm.free 0
  have f1 := hm.free 1
  have f2 := hm.free 2
  have HM := Lib.hid hm
  have hn := rnext_any s i (ownB a arg)
  obtain ⟨G, hG⟩ : ∃ G, G = goS s a l i arg := ⟨_, rfl⟩
  rw [← hG]
  unfold goS at hG
  obtain ⟨own, hown⟩ : ∃ own, own = ownB a arg := ⟨_, rfl⟩
  rw [← hown] at hG hn
  have HOwn := Lib.hid hown
  obtain ⟨N, hN⟩ : ∃ N, N = nextS s i own := ⟨_, rfl⟩
  simp only [← hN] at hG hn
  clear hN hown
  obtain ⟨n, ok⟩ := N
  have HN := Lib.hid hn
  clear hn hm
  cases ok
  · simp at hG
    subst hG
    go_enter Try.func63, Try.ntmps63
    go_wp2_with fail
    go_region_with (first | (go_at_call 123; refine (mine_any g s l a arg _ HM.out.drew h0 h1).mono ?_; rintro e w' ⟨rfl, rfl⟩; rw [← HOwn.out]) | (go_at_call 30; refine (HN.out _).mono ?_; rintro e w' ⟨rfl, rfl⟩))
    all_goals
      go_wp2
      go_ret2
      exact ⟨⟨rfl, HM.out.drew⟩, gb_drew (gb_refl _ _)⟩
  · simp only [if_true] at hG
    have HGG := Lib.hid hG
    clear hG
    go_enter Try.func63, Try.ntmps63
    go_wp2_with fail
    refine wp_region_held_drew (S := (fun w' => w' = w.drew)) (by kernel_rfl) (rfl) (fun hHeld => ?_)
    refine held_take 0 (v := ?_) rfl (by kernel_rfl) (by kernel_rfl) (by kernel_rfl) (fun _ _ _ h => h) (by rfl) (fun w hS => ?_) (by assumption) ?_
    rotate_left
    · try dsimp only at hS
      go_simp <;> with_reducible rfl
    try simp only [Act.put, List.setIfInBounds_toArray, List.set_cons_zero, List.set_cons_succ]
    refine held_take 1 (v := ?_) rfl (by kernel_rfl) (by kernel_rfl) (by kernel_rfl) (fun _ _ _ h => h) (by rfl) (fun w hS => ?_) (by assumption) ?_
    rotate_left
    · try dsimp only at hS
      go_simp <;> with_reducible rfl
    try simp only [Act.put, List.setIfInBounds_toArray, List.set_cons_zero, List.set_cons_succ]
    refine held_take 2 (v := ?_) rfl (by kernel_rfl) (by kernel_rfl) (by kernel_rfl) (fun _ _ _ h => h) (by rfl) (fun w hS => ?_) (by assumption) ?_
    rotate_left
    · try dsimp only at hS
      go_simp <;> with_reducible rfl
    try simp only [Act.put, List.setIfInBounds_toArray, List.set_cons_zero, List.set_cons_succ]
    refine held_take 3 (v := ?_) rfl (by kernel_rfl) (by kernel_rfl) (by kernel_rfl) (fun _ _ _ h => h) (by rfl) (fun w hS => ?_) (by assumption) ?_
    rotate_left
    · try dsimp only at hS
      go_simp <;> with_reducible rfl
    try simp only [Act.put, List.setIfInBounds_toArray, List.set_cons_zero, List.set_cons_succ]
    refine held_take 4 (v := ?_) rfl (by kernel_rfl) (by kernel_rfl) (by kernel_rfl) (fun _ _ _ h => h) (by rfl) (fun w hS => ?_) (by assumption) ?_
    rotate_left
    · try dsimp only at hS
      go_simp <;> with_reducible rfl
    try simp only [Act.put, List.setIfInBounds_toArray, List.set_cons_zero, List.set_cons_succ]
    refine held_take 5 (v := ?_) rfl (by kernel_rfl) (by kernel_rfl) (by kernel_rfl) (fun _ _ _ h => h) (by rfl) (fun w hS => ?_) (by assumption) ?_
    rotate_left
    · try dsimp only at hS
      go_simp <;> with_reducible rfl
    try simp only [Act.put, List.setIfInBounds_toArray, List.set_cons_zero, List.set_cons_succ]
    refine held_take 6 (v := ?_) rfl (by kernel_rfl) (by kernel_rfl) (by kernel_rfl) (fun _ _ _ h => h) (by rfl) (fun w hS => ?_) (by assumption) ?_
    rotate_left
    · try dsimp only at hS
      go_simp <;> with_reducible rfl
    try simp only [Act.put, List.setIfInBounds_toArray, List.set_cons_zero, List.set_cons_succ]
    refine held_one 7 rfl (by kernel_rfl) (fun K hK => ?_)
    go_simp
    refine (mine_any g s l a arg _ HM.out.drew h0 h1).mono ?_
    rintro e w' ⟨rfl, rfl⟩
    rw [← HOwn.out]
    refine hK.out _ _ (fun w' => w' = w.drew) (fun _ h => h) rfl (fun hHeld => ?_)
    clear hK K
    try simp only [Act.put, List.setIfInBounds_toArray, List.set_cons_zero, List.set_cons_succ]
    refine held_one 8 rfl (by kernel_rfl) (fun K hK => ?_)
    go_simp
    refine (HN.out _).mono ?_
    rintro e w' ⟨rfl, rfl⟩
    refine hK.out _ _ (fun w' => w' = w.drew) (fun _ h => h) rfl (fun hHeld => ?_)
    clear hK K
    try simp only [Act.put, List.setIfInBounds_toArray, List.set_cons_zero, List.set_cons_succ]
    refine held_take 9 (v := ?_) rfl (by kernel_rfl) (by kernel_rfl) (by kernel_rfl) (fun _ _ _ h => h) (by rfl) (fun w hS => ?_) (by assumption) ?_
    rotate_left
    · try dsimp only at hS
      go_simp <;> with_reducible rfl
    try simp only [Act.put, List.setIfInBounds_toArray, List.set_cons_zero, List.set_cons_succ]
    refine held_take 10 (v := ?_) rfl (by kernel_rfl) (by kernel_rfl) (by kernel_rfl) (fun _ _ _ h => h) (by rfl) (fun w hS => ?_) (by assumption) ?_
    rotate_left
    · try dsimp only at hS
      go_simp <;> with_reducible rfl
    try simp only [Act.put, List.setIfInBounds_toArray, List.set_cons_zero, List.set_cons_succ]
    refine held_take 11 (v := ?_) rfl (by kernel_rfl) (by kernel_rfl) (by kernel_rfl) (fun _ _ _ h => h) (by rfl) (fun w hS => ?_) (by assumption) ?_
    rotate_left
    · try dsimp only at hS
      go_simp <;> with_reducible rfl
    try simp only [Act.put, List.setIfInBounds_toArray, List.set_cons_zero, List.set_cons_succ]
    refine held_take 12 (v := ?_) rfl (by kernel_rfl) (by kernel_rfl) (by kernel_rfl) (fun _ _ _ h => h) (by rfl) (fun w hS => ?_) (by assumption) ?_
    rotate_left
    · try dsimp only at hS
      go_simp <;> with_reducible rfl
    try simp only [Act.put, List.setIfInBounds_toArray, List.set_cons_zero, List.set_cons_succ]
    refine held_take 13 (v := ?_) rfl (by kernel_rfl) (by kernel_rfl) (by kernel_rfl) (fun _ _ _ h => h) (by rfl) (fun w hS => ?_) (by assumption) ?_
    rotate_left
    · try dsimp only at hS
      go_simp <;> with_reducible rfl
    try simp only [Act.put, List.setIfInBounds_toArray, List.set_cons_zero, List.set_cons_succ]
    refine held_done (by kernel_rfl) ?_
    clear hHeld
    have hG := HGG.out
    clear HGG
    by_cases i3 : i = 3
    · subst i3
      rw [if_pos rfl] at hG
      have ht : arg / 65536 % 65536 = arg / 65536 := by omega
      by_cases hsn : s = n
      · subst hsn
        rw [if_pos rfl] at hG
        subst hG
        go_wp2_with (go_at_call 123; refine (mine_any g s l a _ _ HM.out.drew h0 h1).mono ?_; rintro e w' ⟨rfl, rfl⟩; rw [← HOwn.out])
        go_ret2
        exact ⟨⟨rfl, ((HM.out.drew.set 0 (.int .i64 s)).set 2 (.int .u16 (arg / 65536)))⟩, (gb_set (gb_set (gb_drew (gb_refl _ _)) _ _) _ _)⟩
      · have bsn : (n != s) = true := by simpa using fun h : n = s => hsn h.symm
        rw [if_neg hsn] at hG
        by_cases h6 : n = 6
        · subst h6
          rw [if_pos rfl] at hG
          subst hG
          clear hsn
          go_wp2_with (go_at_call 123; refine (mine_any g s l a _ _ HM.out.drew h0 h1).mono ?_; rintro e w' ⟨rfl, rfl⟩; rw [← HOwn.out])
          go_ret2
          exact ⟨⟨rfl, ((((HM.out.drew.set 1 (.int .i64 0)).set 1 (.int .i64 1)).set 0 (.int .i64 6)).set 2 (.int .u16 (arg / 65536)))⟩, (gb_set (gb_set (gb_set (gb_set (gb_drew (gb_refl _ _)) _ _) _ _) _ _) _ _)⟩
        · have b6 : (n == 6) = false := by simpa using h6
          rw [if_neg h6] at hG
          subst hG
          clear hsn h6
          go_wp2_with (go_at_call 123; refine (mine_any g s l a _ _ HM.out.drew h0 h1).mono ?_; rintro e w' ⟨rfl, rfl⟩; rw [← HOwn.out])
          go_ret2
          exact ⟨⟨rfl, (((HM.out.drew.set 1 (.int .i64 0)).set 0 (.int .i64 n)).set 2 (.int .u16 (arg / 65536)))⟩, (gb_set (gb_set (gb_set (gb_drew (gb_refl _ _)) _ _) _ _) _ _)⟩
    · have b3 : (i == 3) = false := by simpa using i3
      rw [if_neg i3] at hG
      by_cases i0 : i = 0
      · subst i0
        clear i3
        by_cases hsn : s = n
        · subst hsn
          rw [if_pos rfl] at hG
          subst hG
          go_wp2_with (go_at_call 123; refine (mine_any g s l a _ _ HM.out.drew h0 h1).mono ?_; rintro e w' ⟨rfl, rfl⟩; rw [← HOwn.out])
          go_ret2
          exact ⟨⟨rfl, (HM.out.drew.set 0 (.int .i64 s))⟩, (gb_set (gb_drew (gb_refl _ _)) _ _)⟩
        · have bsn : (n != s) = true := by simpa using fun h : n = s => hsn h.symm
          rw [if_neg hsn] at hG
          by_cases h6 : n = 6
          · subst h6
            rw [if_pos rfl] at hG
            subst hG
            clear hsn
            go_wp2_with (go_at_call 123; refine (mine_any g s l a _ _ HM.out.drew h0 h1).mono ?_; rintro e w' ⟨rfl, rfl⟩; rw [← HOwn.out])
            go_ret2
            exact ⟨⟨rfl, (((HM.out.drew.set 1 (.int .i64 0)).set 1 (.int .i64 1)).set 0 (.int .i64 6))⟩, (gb_set (gb_set (gb_set (gb_drew (gb_refl _ _)) _ _) _ _) _ _)⟩
          · have b6 : (n == 6) = false := by simpa using h6
            rw [if_neg h6] at hG
            subst hG
            clear hsn h6
            go_wp2_with (go_at_call 123; refine (mine_any g s l a _ _ HM.out.drew h0 h1).mono ?_; rintro e w' ⟨rfl, rfl⟩; rw [← HOwn.out])
            go_ret2
            exact ⟨⟨rfl, ((HM.out.drew.set 1 (.int .i64 0)).set 0 (.int .i64 n))⟩, (gb_set (gb_set (gb_drew (gb_refl _ _)) _ _) _ _)⟩
      · have b0 : (i != 0) = true := by simpa using i0
        by_cases i7 : i = 7
        · subst i7
          clear i3 i0
          cases own
          · skip
            by_cases hsn : s = n
            · subst hsn
              rw [if_pos rfl] at hG
              subst hG
              go_wp2_with (go_at_call 123; refine (mine_any g s l a _ _ HM.out.drew h0 h1).mono ?_; rintro e w' ⟨rfl, rfl⟩; rw [← HOwn.out])
              go_ret2
              exact ⟨⟨rfl, (HM.out.drew.set 0 (.int .i64 s))⟩, (gb_set (gb_drew (gb_refl _ _)) _ _)⟩
            · have bsn : (n != s) = true := by simpa using fun h : n = s => hsn h.symm
              rw [if_neg hsn] at hG
              by_cases h6 : n = 6
              · subst h6
                rw [if_pos rfl] at hG
                subst hG
                clear hsn
                go_wp2_with (go_at_call 123; refine (mine_any g s l a _ _ HM.out.drew h0 h1).mono ?_; rintro e w' ⟨rfl, rfl⟩; rw [← HOwn.out])
                go_ret2
                exact ⟨⟨rfl, (((HM.out.drew.set 1 (.int .i64 0)).set 1 (.int .i64 1)).set 0 (.int .i64 6))⟩, (gb_set (gb_set (gb_set (gb_drew (gb_refl _ _)) _ _) _ _) _ _)⟩
              · have b6 : (n == 6) = false := by simpa using h6
                rw [if_neg h6] at hG
                subst hG
                clear hsn h6
                go_wp2_with (go_at_call 123; refine (mine_any g s l a _ _ HM.out.drew h0 h1).mono ?_; rintro e w' ⟨rfl, rfl⟩; rw [← HOwn.out])
                go_ret2
                exact ⟨⟨rfl, ((HM.out.drew.set 1 (.int .i64 0)).set 0 (.int .i64 n))⟩, (gb_set (gb_set (gb_drew (gb_refl _ _)) _ _) _ _)⟩
          · skip
            by_cases hsn : s = n
            · subst hsn
              rw [if_pos rfl] at hG
              subst hG
              go_wp2_with (go_at_call 123; refine (mine_any g s l a _ _ HM.out.drew h0 h1).mono ?_; rintro e w' ⟨rfl, rfl⟩; rw [← HOwn.out])
              go_ret2
              exact ⟨⟨rfl, (HM.out.drew.set 0 (.int .i64 s))⟩, (gb_set (gb_drew (gb_refl _ _)) _ _)⟩
            · have bsn : (n != s) = true := by simpa using fun h : n = s => hsn h.symm
              rw [if_neg hsn] at hG
              by_cases h6 : n = 6
              · subst h6
                rw [if_pos rfl] at hG
                subst hG
                clear hsn
                go_wp2_with (go_at_call 123; refine (mine_any g s l a _ _ HM.out.drew h0 h1).mono ?_; rintro e w' ⟨rfl, rfl⟩; rw [← HOwn.out])
                go_ret2
                exact ⟨⟨rfl, (((HM.out.drew.set 1 (.int .i64 0)).set 1 (.int .i64 1)).set 0 (.int .i64 6))⟩, (gb_set (gb_set (gb_set (gb_drew (gb_refl _ _)) _ _) _ _) _ _)⟩
              · have b6 : (n == 6) = false := by simpa using h6
                rw [if_neg h6] at hG
                subst hG
                clear hsn h6
                go_wp2_with (go_at_call 123; refine (mine_any g s l a _ _ HM.out.drew h0 h1).mono ?_; rintro e w' ⟨rfl, rfl⟩; rw [← HOwn.out])
                go_ret2
                exact ⟨⟨rfl, ((HM.out.drew.set 1 (.int .i64 0)).set 0 (.int .i64 n))⟩, (gb_set (gb_set (gb_drew (gb_refl _ _)) _ _) _ _)⟩
        · have b7 : (i != 7) = true := by simpa using i7
          rw [b0, b7] at hG
          clear i3 i0 i7
          by_cases hsn : s = n
          · subst hsn
            rw [if_pos rfl] at hG
            subst hG
            go_wp2_with (go_at_call 123; refine (mine_any g s l a _ _ HM.out.drew h0 h1).mono ?_; rintro e w' ⟨rfl, rfl⟩; rw [← HOwn.out])
            go_ret2
            exact ⟨⟨rfl, (HM.out.drew.set 0 (.int .i64 s))⟩, (gb_set (gb_drew (gb_refl _ _)) _ _)⟩
          · have bsn : (n != s) = true := by simpa using fun h : n = s => hsn h.symm
            rw [if_neg hsn] at hG
            by_cases h6 : n = 6
            · subst h6
              rw [if_pos rfl] at hG
              subst hG
              clear hsn
              go_wp2_with (go_at_call 123; refine (mine_any g s l a _ _ HM.out.drew h0 h1).mono ?_; rintro e w' ⟨rfl, rfl⟩; rw [← HOwn.out])
              go_ret2
              exact ⟨⟨rfl, (((HM.out.drew.set 1 (.int .i64 0)).set 1 (.int .i64 1)).set 0 (.int .i64 6))⟩, (gb_set (gb_set (gb_set (gb_drew (gb_refl _ _)) _ _) _ _) _ _)⟩
            · have b6 : (n == 6) = false := by simpa using h6
              rw [if_neg h6] at hG
              subst hG
              clear hsn h6
              go_wp2_with (go_at_call 123; refine (mine_any g s l a _ _ HM.out.drew h0 h1).mono ?_; rintro e w' ⟨rfl, rfl⟩; rw [← HOwn.out])
              go_ret2
              exact ⟨⟨rfl, ((HM.out.drew.set 1 (.int .i64 0)).set 0 (.int .i64 n))⟩, (gb_set (gb_set (gb_drew (gb_refl _ _)) _ _) _ _)⟩

end Go.Proofs.Ytjjeopanffcbiaa
