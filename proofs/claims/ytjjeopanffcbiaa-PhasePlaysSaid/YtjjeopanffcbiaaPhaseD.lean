/- phase: the reference's Next. -/
import Derived.Test.YtjjeopanffcbiaaPhaseC
namespace Go.Proofs.Ytjjeopanffcbiaa
open Go Go.RowKit Go.Maps
set_option linter.unusedVariables false

def standS (i : Int) (own : Bool) : Int × Bool := if i = 7 then (if own then 4 else 3, true) else if i = 9 ∨ i = 13 then (3, own) else (3, false)
def tranL : List Int := [6, 8, 17, 18, 23, 28, 29, 30, 35, 36, 38]
def tranS (i : Int) (own : Bool) : Int × Bool := if i = 7 then (if own then (4, false) else (3, true)) else if i = 13 then (4, own) else if i ∈ tranL then (4, true) else if i = 24 ∨ i = 25 then (6, true) else (4, false)

set_option maxRecDepth 100000 in
set_option maxHeartbeats 2000000 in
theorem stand_any (i : Int) (own : Bool) (w : World) :
    Calls Try.prog 86 #[.int .i64 i, .bool own] w fun e w' => e = .returned (.tuple #[.int .i64 (standS i own).1, .bool (standS i own).2]) ∧ w = w' := by
  by_cases h7 : i = 7
  · subst h7
    cases own
    · go_enter Try.func86, Try.ntmps86
      go_wp2
      go_ret2
      exact ⟨rfl, rfl⟩
    · go_enter Try.func86, Try.ntmps86
      go_wp2
      go_ret2
      exact ⟨rfl, rfl⟩
  · by_cases h9 : i = 9
    · subst h9
      go_enter Try.func86, Try.ntmps86
      go_wp2
      go_ret2
      exact ⟨rfl, rfl⟩
    · by_cases h13 : i = 13
      · subst h13
        go_enter Try.func86, Try.ntmps86
        go_wp2
        go_ret2
        exact ⟨rfl, rfl⟩
      · have hr : standS i own = (3, false) := by unfold standS; rw [if_neg h7, if_neg (by omega)]
        rw [hr]
        have b7 : (i == 7) = false := by simpa using h7
        have b9 : (i == 9) = false := by simpa using h9
        have b13 : (i == 13) = false := by simpa using h13
        clear h7 h9 h13 hr
        go_enter Try.func86, Try.ntmps86
        go_wp2
        go_ret2
        exact ⟨rfl, rfl⟩

set_option maxRecDepth 100000 in
set_option maxHeartbeats 2000000 in
theorem tran_lit (i : Int) (own : Bool) (w : World) (h : i ∈ [7, 13, 24, 25] ++ tranL) :
    Calls Try.prog 87 #[.int .i64 i, .bool own] w fun e w' => e = .returned (.tuple #[.int .i64 (tranS i own).1, .bool (tranS i own).2]) ∧ w = w' := by
  simp only [tranL, List.mem_cons, List.not_mem_nil, or_false, List.cons_append, List.nil_append] at h
  rcases h with rfl | rfl | rfl | rfl | rfl | rfl | rfl | rfl | rfl | rfl | rfl | rfl | rfl | rfl | rfl <;> cases own <;>
    (go_enter Try.func87, Try.ntmps87
     go_wp2
     go_ret2
     exact ⟨rfl, rfl⟩)
set_option maxRecDepth 100000 in
set_option maxHeartbeats 2000000 in
theorem tran_any (i : Int) (own : Bool) (w : World) :
    Calls Try.prog 87 #[.int .i64 i, .bool own] w fun e w' => e = .returned (.tuple #[.int .i64 (tranS i own).1, .bool (tranS i own).2]) ∧ w = w' := by
  by_cases h : i ∈ [7, 13, 24, 25] ++ tranL
  · exact tran_lit i own w h
  · have hr : tranS i own = (4, false) := by
      simp only [List.mem_append, List.mem_cons, List.not_mem_nil, or_false, not_or] at h
      unfold tranS
      rw [if_neg (by omega), if_neg (by omega), if_neg h.2, if_neg (by omega)]
    rw [hr]
    simp only [tranL, List.mem_cons, List.not_mem_nil, or_false, not_or, List.cons_append, List.nil_append] at h
    have b : ∀ n : Int, i ≠ n → (i == n) = false := fun n h => by simpa using h
    obtain ⟨k1, k2, k3, k4, k5, k6, k7, k8, k9, k10, k11, k12, k13, k14, k15⟩ := h
    have j1 := b _ k1
    have j2 := b _ k2
    have j3 := b _ k3
    have j4 := b _ k4
    have j5 := b _ k5
    have j6 := b _ k6
    have j7 := b _ k7
    have j8 := b _ k8
    have j9 := b _ k9
    have j10 := b _ k10
    have j11 := b _ k11
    have j12 := b _ k12
    have j13 := b _ k13
    have j14 := b _ k14
    have j15 := b _ k15
    clear k1 k2 k3 k4 k5 k6 k7 k8 k9 k10 k11 k12 k13 k14 k15 b hr
    go_enter Try.func87, Try.ntmps87
    go_wp2
    go_ret2
    exact ⟨rfl, rfl⟩

/-- The reference's Next, as it is written. -/
def rnextS (s i : Int) (own : Bool) : Int × Bool :=
  if s ∈ statesL then (if i = 0 then (0, true)
    else if s = 0 then (if i = 1 then (1, true) else (s, false))
    else if s = 1 then (if i = 2 then (2, true) else (s, false))
    else if s = 2 then (if i = 3 then (3, true) else (s, false))
    else if s = 3 then standS i own
    else if s = 4 then tranS i own
    else (if i = 12 then (4, true) else (s, (i == 13) && own)))
  else (s, false)

theorem rnextS_eq (s i : Int) (own : Bool) : rnextS s i own = nextS s i own := by
  unfold rnextS nextS
  by_cases hm : s ∈ statesL
  · rw [if_pos hm, if_pos hm]
    by_cases h0 : i = 0
    · rw [if_pos h0, if_pos h0]
    · rw [if_neg h0, if_neg h0]
      simp only [statesL, List.mem_cons, List.not_mem_nil, or_false] at hm
      rcases hm with rfl | rfl | rfl | rfl | rfl | rfl
      · by_cases h1 : i = 1
        · subst h1; rfl
        · have : look 0 i = none := by simp [look, waysL, waysA]; omega
          rw [this]; simp [h1]
      · by_cases h1 : i = 2
        · subst h1; rfl
        · have : look 1 i = none := by simp [look, waysL, waysA]; omega
          rw [this]; simp [h1]
      · by_cases h1 : i = 3
        · subst h1; rfl
        · have : look 2 i = none := by simp [look, waysL, waysA]; omega
          rw [this]; simp [h1]
      · by_cases h1 : i = 7
        · subst h1; cases own <;> rfl
        · by_cases h2 : i = 9
          · subst h2; cases own <;> rfl
          · by_cases h3 : i = 13
            · subst h3; cases own <;> rfl
            · have : look 3 i = none := by simp [look, waysL, waysA]; omega
              rw [this]; simp [standS, h1, h2, h3]
      · by_cases h : i ∈ [7, 13, 24, 25] ++ tranL
        · simp only [tranL, List.mem_cons, List.not_mem_nil, or_false, List.cons_append, List.nil_append] at h
          rcases h with rfl | rfl | rfl | rfl | rfl | rfl | rfl | rfl | rfl | rfl | rfl | rfl | rfl | rfl | rfl <;> cases own <;> rfl
        · have hr : tranS i own = (4, false) := by
            simp only [List.mem_append, List.mem_cons, List.not_mem_nil, or_false, not_or] at h
            unfold tranS
            rw [if_neg (by omega), if_neg (by omega), if_neg h.2, if_neg (by omega)]
          have : look 4 i = none := by
            simp only [tranL, List.mem_cons, List.not_mem_nil, or_false, not_or, List.cons_append, List.nil_append] at h
            simp [look, waysL, waysA]; omega
          rw [this]; simp [hr]
      · by_cases h1 : i = 12
        · subst h1; rfl
        · by_cases h2 : i = 13
          · subst h2; cases own <;> rfl
          · have : look 6 i = none := by simp [look, waysL, waysA]; omega
            have hb : (i == 13) = false := by simpa using h2
            rw [this]; simp [h1, hb]
  · rw [if_neg hm, if_neg hm]

set_option maxRecDepth 100000 in
set_option maxHeartbeats 2000000 in
theorem rnext_walk (s i : Int) (own : Bool) (w : World) :
    Calls Try.prog 30 #[.int .i64 s, .int .i64 i, .bool own] w fun e w' => e = .returned (.tuple #[.int .i64 (rnextS s i own).1, .bool (rnextS s i own).2]) ∧ w = w' := by
  by_cases hm : s ∈ statesL
  · by_cases h0 : i = 0
    · subst h0
      simp only [statesL, List.mem_cons, List.not_mem_nil, or_false] at hm
      rcases hm with rfl | rfl | rfl | rfl | rfl | rfl
      · have hx : True := trivial
        go_enter Try.func30, Try.ntmps30
        go_wp2_with (fail)
        go_ret2
        exact ⟨rfl, rfl⟩
      · have hx : True := trivial
        go_enter Try.func30, Try.ntmps30
        go_wp2_with (fail)
        go_ret2
        exact ⟨rfl, rfl⟩
      · have hx : True := trivial
        go_enter Try.func30, Try.ntmps30
        go_wp2_with (fail)
        go_ret2
        exact ⟨rfl, rfl⟩
      · have hx : True := trivial
        go_enter Try.func30, Try.ntmps30
        go_wp2_with (fail)
        go_ret2
        exact ⟨rfl, rfl⟩
      · have hx : True := trivial
        go_enter Try.func30, Try.ntmps30
        go_wp2_with (fail)
        go_ret2
        exact ⟨rfl, rfl⟩
      · have hx : True := trivial
        go_enter Try.func30, Try.ntmps30
        go_wp2_with (fail)
        go_ret2
        exact ⟨rfl, rfl⟩
    · have b0 : (i == 0) = false := by simpa using h0
      simp only [statesL, List.mem_cons, List.not_mem_nil, or_false] at hm
      rcases hm with rfl | rfl | rfl | rfl | rfl | rfl
      · by_cases h1 : i = 1
        · subst h1
          go_enter Try.func30, Try.ntmps30
          go_wp2_with (fail)
          go_ret2
          exact ⟨rfl, rfl⟩
        · have b1 : (i == 1) = false := by simpa using h1
          have hr : rnextS 0 i own = (0, false) := by unfold rnextS; simp [statesL, h0, h1]
          rw [hr]
          clear h0 h1 hr
          go_enter Try.func30, Try.ntmps30
          go_wp2_with (fail)
          go_ret2
          exact ⟨rfl, rfl⟩
      · by_cases h1 : i = 2
        · subst h1
          go_enter Try.func30, Try.ntmps30
          go_wp2_with (fail)
          go_ret2
          exact ⟨rfl, rfl⟩
        · have b1 : (i == 2) = false := by simpa using h1
          have hr : rnextS 1 i own = (1, false) := by unfold rnextS; simp [statesL, h0, h1]
          rw [hr]
          clear h0 h1 hr
          go_enter Try.func30, Try.ntmps30
          go_wp2_with (fail)
          go_ret2
          exact ⟨rfl, rfl⟩
      · by_cases h1 : i = 3
        · subst h1
          go_enter Try.func30, Try.ntmps30
          go_wp2_with (fail)
          go_ret2
          exact ⟨rfl, rfl⟩
        · have b1 : (i == 3) = false := by simpa using h1
          have hr : rnextS 2 i own = (2, false) := by unfold rnextS; simp [statesL, h0, h1]
          rw [hr]
          clear h0 h1 hr
          go_enter Try.func30, Try.ntmps30
          go_wp2_with (fail)
          go_ret2
          exact ⟨rfl, rfl⟩
      · have hr : rnextS 3 i own = standS i own := by unfold rnextS; simp [statesL, h0]
        rw [hr]
        clear h0 hr
        go_enter Try.func30, Try.ntmps30
        go_wp2_with (go_at_call 86; refine (stand_any _ _ _).mono ?_; rintro e w' ⟨rfl, rfl⟩)
        go_ret2
        exact ⟨rfl, rfl⟩
      · have hr : rnextS 4 i own = tranS i own := by unfold rnextS; simp [statesL, h0]
        rw [hr]
        clear h0 hr
        go_enter Try.func30, Try.ntmps30
        go_wp2_with (go_at_call 87; refine (tran_any _ _ _).mono ?_; rintro e w' ⟨rfl, rfl⟩)
        go_ret2
        exact ⟨rfl, rfl⟩
      · by_cases h1 : i = 12
        · subst h1
          go_enter Try.func30, Try.ntmps30
          go_wp2_with (fail)
          go_ret2
          exact ⟨rfl, rfl⟩
        · have b1 : (i == 12) = false := by simpa using h1
          by_cases h2 : i = 13
          · subst h2
            have hr : rnextS 6 13 own = (6, own) := by unfold rnextS; simp [statesL]
            rw [hr]
            clear h0 h1 hr
            go_enter Try.func30, Try.ntmps30
            go_wp2_with (fail)
            go_ret2
            exact ⟨rfl, rfl⟩
          · have b2 : (i == 13) = false := by simpa using h2
            have hr : rnextS 6 i own = (6, false) := by unfold rnextS; simp [statesL, h0, h1, h2]
            rw [hr]
            clear h0 h1 h2 hr
            go_enter Try.func30, Try.ntmps30
            go_wp2_with (fail)
            go_ret2
            exact ⟨rfl, rfl⟩
  · have hr : rnextS s i own = (s, false) := by unfold rnextS; simp [hm]
    rw [hr]
    simp only [statesL, List.mem_cons, List.not_mem_nil, or_false, not_or] at hm
    obtain ⟨k0, k1, k2, k3, k4, k6⟩ := hm
    have b : ∀ n : Int, s ≠ n → (s == n) = false := fun n h => by simpa using h
    have j0 := b _ k0
    have j1 := b _ k1
    have j2 := b _ k2
    have j3 := b _ k3
    have j4 := b _ k4
    have j6 := b _ k6
    clear k0 k1 k2 k3 k4 k6 b hr
    go_enter Try.func30, Try.ntmps30
    go_wp2_with (fail)
    go_ret2
    exact ⟨rfl, rfl⟩

theorem rnext_any (s i : Int) (own : Bool) (w : World) :
    Calls Try.prog 30 #[.int .i64 s, .int .i64 i, .bool own] w fun e w' => e = .returned (.tuple #[.int .i64 (nextS s i own).1, .bool (nextS s i own).2]) ∧ w = w' := by
  rw [← rnextS_eq]
  exact rnext_walk s i own w

end Go.Proofs.Ytjjeopanffcbiaa
