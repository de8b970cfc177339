/- phase: the table of ways; the plain words. -/
import Derived.Test.YtjjeopanffcbiaaMaps
import Derived.Test.YtjjeopanffcbiaaStructs
namespace Go.Proofs.Ytjjeopanffcbiaa
open Go Go.RowKit Go.Maps
set_option linter.unusedVariables false

/-- A way: state, command; how, to, other. -/
abbrev Way := Int × Int × Int × Int × Int
def wayV (x : Way) : Value × Value := (.agg #[.int .i64 x.1, .int .i64 x.2.1], .agg #[.int .i64 x.2.2.1, .int .i64 x.2.2.2.1, .int .i64 x.2.2.2.2])
def waysA : List (Nat × Way) := [(3, 0, 1, 0, 1, 0), (6, 1, 2, 0, 2, 0), (9, 2, 3, 0, 3, 0), (12, 3, 7, 2, 4, 3), (15, 3, 9, 1, 3, 0), (18, 3, 13, 1, 3, 0), (21, 4, 7, 3, 3, 0), (24, 4, 13, 1, 4, 0), (27, 6, 12, 0, 4, 0), (30, 6, 13, 1, 6, 0)]
def waysL : List Way := [(4, 25, 0, 6, 0), (4, 24, 0, 6, 0), (4, 38, 0, 4, 0), (4, 36, 0, 4, 0), (4, 35, 0, 4, 0), (4, 30, 0, 4, 0), (4, 29, 0, 4, 0), (4, 28, 0, 4, 0), (4, 23, 0, 4, 0), (4, 18, 0, 4, 0), (4, 17, 0, 4, 0), (4, 8, 0, 4, 0), (4, 6, 0, 4, 0)] ++ waysA.map (·.2)

theorem keyLaw : Keyed Try.prog 130 := Keyed.of_law (deep_law_laid (m := 3) (by kernel_rfl) (by omega) (by decide +kernel) (by kernel_rfl) (by kernel_rfl))
theorem key_at (s i : Int) (hs : I64 s) (hi : I64 i) : ∃ l, keyOf Try.prog 130 (.agg #[.int .i64 s, .int .i64 i]) = some l := by
  have ws : (Lit.int .i64 s).wf = true := WalkArith.wf_i64 hs
  have wi : (Lit.int .i64 i).wf = true := WalkArith.wf_i64 hi
  obtain ⟨m, hm⟩ : ∃ m, Try.prog.types.size = m + 1 := ⟨Try.prog.types.size - 1, by decide +kernel⟩
  have hkt : Try.prog.keyType 130 = true := by kernel_rfl
  have h2 : Try.prog.cellsOf 130 = 2 := by kernel_rfl
  have h1 : Try.prog.cellsOf 3 = 1 := by kernel_rfl
  have hf : Value.formed Try.prog 130 (.agg #[.int .i64 s, .int .i64 i]) = true := by kernel_rfl
  unfold keyOf
  simp only [Try.underlying130, hkt, hf, hm]
  unfold Program.keyLits
  simp [Try.underlying130, h2, h1, Value.cells, Program.keyLits, Try.underlying3, ws, wi]

theorem waysL_keys : ∀ x ∈ waysL, ∃ l, keyOf Try.prog 130 (wayV x).1 = some l := by
  intro x hx
  have h : ∀ x ∈ waysL, (0 ≤ x.1 ∧ x.1 ≤ 100) ∧ (0 ≤ x.2.1 ∧ x.2.1 ≤ 100) := by decide
  obtain ⟨h1, h2⟩ := h x hx
  exact key_at _ _ ⟨by omega, by omega⟩ ⟨by omega, by omega⟩
theorem wayV_key {x y : Way} (h : (wayV x).1 = (wayV y).1) : x.1 = y.1 ∧ x.2.1 = y.2.1 := by simpa [wayV] using h
theorem waysA_one : ∀ p ∈ waysA, ∀ q ∈ waysA, p.2.1 = q.2.1 ∧ p.2.2.1 = q.2.2.1 → p.1 = q.1 := by decide
theorem waysL_one : ∀ x ∈ waysL, ∀ y ∈ waysL, x.1 = y.1 ∧ x.2.1 = y.2.1 → x = y := by decide
theorem waysA_sub : ∀ p ∈ waysA, p.2 ∈ waysL := by decide

/-- One entry more of the first ten. -/
theorem ways_put {d : Nat → Bool} {w : World} {b : Nat} (i : Nat) (x : Way) (hx : (i, x) ∈ waysA) (hd : d i = false) (h1 : MapHas wayV w b ((waysA.filter fun p => d p.1).map (·.2))) :
    ∃ w', (Instr.mapUpdate 127 (.map (some b)) (wayV x).1 (wayV x).2).run Try.prog w = .ok () w' ∧ MapHas wayV w' b ((waysA.filter fun p => (fun j => d j || j == i) p.1).map (·.2)) ∧ w.grownBy w' (some b) := by
  obtain ⟨w', h2, h3, h4⟩ := h1.put keyLaw Try.underlying127 (fun y hy => by
    obtain ⟨p, hp, rfl⟩ := List.mem_map.1 hy
    exact waysL_keys _ (waysA_sub _ (List.mem_filter.1 hp).1)) x (waysL_keys _ (waysA_sub _ hx)) (fun y hy h => by
    obtain ⟨p, hp, rfl⟩ := List.mem_map.1 hy
    have := waysA_one _ (List.mem_filter.1 hp).1 _ hx (wayV_key h)
    have h5 := (List.mem_filter.1 hp).2
    simp only at this
    rw [this, hd] at h5; cases h5)
  refine ⟨w', h2, h3.congr fun y => ?_, h4⟩
  constructor
  · intro hy
    rcases List.mem_cons.1 hy with rfl | hy
    · exact List.mem_map.2 ⟨(i, y), List.mem_filter.2 ⟨hx, by simp⟩, rfl⟩
    · obtain ⟨p, hp, rfl⟩ := List.mem_map.1 hy
      exact List.mem_map.2 ⟨p, List.mem_filter.2 ⟨(List.mem_filter.1 hp).1, by have := (List.mem_filter.1 hp).2; simp [this]⟩, rfl⟩
  · intro hy
    obtain ⟨p, hp, rfl⟩ := List.mem_map.1 hy
    obtain ⟨h5, h6⟩ := List.mem_filter.1 hp
    by_cases e : p.1 = i
    · have : p = (i, x) := by
        have h8 : ∀ p ∈ waysA, ∀ q ∈ waysA, p.1 = q.1 → p = q := by decide
        exact h8 _ h5 _ hx e
      rw [this]; simp
    · refine List.mem_cons_of_mem _ (List.mem_map.2 ⟨p, List.mem_filter.2 ⟨h5, ?_⟩, rfl⟩)
      simpa [e] using h6

theorem waysL_new : ∀ k < 13, ∀ z ∈ waysL.drop (k + 1), ∀ x ∈ waysL[k]?, ¬ (z.1 = x.1 ∧ z.2.1 = x.2.1) := by decide
theorem HasB.grown {w w' : World} {g : Nat} {vs : Array Value} {T : TypeId} (h : HasB w g vs T) {row : Option Nat} (hg : w.grownBy w' row) (hne : some g ≠ row) : HasB w' g vs T := (hg.block g h.lt hne).trans h

theorem wpList_way {w : World} {ops : Array Oper} {rest : List Oper} {o : Oper} {a : Act} {Q : Exit → Act → World → Prop}
    (hg : o.guard = none) (m x v : Operand) (hop : o.op = Op.mapUpdate 127 m x v) (b k : Nat) (hk : k < 13) (y : Way) (hy : waysL[k]? = some y)
    (hm : a.eval m = .map (some b)) (h : MapHas wayV w b (waysL.drop (k + 1))) (hx : a.eval x = (wayV y).1) (hv : a.eval v = (wayV y).2)
    (hK : ∀ w', MapHas wayV w' b (waysL.drop k) → w.grownBy w' (some b) → wpList Try.prog ops Q rest (a.put o.dst undef) w') :
    wpList Try.prog ops Q (o :: rest) a w := by
  refine wpList_mapUpdate_has hg m x v _ hop _ _ keyLaw Try.underlying127 wayV b _ hm h y hx hv (fun z hz => waysL_keys z (List.mem_of_mem_drop hz)) (waysL_keys y (List.mem_of_getElem? hy)) (fun z hz e => waysL_new k hk z hz y (by rw [hy]; rfl) (wayV_key e)) ?_
  intro w' h1 h2
  refine hK w' ?_ h2
  have : waysL.drop k = y :: waysL.drop (k + 1) := by
    obtain ⟨h3, h4⟩ := List.getElem?_eq_some_iff.1 hy
    rw [List.drop_eq_getElem_cons h3, h4]
  rw [this]; exact h1

theorem waysA_filter {d d' : Nat → Bool} (h : ∀ i ∈ [3, 6, 9, 12, 15, 18, 21, 24, 27, 30], d i = d' i) : (waysA.filter fun p => d p.1) = waysA.filter fun p => d' p.1 := by
  refine List.filter_congr fun p hp => h _ ?_
  simp [waysA] at hp ⊢
  rcases hp with rfl | rfl | rfl | rfl | rfl | rfl | rfl | rfl | rfl | rfl <;> simp

set_option maxRecDepth 100000 in
set_option maxHeartbeats 4000000 in
theorem ways_any (w : World) :
    Calls Try.prog 85 #[] w fun e w' => (e = .returned (.map (some w.heap.size)) ∧ MapHas wayV w' w.heap.size waysL) ∧ Below w.heap.size w w' := by
  go_enter Try.func85, Try.ntmps85
  go_wp2_with fail
  refine wp_region_held_drew (S := (fun w' => Below w.heap.size w w')) (by kernel_rfl) ((Below.refl _ _).drew) (fun hHeld => ?_)
  refine held_take 1 (v := ?_) rfl (by kernel_rfl) (by kernel_rfl) (by kernel_rfl) (fun _ _ _ h => h) (by rfl) (fun w hS => ?_) (by assumption) ?_
  rotate_left
  · try dsimp only at hS
    go_simp <;> with_reducible rfl
  try simp only [Act.put, List.setIfInBounds_toArray, List.set_cons_zero, List.set_cons_succ]
  refine held_take 2 (v := ?_) rfl (by kernel_rfl) (by kernel_rfl) (by kernel_rfl) (fun _ _ _ h => h) (by rfl) (fun w hS => ?_) (by assumption) ?_
  rotate_left
  · try dsimp only at hS
    go_simp <;> with_reducible rfl
  try simp only [Act.put, List.setIfInBounds_toArray, List.set_cons_zero, List.set_cons_succ]
  refine held_take 4 (v := ?_) rfl (by kernel_rfl) (by kernel_rfl) (by kernel_rfl) (fun _ _ _ h => h) (by rfl) (fun w hS => ?_) (by assumption) ?_
  rotate_left
  · try dsimp only at hS
    go_simp <;> with_reducible rfl
  try simp only [Act.put, List.setIfInBounds_toArray, List.set_cons_zero, List.set_cons_succ]
  refine held_take 5 (v := ?_) rfl (by kernel_rfl) (by kernel_rfl) (by kernel_rfl) (fun _ _ _ h => h) (by rfl) (fun w hS => ?_) (by assumption) ?_
  rotate_left
  · try dsimp only at hS
    go_simp <;> with_reducible rfl
  try simp only [Act.put, List.setIfInBounds_toArray, List.set_cons_zero, List.set_cons_succ]
  refine held_take 7 (v := ?_) rfl (by kernel_rfl) (by kernel_rfl) (by kernel_rfl) (fun _ _ _ h => h) (by rfl) (fun w hS => ?_) (by assumption) ?_
  rotate_left
  · try dsimp only at hS
    go_simp <;> with_reducible rfl
  try simp only [Act.put, List.setIfInBounds_toArray, List.set_cons_zero, List.set_cons_succ]
  refine held_take 8 (v := ?_) rfl (by kernel_rfl) (by kernel_rfl) (by kernel_rfl) (fun _ _ _ h => h) (by rfl) (fun w hS => ?_) (by assumption) ?_
  rotate_left
  · try dsimp only at hS
    go_simp <;> with_reducible rfl
  try simp only [Act.put, List.setIfInBounds_toArray, List.set_cons_zero, List.set_cons_succ]
  refine held_take 10 (v := ?_) rfl (by kernel_rfl) (by kernel_rfl) (by kernel_rfl) (fun _ _ _ h => h) (by rfl) (fun w hS => ?_) (by assumption) ?_
  rotate_left
  · try dsimp only at hS
    go_simp <;> with_reducible rfl
  try simp only [Act.put, List.setIfInBounds_toArray, List.set_cons_zero, List.set_cons_succ]
  refine held_take 11 (v := ?_) rfl (by kernel_rfl) (by kernel_rfl) (by kernel_rfl) (fun _ _ _ h => h) (by rfl) (fun w hS => ?_) (by assumption) ?_
  rotate_left
  · try dsimp only at hS
    go_simp <;> with_reducible rfl
  try simp only [Act.put, List.setIfInBounds_toArray, List.set_cons_zero, List.set_cons_succ]
  refine held_take 13 (v := ?_) rfl (by kernel_rfl) (by kernel_rfl) (by kernel_rfl) (fun _ _ _ h => h) (by rfl) (fun w hS => ?_) (by assumption) ?_
  rotate_left
  · try dsimp only at hS
    go_simp <;> with_reducible rfl
  try simp only [Act.put, List.setIfInBounds_toArray, List.set_cons_zero, List.set_cons_succ]
  refine held_take 14 (v := ?_) rfl (by kernel_rfl) (by kernel_rfl) (by kernel_rfl) (fun _ _ _ h => h) (by rfl) (fun w hS => ?_) (by assumption) ?_
  rotate_left
  · try dsimp only at hS
    go_simp <;> with_reducible rfl
  try simp only [Act.put, List.setIfInBounds_toArray, List.set_cons_zero, List.set_cons_succ]
  refine held_take 16 (v := ?_) rfl (by kernel_rfl) (by kernel_rfl) (by kernel_rfl) (fun _ _ _ h => h) (by rfl) (fun w hS => ?_) (by assumption) ?_
  rotate_left
  · try dsimp only at hS
    go_simp <;> with_reducible rfl
  try simp only [Act.put, List.setIfInBounds_toArray, List.set_cons_zero, List.set_cons_succ]
  refine held_take 17 (v := ?_) rfl (by kernel_rfl) (by kernel_rfl) (by kernel_rfl) (fun _ _ _ h => h) (by rfl) (fun w hS => ?_) (by assumption) ?_
  rotate_left
  · try dsimp only at hS
    go_simp <;> with_reducible rfl
  try simp only [Act.put, List.setIfInBounds_toArray, List.set_cons_zero, List.set_cons_succ]
  refine held_take 19 (v := ?_) rfl (by kernel_rfl) (by kernel_rfl) (by kernel_rfl) (fun _ _ _ h => h) (by rfl) (fun w hS => ?_) (by assumption) ?_
  rotate_left
  · try dsimp only at hS
    go_simp <;> with_reducible rfl
  try simp only [Act.put, List.setIfInBounds_toArray, List.set_cons_zero, List.set_cons_succ]
  refine held_take 20 (v := ?_) rfl (by kernel_rfl) (by kernel_rfl) (by kernel_rfl) (fun _ _ _ h => h) (by rfl) (fun w hS => ?_) (by assumption) ?_
  rotate_left
  · try dsimp only at hS
    go_simp <;> with_reducible rfl
  try simp only [Act.put, List.setIfInBounds_toArray, List.set_cons_zero, List.set_cons_succ]
  refine held_take 22 (v := ?_) rfl (by kernel_rfl) (by kernel_rfl) (by kernel_rfl) (fun _ _ _ h => h) (by rfl) (fun w hS => ?_) (by assumption) ?_
  rotate_left
  · try dsimp only at hS
    go_simp <;> with_reducible rfl
  try simp only [Act.put, List.setIfInBounds_toArray, List.set_cons_zero, List.set_cons_succ]
  refine held_take 23 (v := ?_) rfl (by kernel_rfl) (by kernel_rfl) (by kernel_rfl) (fun _ _ _ h => h) (by rfl) (fun w hS => ?_) (by assumption) ?_
  rotate_left
  · try dsimp only at hS
    go_simp <;> with_reducible rfl
  try simp only [Act.put, List.setIfInBounds_toArray, List.set_cons_zero, List.set_cons_succ]
  refine held_take 25 (v := ?_) rfl (by kernel_rfl) (by kernel_rfl) (by kernel_rfl) (fun _ _ _ h => h) (by rfl) (fun w hS => ?_) (by assumption) ?_
  rotate_left
  · try dsimp only at hS
    go_simp <;> with_reducible rfl
  try simp only [Act.put, List.setIfInBounds_toArray, List.set_cons_zero, List.set_cons_succ]
  refine held_take 26 (v := ?_) rfl (by kernel_rfl) (by kernel_rfl) (by kernel_rfl) (fun _ _ _ h => h) (by rfl) (fun w hS => ?_) (by assumption) ?_
  rotate_left
  · try dsimp only at hS
    go_simp <;> with_reducible rfl
  try simp only [Act.put, List.setIfInBounds_toArray, List.set_cons_zero, List.set_cons_succ]
  refine held_take 28 (v := ?_) rfl (by kernel_rfl) (by kernel_rfl) (by kernel_rfl) (fun _ _ _ h => h) (by rfl) (fun w hS => ?_) (by assumption) ?_
  rotate_left
  · try dsimp only at hS
    go_simp <;> with_reducible rfl
  try simp only [Act.put, List.setIfInBounds_toArray, List.set_cons_zero, List.set_cons_succ]
  refine held_take 29 (v := ?_) rfl (by kernel_rfl) (by kernel_rfl) (by kernel_rfl) (fun _ _ _ h => h) (by rfl) (fun w hS => ?_) (by assumption) ?_
  rotate_left
  · try dsimp only at hS
    go_simp <;> with_reducible rfl
  try simp only [Act.put, List.setIfInBounds_toArray, List.set_cons_zero, List.set_cons_succ]
  refine held_one 0 rfl (by kernel_rfl) (fun K hK => ?_)
  go_simp
  refine hK.out _ _ (fun w' => Below w.heap.size w w') (fun _ h => h) ((Below.refl _ _).drew.alloc (Nat.le_refl _) _) (fun hHeld => ?_)
  clear hK K
  try simp only [Act.put, List.setIfInBounds_toArray, List.set_cons_zero, List.set_cons_succ]
  refine held_any [3, 6, 9, 12, 15, 18, 21, 24, 27, 30] 2 (fun d w' => MapHas wayV w' w.heap.size ((waysA.filter fun p => d p.1).map (·.2)) ∧ Below w.heap.size w w') (by decide) (by kernel_rfl) rfl ?_ ?_ ?_ (by assumption) ?_
  · intro d d' w' h ⟨h1, h2⟩
    refine ⟨h1.congr fun x => ?_, h2⟩
    rw [waysA_filter h]
  · intro d w' i hi hd ⟨h1, h2⟩ hS K hK
    simp only [List.mem_cons, List.not_mem_nil, or_false] at hi
    rcases hi with rfl | rfl | rfl | rfl | rfl | rfl | rfl | rfl | rfl | rfl
    · obtain ⟨w2, hrun, hm2, hg2⟩ := ways_put 3 (0, 1, 0, 1, 0) (by decide) hd h1
      refine wpOp_step (drop_get (i := 3) rfl) (fun K' hK' => ?_)
      dsimp only [wayV] at hrun
      go_simp
      exact hK' _ _ (hK _ ⟨hm2, h2.grown hg2 h2.size (fun k hk => by cases hk; exact Nat.le_refl _)⟩ (h2.grown hg2 h2.size (fun k hk => by cases hk; exact Nat.le_refl _)))
    · obtain ⟨w2, hrun, hm2, hg2⟩ := ways_put 6 (1, 2, 0, 2, 0) (by decide) hd h1
      refine wpOp_step (drop_get (i := 6) rfl) (fun K' hK' => ?_)
      dsimp only [wayV] at hrun
      go_simp
      exact hK' _ _ (hK _ ⟨hm2, h2.grown hg2 h2.size (fun k hk => by cases hk; exact Nat.le_refl _)⟩ (h2.grown hg2 h2.size (fun k hk => by cases hk; exact Nat.le_refl _)))
    · obtain ⟨w2, hrun, hm2, hg2⟩ := ways_put 9 (2, 3, 0, 3, 0) (by decide) hd h1
      refine wpOp_step (drop_get (i := 9) rfl) (fun K' hK' => ?_)
      dsimp only [wayV] at hrun
      go_simp
      exact hK' _ _ (hK _ ⟨hm2, h2.grown hg2 h2.size (fun k hk => by cases hk; exact Nat.le_refl _)⟩ (h2.grown hg2 h2.size (fun k hk => by cases hk; exact Nat.le_refl _)))
    · obtain ⟨w2, hrun, hm2, hg2⟩ := ways_put 12 (3, 7, 2, 4, 3) (by decide) hd h1
      refine wpOp_step (drop_get (i := 12) rfl) (fun K' hK' => ?_)
      dsimp only [wayV] at hrun
      go_simp
      exact hK' _ _ (hK _ ⟨hm2, h2.grown hg2 h2.size (fun k hk => by cases hk; exact Nat.le_refl _)⟩ (h2.grown hg2 h2.size (fun k hk => by cases hk; exact Nat.le_refl _)))
    · obtain ⟨w2, hrun, hm2, hg2⟩ := ways_put 15 (3, 9, 1, 3, 0) (by decide) hd h1
      refine wpOp_step (drop_get (i := 15) rfl) (fun K' hK' => ?_)
      dsimp only [wayV] at hrun
      go_simp
      exact hK' _ _ (hK _ ⟨hm2, h2.grown hg2 h2.size (fun k hk => by cases hk; exact Nat.le_refl _)⟩ (h2.grown hg2 h2.size (fun k hk => by cases hk; exact Nat.le_refl _)))
    · obtain ⟨w2, hrun, hm2, hg2⟩ := ways_put 18 (3, 13, 1, 3, 0) (by decide) hd h1
      refine wpOp_step (drop_get (i := 18) rfl) (fun K' hK' => ?_)
      dsimp only [wayV] at hrun
      go_simp
      exact hK' _ _ (hK _ ⟨hm2, h2.grown hg2 h2.size (fun k hk => by cases hk; exact Nat.le_refl _)⟩ (h2.grown hg2 h2.size (fun k hk => by cases hk; exact Nat.le_refl _)))
    · obtain ⟨w2, hrun, hm2, hg2⟩ := ways_put 21 (4, 7, 3, 3, 0) (by decide) hd h1
      refine wpOp_step (drop_get (i := 21) rfl) (fun K' hK' => ?_)
      dsimp only [wayV] at hrun
      go_simp
      exact hK' _ _ (hK _ ⟨hm2, h2.grown hg2 h2.size (fun k hk => by cases hk; exact Nat.le_refl _)⟩ (h2.grown hg2 h2.size (fun k hk => by cases hk; exact Nat.le_refl _)))
    · obtain ⟨w2, hrun, hm2, hg2⟩ := ways_put 24 (4, 13, 1, 4, 0) (by decide) hd h1
      refine wpOp_step (drop_get (i := 24) rfl) (fun K' hK' => ?_)
      dsimp only [wayV] at hrun
      go_simp
      exact hK' _ _ (hK _ ⟨hm2, h2.grown hg2 h2.size (fun k hk => by cases hk; exact Nat.le_refl _)⟩ (h2.grown hg2 h2.size (fun k hk => by cases hk; exact Nat.le_refl _)))
    · obtain ⟨w2, hrun, hm2, hg2⟩ := ways_put 27 (6, 12, 0, 4, 0) (by decide) hd h1
      refine wpOp_step (drop_get (i := 27) rfl) (fun K' hK' => ?_)
      dsimp only [wayV] at hrun
      go_simp
      exact hK' _ _ (hK _ ⟨hm2, h2.grown hg2 h2.size (fun k hk => by cases hk; exact Nat.le_refl _)⟩ (h2.grown hg2 h2.size (fun k hk => by cases hk; exact Nat.le_refl _)))
    · obtain ⟨w2, hrun, hm2, hg2⟩ := ways_put 30 (6, 13, 1, 6, 0) (by decide) hd h1
      refine wpOp_step (drop_get (i := 30) rfl) (fun K' hK' => ?_)
      dsimp only [wayV] at hrun
      go_simp
      exact hK' _ _ (hK _ ⟨hm2, h2.grown hg2 h2.size (fun k hk => by cases hk; exact Nat.le_refl _)⟩ (h2.grown hg2 h2.size (fun k hk => by cases hk; exact Nat.le_refl _)))
  · exact ⟨MapHas.made (enc := wayV) w.drew, by assumption⟩
  intro w1 ⟨hm1, hb1⟩ hS1
  refine held_take 31 (v := ?_) rfl (by kernel_rfl) (by kernel_rfl) (by kernel_rfl) (fun _ _ _ h => h) (by rfl) (fun w hS => ?_) (by assumption) ?_
  rotate_left
  · try dsimp only at hS
    go_simp <;> with_reducible rfl
  try simp only [Act.put, List.setIfInBounds_toArray, List.set_cons_zero, List.set_cons_succ]
  refine held_take 32 (v := ?_) rfl (by kernel_rfl) (by kernel_rfl) (by kernel_rfl) (fun _ _ _ h => h) (by rfl) (fun w hS => ?_) (by assumption) ?_
  rotate_left
  · try dsimp only at hS
    go_simp <;> with_reducible rfl
  try simp only [Act.put, List.setIfInBounds_toArray, List.set_cons_zero, List.set_cons_succ]
  refine held_done (by kernel_rfl) ?_
  have hm1 : MapHas wayV w1 w.heap.size (waysA.map (·.2)) := hm1.congr fun x => by simp
  clear hS1 hHeld
  have hb1s := hb1.size
  go_wp2_with fail
  have hmA : MapHas wayV (w1.alloc (.cells #[.int .i64 6, .int .i64 8, .int .i64 17, .int .i64 18, .int .i64 23, .int .i64 28, .int .i64 29, .int .i64 30, .int .i64 35, .int .i64 36, .int .i64 38] 3)) w.heap.size (waysL.drop 13) := hm1.below ((Below.refl _ _).alloc (Nat.le_refl _) _)
  have hB0 := HasB.new w1 #[.int .i64 6, .int .i64 8, .int .i64 17, .int .i64 18, .int .i64 23, .int .i64 28, .int .i64 29, .int .i64 30, .int .i64 35, .int .i64 36, .int .i64 38] 3
  have HB0 := Lib.hid hB0
  have hbA : Below w.heap.size w (w1.alloc (.cells #[.int .i64 6, .int .i64 8, .int .i64 17, .int .i64 18, .int .i64 23, .int .i64 28, .int .i64 29, .int .i64 30, .int .i64 35, .int .i64 36, .int .i64 38] 3)) := hb1.alloc hb1s _
  have hne : some w1.heap.size ≠ some w.heap.size := fun e => by
    have h1 := hm1.lt
    have := Option.some.inj e
    omega
  have HNE := Lib.hid hne
  clear hB0 hm1 hb1 hne
  refine wp_loop_rounds 12 ?_
  rw [rounds_succ]
  go_wp2_with (first | (at_mapUpdate; refine Stop.mk ?_))
  refine Stop.go ?_
  refine wpList_way rfl _ _ _ rfl w.heap.size 12 (by omega) (4, 6, 0, 4, 0) rfl rfl hmA rfl rfl ?_
  intro w2 hm2 hg2
  have hB1 := HB0.out.grown hg2 HNE.out
  have HB1 := Lib.hid hB1
  have hb2 := hbA.grown hg2 (hbA).size (fun k hk => by cases hk; exact Nat.le_refl _)
  clear hmA hbA hg2 HB0
  have hc1 : w2.cell? ⟨w1.heap.size, 1, none⟩ = some (.int .i64 8) := hB1.at 1
  clear hB1
  go_wp2_with fail
  rw [rounds_succ]
  go_wp2_with (first | (at_mapUpdate; refine Stop.mk ?_))
  clear hc1
  refine Stop.go ?_
  refine wpList_way rfl _ _ _ rfl w.heap.size 11 (by omega) (4, 8, 0, 4, 0) rfl rfl hm2 rfl rfl ?_
  intro w3 hm3 hg3
  have hB2 := HB1.out.grown hg3 HNE.out
  have HB2 := Lib.hid hB2
  have hb3 := hb2.grown hg3 (hb2).size (fun k hk => by cases hk; exact Nat.le_refl _)
  clear hm2 hb2 hg3 HB1
  have hc2 : w3.cell? ⟨w1.heap.size, 2, none⟩ = some (.int .i64 17) := hB2.at 2
  clear hB2
  go_wp2_with fail
  rw [rounds_succ]
  go_wp2_with (first | (at_mapUpdate; refine Stop.mk ?_))
  clear hc2
  refine Stop.go ?_
  refine wpList_way rfl _ _ _ rfl w.heap.size 10 (by omega) (4, 17, 0, 4, 0) rfl rfl hm3 rfl rfl ?_
  intro w4 hm4 hg4
  have hB3 := HB2.out.grown hg4 HNE.out
  have HB3 := Lib.hid hB3
  have hb4 := hb3.grown hg4 (hb3).size (fun k hk => by cases hk; exact Nat.le_refl _)
  clear hm3 hb3 hg4 HB2
  have hc3 : w4.cell? ⟨w1.heap.size, 3, none⟩ = some (.int .i64 18) := hB3.at 3
  clear hB3
  go_wp2_with fail
  rw [rounds_succ]
  go_wp2_with (first | (at_mapUpdate; refine Stop.mk ?_))
  clear hc3
  refine Stop.go ?_
  refine wpList_way rfl _ _ _ rfl w.heap.size 9 (by omega) (4, 18, 0, 4, 0) rfl rfl hm4 rfl rfl ?_
  intro w5 hm5 hg5
  have hB4 := HB3.out.grown hg5 HNE.out
  have HB4 := Lib.hid hB4
  have hb5 := hb4.grown hg5 (hb4).size (fun k hk => by cases hk; exact Nat.le_refl _)
  clear hm4 hb4 hg5 HB3
  have hc4 : w5.cell? ⟨w1.heap.size, 4, none⟩ = some (.int .i64 23) := hB4.at 4
  clear hB4
  go_wp2_with fail
  rw [rounds_succ]
  go_wp2_with (first | (at_mapUpdate; refine Stop.mk ?_))
  clear hc4
  refine Stop.go ?_
  refine wpList_way rfl _ _ _ rfl w.heap.size 8 (by omega) (4, 23, 0, 4, 0) rfl rfl hm5 rfl rfl ?_
  intro w6 hm6 hg6
  have hB5 := HB4.out.grown hg6 HNE.out
  have HB5 := Lib.hid hB5
  have hb6 := hb5.grown hg6 (hb5).size (fun k hk => by cases hk; exact Nat.le_refl _)
  clear hm5 hb5 hg6 HB4
  have hc5 : w6.cell? ⟨w1.heap.size, 5, none⟩ = some (.int .i64 28) := hB5.at 5
  clear hB5
  go_wp2_with fail
  rw [rounds_succ]
  go_wp2_with (first | (at_mapUpdate; refine Stop.mk ?_))
  clear hc5
  refine Stop.go ?_
  refine wpList_way rfl _ _ _ rfl w.heap.size 7 (by omega) (4, 28, 0, 4, 0) rfl rfl hm6 rfl rfl ?_
  intro w7 hm7 hg7
  have hB6 := HB5.out.grown hg7 HNE.out
  have HB6 := Lib.hid hB6
  have hb7 := hb6.grown hg7 (hb6).size (fun k hk => by cases hk; exact Nat.le_refl _)
  clear hm6 hb6 hg7 HB5
  have hc6 : w7.cell? ⟨w1.heap.size, 6, none⟩ = some (.int .i64 29) := hB6.at 6
  clear hB6
  go_wp2_with fail
  rw [rounds_succ]
  go_wp2_with (first | (at_mapUpdate; refine Stop.mk ?_))
  clear hc6
  refine Stop.go ?_
  refine wpList_way rfl _ _ _ rfl w.heap.size 6 (by omega) (4, 29, 0, 4, 0) rfl rfl hm7 rfl rfl ?_
  intro w8 hm8 hg8
  have hB7 := HB6.out.grown hg8 HNE.out
  have HB7 := Lib.hid hB7
  have hb8 := hb7.grown hg8 (hb7).size (fun k hk => by cases hk; exact Nat.le_refl _)
  clear hm7 hb7 hg8 HB6
  have hc7 : w8.cell? ⟨w1.heap.size, 7, none⟩ = some (.int .i64 30) := hB7.at 7
  clear hB7
  go_wp2_with fail
  rw [rounds_succ]
  go_wp2_with (first | (at_mapUpdate; refine Stop.mk ?_))
  clear hc7
  refine Stop.go ?_
  refine wpList_way rfl _ _ _ rfl w.heap.size 5 (by omega) (4, 30, 0, 4, 0) rfl rfl hm8 rfl rfl ?_
  intro w9 hm9 hg9
  have hB8 := HB7.out.grown hg9 HNE.out
  have HB8 := Lib.hid hB8
  have hb9 := hb8.grown hg9 (hb8).size (fun k hk => by cases hk; exact Nat.le_refl _)
  clear hm8 hb8 hg9 HB7
  have hc8 : w9.cell? ⟨w1.heap.size, 8, none⟩ = some (.int .i64 35) := hB8.at 8
  clear hB8
  go_wp2_with fail
  rw [rounds_succ]
  go_wp2_with (first | (at_mapUpdate; refine Stop.mk ?_))
  clear hc8
  refine Stop.go ?_
  refine wpList_way rfl _ _ _ rfl w.heap.size 4 (by omega) (4, 35, 0, 4, 0) rfl rfl hm9 rfl rfl ?_
  intro w10 hm10 hg10
  have hB9 := HB8.out.grown hg10 HNE.out
  have HB9 := Lib.hid hB9
  have hb10 := hb9.grown hg10 (hb9).size (fun k hk => by cases hk; exact Nat.le_refl _)
  clear hm9 hb9 hg10 HB8
  have hc9 : w10.cell? ⟨w1.heap.size, 9, none⟩ = some (.int .i64 36) := hB9.at 9
  clear hB9
  go_wp2_with fail
  rw [rounds_succ]
  go_wp2_with (first | (at_mapUpdate; refine Stop.mk ?_))
  clear hc9
  refine Stop.go ?_
  refine wpList_way rfl _ _ _ rfl w.heap.size 3 (by omega) (4, 36, 0, 4, 0) rfl rfl hm10 rfl rfl ?_
  intro w11 hm11 hg11
  have hB10 := HB9.out.grown hg11 HNE.out
  have HB10 := Lib.hid hB10
  have hb11 := hb10.grown hg11 (hb10).size (fun k hk => by cases hk; exact Nat.le_refl _)
  clear hm10 hb10 hg11 HB9
  have hc10 : w11.cell? ⟨w1.heap.size, 10, none⟩ = some (.int .i64 38) := hB10.at 10
  clear hB10
  go_wp2_with fail
  rw [rounds_succ]
  go_wp2_with (first | (at_mapUpdate; refine Stop.mk ?_))
  clear hc10
  refine Stop.go ?_
  refine wpList_way rfl _ _ _ rfl w.heap.size 2 (by omega) (4, 38, 0, 4, 0) rfl rfl hm11 rfl rfl ?_
  intro w12 hm12 hg12
  have hB11 := HB10.out.grown hg12 HNE.out
  have HB11 := Lib.hid hB11
  have hb12 := hb11.grown hg12 (hb11).size (fun k hk => by cases hk; exact Nat.le_refl _)
  clear hm11 hb11 hg12 HB10
  clear hB11 HB11
  go_wp2_with fail
  rw [rounds_succ]
  go_wp2_with fail
  have hmC : MapHas wayV (w12.alloc (.cells #[.int .i64 24, .int .i64 25] 3)) w.heap.size (waysL.drop 2) := hm12.below ((Below.refl _ _).alloc (Nat.le_refl _) _)
  have hs12 := hb12.size
  have hbC : Below w.heap.size w (w12.alloc (.cells #[.int .i64 24, .int .i64 25] 3)) := hb12.alloc hs12 _
  have HBC := Lib.hid (HasB.new w12 #[.int .i64 24, .int .i64 25] 3)
  have hne2 : some w12.heap.size ≠ some w.heap.size := fun e => by
    have h1 := hm12.lt
    have := Option.some.inj e
    omega
  have HNE2 := Lib.hid hne2
  clear hne2 hm12 hb12
  refine wp_loop_rounds 3 ?_
  rw [rounds_succ]
  go_wp2_with (first | (at_mapUpdate; refine Stop.mk ?_))
  refine Stop.go ?_
  refine wpList_way rfl _ _ _ rfl w.heap.size 1 (by omega) (4, 24, 0, 6, 0) rfl rfl hmC rfl rfl ?_
  intro w13 hm13 hg13
  have hb13 := hbC.grown hg13 hbC.size (fun k hk => by cases hk; exact Nat.le_refl _)
  have hcC : w13.cell? ⟨w12.heap.size, 1, none⟩ = some (.int .i64 25) := (HBC.out.grown hg13 HNE2.out).at 1
  clear hmC hbC hg13 HBC HNE2
  go_wp2_with fail
  rw [rounds_succ]
  go_wp2_with (first | (at_mapUpdate; refine Stop.mk ?_))
  clear hcC
  refine Stop.go ?_
  refine wpList_way rfl _ _ _ rfl w.heap.size 0 (by omega) (4, 25, 0, 6, 0) rfl rfl hm13 rfl rfl ?_
  intro w14 hm14 hg14
  have hb14 := hb13.grown hg14 hb13.size (fun k hk => by cases hk; exact Nat.le_refl _)
  clear hm13 hb13 hg14
  go_wp2_with fail
  rw [rounds_succ]
  go_wp2
  go_ret
  exact ⟨⟨rfl, hm14⟩, hb14⟩

end Go.Proofs.Ytjjeopanffcbiaa
