/- areas: PowerUp. -/
import Derived.Test.YtdbnadhmkfhdkaaAreasD
import Derived.Test.YtdbnadhmkfhdkaaHeld
namespace Go.Proofs.Ytdbnadhmkfhdkaa
open Go Go.RowKit
set_option linter.unusedVariables false

theorem now_now (s : Stg) : nowOf (nowOf s) = nowOf s := by
  unfold nowOf
  cases hd : s.dn with
  | false => simp [Stg.zero]
  | true => simp [hd]
/-- What PowerUp returns. -/
def UpR (w : World) (c : Cfg) (s : Stg) (x : Ending) (w' : World) : Prop := ∃ g, w.heap.size ≤ g ∧ x = .returned (.pointer (some ⟨g, 0, none⟩)) ∧ TabW w' g c s s 0 0 zero8 zero8
theorem up_new {w w1 w' : World} {c : Cfg} {s : Stg} (hg : goodOf c s = true) (hn : nowOf s = s) (hw : w.heap.size ≤ w1.heap.size) {x : Ending} (h : NewR w1 c s x w') : ∃ g, w.heap.size ≤ g ∧ x = .returned (.tuple #[.pointer (some ⟨g, 0, none⟩), .int .i64 0]) ∧ TabW w' g c s s 0 0 zero8 zero8 := by
  rcases h with ⟨h1, _⟩ | ⟨_, g, h2, h3, h4⟩
  · rw [hg] at h1; cases h1
  · exact ⟨g, Nat.le_trans hw h2, h3, by rw [hn] at h4; exact h4⟩

set_option maxRecDepth 100000 in
set_option maxHeartbeats 2000000 in
theorem apowerup_any (g : Nat) (c : Cfg) (s n : Stg) (od om : Int) (sz fi : List Value) (w : World) (h : TabW w g c s n od om sz fi) (hwf : c.wf) (hs : s.wf) (hg : goodOf c (nowOf s) = true) :
    Calls Try.prog 18 #[.pointer (some ⟨g, 0, none⟩)] w fun e w' => UpR w c (nowOf s) e w' ∧ Below w.heap.size w w' := by
  obtain ⟨sa, sb, sd, se, sv, sn⟩ := s
  have HW := Lib.hid hwf
  have HS := Lib.hid hs
  have HT := Lib.hid h
  obtain ⟨c9, c10, c11, c12, c13, c14⟩ := h.sCells
  dsimp only at c9 c10 c11 c12 c13 c14
  have HA : Hid (∀ A : Obj, TabW (w.alloc A) g c ⟨sa, sb, sd, se, sv, sn⟩ n od om sz fi ∧ Below w.heap.size w (w.alloc A) ∧ w.heap.size ≤ (w.alloc A).heap.size) := Lib.hid (fun A => ⟨h.below ((Below.refl _ _).alloc (Nat.le_refl _) A), (Below.refl w.heap.size w).alloc (Nat.le_refl _) A, by simp⟩)
  obtain ⟨POST, hPOST⟩ : ∃ POST : Ending → World → Prop, POST = fun x w' => UpR w c (nowOf ⟨sa, sb, sd, se, sv, sn⟩) x w' ∧ Below w.heap.size w w' := ⟨_, rfl⟩
  rw [← hPOST]
  have HPost := Lib.hid hPOST
  clear h hPOST hwf hs
  cases sn with
  | false =>
    have HG : Hid (goodOf c Stg.zero = true) := Lib.hid hg
    clear hg
    go_enter Try.func18, Try.ntmps18
    go_wp2_with fail
    obtain ⟨hTA, hbA, hszA⟩ := HA.out (.cells #[.int .i64 0, .int .i64 0, .int .i64 0, .int .i64 0, .int .u8 0, .bool false] 36)
    have n6 := HasB.new w #[.int .i64 0, .int .i64 0, .int .i64 0, .int .i64 0, .int .u8 0, .bool false] 36
    obtain ⟨wq, hwq⟩ : ∃ wq, w.alloc (.cells #[.int .i64 0, .int .i64 0, .int .i64 0, .int .i64 0, .int .u8 0, .bool false] 36) = wq := ⟨_, rfl⟩
    rw [hwq] at hTA hbA hszA n6 ⊢
    have HTq := Lib.hid hTA
    have HBq := Lib.hid hbA
    have HSq := Lib.hid hszA
    have HNq := Lib.hid n6
    have k0 : ∀ w', Below wq.heap.size wq w' → w'.cell? ⟨g, 0, none⟩ = some (.int .i64 c.blocks) := fun w' hb => (HTq.out.below hb).cCells.1
    have k1 : ∀ w', Below wq.heap.size wq w' → w'.cell? ⟨g, 1, none⟩ = some (.int .i64 c.pages) := fun w' hb => (HTq.out.below hb).cCells.2.1
    have k2 : ∀ w', Below wq.heap.size wq w' → w'.cell? ⟨g, 2, none⟩ = some (.int .i64 c.sector) := fun w' hb => (HTq.out.below hb).cCells.2.2.1
    have k3 : ∀ w', Below wq.heap.size wq w' → w'.cell? ⟨g, 3, none⟩ = some (.int .i64 c.user) := fun w' hb => (HTq.out.below hb).cCells.2.2.2.1
    have k4 : ∀ w', Below wq.heap.size wq w' → w'.cell? ⟨g, 4, none⟩ = some (.int .i64 c.boot) := fun w' hb => (HTq.out.below hb).cCells.2.2.2.2.1
    have k5 : ∀ w', Below wq.heap.size wq w' → w'.cell? ⟨g, 5, none⟩ = some (.int .i64 c.rpa) := fun w' hb => (HTq.out.below hb).cCells.2.2.2.2.2.1
    have k6 : ∀ w', Below wq.heap.size wq w' → w'.cell? ⟨g, 6, none⟩ = some (.int .i64 c.group) := fun w' hb => (HTq.out.below hb).cCells.2.2.2.2.2.2.1
    have k7 : ∀ w', Below wq.heap.size wq w' → w'.cell? ⟨g, 7, none⟩ = some (.int .i64 c.cache) := fun w' hb => (HTq.out.below hb).cCells.2.2.2.2.2.2.2.1
    have k8 : ∀ w', Below wq.heap.size wq w' → w'.cell? ⟨g, 8, none⟩ = some (.int .i64 c.spare) := fun w' hb => (HTq.out.below hb).cCells.2.2.2.2.2.2.2.2
    have y0 : ∀ w', Below wq.heap.size wq w' → w'.cell? ⟨w.heap.size, 0, none⟩ = some (.int .i64 0) := fun w' hb => (HNq.out.below hb HNq.out.lt).six.2.1
    have y1 : ∀ w', Below wq.heap.size wq w' → w'.cell? ⟨w.heap.size, 1, none⟩ = some (.int .i64 0) := fun w' hb => (HNq.out.below hb HNq.out.lt).six.2.2.1
    have y2 : ∀ w', Below wq.heap.size wq w' → w'.cell? ⟨w.heap.size, 2, none⟩ = some (.int .i64 0) := fun w' hb => (HNq.out.below hb HNq.out.lt).six.2.2.2.1
    have y3 : ∀ w', Below wq.heap.size wq w' → w'.cell? ⟨w.heap.size, 3, none⟩ = some (.int .i64 0) := fun w' hb => (HNq.out.below hb HNq.out.lt).six.2.2.2.2.1
    have y4 : ∀ w', Below wq.heap.size wq w' → w'.cell? ⟨w.heap.size, 4, none⟩ = some (.int .u8 0) := fun w' hb => (HNq.out.below hb HNq.out.lt).six.2.2.2.2.2.1
    have y5 : ∀ w', Below wq.heap.size wq w' → w'.cell? ⟨w.heap.size, 5, none⟩ = some (.bool false) := fun w' hb => (HNq.out.below hb HNq.out.lt).six.2.2.2.2.2.2
    clear hwq n6 hTA hbA hszA c9 c10 c11 c12 c13 c14 HA
    refine wp_region_held_drew (S := (fun w' => Below wq.heap.size wq w')) (by kernel_rfl) ((Below.refl _ _).drew) (fun hHeld => ?_)
    refine held_take 0 (v := ?_) rfl (by kernel_rfl) (by kernel_rfl) (by kernel_rfl) (fun _ _ _ h => h) (by rfl) (fun w hS => ?_) (by assumption) ?_
    rotate_left
    · try dsimp only at hS
      go_simp <;> with_reducible rfl
    try simp only [Act.put, List.setIfInBounds_toArray, List.set_cons_zero, List.set_cons_succ]
    refine held_take 1 (v := ?_) rfl (by kernel_rfl) (by kernel_rfl) (by kernel_rfl) (fun _ _ _ h => h) (by rfl) (fun w hS => ?_) (by assumption) ?_
    rotate_left
    · try dsimp only at hS
      go_simp <;> with_reducible rfl
    try simp only [Act.put, List.setIfInBounds_toArray, List.set_cons_zero, List.set_cons_succ]
    refine held_take 2 (v := ?_) rfl (by kernel_rfl) (by kernel_rfl) (by kernel_rfl) (fun _ _ _ h => h) (by rfl) (fun w hS => ?_) (by assumption) ?_
    rotate_left
    · try dsimp only at hS
      go_simp <;> with_reducible rfl
    try simp only [Act.put, List.setIfInBounds_toArray, List.set_cons_zero, List.set_cons_succ]
    refine held_take 3 (v := ?_) rfl (by kernel_rfl) (by kernel_rfl) (by kernel_rfl) (fun _ _ _ h => h) (by rfl) (fun w hS => ?_) (by assumption) ?_
    rotate_left
    · try dsimp only at hS
      go_simp <;> with_reducible rfl
    try simp only [Act.put, List.setIfInBounds_toArray, List.set_cons_zero, List.set_cons_succ]
    refine held_take 4 (v := ?_) rfl (by kernel_rfl) (by kernel_rfl) (by kernel_rfl) (fun _ _ _ h => h) (by rfl) (fun w hS => ?_) (by assumption) ?_
    rotate_left
    · try dsimp only at hS
      go_simp <;> with_reducible rfl
    try simp only [Act.put, List.setIfInBounds_toArray, List.set_cons_zero, List.set_cons_succ]
    refine held_one 5 rfl (by kernel_rfl) (fun K hK => ?_)
    go_simp
    refine Calls.mono (anew_any c Stg.zero _ HW.out Stg.zero_wf) ?_
    rintro e w9 ⟨hR, hb9⟩
    obtain ⟨g9, hg9, rfl, hT9⟩ := up_new (w := w) HG.out rfl HSq.out hR
    have hb9' : Below wq.heap.size wq w9 := (Below.refl wq.heap.size wq).drew.trans (hb9.mono (Nat.le_refl _))
    have HB9 : Hid (Below w.heap.size w w9) := Lib.hid (HBq.out.trans (hb9'.mono HSq.out))
    have HT9 := Lib.hid hT9
    clear hR hb9 hT9
    refine hK.out _ _ (fun w' => Below wq.heap.size wq w') (fun _ h => h) hb9' (fun hHeld => ?_)
    clear hK K
    try simp only [Act.put, List.setIfInBounds_toArray, List.set_cons_zero, List.set_cons_succ]
    refine held_take 6 (v := ?_) rfl (by kernel_rfl) (by kernel_rfl) (by kernel_rfl) (fun _ _ _ h => h) (by rfl) (fun w hS => ?_) (by assumption) ?_
    rotate_left
    · try dsimp only at hS
      go_simp <;> with_reducible rfl
    try simp only [Act.put, List.setIfInBounds_toArray, List.set_cons_zero, List.set_cons_succ]
    refine held_take 7 (v := ?_) rfl (by kernel_rfl) (by kernel_rfl) (by kernel_rfl) (fun _ _ _ h => h) (by rfl) (fun w hS => ?_) (by assumption) ?_
    rotate_left
    · try dsimp only at hS
      go_simp <;> with_reducible rfl
    try simp only [Act.put, List.setIfInBounds_toArray, List.set_cons_zero, List.set_cons_succ]
    refine held_take 8 (v := ?_) rfl (by kernel_rfl) (by kernel_rfl) (by kernel_rfl) (fun _ _ _ h => h) (by rfl) (fun w hS => ?_) (by assumption) ?_
    rotate_left
    · try dsimp only at hS
      go_simp <;> with_reducible rfl
    try simp only [Act.put, List.setIfInBounds_toArray, List.set_cons_zero, List.set_cons_succ]
    refine held_take 9 (v := ?_) rfl (by kernel_rfl) (by kernel_rfl) (by kernel_rfl) (fun _ _ _ h => h) (by rfl) (fun w hS => ?_) (by assumption) ?_
    rotate_left
    · try dsimp only at hS
      go_simp <;> with_reducible rfl
    try simp only [Act.put, List.setIfInBounds_toArray, List.set_cons_zero, List.set_cons_succ]
    refine held_take 10 (v := ?_) rfl (by kernel_rfl) (by kernel_rfl) (by kernel_rfl) (fun _ _ _ h => h) (by rfl) (fun w hS => ?_) (by assumption) ?_
    rotate_left
    · try dsimp only at hS
      go_simp <;> with_reducible rfl
    try simp only [Act.put, List.setIfInBounds_toArray, List.set_cons_zero, List.set_cons_succ]
    refine held_done (by kernel_rfl) ?_
    clear k0 k1 k2 k3 k4 k5 k6 k7 k8 y0 y1 y2 y3 y4 y5
    go_wp2_with fail
    rw [HPost.out]
    exact ⟨⟨g9, hg9, rfl, HT9.out⟩, HB9.out⟩
  | true =>
    have HG : Hid (goodOf c ⟨sa, sb, sd, se, sv, true⟩ = true) := Lib.hid hg
    clear hg
    have e4 : ∀ w, (Op.equalIn 10000 34 (.agg #[.int .i64 sa, .int .i64 sb, .int .i64 sd, .int .i64 se]) (.agg #[.int .i64 0, .int .i64 0, .int .i64 0, .int .i64 0])).run Try.prog w = .ok (sa == 0 && sb == 0 && sd == 0 && se == 0) w := fun w => eqFourD 9998 sa sb sd se 0 0 0 0 w
    have e6 : ∀ w, (Op.equalIn 10000 36 (.agg #[.int .i64 sa, .int .i64 sb, .int .i64 sd, .int .i64 se, .int .u8 sv, .bool true]) (.agg #[.int .i64 0, .int .i64 0, .int .i64 0, .int .i64 0, .int .u8 0, .bool false])).run Try.prog w = .ok false w := fun w => (eqStg ⟨sa, sb, sd, se, sv, true⟩ Stg.zero w).trans (by simp [Stg.zero])
    generalize (sa == 0 && sb == 0 && sd == 0 && se == 0) = q at e4
    cases q with
    | false =>
      go_enter Try.func18, Try.ntmps18
      go_wp2_with fail
      clear e4 e6
      obtain ⟨hTA, hbA, hszA⟩ := HA.out (.cells #[.int .i64 sa, .int .i64 sb, .int .i64 sd, .int .i64 se, .int .u8 sv, .bool true] 36)
      have n6 := HasB.new w #[.int .i64 sa, .int .i64 sb, .int .i64 sd, .int .i64 se, .int .u8 sv, .bool true] 36
      obtain ⟨wq, hwq⟩ : ∃ wq, w.alloc (.cells #[.int .i64 sa, .int .i64 sb, .int .i64 sd, .int .i64 se, .int .u8 sv, .bool true] 36) = wq := ⟨_, rfl⟩
      rw [hwq] at hTA hbA hszA n6 ⊢
      have HTq := Lib.hid hTA
      have HBq := Lib.hid hbA
      have HSq := Lib.hid hszA
      have HNq := Lib.hid n6
      have k0 : ∀ w', Below wq.heap.size wq w' → w'.cell? ⟨g, 0, none⟩ = some (.int .i64 c.blocks) := fun w' hb => (HTq.out.below hb).cCells.1
      have k1 : ∀ w', Below wq.heap.size wq w' → w'.cell? ⟨g, 1, none⟩ = some (.int .i64 c.pages) := fun w' hb => (HTq.out.below hb).cCells.2.1
      have k2 : ∀ w', Below wq.heap.size wq w' → w'.cell? ⟨g, 2, none⟩ = some (.int .i64 c.sector) := fun w' hb => (HTq.out.below hb).cCells.2.2.1
      have k3 : ∀ w', Below wq.heap.size wq w' → w'.cell? ⟨g, 3, none⟩ = some (.int .i64 c.user) := fun w' hb => (HTq.out.below hb).cCells.2.2.2.1
      have k4 : ∀ w', Below wq.heap.size wq w' → w'.cell? ⟨g, 4, none⟩ = some (.int .i64 c.boot) := fun w' hb => (HTq.out.below hb).cCells.2.2.2.2.1
      have k5 : ∀ w', Below wq.heap.size wq w' → w'.cell? ⟨g, 5, none⟩ = some (.int .i64 c.rpa) := fun w' hb => (HTq.out.below hb).cCells.2.2.2.2.2.1
      have k6 : ∀ w', Below wq.heap.size wq w' → w'.cell? ⟨g, 6, none⟩ = some (.int .i64 c.group) := fun w' hb => (HTq.out.below hb).cCells.2.2.2.2.2.2.1
      have k7 : ∀ w', Below wq.heap.size wq w' → w'.cell? ⟨g, 7, none⟩ = some (.int .i64 c.cache) := fun w' hb => (HTq.out.below hb).cCells.2.2.2.2.2.2.2.1
      have k8 : ∀ w', Below wq.heap.size wq w' → w'.cell? ⟨g, 8, none⟩ = some (.int .i64 c.spare) := fun w' hb => (HTq.out.below hb).cCells.2.2.2.2.2.2.2.2
      have y0 : ∀ w', Below wq.heap.size wq w' → w'.cell? ⟨w.heap.size, 0, none⟩ = some (.int .i64 sa) := fun w' hb => (HNq.out.below hb HNq.out.lt).six.2.1
      have y1 : ∀ w', Below wq.heap.size wq w' → w'.cell? ⟨w.heap.size, 1, none⟩ = some (.int .i64 sb) := fun w' hb => (HNq.out.below hb HNq.out.lt).six.2.2.1
      have y2 : ∀ w', Below wq.heap.size wq w' → w'.cell? ⟨w.heap.size, 2, none⟩ = some (.int .i64 sd) := fun w' hb => (HNq.out.below hb HNq.out.lt).six.2.2.2.1
      have y3 : ∀ w', Below wq.heap.size wq w' → w'.cell? ⟨w.heap.size, 3, none⟩ = some (.int .i64 se) := fun w' hb => (HNq.out.below hb HNq.out.lt).six.2.2.2.2.1
      have y4 : ∀ w', Below wq.heap.size wq w' → w'.cell? ⟨w.heap.size, 4, none⟩ = some (.int .u8 sv) := fun w' hb => (HNq.out.below hb HNq.out.lt).six.2.2.2.2.2.1
      have y5 : ∀ w', Below wq.heap.size wq w' → w'.cell? ⟨w.heap.size, 5, none⟩ = some (.bool true) := fun w' hb => (HNq.out.below hb HNq.out.lt).six.2.2.2.2.2.2
      clear hwq n6 hTA hbA hszA c9 c10 c11 c12 c13 c14 HA
      refine wp_region_held_drew (S := (fun w' => Below wq.heap.size wq w')) (by kernel_rfl) ((Below.refl _ _).drew) (fun hHeld => ?_)
      refine held_take 0 (v := ?_) rfl (by kernel_rfl) (by kernel_rfl) (by kernel_rfl) (fun _ _ _ h => h) (by rfl) (fun w hS => ?_) (by assumption) ?_
      rotate_left
      · try dsimp only at hS
        go_simp <;> with_reducible rfl
      try simp only [Act.put, List.setIfInBounds_toArray, List.set_cons_zero, List.set_cons_succ]
      refine held_take 1 (v := ?_) rfl (by kernel_rfl) (by kernel_rfl) (by kernel_rfl) (fun _ _ _ h => h) (by rfl) (fun w hS => ?_) (by assumption) ?_
      rotate_left
      · try dsimp only at hS
        go_simp <;> with_reducible rfl
      try simp only [Act.put, List.setIfInBounds_toArray, List.set_cons_zero, List.set_cons_succ]
      refine held_take 2 (v := ?_) rfl (by kernel_rfl) (by kernel_rfl) (by kernel_rfl) (fun _ _ _ h => h) (by rfl) (fun w hS => ?_) (by assumption) ?_
      rotate_left
      · try dsimp only at hS
        go_simp <;> with_reducible rfl
      try simp only [Act.put, List.setIfInBounds_toArray, List.set_cons_zero, List.set_cons_succ]
      refine held_take 3 (v := ?_) rfl (by kernel_rfl) (by kernel_rfl) (by kernel_rfl) (fun _ _ _ h => h) (by rfl) (fun w hS => ?_) (by assumption) ?_
      rotate_left
      · try dsimp only at hS
        go_simp <;> with_reducible rfl
      try simp only [Act.put, List.setIfInBounds_toArray, List.set_cons_zero, List.set_cons_succ]
      refine held_take 4 (v := ?_) rfl (by kernel_rfl) (by kernel_rfl) (by kernel_rfl) (fun _ _ _ h => h) (by rfl) (fun w hS => ?_) (by assumption) ?_
      rotate_left
      · try dsimp only at hS
        go_simp <;> with_reducible rfl
      try simp only [Act.put, List.setIfInBounds_toArray, List.set_cons_zero, List.set_cons_succ]
      refine held_one 5 rfl (by kernel_rfl) (fun K hK => ?_)
      go_simp
      refine Calls.mono (anew_any c ⟨sa, sb, sd, se, sv, true⟩ _ HW.out HS.out) ?_
      rintro e w9 ⟨hR, hb9⟩
      obtain ⟨g9, hg9, rfl, hT9⟩ := up_new (w := w) HG.out rfl HSq.out hR
      have hb9' : Below wq.heap.size wq w9 := (Below.refl wq.heap.size wq).drew.trans (hb9.mono (Nat.le_refl _))
      have HB9 : Hid (Below w.heap.size w w9) := Lib.hid (HBq.out.trans (hb9'.mono HSq.out))
      have HT9 := Lib.hid hT9
      clear hR hb9 hT9
      refine hK.out _ _ (fun w' => Below wq.heap.size wq w') (fun _ h => h) hb9' (fun hHeld => ?_)
      clear hK K
      try simp only [Act.put, List.setIfInBounds_toArray, List.set_cons_zero, List.set_cons_succ]
      refine held_take 6 (v := ?_) rfl (by kernel_rfl) (by kernel_rfl) (by kernel_rfl) (fun _ _ _ h => h) (by rfl) (fun w hS => ?_) (by assumption) ?_
      rotate_left
      · try dsimp only at hS
        go_simp <;> with_reducible rfl
      try simp only [Act.put, List.setIfInBounds_toArray, List.set_cons_zero, List.set_cons_succ]
      refine held_take 7 (v := ?_) rfl (by kernel_rfl) (by kernel_rfl) (by kernel_rfl) (fun _ _ _ h => h) (by rfl) (fun w hS => ?_) (by assumption) ?_
      rotate_left
      · try dsimp only at hS
        go_simp <;> with_reducible rfl
      try simp only [Act.put, List.setIfInBounds_toArray, List.set_cons_zero, List.set_cons_succ]
      refine held_take 8 (v := ?_) rfl (by kernel_rfl) (by kernel_rfl) (by kernel_rfl) (fun _ _ _ h => h) (by rfl) (fun w hS => ?_) (by assumption) ?_
      rotate_left
      · try dsimp only at hS
        go_simp <;> with_reducible rfl
      try simp only [Act.put, List.setIfInBounds_toArray, List.set_cons_zero, List.set_cons_succ]
      refine held_take 9 (v := ?_) rfl (by kernel_rfl) (by kernel_rfl) (by kernel_rfl) (fun _ _ _ h => h) (by rfl) (fun w hS => ?_) (by assumption) ?_
      rotate_left
      · try dsimp only at hS
        go_simp <;> with_reducible rfl
      try simp only [Act.put, List.setIfInBounds_toArray, List.set_cons_zero, List.set_cons_succ]
      refine held_take 10 (v := ?_) rfl (by kernel_rfl) (by kernel_rfl) (by kernel_rfl) (fun _ _ _ h => h) (by rfl) (fun w hS => ?_) (by assumption) ?_
      rotate_left
      · try dsimp only at hS
        go_simp <;> with_reducible rfl
      try simp only [Act.put, List.setIfInBounds_toArray, List.set_cons_zero, List.set_cons_succ]
      refine held_done (by kernel_rfl) ?_
      clear k0 k1 k2 k3 k4 k5 k6 k7 k8 y0 y1 y2 y3 y4 y5
      go_wp2_with fail
      rw [HPost.out]
      exact ⟨⟨g9, hg9, rfl, HT9.out⟩, HB9.out⟩
    | true =>
      go_enter Try.func18, Try.ntmps18
      go_wp2_with fail
      clear e4 e6
      obtain ⟨hTA, hbA, hszA⟩ := HA.out (.cells #[.int .i64 sa, .int .i64 sb, .int .i64 sd, .int .i64 se, .int .u8 sv, .bool true] 36)
      have n6 := HasB.new w #[.int .i64 sa, .int .i64 sb, .int .i64 sd, .int .i64 se, .int .u8 sv, .bool true] 36
      obtain ⟨wq, hwq⟩ : ∃ wq, w.alloc (.cells #[.int .i64 sa, .int .i64 sb, .int .i64 sd, .int .i64 se, .int .u8 sv, .bool true] 36) = wq := ⟨_, rfl⟩
      rw [hwq] at hTA hbA hszA n6 ⊢
      have HTq := Lib.hid hTA
      have HBq := Lib.hid hbA
      have HSq := Lib.hid hszA
      have HNq := Lib.hid n6
      have k0 : ∀ w', Below wq.heap.size wq w' → w'.cell? ⟨g, 0, none⟩ = some (.int .i64 c.blocks) := fun w' hb => (HTq.out.below hb).cCells.1
      have k1 : ∀ w', Below wq.heap.size wq w' → w'.cell? ⟨g, 1, none⟩ = some (.int .i64 c.pages) := fun w' hb => (HTq.out.below hb).cCells.2.1
      have k2 : ∀ w', Below wq.heap.size wq w' → w'.cell? ⟨g, 2, none⟩ = some (.int .i64 c.sector) := fun w' hb => (HTq.out.below hb).cCells.2.2.1
      have k3 : ∀ w', Below wq.heap.size wq w' → w'.cell? ⟨g, 3, none⟩ = some (.int .i64 c.user) := fun w' hb => (HTq.out.below hb).cCells.2.2.2.1
      have k4 : ∀ w', Below wq.heap.size wq w' → w'.cell? ⟨g, 4, none⟩ = some (.int .i64 c.boot) := fun w' hb => (HTq.out.below hb).cCells.2.2.2.2.1
      have k5 : ∀ w', Below wq.heap.size wq w' → w'.cell? ⟨g, 5, none⟩ = some (.int .i64 c.rpa) := fun w' hb => (HTq.out.below hb).cCells.2.2.2.2.2.1
      have k6 : ∀ w', Below wq.heap.size wq w' → w'.cell? ⟨g, 6, none⟩ = some (.int .i64 c.group) := fun w' hb => (HTq.out.below hb).cCells.2.2.2.2.2.2.1
      have k7 : ∀ w', Below wq.heap.size wq w' → w'.cell? ⟨g, 7, none⟩ = some (.int .i64 c.cache) := fun w' hb => (HTq.out.below hb).cCells.2.2.2.2.2.2.2.1
      have k8 : ∀ w', Below wq.heap.size wq w' → w'.cell? ⟨g, 8, none⟩ = some (.int .i64 c.spare) := fun w' hb => (HTq.out.below hb).cCells.2.2.2.2.2.2.2.2
      have y0 : ∀ w', Below wq.heap.size wq w' → w'.cell? ⟨w.heap.size, 0, none⟩ = some (.int .i64 sa) := fun w' hb => (HNq.out.below hb HNq.out.lt).six.2.1
      have y1 : ∀ w', Below wq.heap.size wq w' → w'.cell? ⟨w.heap.size, 1, none⟩ = some (.int .i64 sb) := fun w' hb => (HNq.out.below hb HNq.out.lt).six.2.2.1
      have y2 : ∀ w', Below wq.heap.size wq w' → w'.cell? ⟨w.heap.size, 2, none⟩ = some (.int .i64 sd) := fun w' hb => (HNq.out.below hb HNq.out.lt).six.2.2.2.1
      have y3 : ∀ w', Below wq.heap.size wq w' → w'.cell? ⟨w.heap.size, 3, none⟩ = some (.int .i64 se) := fun w' hb => (HNq.out.below hb HNq.out.lt).six.2.2.2.2.1
      have y4 : ∀ w', Below wq.heap.size wq w' → w'.cell? ⟨w.heap.size, 4, none⟩ = some (.int .u8 sv) := fun w' hb => (HNq.out.below hb HNq.out.lt).six.2.2.2.2.2.1
      have y5 : ∀ w', Below wq.heap.size wq w' → w'.cell? ⟨w.heap.size, 5, none⟩ = some (.bool true) := fun w' hb => (HNq.out.below hb HNq.out.lt).six.2.2.2.2.2.2
      clear hwq n6 hTA hbA hszA c9 c10 c11 c12 c13 c14 HA
      refine wp_region_held_drew (S := (fun w' => Below wq.heap.size wq w')) (by kernel_rfl) ((Below.refl _ _).drew) (fun hHeld => ?_)
      refine held_take 0 (v := ?_) rfl (by kernel_rfl) (by kernel_rfl) (by kernel_rfl) (fun _ _ _ h => h) (by rfl) (fun w hS => ?_) (by assumption) ?_
      rotate_left
      · try dsimp only at hS
        go_simp <;> with_reducible rfl
      try simp only [Act.put, List.setIfInBounds_toArray, List.set_cons_zero, List.set_cons_succ]
      refine held_take 1 (v := ?_) rfl (by kernel_rfl) (by kernel_rfl) (by kernel_rfl) (fun _ _ _ h => h) (by rfl) (fun w hS => ?_) (by assumption) ?_
      rotate_left
      · try dsimp only at hS
        go_simp <;> with_reducible rfl
      try simp only [Act.put, List.setIfInBounds_toArray, List.set_cons_zero, List.set_cons_succ]
      refine held_take 2 (v := ?_) rfl (by kernel_rfl) (by kernel_rfl) (by kernel_rfl) (fun _ _ _ h => h) (by rfl) (fun w hS => ?_) (by assumption) ?_
      rotate_left
      · try dsimp only at hS
        go_simp <;> with_reducible rfl
      try simp only [Act.put, List.setIfInBounds_toArray, List.set_cons_zero, List.set_cons_succ]
      refine held_take 3 (v := ?_) rfl (by kernel_rfl) (by kernel_rfl) (by kernel_rfl) (fun _ _ _ h => h) (by rfl) (fun w hS => ?_) (by assumption) ?_
      rotate_left
      · try dsimp only at hS
        go_simp <;> with_reducible rfl
      try simp only [Act.put, List.setIfInBounds_toArray, List.set_cons_zero, List.set_cons_succ]
      refine held_take 4 (v := ?_) rfl (by kernel_rfl) (by kernel_rfl) (by kernel_rfl) (fun _ _ _ h => h) (by rfl) (fun w hS => ?_) (by assumption) ?_
      rotate_left
      · try dsimp only at hS
        go_simp <;> with_reducible rfl
      try simp only [Act.put, List.setIfInBounds_toArray, List.set_cons_zero, List.set_cons_succ]
      refine held_one 5 rfl (by kernel_rfl) (fun K hK => ?_)
      go_simp
      refine Calls.mono (anew_any c ⟨sa, sb, sd, se, sv, true⟩ _ HW.out HS.out) ?_
      rintro e w9 ⟨hR, hb9⟩
      obtain ⟨g9, hg9, rfl, hT9⟩ := up_new (w := w) HG.out rfl HSq.out hR
      have hb9' : Below wq.heap.size wq w9 := (Below.refl wq.heap.size wq).drew.trans (hb9.mono (Nat.le_refl _))
      have HB9 : Hid (Below w.heap.size w w9) := Lib.hid (HBq.out.trans (hb9'.mono HSq.out))
      have HT9 := Lib.hid hT9
      clear hR hb9 hT9
      refine hK.out _ _ (fun w' => Below wq.heap.size wq w') (fun _ h => h) hb9' (fun hHeld => ?_)
      clear hK K
      try simp only [Act.put, List.setIfInBounds_toArray, List.set_cons_zero, List.set_cons_succ]
      refine held_take 6 (v := ?_) rfl (by kernel_rfl) (by kernel_rfl) (by kernel_rfl) (fun _ _ _ h => h) (by rfl) (fun w hS => ?_) (by assumption) ?_
      rotate_left
      · try dsimp only at hS
        go_simp <;> with_reducible rfl
      try simp only [Act.put, List.setIfInBounds_toArray, List.set_cons_zero, List.set_cons_succ]
      refine held_take 7 (v := ?_) rfl (by kernel_rfl) (by kernel_rfl) (by kernel_rfl) (fun _ _ _ h => h) (by rfl) (fun w hS => ?_) (by assumption) ?_
      rotate_left
      · try dsimp only at hS
        go_simp <;> with_reducible rfl
      try simp only [Act.put, List.setIfInBounds_toArray, List.set_cons_zero, List.set_cons_succ]
      refine held_take 8 (v := ?_) rfl (by kernel_rfl) (by kernel_rfl) (by kernel_rfl) (fun _ _ _ h => h) (by rfl) (fun w hS => ?_) (by assumption) ?_
      rotate_left
      · try dsimp only at hS
        go_simp <;> with_reducible rfl
      try simp only [Act.put, List.setIfInBounds_toArray, List.set_cons_zero, List.set_cons_succ]
      refine held_take 9 (v := ?_) rfl (by kernel_rfl) (by kernel_rfl) (by kernel_rfl) (fun _ _ _ h => h) (by rfl) (fun w hS => ?_) (by assumption) ?_
      rotate_left
      · try dsimp only at hS
        go_simp <;> with_reducible rfl
      try simp only [Act.put, List.setIfInBounds_toArray, List.set_cons_zero, List.set_cons_succ]
      refine held_take 10 (v := ?_) rfl (by kernel_rfl) (by kernel_rfl) (by kernel_rfl) (fun _ _ _ h => h) (by rfl) (fun w hS => ?_) (by assumption) ?_
      rotate_left
      · try dsimp only at hS
        go_simp <;> with_reducible rfl
      try simp only [Act.put, List.setIfInBounds_toArray, List.set_cons_zero, List.set_cons_succ]
      refine held_done (by kernel_rfl) ?_
      clear k0 k1 k2 k3 k4 k5 k6 k7 k8 y0 y1 y2 y3 y4 y5
      go_wp2_with fail
      rw [HPost.out]
      exact ⟨⟨g9, hg9, rfl, HT9.out⟩, HB9.out⟩
end Go.Proofs.Ytdbnadhmkfhdkaa
