/- phase: Next. -/
import Derived.Test.YtjjeopanffcbiaaPhaseB
import Derived.Outline
namespace Go.Proofs.Ytjjeopanffcbiaa
open Go Go.RowKit Go.Maps
set_option linter.unusedVariables false

def look (s i : Int) : Option (Int × Int × Int) := (waysL.find? fun x => x.1 == s && x.2.1 == i).map fun x => x.2.2
theorem look_some {s i : Int} {v : Int × Int × Int} (h : look s i = some v) : (s, i, v) ∈ waysL := by
  unfold look at h
  obtain ⟨x, hx, rfl⟩ := Option.map_eq_some_iff.1 h
  have h1 := List.find?_some hx
  simp at h1
  have h2 := List.mem_of_find?_eq_some hx
  rw [← h1.1, ← h1.2]
  exact h2
theorem look_none {s i : Int} (h : look s i = none) : ∀ x ∈ waysL, ¬ (x.1 = s ∧ x.2.1 = i) := by
  unfold look at h
  rw [Option.map_eq_none_iff, List.find?_eq_none] at h
  intro x hx he
  exact h x hx (by simp [he.1, he.2])
theorem look_range {s i : Int} {h t o : Int} (e : look s i = some (h, t, o)) : (0 ≤ h ∧ h ≤ 3) ∧ (0 ≤ t ∧ t ≤ 6) ∧ (0 ≤ o ∧ o ≤ 6) := by
  have : ∀ x ∈ waysL, (0 ≤ x.2.2.1 ∧ x.2.2.1 ≤ 3) ∧ (0 ≤ x.2.2.2.1 ∧ x.2.2.2.1 ≤ 6) ∧ (0 ≤ x.2.2.2.2 ∧ x.2.2.2.2 ≤ 6) := by decide
  exact this _ (look_some e)

/-- The state behind a command, and whether it is had. -/
def nextS (s i : Int) (own : Bool) : Int × Bool :=
  if s ∈ statesL then (if i = 0 then (0, true) else
    match look s i with
    | none => (s, false)
    | some (h, t, o) => if (h = 1 ∧ own = false) ∨ (h = 3 ∧ own = true) then (s, false) else if h = 2 ∧ own = false then (o, true) else (t, true))
  else (s, false)

theorem lookup_has {w : World} {b : Nat} (h : MapHas wayV w b waysL) {s i : Int} {v : Int × Int × Int} (e : look s i = some v) :
    (Instr.lookup 127 (.map (some b)) (.agg #[.int .i64 s, .int .i64 i]) true).run Try.prog w = .ok (.tuple #[.agg #[.int .i64 v.1, .int .i64 v.2.1, .int .i64 v.2.2], .bool true]) w :=
  h.found keyLaw Try.underlying127 waysL_keys (s, i, v) (look_some e) (fun y hy he => by rw [waysL_one y hy _ (look_some e) (wayV_key he)])
theorem lookup_not {w : World} {b : Nat} (h : MapHas wayV w b waysL) {s i : Int} (hs : I64 s) (hi : I64 i) (e : look s i = none) :
    (Instr.lookup 127 (.map (some b)) (.agg #[.int .i64 s, .int .i64 i]) true).run Try.prog w = .ok (.tuple #[.agg #[.int .i64 0, .int .i64 0, .int .i64 0], .bool false]) w :=
  h.lacks keyLaw Try.underlying127 waysL_keys (by kernel_rfl) (key_at s i hs hi) (fun y hy he => look_none e y hy (by simpa [wayV] using he))

theorem nextS_some {s i : Int} (own : Bool) (hm : s ∈ statesL) (h0 : i ≠ 0) {h t o : Int} (hk : look s i = some (h, t, o)) : nextS s i own = if (h = 1 ∧ own = false) ∨ (h = 3 ∧ own = true) then (s, false) else if h = 2 ∧ own = false then (o, true) else (t, true) := by
  unfold nextS; rw [if_pos hm, if_neg h0, hk]

set_option maxRecDepth 100000 in
set_option maxHeartbeats 2000000 in
theorem next_some (s i : Int) (own : Bool) (w : World) (hs : I64 s) (hi : I64 i) (hm : s ∈ statesL) (h0 : i ≠ 0) (h t o : Int) (hk : look s i = some (h, t, o)) :
    Calls Try.prog 29 #[.int .i64 s, .int .i64 i, .bool own] w fun e w' => e = .returned (.tuple #[.int .i64 (nextS s i own).1, .bool (nextS s i own).2]) ∧ Below w.heap.size w w' := by
  have hb0 : Below w.heap.size w (w.alloc (.cells statesV 3)) := (Below.refl _ _).alloc (Nat.le_refl _) _
  have HI := Lib.hid (states_ints (HasB.new w statesV 3))
  have hd : decide (s ∈ statesL) = true := by simpa using hm
  have hb : (i == 0) = false := by simpa using h0
  obtain ⟨⟨h1, h2⟩, _, _⟩ := look_range hk
  have HR := Lib.hid (nextS_some own hm h0 hk)
  have HK := Lib.hid hk
  clear hm h0 hk
  have hcs : h = 0 ∨ h = 1 ∨ h = 2 ∨ h = 3 := by omega
  clear h1 h2
  rcases hcs with rfl | rfl | rfl | rfl <;> cases own
  · have hr : nextS s i false = (t, true) := by rw [HR.out]; simp
    rw [hr]
    clear hr HR
    go_enter Try.func29, Try.ntmps29
    go_wp2_with (first | (go_at_call 31; refine (states_any _).mono ?_; rintro e w1 ⟨rfl, rfl⟩) | (go_at_call 84; refine (contains_any _ _ _ statesL s _ HI.out (by omega)).mono ?_; rintro e w1 ⟨rfl, rfl⟩) | fail)
    refine (ways_any _).mono ?_
    rintro e w2 ⟨⟨rfl, hm2⟩, hb2⟩
    rw [show (w.alloc (.cells statesV 3)).heap.size = w.heap.size + 1 by simp] at hm2
    have hlk := lookup_has hm2 HK.out
    have hbw := hb0.trans (hb2.mono hb0.size)
    have hz2 := hbw.size
    clear hm2 hb2
    go_wp2
    go_ret2
    exact ⟨rfl, hbw.alloc hz2 _⟩
  · have hr : nextS s i true = (t, true) := by rw [HR.out]; simp
    rw [hr]
    clear hr HR
    go_enter Try.func29, Try.ntmps29
    go_wp2_with (first | (go_at_call 31; refine (states_any _).mono ?_; rintro e w1 ⟨rfl, rfl⟩) | (go_at_call 84; refine (contains_any _ _ _ statesL s _ HI.out (by omega)).mono ?_; rintro e w1 ⟨rfl, rfl⟩) | fail)
    refine (ways_any _).mono ?_
    rintro e w2 ⟨⟨rfl, hm2⟩, hb2⟩
    rw [show (w.alloc (.cells statesV 3)).heap.size = w.heap.size + 1 by simp] at hm2
    have hlk := lookup_has hm2 HK.out
    have hbw := hb0.trans (hb2.mono hb0.size)
    have hz2 := hbw.size
    clear hm2 hb2
    go_wp2
    go_ret2
    exact ⟨rfl, hbw.alloc hz2 _⟩
  · have hr : nextS s i false = (s, false) := by rw [HR.out]; simp
    rw [hr]
    clear hr HR
    go_enter Try.func29, Try.ntmps29
    go_wp2_with (first | (go_at_call 31; refine (states_any _).mono ?_; rintro e w1 ⟨rfl, rfl⟩) | (go_at_call 84; refine (contains_any _ _ _ statesL s _ HI.out (by omega)).mono ?_; rintro e w1 ⟨rfl, rfl⟩) | fail)
    refine (ways_any _).mono ?_
    rintro e w2 ⟨⟨rfl, hm2⟩, hb2⟩
    rw [show (w.alloc (.cells statesV 3)).heap.size = w.heap.size + 1 by simp] at hm2
    have hlk := lookup_has hm2 HK.out
    have hbw := hb0.trans (hb2.mono hb0.size)
    have hz2 := hbw.size
    clear hm2 hb2
    go_wp2
    go_ret2
    exact ⟨rfl, hbw.alloc hz2 _⟩
  · have hr : nextS s i true = (t, true) := by rw [HR.out]; simp
    rw [hr]
    clear hr HR
    go_enter Try.func29, Try.ntmps29
    go_wp2_with (first | (go_at_call 31; refine (states_any _).mono ?_; rintro e w1 ⟨rfl, rfl⟩) | (go_at_call 84; refine (contains_any _ _ _ statesL s _ HI.out (by omega)).mono ?_; rintro e w1 ⟨rfl, rfl⟩) | fail)
    refine (ways_any _).mono ?_
    rintro e w2 ⟨⟨rfl, hm2⟩, hb2⟩
    rw [show (w.alloc (.cells statesV 3)).heap.size = w.heap.size + 1 by simp] at hm2
    have hlk := lookup_has hm2 HK.out
    have hbw := hb0.trans (hb2.mono hb0.size)
    have hz2 := hbw.size
    clear hm2 hb2
    go_wp2
    go_ret2
    exact ⟨rfl, hbw.alloc hz2 _⟩
  · have hr : nextS s i false = (o, true) := by rw [HR.out]; simp
    rw [hr]
    clear hr HR
    go_enter Try.func29, Try.ntmps29
    go_wp2_with (first | (go_at_call 31; refine (states_any _).mono ?_; rintro e w1 ⟨rfl, rfl⟩) | (go_at_call 84; refine (contains_any _ _ _ statesL s _ HI.out (by omega)).mono ?_; rintro e w1 ⟨rfl, rfl⟩) | fail)
    refine (ways_any _).mono ?_
    rintro e w2 ⟨⟨rfl, hm2⟩, hb2⟩
    rw [show (w.alloc (.cells statesV 3)).heap.size = w.heap.size + 1 by simp] at hm2
    have hlk := lookup_has hm2 HK.out
    have hbw := hb0.trans (hb2.mono hb0.size)
    have hz2 := hbw.size
    clear hm2 hb2
    go_wp2
    go_ret2
    exact ⟨rfl, hbw.alloc hz2 _⟩
  · have hr : nextS s i true = (t, true) := by rw [HR.out]; simp
    rw [hr]
    clear hr HR
    go_enter Try.func29, Try.ntmps29
    go_wp2_with (first | (go_at_call 31; refine (states_any _).mono ?_; rintro e w1 ⟨rfl, rfl⟩) | (go_at_call 84; refine (contains_any _ _ _ statesL s _ HI.out (by omega)).mono ?_; rintro e w1 ⟨rfl, rfl⟩) | fail)
    refine (ways_any _).mono ?_
    rintro e w2 ⟨⟨rfl, hm2⟩, hb2⟩
    rw [show (w.alloc (.cells statesV 3)).heap.size = w.heap.size + 1 by simp] at hm2
    have hlk := lookup_has hm2 HK.out
    have hbw := hb0.trans (hb2.mono hb0.size)
    have hz2 := hbw.size
    clear hm2 hb2
    go_wp2
    go_ret2
    exact ⟨rfl, hbw.alloc hz2 _⟩
  · have hr : nextS s i false = (t, true) := by rw [HR.out]; simp
    rw [hr]
    clear hr HR
    go_enter Try.func29, Try.ntmps29
    go_wp2_with (first | (go_at_call 31; refine (states_any _).mono ?_; rintro e w1 ⟨rfl, rfl⟩) | (go_at_call 84; refine (contains_any _ _ _ statesL s _ HI.out (by omega)).mono ?_; rintro e w1 ⟨rfl, rfl⟩) | fail)
    refine (ways_any _).mono ?_
    rintro e w2 ⟨⟨rfl, hm2⟩, hb2⟩
    rw [show (w.alloc (.cells statesV 3)).heap.size = w.heap.size + 1 by simp] at hm2
    have hlk := lookup_has hm2 HK.out
    have hbw := hb0.trans (hb2.mono hb0.size)
    have hz2 := hbw.size
    clear hm2 hb2
    go_wp2
    go_ret2
    exact ⟨rfl, hbw.alloc hz2 _⟩
  · have hr : nextS s i true = (s, false) := by rw [HR.out]; simp
    rw [hr]
    clear hr HR
    go_enter Try.func29, Try.ntmps29
    go_wp2_with (first | (go_at_call 31; refine (states_any _).mono ?_; rintro e w1 ⟨rfl, rfl⟩) | (go_at_call 84; refine (contains_any _ _ _ statesL s _ HI.out (by omega)).mono ?_; rintro e w1 ⟨rfl, rfl⟩) | fail)
    refine (ways_any _).mono ?_
    rintro e w2 ⟨⟨rfl, hm2⟩, hb2⟩
    rw [show (w.alloc (.cells statesV 3)).heap.size = w.heap.size + 1 by simp] at hm2
    have hlk := lookup_has hm2 HK.out
    have hbw := hb0.trans (hb2.mono hb0.size)
    have hz2 := hbw.size
    clear hm2 hb2
    go_wp2
    go_ret2
    exact ⟨rfl, hbw.alloc hz2 _⟩

set_option maxRecDepth 100000 in
set_option maxHeartbeats 2000000 in
theorem next_any (s i : Int) (own : Bool) (w : World) (hs : I64 s) (hi : I64 i) :
    Calls Try.prog 29 #[.int .i64 s, .int .i64 i, .bool own] w fun e w' => e = .returned (.tuple #[.int .i64 (nextS s i own).1, .bool (nextS s i own).2]) ∧ Below w.heap.size w w' := by
  have hb0 : Below w.heap.size w (w.alloc (.cells statesV 3)) := (Below.refl _ _).alloc (Nat.le_refl _) _
  have HI := Lib.hid (states_ints (HasB.new w statesV 3))
  by_cases hm : s ∈ statesL
  · by_cases h0 : i = 0
    · have hd : decide (s ∈ statesL) = true := by simpa using hm
      have hr : nextS s i own = (0, true) := by unfold nextS; rw [if_pos hm, if_pos h0]
      rw [hr]
      subst h0
      clear hm hr
      go_enter Try.func29, Try.ntmps29
      go_wp2_with (first | (go_at_call 31; refine (states_any _).mono ?_; rintro e w1 ⟨rfl, rfl⟩) | (go_at_call 84; refine (contains_any _ _ _ statesL s _ HI.out (by omega)).mono ?_; rintro e w1 ⟨rfl, rfl⟩) | fail)
      go_ret2
      exact ⟨rfl, hb0⟩
    · cases hk : look s i with
      | none =>
        have hd : decide (s ∈ statesL) = true := by simpa using hm
        have hb : (i == 0) = false := by simpa using h0
        have hr : nextS s i own = (s, false) := by unfold nextS; rw [if_pos hm, if_neg h0, hk]
        rw [hr]
        have HK := Lib.hid hk
        clear hm h0 hr hk
        go_enter Try.func29, Try.ntmps29
        go_wp2_with (first | (go_at_call 31; refine (states_any _).mono ?_; rintro e w1 ⟨rfl, rfl⟩) | (go_at_call 84; refine (contains_any _ _ _ statesL s _ HI.out (by omega)).mono ?_; rintro e w1 ⟨rfl, rfl⟩) | fail)
        refine (ways_any _).mono ?_
        rintro e w2 ⟨⟨rfl, hm2⟩, hb2⟩
        rw [show (w.alloc (.cells statesV 3)).heap.size = w.heap.size + 1 by simp] at hm2
        have hlk := lookup_not hm2 hs hi HK.out
        have hbw := hb0.trans (hb2.mono hb0.size)
        have hz2 := hbw.size
        clear hm2 hb2
        go_wp2
        go_ret2
        exact ⟨rfl, hbw.alloc hz2 _⟩
      | some v => exact next_some s i own w hs hi hm h0 v.1 v.2.1 v.2.2 hk
  · have hd : decide (s ∈ statesL) = false := by simpa using hm
    have hr : nextS s i own = (s, false) := by unfold nextS; rw [if_neg hm]
    rw [hr]
    clear hm hr
    go_enter Try.func29, Try.ntmps29
    go_wp2_with (first | (go_at_call 31; refine (states_any _).mono ?_; rintro e w1 ⟨rfl, rfl⟩) | (go_at_call 84; refine (contains_any _ _ _ statesL s _ HI.out (by omega)).mono ?_; rintro e w1 ⟨rfl, rfl⟩) | fail)
    go_ret2
    exact ⟨rfl, hb0⟩

end Go.Proofs.Ytjjeopanffcbiaa
