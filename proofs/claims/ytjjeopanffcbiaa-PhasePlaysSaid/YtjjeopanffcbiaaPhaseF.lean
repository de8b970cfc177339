/- phase: what is known; PhaseNext. -/
import Derived.Test.YtjjeopanffcbiaaPhaseE
namespace Go.Proofs.Ytjjeopanffcbiaa
open Go Go.RowKit Go.Maps
set_option linter.unusedVariables false

theorem go_lit {s a l i arg : Int} {r : Int × Int × Int × Bool × Bool} (hr : goS s a l i arg = r) (g : Nat) (w : World) (hm : Mach w g s a l) (hs : I64 s) (hi : I64 i) (h0 : 0 ≤ arg) (h1 : arg < 4294967296) :
    Calls Try.prog 39 #[.pointer (some ⟨g, 0, none⟩), .int .i64 i, .int .u32 arg] w fun e w' => (e = .returned (.tuple #[.bool r.2.2.2.1, .bool r.2.2.2.2]) ∧ Mach w' g r.1 r.2.1 r.2.2.1) ∧ w.grownBy w' (some g) := by
  rw [← hr]
  exact go_any g s a l i arg w hm hs hi h0 h1
theorem legal_lit {s a l i arg : Int} {r : Bool} (hr : (nextS s i (ownB a arg)).2 = r) (g : Nat) (w : World) (hm : Mach w g s a l) (hs : I64 s) (hi : I64 i) (h0 : 0 ≤ arg) (h1 : arg < 4294967296) :
    Calls Try.prog 42 #[.pointer (some ⟨g, 0, none⟩), .int .i64 i, .int .u32 arg] w fun e w' => e = .returned (.bool r) ∧ Below w.heap.size w w' := by
  rw [← hr]
  exact legal_any g s a l i arg w hm hs hi h0 h1

set_option maxRecDepth 100000 in
set_option maxHeartbeats 4000000 in
theorem pknown_any (w : World) :
    Calls Try.prog 28 #[] w fun e w' => e = .returned (.bool true) ∧ Below w.heap.size w w' := by
  obtain ⟨g, hg⟩ : ∃ g, g = w.heap.size := ⟨_, rfl⟩
  have HG := Lib.hid hg
  go_enter Try.func28, Try.ntmps28
  go_wp2_with fail
  refine (new_any _).mono ?_
  rintro e w1 ⟨⟨rfl, hM⟩, hb⟩
  rw [← hg] at hM hb ⊢
  have hb' : Below g w w1 := hb
  clear hb hg
  have hs1 := hb'.size
  have HM1 := Lib.hid hM
  clear hM
  go_wp2_with fail
  refine (go_lit (r := (1, 0, 0, true, true)) (by decide) g _ HM1.out (by unfold I64; omega) (by unfold I64; omega) (by omega) (by omega)).mono ?_
  rintro e w2 ⟨⟨rfl, hM2⟩, hg2⟩
  have HM2 := Lib.hid hM2
  have HG2 := Lib.hid hg2
  clear hM2 hg2 HM1
  go_wp2_with fail
  refine (go_lit (r := (2, 0, 0, true, true)) (by decide) g _ HM2.out (by unfold I64; omega) (by unfold I64; omega) (by omega) (by omega)).mono ?_
  rintro e w3 ⟨⟨rfl, hM3⟩, hg3⟩
  have HM3 := Lib.hid hM3
  have HG3 := Lib.hid (gb_trans HG2.out hg3)
  clear hM3 hg3 HM2 HG2
  go_wp2_with fail
  refine (go_lit (r := (3, 7, 0, true, true)) (by decide) g _ HM3.out (by unfold I64; omega) (by unfold I64; omega) (by omega) (by omega)).mono ?_
  rintro e w4 ⟨⟨rfl, hM4⟩, hg4⟩
  have HM4 := Lib.hid hM4
  have HG4 := Lib.hid (gb_trans HG3.out hg4)
  clear hM4 hg4 HM3 HG3
  go_wp2_with fail
  refine (go_lit (r := (4, 7, 0, true, true)) (by decide) g _ HM4.out (by unfold I64; omega) (by unfold I64; omega) (by omega) (by omega)).mono ?_
  rintro e w5 ⟨⟨rfl, hM5⟩, hg5⟩
  have HM5 := Lib.hid hM5
  have HG5 := Lib.hid (gb_trans HG4.out hg5)
  clear hM5 hg5 HM4 HG4
  go_wp2_with (first | (go_at_call 40; refine (state_any g 4 7 0 _ HM5.out).mono ?_; rintro e w6 ⟨rfl, rfl⟩) | (go_at_call 43; refine (addr_any g 4 7 0 _ HM5.out).mono ?_; rintro e w6 ⟨rfl, rfl⟩) | fail)
  refine (legal_lit (s := 4) (a := 7) (l := 0) (r := false) (by decide) g _ HM5.out (by unfold I64; omega) (by unfold I64; omega) (by omega) (by omega)).mono ?_
  rintro e w6 ⟨rfl, hb6⟩
  have HB6 := Lib.hid hb6
  clear hb6
  go_wp2_with (go_at_call 31; refine (states_any _).mono ?_; rintro e w7 ⟨rfl, rfl⟩)
  go_ret
  obtain rfl := HG.out
  have hb1' := below_gb hb' HG5.out hs1 (Nat.le_refl _)
  have hb2' := hb1'.trans (HB6.out.mono hb1'.size)
  exact ⟨rfl, hb2'.alloc hb2'.size _⟩

theorem states_sorted : ∀ k, k < 5 → statesL.getD (k + 1) 0 > statesL.getD k 0 := by decide
/-- What the law says of all states. -/
theorem states_range (s : Int) : decide (s ∈ statesL) = ((decide (0 ≤ s) && decide (s ≤ 6)) && (s != 5)) := by
  rw [Bool.eq_iff_iff]
  simp [statesL]
  omega

set_option maxRecDepth 100000 in
set_option maxHeartbeats 4000000 in
theorem phaseNext_any (s i : Int) (own : Bool) (w : World) (hs : I64 s) (hi : I64 i) :
    Calls Try.prog 5 #[.int .i64 s, .int .i64 i, .bool own] w fun e w' => e = .returned (.bool true) ∧ Below w.heap.size w w' := by
  have hr := states_range s
  have HR := Lib.hid hr
  clear hr
  obtain ⟨x, hx⟩ : ∃ x, x = (nextS s i own).1 := ⟨_, rfl⟩
  obtain ⟨y, hy⟩ : ∃ y, y = (nextS s i own).2 := ⟨_, rfl⟩
  have HX := Lib.hid hx
  have HY := Lib.hid hy
  clear hx hy
  go_enter Try.func5, Try.ntmps5
  go_wp2_with fail
  refine (pknown_any _).mono ?_
  rintro e w1 ⟨rfl, hb1⟩
  have HB1 := Lib.hid hb1
  clear hb1
  go_wp2_with fail
  refine (next_any s i own _ hs hi).mono ?_
  rintro e w2 ⟨rfl, hb2⟩
  rw [← HX.out, ← HY.out]
  have HB2 := Lib.hid (HB1.out.trans (hb2.mono HB1.out.size))
  clear hb2
  go_wp2_with fail
  refine (rnext_any s i own _).mono ?_
  rintro e w3 ⟨rfl, rfl⟩
  rw [← HX.out, ← HY.out]
  go_wp2_with fail
  refine (states_any _).mono ?_
  rintro e w3 ⟨rfl, rfl⟩
  have hB := HasB.new w2 statesV 3
  have c0 := fun n : Nat => (show ((w2.alloc (.cells statesV 3)).drewN n).cell? ⟨w2.heap.size, 0, none⟩ = some (.int .i64 0) from hB.at 0)
  have c1 := fun n : Nat => (show ((w2.alloc (.cells statesV 3)).drewN n).cell? ⟨w2.heap.size, 1, none⟩ = some (.int .i64 1) from hB.at 1)
  have c2 := fun n : Nat => (show ((w2.alloc (.cells statesV 3)).drewN n).cell? ⟨w2.heap.size, 2, none⟩ = some (.int .i64 2) from hB.at 2)
  have c3 := fun n : Nat => (show ((w2.alloc (.cells statesV 3)).drewN n).cell? ⟨w2.heap.size, 3, none⟩ = some (.int .i64 3) from hB.at 3)
  have c4 := fun n : Nat => (show ((w2.alloc (.cells statesV 3)).drewN n).cell? ⟨w2.heap.size, 4, none⟩ = some (.int .i64 4) from hB.at 4)
  have c5 := fun n : Nat => (show ((w2.alloc (.cells statesV 3)).drewN n).cell? ⟨w2.heap.size, 5, none⟩ = some (.int .i64 6) from hB.at 5)
  have hbA : Below w.heap.size w (w2.alloc (.cells statesV 3)) := HB2.out.alloc HB2.out.size _
  have HBA := Lib.hid hbA
  clear hbA hB
  obtain ⟨wa, hwa⟩ : ∃ wa, wa = w2.alloc (.cells statesV 3) := ⟨_, rfl⟩
  rw [← hwa] at c0 c1 c2 c3 c4 c5 HBA ⊢
  obtain ⟨ga, hga⟩ : ∃ ga, ga = w2.heap.size := ⟨_, rfl⟩
  rw [← hga] at c0 c1 c2 c3 c4 c5 ⊢
  clear hwa hga
  go_wp2_with fail
  go_loopw [12, 13] (fun v i wr => ∃ (k n : Nat) (b : Bool), k ≤ 6 ∧ i = .int .i64 k ∧ v = .bool b ∧ wr = wa.drewN n ∧ Hid (b = decide (s ∈ statesL.take k))) (fun _ i _ => 6 - (intOf i).toNat)
  case atStart => exact ⟨0, 0, false, by omega, rfl, rfl, rfl, Lib.hid (by simp)⟩
  case round =>
    obtain ⟨k, n, b, hk, rfl, rfl, rfl, HB⟩ := hrel
    have hks : k = 0 ∨ k = 1 ∨ k = 2 ∨ k = 3 ∨ k = 4 ∨ k = 5 ∨ k = 6 := by omega
    clear hk
    rcases hks with rfl | rfl | rfl | rfl | rfl | rfl | rfl
    · cases b
      · by_cases e : s = 0
        · subst e
          go_wp2_with fail
          go_quiet (fail)
          go_wp2
          go_roundw
          case rel => exact ⟨1, _, true, by omega, rfl, rfl, rfl, Lib.hid (by decide)⟩
          case measure => simp [intOf]
        · have e1 : ((0 : Int) == s) = false := by simpa using fun h : (0 : Int) = s => e h.symm
          have HB' : Hid (false = decide (s ∈ statesL.take 1)) := Lib.hid (by have := HB.out; simp [statesL] at this ⊢; omega)
          clear HB e
          go_wp2_with fail
          go_quiet (fail)
          go_wp2
          go_roundw
          case rel => exact ⟨1, _, false, by omega, rfl, rfl, rfl, HB'⟩
          case measure => simp [intOf]
      · have HB' : Hid (true = decide (s ∈ statesL.take 1)) := Lib.hid (by have := HB.out; simp [statesL] at this ⊢ <;> omega)
        clear HB
        go_wp2_with fail
        go_quiet (fail)
        go_wp2
        go_roundw
        case rel => exact ⟨1, _, true, by omega, rfl, rfl, rfl, HB'⟩
        case measure => simp [intOf]
    · cases b
      · by_cases e : s = 1
        · subst e
          go_wp2_with fail
          go_quiet (fail)
          go_wp2
          go_roundw
          case rel => exact ⟨2, _, true, by omega, rfl, rfl, rfl, Lib.hid (by decide)⟩
          case measure => simp [intOf]
        · have e1 : ((1 : Int) == s) = false := by simpa using fun h : (1 : Int) = s => e h.symm
          have HB' : Hid (false = decide (s ∈ statesL.take 2)) := Lib.hid (by have := HB.out; simp [statesL] at this ⊢; omega)
          clear HB e
          go_wp2_with fail
          go_quiet (fail)
          go_wp2
          go_roundw
          case rel => exact ⟨2, _, false, by omega, rfl, rfl, rfl, HB'⟩
          case measure => simp [intOf]
      · have HB' : Hid (true = decide (s ∈ statesL.take 2)) := Lib.hid (by have := HB.out; simp [statesL] at this ⊢ <;> omega)
        clear HB
        go_wp2_with fail
        go_quiet (fail)
        go_wp2
        go_roundw
        case rel => exact ⟨2, _, true, by omega, rfl, rfl, rfl, HB'⟩
        case measure => simp [intOf]
    · cases b
      · by_cases e : s = 2
        · subst e
          go_wp2_with fail
          go_quiet (fail)
          go_wp2
          go_roundw
          case rel => exact ⟨3, _, true, by omega, rfl, rfl, rfl, Lib.hid (by decide)⟩
          case measure => simp [intOf]
        · have e1 : ((2 : Int) == s) = false := by simpa using fun h : (2 : Int) = s => e h.symm
          have HB' : Hid (false = decide (s ∈ statesL.take 3)) := Lib.hid (by have := HB.out; simp [statesL] at this ⊢; omega)
          clear HB e
          go_wp2_with fail
          go_quiet (fail)
          go_wp2
          go_roundw
          case rel => exact ⟨3, _, false, by omega, rfl, rfl, rfl, HB'⟩
          case measure => simp [intOf]
      · have HB' : Hid (true = decide (s ∈ statesL.take 3)) := Lib.hid (by have := HB.out; simp [statesL] at this ⊢ <;> omega)
        clear HB
        go_wp2_with fail
        go_quiet (fail)
        go_wp2
        go_roundw
        case rel => exact ⟨3, _, true, by omega, rfl, rfl, rfl, HB'⟩
        case measure => simp [intOf]
    · cases b
      · by_cases e : s = 3
        · subst e
          go_wp2_with fail
          go_quiet (fail)
          go_wp2
          go_roundw
          case rel => exact ⟨4, _, true, by omega, rfl, rfl, rfl, Lib.hid (by decide)⟩
          case measure => simp [intOf]
        · have e1 : ((3 : Int) == s) = false := by simpa using fun h : (3 : Int) = s => e h.symm
          have HB' : Hid (false = decide (s ∈ statesL.take 4)) := Lib.hid (by have := HB.out; simp [statesL] at this ⊢; omega)
          clear HB e
          go_wp2_with fail
          go_quiet (fail)
          go_wp2
          go_roundw
          case rel => exact ⟨4, _, false, by omega, rfl, rfl, rfl, HB'⟩
          case measure => simp [intOf]
      · have HB' : Hid (true = decide (s ∈ statesL.take 4)) := Lib.hid (by have := HB.out; simp [statesL] at this ⊢ <;> omega)
        clear HB
        go_wp2_with fail
        go_quiet (fail)
        go_wp2
        go_roundw
        case rel => exact ⟨4, _, true, by omega, rfl, rfl, rfl, HB'⟩
        case measure => simp [intOf]
    · cases b
      · by_cases e : s = 4
        · subst e
          go_wp2_with fail
          go_quiet (fail)
          go_wp2
          go_roundw
          case rel => exact ⟨5, _, true, by omega, rfl, rfl, rfl, Lib.hid (by decide)⟩
          case measure => simp [intOf]
        · have e1 : ((4 : Int) == s) = false := by simpa using fun h : (4 : Int) = s => e h.symm
          have HB' : Hid (false = decide (s ∈ statesL.take 5)) := Lib.hid (by have := HB.out; simp [statesL] at this ⊢; omega)
          clear HB e
          go_wp2_with fail
          go_quiet (fail)
          go_wp2
          go_roundw
          case rel => exact ⟨5, _, false, by omega, rfl, rfl, rfl, HB'⟩
          case measure => simp [intOf]
      · have HB' : Hid (true = decide (s ∈ statesL.take 5)) := Lib.hid (by have := HB.out; simp [statesL] at this ⊢ <;> omega)
        clear HB
        go_wp2_with fail
        go_quiet (fail)
        go_wp2
        go_roundw
        case rel => exact ⟨5, _, true, by omega, rfl, rfl, rfl, HB'⟩
        case measure => simp [intOf]
    · cases b
      · by_cases e : s = 6
        · subst e
          go_wp2_with fail
          go_quiet (fail)
          go_wp2
          go_roundw
          case rel => exact ⟨6, _, true, by omega, rfl, rfl, rfl, Lib.hid (by decide)⟩
          case measure => simp [intOf]
        · have e1 : ((6 : Int) == s) = false := by simpa using fun h : (6 : Int) = s => e h.symm
          have HB' : Hid (false = decide (s ∈ statesL.take 6)) := Lib.hid (by have := HB.out; simp [statesL] at this ⊢; omega)
          clear HB e
          go_wp2_with fail
          go_quiet (fail)
          go_wp2
          go_roundw
          case rel => exact ⟨6, _, false, by omega, rfl, rfl, rfl, HB'⟩
          case measure => simp [intOf]
      · have HB' : Hid (true = decide (s ∈ statesL.take 6)) := Lib.hid (by have := HB.out; simp [statesL] at this ⊢ <;> omega)
        clear HB
        go_wp2_with fail
        go_quiet (fail)
        go_wp2
        go_roundw
        case rel => exact ⟨6, _, true, by omega, rfl, rfl, rfl, HB'⟩
        case measure => simp [intOf]
    · have hb : b = ((decide (0 ≤ s) && decide (s ≤ 6)) && (s != 5)) := by rw [HB.out, ← HR.out]; rfl
      have HE := HBA.out
      clear HB
      by_cases h0 : 0 ≤ s
      · by_cases h6 : s ≤ 6
        · have d0 : decide (0 ≤ s) = true := by simpa using h0
          have d6 : decide (s ≤ 6) = true := by simpa using h6
          rw [d0, d6] at hb
          by_cases h5 : s = 5
          · subst h5
            simp at hb
            subst hb
            clear HE
            go_wp2
            go_ret
            exact ⟨rfl, below_drewN' HBA.out _⟩
          · have b5 : (s != 5) = true := by simpa using h5
            rw [b5] at hb
            simp at hb
            subst hb
            clear HE h5
            go_wp2
            go_ret
            exact ⟨rfl, below_drewN' HBA.out _⟩
        · have d0 : decide (0 ≤ s) = true := by simpa using h0
          have d6 : decide (s ≤ 6) = false := by simpa using h6
          rw [d0, d6] at hb
          simp at hb
          subst hb
          clear HE
          go_wp2
          go_ret
          exact ⟨rfl, below_drewN' HBA.out _⟩
      · have d0 : decide (0 ≤ s) = false := by simpa using h0
        rw [d0] at hb
        simp at hb
        subst hb
        clear HE
        go_wp2
        go_ret
        exact ⟨rfl, below_drewN' HBA.out _⟩

end Go.Proofs.Ytjjeopanffcbiaa
