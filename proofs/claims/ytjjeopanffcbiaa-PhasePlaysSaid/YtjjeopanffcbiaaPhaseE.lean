/- phase: the machine. -/
import Derived.Test.YtjjeopanffcbiaaPhaseD
import Derived.Test.YtjjeopanffcbiaaMut
import Derived.Outline
namespace Go.Proofs.Ytjjeopanffcbiaa
open Go Go.RowKit Go.Maps
set_option linter.unusedVariables false

/-- The machine's block: state, address, blocks left. -/
abbrev Mach (w : World) (g : Nat) (s a l : Int) : Prop := HasB w g #[.int .i64 s, .int .u16 a, .int .i64 l] 139
abbrev RMach (w : World) (g : Nat) (s l a : Int) : Prop := HasB w g #[.int .i64 s, .int .i64 l, .int .u16 a] 101
def ownB (a arg : Int) : Bool := arg / 65536 == a

theorem own_any (g : Nat) (s a l arg : Int) (w : World) (hm : Mach w g s a l) (h0 : 0 ≤ arg) (h1 : arg < 4294967296) :
    Calls Try.prog 96 #[.pointer (some ⟨g, 0, none⟩), .int .u32 arg] w fun e w' => e = .returned (.bool (ownB a arg)) ∧ w = w' := by
  obtain ⟨hg, c0, c1, c2⟩ := hm.three
  clear hm
  go_enter Try.func96, Try.ntmps96
  go_wp2
  go_ret
  exact ⟨rfl, rfl⟩
theorem reset_any (g : Nat) (s a l : Int) (w : World) (hm : Mach w g s a l) :
    Calls Try.prog 68 #[.pointer (some ⟨g, 0, none⟩)] w fun e w' => e = .returned (.tuple #[]) ∧ Mach w' g 0 0 0 ∧ w.grownBy w' (some g) := by
  obtain ⟨hg, c0, c1, c2⟩ := hm.three
  have f0 := hm.free 0
  have f1 := hm.free 1
  have f2 := hm.free 2
  go_enter Try.func68, Try.ntmps68
  go_wp2
  go_end0
  exact ⟨rfl, ((hm.set 0 (.int .i64 0)).set 1 (.int .u16 0)).set 2 (.int .i64 0), gb_set (gb_set (gb_set (gb_refl _ _) _ _) _ _) _ _⟩
theorem to_any (g : Nat) (s a l t : Int) (w : World) (hm : Mach w g s a l) :
    Calls Try.prog 97 #[.pointer (some ⟨g, 0, none⟩), .int .i64 t] w fun e w' => e = .returned (.tuple #[]) ∧ Mach w' g t a (if s = t then l else if t = 6 then 1 else 0) ∧ w.grownBy w' (some g) := by
  obtain ⟨hg, c0, c1, c2⟩ := hm.three
  have f0 := hm.free 0
  have f1 := hm.free 1
  have f2 := hm.free 2
  by_cases h : s = t
  · subst h
    rw [if_pos rfl]
    go_enter Try.func97, Try.ntmps97
    go_wp2
    go_end0
    exact ⟨rfl, by have := hm.set 0 (.int .i64 s); exact this, gb_set (gb_refl _ _) _ _⟩
  · rw [if_neg h]
    have hb : (s != t) = true := by simpa using h
    by_cases h6 : t = 6
    · rw [if_pos h6]
      have hb6 : (t == 6) = true := by simpa using h6
      clear h h6
      go_enter Try.func97, Try.ntmps97
      go_wp2
      go_end0
      exact ⟨rfl, ((hm.set 2 (.int .i64 0)).set 2 (.int .i64 1)).set 0 (.int .i64 t), gb_set (gb_set (gb_set (gb_refl _ _) _ _) _ _) _ _⟩
    · rw [if_neg h6]
      have hb6 : (t == 6) = false := by simpa using h6
      clear h h6
      go_enter Try.func97, Try.ntmps97
      go_wp2
      go_end0
      exact ⟨rfl, (hm.set 2 (.int .i64 0)).set 0 (.int .i64 t), gb_set (gb_set (gb_refl _ _) _ _) _ _⟩

theorem new_any (w : World) :
    Calls Try.prog 38 #[] w fun e w' => (e = .returned (.pointer (some ⟨w.heap.size, 0, none⟩)) ∧ Mach w' w.heap.size 0 0 0) ∧ Below w.heap.size w w' := by
  have hB := HasB.new w #[.int .i64 0, .int .u16 0, .int .i64 0] 139
  have HB := Lib.hid hB
  clear hB
  go_enter Try.func38, Try.ntmps38
  go_wp2_with (go_at_call 68; refine (reset_any w.heap.size 0 0 0 _ HB.out).mono ?_; rintro e w1 ⟨rfl, hm1, hg1⟩)
  go_ret
  exact ⟨⟨rfl, hm1⟩, below_gb ((Below.refl _ _).alloc (Nat.le_refl _) _) hg1 (by simp) (Nat.le_refl _)⟩

theorem state_any (g : Nat) (s a l : Int) (w : World) (hm : Mach w g s a l) :
    Calls Try.prog 40 #[.pointer (some ⟨g, 0, none⟩)] w fun e w' => e = .returned (.int .i64 s) ∧ w = w' := by
  obtain ⟨hg, c0, c1, c2⟩ := hm.three
  clear hm
  go_enter Try.func40, Try.ntmps40
  go_wp2
  go_ret
  exact ⟨rfl, rfl⟩
theorem addr_any (g : Nat) (s a l : Int) (w : World) (hm : Mach w g s a l) :
    Calls Try.prog 43 #[.pointer (some ⟨g, 0, none⟩)] w fun e w' => e = .returned (.int .u16 a) ∧ w = w' := by
  obtain ⟨hg, c0, c1, c2⟩ := hm.three
  clear hm
  go_enter Try.func43, Try.ntmps43
  go_wp2
  go_ret
  exact ⟨rfl, rfl⟩
theorem left_any (g : Nat) (s a l : Int) (w : World) (hm : Mach w g s a l) :
    Calls Try.prog 41 #[.pointer (some ⟨g, 0, none⟩)] w fun e w' => e = .returned (.int .i64 l) ∧ w = w' := by
  obtain ⟨hg, c0, c1, c2⟩ := hm.three
  clear hm
  go_enter Try.func41, Try.ntmps41
  go_wp2
  go_ret
  exact ⟨rfl, rfl⟩

theorem legal_any (g : Nat) (s a l i arg : Int) (w : World) (hm : Mach w g s a l) (hs : I64 s) (hi : I64 i) (h0 : 0 ≤ arg) (h1 : arg < 4294967296) :
    Calls Try.prog 42 #[.pointer (some ⟨g, 0, none⟩), .int .i64 i, .int .u32 arg] w fun e w' => e = .returned (.bool (nextS s i (ownB a arg)).2) ∧ Below w.heap.size w w' := by
  obtain ⟨hg, c0, c1, c2⟩ := hm.three
  have HM := Lib.hid hm
  clear hm
  go_enter Try.func42, Try.ntmps42
  go_wp2_with fail
  go_region_with (first | (go_at_call 96; refine (own_any g s a l arg _ HM.out.drew h0 h1).mono ?_; rintro e w' ⟨rfl, rfl⟩) | (go_at_call 29; refine (next_any s i _ _ hs hi).mono ?_; rintro e w' ⟨rfl, hb⟩))
  all_goals
    go_wp2
    go_ret
    exact ⟨rfl, (Below.refl _ _).drew.trans hb⟩

/-- What Go does: state, address, left; whether it is answered, whether had. -/
def goS (s a l i arg : Int) : Int × Int × Int × Bool × Bool :=
  if (nextS s i (ownB a arg)).2 = true then
    ((nextS s i (ownB a arg)).1, if i = 3 then arg / 65536 else a, if s = (nextS s i (ownB a arg)).1 then l else if (nextS s i (ownB a arg)).1 = 6 then 1 else 0, (i != 0) && ((i != 7) || ownB a arg), true)
  else (s, a, l, false, false)

set_option maxRecDepth 100000 in
set_option maxHeartbeats 2000000 in
theorem go_any (g : Nat) (s a l i arg : Int) (w : World) (hm : Mach w g s a l) (hs : I64 s) (hi : I64 i) (h0 : 0 ≤ arg) (h1 : arg < 4294967296) :
    Calls Try.prog 39 #[.pointer (some ⟨g, 0, none⟩), .int .i64 i, .int .u32 arg] w fun e w' => (e = .returned (.tuple #[.bool (goS s a l i arg).2.2.2.1, .bool (goS s a l i arg).2.2.2.2]) ∧ Mach w' g (goS s a l i arg).1 (goS s a l i arg).2.1 (goS s a l i arg).2.2.1) ∧ w.grownBy w' (some g) := by
  obtain ⟨hg, c0, c1, c2⟩ := hm.three
  have HM := Lib.hid hm
  have hn := next_any s i (ownB a arg)
  have HG : Hid (goS s a l i arg = goS s a l i arg) := Lib.hid rfl
  obtain ⟨G, hG⟩ : ∃ G, G = goS s a l i arg := ⟨_, rfl⟩
  rw [← hG]
  unfold goS at hG
  obtain ⟨own, hown⟩ : ∃ own, own = ownB a arg := ⟨_, rfl⟩
  rw [← hown] at hG hn
  have HOwn := Lib.hid hown
  obtain ⟨N, hN⟩ : ∃ N, N = nextS s i own := ⟨_, rfl⟩
  simp only [← hN] at hG hn
  clear hN hown
  obtain ⟨n, ok⟩ := N
  have HN := Lib.hid hn
  clear hn hm
  cases ok
  · simp at hG
    subst hG
    go_enter Try.func39, Try.ntmps39
    go_wp2_with (first | (go_at_call 96; refine (own_any g s a l arg _ HM.out h0 h1).mono ?_; rintro e w1 ⟨rfl, rfl⟩; rw [← HOwn.out]) | fail)
    refine (HN.out _ hs hi).mono ?_
    rintro e w1 ⟨rfl, hb⟩
    have hM1 := HM.out.below hb hg
    have hs1 := hb.size
    go_wp2
    go_ret2
    exact ⟨⟨rfl, hM1⟩, gb_below hb⟩
  · simp only [if_true] at hG
    obtain ⟨L, hL⟩ : ∃ L, L = (if s = n then l else if n = 6 then 1 else 0) := ⟨_, rfl⟩
    rw [← hL] at hG
    have HL := Lib.hid hL
    clear hL
    by_cases i3 : i = 3
    · subst i3
      rw [if_pos rfl] at hG
      subst hG
      have ht : arg / 65536 % 65536 = arg / 65536 := by omega
      go_enter Try.func39, Try.ntmps39
      go_wp2_with (first | (go_at_call 96; refine (own_any g s a l arg _ HM.out h0 h1).mono ?_; rintro e w1 ⟨rfl, rfl⟩; rw [← HOwn.out]) | fail)
      refine (HN.out _ hs hi).mono ?_
      rintro e w1 ⟨rfl, hb⟩
      have hM1 := HM.out.below hb hg
      have hs1 := hb.size
      have HB := Lib.hid hb
      clear hb
      go_wp2_with fail
      refine (to_any g s a l n _ hM1).mono ?_
      rintro e w2 ⟨rfl, hM2, hg2⟩
      rw [← HL.out] at hM2
      obtain ⟨hg2', d0, d1, d2⟩ := hM2.three
      have e1 := hM2.free 1
      have HM2 := Lib.hid hM2
      clear hM1 hM2
      go_wp2
      go_ret2
      exact ⟨⟨rfl, HM2.out.set 1 (.int .u16 (arg / 65536))⟩, gb_set (gb_trans (gb_below HB.out) hg2) _ _⟩
    · have b3 : (i == 3) = false := by simpa using i3
      rw [if_neg i3] at hG
      by_cases i0 : i = 0
      · subst i0
        subst hG
        clear i3
        go_enter Try.func39, Try.ntmps39
        go_wp2_with (first | (go_at_call 96; refine (own_any g s a l arg _ HM.out h0 h1).mono ?_; rintro e w1 ⟨rfl, rfl⟩; rw [← HOwn.out]) | fail)
        refine (HN.out _ hs hi).mono ?_
        rintro e w1 ⟨rfl, hb⟩
        have hM1 := HM.out.below hb hg
        have hs1 := hb.size
        have HB := Lib.hid hb
        clear hb
        go_wp2_with fail
        refine (to_any g s a l n _ hM1).mono ?_
        rintro e w2 ⟨rfl, hM2, hg2⟩
        rw [← HL.out] at hM2
        obtain ⟨hg2', d0, d1, d2⟩ := hM2.three
        have e1 := hM2.free 1
        have HM2 := Lib.hid hM2
        clear hM1 hM2
        go_wp2
        go_ret2
        exact ⟨⟨rfl, HM2.out⟩, gb_trans (gb_below HB.out) hg2⟩
      · have b0 : (i != 0) = true := by simpa using i0
        by_cases i7 : i = 7
        · subst i7
          cases own <;> subst hG
          · clear i3 i0
            go_enter Try.func39, Try.ntmps39
            go_wp2_with (first | (go_at_call 96; refine (own_any g s a l arg _ HM.out h0 h1).mono ?_; rintro e w1 ⟨rfl, rfl⟩; rw [← HOwn.out]) | fail)
            refine (HN.out _ hs hi).mono ?_
            rintro e w1 ⟨rfl, hb⟩
            have hM1 := HM.out.below hb hg
            have hs1 := hb.size
            have HB := Lib.hid hb
            clear hb
            go_wp2_with fail
            refine (to_any g s a l n _ hM1).mono ?_
            rintro e w2 ⟨rfl, hM2, hg2⟩
            rw [← HL.out] at hM2
            obtain ⟨hg2', d0, d1, d2⟩ := hM2.three
            have e1 := hM2.free 1
            have HM2 := Lib.hid hM2
            clear hM1 hM2
            go_wp2
            go_ret2
            exact ⟨⟨rfl, HM2.out⟩, gb_trans (gb_below HB.out) hg2⟩
          · clear i3 i0
            go_enter Try.func39, Try.ntmps39
            go_wp2_with (first | (go_at_call 96; refine (own_any g s a l arg _ HM.out h0 h1).mono ?_; rintro e w1 ⟨rfl, rfl⟩; rw [← HOwn.out]) | fail)
            refine (HN.out _ hs hi).mono ?_
            rintro e w1 ⟨rfl, hb⟩
            have hM1 := HM.out.below hb hg
            have hs1 := hb.size
            have HB := Lib.hid hb
            clear hb
            go_wp2_with fail
            refine (to_any g s a l n _ hM1).mono ?_
            rintro e w2 ⟨rfl, hM2, hg2⟩
            rw [← HL.out] at hM2
            obtain ⟨hg2', d0, d1, d2⟩ := hM2.three
            have e1 := hM2.free 1
            have HM2 := Lib.hid hM2
            clear hM1 hM2
            go_wp2
            go_ret2
            exact ⟨⟨rfl, HM2.out⟩, gb_trans (gb_below HB.out) hg2⟩
        · have b7 : (i != 7) = true := by simpa using i7
          rw [b0, b7] at hG
          subst hG
          clear i3 i0 i7
          go_enter Try.func39, Try.ntmps39
          go_wp2_with (first | (go_at_call 96; refine (own_any g s a l arg _ HM.out h0 h1).mono ?_; rintro e w1 ⟨rfl, rfl⟩; rw [← HOwn.out]) | fail)
          refine (HN.out _ hs hi).mono ?_
          rintro e w1 ⟨rfl, hb⟩
          have hM1 := HM.out.below hb hg
          have hs1 := hb.size
          have HB := Lib.hid hb
          clear hb
          go_wp2_with fail
          refine (to_any g s a l n _ hM1).mono ?_
          rintro e w2 ⟨rfl, hM2, hg2⟩
          rw [← HL.out] at hM2
          obtain ⟨hg2', d0, d1, d2⟩ := hM2.three
          have e1 := hM2.free 1
          have HM2 := Lib.hid hM2
          clear hM1 hM2
          go_wp2
          go_ret2
          exact ⟨⟨rfl, HM2.out⟩, gb_trans (gb_below HB.out) hg2⟩

end Go.Proofs.Ytjjeopanffcbiaa
