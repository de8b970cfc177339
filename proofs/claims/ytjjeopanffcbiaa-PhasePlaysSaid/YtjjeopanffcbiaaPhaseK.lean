/- PhaseWaits. -/
import Derived.Test.YtjjeopanffcbiaaPhaseJ
namespace Go.Proofs.Ytjjeopanffcbiaa
open Go Go.RowKit Go.Maps
set_option linter.unusedVariables false

theorem recv_lit {s l n r : Int} (hr : recvS s l n = r) (g : Nat) (a : Int) (w : World) (hm : Mach w g s a l) :
    Calls Try.prog 64 #[.pointer (some ⟨g, 0, none⟩), .int .i64 n] w fun e w' => (e = .returned (.tuple #[]) ∧ Mach w' g s a r) ∧ w.grownBy w' (some g) := by
  rw [← hr]; exact receive_any g s a l n w hm
theorem got_lit {s l : Int} {r : Int × Int × Bool} (hr : gotS s l = r) (g : Nat) (a : Int) (w : World) (hm : Mach w g s a l) (h0 : -1000 ≤ l) (h1 : l ≤ 1000) :
    Calls Try.prog 66 #[.pointer (some ⟨g, 0, none⟩)] w fun e w' => (e = .returned (.bool r.2.2) ∧ Mach w' g r.1 a r.2.1) ∧ w.grownBy w' (some g) := by
  rw [← hr]; exact got_any g s a l w hm h0 h1

theorem clampS_range (n : Int) : 1 ≤ clampS n ∧ clampS n ≤ 64 := by unfold clampS; split <;> (try split) <;> omega

set_option maxRecDepth 100000 in
set_option maxHeartbeats 8000000 in
theorem waits_walk (n m : Int) (W : World) (h0 : 0 ≤ m) (h1 : m ≤ 200) :
    Calls Try.prog 11 #[.int .i64 n, .int .i64 m] W fun e w' => e = .returned (.bool true) ∧ Below W.heap.size W w' := by
  obtain ⟨N, hN⟩ : ∃ N, N = clampS n := ⟨_, rfl⟩
  have hNr := clampS_range n
  rw [← hN] at hNr
  obtain ⟨hN1, hN2⟩ := hNr
  have HN := Lib.hid hN
  clear hN
  go_enter Try.func11, Try.ntmps11
  go_wp2_with fail
  refine (pknown_any _).mono ?_
  rintro e w1 ⟨rfl, hb1⟩
  have hs1 := hb1.size
  have HB1 := Lib.hid hb1
  clear hb1
  go_wp2_with fail
  refine (new_any _).mono ?_
  rintro e w2 ⟨⟨rfl, hM2⟩, hb2⟩
  obtain ⟨g, hg⟩ : ∃ g, g = w1.heap.size := ⟨_, rfl⟩
  have HB2 := Lib.hid (HB1.out.trans (hb2.mono hs1))
  rw [← hg] at hM2 ⊢
  have hgW : W.heap.size ≤ g := by omega
  have HM2 := Lib.hid hM2
  clear hM2 hb2 hs1 HB1 hg
  go_wp2_with fail
  refine (recv_lit (r := 0) (by decide) g 0 _ HM2.out).mono ?_
  rintro e w3 ⟨⟨rfl, hM3⟩, hg3⟩
  have HM3 := Lib.hid hM3
  have HB3 := Lib.hid (below_gb HB2.out hg3 HB2.out.size hgW)
  clear hM3 hg3 HM2 HB2
  go_wp2_with (first | (go_at_call 41; refine (left_any g 0 0 0 _ HM3.out).mono ?_; rintro e w6 ⟨rfl, rfl⟩) | fail)
  refine (got_lit (r := (0, 0, false)) (by decide) g 0 _ HM3.out (by omega) (by omega)).mono ?_
  rintro e wi ⟨⟨rfl, hM4⟩, hg4⟩
  have HM := Lib.hid hM4
  have HB := Lib.hid (below_gb HB3.out hg4 HB3.out.size hgW)
  clear hM4 hg4 HM3 HB3
  have hmlt := HM.out.lt
  have hB0 := HasB.new wi #[.int .i64 1, .int .i64 2, .int .i64 3, .int .i64 7, .int .i64 25] 3
  have hM0 := HM.out.alloc (.cells #[.int .i64 1, .int .i64 2, .int .i64 3, .int .i64 7, .int .i64 25] 3)
  have hW0 := HB.out.alloc HB.out.size (.cells #[.int .i64 1, .int .i64 2, .int .i64 3, .int .i64 7, .int .i64 25] 3)
  have hne : some wi.heap.size ≠ some g := fun e => by
    have := Option.some.inj e
    omega
  have HNE := Lib.hid hne
  have HB0 := Lib.hid hB0
  have HM0 : Hid (Mach (wi.alloc (.cells #[.int .i64 1, .int .i64 2, .int .i64 3, .int .i64 7, .int .i64 25] 3)) g 0 0 0) := Lib.hid hM0
  have HW0 := Lib.hid hW0
  clear hB0 hM0 hW0 hne HM HB
  go_wp2_with fail
  refine wp_loop_rounds 6 ?_
  rw [rounds_succ]
  go_wp2_with fail
  refine (go_lit (r := (1, 0, 0, true, true)) (by decide) g _ HM0.out (by unfold I64; omega) (by unfold I64; omega) (by omega) (by omega)).mono ?_
  rintro e v1 ⟨⟨rfl, hMn⟩, hgn⟩
  have HM1 := Lib.hid hMn
  have HB1 := Lib.hid (HB0.out.kept hgn HNE.out)
  have HW1 := Lib.hid (below_gb HW0.out hgn HW0.out.size hgW)
  clear hMn hgn HM0 HB0 HW0
  have hc : v1.cell? ⟨wi.heap.size, 1, none⟩ = some (.int .i64 2) := HB1.out.at 1
  go_wp2_with fail
  rw [rounds_succ]
  go_wp2_with fail
  clear hc
  refine (go_lit (r := (2, 0, 0, true, true)) (by decide) g _ HM1.out (by unfold I64; omega) (by unfold I64; omega) (by omega) (by omega)).mono ?_
  rintro e v2 ⟨⟨rfl, hMn⟩, hgn⟩
  have HM2 := Lib.hid hMn
  have HB2 := Lib.hid (HB1.out.kept hgn HNE.out)
  have HW2 := Lib.hid (below_gb HW1.out hgn HW1.out.size hgW)
  clear hMn hgn HM1 HB1 HW1
  have hc : v2.cell? ⟨wi.heap.size, 2, none⟩ = some (.int .i64 3) := HB2.out.at 2
  go_wp2_with fail
  rw [rounds_succ]
  go_wp2_with fail
  clear hc
  refine (go_lit (r := (3, 0, 0, true, true)) (by decide) g _ HM2.out (by unfold I64; omega) (by unfold I64; omega) (by omega) (by omega)).mono ?_
  rintro e v3 ⟨⟨rfl, hMn⟩, hgn⟩
  have HM3 := Lib.hid hMn
  have HB3 := Lib.hid (HB2.out.kept hgn HNE.out)
  have HW3 := Lib.hid (below_gb HW2.out hgn HW2.out.size hgW)
  clear hMn hgn HM2 HB2 HW2
  have hc : v3.cell? ⟨wi.heap.size, 3, none⟩ = some (.int .i64 7) := HB3.out.at 3
  go_wp2_with fail
  rw [rounds_succ]
  go_wp2_with fail
  clear hc
  refine (go_lit (r := (4, 0, 0, true, true)) (by decide) g _ HM3.out (by unfold I64; omega) (by unfold I64; omega) (by omega) (by omega)).mono ?_
  rintro e v4 ⟨⟨rfl, hMn⟩, hgn⟩
  have HM4 := Lib.hid hMn
  have HB4 := Lib.hid (HB3.out.kept hgn HNE.out)
  have HW4 := Lib.hid (below_gb HW3.out hgn HW3.out.size hgW)
  clear hMn hgn HM3 HB3 HW3
  have hc : v4.cell? ⟨wi.heap.size, 4, none⟩ = some (.int .i64 25) := HB4.out.at 4
  go_wp2_with fail
  rw [rounds_succ]
  go_wp2_with fail
  clear hc
  refine (go_lit (r := (6, 0, 1, true, true)) (by decide) g _ HM4.out (by unfold I64; omega) (by unfold I64; omega) (by omega) (by omega)).mono ?_
  rintro e v5 ⟨⟨rfl, hMn⟩, hgn⟩
  have HM5 := Lib.hid hMn
  have HB5 := Lib.hid (HB4.out.kept hgn HNE.out)
  have HW5 := Lib.hid (below_gb HW4.out hgn HW4.out.size hgW)
  clear hMn hgn HM4 HB4 HW4
  go_wp2_with fail
  rw [rounds_succ]
  go_wp2_with (first | (go_at_call 40; refine (state_any g 6 0 1 _ HM5.out).mono ?_; rintro e w6 ⟨rfl, rfl⟩) | (go_at_call 41; refine (left_any g 6 0 1 _ HM5.out).mono ?_; rintro e w6 ⟨rfl, rfl⟩) | fail)
  refine (recv_lit (r := N) (by rw [HN.out]; rfl) g 0 _ HM5.out).mono ?_
  rintro e w6 ⟨⟨rfl, hM6⟩, hg6⟩
  have HM6 := Lib.hid hM6
  have HB6 := Lib.hid (below_gb HW5.out hg6 HW5.out.size hgW)
  clear hM6 hg6 HM5 HW5 HB5
  have hcs : n < 1 ∨ 64 < n ∨ (1 ≤ n ∧ n ≤ 64) := by omega
  rcases hcs with c1 | c1 | ⟨c1, c2⟩
  · have e1 : N = 1 := by rw [HN.out]; simp [clampS, c1]
    subst e1
    go_wp2_with fail
    go_loopw [11] (fun i wr => ∃ (k : Nat) (s l : Int), (k : Int) ≤ m ∧ i = .int .i64 k ∧ Hid (Mach wr g s 0 l) ∧ Hid (Below W.heap.size W wr) ∧ (((k : Int) < 1 ∧ s = 6 ∧ l = 1 - k) ∨ (1 ≤ (k : Int) ∧ s = 4 ∧ l = 0))) (fun i _ => m.toNat - (intOf i).toNat)
    case atStart => exact ⟨0, 6, 1, by omega, rfl, HM6, HB6, .inl ⟨by omega, rfl, by omega⟩⟩
    case round =>
      obtain ⟨k, s, l, hk, rfl, HM, HB, hcase⟩ := hrel
      obtain ⟨wo, rfl⟩ : ∃ wo : World, wo = wr := ⟨_, rfl⟩
      by_cases hlt : (k : Int) < m
      · rcases hcase with ⟨d1, rfl, rfl⟩ | ⟨d1, rfl, rfl⟩
        · have hd : decide ((k : Int) < 1) = true := by simpa using d1
          by_cases hz : 1 - (k : Int) = 1
          · go_wp2_with (go_at_call 66; refine (got_lit (r := (4, 0, true)) (by unfold gotS; rw [if_pos rfl, if_pos hz]) g 0 _ HM.out (by omega) (by omega)).mono ?_; rintro e w7 ⟨⟨rfl, hM7⟩, hg7⟩; have HM7 := Lib.hid hM7; have HB7 := Lib.hid (below_gb HB.out hg7 HB.out.size hgW); clear hM7 hg7)
            go_roundw
            case rel => exact ⟨k + 1, 4, 0, by omega, by go_num, HM7, HB7, .inr ⟨by omega, rfl, rfl⟩⟩
            case measure => simp [intOf]; omega
          · go_wp2_with (go_at_call 66; refine (got_lit (r := (6, 1 - (k : Int) - 1, true)) (by unfold gotS; rw [if_pos rfl, if_neg hz]) g 0 _ HM.out (by omega) (by omega)).mono ?_; rintro e w7 ⟨⟨rfl, hM7⟩, hg7⟩; have HM7 := Lib.hid hM7; have HB7 := Lib.hid (below_gb HB.out hg7 HB.out.size hgW); clear hM7 hg7)
            go_roundw
            case rel => exact ⟨k + 1, 6, 1 - (k : Int) - 1, by omega, by go_num, HM7, HB7, .inl ⟨by omega, rfl, by omega⟩⟩
            case measure => simp [intOf]; omega
        · have hd : decide ((k : Int) < 1) = false := by simp; omega
          go_wp2_with (go_at_call 66; refine (got_lit (r := (4, 0, false)) (by decide) g 0 _ HM.out (by omega) (by omega)).mono ?_; rintro e w7 ⟨⟨rfl, hM7⟩, hg7⟩; have HM7 := Lib.hid hM7; have HB7 := Lib.hid (below_gb HB.out hg7 HB.out.size hgW); clear hM7 hg7)
          go_roundw
          case rel => exact ⟨k + 1, 4, 0, by omega, by go_num, HM7, HB7, .inr ⟨by omega, rfl, rfl⟩⟩
          case measure => simp [intOf]; omega
      · obtain rfl : m = (k : Int) := by omega
        rcases hcase with ⟨d1, rfl, rfl⟩ | ⟨d1, rfl, rfl⟩
        · have hd : decide (1 ≤ (k : Int)) = false := by simp; omega
          go_wp2_with (first | (go_at_call 40; refine (state_any g 6 0 _ _ HM.out).mono ?_; rintro e w6 ⟨rfl, rfl⟩) | (go_at_call 41; refine (left_any g 6 0 _ _ HM.out).mono ?_; rintro e w6 ⟨rfl, rfl⟩))
          go_ret
          exact ⟨rfl, HB.out⟩
        · have hd : decide (1 ≤ (k : Int)) = true := by simpa using d1
          go_wp2_with (first | (go_at_call 40; refine (state_any g 4 0 _ _ HM.out).mono ?_; rintro e w6 ⟨rfl, rfl⟩) | (go_at_call 41; refine (left_any g 4 0 _ _ HM.out).mono ?_; rintro e w6 ⟨rfl, rfl⟩))
          go_ret
          exact ⟨rfl, HB.out⟩
  · have e1 : N = 64 := by rw [HN.out]; simp [clampS]; omega
    subst e1
    go_wp2_with fail
    go_loopw [11] (fun i wr => ∃ (k : Nat) (s l : Int), (k : Int) ≤ m ∧ i = .int .i64 k ∧ Hid (Mach wr g s 0 l) ∧ Hid (Below W.heap.size W wr) ∧ (((k : Int) < 64 ∧ s = 6 ∧ l = 64 - k) ∨ (64 ≤ (k : Int) ∧ s = 4 ∧ l = 0))) (fun i _ => m.toNat - (intOf i).toNat)
    case atStart => exact ⟨0, 6, 64, by omega, rfl, HM6, HB6, .inl ⟨by omega, rfl, by omega⟩⟩
    case round =>
      obtain ⟨k, s, l, hk, rfl, HM, HB, hcase⟩ := hrel
      obtain ⟨wo, rfl⟩ : ∃ wo : World, wo = wr := ⟨_, rfl⟩
      by_cases hlt : (k : Int) < m
      · rcases hcase with ⟨d1, rfl, rfl⟩ | ⟨d1, rfl, rfl⟩
        · have hd : decide ((k : Int) < 64) = true := by simpa using d1
          by_cases hz : 64 - (k : Int) = 1
          · go_wp2_with (go_at_call 66; refine (got_lit (r := (4, 0, true)) (by unfold gotS; rw [if_pos rfl, if_pos hz]) g 0 _ HM.out (by omega) (by omega)).mono ?_; rintro e w7 ⟨⟨rfl, hM7⟩, hg7⟩; have HM7 := Lib.hid hM7; have HB7 := Lib.hid (below_gb HB.out hg7 HB.out.size hgW); clear hM7 hg7)
            go_roundw
            case rel => exact ⟨k + 1, 4, 0, by omega, by go_num, HM7, HB7, .inr ⟨by omega, rfl, rfl⟩⟩
            case measure => simp [intOf]; omega
          · go_wp2_with (go_at_call 66; refine (got_lit (r := (6, 64 - (k : Int) - 1, true)) (by unfold gotS; rw [if_pos rfl, if_neg hz]) g 0 _ HM.out (by omega) (by omega)).mono ?_; rintro e w7 ⟨⟨rfl, hM7⟩, hg7⟩; have HM7 := Lib.hid hM7; have HB7 := Lib.hid (below_gb HB.out hg7 HB.out.size hgW); clear hM7 hg7)
            go_roundw
            case rel => exact ⟨k + 1, 6, 64 - (k : Int) - 1, by omega, by go_num, HM7, HB7, .inl ⟨by omega, rfl, by omega⟩⟩
            case measure => simp [intOf]; omega
        · have hd : decide ((k : Int) < 64) = false := by simp; omega
          go_wp2_with (go_at_call 66; refine (got_lit (r := (4, 0, false)) (by decide) g 0 _ HM.out (by omega) (by omega)).mono ?_; rintro e w7 ⟨⟨rfl, hM7⟩, hg7⟩; have HM7 := Lib.hid hM7; have HB7 := Lib.hid (below_gb HB.out hg7 HB.out.size hgW); clear hM7 hg7)
          go_roundw
          case rel => exact ⟨k + 1, 4, 0, by omega, by go_num, HM7, HB7, .inr ⟨by omega, rfl, rfl⟩⟩
          case measure => simp [intOf]; omega
      · obtain rfl : m = (k : Int) := by omega
        rcases hcase with ⟨d1, rfl, rfl⟩ | ⟨d1, rfl, rfl⟩
        · have hd : decide (64 ≤ (k : Int)) = false := by simp; omega
          go_wp2_with (first | (go_at_call 40; refine (state_any g 6 0 _ _ HM.out).mono ?_; rintro e w6 ⟨rfl, rfl⟩) | (go_at_call 41; refine (left_any g 6 0 _ _ HM.out).mono ?_; rintro e w6 ⟨rfl, rfl⟩))
          go_ret
          exact ⟨rfl, HB.out⟩
        · have hd : decide (64 ≤ (k : Int)) = true := by simpa using d1
          go_wp2_with (first | (go_at_call 40; refine (state_any g 4 0 _ _ HM.out).mono ?_; rintro e w6 ⟨rfl, rfl⟩) | (go_at_call 41; refine (left_any g 4 0 _ _ HM.out).mono ?_; rintro e w6 ⟨rfl, rfl⟩))
          go_ret
          exact ⟨rfl, HB.out⟩
  · have e1 : n = N := by rw [HN.out]; simp [clampS]; omega
    subst e1
    go_wp2_with fail
    go_loopw [11] (fun i wr => ∃ (k : Nat) (s l : Int), (k : Int) ≤ m ∧ i = .int .i64 k ∧ Hid (Mach wr g s 0 l) ∧ Hid (Below W.heap.size W wr) ∧ (((k : Int) < n ∧ s = 6 ∧ l = n - k) ∨ (n ≤ (k : Int) ∧ s = 4 ∧ l = 0))) (fun i _ => m.toNat - (intOf i).toNat)
    case atStart => exact ⟨0, 6, n, by omega, rfl, HM6, HB6, .inl ⟨by omega, rfl, by omega⟩⟩
    case round =>
      obtain ⟨k, s, l, hk, rfl, HM, HB, hcase⟩ := hrel
      obtain ⟨wo, rfl⟩ : ∃ wo : World, wo = wr := ⟨_, rfl⟩
      by_cases hlt : (k : Int) < m
      · rcases hcase with ⟨d1, rfl, rfl⟩ | ⟨d1, rfl, rfl⟩
        · have hd : decide ((k : Int) < n) = true := by simpa using d1
          by_cases hz : n - (k : Int) = 1
          · go_wp2_with (go_at_call 66; refine (got_lit (r := (4, 0, true)) (by unfold gotS; rw [if_pos rfl, if_pos hz]) g 0 _ HM.out (by omega) (by omega)).mono ?_; rintro e w7 ⟨⟨rfl, hM7⟩, hg7⟩; have HM7 := Lib.hid hM7; have HB7 := Lib.hid (below_gb HB.out hg7 HB.out.size hgW); clear hM7 hg7)
            go_roundw
            case rel => exact ⟨k + 1, 4, 0, by omega, by go_num, HM7, HB7, .inr ⟨by omega, rfl, rfl⟩⟩
            case measure => simp [intOf]; omega
          · go_wp2_with (go_at_call 66; refine (got_lit (r := (6, n - (k : Int) - 1, true)) (by unfold gotS; rw [if_pos rfl, if_neg hz]) g 0 _ HM.out (by omega) (by omega)).mono ?_; rintro e w7 ⟨⟨rfl, hM7⟩, hg7⟩; have HM7 := Lib.hid hM7; have HB7 := Lib.hid (below_gb HB.out hg7 HB.out.size hgW); clear hM7 hg7)
            go_roundw
            case rel => exact ⟨k + 1, 6, n - (k : Int) - 1, by omega, by go_num, HM7, HB7, .inl ⟨by omega, rfl, by omega⟩⟩
            case measure => simp [intOf]; omega
        · have hd : decide ((k : Int) < n) = false := by simp; omega
          go_wp2_with (go_at_call 66; refine (got_lit (r := (4, 0, false)) (by decide) g 0 _ HM.out (by omega) (by omega)).mono ?_; rintro e w7 ⟨⟨rfl, hM7⟩, hg7⟩; have HM7 := Lib.hid hM7; have HB7 := Lib.hid (below_gb HB.out hg7 HB.out.size hgW); clear hM7 hg7)
          go_roundw
          case rel => exact ⟨k + 1, 4, 0, by omega, by go_num, HM7, HB7, .inr ⟨by omega, rfl, rfl⟩⟩
          case measure => simp [intOf]; omega
      · obtain rfl : m = (k : Int) := by omega
        rcases hcase with ⟨d1, rfl, rfl⟩ | ⟨d1, rfl, rfl⟩
        · have hd : decide (n ≤ (k : Int)) = false := by simp; omega
          go_wp2_with (first | (go_at_call 40; refine (state_any g 6 0 _ _ HM.out).mono ?_; rintro e w6 ⟨rfl, rfl⟩) | (go_at_call 41; refine (left_any g 6 0 _ _ HM.out).mono ?_; rintro e w6 ⟨rfl, rfl⟩))
          go_ret
          exact ⟨rfl, HB.out⟩
        · have hd : decide (n ≤ (k : Int)) = true := by simpa using d1
          go_wp2_with (first | (go_at_call 40; refine (state_any g 4 0 _ _ HM.out).mono ?_; rintro e w6 ⟨rfl, rfl⟩) | (go_at_call 41; refine (left_any g 4 0 _ _ HM.out).mono ?_; rintro e w6 ⟨rfl, rfl⟩))
          go_ret
          exact ⟨rfl, HB.out⟩

theorem waits_any (n m : Int) (W : World) (hm : I64 m) :
    Calls Try.prog 11 #[.int .i64 n, .int .i64 m] W fun e w' => e = .returned (.bool true) ∧ Below W.heap.size W w' := by
  by_cases h0 : 0 ≤ m
  · by_cases h1 : m ≤ 200
    · exact waits_walk n m W h0 h1
    · go_enter Try.func11, Try.ntmps11
      go_wp2_with fail
      refine (pknown_any _).mono ?_
      rintro e w1 ⟨rfl, hb1⟩
      go_wp2_with fail
      go_ret
      exact ⟨rfl, hb1⟩
  · go_enter Try.func11, Try.ntmps11
    go_wp2_with fail
    refine (pknown_any _).mono ?_
    rintro e w1 ⟨rfl, hb1⟩
    go_wp2_with fail
    go_ret
    exact ⟨rfl, hb1⟩

end Go.Proofs.Ytjjeopanffcbiaa
