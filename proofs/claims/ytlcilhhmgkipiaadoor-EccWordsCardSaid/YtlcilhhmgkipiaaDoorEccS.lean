/- ecc: the reference's Column, Check, Mend; EccWords. -/
import Derived.Test.YtlcilhhmgkipiaaDoorEccR
namespace Go.Proofs.YtlcilhhmgkipiaaDoor
open Go.RowKit
set_option linter.unusedVariables false

def cnt (want c : Nat) : Nat := (gat want c).length
theorem cnt_succ (want c : Nat) : cnt want (c + 1) = cnt want c + if Ecc.pops c = want then 1 else 0 := by
  unfold cnt; rw [gat_succ, List.length_append]; split <;> rfl
theorem cnt3_at : ∀ c, c < 256 → Ecc.pops c = 3 → Ecc.col (cnt 3 c) = c := by decide +kernel
theorem cnt5_at : ∀ c, c < 256 → Ecc.pops c = 5 → 56 + cnt 5 c < 64 → Ecc.col (56 + cnt 5 c) = c := by decide +kernel
theorem cnt_end : cnt 3 256 = 56 ∧ cnt 5 256 = 56 := by decide +kernel
theorem cnt_le (want : Nat) (c : Nat) : cnt want c ≤ c := by unfold cnt gat; have := List.length_filter_le (fun x => decide (Ecc.pops x = want)) (List.range c); simpa using this

set_option maxRecDepth 100000 in
set_option maxHeartbeats 1000000 in
theorem rcolumn_any (i : Int) (w : World) :
    Calls Tryd.prog 19 #[.int .i64 i] w fun e w' => e = .returned (.int .u8 (colOf i)) ∧ w = w' := by
  by_cases h1 : i < 0
  · go_enter Tryd.func19, Tryd.ntmps19
    go_wp2
    go_ret
    exact ⟨by unfold colOf; rw [if_neg (by omega)]; rfl, rfl⟩
  · by_cases h2 : 63 < i
    · go_enter Tryd.func19, Tryd.ntmps19
      go_wp2
      go_ret
      exact ⟨by unfold colOf; rw [if_neg (by omega)]; rfl, rfl⟩
    · obtain ⟨m, rfl⟩ : ∃ n : Nat, i = n := ⟨i.toNat, by omega⟩
      have hm : m < 64 := by omega
      have HCO : Hid (colOf m = (Ecc.col m : Int)) := by unfold Hid colOf; rw [if_pos ⟨by omega, by omega⟩]; rfl
      go_enter Tryd.func19, Tryd.ntmps19
      go_wp2
      go_loop [3, 4] (fun n c => ∃ c0 n0 : Nat, c0 ≤ 256 ∧ c = .int .i64 c0 ∧ n = .int .i64 n0 ∧ Hid (n0 = cnt 3 c0) ∧ n0 ≤ m) (fun _ c => 256 - (intOf c).toNat)
      case atStart => exact ⟨0, 0, by omega, rfl, rfl, by unfold Hid; decide, by omega⟩
      case round =>
        obtain ⟨c0, n0, hc0, rfl, rfl, HN, hnm⟩ := hrel
        by_cases hlt : c0 < 256
        · have hs := cnt_succ 3 c0
          by_cases hp : Ecc.pops c0 = 3
          · rw [if_pos hp] at hs
            have hp1 : ((Ecc.pops c0 : Int) == 3) = true := by simp; omega
            have hat := cnt3_at c0 hlt hp
            have HS := Lib.hid hs
            have HA := Lib.hid hat
            clear hp hs hat
            by_cases hnm2 : n0 = m
            · have hq : ((n0 : Int) == (m : Int)) = true := by simp [hnm2]
              have HQ := Lib.hid hnm2
              clear hnm2
              go_wp2_with (go_at_call 42; refine (rones_any c0 hlt _).mono ?_; rintro e w' ⟨rfl, rfl⟩)
              go_ret
              exact ⟨by rw [HCO.out, ← HQ.out, HN.out, HA.out]; rfl, rfl⟩
            · have hq : ((n0 : Int) == (m : Int)) = false := by simp; omega
              have hnm3 : n0 + 1 ≤ m := by omega
              have HS2 : Hid (n0 + 1 = cnt 3 (c0 + 1)) := by unfold Hid; rw [HS.out, ← HN.out]
              clear hnm2
              go_wp2_with (go_at_call 42; refine (rones_any c0 hlt _).mono ?_; rintro e w' ⟨rfl, rfl⟩)
              go_round
              case rel => exact ⟨c0 + 1, n0 + 1, by omega, by go_num, by go_num, HS2, hnm3⟩
              case measure => simp [intOf]; omega
          · rw [if_neg hp, Nat.add_zero] at hs
            have hp1 : ((Ecc.pops c0 : Int) == 3) = false := by simp; omega
            have HS2 : Hid (n0 = cnt 3 (c0 + 1)) := by unfold Hid; rw [hs]; exact HN.out
            clear hp hs
            go_wp2_with (go_at_call 42; refine (rones_any c0 hlt _).mono ?_; rintro e w' ⟨rfl, rfl⟩)
            go_round
            case rel => exact ⟨c0 + 1, n0, by omega, by go_num, rfl, HS2, hnm⟩
            case measure => simp [intOf]; omega
        · obtain rfl : c0 = 256 := by omega
          obtain rfl : n0 = 56 := HN.out.trans cnt_end.1
          clear HN
          go_wp2
          go_loop [3, 5] (fun n c => ∃ c0 n0 : Nat, c0 ≤ 256 ∧ c = .int .i64 c0 ∧ n = .int .i64 n0 ∧ Hid (n0 = 56 + cnt 5 c0) ∧ n0 ≤ m) (fun _ c => 256 - (intOf c).toNat)
          case atStart => exact ⟨0, 56, by omega, rfl, rfl, by unfold Hid; decide, hnm⟩
          case round =>
            obtain ⟨c0, n0, hc0, rfl, rfl, HN, hnm⟩ := hrel
            by_cases hlt : c0 < 256
            · have hs := cnt_succ 5 c0
              by_cases hp : Ecc.pops c0 = 5
              · rw [if_pos hp] at hs
                have hp1 : ((Ecc.pops c0 : Int) == 5) = true := by simp; omega
                have hat := cnt5_at c0 hlt hp (by rw [← HN.out]; omega)
                have HS := Lib.hid hs
                have HA := Lib.hid hat
                clear hp hs hat
                by_cases hnm2 : n0 = m
                · have hq : ((n0 : Int) == (m : Int)) = true := by simp [hnm2]
                  have HQ := Lib.hid hnm2
                  clear hnm2
                  go_wp2_with (go_at_call 42; refine (rones_any c0 hlt _).mono ?_; rintro e w' ⟨rfl, rfl⟩)
                  go_ret
                  exact ⟨by rw [HCO.out, ← HQ.out, HN.out, HA.out]; rfl, rfl⟩
                · have hq : ((n0 : Int) == (m : Int)) = false := by simp; omega
                  have hnm3 : n0 + 1 ≤ m := by omega
                  have HS2 : Hid (n0 + 1 = 56 + cnt 5 (c0 + 1)) := by unfold Hid; rw [HS.out, ← Nat.add_assoc, ← HN.out]
                  clear hnm2
                  go_wp2_with (go_at_call 42; refine (rones_any c0 hlt _).mono ?_; rintro e w' ⟨rfl, rfl⟩)
                  go_round
                  case rel => exact ⟨c0 + 1, n0 + 1, by omega, by go_num, by go_num, HS2, hnm3⟩
                  case measure => simp [intOf]; omega
              · rw [if_neg hp, Nat.add_zero] at hs
                have hp1 : ((Ecc.pops c0 : Int) == 5) = false := by simp; omega
                have HS2 : Hid (n0 = 56 + cnt 5 (c0 + 1)) := by unfold Hid; rw [hs]; exact HN.out
                clear hp hs
                go_wp2_with (go_at_call 42; refine (rones_any c0 hlt _).mono ?_; rintro e w' ⟨rfl, rfl⟩)
                go_round
                case rel => exact ⟨c0 + 1, n0, by omega, by go_num, rfl, HS2, hnm⟩
                case measure => simp [intOf]; omega
            · exfalso
              have : c0 = 256 := by omega
              have h5 := HN.out
              rw [this, cnt_end.2] at h5
              omega

theorem ColsAt.cols {B : Nat} {w : World} {v : Value} (h : ColsAt B w v) : ∃ a cap, v = .slice a 64 cap ∧ Cols w a cap := by
  obtain ⟨g, cap, rfl, _, hg, hc⟩ := h
  exact ⟨_, cap, rfl, ⟨g, rfl, hg, hc⟩⟩

theorem rcheckAll_any (x : Nat) (hx : x < 18446744073709551616) (w : World) :
    Calls Tryd.prog 17 #[.int .u64 x] w fun e w' => e = .returned (.int .u8 (Ecc.chk x)) ∧ Below w.heap.size w w' := by
  go_enter Tryd.func17, Tryd.ntmps17
  go_wp2_with fail
  refine (rcolumns_any _).mono ?_
  rintro e w1 ⟨⟨v, he, hC⟩, hb⟩
  obtain ⟨a, cap, hv, hC2⟩ := hC.cols
  rw [hv] at he
  subst he
  clear hC hv
  go_wp2_with fail
  refine (rcheck_any a cap x hx _ hC2).mono ?_
  rintro e w2 ⟨rfl, rfl⟩
  go_wp2
  go_ret
  exact ⟨rfl, hb⟩

theorem rmendAll_any {x c p q h : Nat} (em : Ecc.mendW x c = (p, q, h)) (hx : x < 18446744073709551616) (hc : c < 256) (w : World) :
    Calls Tryd.prog 16 #[.int .u64 x, .int .u8 c] w fun e w' => e = .returned (.tuple #[.int .u64 p, .int .u8 q, .int .i64 h]) ∧ Below w.heap.size w w' := by
  have HM : Hid (mendV x c = .tuple #[.int .u64 p, .int .u8 q, .int .i64 h]) := by unfold Hid mendV; rw [em]
  clear em
  go_enter Tryd.func16, Tryd.ntmps16
  go_wp2_with fail
  refine (rcolumns_any _).mono ?_
  rintro e w1 ⟨⟨v, he, hC⟩, hb⟩
  obtain ⟨a, cap, hv, hC2⟩ := hC.cols
  rw [hv] at he
  subst he
  clear hC hv
  go_wp2_with fail
  refine (rmend_any a cap x c hx hc _ hC2).mono ?_
  rintro e w2 ⟨he, rfl⟩
  rw [HM.out] at he
  subst he
  go_wp2
  go_ret3
  exact ⟨rfl, hb⟩

theorem Deb.below {w w' : World} (h : Deb w) {B : Nat} (hb : Below B w w') (hB : w.heap.size ≤ B) : Deb w' := by
  have hlt : 0 < w.heap.size := by
    have h0 := h 0 (by omega)
    unfold World.cell? at h0
    by_cases hl : 0 < w.heap.size
    · exact hl
    · rw [Array.getElem?_eq_none (by simpa using hl)] at h0
      simp at h0
  intro j hj
  exact (hb.cell (p := ⟨0, j, none⟩) (Nat.lt_of_lt_of_le hlt hB)).trans (h j hj)

set_option maxRecDepth 100000 in
set_option maxHeartbeats 1000000 in
theorem words_any (x c : Nat) (bit : Int) (hx : x < 18446744073709551616) (hc : c < 256) (w : World) (hT : Deb w) :
    Calls Tryd.prog 4 #[.int .u64 x, .int .u8 c, .int .i64 bit] w fun e w' => e = .returned (.bool true) ∧ Below w.heap.size w w' := by
  obtain ⟨p, q, h, em⟩ : ∃ p q h, Ecc.mendW x c = (p, q, h) := ⟨_, _, _, rfl⟩
  have EM := Lib.hid em
  clear em
  have hq : (((Ecc.chk x ^^^ c : Nat) : Int) == bits .xor .u8 (Ecc.chk x : Nat) (c : Nat)) = true := by rw [u8_xor_nat _ _ (Ecc.chk_lt x) hc]; simp
  have HQ := Lib.hid hq
  clear hq
  go_enter Tryd.func4, Tryd.ntmps4
  go_wp2_with fail
  refine (known_any _ hT).mono ?_
  rintro e w1 ⟨rfl, rfl⟩
  go_wp2_with fail
  refine (mend_as EM.out hx hc _ hT).mono ?_
  rintro e w1 ⟨rfl, rfl⟩
  go_wp2_with fail
  refine (rmendAll_any EM.out hx hc _).mono ?_
  rintro e w1 ⟨rfl, hb1⟩
  have hT1 := hT.below hb1 (Nat.le_refl _)
  have hs1 := hb1.size
  go_wp2_with fail
  refine (check_any x hx _ hT1).mono ?_
  rintro e w2 ⟨rfl, rfl⟩
  go_wp2_with fail
  refine (rcheckAll_any x hx _).mono ?_
  rintro e w2 ⟨rfl, hb2⟩
  have hb3 := hb1.trans (hb2.mono hs1)
  have hT3 := hT.below hb3 (Nat.le_refl _)
  have hs3 := hb3.size
  go_wp2_with fail
  refine (syndrome_any x c hx hc _ hT3).mono ?_
  rintro e w3 ⟨rfl, rfl⟩
  go_wp2_with fail
  refine (rcheckAll_any x hx _).mono ?_
  rintro e w3 ⟨rfl, hb4⟩
  have hb5 := hb3.trans (hb4.mono hs3)
  have hq := HQ.out
  go_wp2_with fail
  refine (column_any _ _).mono ?_
  rintro e w4 ⟨rfl, rfl⟩
  go_wp2_with fail
  refine (rcolumn_any _ _).mono ?_
  rintro e w4 ⟨rfl, rfl⟩
  go_wp2
  go_ret
  exact ⟨rfl, hb5⟩

end Go.Proofs.YtlcilhhmgkipiaaDoor
