/- page: State, Chunks; the reference's Mark, State, Chunks. -/
import Derived.Test.YtogpdmpefdafnaaDoorPageA
namespace Go.Proofs.YtogpdmpefdafnaaDoor
open Go Go.RowKit
set_option linter.unusedVariables false

theorem pops_sum (b : Nat) : Ecc.pops b = b % 2 + b / 2 % 2 + b / 4 % 2 + b / 8 % 2 + b / 16 % 2 + b / 32 % 2 + b / 64 % 2 + b / 128 % 2 := rfl
theorem castmod (b m : Nat) : ((b / m % 2 : Nat) : Int) = (b : Int) / (m : Int) % 2 := by rw [Int.natCast_emod, Int.natCast_ediv]; rfl
theorem mark_sum (b : Nat) : ∀ t : Int, t = (b : Int) % 2 + (b : Int) / 2 % 2 + (b : Int) / 4 % 2 + (b : Int) / 8 % 2 + (b : Int) / 16 % 2 + (b : Int) / 32 % 2 + (b : Int) / 64 % 2 + (b : Int) / 128 % 2 → decide (t ≤ 4) = markB b := by
  intro t ht
  have e : t = (Ecc.pops b : Int) := by
    have e0 : ((b % 2 : Nat) : Int) = (b : Int) % 2 := by omega
    rw [ht, pops_sum, Int.natCast_add, Int.natCast_add, Int.natCast_add, Int.natCast_add, Int.natCast_add, Int.natCast_add, Int.natCast_add, e0, castmod, castmod, castmod, castmod, castmod, castmod, castmod]
    rfl
  clear ht
  unfold markB
  rw [decide_eq_decide, e]
  exact Int.ofNat_le (n := 4)
theorem and1_u8 (x : Int) (h : 0 ≤ x) (h2 : x < 256) : bits .and .u8 x 1 = x % 2 := by
  obtain ⟨n, rfl⟩ : ∃ n : Nat, x = n := ⟨x.toNat, by omega⟩
  have := u8_and_nat n 1 (by omega) (by omega)
  rw [show ((1 : Nat) : Int) = 1 by rfl] at this
  rw [this, Nat.and_one_is_mod]
  omega
set_option maxRecDepth 100000 in
set_option maxHeartbeats 4000000 in
theorem state_any (a : Option Addr) (len cap : Nat) (l : List Nat) (w : World) (hi : Bytes w a len l) (hl : len ≤ 1000000) :
    Calls Tryd.prog 9 #[.slice a len cap] w fun e w' => e = .returned (.int .i64 (stateP l)) ∧ w = w' := by
  have hll := hi.1
  have HI := Lib.hid hi
  obtain ⟨s, hs⟩ : ∃ s, s = stateP l := ⟨_, rfl⟩
  rw [← hs]
  unfold stateP at hs
  cases hr : rightP l with
  | false =>
    rw [hr] at hs
    have hs3 : s = 3 := hs
    subst hs3
    have HRt := Lib.hid (right_page a len cap l w hi hl)
    rw [hr] at HRt
    clear hs hi
    go_enter Tryd.func9, Tryd.ntmps9
    go_wp2_with (go_at_call 12; refine HRt.out.mono ?_; rintro e w1 ⟨rfl, rfl⟩)
    go_ret
    exact ⟨rfl, rfl⟩
  | true =>
    have HRt := Lib.hid (right_page a len cap l w hi hl)
    rw [hr] at HRt
    rw [hr, if_pos rfl] at hs
    have hrr : len % 73 = 0 ∧ 73 ≤ len ∧ len ≤ 584 := by
      unfold rightP at hr
      rw [hll] at hr
      simp only [Bool.and_eq_true, decide_eq_true_eq] at hr
      omega
    obtain ⟨K, hK⟩ : ∃ K, len = 73 * K := ⟨len / 73, by omega⟩
    have hKd : l.length / 73 = K := by omega
    rw [hKd] at hs
    have HS := Lib.hid hs
    have hK1 : 1 ≤ K := by omega
    have hK8 : K ≤ 8 := by omega
    obtain ⟨b, off, rfl, hbl, hcell⟩ := hi.2.2 (by omega)
    have HC := Lib.hid hcell
    have HK := Lib.hid hK
    have H256 := Lib.hid hi.2.1
    have t1 : (len : Int) / 73 = (K : Int) := by omega
    have hlen6 : len ≤ 584 := hrr.2.2
    clear hs hi hcell hK hKd hll hrr hr
    go_enter Tryd.func9, Tryd.ntmps9
    go_wp2_with (go_at_call 12; refine HRt.out.mono ?_; rintro e w1 ⟨rfl, rfl⟩)
    go_loop [3, 4] (fun n i => ∃ k : Nat, k ≤ K ∧ i = .int .i64 ((73 * k + 72 : Nat) : Int) ∧ n = .int .i64 (marksTo l k : Nat)) (fun _ i => 1000 - (intOf i).toNat)
    case atStart => exact ⟨0, by omega, rfl, rfl⟩
    case round =>
      obtain ⟨k, hk, rfl, rfl⟩ := hrel
      have hmle := marksTo_le l k
      obtain ⟨q, hq⟩ : ∃ q, q = 73 * k + 72 := ⟨_, rfl⟩
      by_cases hlt : k < K
      · have hc := HC.out q (by have := HK.out; omega)
        obtain ⟨v, hv⟩ : ∃ v, v = l.getD q 0 := ⟨_, rfl⟩
        have hv8 : v < 256 := by rw [hv]; exact getD_byte H256.out q
        have hmk : marksTo l (k + 1) = marksTo l k + (if markB v then 1 else 0) := by rw [marksTo, hv, hq]
        rw [← hv] at hc
        have HMk := Lib.hid hmk
        have HQ := Lib.hid hq
        have t2 : (q : Int) < (len : Int) := by have := HK.out; omega
        have t3 : (0 : Int) ≤ (q : Int) := by omega
        have t4 : ((q : Int)).toNat = q := by omega
        have t5 : (q : Int) ≤ 1000 := by omega
        obtain ⟨m, hm⟩ : ∃ m, m = marksTo l k := ⟨_, rfl⟩
        rw [← hq, ← hm]
        rw [← hm] at hmk hmle HMk
        have HM := Lib.hid hm
        clear hv hmk hq hm
        cases hmb : markB v with
        | true =>
          go_wp2_with (go_at_call 13; refine (mark_any v hv8 _).mono ?_; rintro e w1 ⟨rfl, rfl⟩; rw [hmb])
          go_round
          case rel => exact ⟨k + 1, by omega, by have := HQ.out; go_num, by rw [HMk.out, hmb]; go_num⟩
          case measure => have := HQ.out; simp [intOf]; omega
        | false =>
          go_wp2_with (go_at_call 13; refine (mark_any v hv8 _).mono ?_; rintro e w1 ⟨rfl, rfl⟩; rw [hmb])
          go_round
          case rel => exact ⟨k + 1, by omega, by have := HQ.out; go_num, by rw [HMk.out, hmb]; go_num⟩
          case measure => have := HQ.out; simp [intOf]; omega
      · obtain rfl : k = K := by omega
        have t2 : ¬ ((q : Int) < (len : Int)) := by have := HK.out; omega
        have t5 : (q : Int) ≤ 1000 := by omega
        obtain ⟨m, hm⟩ : ∃ m, m = marksTo l k := ⟨_, rfl⟩
        rw [← hq, ← hm]
        rw [← hm] at HS hmle
        clear hq hm
        by_cases h0 : m = 0
        · have hs0 : s = 0 := by rw [HS.out, if_pos h0]
          subst hs0
          subst h0
          go_wp2
          go_ret
          exact ⟨rfl, rfl⟩
        · by_cases h1 : m = k
          · have hs0 : s = 2 := by rw [HS.out, if_neg h0, if_pos h1]
            subst hs0
            subst h1
            have t6 : ((m : Int) == 0) = false := by simp; omega
            go_wp2
            go_ret
            exact ⟨rfl, rfl⟩
          · have hs0 : s = 1 := by rw [HS.out, if_neg h0, if_neg h1]
            subst hs0
            have t6 : ((m : Int) == 0) = false := by simp; omega
            have t7 : ((m : Int) == (k : Int)) = false := by simp; omega
            go_wp2
            go_ret
            exact ⟨rfl, rfl⟩

end Go.Proofs.YtogpdmpefdafnaaDoor
