/- page: the reference's State, both Chunks. -/
import Derived.Test.YtfefjabdfelhnaaDoorPageD
namespace Go.Proofs.YtfefjabdfelhnaaDoor
open Go Go.RowKit
set_option linter.unusedVariables false

set_option maxRecDepth 100000 in
set_option maxHeartbeats 4000000 in
theorem rstate_any (a : Option Addr) (len cap : Nat) (l : List Nat) (w : World) (hi : Bytes w a len l) (hl : len ≤ 1000000) :
    Calls Tryd.prog 21 #[.slice a len cap] w fun e w' => e = .returned (.int .i64 (stateP l)) ∧ w = w' := by
  have hll := hi.1
  obtain ⟨s, hs⟩ : ∃ s, s = stateP l := ⟨_, rfl⟩
  rw [← hs]
  unfold stateP at hs
  cases hr : rightP l with
  | false =>
    rw [hr] at hs
    have hs3 : s = 3 := hs
    subst hs3
    unfold rightP at hr
    rw [hll] at hr
    simp only [Bool.and_eq_false_iff, decide_eq_false_iff_not] at hr
    have hcs : len % 73 ≠ 0 ∨ (len % 73 = 0 ∧ len = 0) ∨ (len % 73 = 0 ∧ len ≠ 0 ∧ 584 < len) := by omega
    clear hs hi hr
    rcases hcs with h | ⟨h, h2⟩ | ⟨h, h2, h3⟩
    · have t1 : ((len : Int) % 73 != 0) = true := by simp; omega
      go_enter Tryd.func21, Tryd.ntmps21
      go_wp2
      go_ret
      exact ⟨rfl, rfl⟩
    · subst h2
      go_enter Tryd.func21, Tryd.ntmps21
      go_wp2
      go_ret
      exact ⟨rfl, rfl⟩
    · have t1 : (len : Int) % 73 = 0 := by omega
      have t2 : ((len : Int) == 0) = false := by simp; omega
      clear h h2
      go_enter Tryd.func21, Tryd.ntmps21
      go_wp2
      go_ret
      exact ⟨rfl, rfl⟩
  | true =>
    rw [hr, if_pos rfl] at hs
    have hrr : len % 73 = 0 ∧ 73 ≤ len ∧ len ≤ 584 := by
      unfold rightP at hr
      rw [hll] at hr
      simp only [Bool.and_eq_true, decide_eq_true_eq] at hr
      omega
    obtain ⟨K, hK⟩ : ∃ K, len = 73 * K := ⟨len / 73, by omega⟩
    have hKd : l.length / 73 = K := by omega
    rw [hKd] at hs
    have HS := Lib.hid hs
    have hK1 : 1 ≤ K := by omega
    have hK8 : K ≤ 8 := by omega
    obtain ⟨b, off, rfl, hbl, hcell⟩ := hi.2.2 (by omega)
    have HC := Lib.hid hcell
    have HK := Lib.hid hK
    have H256 := Lib.hid hi.2.1
    have t1 : (len : Int) / 73 = (K : Int) := by omega
    have t1b : ((len : Int) % 73 != 0) = false := by simp; omega
    have t1c : ((len : Int) == 0) = false := by simp; omega
    have hlen6 : len ≤ 584 := hrr.2.2
    clear hs hi hcell hK hKd hll hrr hr
    go_enter Tryd.func21, Tryd.ntmps21
    go_wp2_with fail
    go_loop [3, 4] (fun n i => ∃ k : Nat, k ≤ K ∧ i = .int .i64 ((73 * k : Nat) : Int) ∧ n = .int .i64 (marksTo l k : Nat)) (fun _ i => 1000 - (intOf i).toNat)
    case atStart => exact ⟨0, by omega, rfl, rfl⟩
    case round =>
      obtain ⟨k, hk, rfl, rfl⟩ := hrel
      have hmle := marksTo_le l k
      obtain ⟨q, hq⟩ : ∃ q, q = 73 * k := ⟨_, rfl⟩
      by_cases hlt : k < K
      · have hc := HC.out (q + 72) (by have := HK.out; omega)
        obtain ⟨v, hv⟩ : ∃ v, v = l.getD (q + 72) 0 := ⟨_, rfl⟩
        have hv8 : v < 256 := by rw [hv]; exact getD_byte H256.out _
        have hmk : marksTo l (k + 1) = marksTo l k + (if markB v then 1 else 0) := by rw [marksTo, hv, hq]
        rw [← hv] at hc
        have HMk := Lib.hid hmk
        have HQ := Lib.hid hq
        obtain ⟨q2, hq2⟩ : ∃ q2, q2 = q + 72 := ⟨_, rfl⟩
        have t2 : (q : Int) < (len : Int) := by have := HK.out; omega
        have t3 : (0 : Int) ≤ (q2 : Int) := by omega
        have t4 : ((q2 : Int)).toNat = q2 := by omega
        have t5 : (q : Int) ≤ 1000 := by omega
        have t6 : (q : Int) + 73 - 1 = (q2 : Int) := by omega
        have t7 : (q2 : Int) < (len : Int) := by have := HK.out; omega
        have t8 : (q : Int) + 72 = (q2 : Int) := by omega
        rw [← hq2] at hc
        obtain ⟨m, hm⟩ : ∃ m, m = marksTo l k := ⟨_, rfl⟩
        rw [← hq, ← hm]
        rw [← hm] at hmk hmle HMk
        clear hv hmk hq hm hq2
        cases hmb : markB v with
        | true =>
          go_wp2_with (go_at_call 23; refine (rmark_any v hv8 _).mono ?_; rintro e w1 ⟨rfl, rfl⟩; rw [hmb])
          go_round
          case rel => exact ⟨k + 1, by omega, by have := HQ.out; go_num, by rw [HMk.out, hmb]; go_num⟩
          case measure => have := HQ.out; simp [intOf]; omega
        | false =>
          go_wp2_with (go_at_call 23; refine (rmark_any v hv8 _).mono ?_; rintro e w1 ⟨rfl, rfl⟩; rw [hmb])
          go_round
          case rel => exact ⟨k + 1, by omega, by have := HQ.out; go_num, by rw [HMk.out, hmb]; go_num⟩
          case measure => have := HQ.out; simp [intOf]; omega
      · obtain rfl : k = K := by omega
        have t2 : ¬ ((q : Int) < (len : Int)) := by have := HK.out; omega
        have t5 : (q : Int) ≤ 1000 := by omega
        obtain ⟨m, hm⟩ : ∃ m, m = marksTo l k := ⟨_, rfl⟩
        rw [← hq, ← hm]
        rw [← hm] at HS hmle
        clear hq hm
        by_cases h0 : m = 0
        · have hs0 : s = 0 := by rw [HS.out, if_pos h0]
          subst hs0
          subst h0
          go_wp2
          go_ret
          exact ⟨rfl, rfl⟩
        · by_cases h1 : m = k
          · have hs0 : s = 2 := by rw [HS.out, if_neg h0, if_pos h1]
            subst hs0
            subst h1
            have t6 : ((m : Int) == 0) = false := by simp; omega
            go_wp2
            go_ret
            exact ⟨rfl, rfl⟩
          · have hs0 : s = 1 := by rw [HS.out, if_neg h0, if_neg h1]
            subst hs0
            have t6 : ((m : Int) == 0) = false := by simp; omega
            have t7 : ((m : Int) == (k : Int)) = false := by simp; omega
            go_wp2
            go_ret
            exact ⟨rfl, rfl⟩

def chunksP (n : Int) : Int := if n < 1 then 1 else (n - 1) / 64 + 1
theorem chunks_any (n : Int) (hn : I64 n) (w : World) : Calls Tryd.prog 24 #[.int .i64 n] w fun e w' => e = .returned (.int .i64 (chunksP n)) ∧ w = w' := by
  unfold I64 at hn
  unfold chunksP
  by_cases h : n < 1
  · rw [if_pos h]
    have t1 : max n 1 = 1 := by omega
    go_enter Tryd.func24, Tryd.ntmps24
    go_wp2
    go_ret
    exact ⟨rfl, rfl⟩
  · rw [if_neg h]
    have t1 : max n 1 = n := by omega
    have t2 : 0 ≤ (n - 1) / 64 := by omega
    have t3 : (n - 1) / 64 ≤ 144115188075855872 := by omega
    go_enter Tryd.func24, Tryd.ntmps24
    go_wp2
    go_ret
    exact ⟨rfl, rfl⟩
theorem rchunks_any (n : Int) (hn : I64 n) (w : World) : Calls Tryd.prog 25 #[.int .i64 n] w fun e w' => e = .returned (.int .i64 (chunksP n)) ∧ w = w' := by
  unfold I64 at hn
  unfold chunksP
  by_cases h : n < 1
  · rw [if_pos h]
    go_enter Tryd.func25, Tryd.ntmps25
    go_wp2
    go_ret
    exact ⟨rfl, rfl⟩
  · rw [if_neg h]
    have t2 : 0 ≤ n / 64 := by omega
    have t3 : n / 64 ≤ 144115188075855872 := by omega
    by_cases h6 : n % 64 = 0
    · have e : (n - 1) / 64 + 1 = n / 64 := by omega
      rw [e]
      clear e
      go_enter Tryd.func25, Tryd.ntmps25
      go_wp2
      go_ret
      exact ⟨rfl, rfl⟩
    · have e : (n - 1) / 64 + 1 = n / 64 + 1 := by omega
      have t4 : (n % 64 != 0) = true := by simp; omega
      rw [e]
      clear e h6
      go_enter Tryd.func25, Tryd.ntmps25
      go_wp2
      go_ret
      exact ⟨rfl, rfl⟩

end Go.Proofs.YtfefjabdfelhnaaDoor
