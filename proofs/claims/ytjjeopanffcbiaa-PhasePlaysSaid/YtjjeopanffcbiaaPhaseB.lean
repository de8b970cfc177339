/- phase: the two Next answer alike. -/
import Derived.Test.YtjjeopanffcbiaaPhaseA
namespace Go.Proofs.Ytjjeopanffcbiaa
open Go Go.RowKit Go.Maps
set_option linter.unusedVariables false

/-- The index of the first v, or -1. -/
def idxOf (v : Int) (zs : List Int) : Int := if v ∈ zs then (zs.idxOf v : Int) else -1
theorem idxOf_hit {zs : List Int} {k : Nat} {v : Int} (h : k < zs.length) (he : zs.getD k 0 = v) (hno : ∀ j, j < k → zs.getD j 0 ≠ v) : idxOf v zs = k := by
  have hm : v ∈ zs := by rw [← he]; simp [List.getD, h]
  unfold idxOf
  rw [if_pos hm]
  have h1 : zs.idxOf v = k := by
    have hle : zs.idxOf v < zs.length := List.idxOf_lt_length_iff.2 hm
    have hge := List.getElem_idxOf hle
    rcases Nat.lt_trichotomy (zs.idxOf v) k with q | q | q
    · exact absurd (by rw [List.getD, List.getElem?_eq_getElem hle, hge]; rfl) (hno _ q)
    · exact q
    · exfalso
      have := List.not_of_lt_findIdx (p := (· == v)) (xs := zs) (i := k) q
      simp [List.getD, h] at this he
      exact this he
  rw [h1]
theorem idxOf_miss {zs : List Int} {v : Int} (hno : ∀ j, j < zs.length → zs.getD j 0 ≠ v) : idxOf v zs = -1 := by
  unfold idxOf
  rw [if_neg]
  intro hm
  obtain ⟨j, hj, e⟩ := List.getElem_of_mem hm
  exact hno j hj (by simp [List.getD, hj, e])

set_option maxHeartbeats 1000000 in
theorem index_any (a : Option Addr) (len cap : Nat) (zs : List Int) (v : Int) (w : World) (hi : Ints .i64 w a len zs) (hl : len ≤ 1000000) :
    Calls Try.prog 135 #[.slice a len cap, .int .i64 v] w fun e w' => e = .returned (.int .i64 (idxOf v zs)) ∧ w = w' := by
  have HI := Lib.hid hi
  clear hi
  go_enter Try.func135, Try.ntmps135
  go_wp2_with fail
  go_loop [8] (fun i => ∃ k : Nat, k ≤ len ∧ i = .int .i64 k ∧ Hid (∀ j, j < k → zs.getD j 0 ≠ v)) (fun i => len - (intOf i).toNat)
  case atStart => exact ⟨0, by omega, rfl, Lib.hid (fun j h => by omega)⟩
  case round =>
    obtain ⟨k, hk, rfl, HNo⟩ := hrel
    by_cases hlt : k < len
    · obtain ⟨b, off, rfl, hb, hc⟩ := HI.out.2 (by omega)
      have hck := hc k hlt
      have HC := Lib.hid hc
      clear hc
      obtain ⟨z, hz⟩ : ∃ z, z = zs.getD k 0 := ⟨_, rfl⟩
      rw [← hz] at hck
      have HZ := Lib.hid hz
      clear hz
      by_cases e : v = z
      · have e1 : (v == z) = true := by simpa using e
        have HE := Lib.hid e
        clear e
        go_wp2
        go_ret
        refine ⟨?_, rfl⟩
        rw [HE.out, HZ.out, idxOf_hit (k := k) (by rw [HI.out.1]; exact hlt) rfl (by rw [← HZ.out, ← HE.out]; exact HNo.out)]; rfl
      · have e1 : (v == z) = false := by simpa using e
        have HE := Lib.hid e
        clear e
        go_wp2
        go_round
        case rel => exact ⟨k + 1, by omega, by go_num, Lib.hid (fun j hj => by
          rcases Nat.lt_or_ge j k with q | q
          · exact HNo.out j q
          · obtain rfl : j = k := by omega
            rw [← HZ.out]; exact fun h => HE.out h.symm)⟩
        case measure => simp [intOf]; omega
    · obtain rfl : k = len := by omega
      go_wp2
      go_ret
      exact ⟨by rw [idxOf_miss (fun j hj => HNo.out j (by rw [← HI.out.1]; exact hj))]; rfl, rfl⟩

theorem contains_any (a : Option Addr) (len cap : Nat) (zs : List Int) (v : Int) (w : World) (hi : Ints .i64 w a len zs) (hl : len ≤ 1000000) :
    Calls Try.prog 84 #[.slice a len cap, .int .i64 v] w fun e w' => e = .returned (.bool (decide (v ∈ zs))) ∧ w = w' := by
  by_cases h : v ∈ zs
  · have h0 : (0 : Int) ≤ idxOf v zs := by unfold idxOf; rw [if_pos h]; omega
    have HD : Hid (decide (v ∈ zs) = true) := Lib.hid (by simpa using h)
    clear h
    go_enter Try.func84, Try.ntmps84
    go_wp2_with (go_at_call 135; refine (index_any a len cap zs v _ hi hl).mono ?_; rintro e w' ⟨rfl, rfl⟩)
    go_ret
    exact ⟨by rw [HD.out]; rfl, rfl⟩
  · have h0 : decide ((0 : Int) ≤ idxOf v zs) = false := by unfold idxOf; rw [if_neg h]; rfl
    have HD : Hid (decide (v ∈ zs) = false) := Lib.hid (by simpa using h)
    clear h
    go_enter Try.func84, Try.ntmps84
    go_wp2_with (go_at_call 135; refine (index_any a len cap zs v _ hi hl).mono ?_; rintro e w' ⟨rfl, rfl⟩)
    go_ret
    exact ⟨by rw [HD.out]; rfl, rfl⟩

/-! ### the states -/
def statesL : List Int := [0, 1, 2, 3, 4, 6]
def statesV : Array Value := #[.int .i64 0, .int .i64 1, .int .i64 2, .int .i64 3, .int .i64 4, .int .i64 6]
theorem states_any (w : World) :
    Calls Try.prog 31 #[] w fun e w' => e = .returned (.slice (some ⟨w.heap.size, 0, none⟩) 6 6) ∧ w' = w.alloc (.cells statesV 3) := by
  go_enter Try.func31, Try.ntmps31
  go_wp2
  go_ret
  exact ⟨rfl, rfl⟩
theorem states_ints {w : World} {g : Nat} (h : HasB w g statesV 3) : Ints .i64 w (some ⟨g, 0, none⟩) 6 statesL := by
  refine ⟨rfl, fun _ => ⟨g, 0, rfl, h.lt, fun i hi => ?_⟩⟩
  rw [Nat.zero_add, h.at i]
  match i, hi with
  | 0, _ => rfl
  | 1, _ => rfl
  | 2, _ => rfl
  | 3, _ => rfl
  | 4, _ => rfl
  | 5, _ => rfl

end Go.Proofs.Ytjjeopanffcbiaa
