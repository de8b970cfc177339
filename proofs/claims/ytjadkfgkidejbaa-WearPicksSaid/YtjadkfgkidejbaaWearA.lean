/- Contracts of wear.Debt, wear.Pay, wear.Life, their references, and known. -/
import Derived.Test.YtjadkfgkidejbaaKit
namespace Go.Proofs.Ytjadkfgkidejbaa
open Go.RowKit
set_option linter.unusedVariables false

def debtOf (f t : Int) : Int := if f ≥ t then 0 else if t - f > 16 then 16 else t - f
def payOf (d : Int) : Int := if d ≤ 4 then 0 else if d ≤ 8 then 1 else 2

theorem pay_any (d : Int) (w : World) : Calls Try.prog 93 #[.int .i64 d] w fun e w' => e = .returned (.int .i64 (payOf d)) ∧ w = w' := by
  unfold payOf
  by_cases h : d ≤ 4
  · go_enter Try.func93, Try.ntmps93
    go_wp2
    go_ret
    simp [h]
  · by_cases h2 : d ≤ 8
    · go_enter Try.func93, Try.ntmps93
      go_wp2
      go_ret
      simp [h, h2]
    · go_enter Try.func93, Try.ntmps93
      go_wp2
      go_ret
      simp [h, h2]

theorem debt_any (f t : Int) (w : World) (hf : -9223372036854775808 ≤ f ∧ f ≤ 9223372036854775807) (ht : -9223372036854775808 ≤ t ∧ t ≤ 9223372036854775807) :
    Calls Try.prog 94 #[.int .i64 f, .int .i64 t] w fun e w' => e = .returned (.int .i64 (debtOf f t)) ∧ w = w' := by
  unfold debtOf
  by_cases h : f ≥ t
  · go_enter Try.func94, Try.ntmps94
    go_wp2
    go_ret
    simp
  · by_cases h2 : t - f > 16
    · by_cases h3 : t - f ≤ 9223372036854775807
      · go_enter Try.func94, Try.ntmps94
        go_wp2
        go_ret
        simp
      · have h4 : wrap64 (t - f) < 0 := by unfold wrap64; omega
        go_enter Try.func94, Try.ntmps94
        go_wp2
        go_ret
        simp
    · go_enter Try.func94, Try.ntmps94
      go_wp2
      go_ret
      simp

/-- The sum that a life is made of. -/
def capOf (n : Int) : Int := if 1073741824 < (if n < 0 then 0 else n) then 1073741824 else if n < 0 then 0 else n
def sumOf (zs : List Int) : Int := zs.foldl (fun s n => s + capOf n) 0
def lifeOf (zs : List Int) : Int := if zs.length = 0 then 0 else if 11 < sumOf zs / zs.length / 100 + 1 then 11 else sumOf zs / zs.length / 100 + 1

theorem capOf_bd (n : Int) : 0 ≤ capOf n ∧ capOf n ≤ 1073741824 := by unfold capOf; split <;> (try split) <;> omega

theorem foldl_bd (zs : List Int) : ∀ s : Int, s ≤ zs.foldl (fun s n => s + capOf n) s ∧ zs.foldl (fun s n => s + capOf n) s ≤ s + 1073741824 * zs.length := by
  induction zs with
  | nil => intro s; simp
  | cons z r ih =>
    intro s
    have := ih (s + capOf z)
    have := capOf_bd z
    simp only [List.foldl_cons, List.length_cons]
    omega

theorem sumOf_bd (zs : List Int) : 0 ≤ sumOf zs ∧ sumOf zs ≤ 1073741824 * zs.length := by
  have := foldl_bd zs 0
  unfold sumOf; omega

theorem sumOf_take (zs : List Int) (k : Nat) (h : k < zs.length) : sumOf (zs.take (k + 1)) = sumOf (zs.take k) + capOf (zs.getD k 0) := by
  unfold sumOf
  rw [List.take_add_one, List.foldl_append]
  simp [List.getD, List.getElem?_eq_getElem h]

set_option maxHeartbeats 400000 in
theorem life_any (a : Option Addr) (len cap : Nat) (zs : List Int) (w : World) (hi : Ints .i64 w a len zs) (hl : len ≤ 1000000) :
    Calls Try.prog 92 #[.slice a len cap] w fun e w' => e = .returned (.int .i64 (lifeOf zs)) ∧ w = w' := by
  obtain ⟨hz, hc⟩ := hi
  by_cases h0 : len = 0
  · have hl0 : lifeOf zs = 0 := by unfold lifeOf; rw [hz, if_pos h0]
    subst h0
    have h00 : (((0 : Nat) : Int) == 0) = true := by simp
    have HL := Lib.hid hl0
    clear hl0
    go_enter Try.func92, Try.ntmps92
    go_wp2
    go_ret
    simp [HL.out]
  · have hlo : 0 < len := by omega
    obtain ⟨b, off, rfl, hbl, hc'⟩ := hc hlo
    clear hc
    have h00 : ((len : Int) == 0) = false := by simp; omega
    have HZ : Hid (zs.length = len) := hz
    clear hz
    go_enter Try.func92, Try.ntmps92
    go_wp2
    go_loop [3, 11] (fun t i => ∃ k : Nat, k ≤ len ∧ i = .int .i64 k ∧ t = .int .i64 (sumOf (zs.take k))) (fun _ i => len - (intOf i).toNat)
    case atStart => exact ⟨0, Nat.zero_le _, rfl, rfl⟩
    case round =>
      obtain ⟨k, hk, rfl, rfl⟩ := hrel
      have hb := sumOf_bd (zs.take k)
      have hlen : (zs.take k).length ≤ k := List.length_take_le _ _
      have hcap := capOf_bd (zs.getD k 0)
      have hcell : k < len → w.cell? ⟨b, off + k, none⟩ = some (.int .i64 (zs.getD k 0)) := fun h => hc' k h
      by_cases hlt : k < len
      · have hsn := sumOf_take zs k (by rw [HZ.out]; exact hlt)
        unfold capOf at hsn
        have HS := Lib.hid hsn
        clear hsn
        have hq : zs.getD k 0 = zs[k]?.getD 0 := by simp [List.getD]
        go_wp2
        go_round
        case rel => exact ⟨k + 1, by omega, by go_num, by rw [HS.out, hq]⟩
        case measure => simp [intOf]; omega
      · obtain rfl : k = len := by omega
        have hall : zs.take k = zs := List.take_of_length_le (by rw [HZ.out]; exact Nat.le_refl _)
        rw [hall] at hb hlen ⊢
        have HZ2 := HZ.out
        have h1 : 0 ≤ sumOf zs / (k : Int) := Int.ediv_nonneg hb.1 (by omega)
        have h2 : sumOf zs / (k : Int) ≤ 1073741824000000 := Int.le_trans (Int.ediv_le_self _ hb.1) (by rw [HZ2] at hb; omega)
        have HF : Hid (lifeOf zs = if 11 < sumOf zs / (k : Int) / 100 + 1 then 11 else sumOf zs / (k : Int) / 100 + 1) := by
          unfold Hid lifeOf; rw [HZ.out, if_neg h0]
        clear HZ2
        go_wp2
        all_goals (go_ret; rw [HF.out]; first | (rw [if_pos (by omega)]; exact ⟨rfl, rfl⟩) | (rw [if_neg (by omega)]; exact ⟨rfl, rfl⟩))

theorem capOf_hi (n : Int) (h : 1073741824 < n) : capOf n = 1073741824 := by unfold capOf; rw [if_pos (by rw [if_neg (by omega)]; exact h)]
theorem capOf_mid (n : Int) (h : ¬ 1073741824 < n) (h0 : 0 < n) : capOf n = n := by unfold capOf; rw [if_neg (by rw [if_neg (by omega)]; exact h), if_neg (by omega)]
theorem capOf_lo (n : Int) (h0 : ¬ 0 < n) : capOf n = 0 := by unfold capOf; by_cases h : n < 0 <;> simp [h]; omega

theorem known_any (w : World) : Calls Try.prog 27 #[] w fun e w' => e = .returned (.bool true) ∧ Below w.heap.size w w' := by
  go_enter Try.func27, Try.ntmps27
  go_wp2_with fail
  refine (life_any _ _ _ [250, 50] _ ⟨rfl, fun _ => ⟨w.heap.size, 0, rfl, by simp, ?_⟩⟩ (by decide)).mono ?_
  · intro i hi
    match i, hi with
    | 0, _ => simp
    | 1, _ => simp
  rintro e w1 ⟨rfl, rfl⟩
  have hl : lifeOf [250, 50] = 2 := by decide
  have hp : payOf 9 = 2 := by decide
  have hd : debtOf 3 8 = 5 := by decide
  go_wp2_with fail
  refine (pay_any _ _).mono ?_
  rintro e w1 ⟨rfl, rfl⟩
  go_wp2_with fail
  refine (debt_any _ _ _ (by omega) (by omega)).mono ?_
  rintro e w1 ⟨rfl, rfl⟩
  go_wp2
  go_ret
  exact ⟨rfl, (Below.refl _ _).alloc (Nat.le_refl _) _⟩

end Go.Proofs.Ytjadkfgkidejbaa
