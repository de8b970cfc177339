/- ecc: the walks of the reference. -/
import Derived.Test.YtogpdmpefdafnaaDoorEccC
namespace Go.Proofs.YtogpdmpefdafnaaDoor
open Go.RowKit
set_option linter.unusedVariables false

def gat (want c : Nat) : List Nat := (List.range c).filter fun x => decide (Ecc.pops x = want)
def baseOf : Nat → List Nat
  | 0 => []
  | 1 => gat 3 256
  | _ => Ecc.colsL
def endOf : Nat → Nat
  | 0 => 256
  | _ => 88
theorem gat_succ (want c : Nat) : gat want (c + 1) = gat want c ++ (if Ecc.pops c = want then [c] else []) := by
  unfold gat
  rw [List.range_succ, List.filter_append]
  by_cases h : Ecc.pops c = want <;> simp [h]
theorem base_next : ∀ st, st < 2 → baseOf st ++ gat (3 + 2 * st) (endOf st) = baseOf (st + 1) := by decide +kernel
theorem base_len : ∀ st, st < 2 → ∀ c, c < endOf st → (baseOf st ++ gat (3 + 2 * st) c).length < 64 := by decide +kernel
theorem end_le : ∀ st, endOf st ≤ 256 := by intro st; unfold endOf; split <;> omega

theorem pops_half (x : Nat) (h : x < 256) : Ecc.pops x = x % 2 + Ecc.pops (x / 2) := by unfold Ecc.pops; omega

theorem Tryd.infoU8 : (Tryd.prog.info? 5).map (fun i => (i.zero, i.size, i.bytes)) = some (some (.int .u8 0), 1, 1) := by kernel_rfl

/-- What the columns' slice is. -/
def ColsAt (B : Nat) (w : World) (v : Value) : Prop := ∃ g cap, v = .slice (some ⟨g, 0, none⟩) 64 cap ∧ B ≤ g ∧ g < w.heap.size ∧ ∀ i, i < 64 → w.cell? ⟨g, i, none⟩ = some (.int .u8 (Ecc.col i))

theorem shr_bit (x i : Nat) (hx : x < 18446744073709551616) : bits .and .u64 ((x : Int) / 2 ^ i) 1 = if x.testBit i then 1 else 0 := by
  have e : ((x : Int) / 2 ^ i) = ((x / 2 ^ i : Nat) : Int) := by simp
  rw [e, show (1 : Int) = ((1 : Nat) : Int) by rfl, u64_and_nat _ 1 (Nat.lt_of_le_of_lt (Nat.div_le_self _ _) hx) (by omega), nat_mask1]
  have h : x.testBit i = (x / 2 ^ i % 2 == 1) := by simp [Nat.testBit, Nat.shiftRight_eq_div_pow]
  rw [h]
  by_cases h1 : x / 2 ^ i % 2 = 1
  · rw [h1]; rfl
  · have h0 : x / 2 ^ i % 2 = 0 := by omega
    rw [h0]; rfl

/-- The columns' slice, as its cells. -/
structure Cols (w : World) (a : Option Addr) (cap : Nat) : Prop where
  at_ : ∃ g, a = some ⟨g, 0, none⟩ ∧ g < w.heap.size ∧ ∀ i, i < 64 → w.cell? ⟨g, i, none⟩ = some (.int .u8 (Ecc.col i))

end Go.Proofs.YtogpdmpefdafnaaDoor
