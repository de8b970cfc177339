/- regs: kinds, what may be. -/
import Derived.Test.YtjjeopanffcbiaaMut
namespace Go.Proofs.Ytjjeopanffcbiaa
open Go Go.RowKit
set_option linter.unusedVariables false

def kindL : List Int := [0, 1, 5, 2, 3, 4, 6, 8, 9, 10, 11, 12, 13, 32, 33, 34]
def kindS (n : Int) : Int :=
  if n = 0 ∨ n = 1 ∨ n = 5 then 1 else if n = 2 ∨ n = 3 ∨ n = 4 then 2 else if n = 6 ∨ (8 ≤ n ∧ n < 12) ∨ n = 12 ∨ n = 13 then 3 else if n = 32 ∨ n = 33 ∨ n = 34 then 4 else 0
theorem kindS_out {n : Int} (h : n ∉ kindL) : kindS n = 0 := by
  simp only [kindL, List.mem_cons, List.not_mem_nil, or_false, not_or] at h
  unfold kindS
  rw [if_neg (by omega), if_neg (by omega), if_neg (by omega), if_neg (by omega)]
theorem kindS_in {n : Int} (h : kindS n ≠ 0) : n ∈ kindL := by
  rcases Classical.em (n ∈ kindL) with q | q
  · exact q
  · exact absurd (kindS_out q) h
theorem kindS_range {n : Int} (h : kindS n ≠ 0) : 0 ≤ n ∧ n < 64 := by
  have := kindS_in h
  simp only [kindL, List.mem_cons, List.not_mem_nil, or_false] at this
  omega
theorem kindS_five (n : Int) : kindS n = 0 ∨ kindS n = 1 ∨ kindS n = 2 ∨ kindS n = 3 ∨ kindS n = 4 := by
  unfold kindS; split
  · simp
  · split
    · simp
    · split
      · simp
      · split <;> simp

set_option maxRecDepth 100000 in
set_option maxHeartbeats 4000000 in
theorem kind_any (n : Int) (w : World) :
    Calls Try.prog 33 #[.int .i64 n] w fun e w' => e = .returned (.int .i64 (kindS n)) ∧ w = w' := by
  by_cases h : n ∈ kindL
  · simp only [kindL, List.mem_cons, List.not_mem_nil, or_false] at h
    rcases h with rfl | rfl | rfl | rfl | rfl | rfl | rfl | rfl | rfl | rfl | rfl | rfl | rfl | rfl | rfl | rfl <;>
      (go_enter Try.func33, Try.ntmps33
       go_wp2
       go_ret
       exact ⟨rfl, rfl⟩)
  · rw [kindS_out h]
    simp only [kindL, List.mem_cons, List.not_mem_nil, or_false, not_or] at h
    obtain ⟨k1, k2, k3, k4, k5, k6, k7, k8, k9, k10, k11, k12, k13, k14, k15, k16⟩ := h
    have b : ∀ m : Int, n ≠ m → (n == m) = false := fun m h => by simpa using h
    have j1 := b _ k1
    have j2 := b _ k2
    have j3 := b _ k3
    have j4 := b _ k4
    have j5 := b _ k5
    have j6 := b _ k6
    have j7 := b _ k7
    have j12 := b _ k12
    have j13 := b _ k13
    have j14 := b _ k14
    have j15 := b _ k15
    have j16 := b _ k16
    clear b
    by_cases h8 : 8 ≤ n
    · have d1 : decide (8 ≤ n) = true := by simpa using h8
      have d2 : decide (n < 12) = false := by simp; omega
      clear k1 k2 k3 k4 k5 k6 k7 k8 k9 k10 k11 k12 k13 k14 k15 k16 h8
      go_enter Try.func33, Try.ntmps33
      go_wp2
      go_ret
      exact ⟨rfl, rfl⟩
    · have d1 : decide (8 ≤ n) = false := by simpa using h8
      clear k1 k2 k3 k4 k5 k6 k7 k8 k9 k10 k11 k12 k13 k14 k15 k16 h8
      go_enter Try.func33, Try.ntmps33
      go_wp2
      go_ret
      exact ⟨rfl, rfl⟩

def writesS (n : Int) : Bool := (kindS n != 0) && (kindS n != 4)
theorem writes_any (n : Int) (w : World) :
    Calls Try.prog 88 #[.int .i64 n] w fun e w' => e = .returned (.bool (writesS n)) ∧ w = w' := by
  unfold writesS
  have hk := kind_any n
  rcases kindS_five n with h | h | h | h | h <;>
    (rw [h] at hk ⊢
     have HK := Lib.hid hk
     clear hk h
     go_enter Try.func88, Try.ntmps88
     go_wp2_with (go_at_call 33; refine (HK.out _).mono ?_; rintro e w' ⟨rfl, rfl⟩)
     go_ret
     exact ⟨rfl, rfl⟩)

/-- May a register have that value? -/
def mayS (n : Int) (v : Int) : Bool :=
  if n = 0 then decide (v < 8) else if n = 5 then decide (v ≤ 2) else if n = 6 then decide (v ≤ 3) else if n = 12 then bits .andNot .u8 v 241 == 0 else if n = 1 ∨ n = 2 ∨ n = 3 ∨ n = 4 ∨ n = 13 then decide (v ≤ 1) else true
theorem and_not_241 (v : Int) (h0 : 0 ≤ v) (h : v < 256) : (bits .andNot .u8 v 241 == 0) = (bits .and .u8 v 14 == 0) := by
  have : ∀ v : Fin 256, (bits .andNot .u8 ((v : Nat) : Int) 241 == 0) = (bits .and .u8 ((v : Nat) : Int) 14 == 0) := by decide +kernel
  have h2 := this ⟨v.toNat, by omega⟩
  simp only at h2
  rwa [show ((v.toNat : Nat) : Int) = v by omega] at h2

set_option maxRecDepth 100000 in
set_option maxHeartbeats 4000000 in
theorem may_any (n : Int) (v : Int) (w : World) :
    Calls Try.prog 89 #[.int .i64 n, .int .u8 v] w fun e w' => e = .returned (.bool (mayS n v)) ∧ w = w' := by
  by_cases h : n ∈ [(0 : Int), 5, 6, 12, 1, 2, 3, 4, 13]
  · simp only [List.mem_cons, List.not_mem_nil, or_false] at h
    rcases h with rfl | rfl | rfl | rfl | rfl | rfl | rfl | rfl | rfl <;>
      (go_enter Try.func89, Try.ntmps89
       go_wp2
       go_ret
       exact ⟨rfl, rfl⟩)
  · simp only [List.mem_cons, List.not_mem_nil, or_false, not_or] at h
    obtain ⟨k1, k2, k3, k4, k5, k6, k7, k8, k9⟩ := h
    have hr : mayS n v = true := by unfold mayS; simp [*]
    rw [hr]
    have b : ∀ m : Int, n ≠ m → (n == m) = false := fun m h => by simpa using h
    have j1 := b _ k1
    have j2 := b _ k2
    have j3 := b _ k3
    have j4 := b _ k4
    have j5 := b _ k5
    have j6 := b _ k6
    have j7 := b _ k7
    have j8 := b _ k8
    have j9 := b _ k9
    clear b k1 k2 k3 k4 k5 k6 k7 k8 k9 hr
    go_enter Try.func89, Try.ntmps89
    go_wp2
    go_ret
    exact ⟨rfl, rfl⟩

/-! ### the file: 64 cells -/
def u8i (l : List Int) : List Value := l.map (Value.int .u8)
def FileAt (T : TypeId) (w : World) (g : Nat) (vs : List Int) : Prop := HasB w g (u8i vs).toArray T ∧ vs.length = 64
theorem FileAt.lt {T : TypeId} {w : World} {g : Nat} {vs : List Int} (h : FileAt T w g vs) : g < w.heap.size := h.1.lt
theorem FileAt.cell {T : TypeId} {w : World} {g : Nat} {vs : List Int} (h : FileAt T w g vs) (n : Nat) (hn : n < 64) : w.cell? ⟨g, n, none⟩ = some (.int .u8 (vs.getD n 0)) := by
  have hl : n < vs.length := by rw [h.2]; exact hn
  rw [h.1.at n]
  simp [u8i, List.getD, hl]
theorem FileAt.free {T : TypeId} {w : World} {g : Nat} {vs : List Int} (h : FileAt T w g vs) (n : Nat) : w.frozen? ⟨g, n, none⟩ = false := h.1.free n
theorem FileAt.set {T : TypeId} {w : World} {g : Nat} {vs : List Int} (h : FileAt T w g vs) (n : Nat) (v : Int) : FileAt T (w.setCell ⟨g, n, none⟩ (.int .u8 v)) g (vs.set n v) := by
  refine ⟨?_, by simp [h.2]⟩
  have := h.1.set n (.int .u8 v)
  rw [show (u8i (vs.set n v)).toArray = ((u8i vs).toArray.setIfInBounds n (.int .u8 v)) by simp [u8i, List.map_set]]
  exact this
theorem FileAt.below {T : TypeId} {w w' : World} {g : Nat} {vs : List Int} (h : FileAt T w g vs) (hb : Below w.heap.size w w') : FileAt T w' g vs := ⟨h.1.below hb h.1.lt, h.2⟩
theorem FileAt.kept {T : TypeId} {w w' : World} {g : Nat} {vs : List Int} (h : FileAt T w g vs) {row : Option Nat} (hg : w.grownBy w' row) (hne : some g ≠ row) : FileAt T w' g vs := ⟨h.1.kept hg hne, h.2⟩
theorem FileAt.drew {T : TypeId} {w : World} {g : Nat} {vs : List Int} (h : FileAt T w g vs) : FileAt T w.drew g vs := h
def zeros64 : List Int := List.replicate 64 0

abbrev RFile := FileAt 134

set_option maxRecDepth 100000 in
theorem rnew_any (w : World) :
    Calls Try.prog 34 #[] w fun e w' => (e = .returned (.pointer (some ⟨w.heap.size, 0, none⟩)) ∧ RFile w' w.heap.size zeros64) ∧ Below w.heap.size w w' := by
  go_enter Try.func34, Try.ntmps34
  go_wp2
  go_ret
  exact ⟨⟨rfl, HasB.new w _ _, by simp [zeros64]⟩, (Below.refl _ _).alloc (Nat.le_refl _) _⟩

/-- What Write does: the error, the values. -/
def writeS (vs : List Int) (n v : Int) : Int × List Int :=
  if writesS n = false then (2, vs)
  else if mayS n v = false then (1, vs)
  else if kindS n = 2 then (0, vs)
  else if kindS n = 3 then
    (if n = 6 ∨ n = 13 then (if bits .andNot .u8 (vs.getD n.toNat 0) v ≠ 0 then (22, vs) else (0, vs.set n.toNat v))
     else if vs.getD 13 0 ≠ 0 then (22, vs) else (0, vs.set n.toNat v))
  else (0, vs.set n.toNat v)

theorem again_any (g : Nat) (vs : List Int) (n : Nat) (v : Int) (w : World) (hf : RFile w g vs) (hn : n < 64) :
    Calls Try.prog 90 #[.pointer (some ⟨g, 0, none⟩), .int .i64 (n : Int), .int .u8 v] w fun e w' => (e = .returned (.int .i64 0) ∧ RFile w' g (vs.set n v)) ∧ w.grownBy w' (some g) := by
  have hc := hf.cell n hn
  have hfr := hf.free n
  have t1 : (0 : Int) ≤ (n : Int) := by omega
  have t2 : (n : Int) < 64 := by omega
  have HF := Lib.hid (hf.set n v)
  clear hf
  go_enter Try.func90, Try.ntmps90
  go_wp2
  go_ret
  exact ⟨⟨rfl, HF.out⟩, gb_set (gb_refl _ _) _ _⟩

end Go.Proofs.Ytjjeopanffcbiaa
