/- One block is written, all others that were there stay. -/
import Derived.Test.YteclcciionjjcaaStructs
namespace Go.Proofs.Yteclcciionjjcaa
open Go Go.RowKit
set_option linter.unusedVariables false

theorem gb_refl (w : World) (row : Option Nat) : w.grownBy w row := ⟨rfl, rfl, rfl, Nat.le_refl _, fun _ _ _ => rfl⟩
theorem gb_trans {a b c : World} {row : Option Nat} (h : a.grownBy b row) (k : b.grownBy c row) : a.grownBy c row :=
  ⟨k.os.trans h.os, k.tape.trans h.tape, k.output.trans h.output, Nat.le_trans h.size k.size, fun i hi hne => (k.block i (Nat.lt_of_lt_of_le hi h.size) hne).trans (h.block i hi hne)⟩
theorem gb_below {a b : World} {row : Option Nat} (h : Below a.heap.size a b) : a.grownBy b row := ⟨h.os, h.tape, h.output, h.size, fun i hi _ => h.block i hi⟩
theorem gb_set {a b : World} {g : Nat} (h : a.grownBy b (some g)) (i : Nat) (v : Value) : a.grownBy (b.setCell ⟨g, i, none⟩ v) (some g) :=
  ⟨h.os, h.tape, h.output, by simpa using h.size, fun k hk hne => (Below.heap_setCell b ⟨g, i, none⟩ v k (fun e => hne (by rw [e]))).trans (h.block k hk hne)⟩
theorem gb_drew {a b : World} {row : Option Nat} (h : a.grownBy b row) : a.grownBy b.drew row := ⟨h.os, h.tape, h.output, h.size, h.block⟩
theorem gb_alloc {a b : World} {row : Option Nat} (h : a.grownBy b row) (o : Obj) : a.grownBy (b.alloc o) row := gb_trans h (gb_below ((Below.refl _ _).alloc (Nat.le_refl _) _))
theorem HasB.kept {w w' : World} {g : Nat} {vs : Array Value} {T : TypeId} (h : HasB w g vs T) {row : Option Nat} (hg : w.grownBy w' row) (hne : some g ≠ row) : HasB w' g vs T := (hg.block g h.lt hne).trans h
theorem HasB.drew {w : World} {g : Nat} {vs : Array Value} {T : TypeId} (h : HasB w g vs T) : HasB w.drew g vs T := h
theorem HasB.three {w : World} {g : Nat} {a0 a1 a2 : Value} {T : TypeId} (h : HasB w g #[a0, a1, a2] T) :
    g < w.heap.size ∧ w.cell? ⟨g, 0, none⟩ = some a0 ∧ w.cell? ⟨g, 1, none⟩ = some a1 ∧ w.cell? ⟨g, 2, none⟩ = some a2 :=
  ⟨h.lt, h.at 0, h.at 1, h.at 2⟩
/-- A write to a block that lies at B or behind keeps what lies below. -/
theorem below_gb {B : Nat} {W w w' : World} (h : Below B W w) {g : Nat} (hg : w.grownBy w' (some g)) (hB : B ≤ w.heap.size) (hr : B ≤ g) : Below B W w' := h.grown hg hB (fun k hk => by cases hk; exact hr)

end Go.Proofs.Yteclcciionjjcaa
