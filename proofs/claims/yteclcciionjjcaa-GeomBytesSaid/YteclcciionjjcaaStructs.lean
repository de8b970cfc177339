/- Structs of one-cell fields: what a datum of one says of its cells; loads of an element of a slice of structs. -/
import Derived.Test.YteclcciionjjcaaKit
import Derived.Deep.Fields
import Derived.ChangeSame
namespace Go.Proofs.Yteclcciionjjcaa
open Go.ChangeShapes Go.WideShapes Go.Deep Go.RowKit
set_option linter.unusedVariables false

section
variable {H : Type} {enc : TypeId × Value → H} {P : Program} {w : World}

/-- A struct's cells, one a field, each read by its own type. -/
theorem struct_fields {base : Nat} {spare : Nat → Bool} {held : Bool} {n : Nat} {e : TypeId} {cs : List Value} {y : DataW H × List MemPlace} {fs : Array Field} (he : P.underlying e = some (.struct fs)) (hone : oneCellFields P fs = true) (hC : P.cellsOf e = fs.size)
    (h : DataW.trod enc P w base spare held n e cs = some y) :
    cs.length = fs.size ∧ ∃ m, ∀ (j : Nat) (v : Value), cs[j]? = some v → ∀ f : Field, fs[j]? = some f → ∃ z, DataW.trod enc P w base spare held m f.type [v] = some z := by
  obtain ⟨xs, m, hn, hy, hlen, hxl, hf⟩ := DataW.trod_struct he h
  refine ⟨by rw [hlen, hC], m, fun j v hv f hj => ?_⟩
  obtain ⟨ho, hk⟩ := hone_of hone j f hj
  have hjl : j < fs.size := (Array.getElem?_eq_some_iff.1 hj).1
  have h1 := hf j f hj
  rw [ho, hk] at h1
  have hjc : j < cs.length := (List.getElem?_eq_some_iff.1 hv).1
  have hone' : (cs.drop j).take 1 = [v] := by
    rw [List.drop_eq_getElem_cons hjc, (List.getElem?_eq_some_iff.1 hv).2]
    rfl
  rw [hone'] at h1
  exact ⟨_, h1.trans (List.getElem?_eq_getElem (by omega))⟩
end

/-- A block of the call's own, cell by cell; none is frozen. -/
def HasB (w : World) (g : Nat) (vs : Array Value) (T : TypeId) : Prop := w.heap[g]? = some (.cells vs T (0, 0))

theorem HasB.lt {w : World} {g : Nat} {vs : Array Value} {T : TypeId} (h : HasB w g vs T) : g < w.heap.size := lt_of_block h
theorem HasB.below {w w' : World} {g B : Nat} {vs : Array Value} {T : TypeId} (h : HasB w g vs T) (hb : Below B w w') (hB : g < B) : HasB w' g vs T := (hb.block g hB).trans h
theorem HasB.at {w : World} {g : Nat} {vs : Array Value} {T : TypeId} (h : HasB w g vs T) (i : Nat) : w.cell? ⟨g, i, none⟩ = vs[i]? := by simp [World.cell?, show w.heap[g]? = _ from h]
theorem HasB.free {w : World} {g : Nat} {vs : Array Value} {T : TypeId} (h : HasB w g vs T) (i : Nat) : w.frozen? ⟨g, i, none⟩ = false := by simp [World.frozen?, show w.heap[g]? = _ from h]
theorem HasB.new (w : World) (vs : Array Value) (T : TypeId) : HasB (w.alloc (.cells vs T)) w.heap.size vs T := by
  show (w.heap.push _)[w.heap.size]? = some _
  simp
theorem HasB.new' {w : World} {g : Nat} (hg : g = w.heap.size) (vs : Array Value) (T : TypeId) : HasB (w.alloc (.cells vs T)) g vs T := hg ▸ HasB.new w vs T
theorem HasB.alloc {w : World} {g : Nat} {vs : Array Value} {T : TypeId} (h : HasB w g vs T) (o : Obj) : HasB (w.alloc o) g vs T := h.below ((Below.refl _ _).alloc (Nat.le_refl _) o) h.lt
theorem HasB.seven {w : World} {g : Nat} {a0 a1 a2 a3 a4 a5 a6 : Value} {T : TypeId} (h : HasB w g #[a0, a1, a2, a3, a4, a5, a6] T) :
    g < w.heap.size ∧ w.cell? ⟨g, 0, none⟩ = some a0 ∧ w.cell? ⟨g, 1, none⟩ = some a1 ∧ w.cell? ⟨g, 2, none⟩ = some a2 ∧ w.cell? ⟨g, 3, none⟩ = some a3 ∧ w.cell? ⟨g, 4, none⟩ = some a4 ∧ w.cell? ⟨g, 5, none⟩ = some a5 ∧ w.cell? ⟨g, 6, none⟩ = some a6 :=
  ⟨h.lt, h.at 0, h.at 1, h.at 2, h.at 3, h.at 4, h.at 5, h.at 6⟩
theorem HasB.free7 {w : World} {g : Nat} {vs : Array Value} {T : TypeId} (h : HasB w g vs T) :
    w.frozen? ⟨g, 0, none⟩ = false ∧ w.frozen? ⟨g, 1, none⟩ = false ∧ w.frozen? ⟨g, 2, none⟩ = false ∧ w.frozen? ⟨g, 3, none⟩ = false ∧ w.frozen? ⟨g, 4, none⟩ = false ∧ w.frozen? ⟨g, 5, none⟩ = false ∧ w.frozen? ⟨g, 6, none⟩ = false :=
  ⟨h.free 0, h.free 1, h.free 2, h.free 3, h.free 4, h.free 5, h.free 6⟩
theorem HasB.set {w : World} {g : Nat} {vs : Array Value} {T : TypeId} (h : HasB w g vs T) (i : Nat) (v : Value) : HasB (w.setCell ⟨g, i, none⟩ v) g (vs.setIfInBounds i v) T := by
  have hlt := h.lt
  have h' : w.heap[g] = .cells vs T (0, 0) := by simpa [HasB, Array.getElem?_eq_getElem hlt] using h
  show (w.heap.modify g _)[g]? = _
  rw [Array.getElem?_eq_getElem (by simpa using hlt), Array.getElem_modify_self, h']
  rfl
theorem HasB.set_other {w : World} {g : Nat} {vs : Array Value} {T : TypeId} (h : HasB w g vs T) {p : Addr} (hp : g ≠ p.block) (v : Value) : HasB (w.setCell p v) g vs T := (Below.heap_setCell _ _ _ _ hp).trans h

/-- A struct of seven cells stored whole. -/
def set7 (w : World) (g : Nat) (a0 a1 a2 a3 a4 a5 a6 : Value) : World :=
  ((((((w.setCell ⟨g, 0, none⟩ a0).setCell ⟨g, 1, none⟩ a1).setCell ⟨g, 2, none⟩ a2).setCell ⟨g, 3, none⟩ a3).setCell ⟨g, 4, none⟩ a4).setCell ⟨g, 5, none⟩ a5).setCell ⟨g, 6, none⟩ a6
theorem HasB.set7 {w : World} {g : Nat} {b0 b1 b2 b3 b4 b5 b6 : Value} {T : TypeId} (h : HasB w g #[b0, b1, b2, b3, b4, b5, b6] T) (a0 a1 a2 a3 a4 a5 a6 : Value) : HasB (set7 w g a0 a1 a2 a3 a4 a5 a6) g #[a0, a1, a2, a3, a4, a5, a6] T := by
  have h' := ((((((h.set 0 a0).set 1 a1).set 2 a2).set 3 a3).set 4 a4).set 5 a5).set 6 a6
  have e : ((((((#[b0, b1, b2, b3, b4, b5, b6].setIfInBounds 0 a0).setIfInBounds 1 a1).setIfInBounds 2 a2).setIfInBounds 3 a3).setIfInBounds 4 a4).setIfInBounds 5 a5).setIfInBounds 6 a6 = #[a0, a1, a2, a3, a4, a5, a6] := by simp
  rw [e] at h'
  exact h'
theorem HasB.set7_other {w : World} {g g' : Nat} {vs : Array Value} {T : TypeId} (h : HasB w g' vs T) (hg : g' ≠ g) (a0 a1 a2 a3 a4 a5 a6 : Value) : HasB (Go.Proofs.Yteclcciionjjcaa.set7 w g a0 a1 a2 a3 a4 a5 a6) g' vs T :=
  ((((((h.set_other hg a0).set_other hg a1).set_other hg a2).set_other hg a3).set_other hg a4).set_other hg a5).set_other hg a6
theorem below_set7 {B : Nat} {W w : World} (h : Below B W w) {g : Nat} (hg : B ≤ g) (a0 a1 a2 a3 a4 a5 a6 : Value) : Below B W (set7 w g a0 a1 a2 a3 a4 a5 a6) :=
  ((((((h.setCell hg a0).setCell hg a1).setCell hg a2).setCell hg a3).setCell hg a4).setCell hg a5).setCell hg a6
theorem below_new {B : Nat} {W w : World} (h : Below B W w) (hB : B ≤ w.heap.size) (o : Obj) : Below B W (w.alloc o) := h.trans ((Below.refl B w).alloc hB o)
theorem below_call {B : Nat} {W w w' : World} (h : Below B W w) (hc : Below w.heap.size w w') (hB : B ≤ w.heap.size) : Below B W w' := h.trans (hc.mono hB)

/-- An element of an array by value. -/
theorem index_arr {P : Program} {w : World} (t e : TypeId) (n : Nat) (cs : Array Value) (k : IntKind) (i : Nat) (v : Value) (h : P.underlying t = some (.array n e)) (hs : ∀ w, (sizeOf e).run P w = .ok 1 w) (ha : ∀ w, (isAgg e).run P w = .ok false w) (hi : i < n) (hv : cs[i]? = some v) :
    (Instr.index t (.agg cs) (.int k i)).run P w = .ok v w := by
  have h0 : (0 : Int) ≤ i ∧ (i : Int) < n := by omega
  simp [Instr.index, run_underlying h, asIntOf, h0, hi, go_sem, hs, ha, hv]

end Go.Proofs.Yteclcciionjjcaa
