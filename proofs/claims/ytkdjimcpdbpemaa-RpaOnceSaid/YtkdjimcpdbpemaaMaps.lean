/- Maps whose keys are structs of two numbers: what a map's block holds, said as a set of entries. -/
import Derived.Test.YtkdjimcpdbpemaaHeld
import Derived.Maps.Own
import Derived.DeepKeys4
import Derived.MapKept
namespace Go.Proofs.Ytkdjimcpdbpemaa
open Go Go.RowKit Go.Maps
open Go.ChangeMaps (setBlock heap_setBlock_same heap_setBlock_other)
set_option linter.unusedVariables false

section
variable {α : Type} {P : Program} {k : TypeId} {enc : α → Value × Value} {w w' : World} {b : Nat} {xs : List α}

/-- The block b is a map that holds the entries xs, in whatever order. -/
def MapHas (enc : α → Value × Value) (w : World) (b : Nat) (xs : List α) : Prop :=
  ∃ es clock, w.heap[b]? = some (.map es clock) ∧ (∀ e ∈ es.toList, ∃ x ∈ xs, enc x = (e.key, e.val)) ∧ ∀ x ∈ xs, ∃ e ∈ es.toList, enc x = (e.key, e.val)

theorem MapHas.congr (h : MapHas enc w b xs) {ys : List α} (hm : ∀ x, x ∈ xs ↔ x ∈ ys) : MapHas enc w b ys := by
  obtain ⟨es, c, hb, h1, h2⟩ := h
  refine ⟨es, c, hb, fun e he => ?_, fun x hx => h2 x ((hm x).2 hx)⟩
  obtain ⟨x, hx, h⟩ := h1 e he
  exact ⟨x, (hm x).1 hx, h⟩

theorem MapHas.made (w : World) : MapHas enc (w.alloc (.map #[] 0)) w.heap.size [] :=
  ⟨#[], 0, (MapKept.heap_alloc w _).1, by simp, by simp⟩

theorem MapHas.lt (h : MapHas enc w b xs) : b < w.heap.size := by
  obtain ⟨es, clock, hb, _⟩ := h
  exact (Array.getElem?_eq_some_iff.1 hb).1

theorem MapHas.below (h : MapHas enc w b xs) (hb : Below w.heap.size w w') : MapHas enc w' b xs := by
  have hlt := h.lt
  obtain ⟨es, c, h0, h1, h2⟩ := h
  exact ⟨es, c, by rw [hb.block b hlt]; exact h0, h1, h2⟩

theorem MapHas.drew (h : MapHas enc w b xs) : MapHas enc w.drew b xs := h

/-- Every key of the entries is one. -/
def KeysIn (P : Program) (k : TypeId) (enc : α → Value × Value) : Prop := ∀ x, ∃ l, keyOf P k (enc x).1 = some l

theorem MapHas.put (h : MapHas enc w b xs) (K : Keyed P k) {t e : TypeId} (ht : P.underlying t = some (.map k e)) (hk : ∀ y ∈ xs, ∃ l, keyOf P k (enc y).1 = some l) (x : α) (hx : ∃ l, keyOf P k (enc x).1 = some l) (hnew : ∀ y ∈ xs, (enc y).1 ≠ (enc x).1) :
    ∃ w', (Instr.mapUpdate t (.map (some b)) (enc x).1 (enc x).2).run P w = .ok () w' ∧ MapHas enc w' b (x :: xs) ∧ w.grownBy w' (some b) := by
  obtain ⟨es, clock, hb, h1, h2⟩ := h
  obtain ⟨lx, hlx⟩ := hx
  have hkeys : ∀ e ∈ es.toList, ∃ l, keyOf P k e.key = some l := fun e he => by
    obtain ⟨y, hy, e1⟩ := h1 e he
    obtain ⟨l, hl⟩ := hk y hy
    rw [e1] at hl
    exact ⟨l, hl⟩
  rcases K.find w hlx es.toList hkeys with ⟨r1, r2⟩ | ⟨j, e0, r1, r2, r3⟩
  · refine ⟨setBlock w b (.map (es.push ⟨(enc x).1, (enc x).2, clock⟩) (clock + 1)), ?_, ⟨_, _, heap_setBlock_same hb _, ?_, ?_⟩, ⟨rfl, rfl, rfl, by simp [setBlock], fun i _ hi => heap_setBlock_other hb _ (fun e => hi (by rw [e]))⟩⟩
    · simp [Instr.mapUpdate, run_underlying ht, MapKept.run_getObj_map hb, K.check w false hlx, r1, MapKept.run_setObj_map _ hb, Result.andThen, setBlock]
    · intro e he
      simp only [Array.toList_push, List.mem_append, List.mem_singleton] at he
      rcases he with he | rfl
      · obtain ⟨y, hy, e1⟩ := h1 e he
        exact ⟨y, by simp [hy], e1⟩
      · exact ⟨x, by simp, rfl⟩
    · intro y hy
      rcases List.mem_cons.1 hy with rfl | hy
      · exact ⟨⟨(enc y).1, (enc y).2, clock⟩, by simp, rfl⟩
      · obtain ⟨e, he, e1⟩ := h2 y hy
        exact ⟨e, by simp [Array.mem_toList_iff.1 he], e1⟩
  · exfalso
    have hm0 : e0 ∈ es.toList := List.mem_of_getElem? r2
    obtain ⟨y, hy, e1⟩ := h1 e0 hm0
    exact hnew y hy (by rw [e1]; exact r3)

/-- A lookup that finds. -/
theorem MapHas.found (h : MapHas enc w b xs) (K : Keyed P k) {t e : TypeId} (ht : P.underlying t = some (.map k e)) (hk : ∀ y ∈ xs, ∃ l, keyOf P k (enc y).1 = some l) (x : α) (hx : x ∈ xs) (hone : ∀ y ∈ xs, (enc y).1 = (enc x).1 → (enc y).2 = (enc x).2) :
    (Instr.lookup t (.map (some b)) (enc x).1 true).run P w = .ok (.tuple #[(enc x).2, .bool true]) w := by
  obtain ⟨es, clock, hb, h1, h2⟩ := h
  obtain ⟨lx, hlx⟩ := hk x hx
  have hkeys : ∀ e ∈ es.toList, ∃ l, keyOf P k e.key = some l := fun e he => by
    obtain ⟨y, hy, e1⟩ := h1 e he
    obtain ⟨l, hl⟩ := hk y hy
    rw [e1] at hl
    exact ⟨l, hl⟩
  rcases K.find w hlx es.toList hkeys with ⟨r1, r2⟩ | ⟨j, e0, r1, r2, r3⟩
  · exfalso
    obtain ⟨e, he, e1⟩ := h2 x hx
    exact r2 e he (by rw [e1])
  · have hm0 : e0 ∈ es.toList := List.mem_of_getElem? r2
    obtain ⟨y, hy, e1⟩ := h1 e0 hm0
    have hv : e0.val = (enc x).2 := by
      have := hone y hy (by rw [e1]; exact r3)
      rw [e1] at this; exact this
    simp [Instr.lookup, run_underlying ht, MapKept.run_getObj_map hb, K.check w _ hlx, r1, Result.andThen, hv]

/-- A lookup that does not find. -/
theorem MapHas.lacks (h : MapHas enc w b xs) (K : Keyed P k) {t e : TypeId} (ht : P.underlying t = some (.map k e)) (hk : ∀ y ∈ xs, ∃ l, keyOf P k (enc y).1 = some l) {z : Value} (hz : (zeroValue e).run P w = .ok z w) {key : Value} (hkey : ∃ l, keyOf P k key = some l) (hno : ∀ y ∈ xs, (enc y).1 ≠ key) :
    (Instr.lookup t (.map (some b)) key true).run P w = .ok (.tuple #[z, .bool false]) w := by
  obtain ⟨es, clock, hb, h1, h2⟩ := h
  obtain ⟨lx, hlx⟩ := hkey
  have hkeys : ∀ e ∈ es.toList, ∃ l, keyOf P k e.key = some l := fun e he => by
    obtain ⟨y, hy, e1⟩ := h1 e he
    obtain ⟨l, hl⟩ := hk y hy
    rw [e1] at hl
    exact ⟨l, hl⟩
  rcases K.find w hlx es.toList hkeys with ⟨r1, r2⟩ | ⟨j, e0, r1, r2, r3⟩
  · simp [Instr.lookup, run_underlying ht, MapKept.run_getObj_map hb, K.check w _ hlx, r1, hz, Result.andThen]
  · exfalso
    have hm0 : e0 ∈ es.toList := List.mem_of_getElem? r2
    obtain ⟨y, hy, e1⟩ := h1 e0 hm0
    exact hno y hy (by rw [e1]; exact r3)

end
theorem wpList_mapUpdate_has {α : Type} {P : Program} {w : World} {ops : Array Oper} {rest : List Oper} {o : Oper} {a : Act} {Q : Exit → Act → World → Prop}
    (hg : o.guard = none) (m x v : Operand) (t : TypeId) (hop : o.op = Op.mapUpdate t m x v) (k e : TypeId) (K : Keyed P k) (ht : P.underlying t = some (.map k e)) (enc : α → Value × Value) (b : Nat) (xs : List α)
    (hm : a.eval m = .map (some b)) (h : MapHas enc w b xs) (y : α) (hx : a.eval x = (enc y).1) (hv : a.eval v = (enc y).2) (hk : ∀ y ∈ xs, ∃ l, keyOf P k (enc y).1 = some l) (hy : ∃ l, keyOf P k (enc y).1 = some l) (hnew : ∀ z ∈ xs, (enc z).1 ≠ (enc y).1)
    (hK : ∀ w', MapHas enc w' b (y :: xs) → w.grownBy w' (some b) → wpList P ops Q rest (a.put o.dst undef) w') :
    wpList P ops Q (o :: rest) a w := by
  refine wpList_plain hg fun K' hK' => ?_
  obtain ⟨w', hrun, r1, r2⟩ := h.put K ht hk y hy hnew
  unfold Oper.wp
  simp [execOp, hop, hm, hx, hv, hrun, Result.andThen]
  exact hK' _ _ (hK w' r1 r2)

end Go.Proofs.Ytkdjimcpdbpemaa
