/- rows of bytes: a slice of its own whose elements are slices of bytes; what an append keeps. -/
import Derived.Test.YteclcciionjjcaaKit
import Derived.Maps.AppendAt
import Derived.Deep.AppendLies
namespace Go.Proofs.Yteclcciionjjcaa
open Go.RowKit
set_option linter.unusedVariables false

theorem Bytes.grown {w w' : World} {a : Option Addr} {len : Nat} {l : List Nat} (h : Bytes w a len l) {row : Option Nat} (hg : w.grownBy w' row) (hne : 0 < len → ∀ ad, a = some ad → some ad.block ≠ row) : Bytes w' a len l :=
  ⟨h.1, h.2.1, fun h0 => by
    obtain ⟨b, off, he, hlt, hc⟩ := h.2.2 h0
    refine ⟨b, off, he, Nat.lt_of_lt_of_le hlt hg.size, fun i hi => (hg.cell_far ⟨b, off + i, none⟩ hlt (hne h0 ⟨b, off, none⟩ he)).trans (hc i hi)⟩⟩

/-- One element: bytes that lie at B or behind, in another block than the row's own. -/
def ElemAt (B : Nat) (w : World) (own : Option Nat) (x : List Nat) (u : Value) : Prop :=
  ∃ a cap, u = .slice a x.length cap ∧ Bytes w a x.length x ∧ (a = none → cap = 0) ∧ x.length ≤ cap ∧ (0 < x.length → ∀ ad, a = some ad → B ≤ ad.block ∧ ad.block < w.heap.size ∧ some ad.block ≠ own)

/-- A slice of its own (elements of the type e, a cell each) whose elements are the rows ls. -/
def RowsAt (B : Nat) (e : TypeId) (w : World) (v : Value) (ls : List (List Nat)) : Prop :=
  ∃ us, w.ownsRow B e 1 v ls.length us ∧ us.length = ls.length ∧ ∀ (i : Nat) (x : List Nat), ls[i]? = some x → ∃ u : Value, (us[i]? : Option Value) = some u ∧ ElemAt B w v.ownBlock x u

theorem ElemAt.below {B : Nat} {w w' : World} {own : Option Nat} {x : List Nat} {u : Value} (h : ElemAt B w own x u) (hb : Below w.heap.size w w') : ElemAt B w' own x u := by
  obtain ⟨a, cap, h1, h2, h3, h4, h5⟩ := h
  exact ⟨a, cap, h1, h2.below hb (Nat.le_refl _), h3, h4, fun q ad h => ⟨(h5 q ad h).1, Nat.lt_of_lt_of_le (h5 q ad h).2.1 hb.size, (h5 q ad h).2.2⟩⟩

theorem RowsAt.below {B : Nat} {e : TypeId} {w w' : World} {v : Value} {ls : List (List Nat)} (h : RowsAt B e w v ls) (hb : Below w.heap.size w w') : RowsAt B e w' v ls := by
  obtain ⟨us, h1, h2, h3⟩ := h
  refine ⟨us, own_below h1 hb (Nat.le_refl _), h2, fun i x hx => ?_⟩
  obtain ⟨u, hu, he⟩ := h3 i x hx
  exact ⟨u, hu, he.below hb⟩

theorem rows_grown {B : Nat} {e : TypeId} {w w' : World} {v v' : Value} {ls : List (List Nat)} {us : List Value} {x : List Nat} {u : Value}
    (h2 : us.length = ls.length) (h3 : ∀ (i : Nat) (x : List Nat), ls[i]? = some x → ∃ u : Value, (us[i]? : Option Value) = some u ∧ ElemAt B w v.ownBlock x u) (hx : ElemAt B w v.ownBlock x u)
    (hg : w.grownBy w' v.ownBlock) (hat : v'.ownBlock = v.ownBlock ∨ v'.ownBlock = some w.heap.size) :
    ∀ (i : Nat) (y : List Nat), (ls ++ [x])[i]? = some y → ∃ z : Value, ((us ++ [u])[i]? : Option Value) = some z ∧ ElemAt B w' v'.ownBlock y z := by
  have key : ∀ y z, ElemAt B w v.ownBlock y z → ElemAt B w' v'.ownBlock y z := by
    intro y z ⟨a, cap, k1, k2, k3, k4, k5⟩
    refine ⟨a, cap, k1, k2.grown hg (fun p ad h => (k5 p ad h).2.2), k3, k4, fun p ad h => ⟨(k5 p ad h).1, Nat.lt_of_lt_of_le (k5 p ad h).2.1 hg.size, ?_⟩⟩
    rcases hat with q | q
    · rw [q]; exact (k5 p ad h).2.2
    · rw [q]
      have := (k5 p ad h).2.1
      intro hh
      have := Option.some.inj hh
      omega
  intro i y hy
  by_cases hi : i < ls.length
  · rw [List.getElem?_append_left hi] at hy
    obtain ⟨z, hz, he⟩ := h3 i y hy
    exact ⟨z, by rw [List.getElem?_append_left (by omega)]; exact hz, key _ _ he⟩
  · rw [List.getElem?_append_right (by omega)] at hy
    have h0 : i - ls.length = 0 := by
      rcases Nat.eq_zero_or_pos (i - ls.length) with q | q
      · exact q
      · rw [List.getElem?_eq_none (by simp; omega)] at hy; simp at hy
    rw [h0] at hy
    simp at hy
    subst hy
    exact ⟨u, by rw [List.getElem?_append_right (by omega), h2, h0]; rfl, key _ _ hx⟩

theorem RowsAt.grown {B : Nat} {e : TypeId} {w w' : World} {v v' : Value} {ls : List (List Nat)} {us : List Value} {x : List Nat} {u : Value}
    (h2 : us.length = ls.length) (h3 : ∀ (i : Nat) (x : List Nat), ls[i]? = some x → ∃ u : Value, (us[i]? : Option Value) = some u ∧ ElemAt B w v.ownBlock x u) (hx : ElemAt B w v.ownBlock x u)
    (hown : w'.ownsRow B e 1 v' (ls.length + 1) (us ++ [u])) (hg : w.grownBy w' v.ownBlock) (hat : v'.ownBlock = v.ownBlock ∨ v'.ownBlock = some w.heap.size) :
    RowsAt B e w' v' (ls ++ [x]) :=
  ⟨us ++ [u], by simpa using hown, by simp [h2], rows_grown (e := e) h2 h3 hx hg hat⟩

theorem RowsAt.nil (B : Nat) (e : TypeId) (w : World) : RowsAt B e w (.slice none 0 0) [] := ⟨[], ⟨rfl, .inl ⟨rfl, rfl⟩⟩, rfl, fun i x h => by simp at h⟩

end Go.Proofs.Yteclcciionjjcaa
