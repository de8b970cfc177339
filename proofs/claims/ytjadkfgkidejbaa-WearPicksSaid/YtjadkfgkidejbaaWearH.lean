/- An argument of type []wear.Block. -/
import Derived.Test.YtjadkfgkidejbaaWearC
namespace Go.Proofs.Ytjadkfgkidejbaa
open Go.ChangeShapes Go.WideShapes Go.Deep Go.RowKit
set_option linter.unusedVariables false

theorem blk_of_trod {H : Type} {enc : TypeId × Value → H} {w : World} {n : Nat} {cs : List Value} {y : DataW H × List MemPlace} (h : DataW.trod enc Try.prog w 0 (fun _ => true) true n 57 cs = some y) : ∃ x : Blk, cs = x.cells ∧ x.wf := by
  obtain ⟨hlen, m, hf⟩ := struct_fields Try.underlying57 (by kernel_rfl) (by kernel_rfl) h
  match cs, hlen with
  | [v0, v1, v2, v3, v4, v5, v6], _ =>
    obtain ⟨z0, h0⟩ := hf 0 v0 rfl _ rfl
    obtain ⟨z1, h1⟩ := hf 1 v1 rfl _ rfl
    obtain ⟨z2, h2⟩ := hf 2 v2 rfl _ rfl
    obtain ⟨z3, h3⟩ := hf 3 v3 rfl _ rfl
    obtain ⟨z4, h4⟩ := hf 4 v4 rfl _ rfl
    obtain ⟨z5, h5⟩ := hf 5 v5 rfl _ rfl
    obtain ⟨z6, h6⟩ := hf 6 v6 rfl _ rfl
    obtain ⟨n0, e0, _, w0⟩ := DataW.trod_int Try.underlying3 h0
    obtain ⟨n1, e1, _, w1⟩ := DataW.trod_int Try.underlying3 h1
    obtain ⟨n2, e2, _, w2⟩ := DataW.trod_int Try.underlying3 h2
    obtain ⟨n3, e3, _, w3⟩ := DataW.trod_int Try.underlying3 h3
    obtain ⟨b4, e4, _⟩ := DataW.trod_bool Try.underlying4 h4
    obtain ⟨b5, e5, _⟩ := DataW.trod_bool Try.underlying4 h5
    obtain ⟨b6, e6, _⟩ := DataW.trod_bool Try.underlying4 h6
    simp only [List.cons.injEq, and_true] at e0 e1 e2 e3 e4 e5 e6
    subst e0 e1 e2 e3 e4 e5 e6
    exact ⟨⟨n0, n1, n2, n3, b4, b5, b6⟩, rfl, bounds_i64 w0, bounds_i64 w1, bounds_i64 w2, bounds_i64 w3⟩

set_option maxRecDepth 100000 in
theorem blk_cells : Try.prog.cellsOf 57 = 7 := by kernel_rfl

set_option maxRecDepth 100000 in
theorem open_blks {H : Type} {enc : TypeId × Value → H} {w : World} {r : Reach} {b0 : Nat} {v : Value} {d : DataW H} {ps : List MemPlace} (hval : Value.okWide Try.prog w r b0 42 v) (hd : DataW.Trod enc Try.prog w 0 (fun _ => true) true 42 v d ps) :
    ∃ a len cap xs, v = .slice a len cap ∧ len ≤ cap ∧ cap ≤ maxLen ∧ (a = none → cap = 0) ∧ Rws 7 Blk.cells w a len xs ∧ (∀ x ∈ xs, Blk.wf x) ∧ (d = .nil ∧ len = 0 ∨ ∃ elems spare, d = .slice elems spare ∧ elems.length = len ∧ spare.length = cap - len) :=
  open_rows (sz := 7) (cf := Blk.cells) (wf := Blk.wf) Try.underlying42 blk_cells (by decide) (fun _ => rfl) (fun n cs y h => blk_of_trod h) hval hd

theorem len_i64 {len cap : Nat} (h : len ≤ cap) (hc : cap ≤ maxLen) : len ≤ 9223372036854775807 := by unfold maxLen at hc; omega

end Go.Proofs.Ytjadkfgkidejbaa
