/- Arguments: a shape by value, four numbers by value. -/
import Derived.Test.YteclcciionjjcaaGeomA
import Derived.OpenShut
namespace Go.Proofs.Yteclcciionjjcaa
open Go.ChangeShapes Go.WideShapes Go.Deep Go.RowKit
set_option linter.unusedVariables false

theorem cfg_cells : Try.prog.cellsOf 23 = 9 := by kernel_rfl
theorem int_cells : Try.prog.cellsOf 3 = 1 := by kernel_rfl

section
variable {H : Type} {enc : TypeId × Value → H} {w : World}

set_option maxRecDepth 100000 in
theorem cfg_of_trod {n : Nat} {cs : List Value} {y : DataW H × List MemPlace} (h : DataW.trod enc Try.prog w 0 (fun _ => true) true n 23 cs = some y) : ∃ c : Cfg, cs = c.cells ∧ c.wf := by
  obtain ⟨hlen, m, hf⟩ := struct_fields Try.underlying23 (by kernel_rfl) (by kernel_rfl) h
  match cs, hlen with
  | [v0, v1, v2, v3, v4, v5, v6, v7, v8], _ =>
    obtain ⟨z0, h0⟩ := hf 0 v0 rfl _ rfl
    obtain ⟨z1, h1⟩ := hf 1 v1 rfl _ rfl
    obtain ⟨z2, h2⟩ := hf 2 v2 rfl _ rfl
    obtain ⟨z3, h3⟩ := hf 3 v3 rfl _ rfl
    obtain ⟨z4, h4⟩ := hf 4 v4 rfl _ rfl
    obtain ⟨z5, h5⟩ := hf 5 v5 rfl _ rfl
    obtain ⟨z6, h6⟩ := hf 6 v6 rfl _ rfl
    obtain ⟨z7, h7⟩ := hf 7 v7 rfl _ rfl
    obtain ⟨z8, h8⟩ := hf 8 v8 rfl _ rfl
    obtain ⟨n0, e0, _, w0⟩ := DataW.trod_int Try.underlying3 h0
    obtain ⟨n1, e1, _, w1⟩ := DataW.trod_int Try.underlying3 h1
    obtain ⟨n2, e2, _, w2⟩ := DataW.trod_int Try.underlying3 h2
    obtain ⟨n3, e3, _, w3⟩ := DataW.trod_int Try.underlying3 h3
    obtain ⟨n4, e4, _, w4⟩ := DataW.trod_int Try.underlying3 h4
    obtain ⟨n5, e5, _, w5⟩ := DataW.trod_int Try.underlying3 h5
    obtain ⟨n6, e6, _, w6⟩ := DataW.trod_int Try.underlying3 h6
    obtain ⟨n7, e7, _, w7⟩ := DataW.trod_int Try.underlying3 h7
    obtain ⟨n8, e8, _, w8⟩ := DataW.trod_int Try.underlying3 h8
    simp only [List.cons.injEq, and_true] at e0 e1 e2 e3 e4 e5 e6 e7 e8
    subst e0 e1 e2 e3 e4 e5 e6 e7 e8
    exact ⟨⟨n0, n1, n2, n3, n4, n5, n6, n7, n8⟩, rfl, bounds_i64 w0, bounds_i64 w1, bounds_i64 w2, bounds_i64 w3, bounds_i64 w4, bounds_i64 w5, bounds_i64 w6, bounds_i64 w7, bounds_i64 w8⟩

set_option maxRecDepth 100000 in
theorem open_cfg {r : Reach} {b0 : Nat} {v : Value} {d : DataW H} {ps : List MemPlace} (hval : Value.okWide Try.prog w r b0 23 v) (hd : DataW.Trod enc Try.prog w 0 (fun _ => true) true 23 v d ps) :
    ∃ c : Cfg, v = .agg #[.int .i64 c.blocks, .int .i64 c.pages, .int .i64 c.sector, .int .i64 c.user, .int .i64 c.boot, .int .i64 c.rpa, .int .i64 c.group, .int .i64 c.cache, .int .i64 c.spare] ∧ c.wf := by
  obtain ⟨cs, rfl, hsz⟩ := okWide_struct Try.underlying23 hval
  obtain ⟨fuel, hf⟩ := hd
  obtain ⟨l⟩ := cs
  obtain ⟨c, hc, hw⟩ := cfg_of_trod hf
  have hl : l = c.cells := by simpa [Value.cells] using hc
  subst hl
  exact ⟨c, rfl, hw⟩

end

end Go.Proofs.Yteclcciionjjcaa
