/- areas: settings that come in. -/
import Derived.Test.YtdbnadhmkfhdkaaAreasE
import Derived.Test.YtdbnadhmkfhdkaaGeomG
namespace Go.Proofs.Ytdbnadhmkfhdkaa
open Go Go.RowKit Go.ChangeShapes Go.WideShapes Go.Deep
set_option linter.unusedVariables false

section
variable {H : Type} {enc : TypeId × Value → H} {w : World}
theorem stg_cells : Try.prog.cellsOf 36 = 6 := by kernel_rfl
theorem u8_cells : Try.prog.cellsOf 5 = 1 := by kernel_rfl
theorem bool_cells : Try.prog.cellsOf 4 = 1 := by kernel_rfl
set_option maxRecDepth 100000 in
theorem four_of_trod {n : Nat} {cs : List Value} {y : DataW H × List MemPlace} (h : DataW.trod enc Try.prog w 0 (fun _ => true) true n 34 cs = some y) : ∃ a b c e : Int, cs = [.int .i64 a, .int .i64 b, .int .i64 c, .int .i64 e] ∧ I64 a ∧ I64 b ∧ I64 c ∧ I64 e := by
  obtain ⟨xs, m, _, _, hlen, hx, hg⟩ := DataW.trod_array Try.underlying34 h
  rw [four_cells] at hlen
  match cs, hlen with
  | [v0, v1, v2, v3], _ =>
    have g := fun i (hi : i < 4) => hg i hi
    simp only [int_cells] at g
    have get : ∀ i (hi : i < 4), ∃ z, xs[i]? = some z := fun i hi => ⟨_, List.getElem?_eq_getElem (by omega)⟩
    obtain ⟨y0, h0⟩ := get 0 (by omega)
    obtain ⟨y1, h1⟩ := get 1 (by omega)
    obtain ⟨y2, h2⟩ := get 2 (by omega)
    obtain ⟨y3, h3⟩ := get 3 (by omega)
    obtain ⟨n0, e0, _, w0⟩ := DataW.trod_int Try.underlying3 ((g 0 (by omega)).trans h0)
    obtain ⟨n1, e1, _, w1⟩ := DataW.trod_int Try.underlying3 ((g 1 (by omega)).trans h1)
    obtain ⟨n2, e2, _, w2⟩ := DataW.trod_int Try.underlying3 ((g 2 (by omega)).trans h2)
    obtain ⟨n3, e3, _, w3⟩ := DataW.trod_int Try.underlying3 ((g 3 (by omega)).trans h3)
    simp at e0 e1 e2 e3
    subst e0 e1 e2 e3
    exact ⟨n0, n1, n2, n3, rfl, bounds_i64 w0, bounds_i64 w1, bounds_i64 w2, bounds_i64 w3⟩
set_option maxRecDepth 100000 in
theorem stg_of_trod {n : Nat} {cs : List Value} {y : DataW H × List MemPlace} (h : DataW.trod enc Try.prog w 0 (fun _ => true) true n 36 cs = some y) : ∃ s : Stg, cs = s.cells ∧ s.wf := by
  obtain ⟨xs, m, _, _, hlen, hx, hf⟩ := DataW.trod_struct Try.underlying36 h
  rw [stg_cells] at hlen
  match cs, hlen with
  | [v0, v1, v2, v3, v4, v5], _ =>
    have get : ∀ i (hi : i < 3), ∃ z, xs[i]? = some z := fun i hi => ⟨_, List.getElem?_eq_getElem (by rw [hx]; exact hi)⟩
    obtain ⟨y0, h0⟩ := get 0 (by omega)
    obtain ⟨y1, h1⟩ := get 1 (by omega)
    obtain ⟨y2, h2⟩ := get 2 (by omega)
    have f0 := hf 0 _ rfl
    have f1 := hf 1 _ rfl
    have f2 := hf 2 _ rfl
    rw [h0] at f0
    rw [h1] at f1
    rw [h2] at f2
    obtain ⟨a, b, d, e, he, wa, wb, wd, we⟩ := four_of_trod f0
    obtain ⟨v, ev, _, wv⟩ := DataW.trod_int Try.underlying5 f1
    obtain ⟨dn, ed, _⟩ := DataW.trod_bool Try.underlying4 f2
    have he' : [v0, v1, v2, v3] = [.int .i64 a, .int .i64 b, .int .i64 d, .int .i64 e] := he
    have ev' : [v4] = [.int .u8 v] := ev
    have ed' : [v5] = [.bool dn] := ed
    simp only [List.cons.injEq, and_true] at he' ev' ed'
    obtain ⟨rfl, rfl, rfl, rfl⟩ := he'
    subst ev' ed'
    have hv := bounds_u8 wv
    exact ⟨⟨a, b, d, e, v, dn⟩, rfl, wa, wb, wd, we, by show 0 ≤ v; omega, by show v < 256; omega⟩
set_option maxRecDepth 100000 in
theorem open_stg {r : Reach} {b0 : Nat} {v : Value} {d : DataW H} {ps : List MemPlace} (hval : Value.okWide Try.prog w r b0 36 v) (hd : DataW.Trod enc Try.prog w 0 (fun _ => true) true 36 v d ps) :
    ∃ s : Stg, v = .agg #[.int .i64 s.a, .int .i64 s.b, .int .i64 s.d, .int .i64 s.e, .int .u8 s.v, .bool s.dn] ∧ s.wf := by
  obtain ⟨cs, rfl, hsz⟩ := okWide_struct Try.underlying36 hval
  obtain ⟨fuel, hf⟩ := hd
  obtain ⟨l⟩ := cs
  obtain ⟨c, hc, hw⟩ := stg_of_trod hf
  have hl : l = c.cells := by simpa [Value.cells] using hc
  subst hl
  exact ⟨c, rfl, hw⟩
set_option maxRecDepth 100000 in
theorem open_stgs {r : Reach} {b0 : Nat} {v : Value} {d : DataW H} {ps : List MemPlace} (hval : Value.okWide Try.prog w r b0 37 v) (hd : DataW.Trod enc Try.prog w 0 (fun _ => true) true 37 v d ps) :
    ∃ a len cap xs, v = .slice a len cap ∧ len ≤ cap ∧ cap ≤ maxLen ∧ (a = none → cap = 0) ∧ Rws 6 Stg.cells w a len xs ∧ (∀ x ∈ xs, Stg.wf x) ∧ (d = .nil ∧ len = 0 ∨ ∃ elems spare, d = .slice elems spare ∧ elems.length = len ∧ spare.length = cap - len) :=
  open_rows (sz := 6) (cf := Stg.cells) (wf := Stg.wf) Try.underlying37 stg_cells (by decide) (fun _ => rfl) (fun n cs y h => stg_of_trod h) hval hd
end
theorem Stg.sixAt {w wr : World} {b off len k : Nat} {l : List Stg} {z : Stg} (hl : Rws 6 Stg.cells w (some ⟨b, off, none⟩) len l) (hb : Below w.heap.size w wr) (h0 : k < len) (hx : l[k]? = some z) :
    wr.cell? ⟨b, off + k * 6, none⟩ = some (.int .i64 z.a) ∧ wr.cell? ⟨b, off + k * 6 + 1, none⟩ = some (.int .i64 z.b) ∧ wr.cell? ⟨b, off + k * 6 + 2, none⟩ = some (.int .i64 z.d) ∧ wr.cell? ⟨b, off + k * 6 + 3, none⟩ = some (.int .i64 z.e) ∧ wr.cell? ⟨b, off + k * 6 + 4, none⟩ = some (.int .u8 z.v) ∧ wr.cell? ⟨b, off + k * 6 + 5, none⟩ = some (.bool z.dn) := by
  obtain ⟨b', off', he, hlt, hc⟩ := hl.2 (by omega)
  simp only [Option.some.injEq, Addr.mk.injEq, and_true] at he
  obtain ⟨rfl, rfl⟩ := he
  have h := fun j (hj : j < 6) => (hb.cell (p := ⟨b, off + (k * 6 + j), none⟩) hlt).trans (hc k z hx j hj)
  exact ⟨h 0 (by omega), h 1 (by omega), h 2 (by omega), h 3 (by omega), h 4 (by omega), h 5 (by omega)⟩

/-! ### The law's example -/
def setC : Stg := ⟨2, 0, 0, 0, 0, true⟩
theorem setC_wf : setC.wf := by unfold Stg.wf setC I64; decide
theorem setC_fits : fitsOf shapeC 2 0 0 0 0 = true := by
  unfold fitsOf
  refine decide_eq_true ⟨shape_check, by decide, by unfold SizesOk shapeC; decide, ?_⟩
  have : enhTo (sizesV shapeC 2 0 0 0) 0 8 = 0 := by decide +kernel
  rw [this, shape_need]
  decide
theorem setC_good : goodOf shapeC setC = true := by rw [good_on shape_check rfl]; exact setC_fits
theorem zero_good {c : Cfg} (h : checkOf c = 0) : goodOf c Stg.zero = true := good_off h rfl
theorem szC0 : szI shapeC Stg.zero 0 = 256 ∧ szI shapeC Stg.zero 4 = 0 ∧ szI shapeC setC 4 = 32 ∧ szI shapeC setC 0 = 224 := by decide +kernel
theorem plC : plR shapeC setC 4 3 = .returned (.tuple #[.int .i64 227, .bool true]) := by
  have h1 : szOf shapeC setC 4 = 32 := by decide +kernel
  have h2 : fiI shapeC setC 4 = 224 := by decide +kernel
  unfold plR
  rw [h1, if_neg (by decide)]
  show Ending.returned (.tuple #[.int .i64 (fiI shapeC setC 4 + 3), .bool true]) = _
  rw [h2]; rfl
theorem zero_few : Few Stg.zero := by unfold Few Stg.zero; decide
theorem setC_few : Few setC := by unfold Few setC; decide
end Go.Proofs.Ytdbnadhmkfhdkaa
