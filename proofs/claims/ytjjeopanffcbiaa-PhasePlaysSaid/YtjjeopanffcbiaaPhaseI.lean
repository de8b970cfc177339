/- phase: acts; what holds of a machine; PhaseIdle. -/
import Derived.Test.YtjjeopanffcbiaaPhaseH
import Derived.Test.YtjjeopanffcbiaaStructs
namespace Go.Proofs.Ytjjeopanffcbiaa
open Go Go.RowKit Go.Maps Go.ChangeShapes Go.WideShapes Go.Deep
set_option linter.unusedVariables false

/-- An act of a play. -/
structure PAct where
  op : Int
  ix : Int
  arg : Int
  mine : Bool
  n : Int
def PAct.cells (b : PAct) : List Value := [.int .i64 b.op, .int .i64 b.ix, .int .u32 b.arg, .bool b.mine, .int .i64 b.n]
def PAct.wf (b : PAct) : Prop := I64 b.op ∧ I64 b.ix ∧ (0 ≤ b.arg ∧ b.arg < 4294967296) ∧ I64 b.n

theorem pact_of_trod {H : Type} {enc : TypeId × Value → H} {w : World} {n : Nat} {cs : List Value} {y : DataW H × List MemPlace} (h : DataW.trod enc Try.prog w 0 (fun _ => true) true n 65 cs = some y) : ∃ x : PAct, cs = x.cells ∧ x.wf := by
  obtain ⟨hlen, m, hf⟩ := struct_fields Try.underlying65 (by kernel_rfl) (by kernel_rfl) h
  match cs, hlen with
  | [v0, v1, v2, v3, v4], _ =>
    obtain ⟨z0, h0⟩ := hf 0 v0 rfl _ rfl
    obtain ⟨z1, h1⟩ := hf 1 v1 rfl _ rfl
    obtain ⟨z2, h2⟩ := hf 2 v2 rfl _ rfl
    obtain ⟨z3, h3⟩ := hf 3 v3 rfl _ rfl
    obtain ⟨z4, h4⟩ := hf 4 v4 rfl _ rfl
    obtain ⟨n0, e0, _, w0⟩ := DataW.trod_int Try.underlying3 h0
    obtain ⟨n1, e1, _, w1⟩ := DataW.trod_int Try.underlying3 h1
    obtain ⟨n2, e2, _, w2⟩ := DataW.trod_int Try.underlying53 h2
    obtain ⟨b3, e3, _⟩ := DataW.trod_bool Try.underlying4 h3
    obtain ⟨n4, e4, _, w4⟩ := DataW.trod_int Try.underlying3 h4
    simp only [List.cons.injEq, and_true] at e0 e1 e2 e3 e4
    subst e0 e1 e2 e3 e4
    have := bounds_u32 w2
    exact ⟨⟨n0, n1, n2, b3, n4⟩, rfl, bounds_i64 w0, bounds_i64 w1, ⟨by show 0 ≤ n2; omega, by show n2 < 4294967296; omega⟩, bounds_i64 w4⟩

set_option maxRecDepth 100000 in
theorem pact_cells : Try.prog.cellsOf 65 = 5 := by kernel_rfl
set_option maxRecDepth 100000 in
theorem open_pacts {H : Type} {enc : TypeId × Value → H} {w : World} {r : Reach} {b0 : Nat} {v : Value} {d : DataW H} {ps : List MemPlace} (hval : Value.okWide Try.prog w r b0 60 v) (hd : DataW.Trod enc Try.prog w 0 (fun _ => true) true 60 v d ps) :
    ∃ a len cap xs, v = .slice a len cap ∧ len ≤ cap ∧ cap ≤ maxLen ∧ (a = none → cap = 0) ∧ Rws 5 PAct.cells w a len xs ∧ (∀ x ∈ xs, PAct.wf x) ∧ (d = .nil ∧ len = 0 ∨ ∃ elems spare, d = .slice elems spare ∧ elems.length = len ∧ spare.length = cap - len) :=
  open_rows (sz := 5) (cf := PAct.cells) (wf := PAct.wf) Try.underlying60 pact_cells (by decide) (fun _ => rfl) (fun n cs y h => pact_of_trod h) hval hd
theorem PAct.fiveAt {w wr : World} {b off len k : Nat} {l : List PAct} {z : PAct} (hl : Rws 5 PAct.cells w (some ⟨b, off, none⟩) len l) (hb : Below w.heap.size w wr) (h0 : k < len) (hx : l[k]? = some z) :
    b < w.heap.size ∧ wr.cell? ⟨b, off + k * 5, none⟩ = some (.int .i64 z.op) ∧ wr.cell? ⟨b, off + k * 5 + 1, none⟩ = some (.int .i64 z.ix) ∧ wr.cell? ⟨b, off + k * 5 + 2, none⟩ = some (.int .u32 z.arg) ∧ wr.cell? ⟨b, off + k * 5 + 3, none⟩ = some (.bool z.mine) ∧ wr.cell? ⟨b, off + k * 5 + 4, none⟩ = some (.int .i64 z.n) := by
  obtain ⟨b', off', he, hlt, hc⟩ := hl.2 (by omega)
  simp only [Option.some.injEq, Addr.mk.injEq, and_true] at he
  obtain ⟨rfl, rfl⟩ := he
  have h := fun j (hj : j < 5) => (hb.cell (p := ⟨b, off + (k * 5 + j), none⟩) hlt).trans (hc k z hx j hj)
  exact ⟨hlt, h 0 (by omega), h 1 (by omega), h 2 (by omega), h 3 (by omega), h 4 (by omega)⟩

/-! ### what holds of a machine -/
def OkM (s a l : Int) : Prop := s ∈ statesL ∧ 0 ≤ a ∧ a < 65536 ∧ (s = 6 → 1 ≤ l ∧ l ≤ 64) ∧ (s ≠ 6 → l = 0)
theorem OkM.start : OkM 0 0 0 := ⟨by decide, by omega, by omega, by omega, by omega⟩
theorem OkM.i64 {s a l : Int} (h : OkM s a l) : I64 s := by
  have := h.1
  simp [statesL] at this
  unfold I64; omega
theorem OkM.left {s a l : Int} (h : OkM s a l) : 0 ≤ l ∧ l ≤ 64 := by
  obtain ⟨_, _, _, h1, h2⟩ := h
  by_cases e : s = 6
  · have := h1 e; omega
  · have := h2 e; omega
theorem nextS_in {s i : Int} {own : Bool} (h : s ∈ statesL) : (nextS s i own).1 ∈ statesL := by
  unfold nextS
  rw [if_pos h]
  by_cases h0 : i = 0
  · rw [if_pos h0]; decide
  · rw [if_neg h0]
    cases hk : look s i with
    | none => exact h
    | some v =>
      have : ∀ x ∈ waysL, x.2.2.2.1 ∈ statesL ∧ x.2.2.2.2 ∈ statesL := by decide
      obtain ⟨h1, h2⟩ := this _ (look_some hk)
      simp only
      split
      · exact h
      · split
        · exact h2
        · exact h1
theorem OkM.go {s a l i arg : Int} (h : OkM s a l) (h0 : 0 ≤ arg) (h1 : arg < 4294967296) : OkM (goS s a l i arg).1 (goS s a l i arg).2.1 (goS s a l i arg).2.2.1 := by
  unfold goS
  split
  · refine ⟨nextS_in h.1, ?_, ?_, ?_, ?_⟩
    · simp only; split
      · omega
      · exact h.2.1
    · simp only; split
      · omega
      · exact h.2.2.1
    · intro h6
      simp only at h6 ⊢
      split
      · rename_i e; exact h.2.2.2.1 (by rw [e]; exact h6)
      · omega
    · intro h6
      simp only at h6 ⊢
      split
      · rename_i e; exact h.2.2.2.2 (by rw [e]; exact h6)
      · rfl
  · exact h
theorem OkM.recv {s a l : Int} (h : OkM s a l) (n : Int) : OkM s a (recvS s l n) := by
  refine ⟨h.1, h.2.1, h.2.2.1, fun h6 => ?_, fun h6 => ?_⟩
  · unfold recvS clampS; rw [if_pos h6]; split
    · omega
    · split <;> omega
  · unfold recvS; rw [if_neg h6]; exact h.2.2.2.2 h6
theorem OkM.got {s a l : Int} (h : OkM s a l) : OkM (gotS s l).1 a (gotS s l).2.1 := by
  unfold gotS
  by_cases h6 : s = 6
  · have := h.2.2.2.1 h6
    rw [if_pos h6]
    split
    · exact ⟨by decide, h.2.1, h.2.2.1, fun h => by simp at h, fun _ => rfl⟩
    · exact ⟨show (6 : Int) ∈ statesL by decide, h.2.1, h.2.2.1, fun _ => by show 1 ≤ l - 1 ∧ l - 1 ≤ 64; omega, fun h => absurd rfl h⟩
  · rw [if_neg h6]; exact h

end Go.Proofs.Ytjjeopanffcbiaa
