/- sha: the reference's two rows of constants in memory, as they are filled in. -/
import Derived.Test.YtkdjimcpdbpemaaShaBB
import Derived.Test.YtkdjimcpdbpemaaShaG
import Derived.Test.YtkdjimcpdbpemaaShaC
import Derived.StillTailTactics
namespace Go.Proofs.Ytkdjimcpdbpemaa
open Go Go.RowKit
set_option linter.unusedVariables false

/-- An array of numbers of 32 bits in a block of its own. -/
def ArrN (w : World) (g T : Nat) (l : List Int) : Prop := HasB w g (cellsU l).toArray T
theorem cellsU_set (l : List Int) (i : Nat) (z : Int) : (cellsU l).set i (.int .u32 z) = cellsU (l.set i z) := by simp [cellsU, List.map_set]
theorem ArrN.put {w : World} {g T : Nat} {l : List Int} (h : ArrN w g T l) (i : Nat) (z : Int) : ArrN (w.setCell ⟨g, i, none⟩ (.int .u32 z)) g T (l.set i z) := by
  have h' := HasB.set h i (.int .u32 z)
  rw [List.setIfInBounds_toArray, cellsU_set] at h'
  exact h'
theorem ArrN.at {w : World} {g T : Nat} {l : List Int} (h : ArrN w g T l) (i : Nat) (hi : i < l.length) : w.cell? ⟨g, i, none⟩ = some (.int .u32 (l.getD i 0)) := by
  have := HasB.at h i
  rw [this]
  simp [cellsU, List.getD, hi]
/-- Both rows, the first i of each filled in (of the shorter one at most all), and the result's variable. -/
def FillW (w wr : World) (g i j : Nat) : Prop := ArrN wr g 100 (toL H0.list i) ∧ ArrN wr (g + 1) 101 (toL KL j) ∧ Below w.heap.size w wr ∧ w.heap.size < g ∧ ArrB wr w.heap.size 22 (List.replicate 32 0)
theorem FillW.h {w wr : World} {g i j : Nat} (h : FillW w wr g i j) (hi : i < 8) : FillW w (wr.setCell ⟨g, i, none⟩ (.int .u32 (H0.list.getD i 0))) g (i + 1) j := by
  obtain ⟨h1, h2, h3, h4, h5⟩ := h
  refine ⟨?_, HasB.set_other h2 (by simp) _, h3.setCell (by show w.heap.size ≤ g; omega) _, h4, HasB.set_other h5 (by simp; omega) _⟩
  rw [← toL_set H0.list i (by rw [show H0.list.length = 8 from rfl]; exact hi)]
  exact h1.put i _
theorem FillW.k {w wr : World} {g i j : Nat} (h : FillW w wr g i j) (hj : j < 64) : FillW w (wr.setCell ⟨g + 1, j, none⟩ (.int .u32 (KL.getD j 0))) g i (j + 1) := by
  obtain ⟨h1, h2, h3, h4, h5⟩ := h
  refine ⟨HasB.set_other h1 (by simp) _, ?_, h3.setCell (by show w.heap.size ≤ g + 1; omega) _, h4, HasB.set_other h5 (by simp; omega) _⟩
  rw [← toL_set KL j (by rw [show KL.length = 64 from rfl]; exact hj)]
  exact h2.put j _
theorem FillW.skip {w wr : World} {g i j : Nat} (h : FillW w wr g i j) (hi : 8 ≤ i) : FillW w wr g (i + 1) j := by
  obtain ⟨h1, h2, h3, h4⟩ := h
  refine ⟨?_, h2, h3, h4⟩
  rw [toL_all _ _ (by rw [show H0.list.length = 8 from rfl]; omega)] at h1 ⊢
  exact h1
theorem FillW.later {w wr wr' : World} {g i j : Nat} (h : FillW w wr g i j) (hb : Below wr.heap.size wr wr') : FillW w wr' g i j := by
  obtain ⟨h1, h2, h3, h4, h5⟩ := h
  exact ⟨HasB.below h1 hb (HasB.lt h1), HasB.below h2 hb (HasB.lt h2), h3.trans (hb.mono h3.size), h4, HasB.below h5 hb (HasB.lt h5)⟩
/-- The reference's digest at work: the state, the constants, the result's variable. -/
def RunW (w wr : World) (g : Nat) (s : St) : Prop := ArrN wr g 100 s.list ∧ ArrN wr (g + 1) 101 KL ∧ Below w.heap.size w wr ∧ w.heap.size < g ∧ ArrB wr w.heap.size 22 (List.replicate 32 0)
theorem FillW.run {w wr : World} {g i j : Nat} (h : FillW w wr g i j) (hi : 8 ≤ i) (hj : 64 ≤ j) : RunW w wr g H0 := by
  obtain ⟨h1, h2, h3⟩ := h
  rw [toL_all _ _ (by rw [show H0.list.length = 8 from rfl]; omega)] at h1
  rw [toL_all _ _ (by rw [show KL.length = 64 from rfl]; omega)] at h2
  exact ⟨h1, h2, h3⟩
theorem RunW.later {w wr wr' : World} {g : Nat} {s : St} (h : RunW w wr g s) (hb : Below wr.heap.size wr wr') : RunW w wr' g s := by
  obtain ⟨h1, h2, h3, h4, h5⟩ := h
  exact ⟨HasB.below h1 hb (HasB.lt h1), HasB.below h2 hb (HasB.lt h2), h3.trans (hb.mono h3.size), h4, HasB.below h5 hb (HasB.lt h5)⟩
theorem RunW.grown {w wr wr' : World} {g : Nat} {s : St} {B : Nat} (h : RunW w wr g s) (hb : Below B wr wr') (hB : g + 1 < B) (hB2 : B ≤ wr.heap.size) : RunW w wr' g s := by
  obtain ⟨h1, h2, h3, h4, h5⟩ := h
  exact ⟨HasB.below h1 hb (by omega), HasB.below h2 hb (by omega), h3.trans (hb.mono (by omega)), h4, HasB.below h5 hb (by omega)⟩
theorem RunW.lt {w wr : World} {g : Nat} {s : St} (h : RunW w wr g s) : g + 1 < wr.heap.size := HasB.lt h.2.1

theorem gb_setRow (w : World) (g : Nat) (cs : Array Value) : w.grownBy (w.setRow g cs) (some g) :=
  ⟨rfl, rfl, rfl, by simp, fun b h1 h2 => setRow_other w g b cs (fun e => h2 (by rw [e]))⟩
theorem RunW.put {w wr : World} {g : Nat} {s : St} (h : RunW w wr g s) (t : St) : RunW w (wr.setRow g t.cells.toArray) g t := by
  obtain ⟨h1, h2, h3, h4, h5⟩ := h
  exact ⟨setRow_heap wr g _ _ _ _ h1, HasB.kept h2 (gb_setRow _ _ _) (by simp), below_setRow h3 (by omega) _, h4, HasB.kept h5 (gb_setRow _ _ _) (by simp; omega)⟩
/-- A row of cells is loaded where nothing is written. -/
theorem wpStill_load_row {P : Program} {ops : Array Oper} {rest : List Oper} {o : Oper} {a : Act} {w : World} {Q : Act → Prop} (hw : Region.wanted o (yielded ops a.tmps) = true) (ty : TypeId) (x : Operand) (ho : o.op = .load ty x)
    (g : Nat) (hx : a.eval x = .pointer (some ⟨g, 0, none⟩)) (t : TypeId) (cs : Array Value) (fr : Nat × Nat) (d : TypeDesc) (hg : w.heap[g]? = some (.cells cs t fr))
    (hu : P.underlying ty = some d) (hd : (match d with | .struct _ | .array _ _ => true | _ => false) = true) (hi : (P.info? ty).map (·.size) = some cs.size)
    (h : wpStill P ops w Q rest (a.put o.dst (.agg cs))) : wpStill P ops w Q (o :: rest) a := by
  unfold wpStill
  rw [if_pos hw]
  unfold Oper.still execOp
  simp only [ho, hx, Instr.loadAt, Instr.sureAddr, Sem.run_bind, Sem.run_pure, Result.andThen_ok, run_loadVar_row w g t ty cs fr d hg hu hd hi]
  exact ⟨rfl, h⟩

/-- A part of a slice is taken where nothing is written. -/
theorem wpStill_slice {P : Program} {ops : Array Oper} {rest : List Oper} {o : Oper} {a : Act} {w : World} {Q : Act → Prop} (hw : Region.wanted o (yielded ops a.tmps) = true) (t : TypeId) (x xl xh : Operand) (ho : o.op = .slice t x (some xl) (some xh) none)
    (va : Option Addr) (len cap p e : Nat) (hx : a.eval x = .slice va len cap) (hl : a.eval xl = .int .i64 (p : Int)) (hh : a.eval xh = .int .i64 (e : Int)) (ht : P.underlying t = some (.slice (P.elem t))) (hs : ∀ w, (sizeOf (P.elem t)).run P w = .ok 1 w)
    (h1 : p ≤ e) (h2 : e ≤ cap) (v : Value) (hv : sliced va p e cap 1 = v) (h : wpStill P ops w Q rest (a.put o.dst v)) : wpStill P ops w Q (o :: rest) a := by
  unfold wpStill
  rw [if_pos hw]
  unfold Oper.still execOp
  have hr := run_sliceAt_slice (P := P) w t (.slice va len cap) (some (.int .i64 (p : Int))) (some (.int .i64 (e : Int))) none ht
  rw [run_slice_lh (P := P) w t va len cap ht .i64 .i64 p e (by omega) (by omega) (by omega), hs] at hr
  simp only [Result.andThen, Int.toNat_natCast, hv] at hr
  simp only [ho, Option.map, hx, hl, hh, Sem.run_bind, hr, Sem.run_pure, Result.andThen_ok]
  exact ⟨rfl, h⟩
theorem sliced_from (g q e cap : Nat) (h : q < cap) : sliced (some ⟨g, 0, none⟩) q e cap 1 = .slice (some ⟨g, q, none⟩) (e - q) (cap - q) := by
  unfold sliced
  rw [if_neg (by omega)]
  simp [Addr.add_lit]

/-- The reference's digest at its end: what is written so far of it. -/
def OutR (w wr : World) (G gb : Nat) (u : St) (m : Nat) : Prop := RunW w wr G u ∧ ArrB wr gb 22 (outTo u m) ∧ G + 1 < gb
theorem RunW.other {w wr : World} {g : Nat} {s : St} (h : RunW w wr g s) (gb i : Nat) (v : Value) (hg : g + 1 < gb) : RunW w (wr.setCell ⟨gb, i, none⟩ v) g s := by
  obtain ⟨h1, h2, h3, h4, h5⟩ := h
  exact ⟨HasB.set_other h1 (by simp; omega) _, HasB.set_other h2 (by simp; omega) _, h3.setCell (by show w.heap.size ≤ gb; omega) _, h4, HasB.set_other h5 (by simp; omega) _⟩
theorem OutR.put {w wr : World} {G gb : Nat} {u : St} {m : Nat} (h : OutR w wr G gb u m) (hm : m < 32) : OutR w (wr.setCell ⟨gb, m, none⟩ (.int .u8 ((outB u m : Nat) : Int))) G gb u (m + 1) := by
  obtain ⟨h1, h2, h3⟩ := h
  refine ⟨h1.other gb m _ h3, ?_, h3⟩
  rw [← outTo_set u m hm]
  exact h2.put m _
theorem outR_start {w wr : World} {G : Nat} {u : St} (h : RunW w wr G u) (Z : Array Value) (hZ : Z = (u8s (outTo u 0)).toArray) : OutR w (wr.alloc (.cells Z 22)) G wr.heap.size u 0 := by
  subst hZ
  exact ⟨h.later ((Below.refl _ _).alloc (Nat.le_refl _) _), HasB.new _ _ _, h.lt⟩
theorem info_o32 : (Try.prog.info? 22).map (·.size) = some 32 := by kernel_rfl
end Go.Proofs.Ytkdjimcpdbpemaa
