/- sha: what a digest tells, as it goes on; a row of bools. -/
import Derived.Test.YtodipcolblbooaaShaHH
import Derived.Test.YtodipcolblbooaaShaGG
namespace Go.Proofs.Ytodipcolblbooaa
open Go Go.RowKit Go.ChangeShapes Go.WideShapes Go.ChangeAt
set_option linter.unusedVariables false

/-- The key that a digest has. -/
def KK (kd : Bool) (key : List Nat) : List Nat := if kd then kOf key else zeros64
theorem KK_ok (kd : Bool) {key : List Nat} (h8 : ∀ c ∈ key, c < 256) : KeyOk (KK kd key) := by
  cases kd with
  | false => exact zeros_ok
  | true => exact kOf_ok h8
/-- What is to be told of the bytes l. -/
def wantS (kd : Bool) (key l : List Nat) : List Nat := digS kd (KK kd key) (preS kd (KK kd key) ++ l)
theorem want_no (key l : List Nat) : wantS false key l = shaL l := by simp [wantS, digS, preS]
theorem want_yes (key l : List Nat) : wantS true key l = macS key l := rfl
theorem want_len (kd : Bool) (key l : List Nat) : (wantS kd key l).length = 32 := digS_len _ _ _
theorem want_lt (kd : Bool) (key l : List Nat) : ∀ c ∈ wantS kd key l, c < 256 := digS_lt _ _ _

/-- The digest at g, the row u of the bytes that were written since it was made or reset. -/
def GoesW (w wr : World) (g : Nat) (kd : Bool) (key L : List Nat) (u : Value) : Prop :=
  DigL wr g g kd (KK kd key) (preS kd (KK kd key) ++ L) ∧ wr.ownsRow w.heap.size 5 1 u L.length (u8s L) ∧ RestAt wr g u ∧ Below w.heap.size w wr ∧ w.heap.size ≤ g ∧ ∀ c ∈ L, c < 256
theorem GoesW.later {w wr wr' : World} {g : Nat} {kd : Bool} {key L : List Nat} {u : Value} (h : GoesW w wr g kd key L u) (hb : Below wr.heap.size wr wr') : GoesW w wr' g kd key L u := by
  obtain ⟨h1, h2, h3, h4, h5, h6⟩ := h
  exact ⟨h1.below hb, own_below h2 hb (Nat.le_refl _), h3.below h1.lt hb, h4.trans (hb.mono h4.size), h5, h6⟩

theorem neq_o32 {l : List Nat} (hl : ∀ c ∈ l, c < 256) (ll : l.length = 32) (w : World) :
    (binOp .neq 27 (.agg (u8s l).toArray) (.agg (u8s l).toArray)).run Try.prog w = .ok (.bool false) w := by
  have h := run_equalIn_bytes (P := Try.prog) w 9998 27 5 32 Try.underlying27 Try.underlying5 (fun w => by kernel_rfl) (b8 l) (b8 l) (by simp [b8, ll]) (by simp [b8, ll])
  rw [b8_cell hl, b8_beq hl hl] at h
  rw [run_neq_struct, h]
  simp

theorem yield_load_row {P : Program} {w : World} (o : Oper) (ev : Operand → Value) (ty : TypeId) (x : Operand) (ho : o.op = .load ty x)
    (g : Nat) (hx : ev x = .pointer (some ⟨g, 0, none⟩)) (t : TypeId) (cs : Array Value) (fr : Nat × Nat) (d : TypeDesc) (hg : w.heap[g]? = some (.cells cs t fr))
    (hu : P.underlying ty = some d) (hd : (match d with | .struct _ | .array _ _ => true | _ => false) = true) (hi : (P.info? ty).map (·.size) = some cs.size) : (execOp ev o).run P w = .ok (.value (.agg cs)) w := by
  unfold execOp
  simp only [ho, hx, Instr.loadAt, Instr.sureAddr, Sem.run_bind, Sem.run_pure, Result.andThen_ok, run_loadVar_row w g t ty cs fr d hg hu hd hi]
/-- A slice of bools. -/
def Bools (w : World) (a : Option Addr) (len : Nat) (xs : List Bool) : Prop := Rws 1 (fun b : Bool => [Value.bool b]) w a len xs
theorem Bools.below {w w' : World} {a : Option Addr} {len : Nat} {xs : List Bool} (h : Bools w a len xs) (hb : Below w.heap.size w w') : Bools w' a len xs := Rws.below h hb
theorem Bools.at {w : World} {a : Option Addr} {len : Nat} {xs : List Bool} (h : Bools w a len xs) (i : Nat) (hi : i < len) : ∃ b off, a = some ⟨b, off, none⟩ ∧ w.cell? ⟨b, off + i, none⟩ = some (.bool (xs.getD i false)) := by
  obtain ⟨h1, h2⟩ := h
  obtain ⟨b, off, he, _, hc⟩ := h2 (by omega)
  refine ⟨b, off, he, ?_⟩
  have := hc i xs[i] (List.getElem?_eq_getElem (by omega)) 0 (by omega)
  simpa [List.getD, List.getElem?_eq_getElem (show i < xs.length by omega)] using this
section
variable {H : Type} {enc : TypeId × Value → H} {P : Program}
theorem open_bools {w : World} {r : Reach} {b0 : Nat} {t e : TypeId} {v : Value} {d : DataW H} {ps : List MemPlace} (ht : P.underlying t = some (.slice e)) (he : P.underlying e = some .bool) (hsz : P.cellsOf e = 1)
    (hval : Value.okWide P w r b0 t v) (hd : DataW.Trod enc P w 0 (fun _ => true) true t v d ps) :
    ∃ a len cap xs, v = .slice a len cap ∧ len ≤ cap ∧ cap ≤ maxLen ∧ (a = none → cap = 0) ∧ Bools w a len xs := by
  obtain ⟨a, len, cap, xs, h1, h2, h3, h4, h5, _⟩ := open_rows (cf := fun b : Bool => [Value.bool b]) (wf := fun _ => True) ht hsz (by omega) (fun _ => rfl) (fun n cs y h => by
    obtain ⟨m, h1, _⟩ := DataW.trod_bool he h
    exact ⟨m, h1, trivial⟩) hval hd
  exact ⟨a, len, cap, xs, h1, h2, h3, h4, h5⟩
end
end Go.Proofs.Ytodipcolblbooaa
