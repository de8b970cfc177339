/- How a law's arguments are opened, and how a walk of it is lifted to its statement. -/
import Derived.Test.YtlcilhhmgkipiaaDoorRows
import Derived.WalkKit
import Derived.ProofKit
import Derived.OpenShut
import Derived.ShutString
import Derived.ChangeOld
import Derived.Below
import Derived.Lib.Hide
import Derived.Deep.Slices
import Derived.SizedLaws
import Derived.JoinedCond
import Derived.Deep.CondSized
import Derived.Deep.DeepHandedRow
import Derived.Deep.DeepWitnessRowRef
import Derived.LaidMore
import Derived.Lib.LaidTab
namespace Go.Proofs.YtlcilhhmgkipiaaDoor
open Go.ChangeShapes Go.WideShapes Go.ChangeAt Go.RowKit
set_option linter.unusedVariables false

/-- Rows of sz cells each: the slice value (a, len) holds xs in the world w, the cells of an element given by cf. -/
def Rws {α : Type} (sz : Nat) (cf : α → List Value) (w : World) (a : Option Addr) (len : Nat) (xs : List α) : Prop :=
  xs.length = len ∧ (0 < len → ∃ b off, a = some ⟨b, off, none⟩ ∧ b < w.heap.size ∧ ∀ i x, xs[i]? = some x → ∀ j, j < sz → w.cell? ⟨b, off + (i * sz + j), none⟩ = (cf x)[j]?)

theorem Rws.nil {α : Type} {sz : Nat} {cf : α → List Value} {w : World} {a : Option Addr} : Rws sz cf w a 0 ([] : List α) := ⟨rfl, fun h => by omega⟩

theorem Rws.below {α : Type} {sz : Nat} {cf : α → List Value} {w w' : World} {a : Option Addr} {len : Nat} {xs : List α} (h : Rws sz cf w a len xs) (hb : Below w.heap.size w w') : Rws sz cf w' a len xs :=
  ⟨h.1, fun h0 => by
    obtain ⟨b, off, he, hlt, hc⟩ := h.2 h0
    exact ⟨b, off, he, Nat.lt_of_lt_of_le hlt hb.size, fun i x hx j hj => (hb.cell (p := ⟨b, _, none⟩) hlt).trans (hc i x hx j hj)⟩⟩

/-- One cell an element: ints of a kind. -/
def IntCell (k : IntKind) (n : Int) : List Value := [.int k n]
def BoolCell (b : Bool) : List Value := [.bool b]
abbrev IntsK (k : IntKind) := Rws 1 (IntCell k)

theorem IntsK.cell {k : IntKind} {w : World} {b off : Nat} {xs : List Int} (h : ∀ i x, xs[i]? = some x → ∀ j, j < 1 → w.cell? ⟨b, off + (i * 1 + j), none⟩ = (IntCell k x)[j]?) : ∀ i, i < xs.length → w.cell? ⟨b, off + i, none⟩ = some (.int k (xs.getD i 0)) := by
  intro i hi
  have := h i xs[i] (List.getElem?_eq_getElem hi) 0 (by omega)
  simpa [IntCell, List.getD, List.getElem?_eq_getElem hi] using this

/-- A slice value (a, len) that reads as the numbers zs of the kind k in the world w. -/
def Ints (k : IntKind) (w : World) (a : Option Addr) (len : Nat) (zs : List Int) : Prop :=
  zs.length = len ∧ (0 < len → ∃ b off, a = some ⟨b, off, none⟩ ∧ b < w.heap.size ∧ ∀ i, i < len → w.cell? ⟨b, off + i, none⟩ = some (.int k (zs.getD i 0)))

theorem IntsK.ints {k : IntKind} {w : World} {a : Option Addr} {len : Nat} {zs : List Int} (h : IntsK k w a len zs) : Ints k w a len zs :=
  ⟨h.1, fun h0 => by
    obtain ⟨b, off, he, hlt, hc⟩ := h.2 h0
    exact ⟨b, off, he, hlt, fun i hi => IntsK.cell hc i (by rw [h.1]; exact hi)⟩⟩

theorem Ints.below {k : IntKind} {w w' : World} {a : Option Addr} {len : Nat} {zs : List Int} (h : Ints k w a len zs) {B : Nat} (hb : Below B w w') (hB : w.heap.size ≤ B) : Ints k w' a len zs :=
  ⟨h.1, fun h0 => by
    obtain ⟨b, off, he, hlt, hc⟩ := h.2 h0
    exact ⟨b, off, he, Nat.lt_of_lt_of_le hlt hb.size, fun i hi => (hb.cell (p := ⟨b, _, none⟩) (Nat.lt_of_lt_of_le hlt hB)).trans (hc i hi)⟩⟩

/-- What may be said of a 64-bit integer. -/
def I64 (x : Int) : Prop := -9223372036854775808 ≤ x ∧ x ≤ 9223372036854775807
theorem nat_u64 {x : Int} (h : (Lit.int .u64 x).wf = true) : ∃ n : Nat, x = n ∧ n < 18446744073709551616 := ⟨x.toNat, by have := bounds_u64 h; omega, by have := bounds_u64 h; omega⟩
theorem nat_u32 {x : Int} (h : (Lit.int .u32 x).wf = true) : ∃ n : Nat, x = n ∧ n < 4294967296 := ⟨x.toNat, by have := bounds_u32 h; omega, by have := bounds_u32 h; omega⟩
theorem nat_u16 {x : Int} (h : (Lit.int .u16 x).wf = true) : ∃ n : Nat, x = n ∧ n < 65536 := ⟨x.toNat, by have := bounds_u16 h; omega, by have := bounds_u16 h; omega⟩
theorem nat_u8 {x : Int} (h : (Lit.int .u8 x).wf = true) : ∃ n : Nat, x = n ∧ n < 256 := ⟨x.toNat, by have := bounds_u8 h; omega, by have := bounds_u8 h; omega⟩
theorem i64_of_wf {x : Int} (h : (Lit.int .i64 x).wf = true) : I64 x := bounds_i64 h

section
variable {H : Type} {enc : TypeId × Value → H} {P : Program}

theorem open_rows {α : Type} {sz : Nat} {cf : α → List Value} {wf : α → Prop} {w : World} {r : Reach} {b0 : Nat} {t e : TypeId} {v : Value} {d : DataW H} {ps : List MemPlace} (ht : P.underlying t = some (.slice e)) (hsz : P.cellsOf e = sz) (h0 : 0 < sz)
    (hcf : ∀ x, (cf x).length = sz)
    (hE : ∀ n cs y, DataW.trod enc P w 0 (fun _ => true) true n e cs = some y → ∃ x, cs = cf x ∧ wf x)
    (hval : Value.okWide P w r b0 t v) (hd : DataW.Trod enc P w 0 (fun _ => true) true t v d ps) :
    ∃ a len cap xs, v = .slice a len cap ∧ len ≤ cap ∧ cap ≤ maxLen ∧ (a = none → cap = 0) ∧ Rws sz cf w a len xs ∧ (∀ x ∈ xs, wf x) ∧ (d = .nil ∧ len = 0 ∨ ∃ elems spare, d = .slice elems spare ∧ elems.length = len ∧ spare.length = cap - len) := by
  obtain ⟨a, len, cap, rfl⟩ := okWide_slice ht hval
  obtain ⟨fuel, hf⟩ := hd
  rcases DataW.trod_slice ht hf with ⟨hcs, hx⟩ | ⟨a', len', cap', elems, rest, n, _, hcs, hx, hb, hl, hm, hlen, hel, hsp, _⟩
  · simp [Value.cells] at hcs hx
    obtain ⟨rfl, rfl, rfl⟩ := hcs
    exact ⟨none, 0, 0, [], rfl, Nat.le_refl _, Nat.zero_le _, fun _ => rfl, Rws.nil, by simp, Or.inl ⟨hx.1, rfl⟩⟩
  · simp [Value.cells] at hcs
    obtain ⟨rfl, rfl, rfl⟩ := hcs
    have hdd : d = .slice (elems.map (·.1)) (rest.map (·.1)) := (Prod.mk.inj hx).1
    have hspl := (hsp rfl).1
    have each : ∀ i, i < len → ∃ x, w.cells? 0 (a'.add (i * sz)) sz = some (cf x) ∧ wf x := by
      intro i hi
      have h1 := hel i hi
      rw [hsz, List.getElem?_eq_getElem (by omega), Option.bind_eq_some_iff] at h1
      obtain ⟨cs, hc, hy⟩ := h1
      obtain ⟨x, rfl, hw⟩ := hE _ _ _ hy
      exact ⟨x, hc, hw⟩
    by_cases hz : len = 0
    · subst hz
      exact ⟨some a', 0, cap, [], rfl, hl, hm, fun h => by simp at h, Rws.nil, by simp, Or.inr ⟨_, _, hdd, by simp [hlen], by simp [hspl]⟩⟩
    · obtain ⟨x0, hx0, _⟩ := each 0 (by omega)
      have hs0 := (World.cells?_some hx0).2.2 0 h0
      have hl0 : ∃ v0, (cf x0)[0]? = some v0 := ⟨_, List.getElem?_eq_getElem (by rw [hcf]; exact h0)⟩
      obtain ⟨v0, hv0⟩ := hl0
      rw [hv0] at hs0
      have hblk : a'.block < w.heap.size := by
        have := World.cells?_block hx0 h0
        simpa [Addr.add] using this
      obtain ⟨b, off, spot⟩ := a'
      have hspot : spot = none := by simpa [Addr.add] using World.cell?_spot hs0
      subst hspot
      have : Inhabited α := ⟨x0⟩
      obtain ⟨g, hg⟩ := Go.Deep.choose_lt each
      refine ⟨some ⟨b, off, none⟩, len, cap, (List.range len).map g, rfl, hl, hm, fun h => by simp at h, ⟨by simp, fun _ => ⟨b, off, rfl, hblk, ?_⟩⟩, ?_, Or.inr ⟨_, _, hdd, by simp [hlen], by simp [hspl]⟩⟩
      · intro i x hx j hj
        have hi : i < len := by
          have := (List.getElem?_eq_some_iff.1 hx).1
          simpa using this
        simp [hi] at hx
        subst hx
        have h2 := (World.cells?_some (hg i hi).1).2.2 j hj
        rw [Go.Deep.add_add, add_plain] at h2
        exact h2
      · intro x hx
        simp at hx
        obtain ⟨i, hi, rfl⟩ := hx
        exact (hg i hi).2

theorem open_intsK {w : World} {r : Reach} {b0 : Nat} {t e : TypeId} {k : IntKind} {v : Value} {d : DataW H} {ps : List MemPlace} (ht : P.underlying t = some (.slice e)) (he : P.underlying e = some (.int k)) (hsz : P.cellsOf e = 1)
    (hval : Value.okWide P w r b0 t v) (hd : DataW.Trod enc P w 0 (fun _ => true) true t v d ps) :
    ∃ a len cap xs, v = .slice a len cap ∧ len ≤ cap ∧ cap ≤ maxLen ∧ (a = none → cap = 0) ∧ IntsK k w a len xs ∧ (∀ x ∈ xs, (Lit.int k x).wf = true) ∧ (d = .nil ∧ len = 0 ∨ ∃ elems spare, d = .slice elems spare ∧ elems.length = len ∧ spare.length = cap - len) :=
  open_rows (cf := IntCell k) (wf := fun x => (Lit.int k x).wf = true) ht hsz (by omega) (fun _ => rfl) (fun n cs y h => by
    obtain ⟨m, h1, _, h3⟩ := DataW.trod_int he h
    exact ⟨m, h1, h3⟩) hval hd

theorem Below.trodAll (hl : laidOutB P = true) {W W' : World} (hb : Below W.heap.size W W') : ∀ {ts : List TypeId} {vs : List Value} {ds : List (DataW H)} {ps : List MemPlace},
    ts.all (fun t => P.readableRec t && decide (t < P.types.size)) = true → DataW.TrodAll enc P W 0 (fun _ => true) true ts vs ds ps → (∀ x ∈ ps, x.block < W.heap.size) →
    DataW.TrodAll enc P W' 0 (fun b => decide (b < W.heap.size)) true ts vs ds ps
  | [], [], [], _, _, h, _ => h
  | t :: ts, v :: vs, d :: ds, ps, hr, h, hlt => by
    obtain ⟨p, q, h1, h2, rfl⟩ := h
    simp only [List.all_cons, Bool.and_eq_true, decide_eq_true_eq] at hr
    refine ⟨p, q, Below.trod hl hr.1.1 hr.1.2 h1 hb (fun x hx => hlt x (by simp [hx])), Below.trodAll hl hb (by simpa using hr.2) h2 (fun x hx => hlt x (by simp [hx])), rfl⟩
  | [], [], _ :: _, _, _, h, _ => by simp [DataW.TrodAll] at h
  | [], _ :: _, _, _, _, h, _ => by simp [DataW.TrodAll] at h
  | _ :: _, [], _, _, _, h, _ => by simp [DataW.TrodAll] at h
  | _ :: _, _ :: _, [], _, _, h, _ => by simp [DataW.TrodAll] at h

theorem TrodAll_length : ∀ {w : World} {base : Nat} {spare : Nat → Bool} {held : Bool} {ts : List TypeId} {vs : List Value} {ds : List (DataW H)} {ps : List MemPlace}, DataW.TrodAll enc P w base spare held ts vs ds ps → ds.length = ts.length ∧ vs.length = ts.length
  | _, _, _, _, [], [], [], _, _ => ⟨rfl, rfl⟩
  | _, _, _, _, t :: ts, v :: vs, d :: ds, ps, h => by
    obtain ⟨p, q, _, h2, _⟩ := h
    have := TrodAll_length h2
    simp [this.1, this.2]
  | _, _, _, _, [], [], _ :: _, _, h => by simp [DataW.TrodAll] at h
  | _, _, _, _, [], _ :: _, _, _, h => by simp [DataW.TrodAll] at h
  | _, _, _, _, _ :: _, [], _, _, h => by simp [DataW.TrodAll] at h
  | _, _, _, _, _ :: _, _ :: _, [], _, h => by simp [DataW.TrodAll] at h

/-- What a walk of a law is told: each argument has its type's form, and reads as data; the listed variables; the condition. -/
structure Told (enc : TypeId × Value → H) (P : Program) (fn : Func) (o : OpenSpec) (laid : List (String × DataW Unit)) (W : World) (base : Nat) (args : Array Value) (ds : List (DataW H)) (p : List MemPlace) : Prop where
  val : ∀ (j : Nat) t v, fn.params[j]? = some t → args[j]? = some v → Value.okWide P W .any base t v
  trod : DataW.TrodAll enc P W 0 (fun _ => true) true fn.params.toList args.toList ds p
  sized : (DataW.weightsEach P fn.params.toList ds).all (· ≤ reachBytes) = true
  lt : ∀ x ∈ p, x.block < W.heap.size
  laid : laidMetH P laid W
  cond : ∀ k, o.cond = some k → k H ds = true
  shaped : W.ShapedOpen P

theorem lift_post {C : Checked} {fn : Func} {s : ChangeSpec} {tb : TypeId} (hl : laidOutB C.prog = true) (hvars : s.vars = [])
    (hres : fn.resultTypes = #[tb]) (hb : C.prog.underlying tb = some .bool) (hread : fn.params.toList.all (fun t => C.prog.readableRec t && decide (t < C.prog.types.size)) = true)
    {W W' : World} {args : Array Value} {ds gs : List (DataW H)} {before p : List MemPlace}
    (hW : DataW.Whole enc C.prog fn.params.toList s.vars false W args.toList ds gs before) (hg : gs = [])
    (hspec : (s.fn H ds).results = [.lit (.bool true)] ∧ (s.fn H ds).args = ds ∧ (s.fn H ds).vars = [])
    (hA : DataW.TrodAll enc C.prog W 0 (fun _ => true) true fn.params.toList args.toList ds p) (hlt : ∀ x ∈ p, x.block < W.heap.size) (bel : Below W.heap.size W W') :
    s.post enc C.prog fn false true false false W args (.bool true) W' := by
  obtain ⟨s1, s2, s3⟩ := hspec
  subst hg
  refine ⟨ds, [], before, [], p, [], hW, ?_, ?_, ?_, bel.frame _, fun h => by cases h⟩
  · rw [hres, List.append_nil, s1]
    exact trodAll_mk1 (shut_bool hb _)
  · rw [List.append_nil, s2]
    exact Below.trodAll hl bel hread hA hlt
  · rw [List.append_nil, s3, hvars]
    rfl

theorem lift_law {C : Checked} {os : Os} {f : FuncId} {fn : Func} {s : ChangeSpec} {o : OpenSpec} {laid : List (String × DataW Unit)} {tb : TypeId} {F : Stop.Interp} (hat : o.at F = s) (own : ownKnob C.prog.godebug = none) (hl : laidOutB C.prog = true) (started : os.Started) (noInit : C.prog.inits.idxOf? f = none) (hfn : C.prog.funcs[f]? = some fn)
    (hvars : o.vars = []) (hres : fn.resultTypes = #[tb]) (hb : C.prog.underlying tb = some .bool) (hread : fn.params.toList.all (fun t => C.prog.readableRec t && decide (t < C.prog.types.size)) = true)
    (hspec : ∀ (ds : List (DataW H)), ds.length = fn.params.toList.length → (s.fn H ds).results = [.lit (.bool true)] ∧ (s.fn H ds).args = ds ∧ (s.fn H ds).vars = [])
    (witness : ∃ (w : World) (tape : Tape) (i : Input), w.os = os ∧ (w.forCall tape i).Shaped C.prog ∧ i.vars = [] ∧ Input.okWide C.prog (w.forCall tape i) .any w.heap.size f i ∧
      o.preRow enc C.prog fn [] false laid (w.forCall tape i).memory i.args ∧ ({} : Assume).holds C.prog (lone (Frame.enter C.prog f i.args .normal) [] (w.forCall tape i)))
    (walk : ∀ (W : World) (base : Nat) (args : Array Value) (ds : List (DataW H)) (p : List MemPlace), Told enc C.prog fn o laid W base args ds p →
      Calls C.prog f args W fun e W' => e = .returned (.bool true) ∧ Below W.heap.size W W') :
    ReturnsInHanded {} C os f .any (o.preRow enc C.prog fn [] false laid) ((o.at F).post enc C.prog fn false true false false) := by
  refine returnsInHanded_of_row own started noInit hfn witness ?_
  intro W base args ds gs before hval hW hcnd hk hsz hL hsh _
  rw [hat]
  have hv : s.vars = [] := by rw [← hat]; exact hvars
  have hW' := hW
  obtain ⟨p, q, hA, hV, rfl, hfz, hnd⟩ := hW
  rw [hvars] at hV
  have hg : gs = [] := by
    cases gs with
    | nil => rfl
    | cons g gs => simp [DataW.TrodVars] at hV
  subst hg
  have hsv : o.bare.plain.varTypes C.prog = [] := by simp [ChangeSpec.plain, OpenSpec.bare, DataSpec.varTypes, hvars]
  rw [hsv, List.append_nil, List.append_nil] at hsz
  have hlt : ∀ x ∈ p, x.block < W.heap.size := hA.lt
  refine (walk W base args ds p ⟨hval, hA, hsz, hlt, hL, fun k hk' => by have := hk k hk'; rwa [List.append_nil] at this, hsh⟩).mono fun e W' ⟨he, bel⟩ => ?_
  rw [hvars, ← hv] at hW'
  exact ⟨_, he, lift_post hl hv hres hb hread hW' rfl (hspec ds (TrodAll_length hA).1) hA hlt bel⟩

end
end Go.Proofs.YtlcilhhmgkipiaaDoor
