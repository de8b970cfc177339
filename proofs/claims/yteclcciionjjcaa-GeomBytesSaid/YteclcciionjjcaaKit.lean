/- How a law's arguments are opened, and how a walk of it is lifted to its statement. -/
import Derived.Test.YteclcciionjjcaaRows
import Derived.WalkKit
import Derived.ProofKit
import Derived.OpenShut
import Derived.ShutString
import Derived.ChangeOld
import Derived.Below
import Derived.Lib.Hide
import Derived.Deep.Slices
import Derived.SizedLaws
import Derived.JoinedCond
import Derived.Deep.CondSized
import Derived.Deep.DeepHandedRow
import Derived.Deep.DeepWitnessRowRef
import Derived.LaidMore
import Derived.Lib.LaidTab
import Derived.Laws.AppendOwnNone
import Derived.Deep.RegionLaw
import Derived.Deep.QuietTactic
import Derived.BigQuiet
import Derived.WalkSpells
import Derived.WalkLawsBesides
import Derived.Deep.RegionWith
import Derived.Deep.RegionHeld3
import Derived.StillTailTactics
namespace Go.Proofs.Yteclcciionjjcaa
open Go.ChangeShapes Go.WideShapes Go.ChangeAt Go.RowKit
set_option linter.unusedVariables false

/-- Rows of sz cells each: the slice value (a, len) holds xs in the world w, the cells of an element given by cf. -/
def Rws {α : Type} (sz : Nat) (cf : α → List Value) (w : World) (a : Option Addr) (len : Nat) (xs : List α) : Prop :=
  xs.length = len ∧ (0 < len → ∃ b off, a = some ⟨b, off, none⟩ ∧ b < w.heap.size ∧ ∀ i x, xs[i]? = some x → ∀ j, j < sz → w.cell? ⟨b, off + (i * sz + j), none⟩ = (cf x)[j]?)

theorem Rws.nil {α : Type} {sz : Nat} {cf : α → List Value} {w : World} {a : Option Addr} : Rws sz cf w a 0 ([] : List α) := ⟨rfl, fun h => by omega⟩

theorem Rws.below {α : Type} {sz : Nat} {cf : α → List Value} {w w' : World} {a : Option Addr} {len : Nat} {xs : List α} (h : Rws sz cf w a len xs) (hb : Below w.heap.size w w') : Rws sz cf w' a len xs :=
  ⟨h.1, fun h0 => by
    obtain ⟨b, off, he, hlt, hc⟩ := h.2 h0
    exact ⟨b, off, he, Nat.lt_of_lt_of_le hlt hb.size, fun i x hx j hj => (hb.cell (p := ⟨b, _, none⟩) hlt).trans (hc i x hx j hj)⟩⟩

/-- One cell an element: ints of a kind. -/
def IntCell (k : IntKind) (n : Int) : List Value := [.int k n]
def BoolCell (b : Bool) : List Value := [.bool b]
abbrev IntsK (k : IntKind) := Rws 1 (IntCell k)

theorem IntsK.cell {k : IntKind} {w : World} {b off : Nat} {xs : List Int} (h : ∀ i x, xs[i]? = some x → ∀ j, j < 1 → w.cell? ⟨b, off + (i * 1 + j), none⟩ = (IntCell k x)[j]?) : ∀ i, i < xs.length → w.cell? ⟨b, off + i, none⟩ = some (.int k (xs.getD i 0)) := by
  intro i hi
  have := h i xs[i] (List.getElem?_eq_getElem hi) 0 (by omega)
  simpa [IntCell, List.getD, List.getElem?_eq_getElem hi] using this

/-- A slice value (a, len) that reads as the numbers zs of the kind k in the world w. -/
def Ints (k : IntKind) (w : World) (a : Option Addr) (len : Nat) (zs : List Int) : Prop :=
  zs.length = len ∧ (0 < len → ∃ b off, a = some ⟨b, off, none⟩ ∧ b < w.heap.size ∧ ∀ i, i < len → w.cell? ⟨b, off + i, none⟩ = some (.int k (zs.getD i 0)))

theorem IntsK.ints {k : IntKind} {w : World} {a : Option Addr} {len : Nat} {zs : List Int} (h : IntsK k w a len zs) : Ints k w a len zs :=
  ⟨h.1, fun h0 => by
    obtain ⟨b, off, he, hlt, hc⟩ := h.2 h0
    exact ⟨b, off, he, hlt, fun i hi => IntsK.cell hc i (by rw [h.1]; exact hi)⟩⟩

theorem Ints.below {k : IntKind} {w w' : World} {a : Option Addr} {len : Nat} {zs : List Int} (h : Ints k w a len zs) {B : Nat} (hb : Below B w w') (hB : w.heap.size ≤ B) : Ints k w' a len zs :=
  ⟨h.1, fun h0 => by
    obtain ⟨b, off, he, hlt, hc⟩ := h.2 h0
    exact ⟨b, off, he, Nat.lt_of_lt_of_le hlt hb.size, fun i hi => (hb.cell (p := ⟨b, _, none⟩) (Nat.lt_of_lt_of_le hlt hB)).trans (hc i hi)⟩⟩

/-- A slice of bytes that reads as the numbers l. -/
def Bytes (w : World) (a : Option Addr) (len : Nat) (l : List Nat) : Prop :=
  l.length = len ∧ (∀ c ∈ l, c < 256) ∧ (0 < len → ∃ b off, a = some ⟨b, off, none⟩ ∧ b < w.heap.size ∧ ∀ i, i < len → w.cell? ⟨b, off + i, none⟩ = some (.int .u8 (l.getD i 0 : Nat)))

theorem Bytes.below {w w' : World} {a : Option Addr} {len : Nat} {l : List Nat} (h : Bytes w a len l) {B : Nat} (hb : Below B w w') (hB : w.heap.size ≤ B) : Bytes w' a len l :=
  ⟨h.1, h.2.1, fun h0 => by
    obtain ⟨b, off, he, hlt, hc⟩ := h.2.2 h0
    exact ⟨b, off, he, Nat.lt_of_lt_of_le hlt hb.size, fun i hi => (hb.cell (p := ⟨b, _, none⟩) (Nat.lt_of_lt_of_le hlt hB)).trans (hc i hi)⟩⟩

theorem take_snoc (l : List Nat) (k : Nat) (h : k < l.length) : l.take (k + 1) = l.take k ++ [l.getD k 0] := by
  rw [List.take_succ_eq_append_getElem h]; simp [List.getD, List.getElem?_eq_getElem h]

/-- Bytes as values. -/
def u8s (l : List Nat) : List Value := l.map fun n : Nat => Value.int .u8 (n : Int)

theorem bytes_of_own {w : World} {base : Nat} {e : TypeId} {g n cap : Nat} {l : List Nat} (h : w.ownsRow base e 1 (.slice (some ⟨g, 0, none⟩) n cap) n (u8s l)) (hl : ∀ c ∈ l, c < 256) : Bytes w (some ⟨g, 0, none⟩) n l := by
  have hn : l.length = n := by simpa [u8s] using h.1
  refine ⟨hn, hl, fun _ => ⟨g, 0, rfl, (h.lt g rfl).2, fun i hi => ?_⟩⟩
  have h2 : i < l.length := by omega
  rw [Nat.zero_add, h.cellAt i (by omega)]
  simp [u8s, List.getD, h2]

theorem own_form {w : World} {base : Nat} {e : TypeId} {size : Nat} {v : Value} {n : Nat} {xs : List Value} (h : w.ownsRow base e size v n xs) : ∃ a cap, v = .slice a n cap := by
  rcases h.2 with ⟨rfl, rfl⟩ | ⟨g, cap, cur, hv, _⟩
  · exact ⟨none, 0, rfl⟩
  · exact ⟨_, cap, hv⟩
theorem own_shape {w : World} {base : Nat} {e : TypeId} {size : Nat} {v : Value} {n : Nat} {xs : List Value} (h : w.ownsRow base e size v n xs) (hn : 0 < n) : ∃ g cap, v = .slice (some ⟨g, 0, none⟩) n cap := by
  rcases h.2 with ⟨_, h0⟩ | ⟨g, cap, cur, hv, _⟩
  · omega
  · exact ⟨g, cap, hv⟩
theorem bytes_of_own' {w : World} {base : Nat} {e : TypeId} {v : Value} {n : Nat} {l : List Nat} (h : w.ownsRow base e 1 v n (u8s l)) (hl : ∀ c ∈ l, c < 256) : ∃ a cap, v = .slice a n cap ∧ Bytes w a n l := by
  rcases h.2 with ⟨rfl, rfl⟩ | ⟨g, cap, cur, rfl, _⟩
  · exact ⟨none, 0, rfl, by simpa [u8s] using h.1, hl, fun h0 => by omega⟩
  · exact ⟨_, cap, rfl, bytes_of_own h hl⟩
theorem u8s_cells {w : World} {b off len : Nat} {l : List Nat} (hn : l.length = len) (hc : ∀ i, i < len → w.cell? ⟨b, off + i, none⟩ = some (.int .u8 (l.getD i 0 : Nat))) : ∀ j u, (u8s l)[j]? = some u → w.cell? ((⟨b, off, none⟩ : Addr).add j) = some u := by
  intro j u hj
  have hj2 : j < l.length := by have := (List.getElem?_eq_some_iff.1 hj).1; simpa [u8s] using this
  rw [Go.WideShapes.add_plain, hc j (by omega)]
  simp only [u8s, List.getElem?_map, List.getElem?_eq_getElem hj2, Option.map_some] at hj
  simp [List.getD, List.getElem?_eq_getElem hj2, ← hj]
theorem u8s_one (l : List Nat) : ∀ u ∈ u8s l, u.oneCell' = true := by intro u hu; simp [u8s] at hu; obtain ⟨z, _, rfl⟩ := hu; rfl
theorem u8s_len (l : List Nat) : (u8s l).length = l.length := by simp [u8s]
theorem u8s_append (a b : List Nat) : u8s (a ++ b) = u8s a ++ u8s b := by simp [u8s]
theorem u8s_set (l : List Nat) (k v : Nat) : (u8s l).set k (.int .u8 (v : Int)) = u8s (l.set k v) := by simp [u8s, List.map_set]

/-- What is owned stays owned while nothing below the heap's old end is written. -/
theorem own_below {w w' : World} {base : Nat} {e : TypeId} {size : Nat} {v : Value} {n : Nat} {xs : List Value} (h : w.ownsRow base e size v n xs) {B : Nat} (hb : Below B w w') (hB : w.heap.size ≤ B) : w'.ownsRow base e size v n xs := by
  have hlt := h.lt
  refine ⟨h.1, ?_⟩
  rcases h.2 with h2 | ⟨g, cap, cur, hv, hg, hh, r⟩
  · exact .inl h2
  · refine .inr ⟨g, cap, cur, hv, hg, ?_, r⟩
    rw [hb.block g (Nat.lt_of_lt_of_le (hlt g (by rw [hv]; rfl)).2 hB)]; exact hh

/-- A place where the walk is to stop. -/
def Stop (p : Prop) : Prop := p
theorem Stop.mk {p : Prop} (h : Stop p) : p := h
theorem Stop.go {p : Prop} (h : p) : Stop p := h

theorem bytes_lit2 {w : World} {e : TypeId} {x y : Nat} (hx : x < 256) (hy : y < 256) : Bytes (w.alloc (.cells #[.int .u8 (x : Int), .int .u8 (y : Int)] e)) (some ⟨w.heap.size, 0, none⟩) 2 [x, y] :=
  ⟨rfl, by intro c hc; simp at hc; omega, fun _ => ⟨w.heap.size, 0, rfl, by simp, fun i hi => by
    match i, hi with
    | 0, _ => simp
    | 1, _ => simp⟩⟩
theorem bytes_lit1 {w : World} {e : TypeId} {x : Nat} (hx : x < 256) : Bytes (w.alloc (.cells #[.int .u8 (x : Int)] e)) (some ⟨w.heap.size, 0, none⟩) 1 [x] :=
  ⟨rfl, by intro c hc; simp at hc; omega, fun _ => ⟨w.heap.size, 0, rfl, by simp, fun i hi => by
    match i, hi with
    | 0, _ => simp⟩⟩

theorem own_empty {w : World} {base : Nat} {e : TypeId} (h : base ≤ w.heap.size) : (w.alloc (.cells #[] e)).ownsRow base e 1 (.slice (some ⟨w.heap.size, 0, none⟩) 0 0) 0 (u8s []) := World.ownsRow_lit (e := e) (base := base) (size := 1) w #[] 0 h (by decide) (by simp)
theorem Bytes.alloc {w : World} {a : Option Addr} {len : Nat} {l : List Nat} (h : Bytes w a len l) (o : Obj) : Bytes (w.alloc o) a len l := h.below ((Below.refl w.heap.size w).alloc (Nat.le_refl _) _) (Nat.le_refl _)

theorem Bytes.drew {w : World} {a : Option Addr} {len : Nat} {l : List Nat} (h : Bytes w a len l) : Bytes w.drew a len l := h.below (Below.refl w.heap.size w).drew (Nat.le_refl _)
theorem Bytes.drewN {w : World} {a : Option Addr} {len : Nat} {l : List Nat} (h : Bytes w a len l) (n : Nat) : Bytes (w.drewN n) a len l := h
theorem below_drewN' {B : Nat} {a w : World} (h : Below B a w) (n : Nat) : Below B a (w.drewN n) := ⟨h.os, h.tape, h.output, h.size, h.block⟩
theorem quietC {P : Program} {f : FuncId} {args : Array Value} {w : World} {n : Nat} {v : Value} (h : Calls P f args (w.drewN n) fun e w' => e = .returned v ∧ w.drewN n = w') : Calls P f args (w.drewN n) fun e w'' => e = .returned v ∧ ∃ m, w'' = w.drewN m :=
  Calls.quiet_of_same (h.mono fun _ _ ⟨a, b⟩ => ⟨a, b.symm⟩)
/-- The front of bytes. -/
theorem Bytes.take {w : World} {a : Option Addr} {len : Nat} {l : List Nat} (h : Bytes w a len l) {n : Nat} (hn : n ≤ len) : Bytes w a n (l.take n) :=
  ⟨by simp [h.1]; omega, fun c hc => h.2.1 c (List.mem_of_mem_take hc), fun h0 => by
    obtain ⟨b, off, he, hlt, hc⟩ := h.2.2 (by omega)
    exact ⟨b, off, he, hlt, fun i hi => by rw [hc i (by omega)]; simp [List.getD, hi]⟩⟩
/-- Bytes as a string. -/
def strB (l : List Nat) : ByteArray := strOfNums (l.map fun n : Nat => (n : Int))
theorem run_str {P : Program} {w : World} {a : Option Addr} {len : Nat} {l : List Nat} (h : Bytes w a len l) (src e dst : TypeId) (hs : P.underlying src = some (.slice e)) (he : P.underlying e = some (.int .u8)) (hd : P.underlying dst = some .string) (cap : Nat) :
    (convert src dst (.slice a len cap)).run P w = .ok (.string (strB l)) w := by
  cases a with
  | none =>
    have h0 : len = 0 := by
      by_cases h0 : 0 < len
      · obtain ⟨b, off, he, _⟩ := h.2.2 h0; simp at he
      · omega
    subst h0
    have hl : l = [] := List.eq_nil_of_length_eq_zero h.1
    subst hl
    exact run_convert_bytes_nil w src e hs he 0 cap dst hd
  | some ad =>
    by_cases h0 : 0 < len
    · obtain ⟨b, off, he', _, hc⟩ := h.2.2 h0
      obtain rfl : ad = ⟨b, off, none⟩ := by simpa using he'
      refine run_convert_bytes_arg w src e hs he b off len cap (l.map fun n : Nat => (n : Int)) (by simpa using h.1) (fun i hi => ?_) dst hd
      have hil : i < l.length := by rw [h.1]; exact hi
      rw [hc i hi]
      simp [List.getD, List.getElem?_eq_getElem hil]
    · have h1 : len = 0 := by omega
      subst h1
      have hl : l = [] := List.eq_nil_of_length_eq_zero h.1
      subst hl
      have hld : (loadCells ad 0).run P w = .ok (([] : List Int).map (Value.int .u8)).toArray w := by simp [loadCells, loadCellsFrom]
      rw [run_convert_bytes_string w src dst e _ 0 cap hs he hd, run_bytesToString w ad 0 cap [] hld]
      rfl
theorem strB_inj {l r : List Nat} (hl : ∀ c ∈ l, c < 256) (hr : ∀ c ∈ r, c < 256) (h : strB l = strB r) : l = r := by
  have h1 : (l.map fun n : Nat => UInt8.ofNat n) = (r.map fun n : Nat => UInt8.ofNat n) := by
    have := congrArg (fun b : ByteArray => b.data.toList) h
    simpa [strB, strOfNums, Function.comp_def] using this
  have h2 := congrArg (List.map UInt8.toNat) h1
  have e : ∀ l : List Nat, (∀ c ∈ l, c < 256) → (l.map fun n : Nat => UInt8.ofNat n).map UInt8.toNat = l := by
    intro l hl
    rw [List.map_map]
    have hid := List.map_id l
    have hc2 : l.map (UInt8.toNat ∘ fun n : Nat => UInt8.ofNat n) = l.map id := List.map_congr_left fun c hc => by simp [UInt8.toNat_ofNat', Nat.mod_eq_of_lt (hl c hc)]
    rw [hc2, hid]
  rwa [e l hl, e r hr] at h2
theorem strB_beq {l r : List Nat} (hl : ∀ c ∈ l, c < 256) (hr : ∀ c ∈ r, c < 256) : ((strB l).toList == (strB r).toList) = (l == r) := by
  rw [Bool.eq_iff_iff, beq_iff_eq, beq_iff_eq, ByteArray.toList_eq, ByteArray.toList_eq]
  refine ⟨fun h => strB_inj hl hr ?_, fun h => by rw [h]⟩
  have h2 : (strB l).data = (strB r).data := Array.toList_inj.1 h
  exact ByteArray.ext h2

theorem le_alloc {B : Nat} {w : World} {o : Obj} (h : B ≤ w.heap.size) : B ≤ (w.alloc o).heap.size := by simp; omega
theorem le_drew {B : Nat} {w : World} (h : B ≤ w.heap.size) : B ≤ w.drew.heap.size := h

/-- Bytes, or none at all: what may stand behind an append. -/
theorem own_zeros {w : World} {base : Nat} {e : TypeId} {v : Value} {n : Nat} (h : w.ownsRow base e 1 v n (madeCells (Value.int .u8 0).cells (n * 1)).toList) : w.ownsRow base e 1 v n (u8s (List.replicate n 0)) := by
  rw [show (Value.int .u8 0).cells = #[Value.int .u8 0] by rfl, toList_madeCells_one, Nat.mul_one] at h
  simpa [u8s] using h

section
variable {P : Program} {ops : Array Oper} {rest : List Oper} {o : Oper} {a : Act} {w : World} {Q : Exit → Act → World → Prop}

theorem wpList_wanted (hw : Region.wanted o (yielded ops a.tmps) = true) (h : ∀ K : Act → World → Prop, (∀ a w, wpList P ops Q rest a w → K a w) → o.wp P a w K Q) : wpList P ops Q (o :: rest) a w :=
  wpList_step fun K hK => by rw [if_pos hw]; exact h K hK

/-- 'append' of bytes onto a row of the call's own, whatever is appended (nil, empty or not). -/
theorem wp_app_u8 {K : Act → World → Prop} (s x : Operand) (t : TypeId)
    (ho : o.op = .call { callee := .builtin .append, args := #[s, x], argTypes := #[t, t] })
    (base : Nat) (e : TypeId) (ht : P.underlying t = some (.slice e)) (hinfo : (P.info? e).map (fun i => (i.zero, i.size, i.bytes)) = some (some (.int .u8 0), 1, 1))
    (v : Value) (n : Nat) (l : List Nat) (hs : a.eval s = v) (hown : w.ownsRow base e 1 v n (u8s l))
    (xa : Option Addr) (m c : Nat) (news : List Nat) (hx : a.eval x = .slice xa m c) (hnews : Bytes w xa m news) (hnil : xa = none → c = 0)
    (hb : n + m ≤ 140737488355328) (hbase : base ≤ w.heap.size)
    (h : ∀ v' w', w'.ownsRow base e 1 v' (n + m) (u8s (l ++ news)) → w.grownBy w' v.ownBlock → K (a.put o.dst v') w') : o.wp P a w K Q := by
  obtain ⟨i, hi, hz, hsz, hby⟩ := info_parts hinfo
  obtain ⟨h1, h2, h3⟩ := hnews
  cases xa with
  | none =>
    have hm : m = 0 := by
      by_cases hm : 0 < m
      · obtain ⟨b, off, he, _⟩ := h3 hm; simp at he
      · omega
    subst hm
    have hn : news = [] := List.eq_nil_of_length_eq_zero h1
    have hc := hnil rfl
    subst hc; subst hn
    have hrun := run_append_owned_none (P := P) (w := w) base t o.type e i 1 ht hi v n (u8s l) hown
    unfold Oper.wp
    simp [execOp, ho, resolve, invoke, builtin, hs, hx, hrun, Result.andThen]
    exact h v w (by simpa using hown) (World.grownBy.refl _ _)
  | some ad =>
    refine wp_append_own w s x t ho base e i (.int .u8 0) 1 1 ht hi hz hsz hby rfl (by decide) v n (u8s l) hs hown ad m c (u8s news) hx (by rw [u8s_len, h1, Nat.mul_one]) ?_ (u8s_one _) (by unfold maxLen; omega) (by omega) hbase ?_
    · by_cases hm : 0 < m
      · obtain ⟨b, off, he, _, hc⟩ := h3 hm
        obtain rfl : ad = ⟨b, off, none⟩ := by simpa using he
        exact u8s_cells h1 hc
      · have hn : news = [] := List.eq_nil_of_length_eq_zero (by omega)
        subst hn
        intro j u hj; simp [u8s] at hj
    · intro v' w' g1 g2 _
      rw [← u8s_append] at g1
      exact h v' w' g1 g2

theorem wpList_app_u8 (hw : Region.wanted o (yielded ops a.tmps) = true) (s x : Operand) (t : TypeId)
    (ho : o.op = .call { callee := .builtin .append, args := #[s, x], argTypes := #[t, t] })
    (base : Nat) (e : TypeId) (ht : P.underlying t = some (.slice e)) (hinfo : (P.info? e).map (fun i => (i.zero, i.size, i.bytes)) = some (some (.int .u8 0), 1, 1))
    (v : Value) (n : Nat) (l : List Nat) (hs : a.eval s = v) (hown : w.ownsRow base e 1 v n (u8s l))
    (xa : Option Addr) (m c : Nat) (news : List Nat) (hx : a.eval x = .slice xa m c) (hnews : Bytes w xa m news) (hnil : xa = none → c = 0)
    (hb : n + m ≤ 140737488355328) (hbase : base ≤ w.heap.size)
    (h : ∀ v' w', w'.ownsRow base e 1 v' (n + m) (u8s (l ++ news)) → w.grownBy w' v.ownBlock → wpList P ops Q rest (a.put o.dst v') w') : wpList P ops Q (o :: rest) a w :=
  wpList_wanted hw fun _ hK => wp_app_u8 s x t ho base e ht hinfo v n l hs hown xa m c news hx hnews hnil hb hbase fun v' w' g1 g2 => hK _ _ (h v' w' g1 g2)

theorem step_app_u8 {K : Act → World → Prop} {E : Prop} (hw : Region.wanted o (yielded ops a.tmps) = true) (s x : Operand) (t : TypeId)
    (ho : o.op = .call { callee := .builtin .append, args := #[s, x], argTypes := #[t, t] })
    (base : Nat) (e : TypeId) (ht : P.underlying t = some (.slice e)) (hinfo : (P.info? e).map (fun i => (i.zero, i.size, i.bytes)) = some (some (.int .u8 0), 1, 1))
    (v : Value) (n : Nat) (l : List Nat) (hs : a.eval s = v) (hown : w.ownsRow base e 1 v n (u8s l))
    (xa : Option Addr) (m c : Nat) (news : List Nat) (hx : a.eval x = .slice xa m c) (hnews : Bytes w xa m news) (hnil : xa = none → c = 0)
    (hb : n + m ≤ 140737488355328) (hbase : base ≤ w.heap.size)
    (h : ∀ v' w', w'.ownsRow base e 1 v' (n + m) (u8s (l ++ news)) → w.grownBy w' v.ownBlock → K (a.put o.dst v') w') : if Region.wanted o (yielded ops a.tmps) = true then Oper.wp P o a w K Q else E := by
  rw [if_pos hw]
  exact wp_app_u8 s x t ho base e ht hinfo v n l hs hown xa m c news hx hnews hnil hb hbase h

/-- 'make([]byte, n)'. -/
theorem wpList_make_u8 (hw : Region.wanted o (yielded ops a.tmps) = true) (lo co : Operand) (t : TypeId) (hop : o.op = Op.makeSlice t lo co)
    (base : Nat) (e : TypeId) (ht : P.underlying t = some (.slice e)) (hinfo : (P.info? e).map (fun i => (i.zero, i.size, i.bytes)) = some (some (.int .u8 0), 1, 1))
    (n : Nat) (hl : a.eval lo = .int .i64 (n : Int)) (hc : a.eval co = .int .i64 (n : Int)) (hb : n ≤ 140737488355328) (hbase : base ≤ w.heap.size)
    (hk : ∀ w', w'.ownsRow base e 1 (.slice (some ⟨w.heap.size, 0, none⟩) n n) n (u8s (List.replicate n 0)) → w.grownBy w' none → wpList P ops Q rest (a.put o.dst (.slice (some ⟨w.heap.size, 0, none⟩) n n)) w') :
    wpList P ops Q (o :: rest) a w := by
  obtain ⟨i, hi, hz, hsz, hby⟩ := info_parts hinfo
  refine wpList_wanted hw fun K hK' => ?_
  obtain ⟨w', hrun, r1, r2⟩ := run_make_full (P := P) w base t e i (.int .u8 0) 1 ht hi hz hsz .i64 .i64 n (by rw [hby]; omega) (by unfold maxLen; omega) hbase
  unfold Oper.wp
  simp [execOp, hop, hl, hc, hrun, Result.andThen]
  exact hK' _ _ (hk w' (own_zeros r1) r2)
end

theorem IntsK.bytes {w : World} {a : Option Addr} {len : Nat} {zs : List Int} (h : IntsK .u8 w a len zs) (hw : ∀ x ∈ zs, (Lit.int .u8 x).wf = true) : ∃ l : List Nat, Bytes w a len l := by
  refine ⟨zs.map Int.toNat, by simpa using h.1, ?_, fun h0 => ?_⟩
  · intro c hc
    simp at hc
    obtain ⟨x, hx, rfl⟩ := hc
    have := bounds_u8 (hw x hx); omega
  · obtain ⟨b, off, he, hlt, hc⟩ := h.2 h0
    refine ⟨b, off, he, hlt, fun i hi => ?_⟩
    have hil : i < zs.length := by rw [h.1]; exact hi
    rw [IntsK.cell hc i hil]
    have := bounds_u8 (hw zs[i] (List.getElem_mem _))
    simp [List.getD, List.getElem?_eq_getElem hil]
    omega

/-- What may be said of a 64-bit integer. -/
def I64 (x : Int) : Prop := -9223372036854775808 ≤ x ∧ x ≤ 9223372036854775807
theorem nat_u64 {x : Int} (h : (Lit.int .u64 x).wf = true) : ∃ n : Nat, x = n ∧ n < 18446744073709551616 := ⟨x.toNat, by have := bounds_u64 h; omega, by have := bounds_u64 h; omega⟩
theorem nat_u32 {x : Int} (h : (Lit.int .u32 x).wf = true) : ∃ n : Nat, x = n ∧ n < 4294967296 := ⟨x.toNat, by have := bounds_u32 h; omega, by have := bounds_u32 h; omega⟩
theorem nat_u16 {x : Int} (h : (Lit.int .u16 x).wf = true) : ∃ n : Nat, x = n ∧ n < 65536 := ⟨x.toNat, by have := bounds_u16 h; omega, by have := bounds_u16 h; omega⟩
theorem nat_u8 {x : Int} (h : (Lit.int .u8 x).wf = true) : ∃ n : Nat, x = n ∧ n < 256 := ⟨x.toNat, by have := bounds_u8 h; omega, by have := bounds_u8 h; omega⟩
theorem i64_of_wf {x : Int} (h : (Lit.int .i64 x).wf = true) : I64 x := bounds_i64 h

section
variable {H : Type} {enc : TypeId × Value → H} {P : Program}

theorem open_rows {α : Type} {sz : Nat} {cf : α → List Value} {wf : α → Prop} {w : World} {r : Reach} {b0 : Nat} {t e : TypeId} {v : Value} {d : DataW H} {ps : List MemPlace} (ht : P.underlying t = some (.slice e)) (hsz : P.cellsOf e = sz) (h0 : 0 < sz)
    (hcf : ∀ x, (cf x).length = sz)
    (hE : ∀ n cs y, DataW.trod enc P w 0 (fun _ => true) true n e cs = some y → ∃ x, cs = cf x ∧ wf x)
    (hval : Value.okWide P w r b0 t v) (hd : DataW.Trod enc P w 0 (fun _ => true) true t v d ps) :
    ∃ a len cap xs, v = .slice a len cap ∧ len ≤ cap ∧ cap ≤ maxLen ∧ (a = none → cap = 0) ∧ Rws sz cf w a len xs ∧ (∀ x ∈ xs, wf x) ∧ (d = .nil ∧ len = 0 ∨ ∃ elems spare, d = .slice elems spare ∧ elems.length = len ∧ spare.length = cap - len) := by
  obtain ⟨a, len, cap, rfl⟩ := okWide_slice ht hval
  obtain ⟨fuel, hf⟩ := hd
  rcases DataW.trod_slice ht hf with ⟨hcs, hx⟩ | ⟨a', len', cap', elems, rest, n, _, hcs, hx, hb, hl, hm, hlen, hel, hsp, _⟩
  · simp [Value.cells] at hcs hx
    obtain ⟨rfl, rfl, rfl⟩ := hcs
    exact ⟨none, 0, 0, [], rfl, Nat.le_refl _, Nat.zero_le _, fun _ => rfl, Rws.nil, by simp, Or.inl ⟨hx.1, rfl⟩⟩
  · simp [Value.cells] at hcs
    obtain ⟨rfl, rfl, rfl⟩ := hcs
    have hdd : d = .slice (elems.map (·.1)) (rest.map (·.1)) := (Prod.mk.inj hx).1
    have hspl := (hsp rfl).1
    have each : ∀ i, i < len → ∃ x, w.cells? 0 (a'.add (i * sz)) sz = some (cf x) ∧ wf x := by
      intro i hi
      have h1 := hel i hi
      rw [hsz, List.getElem?_eq_getElem (by omega), Option.bind_eq_some_iff] at h1
      obtain ⟨cs, hc, hy⟩ := h1
      obtain ⟨x, rfl, hw⟩ := hE _ _ _ hy
      exact ⟨x, hc, hw⟩
    by_cases hz : len = 0
    · subst hz
      exact ⟨some a', 0, cap, [], rfl, hl, hm, fun h => by simp at h, Rws.nil, by simp, Or.inr ⟨_, _, hdd, by simp [hlen], by simp [hspl]⟩⟩
    · obtain ⟨x0, hx0, _⟩ := each 0 (by omega)
      have hs0 := (World.cells?_some hx0).2.2 0 h0
      have hl0 : ∃ v0, (cf x0)[0]? = some v0 := ⟨_, List.getElem?_eq_getElem (by rw [hcf]; exact h0)⟩
      obtain ⟨v0, hv0⟩ := hl0
      rw [hv0] at hs0
      have hblk : a'.block < w.heap.size := by
        have := World.cells?_block hx0 h0
        simpa [Addr.add] using this
      obtain ⟨b, off, spot⟩ := a'
      have hspot : spot = none := by simpa [Addr.add] using World.cell?_spot hs0
      subst hspot
      have : Inhabited α := ⟨x0⟩
      obtain ⟨g, hg⟩ := Go.Deep.choose_lt each
      refine ⟨some ⟨b, off, none⟩, len, cap, (List.range len).map g, rfl, hl, hm, fun h => by simp at h, ⟨by simp, fun _ => ⟨b, off, rfl, hblk, ?_⟩⟩, ?_, Or.inr ⟨_, _, hdd, by simp [hlen], by simp [hspl]⟩⟩
      · intro i x hx j hj
        have hi : i < len := by
          have := (List.getElem?_eq_some_iff.1 hx).1
          simpa using this
        simp [hi] at hx
        subst hx
        have h2 := (World.cells?_some (hg i hi).1).2.2 j hj
        rw [Go.Deep.add_add, add_plain] at h2
        exact h2
      · intro x hx
        simp at hx
        obtain ⟨i, hi, rfl⟩ := hx
        exact (hg i hi).2

theorem open_intsK {w : World} {r : Reach} {b0 : Nat} {t e : TypeId} {k : IntKind} {v : Value} {d : DataW H} {ps : List MemPlace} (ht : P.underlying t = some (.slice e)) (he : P.underlying e = some (.int k)) (hsz : P.cellsOf e = 1)
    (hval : Value.okWide P w r b0 t v) (hd : DataW.Trod enc P w 0 (fun _ => true) true t v d ps) :
    ∃ a len cap xs, v = .slice a len cap ∧ len ≤ cap ∧ cap ≤ maxLen ∧ (a = none → cap = 0) ∧ IntsK k w a len xs ∧ (∀ x ∈ xs, (Lit.int k x).wf = true) ∧ (d = .nil ∧ len = 0 ∨ ∃ elems spare, d = .slice elems spare ∧ elems.length = len ∧ spare.length = cap - len) :=
  open_rows (cf := IntCell k) (wf := fun x => (Lit.int k x).wf = true) ht hsz (by omega) (fun _ => rfl) (fun n cs y h => by
    obtain ⟨m, h1, _, h3⟩ := DataW.trod_int he h
    exact ⟨m, h1, h3⟩) hval hd

theorem Below.trodAll (hl : laidOutB P = true) {W W' : World} (hb : Below W.heap.size W W') : ∀ {ts : List TypeId} {vs : List Value} {ds : List (DataW H)} {ps : List MemPlace},
    ts.all (fun t => P.readableRec t && decide (t < P.types.size)) = true → DataW.TrodAll enc P W 0 (fun _ => true) true ts vs ds ps → (∀ x ∈ ps, x.block < W.heap.size) →
    DataW.TrodAll enc P W' 0 (fun b => decide (b < W.heap.size)) true ts vs ds ps
  | [], [], [], _, _, h, _ => h
  | t :: ts, v :: vs, d :: ds, ps, hr, h, hlt => by
    obtain ⟨p, q, h1, h2, rfl⟩ := h
    simp only [List.all_cons, Bool.and_eq_true, decide_eq_true_eq] at hr
    refine ⟨p, q, Below.trod hl hr.1.1 hr.1.2 h1 hb (fun x hx => hlt x (by simp [hx])), Below.trodAll hl hb (by simpa using hr.2) h2 (fun x hx => hlt x (by simp [hx])), rfl⟩
  | [], [], _ :: _, _, _, h, _ => by simp [DataW.TrodAll] at h
  | [], _ :: _, _, _, _, h, _ => by simp [DataW.TrodAll] at h
  | _ :: _, [], _, _, _, h, _ => by simp [DataW.TrodAll] at h
  | _ :: _, _ :: _, [], _, _, h, _ => by simp [DataW.TrodAll] at h

theorem TrodAll_length : ∀ {w : World} {base : Nat} {spare : Nat → Bool} {held : Bool} {ts : List TypeId} {vs : List Value} {ds : List (DataW H)} {ps : List MemPlace}, DataW.TrodAll enc P w base spare held ts vs ds ps → ds.length = ts.length ∧ vs.length = ts.length
  | _, _, _, _, [], [], [], _, _ => ⟨rfl, rfl⟩
  | _, _, _, _, t :: ts, v :: vs, d :: ds, ps, h => by
    obtain ⟨p, q, _, h2, _⟩ := h
    have := TrodAll_length h2
    simp [this.1, this.2]
  | _, _, _, _, [], [], _ :: _, _, h => by simp [DataW.TrodAll] at h
  | _, _, _, _, [], _ :: _, _, _, h => by simp [DataW.TrodAll] at h
  | _, _, _, _, _ :: _, [], _, _, h => by simp [DataW.TrodAll] at h
  | _, _, _, _, _ :: _, _ :: _, [], _, h => by simp [DataW.TrodAll] at h

/-- What a walk of a law is told: each argument has its type's form, and reads as data; the listed variables; the condition. -/
structure Told (enc : TypeId × Value → H) (P : Program) (fn : Func) (o : OpenSpec) (laid : List (String × DataW Unit)) (W : World) (base : Nat) (args : Array Value) (ds : List (DataW H)) (p : List MemPlace) : Prop where
  val : ∀ (j : Nat) t v, fn.params[j]? = some t → args[j]? = some v → Value.okWide P W .any base t v
  trod : DataW.TrodAll enc P W 0 (fun _ => true) true fn.params.toList args.toList ds p
  sized : (DataW.weightsEach P fn.params.toList ds).all (· ≤ reachBytes) = true
  lt : ∀ x ∈ p, x.block < W.heap.size
  laid : laidMetH P laid W
  cond : ∀ k, o.cond = some k → k H ds = true
  shaped : W.ShapedOpen P

theorem lift_post {C : Checked} {fn : Func} {s : ChangeSpec} {tb : TypeId} (hl : laidOutB C.prog = true) (hvars : s.vars = [])
    (hres : fn.resultTypes = #[tb]) (hb : C.prog.underlying tb = some .bool) (hread : fn.params.toList.all (fun t => C.prog.readableRec t && decide (t < C.prog.types.size)) = true)
    {W W' : World} {args : Array Value} {ds gs : List (DataW H)} {before p : List MemPlace}
    (hW : DataW.Whole enc C.prog fn.params.toList s.vars false W args.toList ds gs before) (hg : gs = [])
    (hspec : (s.fn H ds).results = [.lit (.bool true)] ∧ (s.fn H ds).args = ds ∧ (s.fn H ds).vars = [])
    (hA : DataW.TrodAll enc C.prog W 0 (fun _ => true) true fn.params.toList args.toList ds p) (hlt : ∀ x ∈ p, x.block < W.heap.size) (bel : Below W.heap.size W W') :
    s.post enc C.prog fn false true false false W args (.bool true) W' := by
  obtain ⟨s1, s2, s3⟩ := hspec
  subst hg
  refine ⟨ds, [], before, [], p, [], hW, ?_, ?_, ?_, bel.frame _, fun h => by cases h⟩
  · rw [hres, List.append_nil, s1]
    exact trodAll_mk1 (shut_bool hb _)
  · rw [List.append_nil, s2]
    exact Below.trodAll hl bel hread hA hlt
  · rw [List.append_nil, s3, hvars]
    rfl

theorem lift_law {C : Checked} {os : Os} {f : FuncId} {fn : Func} {s : ChangeSpec} {o : OpenSpec} {laid : List (String × DataW Unit)} {tb : TypeId} {F : Stop.Interp} (hat : o.at F = s) (own : ownKnob C.prog.godebug = none) (hl : laidOutB C.prog = true) (started : os.Started) (noInit : C.prog.inits.idxOf? f = none) (hfn : C.prog.funcs[f]? = some fn)
    (hvars : o.vars = []) (hres : fn.resultTypes = #[tb]) (hb : C.prog.underlying tb = some .bool) (hread : fn.params.toList.all (fun t => C.prog.readableRec t && decide (t < C.prog.types.size)) = true)
    (hspec : ∀ (ds : List (DataW H)), ds.length = fn.params.toList.length → (s.fn H ds).results = [.lit (.bool true)] ∧ (s.fn H ds).args = ds ∧ (s.fn H ds).vars = [])
    (witness : ∃ (w : World) (tape : Tape) (i : Input), w.os = os ∧ (w.forCall tape i).Shaped C.prog ∧ i.vars = [] ∧ Input.okWide C.prog (w.forCall tape i) .any w.heap.size f i ∧
      o.preRow enc C.prog fn [] false laid (w.forCall tape i).memory i.args ∧ ({} : Assume).holds C.prog (lone (Frame.enter C.prog f i.args .normal) [] (w.forCall tape i)))
    (walk : ∀ (W : World) (base : Nat) (args : Array Value) (ds : List (DataW H)) (p : List MemPlace), Told enc C.prog fn o laid W base args ds p →
      Calls C.prog f args W fun e W' => e = .returned (.bool true) ∧ Below W.heap.size W W') :
    ReturnsInHanded {} C os f .any (o.preRow enc C.prog fn [] false laid) ((o.at F).post enc C.prog fn false true false false) := by
  refine returnsInHanded_of_row own started noInit hfn witness ?_
  intro W base args ds gs before hval hW hcnd hk hsz hL hsh _
  rw [hat]
  have hv : s.vars = [] := by rw [← hat]; exact hvars
  have hW' := hW
  obtain ⟨p, q, hA, hV, rfl, hfz, hnd⟩ := hW
  rw [hvars] at hV
  have hg : gs = [] := by
    cases gs with
    | nil => rfl
    | cons g gs => simp [DataW.TrodVars] at hV
  subst hg
  have hsv : o.bare.plain.varTypes C.prog = [] := by simp [ChangeSpec.plain, OpenSpec.bare, DataSpec.varTypes, hvars]
  rw [hsv, List.append_nil, List.append_nil] at hsz
  have hlt : ∀ x ∈ p, x.block < W.heap.size := hA.lt
  refine (walk W base args ds p ⟨hval, hA, hsz, hlt, hL, fun k hk' => by have := hk k hk'; rwa [List.append_nil] at this, hsh⟩).mono fun e W' ⟨he, bel⟩ => ?_
  rw [hvars, ← hv] at hW'
  exact ⟨_, he, lift_post hl hv hres hb hread hW' rfl (hspec ds (TrodAll_length hA).1) hA hlt bel⟩

end
end Go.Proofs.Yteclcciionjjcaa
