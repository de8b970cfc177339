/- nand: acts of a play; few; raw. -/
import Derived.Test.YtbbhniohliklhaaNandO
import Derived.Test.YtbbhniohliklhaaRowsD
namespace Go.Proofs.Ytbbhniohliklhaa
open Go Go.RowKit Go.ChangeShapes Go.WideShapes Go.Deep
set_option linter.unusedVariables false

/-- An act of a play. -/
structure NAct where
  op : Int
  blk : Int
  page : Int
  own : Bool
  fill : Int
  ra : Option Addr
  rc : Nat
  raw : List Nat
  one : Bool
  n : Int
def NAct.cells (x : NAct) : List Value := [.int .i64 x.op, .int .i64 x.blk, .int .i64 x.page, .bool x.own, .int .u8 x.fill, .slice x.ra x.raw.length x.rc, .bool x.one, .int .i64 x.n]
/-- What an act's bytes are in a world. -/
def NAct.wf (w : World) (x : NAct) : Prop := I64 x.op ∧ I64 x.blk ∧ I64 x.page ∧ (0 ≤ x.fill ∧ x.fill < 256) ∧ I64 x.n ∧ Bytes w x.ra x.raw.length x.raw ∧ (x.ra = none → x.rc = 0) ∧ x.raw.length ≤ x.rc ∧ x.rc ≤ maxLen
theorem NAct.wf.below {w w' : World} {x : NAct} (h : x.wf w) (hb : Below w.heap.size w w') : x.wf w' := by
  obtain ⟨a, b, c, d, e, f, g⟩ := h
  exact ⟨a, b, c, d, e, f.below hb (Nat.le_refl _), g⟩

/-- The first so many acts' bytes, how many. -/
def rawSum (xs : List NAct) : Nat → Nat
  | 0 => 0
  | k + 1 => rawSum xs k + ((xs[k]?.map (·.raw.length)).getD 0)
theorem rawSum_mono (xs : List NAct) (k : Nat) : ∀ d, rawSum xs k ≤ rawSum xs (k + d)
  | 0 => Nat.le_refl _
  | d + 1 => by
    have := rawSum_mono xs k d
    rw [← Nat.add_assoc, rawSum]; omega
theorem rawSum_one {xs : List NAct} {k n : Nat} {x : NAct} (hk : k < n) (hx : xs[k]? = some x) : x.raw.length ≤ rawSum xs n := by
  have := rawSum_mono xs (k + 1) (n - (k + 1))
  rw [show k + 1 + (n - (k + 1)) = n by omega, rawSum, hx] at this
  simp at this
  omega
theorem bulk_mem {H : Type} : ∀ (l : List (DataW H)) (i : Nat) (d : DataW H), l[i]? = some d → Rows.uptoBulk d ≤ Rows.uptoBulkAll l
  | [], i, d, h => by simp at h
  | e :: r, 0, d, h => by
    have : e = d := by simpa using h
    subst this
    simp [Rows.uptoBulkAll]
  | e :: r, i + 1, d, h => by
    have := bulk_mem r i d (by simpa using h)
    simp only [Rows.uptoBulkAll]
    omega
section
variable {H : Type} {enc : TypeId × Value → H}
set_option maxRecDepth 100000 in
theorem nact_of_trod {w : World} {n : Nat} {cs : List Value} {y : DataW H × List MemPlace} (h : DataW.trod enc Try.prog w 0 (fun _ => true) true n 53 cs = some y) : ∃ x : NAct, cs = x.cells ∧ x.wf w ∧ x.raw.length + 1 ≤ Rows.uptoBulk y.1 := by
  obtain ⟨xs, m, hn, hy, hlen, hxl, hf⟩ := DataW.trod_struct Try.underlying53 h
  have hC : Try.prog.cellsOf 53 = 8 := by kernel_rfl
  rw [hC] at hlen
  have hxl : xs.length = 8 := hxl
  have hf' : ∀ (j : Nat) (v : Value), cs[j]? = some v → ∀ f : Field, (Try.prog.underlying 53).bind (fun u => match u with | .struct fs => fs[j]? | _ => none) = some f → ∃ z, DataW.trod enc Try.prog w 0 (fun _ => true) true m f.type [v] = some z ∧ xs[j]? = some z := by
    intro j v hv f hj
    rw [Try.underlying53] at hj
    have hj := hj
    obtain ⟨ho, hk⟩ := hone_of (P := Try.prog) (by kernel_rfl) j f hj
    have h1 := hf j f hj
    rw [ho, hk] at h1
    have hjc : j < cs.length := (List.getElem?_eq_some_iff.1 hv).1
    have hone' : (cs.drop j).take 1 = [v] := by
      rw [List.drop_eq_getElem_cons hjc, (List.getElem?_eq_some_iff.1 hv).2]
      rfl
    rw [hone'] at h1
    have hjx : j < xs.length := by omega
    exact ⟨_, h1.trans (List.getElem?_eq_getElem hjx), List.getElem?_eq_getElem hjx⟩
  match cs, hlen with
  | [v0, v1, v2, v3, v4, v5, v6, v7], _ =>
    obtain ⟨z0, h0, -⟩ := hf' 0 v0 rfl _ (by rw [Try.underlying53]; rfl)
    obtain ⟨z1, h1, -⟩ := hf' 1 v1 rfl _ (by rw [Try.underlying53]; rfl)
    obtain ⟨z2, h2, -⟩ := hf' 2 v2 rfl _ (by rw [Try.underlying53]; rfl)
    obtain ⟨z3, h3, -⟩ := hf' 3 v3 rfl _ (by rw [Try.underlying53]; rfl)
    obtain ⟨z4, h4, -⟩ := hf' 4 v4 rfl _ (by rw [Try.underlying53]; rfl)
    obtain ⟨z5, h5, e5⟩ := hf' 5 v5 rfl _ (by rw [Try.underlying53]; rfl)
    obtain ⟨z6, h6, -⟩ := hf' 6 v6 rfl _ (by rw [Try.underlying53]; rfl)
    obtain ⟨z7, h7, -⟩ := hf' 7 v7 rfl _ (by rw [Try.underlying53]; rfl)
    obtain ⟨n0, q0, _, w0⟩ := DataW.trod_int Try.underlying3 h0
    obtain ⟨n1, q1, _, w1⟩ := DataW.trod_int Try.underlying3 h1
    obtain ⟨n2, q2, _, w2⟩ := DataW.trod_int Try.underlying3 h2
    obtain ⟨n3, q3, _⟩ := DataW.trod_bool Try.underlying4 h3
    obtain ⟨n4, q4, _, w4⟩ := DataW.trod_int Try.underlying5 h4
    obtain ⟨x5, q5, w5, l5⟩ := trod_bytesD Try.underlying29 Try.underlying5 (by kernel_rfl) h5
    obtain ⟨n6, q6, _⟩ := DataW.trod_bool Try.underlying4 h6
    obtain ⟨n7, q7, _, w7⟩ := DataW.trod_int Try.underlying3 h7
    simp only [Elem.cells, List.cons.injEq, and_true] at q0 q1 q2 q3 q4 q5 q6 q7
    subst q0 q1 q2 q3 q4 q5 q6 q7
    have hv := bounds_u8 w4
    refine ⟨⟨n0, n1, n2, n3, n4, x5.a, x5.cap, x5.l, n6, n7⟩, rfl, ⟨bounds_i64 w0, bounds_i64 w1, bounds_i64 w2, ⟨by show 0 ≤ n4; omega, by show n4 < 256; omega⟩, bounds_i64 w7, w5⟩, ?_⟩
    have hb := bulk_part l5
    have hm := bulk_mem (xs.map (·.1)) 5 z5.1 (by rw [List.getElem?_map, e5]; rfl)
    rw [hy]
    simp only [Rows.uptoBulk]
    show x5.l.length + 1 ≤ _
    omega
theorem bulk_acts {xs : List NAct} {elems : List (DataW H)} (h : ∀ (i : Nat) (x : NAct), xs[i]? = some x → ∃ y, elems[i]? = some y ∧ x.raw.length + 1 ≤ Rows.uptoBulk y) : ∀ k, k ≤ xs.length → rawSum xs k + k ≤ Rows.uptoBulkAll (elems.take k)
  | 0, _ => by simp [rawSum]
  | k + 1, hk => by
    have h1 := bulk_acts h k (by omega)
    have hx : xs[k]? = some xs[k] := List.getElem?_eq_getElem (by omega)
    obtain ⟨y, hy, hl⟩ := h k xs[k] hx
    have h2 := bulk_take elems k y hy
    rw [h2, rawSum, hx]
    simp only [Option.map_some, Option.getD_some]
    omega
set_option maxRecDepth 100000 in
theorem open_nacts {w : World} {r : Reach} {b0 : Nat} {v : Value} {d : DataW H} {ps : List MemPlace} (hval : Value.okWide Try.prog w r b0 50 v) (hd : DataW.Trod enc Try.prog w 0 (fun _ => true) true 50 v d ps) :
    ∃ a len cap xs, v = .slice a len cap ∧ len ≤ cap ∧ cap ≤ maxLen ∧ (a = none → cap = 0) ∧ Rws 8 NAct.cells w a len xs ∧ (∀ x ∈ xs, NAct.wf w x) ∧ rawSum xs len + len ≤ Rows.uptoBulk d := by
  obtain ⟨a, len, cap, xs, h1, h2, h3, h4, h5, h6, h7⟩ := open_rowsR (sz := 8) (cf := NAct.cells) (wf := NAct.wf w) (R := fun x y => x.raw.length + 1 ≤ Rows.uptoBulk y) Try.underlying50 (by kernel_rfl) (by decide) (fun _ => rfl) (fun n cs y h => nact_of_trod h) hval hd
  refine ⟨a, len, cap, xs, h1, h2, h3, h4, h5, h6, ?_⟩
  rcases h7 with ⟨rfl, rfl⟩ | ⟨elems, spare, rfl, he, h⟩
  · simp [rawSum]
  · have := bulk_acts h len (by rw [h5.1]; exact Nat.le_refl _)
    rw [List.take_of_length_le (by omega)] at this
    simp only [Rows.uptoBulk]
    omega
end
theorem NAct.eightAt {w wr : World} {b off len k : Nat} {l : List NAct} {z : NAct} (hl : Rws 8 NAct.cells w (some ⟨b, off, none⟩) len l) (hb : Below w.heap.size w wr) (h0 : k < len) (hx : l[k]? = some z) :
    b < w.heap.size ∧ wr.cell? ⟨b, off + k * 8, none⟩ = some (.int .i64 z.op) ∧ wr.cell? ⟨b, off + k * 8 + 1, none⟩ = some (.int .i64 z.blk) ∧ wr.cell? ⟨b, off + k * 8 + 2, none⟩ = some (.int .i64 z.page) ∧ wr.cell? ⟨b, off + k * 8 + 3, none⟩ = some (.bool z.own) ∧ wr.cell? ⟨b, off + k * 8 + 4, none⟩ = some (.int .u8 z.fill) ∧ wr.cell? ⟨b, off + k * 8 + 5, none⟩ = some (.slice z.ra z.raw.length z.rc) ∧ wr.cell? ⟨b, off + k * 8 + 6, none⟩ = some (.bool z.one) ∧ wr.cell? ⟨b, off + k * 8 + 7, none⟩ = some (.int .i64 z.n) := by
  obtain ⟨b', off', he, hlt, hc⟩ := hl.2 (by omega)
  simp only [Option.some.injEq, Addr.mk.injEq, and_true] at he
  obtain ⟨rfl, rfl⟩ := he
  have h := fun j (hj : j < 8) => (hb.cell (p := ⟨b, off + (k * 8 + j), none⟩) hlt).trans (hc k z hx j hj)
  exact ⟨hlt, h 0 (by omega), h 1 (by omega), h 2 (by omega), h 3 (by omega), h 4 (by omega), h 5 (by omega), h 6 (by omega), h 7 (by omega)⟩

/-- Whether acts are few. -/
def fewS (xs : List NAct) (len : Nat) : Bool := decide (len ≤ 200) && decide (rawSum xs len ≤ 16384)
set_option maxRecDepth 100000 in
theorem nfew_any (a : Option Addr) (len cap : Nat) (xs : List NAct) (w : World) (hi : Rws 8 NAct.cells w a len xs) (hb : rawSum xs len + len ≤ 1048576) :
    Calls Try.prog 20 #[.slice a len cap] w fun e w' => e = .returned (.bool (fewS xs len)) ∧ w = w' := by
  have HI := Lib.hid hi
  have hln := hi.1
  obtain ⟨r, hr⟩ : ∃ r, r = fewS xs len := ⟨_, rfl⟩
  rw [← hr]
  have HR := Lib.hid hr
  have HB := Lib.hid hb
  have hl2 : len ≤ 1048576 := by omega
  clear hi hr hb
  go_enter Try.func20, Try.ntmps20
  go_wp2_with fail
  go_loop [3, 4] (fun n i => ∃ k : Nat, k ≤ len ∧ i = .int .i64 (k : Int) ∧ n = .int .i64 ((rawSum xs k : Nat) : Int)) (fun _ i => len - (intOf i).toNat)
  case atStart => exact ⟨0, Nat.zero_le _, rfl, rfl⟩
  case round =>
    obtain ⟨k, hk, rfl, rfl⟩ := hrel
    by_cases hlt : k < len
    · obtain ⟨b, off, rfl, hbl, -⟩ := HI.out.2 (by omega)
      have hx : xs[k]? = some xs[k] := List.getElem?_eq_getElem (by omega)
      obtain ⟨z, hz⟩ : ∃ z, z = xs[k] := ⟨_, rfl⟩
      rw [← hz] at hx
      obtain ⟨-, -, -, -, -, -, c5, -⟩ := NAct.eightAt HI.out (Below.refl _ _) hlt hx
      have hs : rawSum xs (k + 1) = rawSum xs k + z.raw.length := by rw [rawSum, hx]; simp
      have hm := rawSum_mono xs (k + 1) (len - (k + 1))
      rw [show k + 1 + (len - (k + 1)) = len by omega] at hm
      have hb2 := HB.out
      obtain ⟨s, hse⟩ : ∃ s, s = rawSum xs k := ⟨_, rfl⟩
      obtain ⟨s2, hse2⟩ : ∃ s2, s2 = rawSum xs (k + 1) := ⟨_, rfl⟩
      rw [← hse, ← hse2] at hs
      rw [← hse2] at hm
      rw [← hse]
      obtain ⟨L, hL⟩ : ∃ L, L = z.raw.length := ⟨_, rfl⟩
      rw [← hL] at c5 hs
      have hs3 : (s : Int) + (L : Int) = (s2 : Int) := by omega
      have hsb : (s2 : Int) ≤ 1048576 := by omega
      have hlt' : (k : Int) < (len : Int) := by omega
      have hb0 : (0 : Int) ≤ (k : Int) ∧ (k : Int) < (len : Int) := by omega
      have HS2 := Lib.hid hse2
      clear hz hx hs hm hb2 hse hse2 hL
      go_wp2_with fail
      go_round
      case rel => exact ⟨k + 1, by omega, by simp, by rw [HS2.out]⟩
      case measure => simp [intOf]; omega
    · obtain rfl : k = len := by omega
      have hb2 := HB.out
      have hsb : ((rawSum xs k : Nat) : Int) ≤ 1048576 := by omega
      have hfe := HR.out
      unfold fewS at hfe
      obtain ⟨s, hs⟩ : ∃ s, s = rawSum xs k := ⟨_, rfl⟩
      rw [← hs] at hfe hsb ⊢
      clear hs
      by_cases t1 : k ≤ 200
      · have t1' : (k : Int) ≤ 200 := by omega
        by_cases t2 : s ≤ 16384
        · have t2' : (s : Int) ≤ 16384 := by omega
          have hrt : r = true := by rw [hfe]; simp [t1, t2]
          subst hrt
          clear hfe
          go_wp2_with fail
          go_ret
          exact ⟨rfl, rfl⟩
        · have t2' : ¬ ((s : Int) ≤ 16384) := by omega
          have hrt : r = false := by rw [hfe]; simp [t2]
          subst hrt
          clear hfe
          go_wp2_with fail
          go_ret
          exact ⟨rfl, rfl⟩
      · have t1' : ¬ ((k : Int) ≤ 200) := by omega
        have hrt : r = false := by rw [hfe]; simp [t1]
        subst hrt
        clear hfe
        go_wp2_with fail
        go_ret
        exact ⟨rfl, rfl⟩
end Go.Proofs.Ytbbhniohliklhaa
