/- regs: what is known; acts; RegsBits. -/
import Derived.Test.YtjjeopanffcbiaaRegsC
namespace Go.Proofs.Ytjjeopanffcbiaa
open Go Go.RowKit Go.ChangeShapes Go.WideShapes Go.Deep
set_option linter.unusedVariables false

/-- An act of a play. -/
structure RAct where
  op : Int
  n : Int
  v : Int
  arg : Int
def RAct.cells (b : RAct) : List Value := [.int .i64 b.op, .int .i64 b.n, .int .u8 b.v, .int .u32 b.arg]
def RAct.wf (b : RAct) : Prop := I64 b.op ∧ I64 b.n ∧ (0 ≤ b.v ∧ b.v < 256) ∧ (0 ≤ b.arg ∧ b.arg < 4294967296)
theorem ract_of_trod {H : Type} {enc : TypeId × Value → H} {w : World} {n : Nat} {cs : List Value} {y : DataW H × List MemPlace} (h : DataW.trod enc Try.prog w 0 (fun _ => true) true n 55 cs = some y) : ∃ x : RAct, cs = x.cells ∧ x.wf := by
  obtain ⟨hlen, m, hf⟩ := struct_fields Try.underlying55 (by kernel_rfl) (by kernel_rfl) h
  match cs, hlen with
  | [v0, v1, v2, v3], _ =>
    obtain ⟨z0, h0⟩ := hf 0 v0 rfl _ rfl
    obtain ⟨z1, h1⟩ := hf 1 v1 rfl _ rfl
    obtain ⟨z2, h2⟩ := hf 2 v2 rfl _ rfl
    obtain ⟨z3, h3⟩ := hf 3 v3 rfl _ rfl
    obtain ⟨n0, e0, _, w0⟩ := DataW.trod_int Try.underlying3 h0
    obtain ⟨n1, e1, _, w1⟩ := DataW.trod_int Try.underlying3 h1
    obtain ⟨n2, e2, _, w2⟩ := DataW.trod_int Try.underlying5 h2
    obtain ⟨n3, e3, _, w3⟩ := DataW.trod_int Try.underlying53 h3
    simp only [List.cons.injEq, and_true] at e0 e1 e2 e3
    subst e0 e1 e2 e3
    have hu := bounds_u32 w3
    have hv := bounds_u8 w2
    exact ⟨⟨n0, n1, n2, n3⟩, rfl, bounds_i64 w0, bounds_i64 w1, ⟨by show 0 ≤ n2; omega, by show n2 < 256; omega⟩, ⟨by show 0 ≤ n3; omega, by show n3 < 4294967296; omega⟩⟩
set_option maxRecDepth 100000 in
theorem ract_cells : Try.prog.cellsOf 55 = 4 := by kernel_rfl
set_option maxRecDepth 100000 in
theorem open_racts {H : Type} {enc : TypeId × Value → H} {w : World} {r : Reach} {b0 : Nat} {v : Value} {d : DataW H} {ps : List MemPlace} (hval : Value.okWide Try.prog w r b0 48 v) (hd : DataW.Trod enc Try.prog w 0 (fun _ => true) true 48 v d ps) :
    ∃ a len cap xs, v = .slice a len cap ∧ len ≤ cap ∧ cap ≤ maxLen ∧ (a = none → cap = 0) ∧ Rws 4 RAct.cells w a len xs ∧ (∀ x ∈ xs, RAct.wf x) ∧ (d = .nil ∧ len = 0 ∨ ∃ elems spare, d = .slice elems spare ∧ elems.length = len ∧ spare.length = cap - len) :=
  open_rows (sz := 4) (cf := RAct.cells) (wf := RAct.wf) Try.underlying48 ract_cells (by decide) (fun _ => rfl) (fun n cs y h => ract_of_trod h) hval hd
theorem RAct.fourAt {w wr : World} {b off len k : Nat} {l : List RAct} {z : RAct} (hl : Rws 4 RAct.cells w (some ⟨b, off, none⟩) len l) (hb : Below w.heap.size w wr) (h0 : k < len) (hx : l[k]? = some z) :
    b < w.heap.size ∧ wr.cell? ⟨b, off + k * 4, none⟩ = some (.int .i64 z.op) ∧ wr.cell? ⟨b, off + k * 4 + 1, none⟩ = some (.int .i64 z.n) ∧ wr.cell? ⟨b, off + k * 4 + 2, none⟩ = some (.int .u8 z.v) ∧ wr.cell? ⟨b, off + k * 4 + 3, none⟩ = some (.int .u32 z.arg) := by
  obtain ⟨b', off', he, hlt, hc⟩ := hl.2 (by omega)
  simp only [Option.some.injEq, Addr.mk.injEq, and_true] at he
  obtain ⟨rfl, rfl⟩ := he
  have h := fun j (hj : j < 4) => (hb.cell (p := ⟨b, off + (k * 4 + j), none⟩) hlt).trans (hc k z hx j hj)
  exact ⟨hlt, h 0 (by omega), h 1 (by omega), h 2 (by omega), h 3 (by omega)⟩

theorem write_lit {vs : List Int} {n v : Int} {r : Int × List Int} (hr : writeS vs n v = r) (g : Nat) (w : World) (hf : RFile w g vs) :
    Calls Try.prog 35 #[.pointer (some ⟨g, 0, none⟩), .int .i64 n, .int .u8 v] w fun e w' => (e = .returned (.int .i64 r.1) ∧ RFile w' g r.2) ∧ w.grownBy w' (some g) := by
  rw [← hr]; exact write_any g vs n v w hf
theorem rnext_lit {vs : List Int} {a : Int} {r : Int × Int × Int} (hr : nextR vs a = r) (g : Nat) (w : World) (hf : RFile w g vs) (h0 : 0 ≤ a) (h1 : a < 4294967296) :
    Calls Try.prog 37 #[.pointer (some ⟨g, 0, none⟩), .int .u32 a] w fun e w' => e = .returned (.tuple #[.int .i64 r.1, .int .u8 r.2.1, .int .i64 r.2.2]) ∧ Below w.heap.size w w' := by
  rw [← hr]; exact rnext_file g vs a w hf h0 h1
theorem get_lit {vs : List Int} {n r : Int} (hr : getS vs n = r) (g : Nat) (w : World) (hf : RFile w g vs) :
    Calls Try.prog 36 #[.pointer (some ⟨g, 0, none⟩), .int .i64 n] w fun e w' => e = .returned (.int .u8 r) ∧ w = w' := by
  rw [← hr]; exact get_any g vs n w hf

def knownA : List Int := zeros64.set 6 1
def knownB : List Int := knownA.set 6 3

set_option maxHeartbeats 1000000 in
theorem rknown_any (w : World) :
    Calls Try.prog 32 #[] w fun e w' => e = .returned (.bool true) ∧ Below w.heap.size w w' := by
  obtain ⟨g, hg⟩ : ∃ g, g = w.heap.size := ⟨_, rfl⟩
  have HG := Lib.hid hg
  go_enter Try.func32, Try.ntmps32
  go_wp2_with fail
  refine (rnew_any _).mono ?_
  rintro e w1 ⟨⟨rfl, hM⟩, hb⟩
  rw [← hg] at hM hb ⊢
  have HB : Hid (Below g w w1) := Lib.hid hb
  have hs1 := HB.out.size
  have HM1 := Lib.hid hM
  clear hb hM hg
  go_wp2_with fail
  refine (write_lit (r := (0, knownA)) (by decide +kernel) g _ HM1.out).mono ?_
  rintro e w2 ⟨⟨rfl, hM2⟩, hg2⟩
  have HM2 := Lib.hid hM2
  have HG2 := Lib.hid hg2
  clear hM2 hg2 HM1
  go_wp2_with fail
  refine (write_lit (r := (22, knownA)) (by decide +kernel) g _ HM2.out).mono ?_
  rintro e w3 ⟨⟨rfl, hM3⟩, hg3⟩
  have HM3 := Lib.hid hM3
  have HG3 := Lib.hid (gb_trans HG2.out hg3)
  clear hM3 hg3 HM2 HG2
  go_wp2_with fail
  refine (write_lit (r := (0, knownB)) (by decide +kernel) g _ HM3.out).mono ?_
  rintro e w4 ⟨⟨rfl, hM4⟩, hg4⟩
  have HM4 := Lib.hid hM4
  have HG4 := Lib.hid (gb_trans HG3.out hg4)
  clear hM4 hg4 HM3 HG3
  go_wp2_with fail
  refine (rnext_lit (r := (1, 1, 0)) (by decide +kernel) g _ HM4.out (by omega) (by omega)).mono ?_
  rintro e w5 ⟨rfl, hb5⟩
  have HM5 := Lib.hid (HM4.out.below hb5)
  have HB5 := Lib.hid hb5
  clear hb5 HM4
  go_wp2_with (go_at_call 36; refine (get_lit (r := 3) (by decide +kernel) g _ HM5.out).mono ?_; rintro e w6 ⟨rfl, rfl⟩)
  go_ret
  obtain rfl := HG.out
  have hb1' := below_gb HB.out HG4.out hs1 (Nat.le_refl _)
  exact ⟨rfl, hb1'.trans (HB5.out.mono hb1'.size)⟩

/-! ### an argument's parts -/
theorem arg_or (h n v : Nat) (hh : h < 4) (hn : n < 64) (hv : v < 256) :
    bits .or .u32 ((n : Int) * 65536) ((v : Int) * 256) = ((n * 65536 + v * 256 : Nat) : Int) ∧ bits .or .u32 ((h * 16777216 : Nat) : Int) ((n * 65536 + v * 256 : Nat) : Int) = ((h * 16777216 + n * 65536 + v * 256 : Nat) : Int) := by
  have e1 : n * 65536 ||| v * 256 = n * 65536 + v * 256 := by
    have := Nat.two_pow_add_eq_or_of_lt (i := 16) (b := v * 256) (by omega) n
    rw [show (2 : Nat) ^ 16 = 65536 by rfl, Nat.mul_comm 65536 n] at this
    exact this.symm
  have e2 : h * 16777216 ||| (n * 65536 + v * 256) = h * 16777216 + n * 65536 + v * 256 := by
    have := Nat.two_pow_add_eq_or_of_lt (i := 24) (b := n * 65536 + v * 256) (by omega) h
    rw [show (2 : Nat) ^ 24 = 16777216 by rfl, Nat.mul_comm 16777216 h] at this
    rw [← this]; omega
  constructor
  · rw [show ((n : Int) * 65536) = ((n * 65536 : Nat) : Int) by omega, show ((v : Int) * 256) = ((v * 256 : Nat) : Int) by omega, u32_or_nat _ _ (by omega) (by omega), e1]
  · rw [u32_or_nat _ _ (by omega) (by omega), e2]
theorem arg_parts (h n v : Nat) (hh : h < 4) (hn : n < 64) (hv : v < 256) :
    howOf ((h * 16777216 + n * 65536 + v * 256 : Nat) : Int) = h ∧ numOf' ((h * 16777216 + n * 65536 + v * 256 : Nat) : Int) = n ∧ valOf ((h * 16777216 + n * 65536 + v * 256 : Nat) : Int) = v := by
  refine ⟨?_, ?_, ?_⟩
  · unfold howOf
    rw [show (((h * 16777216 + n * 65536 + v * 256 : Nat) : Int) / 16777216) = (((h * 16777216 + n * 65536 + v * 256) / 16777216 : Nat) : Int) by omega, show (3 : Int) = ((3 : Nat) : Int) by rfl, u32_and_nat _ _ (by omega) (by omega)]
    have := Nat.and_two_pow_sub_one_eq_mod ((h * 16777216 + n * 65536 + v * 256) / 16777216) 2
    simp only [Nat.reducePow, Nat.reduceSub] at this
    rw [this]; omega
  · unfold numOf'
    rw [show (((h * 16777216 + n * 65536 + v * 256 : Nat) : Int) / 65536) = (((h * 16777216 + n * 65536 + v * 256) / 65536 : Nat) : Int) by omega, show (255 : Int) = ((255 : Nat) : Int) by rfl, u32_and_nat _ _ (by omega) (by omega)]
    have := Nat.and_two_pow_sub_one_eq_mod ((h * 16777216 + n * 65536 + v * 256) / 65536) 8
    simp only [Nat.reducePow, Nat.reduceSub] at this
    rw [this]; omega
  · unfold valOf; omega

end Go.Proofs.Ytjjeopanffcbiaa
