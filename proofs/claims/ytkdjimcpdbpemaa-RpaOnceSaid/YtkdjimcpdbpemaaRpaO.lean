/- rpa: frames, acts, arrays of bytes that come in. -/
import Derived.Test.YtkdjimcpdbpemaaRpaN
namespace Go.Proofs.Ytkdjimcpdbpemaa
open Go Go.RowKit Go.ChangeShapes Go.WideShapes Go.Deep
set_option linter.unusedVariables false

section
variable {H : Type} {enc : TypeId × Value → H} {w : World}
set_option maxRecDepth 100000 in
theorem arr_of_trod {t : TypeId} {N : Nat} (hu : Try.prog.underlying t = some (.array N 5)) (hcN : Try.prog.cellsOf t = N) {n : Nat} {cs : List Value} {y : DataW H × List MemPlace} (h : DataW.trod enc Try.prog w 0 (fun _ => true) true n t cs = some y) :
    ∃ l : List Nat, cs = u8s l ∧ l.length = N ∧ ∀ c ∈ l, c < 256 := by
  obtain ⟨xs, m, _, _, hlen, hx, hg⟩ := DataW.trod_array hu h
  have hc1 : Try.prog.cellsOf 5 = 1 := by kernel_rfl
  rw [hcN] at hlen
  simp only [hc1] at hg
  have each : ∀ i, i < N → ∃ z : Int, cs[i]? = some (.int .u8 z) ∧ (Lit.int .u8 z).wf = true := by
    intro i hi
    have h1 := hg i hi
    rw [List.getElem?_eq_getElem (by omega)] at h1
    obtain ⟨n, e, _, hw⟩ := DataW.trod_int Try.underlying5 h1
    refine ⟨n, ?_, hw⟩
    have := congrArg (·[0]?) e
    simpa [List.getElem?_drop] using this
  obtain ⟨f, hf⟩ := Go.Deep.choose_lt each
  refine ⟨(List.range N).map fun i => (f i).toNat, ?_, by simp, ?_⟩
  · apply List.ext_getElem?
    intro i
    by_cases hi : i < N
    · rw [(hf i hi).1]
      have := bounds_u8 (hf i hi).2
      simp [u8s, hi]
      omega
    · rw [List.getElem?_eq_none (by omega), List.getElem?_eq_none (by simp [u8s]; omega)]
  · intro c hc
    simp only [List.mem_map, List.mem_range] at hc
    obtain ⟨i, hi, rfl⟩ := hc
    have := bounds_u8 (hf i hi).2
    omega
theorem split_at {α : Type} (cs : List α) (o n : Nat) : cs.drop o = (cs.drop o).take n ++ cs.drop (o + n) := by
  rw [← List.drop_drop, List.take_append_drop]
set_option maxRecDepth 100000 in
theorem frame_of_trod {n : Nat} {cs : List Value} {y : DataW H × List MemPlace} (h : DataW.trod enc Try.prog w 0 (fun _ => true) true n 37 cs = some y) : ∃ f : RF, cs = f.cells ∧ f.Ok := by
  obtain ⟨xs, m, _, _, hlen, hx, hf⟩ := DataW.trod_struct Try.underlying37 h
  have hC : Try.prog.cellsOf 37 = 117 := by kernel_rfl
  rw [hC] at hlen
  have get : ∀ i (hi : i < 8), ∃ z, xs[i]? = some z := fun i hi => ⟨_, List.getElem?_eq_getElem (by rw [hx]; exact hi)⟩
  obtain ⟨y0, h0⟩ := get 0 (by omega)
  obtain ⟨y1, h1⟩ := get 1 (by omega)
  obtain ⟨y2, h2⟩ := get 2 (by omega)
  obtain ⟨y3, h3⟩ := get 3 (by omega)
  obtain ⟨y4, h4⟩ := get 4 (by omega)
  obtain ⟨y5, h5⟩ := get 5 (by omega)
  obtain ⟨y6, h6⟩ := get 6 (by omega)
  obtain ⟨y7, h7⟩ := get 7 (by omega)
  obtain ⟨a, ea, la, ba⟩ := arr_of_trod Try.underlying33 (by kernel_rfl) ((hf 0 _ rfl).trans h0)
  obtain ⟨b, eb, lb, bb⟩ := arr_of_trod Try.underlying34 (by kernel_rfl) ((hf 1 _ rfl).trans h1)
  obtain ⟨c, ec, lc, bc⟩ := arr_of_trod Try.underlying35 (by kernel_rfl) ((hf 2 _ rfl).trans h2)
  obtain ⟨k3, e3, _, w3⟩ := DataW.trod_int Try.underlying23 ((hf 3 _ rfl).trans h3)
  obtain ⟨k4, e4, _, w4⟩ := DataW.trod_int Try.underlying3 ((hf 4 _ rfl).trans h4)
  obtain ⟨k5, e5, _, w5⟩ := DataW.trod_int Try.underlying3 ((hf 5 _ rfl).trans h5)
  obtain ⟨k6, e6, _, w6⟩ := DataW.trod_int Try.underlying3 ((hf 6 _ rfl).trans h6)
  obtain ⟨k7, e7, _, w7⟩ := DataW.trod_int Try.underlying3 ((hf 7 _ rfl).trans h7)
  have ea : (cs.drop 0).take 32 = u8s a := ea
  have eb : (cs.drop 32).take 64 = u8s b := eb
  have ec : (cs.drop 96).take 16 = u8s c := ec
  have e3 : (cs.drop 112).take 1 = [.int .u32 k3] := e3
  have e4 : (cs.drop 113).take 1 = [.int .i64 k4] := e4
  have e5 : (cs.drop 114).take 1 = [.int .i64 k5] := e5
  have e6 : (cs.drop 115).take 1 = [.int .i64 k6] := e6
  have e7 : (cs.drop 116).take 1 = [.int .i64 k7] := e7
  have hb3 := bounds_u32 w3
  refine ⟨⟨a, b, c, k3.toNat, k4, k5, k6, k7⟩, ?_, ⟨la, lb, lc, ba, bb, bc, by show k3.toNat < _; omega, bounds_i64 w4, bounds_i64 w5, bounds_i64 w6, bounds_i64 w7⟩⟩
  have key : cs.drop 0 = u8s a ++ (u8s b ++ (u8s c ++ ([.int .u32 k3] ++ ([.int .i64 k4] ++ ([.int .i64 k5] ++ ([.int .i64 k6] ++ ([.int .i64 k7] ++ []))))))) := by
    rw [split_at cs 0 32, ea, split_at cs (0 + 32) 64, eb, split_at cs (0 + 32 + 64) 16, ec, split_at cs (0 + 32 + 64 + 16) 1, e3, split_at cs (0 + 32 + 64 + 16 + 1) 1, e4, split_at cs (0 + 32 + 64 + 16 + 1 + 1) 1, e5, split_at cs (0 + 32 + 64 + 16 + 1 + 1 + 1) 1, e6, split_at cs (0 + 32 + 64 + 16 + 1 + 1 + 1 + 1) 1, e7, List.drop_eq_nil_of_le (by omega)]
  rw [List.drop_zero] at key
  rw [key]
  simp only [RF.cells, RF.tail]
  rw [show ((k3.toNat : Nat) : Int) = k3 by omega]
  rfl

/-- An act of a play. -/
structure RAct where
  f : RF
  sign : Int
  other : List Nat
  step : Int
  again : Bool
  done : Bool
  ok : Bool
  data : List Nat
  blind : Bool
  silent : Bool
def RAct.cells (x : RAct) : List Value := x.f.cells ++ ([.int .i64 x.sign] ++ (u8s x.other ++ ([.int .i64 x.step] ++ ([.bool x.again] ++ ([.bool x.done] ++ ([.bool x.ok] ++ (u8s x.data ++ ([.bool x.blind] ++ [.bool x.silent]))))))))
structure RAct.Ok (x : RAct) : Prop where
  f : x.f.Ok
  i1 : I64 x.sign
  ol : x.other.length = 32
  ob : ∀ c ∈ x.other, c < 256
  i2 : I64 x.step
  dl : x.data.length = 64
  db : ∀ c ∈ x.data, c < 256
theorem RAct.len {x : RAct} (h : x.Ok) : x.cells.length = 220 := by simp [RAct.cells, RF.cells_len h.f, u8s_len, h.ol, h.dl]
set_option maxRecDepth 100000 in
theorem act_of_trod {n : Nat} {cs : List Value} {y : DataW H × List MemPlace} (h : DataW.trod enc Try.prog w 0 (fun _ => true) true n 41 cs = some y) : ∃ x : RAct, cs = x.cells ∧ x.Ok := by
  obtain ⟨xs, m, _, _, hlen, hx, hf⟩ := DataW.trod_struct Try.underlying41 h
  have hC : Try.prog.cellsOf 41 = 220 := by kernel_rfl
  rw [hC] at hlen
  have get : ∀ i (hi : i < 10), ∃ z, xs[i]? = some z := fun i hi => ⟨_, List.getElem?_eq_getElem (by rw [hx]; exact hi)⟩
  obtain ⟨y0, h0⟩ := get 0 (by omega)
  obtain ⟨y1, h1⟩ := get 1 (by omega)
  obtain ⟨y2, h2⟩ := get 2 (by omega)
  obtain ⟨y3, h3⟩ := get 3 (by omega)
  obtain ⟨y4, h4⟩ := get 4 (by omega)
  obtain ⟨y5, h5⟩ := get 5 (by omega)
  obtain ⟨y6, h6⟩ := get 6 (by omega)
  obtain ⟨y7, h7⟩ := get 7 (by omega)
  obtain ⟨y8, h8⟩ := get 8 (by omega)
  obtain ⟨y9, h9⟩ := get 9 (by omega)
  obtain ⟨f, ef, fo⟩ := frame_of_trod ((hf 0 _ rfl).trans h0)
  obtain ⟨k1, e1, _, w1⟩ := DataW.trod_int Try.underlying3 ((hf 1 _ rfl).trans h1)
  obtain ⟨o, eo, lo, bo⟩ := arr_of_trod Try.underlying22 (by kernel_rfl) ((hf 2 _ rfl).trans h2)
  obtain ⟨k3, e3, _, w3⟩ := DataW.trod_int Try.underlying3 ((hf 3 _ rfl).trans h3)
  obtain ⟨b4, e4, _⟩ := DataW.trod_bool Try.underlying4 ((hf 4 _ rfl).trans h4)
  obtain ⟨b5, e5, _⟩ := DataW.trod_bool Try.underlying4 ((hf 5 _ rfl).trans h5)
  obtain ⟨b6, e6, _⟩ := DataW.trod_bool Try.underlying4 ((hf 6 _ rfl).trans h6)
  obtain ⟨d, ed, ld, bd⟩ := arr_of_trod Try.underlying34 (by kernel_rfl) ((hf 7 _ rfl).trans h7)
  obtain ⟨b8, e8, _⟩ := DataW.trod_bool Try.underlying4 ((hf 8 _ rfl).trans h8)
  obtain ⟨b9, e9, _⟩ := DataW.trod_bool Try.underlying4 ((hf 9 _ rfl).trans h9)
  have ef : (cs.drop 0).take 117 = f.cells := ef
  have e1 : (cs.drop 117).take 1 = [.int .i64 k1] := e1
  have eo : (cs.drop 118).take 32 = u8s o := eo
  have e3 : (cs.drop 150).take 1 = [.int .i64 k3] := e3
  have e4 : (cs.drop 151).take 1 = [.bool b4] := e4
  have e5 : (cs.drop 152).take 1 = [.bool b5] := e5
  have e6 : (cs.drop 153).take 1 = [.bool b6] := e6
  have ed : (cs.drop 154).take 64 = u8s d := ed
  have e8 : (cs.drop 218).take 1 = [.bool b8] := e8
  have e9 : (cs.drop 219).take 1 = [.bool b9] := e9
  refine ⟨⟨f, k1, o, k3, b4, b5, b6, d, b8, b9⟩, ?_, ⟨fo, bounds_i64 w1, lo, bo, bounds_i64 w3, ld, bd⟩⟩
  have key : cs.drop 0 = f.cells ++ ([.int .i64 k1] ++ (u8s o ++ ([.int .i64 k3] ++ ([.bool b4] ++ ([.bool b5] ++ ([.bool b6] ++ (u8s d ++ ([.bool b8] ++ ([.bool b9] ++ []))))))))) := by
    rw [split_at cs 0 117, ef, split_at cs (0 + 117) 1, e1, split_at cs (0 + 117 + 1) 32, eo, split_at cs (0 + 117 + 1 + 32) 1, e3, split_at cs (0 + 117 + 1 + 32 + 1) 1, e4, split_at cs (0 + 117 + 1 + 32 + 1 + 1) 1, e5, split_at cs (0 + 117 + 1 + 32 + 1 + 1 + 1) 1, e6, split_at cs (0 + 117 + 1 + 32 + 1 + 1 + 1 + 1) 64, ed, split_at cs (0 + 117 + 1 + 32 + 1 + 1 + 1 + 1 + 64) 1, e8, split_at cs (0 + 117 + 1 + 32 + 1 + 1 + 1 + 1 + 64 + 1) 1, e9, List.drop_eq_nil_of_le (by omega)]
  rw [List.drop_zero] at key
  rw [key]
  rfl
set_option maxRecDepth 100000 in
theorem open_frame {r : Reach} {b0 : Nat} {v : Value} {d : DataW H} {ps : List MemPlace} (hval : Value.okWide Try.prog w r b0 37 v) (hd : DataW.Trod enc Try.prog w 0 (fun _ => true) true 37 v d ps) : ∃ f : RF, v = f.val ∧ f.Ok := by
  obtain ⟨cs, rfl, hsz⟩ := okWide_struct Try.underlying37 hval
  obtain ⟨fuel, hf⟩ := hd
  obtain ⟨l⟩ := cs
  obtain ⟨c, hc, hw⟩ := frame_of_trod hf
  have hl : l = c.cells := by simpa [Value.cells] using hc
  subst hl
  exact ⟨c, rfl, hw⟩
set_option maxRecDepth 100000 in
theorem open_arr {t : TypeId} {N : Nat} (hu : Try.prog.underlying t = some (.array N 5)) (hcN : Try.prog.cellsOf t = N) {r : Reach} {b0 : Nat} {v : Value} {d : DataW H} {ps : List MemPlace} (hval : Value.okWide Try.prog w r b0 t v) (hd : DataW.Trod enc Try.prog w 0 (fun _ => true) true t v d ps) :
    ∃ l : List Nat, v = .agg (u8s l).toArray ∧ l.length = N ∧ ∀ c ∈ l, c < 256 := by
  simp only [Value.okWide, hu] at hval
  obtain ⟨cs, rfl, hsz, _⟩ := hval
  obtain ⟨fuel, hf⟩ := hd
  obtain ⟨l⟩ := cs
  obtain ⟨c, hc, hw⟩ := arr_of_trod hu hcN hf
  have hl : l = u8s c := by simpa [Value.cells] using hc
  subst hl
  exact ⟨c, rfl, hw⟩
abbrev RFk := { f : RF // f.Ok }
abbrev RAk := { x : RAct // x.Ok }
set_option maxRecDepth 100000 in
theorem open_frames {r : Reach} {b0 : Nat} {v : Value} {d : DataW H} {ps : List MemPlace} (hval : Value.okWide Try.prog w r b0 61 v) (hd : DataW.Trod enc Try.prog w 0 (fun _ => true) true 61 v d ps) :
    ∃ a len cap xs, v = .slice a len cap ∧ len ≤ cap ∧ cap ≤ maxLen ∧ (a = none → cap = 0) ∧ Rws 117 (fun x : RFk => x.1.cells) w a len xs := by
  obtain ⟨a, len, cap, xs, h1, h2, h3, h4, h5, _⟩ := open_rows (sz := 117) (cf := fun x : RFk => x.1.cells) (wf := fun _ => True) Try.underlying61 (by kernel_rfl) (by decide) (fun x => RF.cells_len x.2) (fun n cs y h => by obtain ⟨f, e, o⟩ := frame_of_trod h; exact ⟨⟨f, o⟩, e, trivial⟩) hval hd
  exact ⟨a, len, cap, xs, h1, h2, h3, h4, h5⟩
set_option maxRecDepth 100000 in
theorem open_acts {r : Reach} {b0 : Nat} {v : Value} {d : DataW H} {ps : List MemPlace} (hval : Value.okWide Try.prog w r b0 24 v) (hd : DataW.Trod enc Try.prog w 0 (fun _ => true) true 24 v d ps) :
    ∃ a len cap xs, v = .slice a len cap ∧ len ≤ cap ∧ cap ≤ maxLen ∧ (a = none → cap = 0) ∧ Rws 220 (fun x : RAk => x.1.cells) w a len xs := by
  obtain ⟨a, len, cap, xs, h1, h2, h3, h4, h5, _⟩ := open_rows (sz := 220) (cf := fun x : RAk => x.1.cells) (wf := fun _ => True) Try.underlying24 (by kernel_rfl) (by decide) (fun x => RAct.len x.2) (fun n cs y h => by obtain ⟨f, e, o⟩ := act_of_trod h; exact ⟨⟨f, o⟩, e, trivial⟩) hval hd
  exact ⟨a, len, cap, xs, h1, h2, h3, h4, h5⟩
end
theorem Rws.range {α : Type} {sz : Nat} {cf : α → List Value} {w wr : World} {b off len k : Nat} {l : List α} {z : α} (hl : Rws sz cf w (some ⟨b, off, none⟩) len l) (hb : Below w.heap.size w wr) (h0 : k < len) (hx : l[k]? = some z) (hz : (cf z).length = sz) : wr.rangeAt b (off + k * sz) (cf z) := fun j v hv => by
  obtain ⟨b', off', he, hlt, hc⟩ := hl.2 (by omega)
  simp only [Option.some.injEq, Addr.mk.injEq, and_true] at he
  obtain ⟨rfl, rfl⟩ := he
  have hj : j < sz := by have := (List.getElem?_eq_some_iff.1 hv).1; omega
  have := (hb.cell (p := ⟨b, off + (k * sz + j), none⟩) hlt).trans (hc k z hx j hj)
  rw [Nat.add_assoc]
  exact this.trans hv
end Go.Proofs.Ytkdjimcpdbpemaa
