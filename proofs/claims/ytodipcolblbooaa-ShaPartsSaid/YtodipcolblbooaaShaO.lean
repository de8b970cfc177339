/- sha: '==' of digests, Equal, known; a digest that comes in. -/
import Derived.Test.YtodipcolblbooaaShaN
import Derived.Stop.BytesEq
namespace Go.Proofs.Ytodipcolblbooaa
open Go Go.RowKit Go.ChangeShapes Go.WideShapes Go.ChangeAt
set_option linter.unusedVariables false

def b8 (l : List Nat) : List UInt8 := l.map UInt8.ofNat
theorem b8_cell {l : List Nat} (h : ∀ c ∈ l, c < 256) : (b8 l).map Go.Extern.Stop.cell = u8s l := by
  unfold b8 u8s
  rw [List.map_map]
  refine List.map_congr_left fun x hx => ?_
  have := h x hx
  simp [Function.comp, Go.Extern.Stop.cell, Nat.mod_eq_of_lt this]
theorem b8_beq {l r : List Nat} (hl : ∀ c ∈ l, c < 256) (hr : ∀ c ∈ r, c < 256) : (b8 l == b8 r) = decide (l = r) := by
  rw [Bool.eq_iff_iff]
  simp only [beq_iff_eq, decide_eq_true_eq]
  refine ⟨fun h => ?_, fun h => by rw [h]⟩
  have h2 := congrArg (List.map UInt8.toNat) h
  have e : ∀ l : List Nat, (∀ c ∈ l, c < 256) → (b8 l).map UInt8.toNat = l := by
    intro l hl
    unfold b8
    rw [List.map_map]
    have hid := List.map_id l
    have hc : l.map (UInt8.toNat ∘ UInt8.ofNat) = l.map id := List.map_congr_left fun x hx => by simp [Nat.mod_eq_of_lt (hl x hx)]
    rw [hc, hid]
  rwa [e l hl, e r hr] at h2
theorem eql_sum {l r : List Nat} (hl : ∀ c ∈ l, c < 256) (hr : ∀ c ∈ r, c < 256) (ll : l.length = 32) (lr : r.length = 32) (w : World) :
    (binOp .eql 28 (.agg (u8s l).toArray) (.agg (u8s r).toArray)).run Try.prog w = .ok (.bool (decide (l = r))) w := by
  have h := run_eql_bytes (P := Try.prog) w 28 5 32 Try.underlying28 Try.underlying5 (fun w => by kernel_rfl) (b8 l) (b8 r) (by simp [b8, ll]) (by simp [b8, lr])
  rw [b8_cell hl, b8_cell hr, b8_beq hl hr] at h
  exact h
theorem neq_sum {l r : List Nat} (hl : ∀ c ∈ l, c < 256) (hr : ∀ c ∈ r, c < 256) (ll : l.length = 32) (lr : r.length = 32) (w : World) :
    (binOp .neq 28 (.agg (u8s l).toArray) (.agg (u8s r).toArray)).run Try.prog w = .ok (.bool (!decide (l = r))) w := by
  have h := run_equalIn_bytes (P := Try.prog) w 9998 28 5 32 Try.underlying28 Try.underlying5 (fun w => by kernel_rfl) (b8 l) (b8 r) (by simp [b8, ll]) (by simp [b8, lr])
  rw [b8_cell hl, b8_cell hr, b8_beq hl hr] at h
  rw [run_neq_struct, h]
  rfl
theorem s32_size {l : List Nat} (h : l.length = 32) : (Try.prog.info? 28).map (·.size) = some (u8s l).toArray.size := by
  rw [List.size_toArray, u8s_len, h]; exact info_s32
theorem u8_oneA (l : List Nat) : (u8s l).toArray.all (·.oneCell') = true := by
  simp only [List.all_toArray, List.all_eq_true]
  exact u8s_one _

theorem sha_none : (shaL []).getD 0 0 = 227 ∧ (shaL []).getD 1 0 = 176 ∧ (shaL []).getD 30 0 = 184 ∧ (shaL []).getD 31 0 = 85 := by decide +kernel

set_option maxRecDepth 100000 in
set_option maxHeartbeats 4000000 in
theorem sknown_any (w : World) : Calls Try.prog 6 #[] w fun e w' => e = .returned (.bool true) ∧ Below w.heap.size w w' := by
  obtain ⟨n0, n1, n30, n31⟩ := sha_none
  have N0 := Lib.hid n0
  have N1 := Lib.hid n1
  have N30 := Lib.hid n30
  have N31 := Lib.hid n31
  obtain ⟨l, hl⟩ : ∃ l, l = shaL [] := ⟨_, rfl⟩
  have hll : l.length = 32 := by rw [hl]; exact shaL_len _
  have HL : Hid (shaL (flatTo [] 0) = l) := Lib.hid (by rw [hl]; rfl)
  rw [← hl] at N0 N1 N30 N31
  have hs := s32_size hll
  have HS := Lib.hid hs
  have HOne := Lib.hid (u8_oneA l)
  have HOld : Hid ((u8s (List.replicate 32 0)).toArray.size = (u8s l).toArray.size) := Lib.hid (by simp [u8s_len, hll])
  clear n0 n1 n30 n31 hl hs
  go_enter Try.func6, Try.ntmps6
  go_wp2_with fail
  refine (of_any none 0 0 [] w (fun k x h => by simp at h) rfl (by simp) (by simp) (by simp [sumLen]) (by omega)).mono ?_
  rintro e w1 ⟨rfl, hb1⟩
  rw [HL.out]
  have hA : ArrB (w1.alloc (.cells (u8s l).toArray 28)) w1.heap.size 28 l := HasB.new _ _ _
  have c0 := hA.at 0 (by omega)
  have c1 := hA.at 1 (by omega)
  have c30 := hA.at 30 (by omega)
  have c31 := hA.at 31 (by omega)
  rw [N0.out] at c0
  rw [N1.out] at c1
  rw [N30.out] at c30
  rw [N31.out] at c31
  have HB : Hid (Below w.heap.size w (w1.alloc (.cells (u8s l).toArray 28))) := Lib.hid (hb1.alloc hb1.size _)
  obtain ⟨C, hC⟩ : ∃ C, C = (u8s l).toArray := ⟨_, rfl⟩
  rw [← hC] at c0 c1 c30 c31 HB HS HOne HOld ⊢
  clear hb1 hA hC
  go_wp2_with (with_reducible refine wpList_store_row rfl 28 (.tmp 1) (.tmp 2) rfl w1.heap.size C rfl rfl 28 (u8s (List.replicate 32 0)).toArray (heap_new w1 _) HS.out HOld.out HOne.out ?_; rw [World.setRow_alloc_new])
  go_ret
  exact ⟨rfl, HB.out⟩

section
variable {H : Type} {enc : TypeId × Value → H} {w : World}
set_option maxRecDepth 10000 in
theorem open_sum {r : Reach} {b0 : Nat} {v : Value} {d : DataW H} {ps : List MemPlace} (hval : Value.okWide Try.prog w r b0 28 v) (hd : DataW.Trod enc Try.prog w 0 (fun _ => true) true 28 v d ps) :
    ∃ l : List Nat, v = .agg (u8s l).toArray ∧ l.length = 32 ∧ ∀ c ∈ l, c < 256 := by
  have hu := Try.underlying28
  simp only [Value.okWide, hu] at hval
  obtain ⟨cs, rfl, hsz, _⟩ := hval
  obtain ⟨fuel, hf⟩ := hd
  obtain ⟨l⟩ := cs
  obtain ⟨xs, m, _, _, hlen, hx, hg⟩ := DataW.trod_array hu hf
  have hc1 : Try.prog.cellsOf 5 = 1 := by kernel_rfl
  have hc32 : Try.prog.cellsOf 28 = 32 := by kernel_rfl
  rw [hc32] at hlen
  simp only [hc1] at hg
  have hlen : l.length = 32 := by simpa [Value.cells] using hlen
  have each : ∀ i, i < 32 → ∃ z : Int, l[i]? = some (.int .u8 z) ∧ (Lit.int .u8 z).wf = true := by
    intro i hi
    have h1 := hg i hi
    rw [List.getElem?_eq_getElem (by omega)] at h1
    obtain ⟨n, e, _, hw⟩ := DataW.trod_int Try.underlying5 h1
    refine ⟨n, ?_, hw⟩
    have e2 : (l.drop (i * 1)).take 1 = [.int .u8 n] := by simpa [Value.cells] using e
    have := congrArg (·[0]?) e2
    simpa [List.getElem?_drop] using this
  obtain ⟨f, hf⟩ := Go.Deep.choose_lt each
  refine ⟨(List.range 32).map fun i => (f i).toNat, ?_, by simp, ?_⟩
  · have e : l = u8s ((List.range 32).map fun i => (f i).toNat) := by
      apply List.ext_getElem?
      intro i
      by_cases hi : i < 32
      · rw [(hf i hi).1]
        have := bounds_u8 (hf i hi).2
        simp [u8s, hi]
        omega
      · rw [List.getElem?_eq_none (by omega), List.getElem?_eq_none (by simp [u8s]; omega)]
    exact congrArg (fun l : List Value => Value.agg l.toArray) e
  · intro c hc
    simp only [List.mem_map, List.mem_range] at hc
    obtain ⟨i, hi, rfl⟩ := hc
    have := bounds_u8 (hf i hi).2
    omega
end

end Go.Proofs.Ytodipcolblbooaa
