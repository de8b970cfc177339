/- sha: '==' of digests, Equal, known; a digest that comes in. -/
import Derived.Test.YtkdjimcpdbpemaaShaN
import Derived.Stop.BytesEq
namespace Go.Proofs.Ytkdjimcpdbpemaa
open Go Go.RowKit Go.ChangeShapes Go.WideShapes Go.ChangeAt
set_option linter.unusedVariables false

def b8 (l : List Nat) : List UInt8 := l.map UInt8.ofNat
theorem b8_cell {l : List Nat} (h : ∀ c ∈ l, c < 256) : (b8 l).map Go.Extern.Stop.cell = u8s l := by
  unfold b8 u8s
  rw [List.map_map]
  refine List.map_congr_left fun x hx => ?_
  have := h x hx
  simp [Function.comp, Go.Extern.Stop.cell, Nat.mod_eq_of_lt this]
theorem b8_beq {l r : List Nat} (hl : ∀ c ∈ l, c < 256) (hr : ∀ c ∈ r, c < 256) : (b8 l == b8 r) = decide (l = r) := by
  rw [Bool.eq_iff_iff]
  simp only [beq_iff_eq, decide_eq_true_eq]
  refine ⟨fun h => ?_, fun h => by rw [h]⟩
  have h2 := congrArg (List.map UInt8.toNat) h
  have e : ∀ l : List Nat, (∀ c ∈ l, c < 256) → (b8 l).map UInt8.toNat = l := by
    intro l hl
    unfold b8
    rw [List.map_map]
    have hid := List.map_id l
    have hc : l.map (UInt8.toNat ∘ UInt8.ofNat) = l.map id := List.map_congr_left fun x hx => by simp [Nat.mod_eq_of_lt (hl x hx)]
    rw [hc, hid]
  rwa [e l hl, e r hr] at h2
theorem eql_sum {l r : List Nat} (hl : ∀ c ∈ l, c < 256) (hr : ∀ c ∈ r, c < 256) (ll : l.length = 32) (lr : r.length = 32) (w : World) :
    (binOp .eql 33 (.agg (u8s l).toArray) (.agg (u8s r).toArray)).run Try.prog w = .ok (.bool (decide (l = r))) w := by
  have h := run_eql_bytes (P := Try.prog) w 33 5 32 Try.underlying33 Try.underlying5 (fun w => by kernel_rfl) (b8 l) (b8 r) (by simp [b8, ll]) (by simp [b8, lr])
  rw [b8_cell hl, b8_cell hr, b8_beq hl hr] at h
  exact h
theorem neq_sum {l r : List Nat} (hl : ∀ c ∈ l, c < 256) (hr : ∀ c ∈ r, c < 256) (ll : l.length = 32) (lr : r.length = 32) (w : World) :
    (binOp .neq 33 (.agg (u8s l).toArray) (.agg (u8s r).toArray)).run Try.prog w = .ok (.bool (!decide (l = r))) w := by
  have h := run_equalIn_bytes (P := Try.prog) w 9998 33 5 32 Try.underlying33 Try.underlying5 (fun w => by kernel_rfl) (b8 l) (b8 r) (by simp [b8, ll]) (by simp [b8, lr])
  rw [b8_cell hl, b8_cell hr, b8_beq hl hr] at h
  rw [run_neq_struct, h]
  rfl
theorem s32_size {l : List Nat} (h : l.length = 32) : (Try.prog.info? 33).map (·.size) = some (u8s l).toArray.size := by
  rw [List.size_toArray, u8s_len, h]; exact info_s32
theorem u8_oneA (l : List Nat) : (u8s l).toArray.all (·.oneCell') = true := by
  simp only [List.all_toArray, List.all_eq_true]
  exact u8s_one _

set_option maxRecDepth 100000 in
set_option maxHeartbeats 4000000 in
theorem equal_any (l r : List Nat) (hl : ∀ c ∈ l, c < 256) (hr : ∀ c ∈ r, c < 256) (ll : l.length = 32) (lr : r.length = 32) (w : World) :
    Calls Try.prog 31 #[.agg (u8s l).toArray, .agg (u8s r).toArray] w fun e w' => e = .returned (.bool (decide (l = r))) ∧ Below w.heap.size w w' := by
  have HE := Lib.hid (fun w => eql_sum hl hr ll lr w)
  have hs1 := s32_size ll
  have hs2 := s32_size lr
  obtain ⟨C, hC⟩ : ∃ C, C = (u8s l).toArray := ⟨_, rfl⟩
  obtain ⟨D, hD⟩ : ∃ D, D = (u8s r).toArray := ⟨_, rfl⟩
  rw [← hC] at HE hs1 ⊢
  rw [← hD] at HE hs2 ⊢
  have HS1 := Lib.hid hs1
  have HS2 := Lib.hid hs2
  have HQ1 : Hid (((w.alloc (.cells C 33)).alloc (.cells D 33)).heap[w.heap.size]? = some (.cells C 33 (0, 0))) := Lib.hid (HasB.alloc (HasB.new w _ _) _)
  have HQ2 : Hid (((w.alloc (.cells C 33)).alloc (.cells D 33)).heap[w.heap.size + 1]? = some (.cells D 33 (0, 0))) := Lib.hid (HasB.new' (by simp) _ _)
  have he := HE.out
  have HB : Hid (Below w.heap.size w ((w.alloc (.cells C 33)).alloc (.cells D 33))) := Lib.hid (((Below.refl _ _).alloc (Nat.le_refl _) _).alloc (by simp) _)
  clear hs1 hs2 hC hD HE
  go_enter Try.func31, Try.ntmps31
  go_wp2_with (first | (with_reducible refine wpList_load_row rfl 33 (.tmp 2) rfl w.heap.size rfl 33 C (0, 0) _ HQ1.out Try.underlying33 rfl HS1.out ?_) | (with_reducible refine wpList_load_row rfl 33 (.tmp 3) rfl (w.heap.size + 1) rfl 33 D (0, 0) _ HQ2.out Try.underlying33 rfl HS2.out ?_))
  go_ret
  exact ⟨rfl, HB.out⟩

theorem sha_none : (shaL []).getD 0 0 = 227 ∧ (shaL []).getD 1 0 = 176 ∧ (shaL []).getD 30 0 = 184 ∧ (shaL []).getD 31 0 = 85 := by decide +kernel

section
variable {H : Type} {enc : TypeId × Value → H} {w : World}
set_option maxRecDepth 10000 in
theorem open_sum {r : Reach} {b0 : Nat} {v : Value} {d : DataW H} {ps : List MemPlace} (hval : Value.okWide Try.prog w r b0 33 v) (hd : DataW.Trod enc Try.prog w 0 (fun _ => true) true 33 v d ps) :
    ∃ l : List Nat, v = .agg (u8s l).toArray ∧ l.length = 32 ∧ ∀ c ∈ l, c < 256 := by
  have hu := Try.underlying33
  simp only [Value.okWide, hu] at hval
  obtain ⟨cs, rfl, hsz, _⟩ := hval
  obtain ⟨fuel, hf⟩ := hd
  obtain ⟨l⟩ := cs
  obtain ⟨xs, m, _, _, hlen, hx, hg⟩ := DataW.trod_array hu hf
  have hc1 : Try.prog.cellsOf 5 = 1 := by kernel_rfl
  have hc32 : Try.prog.cellsOf 33 = 32 := by kernel_rfl
  rw [hc32] at hlen
  simp only [hc1] at hg
  have hlen : l.length = 32 := by simpa [Value.cells] using hlen
  have each : ∀ i, i < 32 → ∃ z : Int, l[i]? = some (.int .u8 z) ∧ (Lit.int .u8 z).wf = true := by
    intro i hi
    have h1 := hg i hi
    rw [List.getElem?_eq_getElem (by omega)] at h1
    obtain ⟨n, e, _, hw⟩ := DataW.trod_int Try.underlying5 h1
    refine ⟨n, ?_, hw⟩
    have e2 : (l.drop (i * 1)).take 1 = [.int .u8 n] := by simpa [Value.cells] using e
    have := congrArg (·[0]?) e2
    simpa [List.getElem?_drop] using this
  obtain ⟨f, hf⟩ := Go.Deep.choose_lt each
  refine ⟨(List.range 32).map fun i => (f i).toNat, ?_, by simp, ?_⟩
  · have e : l = u8s ((List.range 32).map fun i => (f i).toNat) := by
      apply List.ext_getElem?
      intro i
      by_cases hi : i < 32
      · rw [(hf i hi).1]
        have := bounds_u8 (hf i hi).2
        simp [u8s, hi]
        omega
      · rw [List.getElem?_eq_none (by omega), List.getElem?_eq_none (by simp [u8s]; omega)]
    exact congrArg (fun l : List Value => Value.agg l.toArray) e
  · intro c hc
    simp only [List.mem_map, List.mem_range] at hc
    obtain ⟨i, hi, rfl⟩ := hc
    have := bounds_u8 (hf i hi).2
    omega
end

end Go.Proofs.Ytkdjimcpdbpemaa
