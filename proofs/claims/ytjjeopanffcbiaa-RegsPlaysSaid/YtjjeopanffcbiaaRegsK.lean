/- regs: all bytes. -/
import Derived.Test.YtjjeopanffcbiaaRegsJ
import Derived.Laws.Rows
import Derived.Laws.Tables
import Derived.Laws.CopyOwn
import Derived.Deep.Cut
import Derived.Stop.BytesEq
import Derived.Deep.WholeRow
namespace Go.Proofs.Ytjjeopanffcbiaa
open Go Go.RowKit
set_option linter.unusedVariables false

theorem info_bytes : (Try.prog.info? 132).map (·.size) = some 64 := by kernel_rfl
theorem u8i_one (l : List Int) : (u8i l).toArray.all (·.oneCell') = true := by
  simp [u8i]
  intro x hx
  rfl

def zeroBytes : List Value := u8i zeros64
set_option maxRecDepth 100000 in
set_option maxHeartbeats 2000000 in
theorem bytes_file (g : Nat) (vs : List Int) (w : World) (hf : RFile w g vs) :
    Calls Try.prog 125 #[.pointer (some ⟨g, 0, none⟩)] w fun e w' => e = .returned (.agg (u8i vs).toArray) ∧ Below w.heap.size w w' := by
  have HF := Lib.hid hf
  have hsz : (u8i vs).toArray.size = 64 := by simp [u8i, hf.2]
  have HSz := Lib.hid hsz
  obtain ⟨C, hC⟩ : ∃ C, C = (u8i vs).toArray := ⟨_, rfl⟩
  have HC := Lib.hid hC
  clear hf hsz hC
  rw [← HC.out]
  go_enter Try.func125, Try.ntmps125
  go_upto_region 1 with fail
  have HW := Lib.hid (HasB.new w (zeroBytes.toArray) 132)
  have HB := Lib.hid ((Below.refl w.heap.size w).alloc (Nat.le_refl _) (.cells zeroBytes.toArray 132))
  have HF1 := Lib.hid (HF.out.below HB.out)
  obtain ⟨wa, hwa⟩ : ∃ wa, wa = w.alloc (.cells zeroBytes.toArray 132) := ⟨_, rfl⟩
  rw [← hwa] at HW HB HF1
  show Code.wp _ _ _ _ _
  have hwa' : w.alloc (.cells zeroBytes.toArray 132) = wa := hwa.symm
  unfold zeroBytes u8i zeros64 at hwa'
  simp only [List.map_replicate] at hwa'
  simp only [List.replicate_succ, List.replicate_zero] at hwa'
  rw [hwa']
  have hi : (Try.prog.info? 132).map (·.size) = some C.size := by rw [HC.out, HSz.out]; exact info_bytes
  have h1 : C.all (·.oneCell') = true := by rw [HC.out]; exact u8i_one vs
  have hF : wa.heap[g]? = some (.cells C 134 (0, 0)) := by rw [HC.out]; exact HF1.out.1
  have hold : zeroBytes.toArray.size = C.size := by rw [HC.out, HSz.out]; simp [zeroBytes, u8i, zeros64]
  have HInfo := Lib.hid hi
  have HOne := Lib.hid h1
  have HFb := Lib.hid hF
  have HOld := Lib.hid hold
  have HSet : Hid (HasB (wa.setRow w.heap.size C) w.heap.size C 132 ∧ Below w.heap.size w (wa.setRow w.heap.size C)) := by
    exact Lib.hid ⟨setRow_heap wa w.heap.size zeroBytes.toArray C 132 (0, 0) HW.out, below_setRow HB.out (Nat.le_refl _) C⟩
  have hWb : wa.heap[w.heap.size]? = some (.cells zeroBytes.toArray 132 (0, 0)) := HW.out
  have HWb := Lib.hid hWb
  clear hWb
  clear hi h1 hF hold hwa hwa'
  go_wp2_with (first | (with_reducible refine wpList_load_row rfl 132 (.tmp 5) rfl g rfl 134 C (0, 0) _ HFb.out Try.underlying132 rfl HInfo.out ?_) | (with_reducible refine wpList_store_row rfl 132 (.tmp 2) (.tmp 6) rfl w.heap.size C rfl rfl 132 zeroBytes.toArray HWb.out HInfo.out HOld.out HOne.out ?_))
  exact bodyPost_ret (results_cell_row (p := 2) (by kernel_rfl) _ _ w.heap.size 132 C (0, 0) _ rfl HSet.out.1 Try.underlying132 rfl HInfo.out) rfl ⟨rfl, HSet.out.2⟩

/-! ### two arrays of bytes are compared -/
def All8 (vs : List Int) : Prop := ∀ x ∈ vs, 0 ≤ x ∧ x < 256
theorem Byt.all {vs : List Int} (h : Byt vs) : All8 vs := by
  intro x hx
  obtain ⟨i, hi, e⟩ := List.getElem_of_mem hx
  have := h i
  simpa [List.getD, hi, e] using this
def toU8 (vs : List Int) : List UInt8 := vs.map fun i => UInt8.ofNat i.toNat
theorem toU8_cell {vs : List Int} (h : All8 vs) : (toU8 vs).map Go.Extern.Stop.cell = u8i vs := by
  unfold toU8 u8i
  rw [List.map_map]
  refine List.map_congr_left fun x hx => ?_
  have := h x hx
  simp [Function.comp, Go.Extern.Stop.cell, Nat.mod_eq_of_lt (show x.toNat < 256 by omega)]
  omega
theorem toU8_inj {xs ys : List Int} (hx : All8 xs) (hy : All8 ys) (h : toU8 xs = toU8 ys) : xs = ys := by
  have h2 : (toU8 xs).map (fun u => (u.toNat : Int)) = (toU8 ys).map (fun u => (u.toNat : Int)) := by rw [h]
  have e : ∀ l : List Int, All8 l → (toU8 l).map (fun u => (u.toNat : Int)) = l := by
    intro l hl
    unfold toU8
    rw [List.map_map]
    have hid := List.map_id l
    have hc : l.map ((fun u : UInt8 => (u.toNat : Int)) ∘ fun i => UInt8.ofNat i.toNat) = l.map id := List.map_congr_left fun x hx => by
      have := hl x hx
      simp [Function.comp, Nat.mod_eq_of_lt (show x.toNat < 256 by omega)]
      omega
    rw [hc, hid]
  rwa [e xs hx, e ys hy] at h2
theorem toU8_beq {xs ys : List Int} (hx : All8 xs) (hy : All8 ys) : (toU8 xs == toU8 ys) = decide (xs = ys) := by
  rw [Bool.eq_iff_iff]
  simp only [beq_iff_eq, decide_eq_true_eq]
  exact ⟨fun h => toU8_inj hx hy h, fun h => by rw [h]⟩
theorem eql_u8i (t : TypeId) (ht : Try.prog.underlying t = some (.array 64 5)) (xs ys : List Int) (hx : All8 xs) (hy : All8 ys) (lx : xs.length = 64) (ly : ys.length = 64) (w : World) :
    (binOp .eql t (.agg (u8i xs).toArray) (.agg (u8i ys).toArray)).run Try.prog w = .ok (.bool (decide (xs = ys))) w := by
  have h := run_eql_bytes (P := Try.prog) w t 5 64 ht Try.underlying5 (fun w => by kernel_rfl) (toU8 xs) (toU8 ys) (by simp [toU8, lx]) (by simp [toU8, ly])
  rw [toU8_cell hx, toU8_cell hy, toU8_beq hx hy] at h
  exact h

end Go.Proofs.Ytjjeopanffcbiaa
