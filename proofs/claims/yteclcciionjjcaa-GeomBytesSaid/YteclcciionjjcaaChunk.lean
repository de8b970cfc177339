/- slices.Chunk and slices.Collect of bytes: the parts lie one behind the other in the bytes' own block. -/
import Derived.RangeFuncBox
import Derived.RangeFuncLeaves
import Derived.RangeFuncNested
import Derived.RangeFuncBound
import Derived.RangeFuncCalls
import Derived.Shelf.Abstract
import Derived.Shelf.RegionOpen
import Derived.WalkKit
import Derived.OwnWalkIn
import Derived.TacticsInMore
import Derived.LoopNIn
import Derived.LoopIn
import Derived.Maps.AppendAt
import Derived.Sort.QuietIn
import Derived.Test.YteclcciionjjcaaRowsB
namespace Go.Proofs.Yteclcciionjjcaa
open Go Go.RowKit Go.Shelf
set_option linter.unusedVariables false
attribute [local go_sem] Oper.semAt_some

/-- Part k of len bytes from ⟨b, off⟩ on, at sz a part. -/
def chunkV (b off len sz k : Nat) : Value := .slice (some ⟨b, off + sz * k, none⟩) (min sz (len - sz * k)) (min sz (len - sz * k))

set_option maxRecDepth 100000 in
set_option maxHeartbeats 2000000 in
/-- Chunk's closure, for every loop body that keeps what lay below n₀. -/
theorem chunk1_in (n : Nat) (hn : 1 ≤ n) (l Bs Bn n₀ b off len cap sz m : Nat) (hsz : 1 ≤ sz) (hm : len ≤ sz * m) (hm2 : ∀ k, k < m → sz * k < len) (hlen : len ≤ 1000000) (hsl : sz ≤ 1000000) (hlc : len ≤ cap) (hcm : cap ≤ maxLen) (J Jx : List Nat → World → Prop)
    (hBs0 : Bs < n₀) (hBn0 : Bn < n₀)
    (W : World) (hJ : AbidesFrom W.heap.size J)
    (hY : ∀ pre x W, J pre W → pre.length < m → YieldAt Fence.wide (n - 1) Try.prog l #[chunkV b off len sz x] W fun e W' =>
      (e = .returned (.bool true) ∧ J (pre ++ [x]) W' ∧ Below n₀ W W') ∨ (e = .returned (.bool false) ∧ Jx (pre ++ [x]) W'))
    (hBs : W.cell? ⟨Bs, 0, none⟩ = some (.slice (some ⟨b, off, none⟩) len cap)) (hBn : W.cell? ⟨Bn, 0, none⟩ = some (.int .i64 (sz : Int))) (h0 : J [] W) :
    CallsIn Fence.wide n Try.prog 23 #[.func (.yield l) #[] #[], .pointer (some ⟨Bs, 0, none⟩), .pointer (some ⟨Bn, 0, none⟩)] W fun e W' => (∃ v, e = .returned v) ∧
      ((∃ ys, ys = List.range m ∧ J ys W') ∨ (∃ pre, (∃ k, k ≤ m ∧ pre = List.range k) ∧ Jx pre W')) := by
  refine callsIn_of_wp Try.func23 rfl trivial ?_ rfl
  simp only [Try.ntmps23, List.size_toArray, List.length_cons, List.length_nil, Nat.reduceAdd, Nat.reduceSub, Array.replicate_succ, Array.replicate_zero, List.push_toArray, List.append_toArray, List.nil_append, List.cons_append]
  gi_wp2
  gi_loopw [4] (fun i wr => ∃ k q : Nat, k ≤ m ∧ q = sz * k ∧ i = .int .i64 (q : Int) ∧ J (List.range k) wr ∧ Below n₀ W wr)
    (fun i _ => len + sz - (intOf i).toNat)
  case atStart => exact ⟨0, 0, Nat.zero_le _, by simp, rfl, h0, Below.refl _ _⟩
  case round =>
    obtain ⟨k, q, hk, hq, rfl, hJs, hnx⟩ := hrel
    have c1 : wr.cell? ⟨Bs, 0, none⟩ = some (.slice (some ⟨b, off, none⟩) len cap) := (hnx.cell (p := ⟨Bs, 0, none⟩) hBs0).trans hBs
    have c2 : wr.cell? ⟨Bn, 0, none⟩ = some (.int .i64 (sz : Int)) := (hnx.cell (p := ⟨Bn, 0, none⟩) hBn0).trans hBn
    by_cases hlt : k < m
    · have hql := hm2 k hlt
      rw [← hq] at hql
      obtain ⟨z, hz⟩ : ∃ z, z = min sz (len - q) := ⟨_, rfl⟩
      have z1 : (q : Int) < (len : Int) := by omega
      have HMin : Hid ((if len - q < sz then ((len - q : Nat) : Int) else (sz : Int)) = (z : Int)) := Lib.hid (by split <;> omega)
      have zl : q + z ≤ len := by omega
      have zp : 1 ≤ z := by omega
      have HQ := Lib.hid hq
      have HZ := Lib.hid hz
      clear hq hz
      gi_wp2
      gi_quiet (fail)
      have hJ2 := hJ (List.range k) wr (wr.drewN nq) none hJs ⟨rfl, rfl, rfl, Nat.le_refl _, fun _ _ _ => rfl⟩ (fun r e => by cases e)
      have hnx2 := below_drewN' hnx nq
      have d1 : (wr.drewN nq).cell? ⟨Bs, 0, none⟩ = some (.slice (some ⟨b, off, none⟩) len cap) := c1
      have d2 : (wr.drewN nq).cell? ⟨Bn, 0, none⟩ = some (.int .i64 (sz : Int)) := c2
      rw [HMin.out]
      generalize wr.drewN nq = w1 at hJ2 hnx2 d1 d2 ⊢
      clear c1 c2
      obtain ⟨fn, tmps, assign, body, hy, hR⟩ := hY _ k w1 hJ2 (by rw [List.length_range]; exact hlt)
      unfold chunkV at hy
      rw [← HQ.out, ← HZ.out] at hy
      gi_wp2
      refine hR.mono ?_
      rintro e W3 (⟨rfl, hJ3, hk3⟩ | ⟨rfl, hJx3⟩)
      · have d2 : W3.cell? ⟨Bn, 0, none⟩ = some (.int .i64 (sz : Int)) := (hk3.cell (p := ⟨Bn, 0, none⟩) hBn0).trans d2
        gi_wp2
        go_roundw
        case rel => exact ⟨k + 1, q + sz, by omega, by rw [HQ.out, Nat.mul_succ], by simp, by rw [List.range_succ]; exact hJ3, hnx2.trans hk3⟩
        case measure => simp [intOf]; omega
      · gi_wp2
        refine bodyPost_ret (results_none rfl _ _ _) rfl ?_
        exact ⟨⟨_, rfl⟩, .inr ⟨_, ⟨k + 1, by omega, List.range_succ.symm⟩, hJx3⟩⟩
    · obtain rfl : k = m := by omega
      have z1 : ¬ (q : Int) < (len : Int) := by omega
      gi_wp2
      go_end0
      exact ⟨⟨_, rfl⟩, .inl hJs⟩

set_option maxHeartbeats 1000000 in
theorem chunk_in (F : Fence) (n : Nat) (hf : F.fn 16) (hro : F.round = none) (a : Option Addr) (len cap sz : Nat) (hsz : 1 ≤ sz) (w : World) :
    CallsIn F n Try.prog 16 #[.slice a len cap, .int .i64 (sz : Int)] w fun e w' => e = .returned (.func (.func 23) #[] #[.pointer (some ⟨w.heap.size, 0, none⟩), .pointer (some ⟨w.heap.size + 1, 0, none⟩)]) ∧ w' = (w.alloc (.cells #[.slice a len cap] 24)).alloc (.cells #[.int .i64 (sz : Int)] 3) := by
  have h1 : ¬ ((sz : Int) < 1) := by omega
  refine callsIn_of_wp Try.func16 rfl hf ?_ hro
  simp only [Try.ntmps16, List.size_toArray, List.length_cons, List.length_nil, Nat.reduceAdd, Nat.reduceSub, Array.replicate_succ, Array.replicate_zero, List.push_toArray, List.append_toArray, List.nil_append, List.cons_append]
  gi_wp2
  go_ret
  exact ⟨by simp, rfl⟩
end Go.Proofs.Yteclcciionjjcaa
