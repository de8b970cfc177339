/- rpa: RpaTells: the walk. -/
import Derived.Test.YtkdjimcpdbpemaaRpaP
namespace Go.Proofs.Ytkdjimcpdbpemaa
open Go Go.RowKit
set_option linter.unusedVariables false

set_option maxRecDepth 100000 in
theorem tells_clo (d : List Nat) (hd : d.length = 64) (bl : Bool) (x : Int) (gd gb : Nat) (w : World) (h1 : HasB w gd (u8s d).toArray 34) (h2 : HasB w gb #[.bool bl] 4) :
    Calls Try.prog 23 #[.int .i64 x, .pointer (some ⟨gd, 0, none⟩), .pointer (some ⟨gb, 0, none⟩)] w fun e w' => e = .returned (.tuple #[.agg (u8s d).toArray, .bool (!bl)]) ∧ Below w.heap.size w w' := by
  obtain ⟨DL, hDL⟩ : ∃ DL, DL = (u8s d).toArray := ⟨_, rfl⟩
  obtain ⟨POST, hPOST⟩ : ∃ Q : Ending → World → Prop, Q = fun e w' => e = .returned (.tuple #[.agg (u8s d).toArray, .bool (!bl)]) ∧ Below w.heap.size w w' := ⟨_, rfl⟩
  rw [← hPOST]
  rw [← hDL] at hPOST h1
  have HPOST := Lib.hid hPOST
  have hs : DL.size = 64 := by rw [hDL, List.size_toArray, u8s_len, hd]
  have HId : Hid ((Try.prog.info? 34).map (·.size) = some DL.size) := Lib.hid (by rw [hs]; exact info_d64)
  have HZd : Hid ((#[Value.int .u8 0, Value.int .u8 0, Value.int .u8 0, Value.int .u8 0, Value.int .u8 0, Value.int .u8 0, Value.int .u8 0, Value.int .u8 0, Value.int .u8 0, Value.int .u8 0, Value.int .u8 0, Value.int .u8 0, Value.int .u8 0, Value.int .u8 0, Value.int .u8 0, Value.int .u8 0, Value.int .u8 0, Value.int .u8 0, Value.int .u8 0, Value.int .u8 0, Value.int .u8 0, Value.int .u8 0, Value.int .u8 0, Value.int .u8 0, Value.int .u8 0, Value.int .u8 0, Value.int .u8 0, Value.int .u8 0, Value.int .u8 0, Value.int .u8 0, Value.int .u8 0, Value.int .u8 0, Value.int .u8 0, Value.int .u8 0, Value.int .u8 0, Value.int .u8 0, Value.int .u8 0, Value.int .u8 0, Value.int .u8 0, Value.int .u8 0, Value.int .u8 0, Value.int .u8 0, Value.int .u8 0, Value.int .u8 0, Value.int .u8 0, Value.int .u8 0, Value.int .u8 0, Value.int .u8 0, Value.int .u8 0, Value.int .u8 0, Value.int .u8 0, Value.int .u8 0, Value.int .u8 0, Value.int .u8 0, Value.int .u8 0, Value.int .u8 0, Value.int .u8 0, Value.int .u8 0, Value.int .u8 0, Value.int .u8 0, Value.int .u8 0, Value.int .u8 0, Value.int .u8 0, Value.int .u8 0] : Array Value).size = DL.size) := Lib.hid (by rw [hs]; rfl)
  have HOd : Hid (DL.all (·.oneCell') = true) := Lib.hid (by rw [hDL]; exact u8_oneA _)
  have HQd : Hid ((w.alloc (.cells #[Value.int .u8 0, Value.int .u8 0, Value.int .u8 0, Value.int .u8 0, Value.int .u8 0, Value.int .u8 0, Value.int .u8 0, Value.int .u8 0, Value.int .u8 0, Value.int .u8 0, Value.int .u8 0, Value.int .u8 0, Value.int .u8 0, Value.int .u8 0, Value.int .u8 0, Value.int .u8 0, Value.int .u8 0, Value.int .u8 0, Value.int .u8 0, Value.int .u8 0, Value.int .u8 0, Value.int .u8 0, Value.int .u8 0, Value.int .u8 0, Value.int .u8 0, Value.int .u8 0, Value.int .u8 0, Value.int .u8 0, Value.int .u8 0, Value.int .u8 0, Value.int .u8 0, Value.int .u8 0, Value.int .u8 0, Value.int .u8 0, Value.int .u8 0, Value.int .u8 0, Value.int .u8 0, Value.int .u8 0, Value.int .u8 0, Value.int .u8 0, Value.int .u8 0, Value.int .u8 0, Value.int .u8 0, Value.int .u8 0, Value.int .u8 0, Value.int .u8 0, Value.int .u8 0, Value.int .u8 0, Value.int .u8 0, Value.int .u8 0, Value.int .u8 0, Value.int .u8 0, Value.int .u8 0, Value.int .u8 0, Value.int .u8 0, Value.int .u8 0, Value.int .u8 0, Value.int .u8 0, Value.int .u8 0, Value.int .u8 0, Value.int .u8 0, Value.int .u8 0, Value.int .u8 0, Value.int .u8 0] 34)).drew.heap[gd]? = some (.cells DL 34 (0, 0))) := Lib.hid (h1.alloc _)
  have HQb : Hid ((w.alloc (.cells #[Value.int .u8 0, Value.int .u8 0, Value.int .u8 0, Value.int .u8 0, Value.int .u8 0, Value.int .u8 0, Value.int .u8 0, Value.int .u8 0, Value.int .u8 0, Value.int .u8 0, Value.int .u8 0, Value.int .u8 0, Value.int .u8 0, Value.int .u8 0, Value.int .u8 0, Value.int .u8 0, Value.int .u8 0, Value.int .u8 0, Value.int .u8 0, Value.int .u8 0, Value.int .u8 0, Value.int .u8 0, Value.int .u8 0, Value.int .u8 0, Value.int .u8 0, Value.int .u8 0, Value.int .u8 0, Value.int .u8 0, Value.int .u8 0, Value.int .u8 0, Value.int .u8 0, Value.int .u8 0, Value.int .u8 0, Value.int .u8 0, Value.int .u8 0, Value.int .u8 0, Value.int .u8 0, Value.int .u8 0, Value.int .u8 0, Value.int .u8 0, Value.int .u8 0, Value.int .u8 0, Value.int .u8 0, Value.int .u8 0, Value.int .u8 0, Value.int .u8 0, Value.int .u8 0, Value.int .u8 0, Value.int .u8 0, Value.int .u8 0, Value.int .u8 0, Value.int .u8 0, Value.int .u8 0, Value.int .u8 0, Value.int .u8 0, Value.int .u8 0, Value.int .u8 0, Value.int .u8 0, Value.int .u8 0, Value.int .u8 0, Value.int .u8 0, Value.int .u8 0, Value.int .u8 0, Value.int .u8 0] 34)).drew.cell? ⟨gb, 0, none⟩ = some (.bool bl)) := Lib.hid ((h2.alloc _).at 0)
  have HQr : Hid ((w.alloc (.cells #[Value.int .u8 0, Value.int .u8 0, Value.int .u8 0, Value.int .u8 0, Value.int .u8 0, Value.int .u8 0, Value.int .u8 0, Value.int .u8 0, Value.int .u8 0, Value.int .u8 0, Value.int .u8 0, Value.int .u8 0, Value.int .u8 0, Value.int .u8 0, Value.int .u8 0, Value.int .u8 0, Value.int .u8 0, Value.int .u8 0, Value.int .u8 0, Value.int .u8 0, Value.int .u8 0, Value.int .u8 0, Value.int .u8 0, Value.int .u8 0, Value.int .u8 0, Value.int .u8 0, Value.int .u8 0, Value.int .u8 0, Value.int .u8 0, Value.int .u8 0, Value.int .u8 0, Value.int .u8 0, Value.int .u8 0, Value.int .u8 0, Value.int .u8 0, Value.int .u8 0, Value.int .u8 0, Value.int .u8 0, Value.int .u8 0, Value.int .u8 0, Value.int .u8 0, Value.int .u8 0, Value.int .u8 0, Value.int .u8 0, Value.int .u8 0, Value.int .u8 0, Value.int .u8 0, Value.int .u8 0, Value.int .u8 0, Value.int .u8 0, Value.int .u8 0, Value.int .u8 0, Value.int .u8 0, Value.int .u8 0, Value.int .u8 0, Value.int .u8 0, Value.int .u8 0, Value.int .u8 0, Value.int .u8 0, Value.int .u8 0, Value.int .u8 0, Value.int .u8 0, Value.int .u8 0, Value.int .u8 0] 34)).drew.heap[w.heap.size]? = some (.cells #[Value.int .u8 0, Value.int .u8 0, Value.int .u8 0, Value.int .u8 0, Value.int .u8 0, Value.int .u8 0, Value.int .u8 0, Value.int .u8 0, Value.int .u8 0, Value.int .u8 0, Value.int .u8 0, Value.int .u8 0, Value.int .u8 0, Value.int .u8 0, Value.int .u8 0, Value.int .u8 0, Value.int .u8 0, Value.int .u8 0, Value.int .u8 0, Value.int .u8 0, Value.int .u8 0, Value.int .u8 0, Value.int .u8 0, Value.int .u8 0, Value.int .u8 0, Value.int .u8 0, Value.int .u8 0, Value.int .u8 0, Value.int .u8 0, Value.int .u8 0, Value.int .u8 0, Value.int .u8 0, Value.int .u8 0, Value.int .u8 0, Value.int .u8 0, Value.int .u8 0, Value.int .u8 0, Value.int .u8 0, Value.int .u8 0, Value.int .u8 0, Value.int .u8 0, Value.int .u8 0, Value.int .u8 0, Value.int .u8 0, Value.int .u8 0, Value.int .u8 0, Value.int .u8 0, Value.int .u8 0, Value.int .u8 0, Value.int .u8 0, Value.int .u8 0, Value.int .u8 0, Value.int .u8 0, Value.int .u8 0, Value.int .u8 0, Value.int .u8 0, Value.int .u8 0, Value.int .u8 0, Value.int .u8 0, Value.int .u8 0, Value.int .u8 0, Value.int .u8 0, Value.int .u8 0, Value.int .u8 0] 34 (0, 0))) := Lib.hid (HasB.new w _ _)
  have hW : ((w.alloc (.cells #[Value.int .u8 0, Value.int .u8 0, Value.int .u8 0, Value.int .u8 0, Value.int .u8 0, Value.int .u8 0, Value.int .u8 0, Value.int .u8 0, Value.int .u8 0, Value.int .u8 0, Value.int .u8 0, Value.int .u8 0, Value.int .u8 0, Value.int .u8 0, Value.int .u8 0, Value.int .u8 0, Value.int .u8 0, Value.int .u8 0, Value.int .u8 0, Value.int .u8 0, Value.int .u8 0, Value.int .u8 0, Value.int .u8 0, Value.int .u8 0, Value.int .u8 0, Value.int .u8 0, Value.int .u8 0, Value.int .u8 0, Value.int .u8 0, Value.int .u8 0, Value.int .u8 0, Value.int .u8 0, Value.int .u8 0, Value.int .u8 0, Value.int .u8 0, Value.int .u8 0, Value.int .u8 0, Value.int .u8 0, Value.int .u8 0, Value.int .u8 0, Value.int .u8 0, Value.int .u8 0, Value.int .u8 0, Value.int .u8 0, Value.int .u8 0, Value.int .u8 0, Value.int .u8 0, Value.int .u8 0, Value.int .u8 0, Value.int .u8 0, Value.int .u8 0, Value.int .u8 0, Value.int .u8 0, Value.int .u8 0, Value.int .u8 0, Value.int .u8 0, Value.int .u8 0, Value.int .u8 0, Value.int .u8 0, Value.int .u8 0, Value.int .u8 0, Value.int .u8 0, Value.int .u8 0, Value.int .u8 0] 34)).drew.setRow w.heap.size DL).heap[w.heap.size]? = some (.cells DL 34 (0, 0)) ∧ Below w.heap.size w ((w.alloc (.cells #[Value.int .u8 0, Value.int .u8 0, Value.int .u8 0, Value.int .u8 0, Value.int .u8 0, Value.int .u8 0, Value.int .u8 0, Value.int .u8 0, Value.int .u8 0, Value.int .u8 0, Value.int .u8 0, Value.int .u8 0, Value.int .u8 0, Value.int .u8 0, Value.int .u8 0, Value.int .u8 0, Value.int .u8 0, Value.int .u8 0, Value.int .u8 0, Value.int .u8 0, Value.int .u8 0, Value.int .u8 0, Value.int .u8 0, Value.int .u8 0, Value.int .u8 0, Value.int .u8 0, Value.int .u8 0, Value.int .u8 0, Value.int .u8 0, Value.int .u8 0, Value.int .u8 0, Value.int .u8 0, Value.int .u8 0, Value.int .u8 0, Value.int .u8 0, Value.int .u8 0, Value.int .u8 0, Value.int .u8 0, Value.int .u8 0, Value.int .u8 0, Value.int .u8 0, Value.int .u8 0, Value.int .u8 0, Value.int .u8 0, Value.int .u8 0, Value.int .u8 0, Value.int .u8 0, Value.int .u8 0, Value.int .u8 0, Value.int .u8 0, Value.int .u8 0, Value.int .u8 0, Value.int .u8 0, Value.int .u8 0, Value.int .u8 0, Value.int .u8 0, Value.int .u8 0, Value.int .u8 0, Value.int .u8 0, Value.int .u8 0, Value.int .u8 0, Value.int .u8 0, Value.int .u8 0, Value.int .u8 0] 34)).drew.setRow w.heap.size DL) := ⟨setRow_heap _ _ _ DL 34 (0, 0) HQr.out, below_setRow (((Below.refl _ _).alloc (Nat.le_refl _) _).drew) (Nat.le_refl _) DL⟩
  have HW := Lib.hid hW
  have HNe : Hid (gd ≠ w.heap.size ∧ gb ≠ w.heap.size) := Lib.hid (by have := h1.lt; have := h2.lt; omega)
  clear hPOST hDL hs h1 h2 hW
  go_enter Try.func23, Try.ntmps23
  go_wp2_with fail
  have HK3 : Hid (((w.alloc (.cells #[Value.int .u8 0, Value.int .u8 0, Value.int .u8 0, Value.int .u8 0, Value.int .u8 0, Value.int .u8 0, Value.int .u8 0, Value.int .u8 0, Value.int .u8 0, Value.int .u8 0, Value.int .u8 0, Value.int .u8 0, Value.int .u8 0, Value.int .u8 0, Value.int .u8 0, Value.int .u8 0, Value.int .u8 0, Value.int .u8 0, Value.int .u8 0, Value.int .u8 0, Value.int .u8 0, Value.int .u8 0, Value.int .u8 0, Value.int .u8 0, Value.int .u8 0, Value.int .u8 0, Value.int .u8 0, Value.int .u8 0, Value.int .u8 0, Value.int .u8 0, Value.int .u8 0, Value.int .u8 0, Value.int .u8 0, Value.int .u8 0, Value.int .u8 0, Value.int .u8 0, Value.int .u8 0, Value.int .u8 0, Value.int .u8 0, Value.int .u8 0, Value.int .u8 0, Value.int .u8 0, Value.int .u8 0, Value.int .u8 0, Value.int .u8 0, Value.int .u8 0, Value.int .u8 0, Value.int .u8 0, Value.int .u8 0, Value.int .u8 0, Value.int .u8 0, Value.int .u8 0, Value.int .u8 0, Value.int .u8 0, Value.int .u8 0, Value.int .u8 0, Value.int .u8 0, Value.int .u8 0, Value.int .u8 0, Value.int .u8 0, Value.int .u8 0, Value.int .u8 0, Value.int .u8 0, Value.int .u8 0] 34)).drew.setRow w.heap.size DL).heap[gd]? = some (.cells DL 34 (0, 0)) ∧ ((w.alloc (.cells #[Value.int .u8 0, Value.int .u8 0, Value.int .u8 0, Value.int .u8 0, Value.int .u8 0, Value.int .u8 0, Value.int .u8 0, Value.int .u8 0, Value.int .u8 0, Value.int .u8 0, Value.int .u8 0, Value.int .u8 0, Value.int .u8 0, Value.int .u8 0, Value.int .u8 0, Value.int .u8 0, Value.int .u8 0, Value.int .u8 0, Value.int .u8 0, Value.int .u8 0, Value.int .u8 0, Value.int .u8 0, Value.int .u8 0, Value.int .u8 0, Value.int .u8 0, Value.int .u8 0, Value.int .u8 0, Value.int .u8 0, Value.int .u8 0, Value.int .u8 0, Value.int .u8 0, Value.int .u8 0, Value.int .u8 0, Value.int .u8 0, Value.int .u8 0, Value.int .u8 0, Value.int .u8 0, Value.int .u8 0, Value.int .u8 0, Value.int .u8 0, Value.int .u8 0, Value.int .u8 0, Value.int .u8 0, Value.int .u8 0, Value.int .u8 0, Value.int .u8 0, Value.int .u8 0, Value.int .u8 0, Value.int .u8 0, Value.int .u8 0, Value.int .u8 0, Value.int .u8 0, Value.int .u8 0, Value.int .u8 0, Value.int .u8 0, Value.int .u8 0, Value.int .u8 0, Value.int .u8 0, Value.int .u8 0, Value.int .u8 0, Value.int .u8 0, Value.int .u8 0, Value.int .u8 0, Value.int .u8 0] 34)).drew.setRow w.heap.size DL).cell? ⟨gb, 0, none⟩ = some (.bool bl)) := Lib.hid ⟨(setRow_other _ _ _ _ HNe.out.1).trans HQd.out, (cell_setRow_other _ _ _ _ HNe.out.2).trans HQb.out⟩
  refine wp_region_held_drew (S := (fun w' => w'.heap[gd]? = some (.cells DL 34 (0, 0)) ∧ w'.cell? ⟨gb, 0, none⟩ = some (.bool bl))) (by kernel_rfl) (⟨HQd.out, HQb.out⟩) (fun hHeld => ?_)
  refine held_take 0 (v := (.agg DL)) rfl (by kernel_rfl) (by kernel_rfl) (by kernel_rfl) (fun _ _ _ h => h) (by rfl) (fun w hS => ?_) (by assumption) ?_
  · exact yield_row _ _ 34 (.tmp 1) (by rfl) gd (by rfl) 34 DL (0, 0) _ hS.1 Try.underlying34 (by rfl) HId.out
  try simp only [Act.put, List.setIfInBounds_toArray, List.set_cons_zero, List.set_cons_succ]
  refine held_take 1 (v := ?_) rfl (by kernel_rfl) (by kernel_rfl) (by kernel_rfl) (fun _ _ _ h => h) (by rfl) (fun w hS => ?_) (by assumption) ?_
  rotate_left
  · try dsimp only at hS
    have l2 := hS.2
    go_simp <;> with_reducible rfl
  try simp only [Act.put, List.setIfInBounds_toArray, List.set_cons_zero, List.set_cons_succ]
  refine held_take 2 (v := ?_) rfl (by kernel_rfl) (by kernel_rfl) (by kernel_rfl) (fun _ _ _ h => h) (by rfl) (fun w hS => ?_) (by assumption) ?_
  rotate_left
  · try dsimp only at hS
    have l2 := hS.2
    go_simp <;> with_reducible rfl
  try simp only [Act.put, List.setIfInBounds_toArray, List.set_cons_zero, List.set_cons_succ]
  refine held_one 3 rfl (by kernel_rfl) (fun K hK => ?_)
  refine (if_pos (by kernel_rfl)).mpr ?_
  refine wp_store_row 34 (.tmp 4) (.tmp 6) rfl w.heap.size DL rfl rfl 34 _ HQr.out HId.out HZd.out HOd.out ?_
  refine hK.out _ _ (fun w' => w'.heap[gd]? = some (.cells DL 34 (0, 0)) ∧ w'.cell? ⟨gb, 0, none⟩ = some (.bool bl)) (fun _ h => h) HK3.out (fun hHeld => ?_)
  clear hK K
  try simp only [Act.put, List.setIfInBounds_toArray, List.set_cons_zero, List.set_cons_succ]
  refine held_take 4 (v := ?_) rfl (by kernel_rfl) (by kernel_rfl) (by kernel_rfl) (fun _ _ _ h => h) (by rfl) (fun w hS => ?_) (by assumption) ?_
  rotate_left
  · try dsimp only at hS
    have l2 := hS.2
    go_simp <;> with_reducible rfl
  try simp only [Act.put, List.setIfInBounds_toArray, List.set_cons_zero, List.set_cons_succ]
  refine held_done (by kernel_rfl) ?_
  go_wp2_with fail
  rw [HPOST.out]
  exact bodyPost_ret (results_cell_tmp (p := 4) (q := 5) (by kernel_rfl) _ _ w.heap.size 34 DL (0, 0) _ rfl HW.out.1 Try.underlying34 rfl HId.out _ rfl) rfl ⟨rfl, HW.out.2⟩
theorem neq_zero64 : ∀ w, (Op.equalIn 10000 34 (.agg (u8s (List.replicate 64 0)).toArray) (.agg #[Value.int .u8 0, Value.int .u8 0, Value.int .u8 0, Value.int .u8 0, Value.int .u8 0, Value.int .u8 0, Value.int .u8 0, Value.int .u8 0, Value.int .u8 0, Value.int .u8 0, Value.int .u8 0, Value.int .u8 0, Value.int .u8 0, Value.int .u8 0, Value.int .u8 0, Value.int .u8 0, Value.int .u8 0, Value.int .u8 0, Value.int .u8 0, Value.int .u8 0, Value.int .u8 0, Value.int .u8 0, Value.int .u8 0, Value.int .u8 0, Value.int .u8 0, Value.int .u8 0, Value.int .u8 0, Value.int .u8 0, Value.int .u8 0, Value.int .u8 0, Value.int .u8 0, Value.int .u8 0, Value.int .u8 0, Value.int .u8 0, Value.int .u8 0, Value.int .u8 0, Value.int .u8 0, Value.int .u8 0, Value.int .u8 0, Value.int .u8 0, Value.int .u8 0, Value.int .u8 0, Value.int .u8 0, Value.int .u8 0, Value.int .u8 0, Value.int .u8 0, Value.int .u8 0, Value.int .u8 0, Value.int .u8 0, Value.int .u8 0, Value.int .u8 0, Value.int .u8 0, Value.int .u8 0, Value.int .u8 0, Value.int .u8 0, Value.int .u8 0, Value.int .u8 0, Value.int .u8 0, Value.int .u8 0, Value.int .u8 0, Value.int .u8 0, Value.int .u8 0, Value.int .u8 0, Value.int .u8 0])).run Try.prog w = .ok true w := fun w => equalIn_u8s 9998 34 64 Try.underlying34 (l := List.replicate 64 0) (r := List.replicate 64 0) (by decide) (by decide) rfl rfl w
/-- What a counter's, a read's question does. -/
theorem tells_ask {A : RA} {f : RF} {t : Int} (ht : t = 2 ∨ t = 4) (h : f.typ = t) : A.askStep f = RP.zero ∧ (A.ask f).s = A.s := by
  refine ⟨?_, rfl⟩
  unfold RA.askStep
  rcases ht with rfl | rfl <;> rw [h, if_neg (by decide), if_neg (by decide)]
theorem tells_count {A : RA} {f : RF} {key : List Nat} {c : Nat} (hs : A.s = ⟨key, true, c⟩) (d : List Nat) (ok : Bool) : (A.ask { f with typ := 2 }).answer d ok = RF.sign { RF.zero with typ := 512, nonce := f.nonce, ctr := c } key := by
  have hn : (A.ask { f with typ := 2 }).now = .counting f.nonce := rfl
  have hs2 : (A.ask { f with typ := 2 }).s = ⟨key, true, c⟩ := hs
  unfold RA.answer
  rw [hn]
  show (if (A.ask { f with typ := 2 }).s.has = false then _ else _) = _
  rw [hs2]
  rfl
theorem tells_read1 {A : RA} {f : RF} {key : List Nat} {c : Nat} (hs : A.s = ⟨key, true, c⟩) (hp : A.places = 16) (d : List Nat) (hin : 0 ≤ f.addr ∧ f.addr < 16) : (A.ask { f with typ := 4 }).answer d true = RF.sign { RF.zero with typ := 1024, nonce := f.nonce, addr := f.addr, res := 0, data := d, count := 1 } key := by
  have hn : (A.ask { f with typ := 4 }).now = .reading f.nonce f.addr := rfl
  have hs2 : (A.ask { f with typ := 4 }).s = ⟨key, true, c⟩ := hs
  have hp2 : (A.ask { f with typ := 4 }).places = 16 := hp
  unfold RA.answer
  rw [hn]
  show RA.readF _ _ _ _ _ = _
  unfold RA.readF
  rw [hs2, hp2, if_neg (by simp), if_pos ⟨hin, rfl⟩]
theorem tells_read0 {A : RA} {f : RF} {key : List Nat} {c : Nat} (hs : A.s = ⟨key, true, c⟩) (hp : A.places = 16) (d : List Nat) (ok : Bool) (hin : ¬((0 ≤ f.addr ∧ f.addr < 16) ∧ ok = true)) : (A.ask { f with typ := 4 }).answer d ok = RF.sign { RF.zero with typ := 1024, nonce := f.nonce, addr := f.addr, res := 4 } key := by
  have hn : (A.ask { f with typ := 4 }).now = .reading f.nonce f.addr := rfl
  have hs2 : (A.ask { f with typ := 4 }).s = ⟨key, true, c⟩ := hs
  have hp2 : (A.ask { f with typ := 4 }).places = 16 := hp
  unfold RA.answer
  rw [hn]
  show RA.readF _ _ _ _ _ = _
  unfold RA.readF
  rw [hs2, hp2, if_neg (by simp), if_neg hin]

set_option maxRecDepth 100000 in
set_option maxHeartbeats 8000000 in
theorem tells_c1 (key : List Nat) (hk : key.length = 32 ∧ ∀ c ∈ key, c < 256) (c : Nat) (hc : c < 4294967296) (f0 : RF) (hf : f0.Ok) (d : List Nat) (hd : d.length = 64 ∧ ∀ c ∈ d, c < 256) (w : World) (bl : Bool) (hcs : ¬ (0 : Int) ≤ f0.addr) :
    Calls Try.prog 6 #[.agg (u8s key).toArray, .int .u32 (c : Int), f0.val, .agg (u8s d).toArray, .bool bl] w fun e w' => e = .returned (.bool true) ∧ Below w.heap.size w w' := by
  obtain ⟨POST, hPOST⟩ : ∃ Q : Ending → World → Prop, Q = fun e w' => e = .returned (.bool true) ∧ Below w.heap.size w w' := ⟨_, rfl⟩
  rw [← hPOST]
  have HPOST := Lib.hid hPOST
  have HKy := Lib.hid hk
  have HFo := Lib.hid hf
  have HDk := Lib.hid hd
  have HCt := Lib.hid hc
  have HCs := Lib.hid hcs
  have HIn : Hid (¬((0 ≤ f0.addr ∧ f0.addr < 16) ∧ (!bl) = true)) := Lib.hid (fun q => hcs q.1.1)
  have hso : (⟨key, true, c⟩ : RS).Ok := ⟨hk.1, hk.2, hc⟩
  have HSo := Lib.hid hso
  obtain ⟨KC, hKC⟩ : ∃ KC, KC = (u8s key).toArray := ⟨_, rfl⟩
  have HIk : Hid ((Try.prog.info? 22).map (·.size) = some KC.size) := Lib.hid (by rw [hKC, List.size_toArray, u8s_len, hk.1]; exact info_k32)
  obtain ⟨NL, hNL⟩ : ∃ NL, NL = u8s f0.nonce := ⟨_, rfl⟩
  have HNL := Lib.hid hNL
  have HIn16 : Hid ((Try.prog.info? 35).map (·.size) = some NL.length) := Lib.hid (by rw [hNL, u8s_len, hf.nl]; exact info_n16)
  obtain ⟨DL, hDL⟩ : ∃ DL, DL = u8s d := ⟨_, rfl⟩
  have HDL := Lib.hid hDL
  have HId64 : Hid ((Try.prog.info? 34).map (·.size) = some DL.length) := Lib.hid (by rw [hDL, u8s_len, hd.1]; exact info_d64)
  have HId64a : Hid ((Try.prog.info? 34).map (·.size) = some DL.toArray.size) := Lib.hid (by rw [hDL, List.size_toArray, u8s_len, hd.1]; exact info_d64)
  obtain ⟨C0, hC0⟩ : ∃ N, N = (f0 : RF).cells.toArray := ⟨_, rfl⟩
  have HIC0 : Hid ((Try.prog.info? 37).map (·.size) = some C0.size) := Lib.hid (by rw [hC0]; exact info_f hf)
  have HOC0 : Hid (zF.size = C0.size) := Lib.hid (by rw [hC0]; exact old_f hf)
  have HEC0 : Hid (C0.all (·.oneCell') = true) := Lib.hid (by rw [hC0]; exact RF.one _)
  have HC0 := Lib.hid hC0
  obtain ⟨SC, hSC⟩ : ∃ N, N = (⟨key, true, c⟩ : RS).cells.toArray := ⟨_, rfl⟩
  have HISC : Hid ((Try.prog.info? 31).map (·.size) = some SC.size) := Lib.hid (by rw [hSC, List.size_toArray, RS.len hso]; exact info_st)
  have HOSC : Hid ((#[Value.int .u8 0, Value.int .u8 0, Value.int .u8 0, Value.int .u8 0, Value.int .u8 0, Value.int .u8 0, Value.int .u8 0, Value.int .u8 0, Value.int .u8 0, Value.int .u8 0, Value.int .u8 0, Value.int .u8 0, Value.int .u8 0, Value.int .u8 0, Value.int .u8 0, Value.int .u8 0, Value.int .u8 0, Value.int .u8 0, Value.int .u8 0, Value.int .u8 0, Value.int .u8 0, Value.int .u8 0, Value.int .u8 0, Value.int .u8 0, Value.int .u8 0, Value.int .u8 0, Value.int .u8 0, Value.int .u8 0, Value.int .u8 0, Value.int .u8 0, Value.int .u8 0, Value.int .u8 0, .bool false, .int .u32 0] : Array Value).size = SC.size) := Lib.hid (by rw [show SC.size = 34 by rw [hSC, List.size_toArray, RS.len hso]]; rfl)
  have HESC : Hid (SC.all (·.oneCell') = true) := Lib.hid (by rw [hSC]; exact RS.one _)
  have HSC := Lib.hid hSC
  have hbs := built_sa ⟨key, true, c⟩ hso
  have hnew := fun w => new_has 16 ⟨key, true, c⟩ w (by decide) hso rfl
  unfold RS.val at hnew
  rw [← hSC] at hbs hnew
  have hbs : Try.prog.built 31 [(0, .agg KC), (1, .bool true), (2, .int .u32 (c : Int))] = some SC := by rw [hKC]; exact hbs
  have HBs := Lib.hid hbs
  have HNew := Lib.hid hnew
  have hez := eqStep RP.zero RP.zero RP.zero_ok RP.zero_ok
  simp only [decide_true] at hez
  have HEz := Lib.hid hez
  have HKC := Lib.hid hKC
  unfold RF.val
  rw [← hKC, ← hC0, ← hDL]
  have HW1 : Hid (Below w.heap.size w ((((w.alloc (.cells KC 22)).alloc (.cells C0 37)).alloc (.cells DL.toArray 34)).alloc (.cells #[.bool bl] 4)) ∧ HasB ((((w.alloc (.cells KC 22)).alloc (.cells C0 37)).alloc (.cells DL.toArray 34)).alloc (.cells #[.bool bl] 4)) w.heap.size KC 22 ∧ HasB ((((w.alloc (.cells KC 22)).alloc (.cells C0 37)).alloc (.cells DL.toArray 34)).alloc (.cells #[.bool bl] 4)) (w.heap.size + 1) C0 37 ∧ HasB ((((w.alloc (.cells KC 22)).alloc (.cells C0 37)).alloc (.cells DL.toArray 34)).alloc (.cells #[.bool bl] 4)) (w.heap.size + 1 + 1) DL.toArray 34 ∧ HasB ((((w.alloc (.cells KC 22)).alloc (.cells C0 37)).alloc (.cells DL.toArray 34)).alloc (.cells #[.bool bl] 4)) (w.heap.size + 1 + 1 + 1) #[.bool bl] 4) := Lib.hid ⟨((((Below.refl _ _).alloc (Nat.le_refl _) _).alloc (by simp) _).alloc (by simp; omega) _).alloc (by simp; omega) _, (((HasB.new w _ _).alloc _).alloc _).alloc _, ((HasB.new' (by simp) _ _).alloc _).alloc _, (HasB.new' (by simp) _ _).alloc _, HasB.new' (by simp) _ _⟩
  clear hPOST hk hf hd hc hcs hso hKC hNL hDL hC0 hSC hbs hnew hez
  go_enter Try.func6, Try.ntmps6
  go_wp2_with fail
  generalize ((((w.alloc (.cells KC 22)).alloc (.cells C0 37)).alloc (.cells DL.toArray 34)).alloc (.cells #[.bool bl] 4)) = w1 at HW1 ⊢
  obtain ⟨gk, hgk⟩ : ∃ gk, gk = w.heap.size := ⟨_, rfl⟩
  obtain ⟨gq, hgq⟩ : ∃ gq, gq = w.heap.size + 1 := ⟨_, rfl⟩
  obtain ⟨gd, hgd⟩ : ∃ gd, gd = w.heap.size + 1 + 1 := ⟨_, rfl⟩
  obtain ⟨gb, hgb⟩ : ∃ gb, gb = w.heap.size + 1 + 1 + 1 := ⟨_, rfl⟩
  have HGs : Hid (w.heap.size ≤ gk ∧ w.heap.size ≤ gq ∧ w.heap.size ≤ gd ∧ w.heap.size ≤ gb) := Lib.hid (by omega)
  have HBw : Hid (Below w.heap.size w w1) := Lib.hid HW1.out.1
  have HBx : Hid (HasB w1 gk KC 22 ∧ HasB w1 gq C0 37 ∧ HasB w1 gd DL.toArray 34 ∧ HasB w1 gb #[.bool bl] 4) := Lib.hid (by rw [hgb, hgd, hgq, hgk]; exact HW1.out.2)
  rw [← hgb, ← hgd, ← hgq, ← hgk]
  clear hgk hgq hgd hgb HW1
  refine (known_any w1).mono ?_
  rintro e w2 ⟨rfl, hb⟩
  have HBy : Hid (HasB w2 gk KC 22 ∧ HasB w2 gq C0 37 ∧ HasB w2 gd DL.toArray 34 ∧ HasB w2 gb #[.bool bl] 4) := Lib.hid ⟨HBx.out.1.below hb HBx.out.1.lt, HBx.out.2.1.below hb HBx.out.2.1.lt, HBx.out.2.2.1.below hb HBx.out.2.2.1.lt, HBx.out.2.2.2.below hb HBx.out.2.2.2.lt⟩
  have HBv : Hid (Below w.heap.size w w2) := Lib.hid (HBw.out.trans (hb.mono HBw.out.size))
  have HQk : Hid (w2.heap[gk]? = some (.cells KC 22 (0, 0))) := Lib.hid HBy.out.1
  clear hb HBw HBx
  go_wp2_with (first | (with_reducible refine stop_build 31 _ rfl ?_) | (with_reducible refine wpList_load_row rfl 22 (.tmp 5) rfl gk rfl 22 KC (0, 0) _ HQk.out Try.underlying22 rfl HIk.out ?_))
  refine Stop.go ?_
  refine wpList_buildTo rfl 31 _ rfl _ rfl SC ?_ ?_
  · rw [List.map_toArray]; exact HBs.out
  go_wp2_with fail
  refine (HNew.out w2).mono ?_
  rintro e w3 ⟨g, rfl, hge, hA, hb⟩
  have H3 : Hid (KnS w w3 g (RA.new 16 ⟨key, true, c⟩) [(gb, #[.bool bl], 4), (gd, DL.toArray, 34), (gq, C0, 37), (gk, KC, 22)]) := Lib.hid ⟨HBv.out.trans (hb.mono HBv.out.size), Nat.le_trans HBv.out.size hge, hA, RA.new_ok (by decide) HSo.out, fun b hb2 => by
    have l1 := HBy.out.1.lt
    have l2 := HBy.out.2.1.lt
    have l3 := HBy.out.2.2.1.lt
    have l4 := HBy.out.2.2.2.lt
    have hgs := HGs.out
    simp only [List.mem_cons, List.not_mem_nil, or_false] at hb2
    rcases hb2 with rfl | rfl | rfl | rfl
    · exact ⟨HBy.out.2.2.2.below hb l4, by show gb ≠ g; omega, hgs.2.2.2⟩
    · exact ⟨HBy.out.2.2.1.below hb l3, by show gd ≠ g; omega, hgs.2.2.1⟩
    · exact ⟨HBy.out.2.1.below hb l2, by show gq ≠ g; omega, hgs.2.1⟩
    · exact ⟨HBy.out.1.below hb l1, by show gk ≠ g; omega, hgs.1⟩⟩
  clear hb hA hge HQk HBy HBv
  go_wp2_with fail
  have H4 : Hid (KnS w (w3.alloc (.cells #[.int .i64 2, .int .i64 4] 3)) g (RA.new 16 ⟨key, true, c⟩) [(w3.heap.size, #[.int .i64 2, .int .i64 4], 3), (gb, #[.bool bl], 4), (gd, DL.toArray, 34), (gq, C0, 37), (gk, KC, 22)]) := Lib.hid (H3.out.made _ _)
  generalize w3.alloc (.cells #[.int .i64 2, .int .i64 4] 3) = w4 at H4 ⊢
  obtain ⟨gl, hgl⟩ : ∃ gl, gl = w3.heap.size := ⟨_, rfl⟩
  rw [← hgl] at H4 ⊢
  clear hgl H3
  have HAs : Hid ((RA.new 16 ⟨key, true, c⟩).s = ⟨key, true, c⟩) := Lib.hid rfl
  have HPl : Hid ((RA.new 16 ⟨key, true, c⟩).places = 16) := Lib.hid rfl
  obtain ⟨A, hAe⟩ : ∃ A, A = RA.new 16 ⟨key, true, c⟩ := ⟨_, rfl⟩
  rw [← hAe] at H4 HAs HPl
  clear hAe
  refine wp_loop_rounds 3 ?_
  have hft : ({ f0 with typ := 2 } : RF).Ok := RF.with_typ HFo.out (i64k (by decide))
  have hxr : ({ RF.zero with typ := 512, nonce := f0.nonce, ctr := c } : RF).Ok := RF.with_ctr (RF.with_nonce (RF.with_typ RF.zero_ok (x := 512) (i64k (by decide))) ⟨HFo.out.nl, HFo.out.nb⟩) HCt.out
  have hxs := RF.sign_ok hxr key
  have hask := fun w h => ask_any A { f0 with typ := 2 } g w h H4.out.ok hft
  have hAk : (RA.ask A { f0 with typ := 2 }).Ok := RA.ask_ok H4.out.ok hft
  have hst := tells_ask (A := A) (f := { f0 with typ := 2 }) (t := 2) (by decide) rfl
  have hans := fun w h hcl => answer_any (RA.ask A { f0 with typ := 2 }) d (!bl) 23 #[.pointer (some ⟨gd, 0, none⟩), .pointer (some ⟨gb, 0, none⟩)] g w h hAk HDk.out (fun args w => Try.call23 args w) hcl
  have hsg2 := rsign_any (RF.sign { RF.zero with typ := 512, nonce := f0.nonce, ctr := c } key) key
  have heq := eqFrame _ _ hxs hxs
  have hen := fun w => equalIn_u8s 9998 35 16 Try.underlying35 HFo.out.nb HFo.out.nb HFo.out.nl HFo.out.nl w
  have hed := fun w => equalIn_u8s 9998 34 64 Try.underlying34 HDk.out.2 HDk.out.2 HDk.out.1 HDk.out.1 w
  rw [RF.sign_sign _ hxr.tl] at hsg2
  rw [hst.1] at hask
  rw [show (RA.ask A { f0 with typ := 2 }).answer d (!bl) = RF.sign { RF.zero with typ := 512, nonce := f0.nonce, ctr := c } key from tells_count HAs.out d (!bl)] at hans
  simp only [decide_true] at heq hen hed
  unfold RF.val RP.val at hask
  unfold RF.val at hans hsg2
  rw [show RP.zero.cells.toArray = zP from rfl] at hask
  obtain ⟨Ct1, hCt1⟩ : ∃ N, N = ({ f0 with typ := 2 } : RF).cells.toArray := ⟨_, rfl⟩
  have HICt1 : Hid ((Try.prog.info? 37).map (·.size) = some Ct1.size) := Lib.hid (by rw [hCt1]; exact info_f hft)
  have HOCt1 : Hid (zF.size = Ct1.size) := Lib.hid (by rw [hCt1]; exact old_f hft)
  have HECt1 : Hid (Ct1.all (·.oneCell') = true) := Lib.hid (by rw [hCt1]; exact RF.one _)
  have HCt1 := Lib.hid hCt1
  obtain ⟨CX1, hCX1⟩ : ∃ N, N = (RF.sign { RF.zero with typ := 512, nonce := f0.nonce, ctr := c } key : RF).cells.toArray := ⟨_, rfl⟩
  have HICX1 : Hid ((Try.prog.info? 37).map (·.size) = some CX1.size) := Lib.hid (by rw [hCX1]; exact info_f hxs)
  have HOCX1 : Hid (zF.size = CX1.size) := Lib.hid (by rw [hCX1]; exact old_f hxs)
  have HECX1 : Hid (CX1.all (·.oneCell') = true) := Lib.hid (by rw [hCX1]; exact RF.one _)
  have HCX1 := Lib.hid hCX1
  rw [← hCt1] at hask
  rw [← hCX1] at hans hsg2 heq
  rw [← HKC.out] at hsg2
  rw [← HNL.out] at hen
  rw [← HDL.out] at hed
  have hez : ∀ w, (Op.equalIn 10000 43 (.agg zP) (.agg zP)).run Try.prog w = .ok true w := HEz.out
  have HAk := Lib.hid hAk
  have HAsk := Lib.hid hask
  have HAns := Lib.hid hans
  have HSg2 := Lib.hid (fun w => hsg2 w hxs HKy.out.1 HKy.out.2)
  have HXo := Lib.hid hxs
  have HAs2 : Hid ((RA.ask A { f0 with typ := 2 }).s = ⟨key, true, c⟩ ∧ (RA.ask A { f0 with typ := 2 }).places = 16) := Lib.hid ⟨HAs.out, HPl.out⟩
  clear hft hxr hxs hask hAk hst hans hsg2 hCt1 hCX1
  have hl0 : w4.cell? ⟨gl, 0, none⟩ = some (.int .i64 2) := HasB.at (H4.out.at (C := #[.int .i64 2, .int .i64 4]) (T := 3) (by simp)) 0
  have hl1 : w4.cell? ⟨gl, 1, none⟩ = some (.int .i64 4) := HasB.at (H4.out.at (C := #[.int .i64 2, .int .i64 4]) (T := 3) (by simp)) 1
  have hllt := HasB.lt (H4.out.at (k := gl) (C := #[.int .i64 2, .int .i64 4]) (T := 3) (by simp))
  have HQq : Hid (w4.heap[gq]? = some (.cells C0 37 (0, 0))) := Lib.hid (H4.out.at (by simp))
  rw [rounds_succ]
  have HGf0 : Hid (∀ b ∈ [(gl, #[.int .i64 2, .int .i64 4], 3), (gb, #[.bool bl], 4), (gd, DL.toArray, 34), (gq, C0, 37), (gk, KC, 22)], b.1 < w4.heap.size) := Lib.hid (fun b hb => (H4.out.box b hb).1.lt)
  go_wp2_with (first | (with_reducible refine wpList_load_row rfl 37 (.tmp 7) rfl gq rfl 37 C0 (0, 0) _ HQq.out Try.underlying37 rfl HIC0.out ?_) | (with_reducible refine wpList_store_row rfl 37 (.tmp 15) (.tmp 39) rfl w4.heap.size C0 rfl rfl 37 zF (heap_new w4 _) HIC0.out HOC0.out HEC0.out ?_; rw [World.setRow_alloc_new]; refine Stop.mk ?_))
  refine Stop.go ?_
  have H51 : Hid (KnS w (w4.alloc (.cells C0 37)) g A [(w4.heap.size, C0, 37), (gl, #[.int .i64 2, .int .i64 4], 3), (gb, #[.bool bl], 4), (gd, DL.toArray, 34), (gq, C0, 37), (gk, KC, 22)]) := Lib.hid (H4.out.made C0 _)
  generalize w4.alloc (.cells C0 37) = w51 at H51 ⊢
  obtain ⟨gf1, hgf1⟩ : ∃ g, g = w4.heap.size := ⟨_, rfl⟩
  rw [← hgf1] at H51 ⊢
  have HNe : Hid (∀ b ∈ [(gl, #[.int .i64 2, .int .i64 4], 3), (gb, #[.bool bl], 4), (gd, DL.toArray, 34), (gq, C0, 37), (gk, KC, 22)], b.1 ≠ gf1) := Lib.hid (fun b hb => by have := HGf0.out b hb; omega)
  clear hgf1 H4
  clear HGf0 HQq hl0 hl1 hllt
  have hfl := HasB.lt (H51.out.at (List.mem_cons_self))
  have hff : w51.frozen? ⟨gf1, 116, none⟩ = false := HasB.free (H51.out.at (List.mem_cons_self)) 116
  have hfc : w51.cell? ⟨gf1, 116, none⟩ = some (.int .i64 f0.typ) := RF.tail_at HFo.out (by rw [← HC0.out]; exact H51.out.at (List.mem_cons_self)) 4 _ rfl
  go_wp2_with (with_reducible refine stop_dst 43 rfl ?_)
  refine Stop.go ?_
  have H61 : Hid (KnS w (w51.setCell ⟨gf1, 116, none⟩ (.int .i64 2)) g A [(gf1, Ct1, 37), (gl, #[.int .i64 2, .int .i64 4], 3), (gb, #[.bool bl], 4), (gd, DL.toArray, 34), (gq, C0, 37), (gk, KC, 22)]) := Lib.hid (H51.out.put HNe.out (by rw [HCt1.out]; have := H51.out.at (List.mem_cons_self); rw [HC0.out] at this; exact RF.putTyp HFo.out this 2) (gb_set (gb_refl _ _) _ _))
  generalize w51.setCell ⟨gf1, 116, none⟩ (.int .i64 2) = w61 at H61 ⊢
  clear hfl hff hfc H51 HNe
  have HQ6 : Hid (w61.heap[gf1]? = some (.cells Ct1 37 (0, 0))) := Lib.hid (H61.out.at (by simp))
  refine wpList_load_row rfl 37 (.tmp 15) rfl gf1 rfl 37 Ct1 (0, 0) _ HQ6.out Try.underlying37 rfl HICt1.out ?_
  go_wp2_with fail
  refine (HAsk.out w61 H61.out.area).mono ?_
  rintro e w71 ⟨rfl, hA9, hg9⟩
  have H71 : Hid (KnS w w71 g (RA.ask A { f0 with typ := 2 }) [(gf1, Ct1, 37), (gl, #[.int .i64 2, .int .i64 4], 3), (gb, #[.bool bl], 4), (gd, DL.toArray, 34), (gq, C0, 37), (gk, KC, 22)]) := Lib.hid (H61.out.call hA9 HAk.out hg9)
  clear hA9 hg9 HQ6 H61 HAsk
  go_wp2_with fail
  refine (HAns.out w71 H71.out.area (fun x w' hb => tells_clo d HDk.out.1 bl x gd gb w' (by rw [← HDL.out]; exact HasB.below (H71.out.at (k := gd) (by simp)) hb (HasB.lt (H71.out.at (k := gd) (C := DL.toArray) (T := 34) (by simp)))) (HasB.below (H71.out.at (k := gb) (by simp)) hb (HasB.lt (H71.out.at (k := gb) (C := #[.bool bl]) (T := 4) (by simp)))))).mono ?_
  rintro e w81 ⟨rfl, hb8⟩
  have H81 := Lib.hid (H71.out.below hb8)
  clear hb8 H71 HAns
  go_wp2_with (first | (with_reducible refine wpList_store_row rfl 37 (.tmp 16) (.tmp 49) rfl w81.heap.size CX1 rfl rfl 37 zF (heap_new w81 _) HICX1.out HOCX1.out HECX1.out ?_; rw [World.setRow_alloc_new]; refine Stop.mk ?_))
  refine Stop.go ?_
  have H91 : Hid (KnS w (w81.alloc (.cells CX1 37)) g (RA.ask A { f0 with typ := 2 }) [(w81.heap.size, CX1, 37), (gf1, Ct1, 37), (gl, #[.int .i64 2, .int .i64 4], 3), (gb, #[.bool bl], 4), (gd, DL.toArray, 34), (gq, C0, 37), (gk, KC, 22)]) := Lib.hid (H81.out.made CX1 _)
  generalize w81.alloc (.cells CX1 37) = w91 at H91 ⊢
  obtain ⟨gx1, hgx1⟩ : ∃ g, g = w81.heap.size := ⟨_, rfl⟩
  rw [← hgx1] at H91 ⊢
  clear hgx1 H81
  have K1 : Hid (∀ w', Below w91.heap.size w91 w' → w'.cell? ⟨gx1, 116, none⟩ = some (.int .i64 512) ∧ w'.cell? ⟨gx1, 115, none⟩ = some (.int .i64 0) ∧ w'.cell? ⟨gx1, 112, none⟩ = some (.int .u32 (c : Int)) ∧ w'.cell? ⟨gx1, 114, none⟩ = some (.int .i64 0) ∧ w'.rangeAt gx1 96 NL ∧ w'.rangeAt gx1 32 (u8s (List.replicate 64 0))) := Lib.hid (fun w' hw => by
    have hx : HasB w' gx1 CX1 37 := HasB.below (H91.out.at List.mem_cons_self) hw (HasB.lt (H91.out.at List.mem_cons_self))
    rw [HCX1.out] at hx
    refine ⟨RF.tail_at HXo.out hx 4 _ rfl, RF.tail_at HXo.out hx 3 _ rfl, RF.tail_at HXo.out hx 0 _ rfl, RF.tail_at HXo.out hx 2 _ rfl, ?_, ?_⟩
    · rw [HNL.out]; have := RF.nonce_at HXo.out hx; exact this
    · have := RF.data_at HXo.out hx; exact this)
  have K3 : Hid (∀ w', Below w91.heap.size w91 w' → w'.heap[gx1]? = some (.cells CX1 37 (0, 0))) := Lib.hid (fun w' hw => HasB.below (H91.out.at List.mem_cons_self) hw (HasB.lt (H91.out.at List.mem_cons_self)))
  have K4 : Hid (∀ w', Below w91.heap.size w91 w' → w'.heap[gk]? = some (.cells KC 22 (0, 0))) := Lib.hid (fun w' hw => HasB.below (H91.out.at (k := gk) (by simp)) hw (HasB.lt (H91.out.at (k := gk) (C := KC) (T := 22) (by simp))))
  have K5 : Hid (∀ w', Below w91.heap.size w91 w' → w'.rangeAt gq 96 NL ∧ w'.cell? ⟨gq, 113, none⟩ = some (.int .i64 f0.addr)) := Lib.hid (fun w' hw => by
    have hx : HasB w' gq C0 37 := HasB.below (H91.out.at (k := gq) (by simp)) hw (HasB.lt (H91.out.at (k := gq) (C := C0) (T := 37) (by simp)))
    rw [HC0.out] at hx
    refine ⟨?_, RF.tail_at HFo.out hx 1 _ rfl⟩
    rw [HNL.out]; exact RF.nonce_at HFo.out hx)
  go_wp2_with fail
  refine wp_region_held_drew (S := (fun w' => Below w91.heap.size w91 w')) (by kernel_rfl) ((Below.refl _ _).drew) (fun hHeld => ?_)
  refine held_take 0 (v := ?_) rfl (by kernel_rfl) (by kernel_rfl) (by kernel_rfl) (fun _ _ _ h => h) (by rfl) (fun w hS => ?_) (by assumption) ?_
  rotate_left
  · try dsimp only at hS
    have l1 := K1.out w hS
    have l5 := K5.out w hS
    go_simp <;> with_reducible rfl
  try simp only [Act.put, List.setIfInBounds_toArray, List.set_cons_zero, List.set_cons_succ]
  refine held_take 1 (v := ?_) rfl (by kernel_rfl) (by kernel_rfl) (by kernel_rfl) (fun _ _ _ h => h) (by rfl) (fun w hS => ?_) (by assumption) ?_
  rotate_left
  · try dsimp only at hS
    have l1 := K1.out w hS
    have l5 := K5.out w hS
    go_simp <;> with_reducible rfl
  try simp only [Act.put, List.setIfInBounds_toArray, List.set_cons_zero, List.set_cons_succ]
  refine held_take 2 (v := ?_) rfl (by kernel_rfl) (by kernel_rfl) (by kernel_rfl) (fun _ _ _ h => h) (by rfl) (fun w hS => ?_) (by assumption) ?_
  rotate_left
  · try dsimp only at hS
    have l1 := K1.out w hS
    have l5 := K5.out w hS
    go_simp <;> with_reducible rfl
  try simp only [Act.put, List.setIfInBounds_toArray, List.set_cons_zero, List.set_cons_succ]
  refine held_take 3 (v := ?_) rfl (by kernel_rfl) (by kernel_rfl) (by kernel_rfl) (fun _ _ _ h => h) (by rfl) (fun w hS => ?_) (by assumption) ?_
  rotate_left
  · try dsimp only at hS
    have l1 := K1.out w hS
    have l5 := K5.out w hS
    go_simp <;> with_reducible rfl
  try simp only [Act.put, List.setIfInBounds_toArray, List.set_cons_zero, List.set_cons_succ]
  refine held_take 4 (v := ?_) rfl (by kernel_rfl) (by kernel_rfl) (by kernel_rfl) (fun _ _ _ h => h) (by rfl) (fun w hS => ?_) (by assumption) ?_
  rotate_left
  · try dsimp only at hS
    have l1 := K1.out w hS
    have l5 := K5.out w hS
    go_simp <;> with_reducible rfl
  try simp only [Act.put, List.setIfInBounds_toArray, List.set_cons_zero, List.set_cons_succ]
  refine held_take 5 (v := ?_) rfl (by kernel_rfl) (by kernel_rfl) (by kernel_rfl) (fun _ _ _ h => h) (by rfl) (fun w hS => ?_) (by assumption) ?_
  rotate_left
  · try dsimp only at hS
    have l1 := K1.out w hS
    have l5 := K5.out w hS
    go_simp <;> with_reducible rfl
  try simp only [Act.put, List.setIfInBounds_toArray, List.set_cons_zero, List.set_cons_succ]
  refine held_take 6 (v := ?_) rfl (by kernel_rfl) (by kernel_rfl) (by kernel_rfl) (fun _ _ _ h => h) (by rfl) (fun w hS => ?_) (by assumption) ?_
  rotate_left
  · try dsimp only at hS
    have l1 := K1.out w hS
    have l5 := K5.out w hS
    go_simp <;> with_reducible rfl
  try simp only [Act.put, List.setIfInBounds_toArray, List.set_cons_zero, List.set_cons_succ]
  refine held_take 7 (v := (.agg NL.toArray)) rfl (by kernel_rfl) (by kernel_rfl) (by kernel_rfl) (fun _ _ _ h => h) (by rfl) (fun w hS => ?_) (by assumption) ?_
  · exact yield_load_mid _ _ 35 (.tmp 56) (by rfl) gx1 96 (by rfl) NL _ (K1.out w hS).2.2.2.2.1 Try.underlying35 (by rfl) HIn16.out
  try simp only [Act.put, List.setIfInBounds_toArray, List.set_cons_zero, List.set_cons_succ]
  refine held_take 8 (v := ?_) rfl (by kernel_rfl) (by kernel_rfl) (by kernel_rfl) (fun _ _ _ h => h) (by rfl) (fun w hS => ?_) (by assumption) ?_
  rotate_left
  · try dsimp only at hS
    have l1 := K1.out w hS
    have l5 := K5.out w hS
    go_simp <;> with_reducible rfl
  try simp only [Act.put, List.setIfInBounds_toArray, List.set_cons_zero, List.set_cons_succ]
  refine held_take 9 (v := (.agg NL.toArray)) rfl (by kernel_rfl) (by kernel_rfl) (by kernel_rfl) (fun _ _ _ h => h) (by rfl) (fun w hS => ?_) (by assumption) ?_
  · exact yield_load_mid _ _ 35 (.tmp 58) (by rfl) gq 96 (by rfl) NL _ (K5.out w hS).1 Try.underlying35 (by rfl) HIn16.out
  try simp only [Act.put, List.setIfInBounds_toArray, List.set_cons_zero, List.set_cons_succ]
  refine held_take 10 (v := ?_) rfl (by kernel_rfl) (by kernel_rfl) (by kernel_rfl) (fun _ _ _ h => h) (by rfl) (fun w hS => ?_) (by assumption) ?_
  rotate_left
  · try dsimp only at hS
    have l1 := K1.out w hS
    have l5 := K5.out w hS
    go_simp <;> with_reducible rfl
  try simp only [Act.put, List.setIfInBounds_toArray, List.set_cons_zero, List.set_cons_succ]
  refine held_take 11 (v := ?_) rfl (by kernel_rfl) (by kernel_rfl) (by kernel_rfl) (fun _ _ _ h => h) (by rfl) (fun w hS => ?_) (by assumption) ?_
  rotate_left
  · try dsimp only at hS
    have l1 := K1.out w hS
    have l5 := K5.out w hS
    go_simp <;> with_reducible rfl
  try simp only [Act.put, List.setIfInBounds_toArray, List.set_cons_zero, List.set_cons_succ]
  refine held_take 12 (v := ?_) rfl (by kernel_rfl) (by kernel_rfl) (by kernel_rfl) (fun _ _ _ h => h) (by rfl) (fun w hS => ?_) (by assumption) ?_
  rotate_left
  · try dsimp only at hS
    have l1 := K1.out w hS
    have l5 := K5.out w hS
    go_simp <;> with_reducible rfl
  try simp only [Act.put, List.setIfInBounds_toArray, List.set_cons_zero, List.set_cons_succ]
  refine held_take 13 (v := (.agg CX1)) rfl (by kernel_rfl) (by kernel_rfl) (by kernel_rfl) (fun _ _ _ h => h) (by rfl) (fun w hS => ?_) (by assumption) ?_
  · exact yield_row _ _ 37 (.tmp 16) (by rfl) gx1 (by rfl) 37 CX1 (0, 0) _ (K3.out w hS) Try.underlying37 (by rfl) HICX1.out
  try simp only [Act.put, List.setIfInBounds_toArray, List.set_cons_zero, List.set_cons_succ]
  refine held_take 14 (v := (.agg KC)) rfl (by kernel_rfl) (by kernel_rfl) (by kernel_rfl) (fun _ _ _ h => h) (by rfl) (fun w hS => ?_) (by assumption) ?_
  · exact yield_row _ _ 22 (.tmp 5) (by rfl) gk (by rfl) 22 KC (0, 0) _ (K4.out w hS) Try.underlying22 (by rfl) HIk.out
  try simp only [Act.put, List.setIfInBounds_toArray, List.set_cons_zero, List.set_cons_succ]
  refine held_take 16 (v := (.agg CX1)) rfl (by kernel_rfl) (by kernel_rfl) (by kernel_rfl) (fun _ _ _ h => h) (by rfl) (fun w hS => ?_) (by assumption) ?_
  · exact yield_row _ _ 37 (.tmp 16) (by rfl) gx1 (by rfl) 37 CX1 (0, 0) _ (K3.out w hS) Try.underlying37 (by rfl) HICX1.out
  try simp only [Act.put, List.setIfInBounds_toArray, List.set_cons_zero, List.set_cons_succ]
  refine held_one 15 rfl (by kernel_rfl) (fun K hK => ?_)
  go_simp
  refine (HSg2.out _).mono ?_
  rintro e we1 ⟨rfl, hbe⟩
  have HBe : Hid (Below w91.heap.size w91 we1) := Lib.hid ((Below.refl _ _).drew.trans hbe)
  clear hbe
  refine hK.out _ _ (fun w' => Below w91.heap.size w91 w') (fun _ h => h) HBe.out (fun hHeld => ?_)
  clear hK K
  try simp only [Act.put, List.setIfInBounds_toArray, List.set_cons_zero, List.set_cons_succ]
  refine held_take 17 (v := ?_) rfl (by kernel_rfl) (by kernel_rfl) (by kernel_rfl) (fun _ _ _ h => h) (by rfl) (fun w hS => ?_) (by assumption) ?_
  rotate_left
  · try dsimp only at hS
    have l1 := K1.out w hS
    have l5 := K5.out w hS
    go_simp <;> with_reducible rfl
  try simp only [Act.put, List.setIfInBounds_toArray, List.set_cons_zero, List.set_cons_succ]
  refine held_take 18 (v := ?_) rfl (by kernel_rfl) (by kernel_rfl) (by kernel_rfl) (fun _ _ _ h => h) (by rfl) (fun w hS => ?_) (by assumption) ?_
  rotate_left
  · try dsimp only at hS
    have l1 := K1.out w hS
    have l5 := K5.out w hS
    go_simp <;> with_reducible rfl
  try simp only [Act.put, List.setIfInBounds_toArray, List.set_cons_zero, List.set_cons_succ]
  refine held_done (by kernel_rfl) ?_
  have HE1 : Hid (KnS w we1 g (RA.ask A { f0 with typ := 2 }) [(gl, #[.int .i64 2, .int .i64 4], 3), (gb, #[.bool bl], 4), (gd, DL.toArray, 34), (gq, C0, 37), (gk, KC, 22)]) := Lib.hid ⟨(H91.out.below HBe.out).be, H91.out.lg, (H91.out.below HBe.out).area, H91.out.ok, fun x hx => (H91.out.below HBe.out).box x (List.mem_cons_of_mem _ (List.mem_cons_of_mem _ hx))⟩
  have m1 := (K1.out we1 HBe.out).2.1
  have m2 := (K1.out we1 HBe.out).2.2.1
  have m3 := (K1.out we1 HBe.out).2.2.2.1
  have m4 := (K5.out we1 HBe.out).2
  have m5 : we1.cell? ⟨gb, 0, none⟩ = some (.bool bl) := HasB.at (HE1.out.at (C := #[.bool bl]) (T := 4) (by simp)) 0
  have HM6 := Lib.hid (K1.out we1 HBe.out).2.2.2.2.2
  have HM7 : Hid (we1.heap[gd]? = some (.cells DL.toArray 34 (0, 0))) := Lib.hid (HE1.out.at (by simp))
  have n1 := HCs.out
  clear K1 K3 K4 K5 HSg2
  go_wp2_with fail
  have HAs := Lib.hid HAs2.out.1
  have HPl := Lib.hid HAs2.out.2
  clear HBe H91 m1 m2 m3 m4 m5 n1 hen hed heq hez HAs2 HXo HM6 HM7
  obtain ⟨A2, hA2⟩ : ∃ A2, A2 = (RA.ask A { f0 with typ := 2 }) := ⟨_, rfl⟩
  rw [← hA2] at HE1 HAs HPl
  clear hA2
  have hft : ({ f0 with typ := 4 } : RF).Ok := RF.with_typ HFo.out (i64k (by decide))
  have hxr : ({ RF.zero with typ := 1024, nonce := f0.nonce, addr := f0.addr, res := 4 } : RF).Ok := RF.with_res (RF.with_addr (RF.with_nonce (RF.with_typ RF.zero_ok (x := 1024) (i64k (by decide))) ⟨HFo.out.nl, HFo.out.nb⟩) HFo.out.i1) (x := 4) (i64k (by decide))
  have hxs := RF.sign_ok hxr key
  have hask := fun w h => ask_any A2 { f0 with typ := 4 } g w h HE1.out.ok hft
  have hAk : (RA.ask A2 { f0 with typ := 4 }).Ok := RA.ask_ok HE1.out.ok hft
  have hst := tells_ask (A := A2) (f := { f0 with typ := 4 }) (t := 4) (by decide) rfl
  have hans := fun w h hcl => answer_any (RA.ask A2 { f0 with typ := 4 }) d (!bl) 23 #[.pointer (some ⟨gd, 0, none⟩), .pointer (some ⟨gb, 0, none⟩)] g w h hAk HDk.out (fun args w => Try.call23 args w) hcl
  have hsg2 := rsign_any (RF.sign { RF.zero with typ := 1024, nonce := f0.nonce, addr := f0.addr, res := 4 } key) key
  have heq := eqFrame _ _ hxs hxs
  have hen := fun w => equalIn_u8s 9998 35 16 Try.underlying35 HFo.out.nb HFo.out.nb HFo.out.nl HFo.out.nl w
  have hed := fun w => equalIn_u8s 9998 34 64 Try.underlying34 HDk.out.2 HDk.out.2 HDk.out.1 HDk.out.1 w
  rw [RF.sign_sign _ hxr.tl] at hsg2
  rw [hst.1] at hask
  rw [show (RA.ask A2 { f0 with typ := 4 }).answer d (!bl) = RF.sign { RF.zero with typ := 1024, nonce := f0.nonce, addr := f0.addr, res := 4 } key from tells_read0 HAs.out HPl.out d (!bl) HIn.out] at hans
  simp only [decide_true] at heq hen hed
  unfold RF.val RP.val at hask
  unfold RF.val at hans hsg2
  rw [show RP.zero.cells.toArray = zP from rfl] at hask
  obtain ⟨Ct2, hCt2⟩ : ∃ N, N = ({ f0 with typ := 4 } : RF).cells.toArray := ⟨_, rfl⟩
  have HICt2 : Hid ((Try.prog.info? 37).map (·.size) = some Ct2.size) := Lib.hid (by rw [hCt2]; exact info_f hft)
  have HOCt2 : Hid (zF.size = Ct2.size) := Lib.hid (by rw [hCt2]; exact old_f hft)
  have HECt2 : Hid (Ct2.all (·.oneCell') = true) := Lib.hid (by rw [hCt2]; exact RF.one _)
  have HCt2 := Lib.hid hCt2
  obtain ⟨CX2, hCX2⟩ : ∃ N, N = (RF.sign { RF.zero with typ := 1024, nonce := f0.nonce, addr := f0.addr, res := 4 } key : RF).cells.toArray := ⟨_, rfl⟩
  have HICX2 : Hid ((Try.prog.info? 37).map (·.size) = some CX2.size) := Lib.hid (by rw [hCX2]; exact info_f hxs)
  have HOCX2 : Hid (zF.size = CX2.size) := Lib.hid (by rw [hCX2]; exact old_f hxs)
  have HECX2 : Hid (CX2.all (·.oneCell') = true) := Lib.hid (by rw [hCX2]; exact RF.one _)
  have HCX2 := Lib.hid hCX2
  rw [← hCt2] at hask
  rw [← hCX2] at hans hsg2 heq
  rw [← HKC.out] at hsg2
  rw [← HNL.out] at hen
  rw [← HDL.out] at hed
  have hez : ∀ w, (Op.equalIn 10000 43 (.agg zP) (.agg zP)).run Try.prog w = .ok true w := HEz.out
  have HAk := Lib.hid hAk
  have HAsk := Lib.hid hask
  have HAns := Lib.hid hans
  have HSg2 := Lib.hid (fun w => hsg2 w hxs HKy.out.1 HKy.out.2)
  have HXo := Lib.hid hxs
  have HAs2 : Hid ((RA.ask A2 { f0 with typ := 4 }).s = ⟨key, true, c⟩ ∧ (RA.ask A2 { f0 with typ := 4 }).places = 16) := Lib.hid ⟨HAs.out, HPl.out⟩
  clear hft hxr hxs hask hAk hst hans hsg2 hCt2 hCX2
  have hl0 : we1.cell? ⟨gl, 0, none⟩ = some (.int .i64 2) := HasB.at (HE1.out.at (C := #[.int .i64 2, .int .i64 4]) (T := 3) (by simp)) 0
  have hl1 : we1.cell? ⟨gl, 1, none⟩ = some (.int .i64 4) := HasB.at (HE1.out.at (C := #[.int .i64 2, .int .i64 4]) (T := 3) (by simp)) 1
  have hllt := HasB.lt (HE1.out.at (k := gl) (C := #[.int .i64 2, .int .i64 4]) (T := 3) (by simp))
  have HQq : Hid (we1.heap[gq]? = some (.cells C0 37 (0, 0))) := Lib.hid (HE1.out.at (by simp))
  rw [rounds_succ]
  have HGf0 : Hid (∀ b ∈ [(gl, #[.int .i64 2, .int .i64 4], 3), (gb, #[.bool bl], 4), (gd, DL.toArray, 34), (gq, C0, 37), (gk, KC, 22)], b.1 < we1.heap.size) := Lib.hid (fun b hb => (HE1.out.box b hb).1.lt)
  go_wp2_with (first | (with_reducible refine wpList_load_row rfl 37 (.tmp 7) rfl gq rfl 37 C0 (0, 0) _ HQq.out Try.underlying37 rfl HIC0.out ?_) | (with_reducible refine wpList_store_row rfl 37 (.tmp 15) (.tmp 39) rfl we1.heap.size C0 rfl rfl 37 zF (heap_new we1 _) HIC0.out HOC0.out HEC0.out ?_; rw [World.setRow_alloc_new]; refine Stop.mk ?_))
  refine Stop.go ?_
  have H52 : Hid (KnS w (we1.alloc (.cells C0 37)) g A2 [(we1.heap.size, C0, 37), (gl, #[.int .i64 2, .int .i64 4], 3), (gb, #[.bool bl], 4), (gd, DL.toArray, 34), (gq, C0, 37), (gk, KC, 22)]) := Lib.hid (HE1.out.made C0 _)
  generalize we1.alloc (.cells C0 37) = w52 at H52 ⊢
  obtain ⟨gf2, hgf2⟩ : ∃ g, g = we1.heap.size := ⟨_, rfl⟩
  rw [← hgf2] at H52 ⊢
  have HNe : Hid (∀ b ∈ [(gl, #[.int .i64 2, .int .i64 4], 3), (gb, #[.bool bl], 4), (gd, DL.toArray, 34), (gq, C0, 37), (gk, KC, 22)], b.1 ≠ gf2) := Lib.hid (fun b hb => by have := HGf0.out b hb; omega)
  clear hgf2 HE1
  clear HGf0 HQq hl0 hl1 hllt
  have hfl := HasB.lt (H52.out.at (List.mem_cons_self))
  have hff : w52.frozen? ⟨gf2, 116, none⟩ = false := HasB.free (H52.out.at (List.mem_cons_self)) 116
  have hfc : w52.cell? ⟨gf2, 116, none⟩ = some (.int .i64 f0.typ) := RF.tail_at HFo.out (by rw [← HC0.out]; exact H52.out.at (List.mem_cons_self)) 4 _ rfl
  go_wp2_with (with_reducible refine stop_dst 43 rfl ?_)
  refine Stop.go ?_
  have H62 : Hid (KnS w (w52.setCell ⟨gf2, 116, none⟩ (.int .i64 4)) g A2 [(gf2, Ct2, 37), (gl, #[.int .i64 2, .int .i64 4], 3), (gb, #[.bool bl], 4), (gd, DL.toArray, 34), (gq, C0, 37), (gk, KC, 22)]) := Lib.hid (H52.out.put HNe.out (by rw [HCt2.out]; have := H52.out.at (List.mem_cons_self); rw [HC0.out] at this; exact RF.putTyp HFo.out this 4) (gb_set (gb_refl _ _) _ _))
  generalize w52.setCell ⟨gf2, 116, none⟩ (.int .i64 4) = w62 at H62 ⊢
  clear hfl hff hfc H52 HNe
  have HQ6 : Hid (w62.heap[gf2]? = some (.cells Ct2 37 (0, 0))) := Lib.hid (H62.out.at (by simp))
  refine wpList_load_row rfl 37 (.tmp 15) rfl gf2 rfl 37 Ct2 (0, 0) _ HQ6.out Try.underlying37 rfl HICt2.out ?_
  go_wp2_with fail
  refine (HAsk.out w62 H62.out.area).mono ?_
  rintro e w72 ⟨rfl, hA9, hg9⟩
  have H72 : Hid (KnS w w72 g (RA.ask A2 { f0 with typ := 4 }) [(gf2, Ct2, 37), (gl, #[.int .i64 2, .int .i64 4], 3), (gb, #[.bool bl], 4), (gd, DL.toArray, 34), (gq, C0, 37), (gk, KC, 22)]) := Lib.hid (H62.out.call hA9 HAk.out hg9)
  clear hA9 hg9 HQ6 H62 HAsk
  go_wp2_with fail
  refine (HAns.out w72 H72.out.area (fun x w' hb => tells_clo d HDk.out.1 bl x gd gb w' (by rw [← HDL.out]; exact HasB.below (H72.out.at (k := gd) (by simp)) hb (HasB.lt (H72.out.at (k := gd) (C := DL.toArray) (T := 34) (by simp)))) (HasB.below (H72.out.at (k := gb) (by simp)) hb (HasB.lt (H72.out.at (k := gb) (C := #[.bool bl]) (T := 4) (by simp)))))).mono ?_
  rintro e w82 ⟨rfl, hb8⟩
  have H82 := Lib.hid (H72.out.below hb8)
  clear hb8 H72 HAns
  go_wp2_with (first | (with_reducible refine wpList_store_row rfl 37 (.tmp 16) (.tmp 49) rfl w82.heap.size CX2 rfl rfl 37 zF (heap_new w82 _) HICX2.out HOCX2.out HECX2.out ?_; rw [World.setRow_alloc_new]; refine Stop.mk ?_))
  refine Stop.go ?_
  have H92 : Hid (KnS w (w82.alloc (.cells CX2 37)) g (RA.ask A2 { f0 with typ := 4 }) [(w82.heap.size, CX2, 37), (gf2, Ct2, 37), (gl, #[.int .i64 2, .int .i64 4], 3), (gb, #[.bool bl], 4), (gd, DL.toArray, 34), (gq, C0, 37), (gk, KC, 22)]) := Lib.hid (H82.out.made CX2 _)
  generalize w82.alloc (.cells CX2 37) = w92 at H92 ⊢
  obtain ⟨gx2, hgx2⟩ : ∃ g, g = w82.heap.size := ⟨_, rfl⟩
  rw [← hgx2] at H92 ⊢
  clear hgx2 H82
  have K1 : Hid (∀ w', Below w92.heap.size w92 w' → w'.cell? ⟨gx2, 116, none⟩ = some (.int .i64 1024) ∧ w'.cell? ⟨gx2, 115, none⟩ = some (.int .i64 4) ∧ w'.cell? ⟨gx2, 112, none⟩ = some (.int .u32 0) ∧ w'.cell? ⟨gx2, 114, none⟩ = some (.int .i64 0) ∧ w'.rangeAt gx2 96 NL ∧ w'.rangeAt gx2 32 (u8s (List.replicate 64 0))) := Lib.hid (fun w' hw => by
    have hx : HasB w' gx2 CX2 37 := HasB.below (H92.out.at List.mem_cons_self) hw (HasB.lt (H92.out.at List.mem_cons_self))
    rw [HCX2.out] at hx
    refine ⟨RF.tail_at HXo.out hx 4 _ rfl, RF.tail_at HXo.out hx 3 _ rfl, RF.tail_at HXo.out hx 0 _ rfl, RF.tail_at HXo.out hx 2 _ rfl, ?_, ?_⟩
    · rw [HNL.out]; have := RF.nonce_at HXo.out hx; exact this
    · have := RF.data_at HXo.out hx; exact this)
  have K3 : Hid (∀ w', Below w92.heap.size w92 w' → w'.heap[gx2]? = some (.cells CX2 37 (0, 0))) := Lib.hid (fun w' hw => HasB.below (H92.out.at List.mem_cons_self) hw (HasB.lt (H92.out.at List.mem_cons_self)))
  have K4 : Hid (∀ w', Below w92.heap.size w92 w' → w'.heap[gk]? = some (.cells KC 22 (0, 0))) := Lib.hid (fun w' hw => HasB.below (H92.out.at (k := gk) (by simp)) hw (HasB.lt (H92.out.at (k := gk) (C := KC) (T := 22) (by simp))))
  have K5 : Hid (∀ w', Below w92.heap.size w92 w' → w'.rangeAt gq 96 NL ∧ w'.cell? ⟨gq, 113, none⟩ = some (.int .i64 f0.addr)) := Lib.hid (fun w' hw => by
    have hx : HasB w' gq C0 37 := HasB.below (H92.out.at (k := gq) (by simp)) hw (HasB.lt (H92.out.at (k := gq) (C := C0) (T := 37) (by simp)))
    rw [HC0.out] at hx
    refine ⟨?_, RF.tail_at HFo.out hx 1 _ rfl⟩
    rw [HNL.out]; exact RF.nonce_at HFo.out hx)
  go_wp2_with fail
  refine wp_region_held_drew (S := (fun w' => Below w92.heap.size w92 w')) (by kernel_rfl) ((Below.refl _ _).drew) (fun hHeld => ?_)
  refine held_take 0 (v := ?_) rfl (by kernel_rfl) (by kernel_rfl) (by kernel_rfl) (fun _ _ _ h => h) (by rfl) (fun w hS => ?_) (by assumption) ?_
  rotate_left
  · try dsimp only at hS
    have l1 := K1.out w hS
    have l5 := K5.out w hS
    go_simp <;> with_reducible rfl
  try simp only [Act.put, List.setIfInBounds_toArray, List.set_cons_zero, List.set_cons_succ]
  refine held_take 1 (v := ?_) rfl (by kernel_rfl) (by kernel_rfl) (by kernel_rfl) (fun _ _ _ h => h) (by rfl) (fun w hS => ?_) (by assumption) ?_
  rotate_left
  · try dsimp only at hS
    have l1 := K1.out w hS
    have l5 := K5.out w hS
    go_simp <;> with_reducible rfl
  try simp only [Act.put, List.setIfInBounds_toArray, List.set_cons_zero, List.set_cons_succ]
  refine held_take 2 (v := ?_) rfl (by kernel_rfl) (by kernel_rfl) (by kernel_rfl) (fun _ _ _ h => h) (by rfl) (fun w hS => ?_) (by assumption) ?_
  rotate_left
  · try dsimp only at hS
    have l1 := K1.out w hS
    have l5 := K5.out w hS
    go_simp <;> with_reducible rfl
  try simp only [Act.put, List.setIfInBounds_toArray, List.set_cons_zero, List.set_cons_succ]
  refine held_take 3 (v := ?_) rfl (by kernel_rfl) (by kernel_rfl) (by kernel_rfl) (fun _ _ _ h => h) (by rfl) (fun w hS => ?_) (by assumption) ?_
  rotate_left
  · try dsimp only at hS
    have l1 := K1.out w hS
    have l5 := K5.out w hS
    go_simp <;> with_reducible rfl
  try simp only [Act.put, List.setIfInBounds_toArray, List.set_cons_zero, List.set_cons_succ]
  refine held_take 4 (v := ?_) rfl (by kernel_rfl) (by kernel_rfl) (by kernel_rfl) (fun _ _ _ h => h) (by rfl) (fun w hS => ?_) (by assumption) ?_
  rotate_left
  · try dsimp only at hS
    have l1 := K1.out w hS
    have l5 := K5.out w hS
    go_simp <;> with_reducible rfl
  try simp only [Act.put, List.setIfInBounds_toArray, List.set_cons_zero, List.set_cons_succ]
  refine held_take 5 (v := ?_) rfl (by kernel_rfl) (by kernel_rfl) (by kernel_rfl) (fun _ _ _ h => h) (by rfl) (fun w hS => ?_) (by assumption) ?_
  rotate_left
  · try dsimp only at hS
    have l1 := K1.out w hS
    have l5 := K5.out w hS
    go_simp <;> with_reducible rfl
  try simp only [Act.put, List.setIfInBounds_toArray, List.set_cons_zero, List.set_cons_succ]
  refine held_take 6 (v := ?_) rfl (by kernel_rfl) (by kernel_rfl) (by kernel_rfl) (fun _ _ _ h => h) (by rfl) (fun w hS => ?_) (by assumption) ?_
  rotate_left
  · try dsimp only at hS
    have l1 := K1.out w hS
    have l5 := K5.out w hS
    go_simp <;> with_reducible rfl
  try simp only [Act.put, List.setIfInBounds_toArray, List.set_cons_zero, List.set_cons_succ]
  refine held_take 7 (v := (.agg NL.toArray)) rfl (by kernel_rfl) (by kernel_rfl) (by kernel_rfl) (fun _ _ _ h => h) (by rfl) (fun w hS => ?_) (by assumption) ?_
  · exact yield_load_mid _ _ 35 (.tmp 56) (by rfl) gx2 96 (by rfl) NL _ (K1.out w hS).2.2.2.2.1 Try.underlying35 (by rfl) HIn16.out
  try simp only [Act.put, List.setIfInBounds_toArray, List.set_cons_zero, List.set_cons_succ]
  refine held_take 8 (v := ?_) rfl (by kernel_rfl) (by kernel_rfl) (by kernel_rfl) (fun _ _ _ h => h) (by rfl) (fun w hS => ?_) (by assumption) ?_
  rotate_left
  · try dsimp only at hS
    have l1 := K1.out w hS
    have l5 := K5.out w hS
    go_simp <;> with_reducible rfl
  try simp only [Act.put, List.setIfInBounds_toArray, List.set_cons_zero, List.set_cons_succ]
  refine held_take 9 (v := (.agg NL.toArray)) rfl (by kernel_rfl) (by kernel_rfl) (by kernel_rfl) (fun _ _ _ h => h) (by rfl) (fun w hS => ?_) (by assumption) ?_
  · exact yield_load_mid _ _ 35 (.tmp 58) (by rfl) gq 96 (by rfl) NL _ (K5.out w hS).1 Try.underlying35 (by rfl) HIn16.out
  try simp only [Act.put, List.setIfInBounds_toArray, List.set_cons_zero, List.set_cons_succ]
  refine held_take 10 (v := ?_) rfl (by kernel_rfl) (by kernel_rfl) (by kernel_rfl) (fun _ _ _ h => h) (by rfl) (fun w hS => ?_) (by assumption) ?_
  rotate_left
  · try dsimp only at hS
    have l1 := K1.out w hS
    have l5 := K5.out w hS
    go_simp <;> with_reducible rfl
  try simp only [Act.put, List.setIfInBounds_toArray, List.set_cons_zero, List.set_cons_succ]
  refine held_take 11 (v := ?_) rfl (by kernel_rfl) (by kernel_rfl) (by kernel_rfl) (fun _ _ _ h => h) (by rfl) (fun w hS => ?_) (by assumption) ?_
  rotate_left
  · try dsimp only at hS
    have l1 := K1.out w hS
    have l5 := K5.out w hS
    go_simp <;> with_reducible rfl
  try simp only [Act.put, List.setIfInBounds_toArray, List.set_cons_zero, List.set_cons_succ]
  refine held_take 12 (v := ?_) rfl (by kernel_rfl) (by kernel_rfl) (by kernel_rfl) (fun _ _ _ h => h) (by rfl) (fun w hS => ?_) (by assumption) ?_
  rotate_left
  · try dsimp only at hS
    have l1 := K1.out w hS
    have l5 := K5.out w hS
    go_simp <;> with_reducible rfl
  try simp only [Act.put, List.setIfInBounds_toArray, List.set_cons_zero, List.set_cons_succ]
  refine held_take 13 (v := (.agg CX2)) rfl (by kernel_rfl) (by kernel_rfl) (by kernel_rfl) (fun _ _ _ h => h) (by rfl) (fun w hS => ?_) (by assumption) ?_
  · exact yield_row _ _ 37 (.tmp 16) (by rfl) gx2 (by rfl) 37 CX2 (0, 0) _ (K3.out w hS) Try.underlying37 (by rfl) HICX2.out
  try simp only [Act.put, List.setIfInBounds_toArray, List.set_cons_zero, List.set_cons_succ]
  refine held_take 14 (v := (.agg KC)) rfl (by kernel_rfl) (by kernel_rfl) (by kernel_rfl) (fun _ _ _ h => h) (by rfl) (fun w hS => ?_) (by assumption) ?_
  · exact yield_row _ _ 22 (.tmp 5) (by rfl) gk (by rfl) 22 KC (0, 0) _ (K4.out w hS) Try.underlying22 (by rfl) HIk.out
  try simp only [Act.put, List.setIfInBounds_toArray, List.set_cons_zero, List.set_cons_succ]
  refine held_take 16 (v := (.agg CX2)) rfl (by kernel_rfl) (by kernel_rfl) (by kernel_rfl) (fun _ _ _ h => h) (by rfl) (fun w hS => ?_) (by assumption) ?_
  · exact yield_row _ _ 37 (.tmp 16) (by rfl) gx2 (by rfl) 37 CX2 (0, 0) _ (K3.out w hS) Try.underlying37 (by rfl) HICX2.out
  try simp only [Act.put, List.setIfInBounds_toArray, List.set_cons_zero, List.set_cons_succ]
  refine held_one 15 rfl (by kernel_rfl) (fun K hK => ?_)
  go_simp
  refine (HSg2.out _).mono ?_
  rintro e we2 ⟨rfl, hbe⟩
  have HBe : Hid (Below w92.heap.size w92 we2) := Lib.hid ((Below.refl _ _).drew.trans hbe)
  clear hbe
  refine hK.out _ _ (fun w' => Below w92.heap.size w92 w') (fun _ h => h) HBe.out (fun hHeld => ?_)
  clear hK K
  try simp only [Act.put, List.setIfInBounds_toArray, List.set_cons_zero, List.set_cons_succ]
  refine held_take 17 (v := ?_) rfl (by kernel_rfl) (by kernel_rfl) (by kernel_rfl) (fun _ _ _ h => h) (by rfl) (fun w hS => ?_) (by assumption) ?_
  rotate_left
  · try dsimp only at hS
    have l1 := K1.out w hS
    have l5 := K5.out w hS
    go_simp <;> with_reducible rfl
  try simp only [Act.put, List.setIfInBounds_toArray, List.set_cons_zero, List.set_cons_succ]
  refine held_take 18 (v := ?_) rfl (by kernel_rfl) (by kernel_rfl) (by kernel_rfl) (fun _ _ _ h => h) (by rfl) (fun w hS => ?_) (by assumption) ?_
  rotate_left
  · try dsimp only at hS
    have l1 := K1.out w hS
    have l5 := K5.out w hS
    go_simp <;> with_reducible rfl
  try simp only [Act.put, List.setIfInBounds_toArray, List.set_cons_zero, List.set_cons_succ]
  refine held_done (by kernel_rfl) ?_
  have HE2 : Hid (KnS w we2 g (RA.ask A2 { f0 with typ := 4 }) [(gl, #[.int .i64 2, .int .i64 4], 3), (gb, #[.bool bl], 4), (gd, DL.toArray, 34), (gq, C0, 37), (gk, KC, 22)]) := Lib.hid ⟨(H92.out.below HBe.out).be, H92.out.lg, (H92.out.below HBe.out).area, H92.out.ok, fun x hx => (H92.out.below HBe.out).box x (List.mem_cons_of_mem _ (List.mem_cons_of_mem _ hx))⟩
  have m1 := (K1.out we2 HBe.out).2.1
  have m2 := (K1.out we2 HBe.out).2.2.1
  have m3 := (K1.out we2 HBe.out).2.2.2.1
  have m4 := (K5.out we2 HBe.out).2
  have m5 : we2.cell? ⟨gb, 0, none⟩ = some (.bool bl) := HasB.at (HE2.out.at (C := #[.bool bl]) (T := 4) (by simp)) 0
  have HM6 := Lib.hid (K1.out we2 HBe.out).2.2.2.2.2
  have HM7 : Hid (we2.heap[gd]? = some (.cells DL.toArray 34 (0, 0))) := Lib.hid (HE2.out.at (by simp))
  have n1 := HCs.out
  clear K1 K3 K4 K5 HSg2
  obtain ⟨ZL, hZL⟩ : ∃ ZL, ZL = u8s (List.replicate 64 0) := ⟨_, rfl⟩
  have hz64 := neq_zero64
  rw [← hZL] at HM6 hz64
  have HIz64 : Hid ((Try.prog.info? 34).map (·.size) = some ZL.length) := Lib.hid (by rw [hZL]; exact info_d64)
  clear hZL
  go_wp2_with (with_reducible refine stop_dst 122 rfl ?_)
  refine Stop.go ?_
  refine wpList_wanted (by rfl) (fun K hK => ?_)
  refine wp_load_mid 34 (.tmp 121) rfl gx2 32 rfl ZL _ HM6.out Try.underlying34 rfl HIz64.out ?_
  refine hK _ _ ?_
  clear hK K
  go_wp2_with fail
  have HAs := Lib.hid HAs2.out.1
  have HPl := Lib.hid HAs2.out.2
  clear HBe H92 m1 m2 m3 m4 m5 n1 hen hed heq hez HAs2 HXo HM6 HM7 hz64
  rw [rounds_succ]
  go_wp2_with fail
  rw [HPOST.out]
  exact ⟨rfl, HE2.out.be⟩

set_option maxRecDepth 100000 in
set_option maxHeartbeats 8000000 in
theorem tells_c2 (key : List Nat) (hk : key.length = 32 ∧ ∀ c ∈ key, c < 256) (c : Nat) (hc : c < 4294967296) (f0 : RF) (hf : f0.Ok) (d : List Nat) (hd : d.length = 64 ∧ ∀ c ∈ d, c < 256) (w : World) (bl : Bool) (hcs : (0 : Int) ≤ f0.addr ∧ ¬ f0.addr < 16) :
    Calls Try.prog 6 #[.agg (u8s key).toArray, .int .u32 (c : Int), f0.val, .agg (u8s d).toArray, .bool bl] w fun e w' => e = .returned (.bool true) ∧ Below w.heap.size w w' := by
  obtain ⟨POST, hPOST⟩ : ∃ Q : Ending → World → Prop, Q = fun e w' => e = .returned (.bool true) ∧ Below w.heap.size w w' := ⟨_, rfl⟩
  rw [← hPOST]
  have HPOST := Lib.hid hPOST
  have HKy := Lib.hid hk
  have HFo := Lib.hid hf
  have HDk := Lib.hid hd
  have HCt := Lib.hid hc
  have HCs := Lib.hid hcs
  have HIn : Hid (¬((0 ≤ f0.addr ∧ f0.addr < 16) ∧ (!bl) = true)) := Lib.hid (fun q => hcs.2 q.1.2)
  have hso : (⟨key, true, c⟩ : RS).Ok := ⟨hk.1, hk.2, hc⟩
  have HSo := Lib.hid hso
  obtain ⟨KC, hKC⟩ : ∃ KC, KC = (u8s key).toArray := ⟨_, rfl⟩
  have HIk : Hid ((Try.prog.info? 22).map (·.size) = some KC.size) := Lib.hid (by rw [hKC, List.size_toArray, u8s_len, hk.1]; exact info_k32)
  obtain ⟨NL, hNL⟩ : ∃ NL, NL = u8s f0.nonce := ⟨_, rfl⟩
  have HNL := Lib.hid hNL
  have HIn16 : Hid ((Try.prog.info? 35).map (·.size) = some NL.length) := Lib.hid (by rw [hNL, u8s_len, hf.nl]; exact info_n16)
  obtain ⟨DL, hDL⟩ : ∃ DL, DL = u8s d := ⟨_, rfl⟩
  have HDL := Lib.hid hDL
  have HId64 : Hid ((Try.prog.info? 34).map (·.size) = some DL.length) := Lib.hid (by rw [hDL, u8s_len, hd.1]; exact info_d64)
  have HId64a : Hid ((Try.prog.info? 34).map (·.size) = some DL.toArray.size) := Lib.hid (by rw [hDL, List.size_toArray, u8s_len, hd.1]; exact info_d64)
  obtain ⟨C0, hC0⟩ : ∃ N, N = (f0 : RF).cells.toArray := ⟨_, rfl⟩
  have HIC0 : Hid ((Try.prog.info? 37).map (·.size) = some C0.size) := Lib.hid (by rw [hC0]; exact info_f hf)
  have HOC0 : Hid (zF.size = C0.size) := Lib.hid (by rw [hC0]; exact old_f hf)
  have HEC0 : Hid (C0.all (·.oneCell') = true) := Lib.hid (by rw [hC0]; exact RF.one _)
  have HC0 := Lib.hid hC0
  obtain ⟨SC, hSC⟩ : ∃ N, N = (⟨key, true, c⟩ : RS).cells.toArray := ⟨_, rfl⟩
  have HISC : Hid ((Try.prog.info? 31).map (·.size) = some SC.size) := Lib.hid (by rw [hSC, List.size_toArray, RS.len hso]; exact info_st)
  have HOSC : Hid ((#[Value.int .u8 0, Value.int .u8 0, Value.int .u8 0, Value.int .u8 0, Value.int .u8 0, Value.int .u8 0, Value.int .u8 0, Value.int .u8 0, Value.int .u8 0, Value.int .u8 0, Value.int .u8 0, Value.int .u8 0, Value.int .u8 0, Value.int .u8 0, Value.int .u8 0, Value.int .u8 0, Value.int .u8 0, Value.int .u8 0, Value.int .u8 0, Value.int .u8 0, Value.int .u8 0, Value.int .u8 0, Value.int .u8 0, Value.int .u8 0, Value.int .u8 0, Value.int .u8 0, Value.int .u8 0, Value.int .u8 0, Value.int .u8 0, Value.int .u8 0, Value.int .u8 0, Value.int .u8 0, .bool false, .int .u32 0] : Array Value).size = SC.size) := Lib.hid (by rw [show SC.size = 34 by rw [hSC, List.size_toArray, RS.len hso]]; rfl)
  have HESC : Hid (SC.all (·.oneCell') = true) := Lib.hid (by rw [hSC]; exact RS.one _)
  have HSC := Lib.hid hSC
  have hbs := built_sa ⟨key, true, c⟩ hso
  have hnew := fun w => new_has 16 ⟨key, true, c⟩ w (by decide) hso rfl
  unfold RS.val at hnew
  rw [← hSC] at hbs hnew
  have hbs : Try.prog.built 31 [(0, .agg KC), (1, .bool true), (2, .int .u32 (c : Int))] = some SC := by rw [hKC]; exact hbs
  have HBs := Lib.hid hbs
  have HNew := Lib.hid hnew
  have hez := eqStep RP.zero RP.zero RP.zero_ok RP.zero_ok
  simp only [decide_true] at hez
  have HEz := Lib.hid hez
  have HKC := Lib.hid hKC
  unfold RF.val
  rw [← hKC, ← hC0, ← hDL]
  have HW1 : Hid (Below w.heap.size w ((((w.alloc (.cells KC 22)).alloc (.cells C0 37)).alloc (.cells DL.toArray 34)).alloc (.cells #[.bool bl] 4)) ∧ HasB ((((w.alloc (.cells KC 22)).alloc (.cells C0 37)).alloc (.cells DL.toArray 34)).alloc (.cells #[.bool bl] 4)) w.heap.size KC 22 ∧ HasB ((((w.alloc (.cells KC 22)).alloc (.cells C0 37)).alloc (.cells DL.toArray 34)).alloc (.cells #[.bool bl] 4)) (w.heap.size + 1) C0 37 ∧ HasB ((((w.alloc (.cells KC 22)).alloc (.cells C0 37)).alloc (.cells DL.toArray 34)).alloc (.cells #[.bool bl] 4)) (w.heap.size + 1 + 1) DL.toArray 34 ∧ HasB ((((w.alloc (.cells KC 22)).alloc (.cells C0 37)).alloc (.cells DL.toArray 34)).alloc (.cells #[.bool bl] 4)) (w.heap.size + 1 + 1 + 1) #[.bool bl] 4) := Lib.hid ⟨((((Below.refl _ _).alloc (Nat.le_refl _) _).alloc (by simp) _).alloc (by simp; omega) _).alloc (by simp; omega) _, (((HasB.new w _ _).alloc _).alloc _).alloc _, ((HasB.new' (by simp) _ _).alloc _).alloc _, (HasB.new' (by simp) _ _).alloc _, HasB.new' (by simp) _ _⟩
  clear hPOST hk hf hd hc hcs hso hKC hNL hDL hC0 hSC hbs hnew hez
  go_enter Try.func6, Try.ntmps6
  go_wp2_with fail
  generalize ((((w.alloc (.cells KC 22)).alloc (.cells C0 37)).alloc (.cells DL.toArray 34)).alloc (.cells #[.bool bl] 4)) = w1 at HW1 ⊢
  obtain ⟨gk, hgk⟩ : ∃ gk, gk = w.heap.size := ⟨_, rfl⟩
  obtain ⟨gq, hgq⟩ : ∃ gq, gq = w.heap.size + 1 := ⟨_, rfl⟩
  obtain ⟨gd, hgd⟩ : ∃ gd, gd = w.heap.size + 1 + 1 := ⟨_, rfl⟩
  obtain ⟨gb, hgb⟩ : ∃ gb, gb = w.heap.size + 1 + 1 + 1 := ⟨_, rfl⟩
  have HGs : Hid (w.heap.size ≤ gk ∧ w.heap.size ≤ gq ∧ w.heap.size ≤ gd ∧ w.heap.size ≤ gb) := Lib.hid (by omega)
  have HBw : Hid (Below w.heap.size w w1) := Lib.hid HW1.out.1
  have HBx : Hid (HasB w1 gk KC 22 ∧ HasB w1 gq C0 37 ∧ HasB w1 gd DL.toArray 34 ∧ HasB w1 gb #[.bool bl] 4) := Lib.hid (by rw [hgb, hgd, hgq, hgk]; exact HW1.out.2)
  rw [← hgb, ← hgd, ← hgq, ← hgk]
  clear hgk hgq hgd hgb HW1
  refine (known_any w1).mono ?_
  rintro e w2 ⟨rfl, hb⟩
  have HBy : Hid (HasB w2 gk KC 22 ∧ HasB w2 gq C0 37 ∧ HasB w2 gd DL.toArray 34 ∧ HasB w2 gb #[.bool bl] 4) := Lib.hid ⟨HBx.out.1.below hb HBx.out.1.lt, HBx.out.2.1.below hb HBx.out.2.1.lt, HBx.out.2.2.1.below hb HBx.out.2.2.1.lt, HBx.out.2.2.2.below hb HBx.out.2.2.2.lt⟩
  have HBv : Hid (Below w.heap.size w w2) := Lib.hid (HBw.out.trans (hb.mono HBw.out.size))
  have HQk : Hid (w2.heap[gk]? = some (.cells KC 22 (0, 0))) := Lib.hid HBy.out.1
  clear hb HBw HBx
  go_wp2_with (first | (with_reducible refine stop_build 31 _ rfl ?_) | (with_reducible refine wpList_load_row rfl 22 (.tmp 5) rfl gk rfl 22 KC (0, 0) _ HQk.out Try.underlying22 rfl HIk.out ?_))
  refine Stop.go ?_
  refine wpList_buildTo rfl 31 _ rfl _ rfl SC ?_ ?_
  · rw [List.map_toArray]; exact HBs.out
  go_wp2_with fail
  refine (HNew.out w2).mono ?_
  rintro e w3 ⟨g, rfl, hge, hA, hb⟩
  have H3 : Hid (KnS w w3 g (RA.new 16 ⟨key, true, c⟩) [(gb, #[.bool bl], 4), (gd, DL.toArray, 34), (gq, C0, 37), (gk, KC, 22)]) := Lib.hid ⟨HBv.out.trans (hb.mono HBv.out.size), Nat.le_trans HBv.out.size hge, hA, RA.new_ok (by decide) HSo.out, fun b hb2 => by
    have l1 := HBy.out.1.lt
    have l2 := HBy.out.2.1.lt
    have l3 := HBy.out.2.2.1.lt
    have l4 := HBy.out.2.2.2.lt
    have hgs := HGs.out
    simp only [List.mem_cons, List.not_mem_nil, or_false] at hb2
    rcases hb2 with rfl | rfl | rfl | rfl
    · exact ⟨HBy.out.2.2.2.below hb l4, by show gb ≠ g; omega, hgs.2.2.2⟩
    · exact ⟨HBy.out.2.2.1.below hb l3, by show gd ≠ g; omega, hgs.2.2.1⟩
    · exact ⟨HBy.out.2.1.below hb l2, by show gq ≠ g; omega, hgs.2.1⟩
    · exact ⟨HBy.out.1.below hb l1, by show gk ≠ g; omega, hgs.1⟩⟩
  clear hb hA hge HQk HBy HBv
  go_wp2_with fail
  have H4 : Hid (KnS w (w3.alloc (.cells #[.int .i64 2, .int .i64 4] 3)) g (RA.new 16 ⟨key, true, c⟩) [(w3.heap.size, #[.int .i64 2, .int .i64 4], 3), (gb, #[.bool bl], 4), (gd, DL.toArray, 34), (gq, C0, 37), (gk, KC, 22)]) := Lib.hid (H3.out.made _ _)
  generalize w3.alloc (.cells #[.int .i64 2, .int .i64 4] 3) = w4 at H4 ⊢
  obtain ⟨gl, hgl⟩ : ∃ gl, gl = w3.heap.size := ⟨_, rfl⟩
  rw [← hgl] at H4 ⊢
  clear hgl H3
  have HAs : Hid ((RA.new 16 ⟨key, true, c⟩).s = ⟨key, true, c⟩) := Lib.hid rfl
  have HPl : Hid ((RA.new 16 ⟨key, true, c⟩).places = 16) := Lib.hid rfl
  obtain ⟨A, hAe⟩ : ∃ A, A = RA.new 16 ⟨key, true, c⟩ := ⟨_, rfl⟩
  rw [← hAe] at H4 HAs HPl
  clear hAe
  refine wp_loop_rounds 3 ?_
  have hft : ({ f0 with typ := 2 } : RF).Ok := RF.with_typ HFo.out (i64k (by decide))
  have hxr : ({ RF.zero with typ := 512, nonce := f0.nonce, ctr := c } : RF).Ok := RF.with_ctr (RF.with_nonce (RF.with_typ RF.zero_ok (x := 512) (i64k (by decide))) ⟨HFo.out.nl, HFo.out.nb⟩) HCt.out
  have hxs := RF.sign_ok hxr key
  have hask := fun w h => ask_any A { f0 with typ := 2 } g w h H4.out.ok hft
  have hAk : (RA.ask A { f0 with typ := 2 }).Ok := RA.ask_ok H4.out.ok hft
  have hst := tells_ask (A := A) (f := { f0 with typ := 2 }) (t := 2) (by decide) rfl
  have hans := fun w h hcl => answer_any (RA.ask A { f0 with typ := 2 }) d (!bl) 23 #[.pointer (some ⟨gd, 0, none⟩), .pointer (some ⟨gb, 0, none⟩)] g w h hAk HDk.out (fun args w => Try.call23 args w) hcl
  have hsg2 := rsign_any (RF.sign { RF.zero with typ := 512, nonce := f0.nonce, ctr := c } key) key
  have heq := eqFrame _ _ hxs hxs
  have hen := fun w => equalIn_u8s 9998 35 16 Try.underlying35 HFo.out.nb HFo.out.nb HFo.out.nl HFo.out.nl w
  have hed := fun w => equalIn_u8s 9998 34 64 Try.underlying34 HDk.out.2 HDk.out.2 HDk.out.1 HDk.out.1 w
  rw [RF.sign_sign _ hxr.tl] at hsg2
  rw [hst.1] at hask
  rw [show (RA.ask A { f0 with typ := 2 }).answer d (!bl) = RF.sign { RF.zero with typ := 512, nonce := f0.nonce, ctr := c } key from tells_count HAs.out d (!bl)] at hans
  simp only [decide_true] at heq hen hed
  unfold RF.val RP.val at hask
  unfold RF.val at hans hsg2
  rw [show RP.zero.cells.toArray = zP from rfl] at hask
  obtain ⟨Ct1, hCt1⟩ : ∃ N, N = ({ f0 with typ := 2 } : RF).cells.toArray := ⟨_, rfl⟩
  have HICt1 : Hid ((Try.prog.info? 37).map (·.size) = some Ct1.size) := Lib.hid (by rw [hCt1]; exact info_f hft)
  have HOCt1 : Hid (zF.size = Ct1.size) := Lib.hid (by rw [hCt1]; exact old_f hft)
  have HECt1 : Hid (Ct1.all (·.oneCell') = true) := Lib.hid (by rw [hCt1]; exact RF.one _)
  have HCt1 := Lib.hid hCt1
  obtain ⟨CX1, hCX1⟩ : ∃ N, N = (RF.sign { RF.zero with typ := 512, nonce := f0.nonce, ctr := c } key : RF).cells.toArray := ⟨_, rfl⟩
  have HICX1 : Hid ((Try.prog.info? 37).map (·.size) = some CX1.size) := Lib.hid (by rw [hCX1]; exact info_f hxs)
  have HOCX1 : Hid (zF.size = CX1.size) := Lib.hid (by rw [hCX1]; exact old_f hxs)
  have HECX1 : Hid (CX1.all (·.oneCell') = true) := Lib.hid (by rw [hCX1]; exact RF.one _)
  have HCX1 := Lib.hid hCX1
  rw [← hCt1] at hask
  rw [← hCX1] at hans hsg2 heq
  rw [← HKC.out] at hsg2
  rw [← HNL.out] at hen
  rw [← HDL.out] at hed
  have hez : ∀ w, (Op.equalIn 10000 43 (.agg zP) (.agg zP)).run Try.prog w = .ok true w := HEz.out
  have HAk := Lib.hid hAk
  have HAsk := Lib.hid hask
  have HAns := Lib.hid hans
  have HSg2 := Lib.hid (fun w => hsg2 w hxs HKy.out.1 HKy.out.2)
  have HXo := Lib.hid hxs
  have HAs2 : Hid ((RA.ask A { f0 with typ := 2 }).s = ⟨key, true, c⟩ ∧ (RA.ask A { f0 with typ := 2 }).places = 16) := Lib.hid ⟨HAs.out, HPl.out⟩
  clear hft hxr hxs hask hAk hst hans hsg2 hCt1 hCX1
  have hl0 : w4.cell? ⟨gl, 0, none⟩ = some (.int .i64 2) := HasB.at (H4.out.at (C := #[.int .i64 2, .int .i64 4]) (T := 3) (by simp)) 0
  have hl1 : w4.cell? ⟨gl, 1, none⟩ = some (.int .i64 4) := HasB.at (H4.out.at (C := #[.int .i64 2, .int .i64 4]) (T := 3) (by simp)) 1
  have hllt := HasB.lt (H4.out.at (k := gl) (C := #[.int .i64 2, .int .i64 4]) (T := 3) (by simp))
  have HQq : Hid (w4.heap[gq]? = some (.cells C0 37 (0, 0))) := Lib.hid (H4.out.at (by simp))
  rw [rounds_succ]
  have HGf0 : Hid (∀ b ∈ [(gl, #[.int .i64 2, .int .i64 4], 3), (gb, #[.bool bl], 4), (gd, DL.toArray, 34), (gq, C0, 37), (gk, KC, 22)], b.1 < w4.heap.size) := Lib.hid (fun b hb => (H4.out.box b hb).1.lt)
  go_wp2_with (first | (with_reducible refine wpList_load_row rfl 37 (.tmp 7) rfl gq rfl 37 C0 (0, 0) _ HQq.out Try.underlying37 rfl HIC0.out ?_) | (with_reducible refine wpList_store_row rfl 37 (.tmp 15) (.tmp 39) rfl w4.heap.size C0 rfl rfl 37 zF (heap_new w4 _) HIC0.out HOC0.out HEC0.out ?_; rw [World.setRow_alloc_new]; refine Stop.mk ?_))
  refine Stop.go ?_
  have H51 : Hid (KnS w (w4.alloc (.cells C0 37)) g A [(w4.heap.size, C0, 37), (gl, #[.int .i64 2, .int .i64 4], 3), (gb, #[.bool bl], 4), (gd, DL.toArray, 34), (gq, C0, 37), (gk, KC, 22)]) := Lib.hid (H4.out.made C0 _)
  generalize w4.alloc (.cells C0 37) = w51 at H51 ⊢
  obtain ⟨gf1, hgf1⟩ : ∃ g, g = w4.heap.size := ⟨_, rfl⟩
  rw [← hgf1] at H51 ⊢
  have HNe : Hid (∀ b ∈ [(gl, #[.int .i64 2, .int .i64 4], 3), (gb, #[.bool bl], 4), (gd, DL.toArray, 34), (gq, C0, 37), (gk, KC, 22)], b.1 ≠ gf1) := Lib.hid (fun b hb => by have := HGf0.out b hb; omega)
  clear hgf1 H4
  clear HGf0 HQq hl0 hl1 hllt
  have hfl := HasB.lt (H51.out.at (List.mem_cons_self))
  have hff : w51.frozen? ⟨gf1, 116, none⟩ = false := HasB.free (H51.out.at (List.mem_cons_self)) 116
  have hfc : w51.cell? ⟨gf1, 116, none⟩ = some (.int .i64 f0.typ) := RF.tail_at HFo.out (by rw [← HC0.out]; exact H51.out.at (List.mem_cons_self)) 4 _ rfl
  go_wp2_with (with_reducible refine stop_dst 43 rfl ?_)
  refine Stop.go ?_
  have H61 : Hid (KnS w (w51.setCell ⟨gf1, 116, none⟩ (.int .i64 2)) g A [(gf1, Ct1, 37), (gl, #[.int .i64 2, .int .i64 4], 3), (gb, #[.bool bl], 4), (gd, DL.toArray, 34), (gq, C0, 37), (gk, KC, 22)]) := Lib.hid (H51.out.put HNe.out (by rw [HCt1.out]; have := H51.out.at (List.mem_cons_self); rw [HC0.out] at this; exact RF.putTyp HFo.out this 2) (gb_set (gb_refl _ _) _ _))
  generalize w51.setCell ⟨gf1, 116, none⟩ (.int .i64 2) = w61 at H61 ⊢
  clear hfl hff hfc H51 HNe
  have HQ6 : Hid (w61.heap[gf1]? = some (.cells Ct1 37 (0, 0))) := Lib.hid (H61.out.at (by simp))
  refine wpList_load_row rfl 37 (.tmp 15) rfl gf1 rfl 37 Ct1 (0, 0) _ HQ6.out Try.underlying37 rfl HICt1.out ?_
  go_wp2_with fail
  refine (HAsk.out w61 H61.out.area).mono ?_
  rintro e w71 ⟨rfl, hA9, hg9⟩
  have H71 : Hid (KnS w w71 g (RA.ask A { f0 with typ := 2 }) [(gf1, Ct1, 37), (gl, #[.int .i64 2, .int .i64 4], 3), (gb, #[.bool bl], 4), (gd, DL.toArray, 34), (gq, C0, 37), (gk, KC, 22)]) := Lib.hid (H61.out.call hA9 HAk.out hg9)
  clear hA9 hg9 HQ6 H61 HAsk
  go_wp2_with fail
  refine (HAns.out w71 H71.out.area (fun x w' hb => tells_clo d HDk.out.1 bl x gd gb w' (by rw [← HDL.out]; exact HasB.below (H71.out.at (k := gd) (by simp)) hb (HasB.lt (H71.out.at (k := gd) (C := DL.toArray) (T := 34) (by simp)))) (HasB.below (H71.out.at (k := gb) (by simp)) hb (HasB.lt (H71.out.at (k := gb) (C := #[.bool bl]) (T := 4) (by simp)))))).mono ?_
  rintro e w81 ⟨rfl, hb8⟩
  have H81 := Lib.hid (H71.out.below hb8)
  clear hb8 H71 HAns
  go_wp2_with (first | (with_reducible refine wpList_store_row rfl 37 (.tmp 16) (.tmp 49) rfl w81.heap.size CX1 rfl rfl 37 zF (heap_new w81 _) HICX1.out HOCX1.out HECX1.out ?_; rw [World.setRow_alloc_new]; refine Stop.mk ?_))
  refine Stop.go ?_
  have H91 : Hid (KnS w (w81.alloc (.cells CX1 37)) g (RA.ask A { f0 with typ := 2 }) [(w81.heap.size, CX1, 37), (gf1, Ct1, 37), (gl, #[.int .i64 2, .int .i64 4], 3), (gb, #[.bool bl], 4), (gd, DL.toArray, 34), (gq, C0, 37), (gk, KC, 22)]) := Lib.hid (H81.out.made CX1 _)
  generalize w81.alloc (.cells CX1 37) = w91 at H91 ⊢
  obtain ⟨gx1, hgx1⟩ : ∃ g, g = w81.heap.size := ⟨_, rfl⟩
  rw [← hgx1] at H91 ⊢
  clear hgx1 H81
  have K1 : Hid (∀ w', Below w91.heap.size w91 w' → w'.cell? ⟨gx1, 116, none⟩ = some (.int .i64 512) ∧ w'.cell? ⟨gx1, 115, none⟩ = some (.int .i64 0) ∧ w'.cell? ⟨gx1, 112, none⟩ = some (.int .u32 (c : Int)) ∧ w'.cell? ⟨gx1, 114, none⟩ = some (.int .i64 0) ∧ w'.rangeAt gx1 96 NL ∧ w'.rangeAt gx1 32 (u8s (List.replicate 64 0))) := Lib.hid (fun w' hw => by
    have hx : HasB w' gx1 CX1 37 := HasB.below (H91.out.at List.mem_cons_self) hw (HasB.lt (H91.out.at List.mem_cons_self))
    rw [HCX1.out] at hx
    refine ⟨RF.tail_at HXo.out hx 4 _ rfl, RF.tail_at HXo.out hx 3 _ rfl, RF.tail_at HXo.out hx 0 _ rfl, RF.tail_at HXo.out hx 2 _ rfl, ?_, ?_⟩
    · rw [HNL.out]; have := RF.nonce_at HXo.out hx; exact this
    · have := RF.data_at HXo.out hx; exact this)
  have K3 : Hid (∀ w', Below w91.heap.size w91 w' → w'.heap[gx1]? = some (.cells CX1 37 (0, 0))) := Lib.hid (fun w' hw => HasB.below (H91.out.at List.mem_cons_self) hw (HasB.lt (H91.out.at List.mem_cons_self)))
  have K4 : Hid (∀ w', Below w91.heap.size w91 w' → w'.heap[gk]? = some (.cells KC 22 (0, 0))) := Lib.hid (fun w' hw => HasB.below (H91.out.at (k := gk) (by simp)) hw (HasB.lt (H91.out.at (k := gk) (C := KC) (T := 22) (by simp))))
  have K5 : Hid (∀ w', Below w91.heap.size w91 w' → w'.rangeAt gq 96 NL ∧ w'.cell? ⟨gq, 113, none⟩ = some (.int .i64 f0.addr)) := Lib.hid (fun w' hw => by
    have hx : HasB w' gq C0 37 := HasB.below (H91.out.at (k := gq) (by simp)) hw (HasB.lt (H91.out.at (k := gq) (C := C0) (T := 37) (by simp)))
    rw [HC0.out] at hx
    refine ⟨?_, RF.tail_at HFo.out hx 1 _ rfl⟩
    rw [HNL.out]; exact RF.nonce_at HFo.out hx)
  go_wp2_with fail
  refine wp_region_held_drew (S := (fun w' => Below w91.heap.size w91 w')) (by kernel_rfl) ((Below.refl _ _).drew) (fun hHeld => ?_)
  refine held_take 0 (v := ?_) rfl (by kernel_rfl) (by kernel_rfl) (by kernel_rfl) (fun _ _ _ h => h) (by rfl) (fun w hS => ?_) (by assumption) ?_
  rotate_left
  · try dsimp only at hS
    have l1 := K1.out w hS
    have l5 := K5.out w hS
    go_simp <;> with_reducible rfl
  try simp only [Act.put, List.setIfInBounds_toArray, List.set_cons_zero, List.set_cons_succ]
  refine held_take 1 (v := ?_) rfl (by kernel_rfl) (by kernel_rfl) (by kernel_rfl) (fun _ _ _ h => h) (by rfl) (fun w hS => ?_) (by assumption) ?_
  rotate_left
  · try dsimp only at hS
    have l1 := K1.out w hS
    have l5 := K5.out w hS
    go_simp <;> with_reducible rfl
  try simp only [Act.put, List.setIfInBounds_toArray, List.set_cons_zero, List.set_cons_succ]
  refine held_take 2 (v := ?_) rfl (by kernel_rfl) (by kernel_rfl) (by kernel_rfl) (fun _ _ _ h => h) (by rfl) (fun w hS => ?_) (by assumption) ?_
  rotate_left
  · try dsimp only at hS
    have l1 := K1.out w hS
    have l5 := K5.out w hS
    go_simp <;> with_reducible rfl
  try simp only [Act.put, List.setIfInBounds_toArray, List.set_cons_zero, List.set_cons_succ]
  refine held_take 3 (v := ?_) rfl (by kernel_rfl) (by kernel_rfl) (by kernel_rfl) (fun _ _ _ h => h) (by rfl) (fun w hS => ?_) (by assumption) ?_
  rotate_left
  · try dsimp only at hS
    have l1 := K1.out w hS
    have l5 := K5.out w hS
    go_simp <;> with_reducible rfl
  try simp only [Act.put, List.setIfInBounds_toArray, List.set_cons_zero, List.set_cons_succ]
  refine held_take 4 (v := ?_) rfl (by kernel_rfl) (by kernel_rfl) (by kernel_rfl) (fun _ _ _ h => h) (by rfl) (fun w hS => ?_) (by assumption) ?_
  rotate_left
  · try dsimp only at hS
    have l1 := K1.out w hS
    have l5 := K5.out w hS
    go_simp <;> with_reducible rfl
  try simp only [Act.put, List.setIfInBounds_toArray, List.set_cons_zero, List.set_cons_succ]
  refine held_take 5 (v := ?_) rfl (by kernel_rfl) (by kernel_rfl) (by kernel_rfl) (fun _ _ _ h => h) (by rfl) (fun w hS => ?_) (by assumption) ?_
  rotate_left
  · try dsimp only at hS
    have l1 := K1.out w hS
    have l5 := K5.out w hS
    go_simp <;> with_reducible rfl
  try simp only [Act.put, List.setIfInBounds_toArray, List.set_cons_zero, List.set_cons_succ]
  refine held_take 6 (v := ?_) rfl (by kernel_rfl) (by kernel_rfl) (by kernel_rfl) (fun _ _ _ h => h) (by rfl) (fun w hS => ?_) (by assumption) ?_
  rotate_left
  · try dsimp only at hS
    have l1 := K1.out w hS
    have l5 := K5.out w hS
    go_simp <;> with_reducible rfl
  try simp only [Act.put, List.setIfInBounds_toArray, List.set_cons_zero, List.set_cons_succ]
  refine held_take 7 (v := (.agg NL.toArray)) rfl (by kernel_rfl) (by kernel_rfl) (by kernel_rfl) (fun _ _ _ h => h) (by rfl) (fun w hS => ?_) (by assumption) ?_
  · exact yield_load_mid _ _ 35 (.tmp 56) (by rfl) gx1 96 (by rfl) NL _ (K1.out w hS).2.2.2.2.1 Try.underlying35 (by rfl) HIn16.out
  try simp only [Act.put, List.setIfInBounds_toArray, List.set_cons_zero, List.set_cons_succ]
  refine held_take 8 (v := ?_) rfl (by kernel_rfl) (by kernel_rfl) (by kernel_rfl) (fun _ _ _ h => h) (by rfl) (fun w hS => ?_) (by assumption) ?_
  rotate_left
  · try dsimp only at hS
    have l1 := K1.out w hS
    have l5 := K5.out w hS
    go_simp <;> with_reducible rfl
  try simp only [Act.put, List.setIfInBounds_toArray, List.set_cons_zero, List.set_cons_succ]
  refine held_take 9 (v := (.agg NL.toArray)) rfl (by kernel_rfl) (by kernel_rfl) (by kernel_rfl) (fun _ _ _ h => h) (by rfl) (fun w hS => ?_) (by assumption) ?_
  · exact yield_load_mid _ _ 35 (.tmp 58) (by rfl) gq 96 (by rfl) NL _ (K5.out w hS).1 Try.underlying35 (by rfl) HIn16.out
  try simp only [Act.put, List.setIfInBounds_toArray, List.set_cons_zero, List.set_cons_succ]
  refine held_take 10 (v := ?_) rfl (by kernel_rfl) (by kernel_rfl) (by kernel_rfl) (fun _ _ _ h => h) (by rfl) (fun w hS => ?_) (by assumption) ?_
  rotate_left
  · try dsimp only at hS
    have l1 := K1.out w hS
    have l5 := K5.out w hS
    go_simp <;> with_reducible rfl
  try simp only [Act.put, List.setIfInBounds_toArray, List.set_cons_zero, List.set_cons_succ]
  refine held_take 11 (v := ?_) rfl (by kernel_rfl) (by kernel_rfl) (by kernel_rfl) (fun _ _ _ h => h) (by rfl) (fun w hS => ?_) (by assumption) ?_
  rotate_left
  · try dsimp only at hS
    have l1 := K1.out w hS
    have l5 := K5.out w hS
    go_simp <;> with_reducible rfl
  try simp only [Act.put, List.setIfInBounds_toArray, List.set_cons_zero, List.set_cons_succ]
  refine held_take 12 (v := ?_) rfl (by kernel_rfl) (by kernel_rfl) (by kernel_rfl) (fun _ _ _ h => h) (by rfl) (fun w hS => ?_) (by assumption) ?_
  rotate_left
  · try dsimp only at hS
    have l1 := K1.out w hS
    have l5 := K5.out w hS
    go_simp <;> with_reducible rfl
  try simp only [Act.put, List.setIfInBounds_toArray, List.set_cons_zero, List.set_cons_succ]
  refine held_take 13 (v := (.agg CX1)) rfl (by kernel_rfl) (by kernel_rfl) (by kernel_rfl) (fun _ _ _ h => h) (by rfl) (fun w hS => ?_) (by assumption) ?_
  · exact yield_row _ _ 37 (.tmp 16) (by rfl) gx1 (by rfl) 37 CX1 (0, 0) _ (K3.out w hS) Try.underlying37 (by rfl) HICX1.out
  try simp only [Act.put, List.setIfInBounds_toArray, List.set_cons_zero, List.set_cons_succ]
  refine held_take 14 (v := (.agg KC)) rfl (by kernel_rfl) (by kernel_rfl) (by kernel_rfl) (fun _ _ _ h => h) (by rfl) (fun w hS => ?_) (by assumption) ?_
  · exact yield_row _ _ 22 (.tmp 5) (by rfl) gk (by rfl) 22 KC (0, 0) _ (K4.out w hS) Try.underlying22 (by rfl) HIk.out
  try simp only [Act.put, List.setIfInBounds_toArray, List.set_cons_zero, List.set_cons_succ]
  refine held_take 16 (v := (.agg CX1)) rfl (by kernel_rfl) (by kernel_rfl) (by kernel_rfl) (fun _ _ _ h => h) (by rfl) (fun w hS => ?_) (by assumption) ?_
  · exact yield_row _ _ 37 (.tmp 16) (by rfl) gx1 (by rfl) 37 CX1 (0, 0) _ (K3.out w hS) Try.underlying37 (by rfl) HICX1.out
  try simp only [Act.put, List.setIfInBounds_toArray, List.set_cons_zero, List.set_cons_succ]
  refine held_one 15 rfl (by kernel_rfl) (fun K hK => ?_)
  go_simp
  refine (HSg2.out _).mono ?_
  rintro e we1 ⟨rfl, hbe⟩
  have HBe : Hid (Below w91.heap.size w91 we1) := Lib.hid ((Below.refl _ _).drew.trans hbe)
  clear hbe
  refine hK.out _ _ (fun w' => Below w91.heap.size w91 w') (fun _ h => h) HBe.out (fun hHeld => ?_)
  clear hK K
  try simp only [Act.put, List.setIfInBounds_toArray, List.set_cons_zero, List.set_cons_succ]
  refine held_take 17 (v := ?_) rfl (by kernel_rfl) (by kernel_rfl) (by kernel_rfl) (fun _ _ _ h => h) (by rfl) (fun w hS => ?_) (by assumption) ?_
  rotate_left
  · try dsimp only at hS
    have l1 := K1.out w hS
    have l5 := K5.out w hS
    go_simp <;> with_reducible rfl
  try simp only [Act.put, List.setIfInBounds_toArray, List.set_cons_zero, List.set_cons_succ]
  refine held_take 18 (v := ?_) rfl (by kernel_rfl) (by kernel_rfl) (by kernel_rfl) (fun _ _ _ h => h) (by rfl) (fun w hS => ?_) (by assumption) ?_
  rotate_left
  · try dsimp only at hS
    have l1 := K1.out w hS
    have l5 := K5.out w hS
    go_simp <;> with_reducible rfl
  try simp only [Act.put, List.setIfInBounds_toArray, List.set_cons_zero, List.set_cons_succ]
  refine held_done (by kernel_rfl) ?_
  have HE1 : Hid (KnS w we1 g (RA.ask A { f0 with typ := 2 }) [(gl, #[.int .i64 2, .int .i64 4], 3), (gb, #[.bool bl], 4), (gd, DL.toArray, 34), (gq, C0, 37), (gk, KC, 22)]) := Lib.hid ⟨(H91.out.below HBe.out).be, H91.out.lg, (H91.out.below HBe.out).area, H91.out.ok, fun x hx => (H91.out.below HBe.out).box x (List.mem_cons_of_mem _ (List.mem_cons_of_mem _ hx))⟩
  have m1 := (K1.out we1 HBe.out).2.1
  have m2 := (K1.out we1 HBe.out).2.2.1
  have m3 := (K1.out we1 HBe.out).2.2.2.1
  have m4 := (K5.out we1 HBe.out).2
  have m5 : we1.cell? ⟨gb, 0, none⟩ = some (.bool bl) := HasB.at (HE1.out.at (C := #[.bool bl]) (T := 4) (by simp)) 0
  have HM6 := Lib.hid (K1.out we1 HBe.out).2.2.2.2.2
  have HM7 : Hid (we1.heap[gd]? = some (.cells DL.toArray 34 (0, 0))) := Lib.hid (HE1.out.at (by simp))
  have n1 := HCs.out
  obtain ⟨n1, n2⟩ := n1
  clear K1 K3 K4 K5 HSg2
  go_wp2_with fail
  have HAs := Lib.hid HAs2.out.1
  have HPl := Lib.hid HAs2.out.2
  clear HBe H91 m1 m2 m3 m4 m5 n1 hen hed heq hez HAs2 HXo HM6 HM7 n2
  obtain ⟨A2, hA2⟩ : ∃ A2, A2 = (RA.ask A { f0 with typ := 2 }) := ⟨_, rfl⟩
  rw [← hA2] at HE1 HAs HPl
  clear hA2
  have hft : ({ f0 with typ := 4 } : RF).Ok := RF.with_typ HFo.out (i64k (by decide))
  have hxr : ({ RF.zero with typ := 1024, nonce := f0.nonce, addr := f0.addr, res := 4 } : RF).Ok := RF.with_res (RF.with_addr (RF.with_nonce (RF.with_typ RF.zero_ok (x := 1024) (i64k (by decide))) ⟨HFo.out.nl, HFo.out.nb⟩) HFo.out.i1) (x := 4) (i64k (by decide))
  have hxs := RF.sign_ok hxr key
  have hask := fun w h => ask_any A2 { f0 with typ := 4 } g w h HE1.out.ok hft
  have hAk : (RA.ask A2 { f0 with typ := 4 }).Ok := RA.ask_ok HE1.out.ok hft
  have hst := tells_ask (A := A2) (f := { f0 with typ := 4 }) (t := 4) (by decide) rfl
  have hans := fun w h hcl => answer_any (RA.ask A2 { f0 with typ := 4 }) d (!bl) 23 #[.pointer (some ⟨gd, 0, none⟩), .pointer (some ⟨gb, 0, none⟩)] g w h hAk HDk.out (fun args w => Try.call23 args w) hcl
  have hsg2 := rsign_any (RF.sign { RF.zero with typ := 1024, nonce := f0.nonce, addr := f0.addr, res := 4 } key) key
  have heq := eqFrame _ _ hxs hxs
  have hen := fun w => equalIn_u8s 9998 35 16 Try.underlying35 HFo.out.nb HFo.out.nb HFo.out.nl HFo.out.nl w
  have hed := fun w => equalIn_u8s 9998 34 64 Try.underlying34 HDk.out.2 HDk.out.2 HDk.out.1 HDk.out.1 w
  rw [RF.sign_sign _ hxr.tl] at hsg2
  rw [hst.1] at hask
  rw [show (RA.ask A2 { f0 with typ := 4 }).answer d (!bl) = RF.sign { RF.zero with typ := 1024, nonce := f0.nonce, addr := f0.addr, res := 4 } key from tells_read0 HAs.out HPl.out d (!bl) HIn.out] at hans
  simp only [decide_true] at heq hen hed
  unfold RF.val RP.val at hask
  unfold RF.val at hans hsg2
  rw [show RP.zero.cells.toArray = zP from rfl] at hask
  obtain ⟨Ct2, hCt2⟩ : ∃ N, N = ({ f0 with typ := 4 } : RF).cells.toArray := ⟨_, rfl⟩
  have HICt2 : Hid ((Try.prog.info? 37).map (·.size) = some Ct2.size) := Lib.hid (by rw [hCt2]; exact info_f hft)
  have HOCt2 : Hid (zF.size = Ct2.size) := Lib.hid (by rw [hCt2]; exact old_f hft)
  have HECt2 : Hid (Ct2.all (·.oneCell') = true) := Lib.hid (by rw [hCt2]; exact RF.one _)
  have HCt2 := Lib.hid hCt2
  obtain ⟨CX2, hCX2⟩ : ∃ N, N = (RF.sign { RF.zero with typ := 1024, nonce := f0.nonce, addr := f0.addr, res := 4 } key : RF).cells.toArray := ⟨_, rfl⟩
  have HICX2 : Hid ((Try.prog.info? 37).map (·.size) = some CX2.size) := Lib.hid (by rw [hCX2]; exact info_f hxs)
  have HOCX2 : Hid (zF.size = CX2.size) := Lib.hid (by rw [hCX2]; exact old_f hxs)
  have HECX2 : Hid (CX2.all (·.oneCell') = true) := Lib.hid (by rw [hCX2]; exact RF.one _)
  have HCX2 := Lib.hid hCX2
  rw [← hCt2] at hask
  rw [← hCX2] at hans hsg2 heq
  rw [← HKC.out] at hsg2
  rw [← HNL.out] at hen
  rw [← HDL.out] at hed
  have hez : ∀ w, (Op.equalIn 10000 43 (.agg zP) (.agg zP)).run Try.prog w = .ok true w := HEz.out
  have HAk := Lib.hid hAk
  have HAsk := Lib.hid hask
  have HAns := Lib.hid hans
  have HSg2 := Lib.hid (fun w => hsg2 w hxs HKy.out.1 HKy.out.2)
  have HXo := Lib.hid hxs
  have HAs2 : Hid ((RA.ask A2 { f0 with typ := 4 }).s = ⟨key, true, c⟩ ∧ (RA.ask A2 { f0 with typ := 4 }).places = 16) := Lib.hid ⟨HAs.out, HPl.out⟩
  clear hft hxr hxs hask hAk hst hans hsg2 hCt2 hCX2
  have hl0 : we1.cell? ⟨gl, 0, none⟩ = some (.int .i64 2) := HasB.at (HE1.out.at (C := #[.int .i64 2, .int .i64 4]) (T := 3) (by simp)) 0
  have hl1 : we1.cell? ⟨gl, 1, none⟩ = some (.int .i64 4) := HasB.at (HE1.out.at (C := #[.int .i64 2, .int .i64 4]) (T := 3) (by simp)) 1
  have hllt := HasB.lt (HE1.out.at (k := gl) (C := #[.int .i64 2, .int .i64 4]) (T := 3) (by simp))
  have HQq : Hid (we1.heap[gq]? = some (.cells C0 37 (0, 0))) := Lib.hid (HE1.out.at (by simp))
  rw [rounds_succ]
  have HGf0 : Hid (∀ b ∈ [(gl, #[.int .i64 2, .int .i64 4], 3), (gb, #[.bool bl], 4), (gd, DL.toArray, 34), (gq, C0, 37), (gk, KC, 22)], b.1 < we1.heap.size) := Lib.hid (fun b hb => (HE1.out.box b hb).1.lt)
  go_wp2_with (first | (with_reducible refine wpList_load_row rfl 37 (.tmp 7) rfl gq rfl 37 C0 (0, 0) _ HQq.out Try.underlying37 rfl HIC0.out ?_) | (with_reducible refine wpList_store_row rfl 37 (.tmp 15) (.tmp 39) rfl we1.heap.size C0 rfl rfl 37 zF (heap_new we1 _) HIC0.out HOC0.out HEC0.out ?_; rw [World.setRow_alloc_new]; refine Stop.mk ?_))
  refine Stop.go ?_
  have H52 : Hid (KnS w (we1.alloc (.cells C0 37)) g A2 [(we1.heap.size, C0, 37), (gl, #[.int .i64 2, .int .i64 4], 3), (gb, #[.bool bl], 4), (gd, DL.toArray, 34), (gq, C0, 37), (gk, KC, 22)]) := Lib.hid (HE1.out.made C0 _)
  generalize we1.alloc (.cells C0 37) = w52 at H52 ⊢
  obtain ⟨gf2, hgf2⟩ : ∃ g, g = we1.heap.size := ⟨_, rfl⟩
  rw [← hgf2] at H52 ⊢
  have HNe : Hid (∀ b ∈ [(gl, #[.int .i64 2, .int .i64 4], 3), (gb, #[.bool bl], 4), (gd, DL.toArray, 34), (gq, C0, 37), (gk, KC, 22)], b.1 ≠ gf2) := Lib.hid (fun b hb => by have := HGf0.out b hb; omega)
  clear hgf2 HE1
  clear HGf0 HQq hl0 hl1 hllt
  have hfl := HasB.lt (H52.out.at (List.mem_cons_self))
  have hff : w52.frozen? ⟨gf2, 116, none⟩ = false := HasB.free (H52.out.at (List.mem_cons_self)) 116
  have hfc : w52.cell? ⟨gf2, 116, none⟩ = some (.int .i64 f0.typ) := RF.tail_at HFo.out (by rw [← HC0.out]; exact H52.out.at (List.mem_cons_self)) 4 _ rfl
  go_wp2_with (with_reducible refine stop_dst 43 rfl ?_)
  refine Stop.go ?_
  have H62 : Hid (KnS w (w52.setCell ⟨gf2, 116, none⟩ (.int .i64 4)) g A2 [(gf2, Ct2, 37), (gl, #[.int .i64 2, .int .i64 4], 3), (gb, #[.bool bl], 4), (gd, DL.toArray, 34), (gq, C0, 37), (gk, KC, 22)]) := Lib.hid (H52.out.put HNe.out (by rw [HCt2.out]; have := H52.out.at (List.mem_cons_self); rw [HC0.out] at this; exact RF.putTyp HFo.out this 4) (gb_set (gb_refl _ _) _ _))
  generalize w52.setCell ⟨gf2, 116, none⟩ (.int .i64 4) = w62 at H62 ⊢
  clear hfl hff hfc H52 HNe
  have HQ6 : Hid (w62.heap[gf2]? = some (.cells Ct2 37 (0, 0))) := Lib.hid (H62.out.at (by simp))
  refine wpList_load_row rfl 37 (.tmp 15) rfl gf2 rfl 37 Ct2 (0, 0) _ HQ6.out Try.underlying37 rfl HICt2.out ?_
  go_wp2_with fail
  refine (HAsk.out w62 H62.out.area).mono ?_
  rintro e w72 ⟨rfl, hA9, hg9⟩
  have H72 : Hid (KnS w w72 g (RA.ask A2 { f0 with typ := 4 }) [(gf2, Ct2, 37), (gl, #[.int .i64 2, .int .i64 4], 3), (gb, #[.bool bl], 4), (gd, DL.toArray, 34), (gq, C0, 37), (gk, KC, 22)]) := Lib.hid (H62.out.call hA9 HAk.out hg9)
  clear hA9 hg9 HQ6 H62 HAsk
  go_wp2_with fail
  refine (HAns.out w72 H72.out.area (fun x w' hb => tells_clo d HDk.out.1 bl x gd gb w' (by rw [← HDL.out]; exact HasB.below (H72.out.at (k := gd) (by simp)) hb (HasB.lt (H72.out.at (k := gd) (C := DL.toArray) (T := 34) (by simp)))) (HasB.below (H72.out.at (k := gb) (by simp)) hb (HasB.lt (H72.out.at (k := gb) (C := #[.bool bl]) (T := 4) (by simp)))))).mono ?_
  rintro e w82 ⟨rfl, hb8⟩
  have H82 := Lib.hid (H72.out.below hb8)
  clear hb8 H72 HAns
  go_wp2_with (first | (with_reducible refine wpList_store_row rfl 37 (.tmp 16) (.tmp 49) rfl w82.heap.size CX2 rfl rfl 37 zF (heap_new w82 _) HICX2.out HOCX2.out HECX2.out ?_; rw [World.setRow_alloc_new]; refine Stop.mk ?_))
  refine Stop.go ?_
  have H92 : Hid (KnS w (w82.alloc (.cells CX2 37)) g (RA.ask A2 { f0 with typ := 4 }) [(w82.heap.size, CX2, 37), (gf2, Ct2, 37), (gl, #[.int .i64 2, .int .i64 4], 3), (gb, #[.bool bl], 4), (gd, DL.toArray, 34), (gq, C0, 37), (gk, KC, 22)]) := Lib.hid (H82.out.made CX2 _)
  generalize w82.alloc (.cells CX2 37) = w92 at H92 ⊢
  obtain ⟨gx2, hgx2⟩ : ∃ g, g = w82.heap.size := ⟨_, rfl⟩
  rw [← hgx2] at H92 ⊢
  clear hgx2 H82
  have K1 : Hid (∀ w', Below w92.heap.size w92 w' → w'.cell? ⟨gx2, 116, none⟩ = some (.int .i64 1024) ∧ w'.cell? ⟨gx2, 115, none⟩ = some (.int .i64 4) ∧ w'.cell? ⟨gx2, 112, none⟩ = some (.int .u32 0) ∧ w'.cell? ⟨gx2, 114, none⟩ = some (.int .i64 0) ∧ w'.rangeAt gx2 96 NL ∧ w'.rangeAt gx2 32 (u8s (List.replicate 64 0))) := Lib.hid (fun w' hw => by
    have hx : HasB w' gx2 CX2 37 := HasB.below (H92.out.at List.mem_cons_self) hw (HasB.lt (H92.out.at List.mem_cons_self))
    rw [HCX2.out] at hx
    refine ⟨RF.tail_at HXo.out hx 4 _ rfl, RF.tail_at HXo.out hx 3 _ rfl, RF.tail_at HXo.out hx 0 _ rfl, RF.tail_at HXo.out hx 2 _ rfl, ?_, ?_⟩
    · rw [HNL.out]; have := RF.nonce_at HXo.out hx; exact this
    · have := RF.data_at HXo.out hx; exact this)
  have K3 : Hid (∀ w', Below w92.heap.size w92 w' → w'.heap[gx2]? = some (.cells CX2 37 (0, 0))) := Lib.hid (fun w' hw => HasB.below (H92.out.at List.mem_cons_self) hw (HasB.lt (H92.out.at List.mem_cons_self)))
  have K4 : Hid (∀ w', Below w92.heap.size w92 w' → w'.heap[gk]? = some (.cells KC 22 (0, 0))) := Lib.hid (fun w' hw => HasB.below (H92.out.at (k := gk) (by simp)) hw (HasB.lt (H92.out.at (k := gk) (C := KC) (T := 22) (by simp))))
  have K5 : Hid (∀ w', Below w92.heap.size w92 w' → w'.rangeAt gq 96 NL ∧ w'.cell? ⟨gq, 113, none⟩ = some (.int .i64 f0.addr)) := Lib.hid (fun w' hw => by
    have hx : HasB w' gq C0 37 := HasB.below (H92.out.at (k := gq) (by simp)) hw (HasB.lt (H92.out.at (k := gq) (C := C0) (T := 37) (by simp)))
    rw [HC0.out] at hx
    refine ⟨?_, RF.tail_at HFo.out hx 1 _ rfl⟩
    rw [HNL.out]; exact RF.nonce_at HFo.out hx)
  go_wp2_with fail
  refine wp_region_held_drew (S := (fun w' => Below w92.heap.size w92 w')) (by kernel_rfl) ((Below.refl _ _).drew) (fun hHeld => ?_)
  refine held_take 0 (v := ?_) rfl (by kernel_rfl) (by kernel_rfl) (by kernel_rfl) (fun _ _ _ h => h) (by rfl) (fun w hS => ?_) (by assumption) ?_
  rotate_left
  · try dsimp only at hS
    have l1 := K1.out w hS
    have l5 := K5.out w hS
    go_simp <;> with_reducible rfl
  try simp only [Act.put, List.setIfInBounds_toArray, List.set_cons_zero, List.set_cons_succ]
  refine held_take 1 (v := ?_) rfl (by kernel_rfl) (by kernel_rfl) (by kernel_rfl) (fun _ _ _ h => h) (by rfl) (fun w hS => ?_) (by assumption) ?_
  rotate_left
  · try dsimp only at hS
    have l1 := K1.out w hS
    have l5 := K5.out w hS
    go_simp <;> with_reducible rfl
  try simp only [Act.put, List.setIfInBounds_toArray, List.set_cons_zero, List.set_cons_succ]
  refine held_take 2 (v := ?_) rfl (by kernel_rfl) (by kernel_rfl) (by kernel_rfl) (fun _ _ _ h => h) (by rfl) (fun w hS => ?_) (by assumption) ?_
  rotate_left
  · try dsimp only at hS
    have l1 := K1.out w hS
    have l5 := K5.out w hS
    go_simp <;> with_reducible rfl
  try simp only [Act.put, List.setIfInBounds_toArray, List.set_cons_zero, List.set_cons_succ]
  refine held_take 3 (v := ?_) rfl (by kernel_rfl) (by kernel_rfl) (by kernel_rfl) (fun _ _ _ h => h) (by rfl) (fun w hS => ?_) (by assumption) ?_
  rotate_left
  · try dsimp only at hS
    have l1 := K1.out w hS
    have l5 := K5.out w hS
    go_simp <;> with_reducible rfl
  try simp only [Act.put, List.setIfInBounds_toArray, List.set_cons_zero, List.set_cons_succ]
  refine held_take 4 (v := ?_) rfl (by kernel_rfl) (by kernel_rfl) (by kernel_rfl) (fun _ _ _ h => h) (by rfl) (fun w hS => ?_) (by assumption) ?_
  rotate_left
  · try dsimp only at hS
    have l1 := K1.out w hS
    have l5 := K5.out w hS
    go_simp <;> with_reducible rfl
  try simp only [Act.put, List.setIfInBounds_toArray, List.set_cons_zero, List.set_cons_succ]
  refine held_take 5 (v := ?_) rfl (by kernel_rfl) (by kernel_rfl) (by kernel_rfl) (fun _ _ _ h => h) (by rfl) (fun w hS => ?_) (by assumption) ?_
  rotate_left
  · try dsimp only at hS
    have l1 := K1.out w hS
    have l5 := K5.out w hS
    go_simp <;> with_reducible rfl
  try simp only [Act.put, List.setIfInBounds_toArray, List.set_cons_zero, List.set_cons_succ]
  refine held_take 6 (v := ?_) rfl (by kernel_rfl) (by kernel_rfl) (by kernel_rfl) (fun _ _ _ h => h) (by rfl) (fun w hS => ?_) (by assumption) ?_
  rotate_left
  · try dsimp only at hS
    have l1 := K1.out w hS
    have l5 := K5.out w hS
    go_simp <;> with_reducible rfl
  try simp only [Act.put, List.setIfInBounds_toArray, List.set_cons_zero, List.set_cons_succ]
  refine held_take 7 (v := (.agg NL.toArray)) rfl (by kernel_rfl) (by kernel_rfl) (by kernel_rfl) (fun _ _ _ h => h) (by rfl) (fun w hS => ?_) (by assumption) ?_
  · exact yield_load_mid _ _ 35 (.tmp 56) (by rfl) gx2 96 (by rfl) NL _ (K1.out w hS).2.2.2.2.1 Try.underlying35 (by rfl) HIn16.out
  try simp only [Act.put, List.setIfInBounds_toArray, List.set_cons_zero, List.set_cons_succ]
  refine held_take 8 (v := ?_) rfl (by kernel_rfl) (by kernel_rfl) (by kernel_rfl) (fun _ _ _ h => h) (by rfl) (fun w hS => ?_) (by assumption) ?_
  rotate_left
  · try dsimp only at hS
    have l1 := K1.out w hS
    have l5 := K5.out w hS
    go_simp <;> with_reducible rfl
  try simp only [Act.put, List.setIfInBounds_toArray, List.set_cons_zero, List.set_cons_succ]
  refine held_take 9 (v := (.agg NL.toArray)) rfl (by kernel_rfl) (by kernel_rfl) (by kernel_rfl) (fun _ _ _ h => h) (by rfl) (fun w hS => ?_) (by assumption) ?_
  · exact yield_load_mid _ _ 35 (.tmp 58) (by rfl) gq 96 (by rfl) NL _ (K5.out w hS).1 Try.underlying35 (by rfl) HIn16.out
  try simp only [Act.put, List.setIfInBounds_toArray, List.set_cons_zero, List.set_cons_succ]
  refine held_take 10 (v := ?_) rfl (by kernel_rfl) (by kernel_rfl) (by kernel_rfl) (fun _ _ _ h => h) (by rfl) (fun w hS => ?_) (by assumption) ?_
  rotate_left
  · try dsimp only at hS
    have l1 := K1.out w hS
    have l5 := K5.out w hS
    go_simp <;> with_reducible rfl
  try simp only [Act.put, List.setIfInBounds_toArray, List.set_cons_zero, List.set_cons_succ]
  refine held_take 11 (v := ?_) rfl (by kernel_rfl) (by kernel_rfl) (by kernel_rfl) (fun _ _ _ h => h) (by rfl) (fun w hS => ?_) (by assumption) ?_
  rotate_left
  · try dsimp only at hS
    have l1 := K1.out w hS
    have l5 := K5.out w hS
    go_simp <;> with_reducible rfl
  try simp only [Act.put, List.setIfInBounds_toArray, List.set_cons_zero, List.set_cons_succ]
  refine held_take 12 (v := ?_) rfl (by kernel_rfl) (by kernel_rfl) (by kernel_rfl) (fun _ _ _ h => h) (by rfl) (fun w hS => ?_) (by assumption) ?_
  rotate_left
  · try dsimp only at hS
    have l1 := K1.out w hS
    have l5 := K5.out w hS
    go_simp <;> with_reducible rfl
  try simp only [Act.put, List.setIfInBounds_toArray, List.set_cons_zero, List.set_cons_succ]
  refine held_take 13 (v := (.agg CX2)) rfl (by kernel_rfl) (by kernel_rfl) (by kernel_rfl) (fun _ _ _ h => h) (by rfl) (fun w hS => ?_) (by assumption) ?_
  · exact yield_row _ _ 37 (.tmp 16) (by rfl) gx2 (by rfl) 37 CX2 (0, 0) _ (K3.out w hS) Try.underlying37 (by rfl) HICX2.out
  try simp only [Act.put, List.setIfInBounds_toArray, List.set_cons_zero, List.set_cons_succ]
  refine held_take 14 (v := (.agg KC)) rfl (by kernel_rfl) (by kernel_rfl) (by kernel_rfl) (fun _ _ _ h => h) (by rfl) (fun w hS => ?_) (by assumption) ?_
  · exact yield_row _ _ 22 (.tmp 5) (by rfl) gk (by rfl) 22 KC (0, 0) _ (K4.out w hS) Try.underlying22 (by rfl) HIk.out
  try simp only [Act.put, List.setIfInBounds_toArray, List.set_cons_zero, List.set_cons_succ]
  refine held_take 16 (v := (.agg CX2)) rfl (by kernel_rfl) (by kernel_rfl) (by kernel_rfl) (fun _ _ _ h => h) (by rfl) (fun w hS => ?_) (by assumption) ?_
  · exact yield_row _ _ 37 (.tmp 16) (by rfl) gx2 (by rfl) 37 CX2 (0, 0) _ (K3.out w hS) Try.underlying37 (by rfl) HICX2.out
  try simp only [Act.put, List.setIfInBounds_toArray, List.set_cons_zero, List.set_cons_succ]
  refine held_one 15 rfl (by kernel_rfl) (fun K hK => ?_)
  go_simp
  refine (HSg2.out _).mono ?_
  rintro e we2 ⟨rfl, hbe⟩
  have HBe : Hid (Below w92.heap.size w92 we2) := Lib.hid ((Below.refl _ _).drew.trans hbe)
  clear hbe
  refine hK.out _ _ (fun w' => Below w92.heap.size w92 w') (fun _ h => h) HBe.out (fun hHeld => ?_)
  clear hK K
  try simp only [Act.put, List.setIfInBounds_toArray, List.set_cons_zero, List.set_cons_succ]
  refine held_take 17 (v := ?_) rfl (by kernel_rfl) (by kernel_rfl) (by kernel_rfl) (fun _ _ _ h => h) (by rfl) (fun w hS => ?_) (by assumption) ?_
  rotate_left
  · try dsimp only at hS
    have l1 := K1.out w hS
    have l5 := K5.out w hS
    go_simp <;> with_reducible rfl
  try simp only [Act.put, List.setIfInBounds_toArray, List.set_cons_zero, List.set_cons_succ]
  refine held_take 18 (v := ?_) rfl (by kernel_rfl) (by kernel_rfl) (by kernel_rfl) (fun _ _ _ h => h) (by rfl) (fun w hS => ?_) (by assumption) ?_
  rotate_left
  · try dsimp only at hS
    have l1 := K1.out w hS
    have l5 := K5.out w hS
    go_simp <;> with_reducible rfl
  try simp only [Act.put, List.setIfInBounds_toArray, List.set_cons_zero, List.set_cons_succ]
  refine held_done (by kernel_rfl) ?_
  have HE2 : Hid (KnS w we2 g (RA.ask A2 { f0 with typ := 4 }) [(gl, #[.int .i64 2, .int .i64 4], 3), (gb, #[.bool bl], 4), (gd, DL.toArray, 34), (gq, C0, 37), (gk, KC, 22)]) := Lib.hid ⟨(H92.out.below HBe.out).be, H92.out.lg, (H92.out.below HBe.out).area, H92.out.ok, fun x hx => (H92.out.below HBe.out).box x (List.mem_cons_of_mem _ (List.mem_cons_of_mem _ hx))⟩
  have m1 := (K1.out we2 HBe.out).2.1
  have m2 := (K1.out we2 HBe.out).2.2.1
  have m3 := (K1.out we2 HBe.out).2.2.2.1
  have m4 := (K5.out we2 HBe.out).2
  have m5 : we2.cell? ⟨gb, 0, none⟩ = some (.bool bl) := HasB.at (HE2.out.at (C := #[.bool bl]) (T := 4) (by simp)) 0
  have HM6 := Lib.hid (K1.out we2 HBe.out).2.2.2.2.2
  have HM7 : Hid (we2.heap[gd]? = some (.cells DL.toArray 34 (0, 0))) := Lib.hid (HE2.out.at (by simp))
  have n1 := HCs.out
  obtain ⟨n1, n2⟩ := n1
  clear K1 K3 K4 K5 HSg2
  obtain ⟨ZL, hZL⟩ : ∃ ZL, ZL = u8s (List.replicate 64 0) := ⟨_, rfl⟩
  have hz64 := neq_zero64
  rw [← hZL] at HM6 hz64
  have HIz64 : Hid ((Try.prog.info? 34).map (·.size) = some ZL.length) := Lib.hid (by rw [hZL]; exact info_d64)
  clear hZL
  go_wp2_with (with_reducible refine stop_dst 122 rfl ?_)
  refine Stop.go ?_
  refine wpList_wanted (by rfl) (fun K hK => ?_)
  refine wp_load_mid 34 (.tmp 121) rfl gx2 32 rfl ZL _ HM6.out Try.underlying34 rfl HIz64.out ?_
  refine hK _ _ ?_
  clear hK K
  go_wp2_with fail
  have HAs := Lib.hid HAs2.out.1
  have HPl := Lib.hid HAs2.out.2
  clear HBe H92 m1 m2 m3 m4 m5 n1 hen hed heq hez HAs2 HXo HM6 HM7 n2 hz64
  rw [rounds_succ]
  go_wp2_with fail
  rw [HPOST.out]
  exact ⟨rfl, HE2.out.be⟩

set_option maxRecDepth 100000 in
set_option maxHeartbeats 8000000 in
theorem tells_c3 (key : List Nat) (hk : key.length = 32 ∧ ∀ c ∈ key, c < 256) (c : Nat) (hc : c < 4294967296) (f0 : RF) (hf : f0.Ok) (d : List Nat) (hd : d.length = 64 ∧ ∀ c ∈ d, c < 256) (w : World) (bl : Bool) (hbl : bl = true) (hcs : (0 : Int) ≤ f0.addr ∧ f0.addr < 16) :
    Calls Try.prog 6 #[.agg (u8s key).toArray, .int .u32 (c : Int), f0.val, .agg (u8s d).toArray, .bool bl] w fun e w' => e = .returned (.bool true) ∧ Below w.heap.size w w' := by
  obtain ⟨POST, hPOST⟩ : ∃ Q : Ending → World → Prop, Q = fun e w' => e = .returned (.bool true) ∧ Below w.heap.size w w' := ⟨_, rfl⟩
  rw [← hPOST]
  have HPOST := Lib.hid hPOST
  have HKy := Lib.hid hk
  have HFo := Lib.hid hf
  have HDk := Lib.hid hd
  have HCt := Lib.hid hc
  have HCs := Lib.hid hcs
  have HBl := Lib.hid hbl
  have HIn : Hid (¬((0 ≤ f0.addr ∧ f0.addr < 16) ∧ (!bl) = true)) := Lib.hid (fun q => by rw [hbl] at q; cases q.2)
  have hso : (⟨key, true, c⟩ : RS).Ok := ⟨hk.1, hk.2, hc⟩
  have HSo := Lib.hid hso
  obtain ⟨KC, hKC⟩ : ∃ KC, KC = (u8s key).toArray := ⟨_, rfl⟩
  have HIk : Hid ((Try.prog.info? 22).map (·.size) = some KC.size) := Lib.hid (by rw [hKC, List.size_toArray, u8s_len, hk.1]; exact info_k32)
  obtain ⟨NL, hNL⟩ : ∃ NL, NL = u8s f0.nonce := ⟨_, rfl⟩
  have HNL := Lib.hid hNL
  have HIn16 : Hid ((Try.prog.info? 35).map (·.size) = some NL.length) := Lib.hid (by rw [hNL, u8s_len, hf.nl]; exact info_n16)
  obtain ⟨DL, hDL⟩ : ∃ DL, DL = u8s d := ⟨_, rfl⟩
  have HDL := Lib.hid hDL
  have HId64 : Hid ((Try.prog.info? 34).map (·.size) = some DL.length) := Lib.hid (by rw [hDL, u8s_len, hd.1]; exact info_d64)
  have HId64a : Hid ((Try.prog.info? 34).map (·.size) = some DL.toArray.size) := Lib.hid (by rw [hDL, List.size_toArray, u8s_len, hd.1]; exact info_d64)
  obtain ⟨C0, hC0⟩ : ∃ N, N = (f0 : RF).cells.toArray := ⟨_, rfl⟩
  have HIC0 : Hid ((Try.prog.info? 37).map (·.size) = some C0.size) := Lib.hid (by rw [hC0]; exact info_f hf)
  have HOC0 : Hid (zF.size = C0.size) := Lib.hid (by rw [hC0]; exact old_f hf)
  have HEC0 : Hid (C0.all (·.oneCell') = true) := Lib.hid (by rw [hC0]; exact RF.one _)
  have HC0 := Lib.hid hC0
  obtain ⟨SC, hSC⟩ : ∃ N, N = (⟨key, true, c⟩ : RS).cells.toArray := ⟨_, rfl⟩
  have HISC : Hid ((Try.prog.info? 31).map (·.size) = some SC.size) := Lib.hid (by rw [hSC, List.size_toArray, RS.len hso]; exact info_st)
  have HOSC : Hid ((#[Value.int .u8 0, Value.int .u8 0, Value.int .u8 0, Value.int .u8 0, Value.int .u8 0, Value.int .u8 0, Value.int .u8 0, Value.int .u8 0, Value.int .u8 0, Value.int .u8 0, Value.int .u8 0, Value.int .u8 0, Value.int .u8 0, Value.int .u8 0, Value.int .u8 0, Value.int .u8 0, Value.int .u8 0, Value.int .u8 0, Value.int .u8 0, Value.int .u8 0, Value.int .u8 0, Value.int .u8 0, Value.int .u8 0, Value.int .u8 0, Value.int .u8 0, Value.int .u8 0, Value.int .u8 0, Value.int .u8 0, Value.int .u8 0, Value.int .u8 0, Value.int .u8 0, Value.int .u8 0, .bool false, .int .u32 0] : Array Value).size = SC.size) := Lib.hid (by rw [show SC.size = 34 by rw [hSC, List.size_toArray, RS.len hso]]; rfl)
  have HESC : Hid (SC.all (·.oneCell') = true) := Lib.hid (by rw [hSC]; exact RS.one _)
  have HSC := Lib.hid hSC
  have hbs := built_sa ⟨key, true, c⟩ hso
  have hnew := fun w => new_has 16 ⟨key, true, c⟩ w (by decide) hso rfl
  unfold RS.val at hnew
  rw [← hSC] at hbs hnew
  have hbs : Try.prog.built 31 [(0, .agg KC), (1, .bool true), (2, .int .u32 (c : Int))] = some SC := by rw [hKC]; exact hbs
  have HBs := Lib.hid hbs
  have HNew := Lib.hid hnew
  have hez := eqStep RP.zero RP.zero RP.zero_ok RP.zero_ok
  simp only [decide_true] at hez
  have HEz := Lib.hid hez
  have HKC := Lib.hid hKC
  unfold RF.val
  rw [← hKC, ← hC0, ← hDL]
  have HW1 : Hid (Below w.heap.size w ((((w.alloc (.cells KC 22)).alloc (.cells C0 37)).alloc (.cells DL.toArray 34)).alloc (.cells #[.bool bl] 4)) ∧ HasB ((((w.alloc (.cells KC 22)).alloc (.cells C0 37)).alloc (.cells DL.toArray 34)).alloc (.cells #[.bool bl] 4)) w.heap.size KC 22 ∧ HasB ((((w.alloc (.cells KC 22)).alloc (.cells C0 37)).alloc (.cells DL.toArray 34)).alloc (.cells #[.bool bl] 4)) (w.heap.size + 1) C0 37 ∧ HasB ((((w.alloc (.cells KC 22)).alloc (.cells C0 37)).alloc (.cells DL.toArray 34)).alloc (.cells #[.bool bl] 4)) (w.heap.size + 1 + 1) DL.toArray 34 ∧ HasB ((((w.alloc (.cells KC 22)).alloc (.cells C0 37)).alloc (.cells DL.toArray 34)).alloc (.cells #[.bool bl] 4)) (w.heap.size + 1 + 1 + 1) #[.bool bl] 4) := Lib.hid ⟨((((Below.refl _ _).alloc (Nat.le_refl _) _).alloc (by simp) _).alloc (by simp; omega) _).alloc (by simp; omega) _, (((HasB.new w _ _).alloc _).alloc _).alloc _, ((HasB.new' (by simp) _ _).alloc _).alloc _, (HasB.new' (by simp) _ _).alloc _, HasB.new' (by simp) _ _⟩
  clear hPOST hk hf hd hc hcs hso hKC hNL hDL hC0 hSC hbs hnew hez hbl
  go_enter Try.func6, Try.ntmps6
  go_wp2_with fail
  generalize ((((w.alloc (.cells KC 22)).alloc (.cells C0 37)).alloc (.cells DL.toArray 34)).alloc (.cells #[.bool bl] 4)) = w1 at HW1 ⊢
  obtain ⟨gk, hgk⟩ : ∃ gk, gk = w.heap.size := ⟨_, rfl⟩
  obtain ⟨gq, hgq⟩ : ∃ gq, gq = w.heap.size + 1 := ⟨_, rfl⟩
  obtain ⟨gd, hgd⟩ : ∃ gd, gd = w.heap.size + 1 + 1 := ⟨_, rfl⟩
  obtain ⟨gb, hgb⟩ : ∃ gb, gb = w.heap.size + 1 + 1 + 1 := ⟨_, rfl⟩
  have HGs : Hid (w.heap.size ≤ gk ∧ w.heap.size ≤ gq ∧ w.heap.size ≤ gd ∧ w.heap.size ≤ gb) := Lib.hid (by omega)
  have HBw : Hid (Below w.heap.size w w1) := Lib.hid HW1.out.1
  have HBx : Hid (HasB w1 gk KC 22 ∧ HasB w1 gq C0 37 ∧ HasB w1 gd DL.toArray 34 ∧ HasB w1 gb #[.bool bl] 4) := Lib.hid (by rw [hgb, hgd, hgq, hgk]; exact HW1.out.2)
  rw [← hgb, ← hgd, ← hgq, ← hgk]
  clear hgk hgq hgd hgb HW1
  refine (known_any w1).mono ?_
  rintro e w2 ⟨rfl, hb⟩
  have HBy : Hid (HasB w2 gk KC 22 ∧ HasB w2 gq C0 37 ∧ HasB w2 gd DL.toArray 34 ∧ HasB w2 gb #[.bool bl] 4) := Lib.hid ⟨HBx.out.1.below hb HBx.out.1.lt, HBx.out.2.1.below hb HBx.out.2.1.lt, HBx.out.2.2.1.below hb HBx.out.2.2.1.lt, HBx.out.2.2.2.below hb HBx.out.2.2.2.lt⟩
  have HBv : Hid (Below w.heap.size w w2) := Lib.hid (HBw.out.trans (hb.mono HBw.out.size))
  have HQk : Hid (w2.heap[gk]? = some (.cells KC 22 (0, 0))) := Lib.hid HBy.out.1
  clear hb HBw HBx
  go_wp2_with (first | (with_reducible refine stop_build 31 _ rfl ?_) | (with_reducible refine wpList_load_row rfl 22 (.tmp 5) rfl gk rfl 22 KC (0, 0) _ HQk.out Try.underlying22 rfl HIk.out ?_))
  refine Stop.go ?_
  refine wpList_buildTo rfl 31 _ rfl _ rfl SC ?_ ?_
  · rw [List.map_toArray]; exact HBs.out
  go_wp2_with fail
  refine (HNew.out w2).mono ?_
  rintro e w3 ⟨g, rfl, hge, hA, hb⟩
  have H3 : Hid (KnS w w3 g (RA.new 16 ⟨key, true, c⟩) [(gb, #[.bool bl], 4), (gd, DL.toArray, 34), (gq, C0, 37), (gk, KC, 22)]) := Lib.hid ⟨HBv.out.trans (hb.mono HBv.out.size), Nat.le_trans HBv.out.size hge, hA, RA.new_ok (by decide) HSo.out, fun b hb2 => by
    have l1 := HBy.out.1.lt
    have l2 := HBy.out.2.1.lt
    have l3 := HBy.out.2.2.1.lt
    have l4 := HBy.out.2.2.2.lt
    have hgs := HGs.out
    simp only [List.mem_cons, List.not_mem_nil, or_false] at hb2
    rcases hb2 with rfl | rfl | rfl | rfl
    · exact ⟨HBy.out.2.2.2.below hb l4, by show gb ≠ g; omega, hgs.2.2.2⟩
    · exact ⟨HBy.out.2.2.1.below hb l3, by show gd ≠ g; omega, hgs.2.2.1⟩
    · exact ⟨HBy.out.2.1.below hb l2, by show gq ≠ g; omega, hgs.2.1⟩
    · exact ⟨HBy.out.1.below hb l1, by show gk ≠ g; omega, hgs.1⟩⟩
  clear hb hA hge HQk HBy HBv
  go_wp2_with fail
  have H4 : Hid (KnS w (w3.alloc (.cells #[.int .i64 2, .int .i64 4] 3)) g (RA.new 16 ⟨key, true, c⟩) [(w3.heap.size, #[.int .i64 2, .int .i64 4], 3), (gb, #[.bool bl], 4), (gd, DL.toArray, 34), (gq, C0, 37), (gk, KC, 22)]) := Lib.hid (H3.out.made _ _)
  generalize w3.alloc (.cells #[.int .i64 2, .int .i64 4] 3) = w4 at H4 ⊢
  obtain ⟨gl, hgl⟩ : ∃ gl, gl = w3.heap.size := ⟨_, rfl⟩
  rw [← hgl] at H4 ⊢
  clear hgl H3
  have HAs : Hid ((RA.new 16 ⟨key, true, c⟩).s = ⟨key, true, c⟩) := Lib.hid rfl
  have HPl : Hid ((RA.new 16 ⟨key, true, c⟩).places = 16) := Lib.hid rfl
  obtain ⟨A, hAe⟩ : ∃ A, A = RA.new 16 ⟨key, true, c⟩ := ⟨_, rfl⟩
  rw [← hAe] at H4 HAs HPl
  clear hAe
  refine wp_loop_rounds 3 ?_
  have hft : ({ f0 with typ := 2 } : RF).Ok := RF.with_typ HFo.out (i64k (by decide))
  have hxr : ({ RF.zero with typ := 512, nonce := f0.nonce, ctr := c } : RF).Ok := RF.with_ctr (RF.with_nonce (RF.with_typ RF.zero_ok (x := 512) (i64k (by decide))) ⟨HFo.out.nl, HFo.out.nb⟩) HCt.out
  have hxs := RF.sign_ok hxr key
  have hask := fun w h => ask_any A { f0 with typ := 2 } g w h H4.out.ok hft
  have hAk : (RA.ask A { f0 with typ := 2 }).Ok := RA.ask_ok H4.out.ok hft
  have hst := tells_ask (A := A) (f := { f0 with typ := 2 }) (t := 2) (by decide) rfl
  have hans := fun w h hcl => answer_any (RA.ask A { f0 with typ := 2 }) d (!bl) 23 #[.pointer (some ⟨gd, 0, none⟩), .pointer (some ⟨gb, 0, none⟩)] g w h hAk HDk.out (fun args w => Try.call23 args w) hcl
  have hsg2 := rsign_any (RF.sign { RF.zero with typ := 512, nonce := f0.nonce, ctr := c } key) key
  have heq := eqFrame _ _ hxs hxs
  have hen := fun w => equalIn_u8s 9998 35 16 Try.underlying35 HFo.out.nb HFo.out.nb HFo.out.nl HFo.out.nl w
  have hed := fun w => equalIn_u8s 9998 34 64 Try.underlying34 HDk.out.2 HDk.out.2 HDk.out.1 HDk.out.1 w
  rw [RF.sign_sign _ hxr.tl] at hsg2
  rw [hst.1] at hask
  rw [show (RA.ask A { f0 with typ := 2 }).answer d (!bl) = RF.sign { RF.zero with typ := 512, nonce := f0.nonce, ctr := c } key from tells_count HAs.out d (!bl)] at hans
  simp only [decide_true] at heq hen hed
  unfold RF.val RP.val at hask
  unfold RF.val at hans hsg2
  rw [show RP.zero.cells.toArray = zP from rfl] at hask
  obtain ⟨Ct1, hCt1⟩ : ∃ N, N = ({ f0 with typ := 2 } : RF).cells.toArray := ⟨_, rfl⟩
  have HICt1 : Hid ((Try.prog.info? 37).map (·.size) = some Ct1.size) := Lib.hid (by rw [hCt1]; exact info_f hft)
  have HOCt1 : Hid (zF.size = Ct1.size) := Lib.hid (by rw [hCt1]; exact old_f hft)
  have HECt1 : Hid (Ct1.all (·.oneCell') = true) := Lib.hid (by rw [hCt1]; exact RF.one _)
  have HCt1 := Lib.hid hCt1
  obtain ⟨CX1, hCX1⟩ : ∃ N, N = (RF.sign { RF.zero with typ := 512, nonce := f0.nonce, ctr := c } key : RF).cells.toArray := ⟨_, rfl⟩
  have HICX1 : Hid ((Try.prog.info? 37).map (·.size) = some CX1.size) := Lib.hid (by rw [hCX1]; exact info_f hxs)
  have HOCX1 : Hid (zF.size = CX1.size) := Lib.hid (by rw [hCX1]; exact old_f hxs)
  have HECX1 : Hid (CX1.all (·.oneCell') = true) := Lib.hid (by rw [hCX1]; exact RF.one _)
  have HCX1 := Lib.hid hCX1
  rw [← hCt1] at hask
  rw [← hCX1] at hans hsg2 heq
  rw [← HKC.out] at hsg2
  rw [← HNL.out] at hen
  rw [← HDL.out] at hed
  have hez : ∀ w, (Op.equalIn 10000 43 (.agg zP) (.agg zP)).run Try.prog w = .ok true w := HEz.out
  have HAk := Lib.hid hAk
  have HAsk := Lib.hid hask
  have HAns := Lib.hid hans
  have HSg2 := Lib.hid (fun w => hsg2 w hxs HKy.out.1 HKy.out.2)
  have HXo := Lib.hid hxs
  have HAs2 : Hid ((RA.ask A { f0 with typ := 2 }).s = ⟨key, true, c⟩ ∧ (RA.ask A { f0 with typ := 2 }).places = 16) := Lib.hid ⟨HAs.out, HPl.out⟩
  clear hft hxr hxs hask hAk hst hans hsg2 hCt1 hCX1
  have hl0 : w4.cell? ⟨gl, 0, none⟩ = some (.int .i64 2) := HasB.at (H4.out.at (C := #[.int .i64 2, .int .i64 4]) (T := 3) (by simp)) 0
  have hl1 : w4.cell? ⟨gl, 1, none⟩ = some (.int .i64 4) := HasB.at (H4.out.at (C := #[.int .i64 2, .int .i64 4]) (T := 3) (by simp)) 1
  have hllt := HasB.lt (H4.out.at (k := gl) (C := #[.int .i64 2, .int .i64 4]) (T := 3) (by simp))
  have HQq : Hid (w4.heap[gq]? = some (.cells C0 37 (0, 0))) := Lib.hid (H4.out.at (by simp))
  rw [rounds_succ]
  have HGf0 : Hid (∀ b ∈ [(gl, #[.int .i64 2, .int .i64 4], 3), (gb, #[.bool bl], 4), (gd, DL.toArray, 34), (gq, C0, 37), (gk, KC, 22)], b.1 < w4.heap.size) := Lib.hid (fun b hb => (H4.out.box b hb).1.lt)
  go_wp2_with (first | (with_reducible refine wpList_load_row rfl 37 (.tmp 7) rfl gq rfl 37 C0 (0, 0) _ HQq.out Try.underlying37 rfl HIC0.out ?_) | (with_reducible refine wpList_store_row rfl 37 (.tmp 15) (.tmp 39) rfl w4.heap.size C0 rfl rfl 37 zF (heap_new w4 _) HIC0.out HOC0.out HEC0.out ?_; rw [World.setRow_alloc_new]; refine Stop.mk ?_))
  refine Stop.go ?_
  have H51 : Hid (KnS w (w4.alloc (.cells C0 37)) g A [(w4.heap.size, C0, 37), (gl, #[.int .i64 2, .int .i64 4], 3), (gb, #[.bool bl], 4), (gd, DL.toArray, 34), (gq, C0, 37), (gk, KC, 22)]) := Lib.hid (H4.out.made C0 _)
  generalize w4.alloc (.cells C0 37) = w51 at H51 ⊢
  obtain ⟨gf1, hgf1⟩ : ∃ g, g = w4.heap.size := ⟨_, rfl⟩
  rw [← hgf1] at H51 ⊢
  have HNe : Hid (∀ b ∈ [(gl, #[.int .i64 2, .int .i64 4], 3), (gb, #[.bool bl], 4), (gd, DL.toArray, 34), (gq, C0, 37), (gk, KC, 22)], b.1 ≠ gf1) := Lib.hid (fun b hb => by have := HGf0.out b hb; omega)
  clear hgf1 H4
  clear HGf0 HQq hl0 hl1 hllt
  have hfl := HasB.lt (H51.out.at (List.mem_cons_self))
  have hff : w51.frozen? ⟨gf1, 116, none⟩ = false := HasB.free (H51.out.at (List.mem_cons_self)) 116
  have hfc : w51.cell? ⟨gf1, 116, none⟩ = some (.int .i64 f0.typ) := RF.tail_at HFo.out (by rw [← HC0.out]; exact H51.out.at (List.mem_cons_self)) 4 _ rfl
  go_wp2_with (with_reducible refine stop_dst 43 rfl ?_)
  refine Stop.go ?_
  have H61 : Hid (KnS w (w51.setCell ⟨gf1, 116, none⟩ (.int .i64 2)) g A [(gf1, Ct1, 37), (gl, #[.int .i64 2, .int .i64 4], 3), (gb, #[.bool bl], 4), (gd, DL.toArray, 34), (gq, C0, 37), (gk, KC, 22)]) := Lib.hid (H51.out.put HNe.out (by rw [HCt1.out]; have := H51.out.at (List.mem_cons_self); rw [HC0.out] at this; exact RF.putTyp HFo.out this 2) (gb_set (gb_refl _ _) _ _))
  generalize w51.setCell ⟨gf1, 116, none⟩ (.int .i64 2) = w61 at H61 ⊢
  clear hfl hff hfc H51 HNe
  have HQ6 : Hid (w61.heap[gf1]? = some (.cells Ct1 37 (0, 0))) := Lib.hid (H61.out.at (by simp))
  refine wpList_load_row rfl 37 (.tmp 15) rfl gf1 rfl 37 Ct1 (0, 0) _ HQ6.out Try.underlying37 rfl HICt1.out ?_
  go_wp2_with fail
  refine (HAsk.out w61 H61.out.area).mono ?_
  rintro e w71 ⟨rfl, hA9, hg9⟩
  have H71 : Hid (KnS w w71 g (RA.ask A { f0 with typ := 2 }) [(gf1, Ct1, 37), (gl, #[.int .i64 2, .int .i64 4], 3), (gb, #[.bool bl], 4), (gd, DL.toArray, 34), (gq, C0, 37), (gk, KC, 22)]) := Lib.hid (H61.out.call hA9 HAk.out hg9)
  clear hA9 hg9 HQ6 H61 HAsk
  go_wp2_with fail
  refine (HAns.out w71 H71.out.area (fun x w' hb => tells_clo d HDk.out.1 bl x gd gb w' (by rw [← HDL.out]; exact HasB.below (H71.out.at (k := gd) (by simp)) hb (HasB.lt (H71.out.at (k := gd) (C := DL.toArray) (T := 34) (by simp)))) (HasB.below (H71.out.at (k := gb) (by simp)) hb (HasB.lt (H71.out.at (k := gb) (C := #[.bool bl]) (T := 4) (by simp)))))).mono ?_
  rintro e w81 ⟨rfl, hb8⟩
  have H81 := Lib.hid (H71.out.below hb8)
  clear hb8 H71 HAns
  go_wp2_with (first | (with_reducible refine wpList_store_row rfl 37 (.tmp 16) (.tmp 49) rfl w81.heap.size CX1 rfl rfl 37 zF (heap_new w81 _) HICX1.out HOCX1.out HECX1.out ?_; rw [World.setRow_alloc_new]; refine Stop.mk ?_))
  refine Stop.go ?_
  have H91 : Hid (KnS w (w81.alloc (.cells CX1 37)) g (RA.ask A { f0 with typ := 2 }) [(w81.heap.size, CX1, 37), (gf1, Ct1, 37), (gl, #[.int .i64 2, .int .i64 4], 3), (gb, #[.bool bl], 4), (gd, DL.toArray, 34), (gq, C0, 37), (gk, KC, 22)]) := Lib.hid (H81.out.made CX1 _)
  generalize w81.alloc (.cells CX1 37) = w91 at H91 ⊢
  obtain ⟨gx1, hgx1⟩ : ∃ g, g = w81.heap.size := ⟨_, rfl⟩
  rw [← hgx1] at H91 ⊢
  clear hgx1 H81
  have K1 : Hid (∀ w', Below w91.heap.size w91 w' → w'.cell? ⟨gx1, 116, none⟩ = some (.int .i64 512) ∧ w'.cell? ⟨gx1, 115, none⟩ = some (.int .i64 0) ∧ w'.cell? ⟨gx1, 112, none⟩ = some (.int .u32 (c : Int)) ∧ w'.cell? ⟨gx1, 114, none⟩ = some (.int .i64 0) ∧ w'.rangeAt gx1 96 NL ∧ w'.rangeAt gx1 32 (u8s (List.replicate 64 0))) := Lib.hid (fun w' hw => by
    have hx : HasB w' gx1 CX1 37 := HasB.below (H91.out.at List.mem_cons_self) hw (HasB.lt (H91.out.at List.mem_cons_self))
    rw [HCX1.out] at hx
    refine ⟨RF.tail_at HXo.out hx 4 _ rfl, RF.tail_at HXo.out hx 3 _ rfl, RF.tail_at HXo.out hx 0 _ rfl, RF.tail_at HXo.out hx 2 _ rfl, ?_, ?_⟩
    · rw [HNL.out]; have := RF.nonce_at HXo.out hx; exact this
    · have := RF.data_at HXo.out hx; exact this)
  have K3 : Hid (∀ w', Below w91.heap.size w91 w' → w'.heap[gx1]? = some (.cells CX1 37 (0, 0))) := Lib.hid (fun w' hw => HasB.below (H91.out.at List.mem_cons_self) hw (HasB.lt (H91.out.at List.mem_cons_self)))
  have K4 : Hid (∀ w', Below w91.heap.size w91 w' → w'.heap[gk]? = some (.cells KC 22 (0, 0))) := Lib.hid (fun w' hw => HasB.below (H91.out.at (k := gk) (by simp)) hw (HasB.lt (H91.out.at (k := gk) (C := KC) (T := 22) (by simp))))
  have K5 : Hid (∀ w', Below w91.heap.size w91 w' → w'.rangeAt gq 96 NL ∧ w'.cell? ⟨gq, 113, none⟩ = some (.int .i64 f0.addr)) := Lib.hid (fun w' hw => by
    have hx : HasB w' gq C0 37 := HasB.below (H91.out.at (k := gq) (by simp)) hw (HasB.lt (H91.out.at (k := gq) (C := C0) (T := 37) (by simp)))
    rw [HC0.out] at hx
    refine ⟨?_, RF.tail_at HFo.out hx 1 _ rfl⟩
    rw [HNL.out]; exact RF.nonce_at HFo.out hx)
  go_wp2_with fail
  refine wp_region_held_drew (S := (fun w' => Below w91.heap.size w91 w')) (by kernel_rfl) ((Below.refl _ _).drew) (fun hHeld => ?_)
  refine held_take 0 (v := ?_) rfl (by kernel_rfl) (by kernel_rfl) (by kernel_rfl) (fun _ _ _ h => h) (by rfl) (fun w hS => ?_) (by assumption) ?_
  rotate_left
  · try dsimp only at hS
    have l1 := K1.out w hS
    have l5 := K5.out w hS
    go_simp <;> with_reducible rfl
  try simp only [Act.put, List.setIfInBounds_toArray, List.set_cons_zero, List.set_cons_succ]
  refine held_take 1 (v := ?_) rfl (by kernel_rfl) (by kernel_rfl) (by kernel_rfl) (fun _ _ _ h => h) (by rfl) (fun w hS => ?_) (by assumption) ?_
  rotate_left
  · try dsimp only at hS
    have l1 := K1.out w hS
    have l5 := K5.out w hS
    go_simp <;> with_reducible rfl
  try simp only [Act.put, List.setIfInBounds_toArray, List.set_cons_zero, List.set_cons_succ]
  refine held_take 2 (v := ?_) rfl (by kernel_rfl) (by kernel_rfl) (by kernel_rfl) (fun _ _ _ h => h) (by rfl) (fun w hS => ?_) (by assumption) ?_
  rotate_left
  · try dsimp only at hS
    have l1 := K1.out w hS
    have l5 := K5.out w hS
    go_simp <;> with_reducible rfl
  try simp only [Act.put, List.setIfInBounds_toArray, List.set_cons_zero, List.set_cons_succ]
  refine held_take 3 (v := ?_) rfl (by kernel_rfl) (by kernel_rfl) (by kernel_rfl) (fun _ _ _ h => h) (by rfl) (fun w hS => ?_) (by assumption) ?_
  rotate_left
  · try dsimp only at hS
    have l1 := K1.out w hS
    have l5 := K5.out w hS
    go_simp <;> with_reducible rfl
  try simp only [Act.put, List.setIfInBounds_toArray, List.set_cons_zero, List.set_cons_succ]
  refine held_take 4 (v := ?_) rfl (by kernel_rfl) (by kernel_rfl) (by kernel_rfl) (fun _ _ _ h => h) (by rfl) (fun w hS => ?_) (by assumption) ?_
  rotate_left
  · try dsimp only at hS
    have l1 := K1.out w hS
    have l5 := K5.out w hS
    go_simp <;> with_reducible rfl
  try simp only [Act.put, List.setIfInBounds_toArray, List.set_cons_zero, List.set_cons_succ]
  refine held_take 5 (v := ?_) rfl (by kernel_rfl) (by kernel_rfl) (by kernel_rfl) (fun _ _ _ h => h) (by rfl) (fun w hS => ?_) (by assumption) ?_
  rotate_left
  · try dsimp only at hS
    have l1 := K1.out w hS
    have l5 := K5.out w hS
    go_simp <;> with_reducible rfl
  try simp only [Act.put, List.setIfInBounds_toArray, List.set_cons_zero, List.set_cons_succ]
  refine held_take 6 (v := ?_) rfl (by kernel_rfl) (by kernel_rfl) (by kernel_rfl) (fun _ _ _ h => h) (by rfl) (fun w hS => ?_) (by assumption) ?_
  rotate_left
  · try dsimp only at hS
    have l1 := K1.out w hS
    have l5 := K5.out w hS
    go_simp <;> with_reducible rfl
  try simp only [Act.put, List.setIfInBounds_toArray, List.set_cons_zero, List.set_cons_succ]
  refine held_take 7 (v := (.agg NL.toArray)) rfl (by kernel_rfl) (by kernel_rfl) (by kernel_rfl) (fun _ _ _ h => h) (by rfl) (fun w hS => ?_) (by assumption) ?_
  · exact yield_load_mid _ _ 35 (.tmp 56) (by rfl) gx1 96 (by rfl) NL _ (K1.out w hS).2.2.2.2.1 Try.underlying35 (by rfl) HIn16.out
  try simp only [Act.put, List.setIfInBounds_toArray, List.set_cons_zero, List.set_cons_succ]
  refine held_take 8 (v := ?_) rfl (by kernel_rfl) (by kernel_rfl) (by kernel_rfl) (fun _ _ _ h => h) (by rfl) (fun w hS => ?_) (by assumption) ?_
  rotate_left
  · try dsimp only at hS
    have l1 := K1.out w hS
    have l5 := K5.out w hS
    go_simp <;> with_reducible rfl
  try simp only [Act.put, List.setIfInBounds_toArray, List.set_cons_zero, List.set_cons_succ]
  refine held_take 9 (v := (.agg NL.toArray)) rfl (by kernel_rfl) (by kernel_rfl) (by kernel_rfl) (fun _ _ _ h => h) (by rfl) (fun w hS => ?_) (by assumption) ?_
  · exact yield_load_mid _ _ 35 (.tmp 58) (by rfl) gq 96 (by rfl) NL _ (K5.out w hS).1 Try.underlying35 (by rfl) HIn16.out
  try simp only [Act.put, List.setIfInBounds_toArray, List.set_cons_zero, List.set_cons_succ]
  refine held_take 10 (v := ?_) rfl (by kernel_rfl) (by kernel_rfl) (by kernel_rfl) (fun _ _ _ h => h) (by rfl) (fun w hS => ?_) (by assumption) ?_
  rotate_left
  · try dsimp only at hS
    have l1 := K1.out w hS
    have l5 := K5.out w hS
    go_simp <;> with_reducible rfl
  try simp only [Act.put, List.setIfInBounds_toArray, List.set_cons_zero, List.set_cons_succ]
  refine held_take 11 (v := ?_) rfl (by kernel_rfl) (by kernel_rfl) (by kernel_rfl) (fun _ _ _ h => h) (by rfl) (fun w hS => ?_) (by assumption) ?_
  rotate_left
  · try dsimp only at hS
    have l1 := K1.out w hS
    have l5 := K5.out w hS
    go_simp <;> with_reducible rfl
  try simp only [Act.put, List.setIfInBounds_toArray, List.set_cons_zero, List.set_cons_succ]
  refine held_take 12 (v := ?_) rfl (by kernel_rfl) (by kernel_rfl) (by kernel_rfl) (fun _ _ _ h => h) (by rfl) (fun w hS => ?_) (by assumption) ?_
  rotate_left
  · try dsimp only at hS
    have l1 := K1.out w hS
    have l5 := K5.out w hS
    go_simp <;> with_reducible rfl
  try simp only [Act.put, List.setIfInBounds_toArray, List.set_cons_zero, List.set_cons_succ]
  refine held_take 13 (v := (.agg CX1)) rfl (by kernel_rfl) (by kernel_rfl) (by kernel_rfl) (fun _ _ _ h => h) (by rfl) (fun w hS => ?_) (by assumption) ?_
  · exact yield_row _ _ 37 (.tmp 16) (by rfl) gx1 (by rfl) 37 CX1 (0, 0) _ (K3.out w hS) Try.underlying37 (by rfl) HICX1.out
  try simp only [Act.put, List.setIfInBounds_toArray, List.set_cons_zero, List.set_cons_succ]
  refine held_take 14 (v := (.agg KC)) rfl (by kernel_rfl) (by kernel_rfl) (by kernel_rfl) (fun _ _ _ h => h) (by rfl) (fun w hS => ?_) (by assumption) ?_
  · exact yield_row _ _ 22 (.tmp 5) (by rfl) gk (by rfl) 22 KC (0, 0) _ (K4.out w hS) Try.underlying22 (by rfl) HIk.out
  try simp only [Act.put, List.setIfInBounds_toArray, List.set_cons_zero, List.set_cons_succ]
  refine held_take 16 (v := (.agg CX1)) rfl (by kernel_rfl) (by kernel_rfl) (by kernel_rfl) (fun _ _ _ h => h) (by rfl) (fun w hS => ?_) (by assumption) ?_
  · exact yield_row _ _ 37 (.tmp 16) (by rfl) gx1 (by rfl) 37 CX1 (0, 0) _ (K3.out w hS) Try.underlying37 (by rfl) HICX1.out
  try simp only [Act.put, List.setIfInBounds_toArray, List.set_cons_zero, List.set_cons_succ]
  refine held_one 15 rfl (by kernel_rfl) (fun K hK => ?_)
  go_simp
  refine (HSg2.out _).mono ?_
  rintro e we1 ⟨rfl, hbe⟩
  have HBe : Hid (Below w91.heap.size w91 we1) := Lib.hid ((Below.refl _ _).drew.trans hbe)
  clear hbe
  refine hK.out _ _ (fun w' => Below w91.heap.size w91 w') (fun _ h => h) HBe.out (fun hHeld => ?_)
  clear hK K
  try simp only [Act.put, List.setIfInBounds_toArray, List.set_cons_zero, List.set_cons_succ]
  refine held_take 17 (v := ?_) rfl (by kernel_rfl) (by kernel_rfl) (by kernel_rfl) (fun _ _ _ h => h) (by rfl) (fun w hS => ?_) (by assumption) ?_
  rotate_left
  · try dsimp only at hS
    have l1 := K1.out w hS
    have l5 := K5.out w hS
    go_simp <;> with_reducible rfl
  try simp only [Act.put, List.setIfInBounds_toArray, List.set_cons_zero, List.set_cons_succ]
  refine held_take 18 (v := ?_) rfl (by kernel_rfl) (by kernel_rfl) (by kernel_rfl) (fun _ _ _ h => h) (by rfl) (fun w hS => ?_) (by assumption) ?_
  rotate_left
  · try dsimp only at hS
    have l1 := K1.out w hS
    have l5 := K5.out w hS
    go_simp <;> with_reducible rfl
  try simp only [Act.put, List.setIfInBounds_toArray, List.set_cons_zero, List.set_cons_succ]
  refine held_done (by kernel_rfl) ?_
  have HE1 : Hid (KnS w we1 g (RA.ask A { f0 with typ := 2 }) [(gl, #[.int .i64 2, .int .i64 4], 3), (gb, #[.bool bl], 4), (gd, DL.toArray, 34), (gq, C0, 37), (gk, KC, 22)]) := Lib.hid ⟨(H91.out.below HBe.out).be, H91.out.lg, (H91.out.below HBe.out).area, H91.out.ok, fun x hx => (H91.out.below HBe.out).box x (List.mem_cons_of_mem _ (List.mem_cons_of_mem _ hx))⟩
  have m1 := (K1.out we1 HBe.out).2.1
  have m2 := (K1.out we1 HBe.out).2.2.1
  have m3 := (K1.out we1 HBe.out).2.2.2.1
  have m4 := (K5.out we1 HBe.out).2
  have m5 : we1.cell? ⟨gb, 0, none⟩ = some (.bool bl) := HasB.at (HE1.out.at (C := #[.bool bl]) (T := 4) (by simp)) 0
  have HM6 := Lib.hid (K1.out we1 HBe.out).2.2.2.2.2
  have HM7 : Hid (we1.heap[gd]? = some (.cells DL.toArray 34 (0, 0))) := Lib.hid (HE1.out.at (by simp))
  rw [HBl.out] at m5
  have n1 := HCs.out
  obtain ⟨n1, n2⟩ := n1
  clear K1 K3 K4 K5 HSg2
  go_wp2_with fail
  have HAs := Lib.hid HAs2.out.1
  have HPl := Lib.hid HAs2.out.2
  clear HBe H91 m1 m2 m3 m4 m5 n1 hen hed heq hez HAs2 HXo HM6 HM7 n2
  obtain ⟨A2, hA2⟩ : ∃ A2, A2 = (RA.ask A { f0 with typ := 2 }) := ⟨_, rfl⟩
  rw [← hA2] at HE1 HAs HPl
  clear hA2
  have hft : ({ f0 with typ := 4 } : RF).Ok := RF.with_typ HFo.out (i64k (by decide))
  have hxr : ({ RF.zero with typ := 1024, nonce := f0.nonce, addr := f0.addr, res := 4 } : RF).Ok := RF.with_res (RF.with_addr (RF.with_nonce (RF.with_typ RF.zero_ok (x := 1024) (i64k (by decide))) ⟨HFo.out.nl, HFo.out.nb⟩) HFo.out.i1) (x := 4) (i64k (by decide))
  have hxs := RF.sign_ok hxr key
  have hask := fun w h => ask_any A2 { f0 with typ := 4 } g w h HE1.out.ok hft
  have hAk : (RA.ask A2 { f0 with typ := 4 }).Ok := RA.ask_ok HE1.out.ok hft
  have hst := tells_ask (A := A2) (f := { f0 with typ := 4 }) (t := 4) (by decide) rfl
  have hans := fun w h hcl => answer_any (RA.ask A2 { f0 with typ := 4 }) d (!bl) 23 #[.pointer (some ⟨gd, 0, none⟩), .pointer (some ⟨gb, 0, none⟩)] g w h hAk HDk.out (fun args w => Try.call23 args w) hcl
  have hsg2 := rsign_any (RF.sign { RF.zero with typ := 1024, nonce := f0.nonce, addr := f0.addr, res := 4 } key) key
  have heq := eqFrame _ _ hxs hxs
  have hen := fun w => equalIn_u8s 9998 35 16 Try.underlying35 HFo.out.nb HFo.out.nb HFo.out.nl HFo.out.nl w
  have hed := fun w => equalIn_u8s 9998 34 64 Try.underlying34 HDk.out.2 HDk.out.2 HDk.out.1 HDk.out.1 w
  rw [RF.sign_sign _ hxr.tl] at hsg2
  rw [hst.1] at hask
  rw [show (RA.ask A2 { f0 with typ := 4 }).answer d (!bl) = RF.sign { RF.zero with typ := 1024, nonce := f0.nonce, addr := f0.addr, res := 4 } key from tells_read0 HAs.out HPl.out d (!bl) HIn.out] at hans
  simp only [decide_true] at heq hen hed
  unfold RF.val RP.val at hask
  unfold RF.val at hans hsg2
  rw [show RP.zero.cells.toArray = zP from rfl] at hask
  obtain ⟨Ct2, hCt2⟩ : ∃ N, N = ({ f0 with typ := 4 } : RF).cells.toArray := ⟨_, rfl⟩
  have HICt2 : Hid ((Try.prog.info? 37).map (·.size) = some Ct2.size) := Lib.hid (by rw [hCt2]; exact info_f hft)
  have HOCt2 : Hid (zF.size = Ct2.size) := Lib.hid (by rw [hCt2]; exact old_f hft)
  have HECt2 : Hid (Ct2.all (·.oneCell') = true) := Lib.hid (by rw [hCt2]; exact RF.one _)
  have HCt2 := Lib.hid hCt2
  obtain ⟨CX2, hCX2⟩ : ∃ N, N = (RF.sign { RF.zero with typ := 1024, nonce := f0.nonce, addr := f0.addr, res := 4 } key : RF).cells.toArray := ⟨_, rfl⟩
  have HICX2 : Hid ((Try.prog.info? 37).map (·.size) = some CX2.size) := Lib.hid (by rw [hCX2]; exact info_f hxs)
  have HOCX2 : Hid (zF.size = CX2.size) := Lib.hid (by rw [hCX2]; exact old_f hxs)
  have HECX2 : Hid (CX2.all (·.oneCell') = true) := Lib.hid (by rw [hCX2]; exact RF.one _)
  have HCX2 := Lib.hid hCX2
  rw [← hCt2] at hask
  rw [← hCX2] at hans hsg2 heq
  rw [← HKC.out] at hsg2
  rw [← HNL.out] at hen
  rw [← HDL.out] at hed
  have hez : ∀ w, (Op.equalIn 10000 43 (.agg zP) (.agg zP)).run Try.prog w = .ok true w := HEz.out
  have HAk := Lib.hid hAk
  have HAsk := Lib.hid hask
  have HAns := Lib.hid hans
  have HSg2 := Lib.hid (fun w => hsg2 w hxs HKy.out.1 HKy.out.2)
  have HXo := Lib.hid hxs
  have HAs2 : Hid ((RA.ask A2 { f0 with typ := 4 }).s = ⟨key, true, c⟩ ∧ (RA.ask A2 { f0 with typ := 4 }).places = 16) := Lib.hid ⟨HAs.out, HPl.out⟩
  clear hft hxr hxs hask hAk hst hans hsg2 hCt2 hCX2
  have hl0 : we1.cell? ⟨gl, 0, none⟩ = some (.int .i64 2) := HasB.at (HE1.out.at (C := #[.int .i64 2, .int .i64 4]) (T := 3) (by simp)) 0
  have hl1 : we1.cell? ⟨gl, 1, none⟩ = some (.int .i64 4) := HasB.at (HE1.out.at (C := #[.int .i64 2, .int .i64 4]) (T := 3) (by simp)) 1
  have hllt := HasB.lt (HE1.out.at (k := gl) (C := #[.int .i64 2, .int .i64 4]) (T := 3) (by simp))
  have HQq : Hid (we1.heap[gq]? = some (.cells C0 37 (0, 0))) := Lib.hid (HE1.out.at (by simp))
  rw [rounds_succ]
  have HGf0 : Hid (∀ b ∈ [(gl, #[.int .i64 2, .int .i64 4], 3), (gb, #[.bool bl], 4), (gd, DL.toArray, 34), (gq, C0, 37), (gk, KC, 22)], b.1 < we1.heap.size) := Lib.hid (fun b hb => (HE1.out.box b hb).1.lt)
  go_wp2_with (first | (with_reducible refine wpList_load_row rfl 37 (.tmp 7) rfl gq rfl 37 C0 (0, 0) _ HQq.out Try.underlying37 rfl HIC0.out ?_) | (with_reducible refine wpList_store_row rfl 37 (.tmp 15) (.tmp 39) rfl we1.heap.size C0 rfl rfl 37 zF (heap_new we1 _) HIC0.out HOC0.out HEC0.out ?_; rw [World.setRow_alloc_new]; refine Stop.mk ?_))
  refine Stop.go ?_
  have H52 : Hid (KnS w (we1.alloc (.cells C0 37)) g A2 [(we1.heap.size, C0, 37), (gl, #[.int .i64 2, .int .i64 4], 3), (gb, #[.bool bl], 4), (gd, DL.toArray, 34), (gq, C0, 37), (gk, KC, 22)]) := Lib.hid (HE1.out.made C0 _)
  generalize we1.alloc (.cells C0 37) = w52 at H52 ⊢
  obtain ⟨gf2, hgf2⟩ : ∃ g, g = we1.heap.size := ⟨_, rfl⟩
  rw [← hgf2] at H52 ⊢
  have HNe : Hid (∀ b ∈ [(gl, #[.int .i64 2, .int .i64 4], 3), (gb, #[.bool bl], 4), (gd, DL.toArray, 34), (gq, C0, 37), (gk, KC, 22)], b.1 ≠ gf2) := Lib.hid (fun b hb => by have := HGf0.out b hb; omega)
  clear hgf2 HE1
  clear HGf0 HQq hl0 hl1 hllt
  have hfl := HasB.lt (H52.out.at (List.mem_cons_self))
  have hff : w52.frozen? ⟨gf2, 116, none⟩ = false := HasB.free (H52.out.at (List.mem_cons_self)) 116
  have hfc : w52.cell? ⟨gf2, 116, none⟩ = some (.int .i64 f0.typ) := RF.tail_at HFo.out (by rw [← HC0.out]; exact H52.out.at (List.mem_cons_self)) 4 _ rfl
  go_wp2_with (with_reducible refine stop_dst 43 rfl ?_)
  refine Stop.go ?_
  have H62 : Hid (KnS w (w52.setCell ⟨gf2, 116, none⟩ (.int .i64 4)) g A2 [(gf2, Ct2, 37), (gl, #[.int .i64 2, .int .i64 4], 3), (gb, #[.bool bl], 4), (gd, DL.toArray, 34), (gq, C0, 37), (gk, KC, 22)]) := Lib.hid (H52.out.put HNe.out (by rw [HCt2.out]; have := H52.out.at (List.mem_cons_self); rw [HC0.out] at this; exact RF.putTyp HFo.out this 4) (gb_set (gb_refl _ _) _ _))
  generalize w52.setCell ⟨gf2, 116, none⟩ (.int .i64 4) = w62 at H62 ⊢
  clear hfl hff hfc H52 HNe
  have HQ6 : Hid (w62.heap[gf2]? = some (.cells Ct2 37 (0, 0))) := Lib.hid (H62.out.at (by simp))
  refine wpList_load_row rfl 37 (.tmp 15) rfl gf2 rfl 37 Ct2 (0, 0) _ HQ6.out Try.underlying37 rfl HICt2.out ?_
  go_wp2_with fail
  refine (HAsk.out w62 H62.out.area).mono ?_
  rintro e w72 ⟨rfl, hA9, hg9⟩
  have H72 : Hid (KnS w w72 g (RA.ask A2 { f0 with typ := 4 }) [(gf2, Ct2, 37), (gl, #[.int .i64 2, .int .i64 4], 3), (gb, #[.bool bl], 4), (gd, DL.toArray, 34), (gq, C0, 37), (gk, KC, 22)]) := Lib.hid (H62.out.call hA9 HAk.out hg9)
  clear hA9 hg9 HQ6 H62 HAsk
  go_wp2_with fail
  refine (HAns.out w72 H72.out.area (fun x w' hb => tells_clo d HDk.out.1 bl x gd gb w' (by rw [← HDL.out]; exact HasB.below (H72.out.at (k := gd) (by simp)) hb (HasB.lt (H72.out.at (k := gd) (C := DL.toArray) (T := 34) (by simp)))) (HasB.below (H72.out.at (k := gb) (by simp)) hb (HasB.lt (H72.out.at (k := gb) (C := #[.bool bl]) (T := 4) (by simp)))))).mono ?_
  rintro e w82 ⟨rfl, hb8⟩
  have H82 := Lib.hid (H72.out.below hb8)
  clear hb8 H72 HAns
  go_wp2_with (first | (with_reducible refine wpList_store_row rfl 37 (.tmp 16) (.tmp 49) rfl w82.heap.size CX2 rfl rfl 37 zF (heap_new w82 _) HICX2.out HOCX2.out HECX2.out ?_; rw [World.setRow_alloc_new]; refine Stop.mk ?_))
  refine Stop.go ?_
  have H92 : Hid (KnS w (w82.alloc (.cells CX2 37)) g (RA.ask A2 { f0 with typ := 4 }) [(w82.heap.size, CX2, 37), (gf2, Ct2, 37), (gl, #[.int .i64 2, .int .i64 4], 3), (gb, #[.bool bl], 4), (gd, DL.toArray, 34), (gq, C0, 37), (gk, KC, 22)]) := Lib.hid (H82.out.made CX2 _)
  generalize w82.alloc (.cells CX2 37) = w92 at H92 ⊢
  obtain ⟨gx2, hgx2⟩ : ∃ g, g = w82.heap.size := ⟨_, rfl⟩
  rw [← hgx2] at H92 ⊢
  clear hgx2 H82
  have K1 : Hid (∀ w', Below w92.heap.size w92 w' → w'.cell? ⟨gx2, 116, none⟩ = some (.int .i64 1024) ∧ w'.cell? ⟨gx2, 115, none⟩ = some (.int .i64 4) ∧ w'.cell? ⟨gx2, 112, none⟩ = some (.int .u32 0) ∧ w'.cell? ⟨gx2, 114, none⟩ = some (.int .i64 0) ∧ w'.rangeAt gx2 96 NL ∧ w'.rangeAt gx2 32 (u8s (List.replicate 64 0))) := Lib.hid (fun w' hw => by
    have hx : HasB w' gx2 CX2 37 := HasB.below (H92.out.at List.mem_cons_self) hw (HasB.lt (H92.out.at List.mem_cons_self))
    rw [HCX2.out] at hx
    refine ⟨RF.tail_at HXo.out hx 4 _ rfl, RF.tail_at HXo.out hx 3 _ rfl, RF.tail_at HXo.out hx 0 _ rfl, RF.tail_at HXo.out hx 2 _ rfl, ?_, ?_⟩
    · rw [HNL.out]; have := RF.nonce_at HXo.out hx; exact this
    · have := RF.data_at HXo.out hx; exact this)
  have K3 : Hid (∀ w', Below w92.heap.size w92 w' → w'.heap[gx2]? = some (.cells CX2 37 (0, 0))) := Lib.hid (fun w' hw => HasB.below (H92.out.at List.mem_cons_self) hw (HasB.lt (H92.out.at List.mem_cons_self)))
  have K4 : Hid (∀ w', Below w92.heap.size w92 w' → w'.heap[gk]? = some (.cells KC 22 (0, 0))) := Lib.hid (fun w' hw => HasB.below (H92.out.at (k := gk) (by simp)) hw (HasB.lt (H92.out.at (k := gk) (C := KC) (T := 22) (by simp))))
  have K5 : Hid (∀ w', Below w92.heap.size w92 w' → w'.rangeAt gq 96 NL ∧ w'.cell? ⟨gq, 113, none⟩ = some (.int .i64 f0.addr)) := Lib.hid (fun w' hw => by
    have hx : HasB w' gq C0 37 := HasB.below (H92.out.at (k := gq) (by simp)) hw (HasB.lt (H92.out.at (k := gq) (C := C0) (T := 37) (by simp)))
    rw [HC0.out] at hx
    refine ⟨?_, RF.tail_at HFo.out hx 1 _ rfl⟩
    rw [HNL.out]; exact RF.nonce_at HFo.out hx)
  go_wp2_with fail
  refine wp_region_held_drew (S := (fun w' => Below w92.heap.size w92 w')) (by kernel_rfl) ((Below.refl _ _).drew) (fun hHeld => ?_)
  refine held_take 0 (v := ?_) rfl (by kernel_rfl) (by kernel_rfl) (by kernel_rfl) (fun _ _ _ h => h) (by rfl) (fun w hS => ?_) (by assumption) ?_
  rotate_left
  · try dsimp only at hS
    have l1 := K1.out w hS
    have l5 := K5.out w hS
    go_simp <;> with_reducible rfl
  try simp only [Act.put, List.setIfInBounds_toArray, List.set_cons_zero, List.set_cons_succ]
  refine held_take 1 (v := ?_) rfl (by kernel_rfl) (by kernel_rfl) (by kernel_rfl) (fun _ _ _ h => h) (by rfl) (fun w hS => ?_) (by assumption) ?_
  rotate_left
  · try dsimp only at hS
    have l1 := K1.out w hS
    have l5 := K5.out w hS
    go_simp <;> with_reducible rfl
  try simp only [Act.put, List.setIfInBounds_toArray, List.set_cons_zero, List.set_cons_succ]
  refine held_take 2 (v := ?_) rfl (by kernel_rfl) (by kernel_rfl) (by kernel_rfl) (fun _ _ _ h => h) (by rfl) (fun w hS => ?_) (by assumption) ?_
  rotate_left
  · try dsimp only at hS
    have l1 := K1.out w hS
    have l5 := K5.out w hS
    go_simp <;> with_reducible rfl
  try simp only [Act.put, List.setIfInBounds_toArray, List.set_cons_zero, List.set_cons_succ]
  refine held_take 3 (v := ?_) rfl (by kernel_rfl) (by kernel_rfl) (by kernel_rfl) (fun _ _ _ h => h) (by rfl) (fun w hS => ?_) (by assumption) ?_
  rotate_left
  · try dsimp only at hS
    have l1 := K1.out w hS
    have l5 := K5.out w hS
    go_simp <;> with_reducible rfl
  try simp only [Act.put, List.setIfInBounds_toArray, List.set_cons_zero, List.set_cons_succ]
  refine held_take 4 (v := ?_) rfl (by kernel_rfl) (by kernel_rfl) (by kernel_rfl) (fun _ _ _ h => h) (by rfl) (fun w hS => ?_) (by assumption) ?_
  rotate_left
  · try dsimp only at hS
    have l1 := K1.out w hS
    have l5 := K5.out w hS
    go_simp <;> with_reducible rfl
  try simp only [Act.put, List.setIfInBounds_toArray, List.set_cons_zero, List.set_cons_succ]
  refine held_take 5 (v := ?_) rfl (by kernel_rfl) (by kernel_rfl) (by kernel_rfl) (fun _ _ _ h => h) (by rfl) (fun w hS => ?_) (by assumption) ?_
  rotate_left
  · try dsimp only at hS
    have l1 := K1.out w hS
    have l5 := K5.out w hS
    go_simp <;> with_reducible rfl
  try simp only [Act.put, List.setIfInBounds_toArray, List.set_cons_zero, List.set_cons_succ]
  refine held_take 6 (v := ?_) rfl (by kernel_rfl) (by kernel_rfl) (by kernel_rfl) (fun _ _ _ h => h) (by rfl) (fun w hS => ?_) (by assumption) ?_
  rotate_left
  · try dsimp only at hS
    have l1 := K1.out w hS
    have l5 := K5.out w hS
    go_simp <;> with_reducible rfl
  try simp only [Act.put, List.setIfInBounds_toArray, List.set_cons_zero, List.set_cons_succ]
  refine held_take 7 (v := (.agg NL.toArray)) rfl (by kernel_rfl) (by kernel_rfl) (by kernel_rfl) (fun _ _ _ h => h) (by rfl) (fun w hS => ?_) (by assumption) ?_
  · exact yield_load_mid _ _ 35 (.tmp 56) (by rfl) gx2 96 (by rfl) NL _ (K1.out w hS).2.2.2.2.1 Try.underlying35 (by rfl) HIn16.out
  try simp only [Act.put, List.setIfInBounds_toArray, List.set_cons_zero, List.set_cons_succ]
  refine held_take 8 (v := ?_) rfl (by kernel_rfl) (by kernel_rfl) (by kernel_rfl) (fun _ _ _ h => h) (by rfl) (fun w hS => ?_) (by assumption) ?_
  rotate_left
  · try dsimp only at hS
    have l1 := K1.out w hS
    have l5 := K5.out w hS
    go_simp <;> with_reducible rfl
  try simp only [Act.put, List.setIfInBounds_toArray, List.set_cons_zero, List.set_cons_succ]
  refine held_take 9 (v := (.agg NL.toArray)) rfl (by kernel_rfl) (by kernel_rfl) (by kernel_rfl) (fun _ _ _ h => h) (by rfl) (fun w hS => ?_) (by assumption) ?_
  · exact yield_load_mid _ _ 35 (.tmp 58) (by rfl) gq 96 (by rfl) NL _ (K5.out w hS).1 Try.underlying35 (by rfl) HIn16.out
  try simp only [Act.put, List.setIfInBounds_toArray, List.set_cons_zero, List.set_cons_succ]
  refine held_take 10 (v := ?_) rfl (by kernel_rfl) (by kernel_rfl) (by kernel_rfl) (fun _ _ _ h => h) (by rfl) (fun w hS => ?_) (by assumption) ?_
  rotate_left
  · try dsimp only at hS
    have l1 := K1.out w hS
    have l5 := K5.out w hS
    go_simp <;> with_reducible rfl
  try simp only [Act.put, List.setIfInBounds_toArray, List.set_cons_zero, List.set_cons_succ]
  refine held_take 11 (v := ?_) rfl (by kernel_rfl) (by kernel_rfl) (by kernel_rfl) (fun _ _ _ h => h) (by rfl) (fun w hS => ?_) (by assumption) ?_
  rotate_left
  · try dsimp only at hS
    have l1 := K1.out w hS
    have l5 := K5.out w hS
    go_simp <;> with_reducible rfl
  try simp only [Act.put, List.setIfInBounds_toArray, List.set_cons_zero, List.set_cons_succ]
  refine held_take 12 (v := ?_) rfl (by kernel_rfl) (by kernel_rfl) (by kernel_rfl) (fun _ _ _ h => h) (by rfl) (fun w hS => ?_) (by assumption) ?_
  rotate_left
  · try dsimp only at hS
    have l1 := K1.out w hS
    have l5 := K5.out w hS
    go_simp <;> with_reducible rfl
  try simp only [Act.put, List.setIfInBounds_toArray, List.set_cons_zero, List.set_cons_succ]
  refine held_take 13 (v := (.agg CX2)) rfl (by kernel_rfl) (by kernel_rfl) (by kernel_rfl) (fun _ _ _ h => h) (by rfl) (fun w hS => ?_) (by assumption) ?_
  · exact yield_row _ _ 37 (.tmp 16) (by rfl) gx2 (by rfl) 37 CX2 (0, 0) _ (K3.out w hS) Try.underlying37 (by rfl) HICX2.out
  try simp only [Act.put, List.setIfInBounds_toArray, List.set_cons_zero, List.set_cons_succ]
  refine held_take 14 (v := (.agg KC)) rfl (by kernel_rfl) (by kernel_rfl) (by kernel_rfl) (fun _ _ _ h => h) (by rfl) (fun w hS => ?_) (by assumption) ?_
  · exact yield_row _ _ 22 (.tmp 5) (by rfl) gk (by rfl) 22 KC (0, 0) _ (K4.out w hS) Try.underlying22 (by rfl) HIk.out
  try simp only [Act.put, List.setIfInBounds_toArray, List.set_cons_zero, List.set_cons_succ]
  refine held_take 16 (v := (.agg CX2)) rfl (by kernel_rfl) (by kernel_rfl) (by kernel_rfl) (fun _ _ _ h => h) (by rfl) (fun w hS => ?_) (by assumption) ?_
  · exact yield_row _ _ 37 (.tmp 16) (by rfl) gx2 (by rfl) 37 CX2 (0, 0) _ (K3.out w hS) Try.underlying37 (by rfl) HICX2.out
  try simp only [Act.put, List.setIfInBounds_toArray, List.set_cons_zero, List.set_cons_succ]
  refine held_one 15 rfl (by kernel_rfl) (fun K hK => ?_)
  go_simp
  refine (HSg2.out _).mono ?_
  rintro e we2 ⟨rfl, hbe⟩
  have HBe : Hid (Below w92.heap.size w92 we2) := Lib.hid ((Below.refl _ _).drew.trans hbe)
  clear hbe
  refine hK.out _ _ (fun w' => Below w92.heap.size w92 w') (fun _ h => h) HBe.out (fun hHeld => ?_)
  clear hK K
  try simp only [Act.put, List.setIfInBounds_toArray, List.set_cons_zero, List.set_cons_succ]
  refine held_take 17 (v := ?_) rfl (by kernel_rfl) (by kernel_rfl) (by kernel_rfl) (fun _ _ _ h => h) (by rfl) (fun w hS => ?_) (by assumption) ?_
  rotate_left
  · try dsimp only at hS
    have l1 := K1.out w hS
    have l5 := K5.out w hS
    go_simp <;> with_reducible rfl
  try simp only [Act.put, List.setIfInBounds_toArray, List.set_cons_zero, List.set_cons_succ]
  refine held_take 18 (v := ?_) rfl (by kernel_rfl) (by kernel_rfl) (by kernel_rfl) (fun _ _ _ h => h) (by rfl) (fun w hS => ?_) (by assumption) ?_
  rotate_left
  · try dsimp only at hS
    have l1 := K1.out w hS
    have l5 := K5.out w hS
    go_simp <;> with_reducible rfl
  try simp only [Act.put, List.setIfInBounds_toArray, List.set_cons_zero, List.set_cons_succ]
  refine held_done (by kernel_rfl) ?_
  have HE2 : Hid (KnS w we2 g (RA.ask A2 { f0 with typ := 4 }) [(gl, #[.int .i64 2, .int .i64 4], 3), (gb, #[.bool bl], 4), (gd, DL.toArray, 34), (gq, C0, 37), (gk, KC, 22)]) := Lib.hid ⟨(H92.out.below HBe.out).be, H92.out.lg, (H92.out.below HBe.out).area, H92.out.ok, fun x hx => (H92.out.below HBe.out).box x (List.mem_cons_of_mem _ (List.mem_cons_of_mem _ hx))⟩
  have m1 := (K1.out we2 HBe.out).2.1
  have m2 := (K1.out we2 HBe.out).2.2.1
  have m3 := (K1.out we2 HBe.out).2.2.2.1
  have m4 := (K5.out we2 HBe.out).2
  have m5 : we2.cell? ⟨gb, 0, none⟩ = some (.bool bl) := HasB.at (HE2.out.at (C := #[.bool bl]) (T := 4) (by simp)) 0
  have HM6 := Lib.hid (K1.out we2 HBe.out).2.2.2.2.2
  have HM7 : Hid (we2.heap[gd]? = some (.cells DL.toArray 34 (0, 0))) := Lib.hid (HE2.out.at (by simp))
  rw [HBl.out] at m5
  have n1 := HCs.out
  obtain ⟨n1, n2⟩ := n1
  clear K1 K3 K4 K5 HSg2
  obtain ⟨ZL, hZL⟩ : ∃ ZL, ZL = u8s (List.replicate 64 0) := ⟨_, rfl⟩
  have hz64 := neq_zero64
  rw [← hZL] at HM6 hz64
  have HIz64 : Hid ((Try.prog.info? 34).map (·.size) = some ZL.length) := Lib.hid (by rw [hZL]; exact info_d64)
  clear hZL
  go_wp2_with (with_reducible refine stop_dst 122 rfl ?_)
  refine Stop.go ?_
  refine wpList_wanted (by rfl) (fun K hK => ?_)
  refine wp_load_mid 34 (.tmp 121) rfl gx2 32 rfl ZL _ HM6.out Try.underlying34 rfl HIz64.out ?_
  refine hK _ _ ?_
  clear hK K
  go_wp2_with fail
  have HAs := Lib.hid HAs2.out.1
  have HPl := Lib.hid HAs2.out.2
  clear HBe H92 m1 m2 m3 m4 m5 n1 hen hed heq hez HAs2 HXo HM6 HM7 n2 hz64
  rw [rounds_succ]
  go_wp2_with fail
  rw [HPOST.out]
  exact ⟨rfl, HE2.out.be⟩

set_option maxRecDepth 100000 in
set_option maxHeartbeats 8000000 in
theorem tells_c4 (key : List Nat) (hk : key.length = 32 ∧ ∀ c ∈ key, c < 256) (c : Nat) (hc : c < 4294967296) (f0 : RF) (hf : f0.Ok) (d : List Nat) (hd : d.length = 64 ∧ ∀ c ∈ d, c < 256) (w : World) (bl : Bool) (hbl : bl = false) (hcs : (0 : Int) ≤ f0.addr ∧ f0.addr < 16) :
    Calls Try.prog 6 #[.agg (u8s key).toArray, .int .u32 (c : Int), f0.val, .agg (u8s d).toArray, .bool bl] w fun e w' => e = .returned (.bool true) ∧ Below w.heap.size w w' := by
  obtain ⟨POST, hPOST⟩ : ∃ Q : Ending → World → Prop, Q = fun e w' => e = .returned (.bool true) ∧ Below w.heap.size w w' := ⟨_, rfl⟩
  rw [← hPOST]
  have HPOST := Lib.hid hPOST
  have HKy := Lib.hid hk
  have HFo := Lib.hid hf
  have HDk := Lib.hid hd
  have HCt := Lib.hid hc
  have HCs := Lib.hid hcs
  have HBl := Lib.hid hbl
  have HIn : Hid (0 ≤ f0.addr ∧ f0.addr < 16) := Lib.hid (hcs)
  have hso : (⟨key, true, c⟩ : RS).Ok := ⟨hk.1, hk.2, hc⟩
  have HSo := Lib.hid hso
  obtain ⟨KC, hKC⟩ : ∃ KC, KC = (u8s key).toArray := ⟨_, rfl⟩
  have HIk : Hid ((Try.prog.info? 22).map (·.size) = some KC.size) := Lib.hid (by rw [hKC, List.size_toArray, u8s_len, hk.1]; exact info_k32)
  obtain ⟨NL, hNL⟩ : ∃ NL, NL = u8s f0.nonce := ⟨_, rfl⟩
  have HNL := Lib.hid hNL
  have HIn16 : Hid ((Try.prog.info? 35).map (·.size) = some NL.length) := Lib.hid (by rw [hNL, u8s_len, hf.nl]; exact info_n16)
  obtain ⟨DL, hDL⟩ : ∃ DL, DL = u8s d := ⟨_, rfl⟩
  have HDL := Lib.hid hDL
  have HId64 : Hid ((Try.prog.info? 34).map (·.size) = some DL.length) := Lib.hid (by rw [hDL, u8s_len, hd.1]; exact info_d64)
  have HId64a : Hid ((Try.prog.info? 34).map (·.size) = some DL.toArray.size) := Lib.hid (by rw [hDL, List.size_toArray, u8s_len, hd.1]; exact info_d64)
  obtain ⟨C0, hC0⟩ : ∃ N, N = (f0 : RF).cells.toArray := ⟨_, rfl⟩
  have HIC0 : Hid ((Try.prog.info? 37).map (·.size) = some C0.size) := Lib.hid (by rw [hC0]; exact info_f hf)
  have HOC0 : Hid (zF.size = C0.size) := Lib.hid (by rw [hC0]; exact old_f hf)
  have HEC0 : Hid (C0.all (·.oneCell') = true) := Lib.hid (by rw [hC0]; exact RF.one _)
  have HC0 := Lib.hid hC0
  obtain ⟨SC, hSC⟩ : ∃ N, N = (⟨key, true, c⟩ : RS).cells.toArray := ⟨_, rfl⟩
  have HISC : Hid ((Try.prog.info? 31).map (·.size) = some SC.size) := Lib.hid (by rw [hSC, List.size_toArray, RS.len hso]; exact info_st)
  have HOSC : Hid ((#[Value.int .u8 0, Value.int .u8 0, Value.int .u8 0, Value.int .u8 0, Value.int .u8 0, Value.int .u8 0, Value.int .u8 0, Value.int .u8 0, Value.int .u8 0, Value.int .u8 0, Value.int .u8 0, Value.int .u8 0, Value.int .u8 0, Value.int .u8 0, Value.int .u8 0, Value.int .u8 0, Value.int .u8 0, Value.int .u8 0, Value.int .u8 0, Value.int .u8 0, Value.int .u8 0, Value.int .u8 0, Value.int .u8 0, Value.int .u8 0, Value.int .u8 0, Value.int .u8 0, Value.int .u8 0, Value.int .u8 0, Value.int .u8 0, Value.int .u8 0, Value.int .u8 0, Value.int .u8 0, .bool false, .int .u32 0] : Array Value).size = SC.size) := Lib.hid (by rw [show SC.size = 34 by rw [hSC, List.size_toArray, RS.len hso]]; rfl)
  have HESC : Hid (SC.all (·.oneCell') = true) := Lib.hid (by rw [hSC]; exact RS.one _)
  have HSC := Lib.hid hSC
  have hbs := built_sa ⟨key, true, c⟩ hso
  have hnew := fun w => new_has 16 ⟨key, true, c⟩ w (by decide) hso rfl
  unfold RS.val at hnew
  rw [← hSC] at hbs hnew
  have hbs : Try.prog.built 31 [(0, .agg KC), (1, .bool true), (2, .int .u32 (c : Int))] = some SC := by rw [hKC]; exact hbs
  have HBs := Lib.hid hbs
  have HNew := Lib.hid hnew
  have hez := eqStep RP.zero RP.zero RP.zero_ok RP.zero_ok
  simp only [decide_true] at hez
  have HEz := Lib.hid hez
  have HKC := Lib.hid hKC
  unfold RF.val
  rw [← hKC, ← hC0, ← hDL]
  have HW1 : Hid (Below w.heap.size w ((((w.alloc (.cells KC 22)).alloc (.cells C0 37)).alloc (.cells DL.toArray 34)).alloc (.cells #[.bool bl] 4)) ∧ HasB ((((w.alloc (.cells KC 22)).alloc (.cells C0 37)).alloc (.cells DL.toArray 34)).alloc (.cells #[.bool bl] 4)) w.heap.size KC 22 ∧ HasB ((((w.alloc (.cells KC 22)).alloc (.cells C0 37)).alloc (.cells DL.toArray 34)).alloc (.cells #[.bool bl] 4)) (w.heap.size + 1) C0 37 ∧ HasB ((((w.alloc (.cells KC 22)).alloc (.cells C0 37)).alloc (.cells DL.toArray 34)).alloc (.cells #[.bool bl] 4)) (w.heap.size + 1 + 1) DL.toArray 34 ∧ HasB ((((w.alloc (.cells KC 22)).alloc (.cells C0 37)).alloc (.cells DL.toArray 34)).alloc (.cells #[.bool bl] 4)) (w.heap.size + 1 + 1 + 1) #[.bool bl] 4) := Lib.hid ⟨((((Below.refl _ _).alloc (Nat.le_refl _) _).alloc (by simp) _).alloc (by simp; omega) _).alloc (by simp; omega) _, (((HasB.new w _ _).alloc _).alloc _).alloc _, ((HasB.new' (by simp) _ _).alloc _).alloc _, (HasB.new' (by simp) _ _).alloc _, HasB.new' (by simp) _ _⟩
  clear hPOST hk hf hd hc hcs hso hKC hNL hDL hC0 hSC hbs hnew hez hbl
  go_enter Try.func6, Try.ntmps6
  go_wp2_with fail
  generalize ((((w.alloc (.cells KC 22)).alloc (.cells C0 37)).alloc (.cells DL.toArray 34)).alloc (.cells #[.bool bl] 4)) = w1 at HW1 ⊢
  obtain ⟨gk, hgk⟩ : ∃ gk, gk = w.heap.size := ⟨_, rfl⟩
  obtain ⟨gq, hgq⟩ : ∃ gq, gq = w.heap.size + 1 := ⟨_, rfl⟩
  obtain ⟨gd, hgd⟩ : ∃ gd, gd = w.heap.size + 1 + 1 := ⟨_, rfl⟩
  obtain ⟨gb, hgb⟩ : ∃ gb, gb = w.heap.size + 1 + 1 + 1 := ⟨_, rfl⟩
  have HGs : Hid (w.heap.size ≤ gk ∧ w.heap.size ≤ gq ∧ w.heap.size ≤ gd ∧ w.heap.size ≤ gb) := Lib.hid (by omega)
  have HBw : Hid (Below w.heap.size w w1) := Lib.hid HW1.out.1
  have HBx : Hid (HasB w1 gk KC 22 ∧ HasB w1 gq C0 37 ∧ HasB w1 gd DL.toArray 34 ∧ HasB w1 gb #[.bool bl] 4) := Lib.hid (by rw [hgb, hgd, hgq, hgk]; exact HW1.out.2)
  rw [← hgb, ← hgd, ← hgq, ← hgk]
  clear hgk hgq hgd hgb HW1
  refine (known_any w1).mono ?_
  rintro e w2 ⟨rfl, hb⟩
  have HBy : Hid (HasB w2 gk KC 22 ∧ HasB w2 gq C0 37 ∧ HasB w2 gd DL.toArray 34 ∧ HasB w2 gb #[.bool bl] 4) := Lib.hid ⟨HBx.out.1.below hb HBx.out.1.lt, HBx.out.2.1.below hb HBx.out.2.1.lt, HBx.out.2.2.1.below hb HBx.out.2.2.1.lt, HBx.out.2.2.2.below hb HBx.out.2.2.2.lt⟩
  have HBv : Hid (Below w.heap.size w w2) := Lib.hid (HBw.out.trans (hb.mono HBw.out.size))
  have HQk : Hid (w2.heap[gk]? = some (.cells KC 22 (0, 0))) := Lib.hid HBy.out.1
  clear hb HBw HBx
  go_wp2_with (first | (with_reducible refine stop_build 31 _ rfl ?_) | (with_reducible refine wpList_load_row rfl 22 (.tmp 5) rfl gk rfl 22 KC (0, 0) _ HQk.out Try.underlying22 rfl HIk.out ?_))
  refine Stop.go ?_
  refine wpList_buildTo rfl 31 _ rfl _ rfl SC ?_ ?_
  · rw [List.map_toArray]; exact HBs.out
  go_wp2_with fail
  refine (HNew.out w2).mono ?_
  rintro e w3 ⟨g, rfl, hge, hA, hb⟩
  have H3 : Hid (KnS w w3 g (RA.new 16 ⟨key, true, c⟩) [(gb, #[.bool bl], 4), (gd, DL.toArray, 34), (gq, C0, 37), (gk, KC, 22)]) := Lib.hid ⟨HBv.out.trans (hb.mono HBv.out.size), Nat.le_trans HBv.out.size hge, hA, RA.new_ok (by decide) HSo.out, fun b hb2 => by
    have l1 := HBy.out.1.lt
    have l2 := HBy.out.2.1.lt
    have l3 := HBy.out.2.2.1.lt
    have l4 := HBy.out.2.2.2.lt
    have hgs := HGs.out
    simp only [List.mem_cons, List.not_mem_nil, or_false] at hb2
    rcases hb2 with rfl | rfl | rfl | rfl
    · exact ⟨HBy.out.2.2.2.below hb l4, by show gb ≠ g; omega, hgs.2.2.2⟩
    · exact ⟨HBy.out.2.2.1.below hb l3, by show gd ≠ g; omega, hgs.2.2.1⟩
    · exact ⟨HBy.out.2.1.below hb l2, by show gq ≠ g; omega, hgs.2.1⟩
    · exact ⟨HBy.out.1.below hb l1, by show gk ≠ g; omega, hgs.1⟩⟩
  clear hb hA hge HQk HBy HBv
  go_wp2_with fail
  have H4 : Hid (KnS w (w3.alloc (.cells #[.int .i64 2, .int .i64 4] 3)) g (RA.new 16 ⟨key, true, c⟩) [(w3.heap.size, #[.int .i64 2, .int .i64 4], 3), (gb, #[.bool bl], 4), (gd, DL.toArray, 34), (gq, C0, 37), (gk, KC, 22)]) := Lib.hid (H3.out.made _ _)
  generalize w3.alloc (.cells #[.int .i64 2, .int .i64 4] 3) = w4 at H4 ⊢
  obtain ⟨gl, hgl⟩ : ∃ gl, gl = w3.heap.size := ⟨_, rfl⟩
  rw [← hgl] at H4 ⊢
  clear hgl H3
  have HAs : Hid ((RA.new 16 ⟨key, true, c⟩).s = ⟨key, true, c⟩) := Lib.hid rfl
  have HPl : Hid ((RA.new 16 ⟨key, true, c⟩).places = 16) := Lib.hid rfl
  obtain ⟨A, hAe⟩ : ∃ A, A = RA.new 16 ⟨key, true, c⟩ := ⟨_, rfl⟩
  rw [← hAe] at H4 HAs HPl
  clear hAe
  refine wp_loop_rounds 3 ?_
  have hft : ({ f0 with typ := 2 } : RF).Ok := RF.with_typ HFo.out (i64k (by decide))
  have hxr : ({ RF.zero with typ := 512, nonce := f0.nonce, ctr := c } : RF).Ok := RF.with_ctr (RF.with_nonce (RF.with_typ RF.zero_ok (x := 512) (i64k (by decide))) ⟨HFo.out.nl, HFo.out.nb⟩) HCt.out
  have hxs := RF.sign_ok hxr key
  have hask := fun w h => ask_any A { f0 with typ := 2 } g w h H4.out.ok hft
  have hAk : (RA.ask A { f0 with typ := 2 }).Ok := RA.ask_ok H4.out.ok hft
  have hst := tells_ask (A := A) (f := { f0 with typ := 2 }) (t := 2) (by decide) rfl
  have hans := fun w h hcl => answer_any (RA.ask A { f0 with typ := 2 }) d (!bl) 23 #[.pointer (some ⟨gd, 0, none⟩), .pointer (some ⟨gb, 0, none⟩)] g w h hAk HDk.out (fun args w => Try.call23 args w) hcl
  have hsg2 := rsign_any (RF.sign { RF.zero with typ := 512, nonce := f0.nonce, ctr := c } key) key
  have heq := eqFrame _ _ hxs hxs
  have hen := fun w => equalIn_u8s 9998 35 16 Try.underlying35 HFo.out.nb HFo.out.nb HFo.out.nl HFo.out.nl w
  have hed := fun w => equalIn_u8s 9998 34 64 Try.underlying34 HDk.out.2 HDk.out.2 HDk.out.1 HDk.out.1 w
  rw [RF.sign_sign _ hxr.tl] at hsg2
  rw [hst.1] at hask
  rw [show (RA.ask A { f0 with typ := 2 }).answer d (!bl) = RF.sign { RF.zero with typ := 512, nonce := f0.nonce, ctr := c } key from tells_count HAs.out d (!bl)] at hans
  simp only [decide_true] at heq hen hed
  unfold RF.val RP.val at hask
  unfold RF.val at hans hsg2
  rw [show RP.zero.cells.toArray = zP from rfl] at hask
  obtain ⟨Ct1, hCt1⟩ : ∃ N, N = ({ f0 with typ := 2 } : RF).cells.toArray := ⟨_, rfl⟩
  have HICt1 : Hid ((Try.prog.info? 37).map (·.size) = some Ct1.size) := Lib.hid (by rw [hCt1]; exact info_f hft)
  have HOCt1 : Hid (zF.size = Ct1.size) := Lib.hid (by rw [hCt1]; exact old_f hft)
  have HECt1 : Hid (Ct1.all (·.oneCell') = true) := Lib.hid (by rw [hCt1]; exact RF.one _)
  have HCt1 := Lib.hid hCt1
  obtain ⟨CX1, hCX1⟩ : ∃ N, N = (RF.sign { RF.zero with typ := 512, nonce := f0.nonce, ctr := c } key : RF).cells.toArray := ⟨_, rfl⟩
  have HICX1 : Hid ((Try.prog.info? 37).map (·.size) = some CX1.size) := Lib.hid (by rw [hCX1]; exact info_f hxs)
  have HOCX1 : Hid (zF.size = CX1.size) := Lib.hid (by rw [hCX1]; exact old_f hxs)
  have HECX1 : Hid (CX1.all (·.oneCell') = true) := Lib.hid (by rw [hCX1]; exact RF.one _)
  have HCX1 := Lib.hid hCX1
  rw [← hCt1] at hask
  rw [← hCX1] at hans hsg2 heq
  rw [← HKC.out] at hsg2
  rw [← HNL.out] at hen
  rw [← HDL.out] at hed
  have hez : ∀ w, (Op.equalIn 10000 43 (.agg zP) (.agg zP)).run Try.prog w = .ok true w := HEz.out
  have HAk := Lib.hid hAk
  have HAsk := Lib.hid hask
  have HAns := Lib.hid hans
  have HSg2 := Lib.hid (fun w => hsg2 w hxs HKy.out.1 HKy.out.2)
  have HXo := Lib.hid hxs
  have HAs2 : Hid ((RA.ask A { f0 with typ := 2 }).s = ⟨key, true, c⟩ ∧ (RA.ask A { f0 with typ := 2 }).places = 16) := Lib.hid ⟨HAs.out, HPl.out⟩
  clear hft hxr hxs hask hAk hst hans hsg2 hCt1 hCX1
  have hl0 : w4.cell? ⟨gl, 0, none⟩ = some (.int .i64 2) := HasB.at (H4.out.at (C := #[.int .i64 2, .int .i64 4]) (T := 3) (by simp)) 0
  have hl1 : w4.cell? ⟨gl, 1, none⟩ = some (.int .i64 4) := HasB.at (H4.out.at (C := #[.int .i64 2, .int .i64 4]) (T := 3) (by simp)) 1
  have hllt := HasB.lt (H4.out.at (k := gl) (C := #[.int .i64 2, .int .i64 4]) (T := 3) (by simp))
  have HQq : Hid (w4.heap[gq]? = some (.cells C0 37 (0, 0))) := Lib.hid (H4.out.at (by simp))
  rw [rounds_succ]
  have HGf0 : Hid (∀ b ∈ [(gl, #[.int .i64 2, .int .i64 4], 3), (gb, #[.bool bl], 4), (gd, DL.toArray, 34), (gq, C0, 37), (gk, KC, 22)], b.1 < w4.heap.size) := Lib.hid (fun b hb => (H4.out.box b hb).1.lt)
  go_wp2_with (first | (with_reducible refine wpList_load_row rfl 37 (.tmp 7) rfl gq rfl 37 C0 (0, 0) _ HQq.out Try.underlying37 rfl HIC0.out ?_) | (with_reducible refine wpList_store_row rfl 37 (.tmp 15) (.tmp 39) rfl w4.heap.size C0 rfl rfl 37 zF (heap_new w4 _) HIC0.out HOC0.out HEC0.out ?_; rw [World.setRow_alloc_new]; refine Stop.mk ?_))
  refine Stop.go ?_
  have H51 : Hid (KnS w (w4.alloc (.cells C0 37)) g A [(w4.heap.size, C0, 37), (gl, #[.int .i64 2, .int .i64 4], 3), (gb, #[.bool bl], 4), (gd, DL.toArray, 34), (gq, C0, 37), (gk, KC, 22)]) := Lib.hid (H4.out.made C0 _)
  generalize w4.alloc (.cells C0 37) = w51 at H51 ⊢
  obtain ⟨gf1, hgf1⟩ : ∃ g, g = w4.heap.size := ⟨_, rfl⟩
  rw [← hgf1] at H51 ⊢
  have HNe : Hid (∀ b ∈ [(gl, #[.int .i64 2, .int .i64 4], 3), (gb, #[.bool bl], 4), (gd, DL.toArray, 34), (gq, C0, 37), (gk, KC, 22)], b.1 ≠ gf1) := Lib.hid (fun b hb => by have := HGf0.out b hb; omega)
  clear hgf1 H4
  clear HGf0 HQq hl0 hl1 hllt
  have hfl := HasB.lt (H51.out.at (List.mem_cons_self))
  have hff : w51.frozen? ⟨gf1, 116, none⟩ = false := HasB.free (H51.out.at (List.mem_cons_self)) 116
  have hfc : w51.cell? ⟨gf1, 116, none⟩ = some (.int .i64 f0.typ) := RF.tail_at HFo.out (by rw [← HC0.out]; exact H51.out.at (List.mem_cons_self)) 4 _ rfl
  go_wp2_with (with_reducible refine stop_dst 43 rfl ?_)
  refine Stop.go ?_
  have H61 : Hid (KnS w (w51.setCell ⟨gf1, 116, none⟩ (.int .i64 2)) g A [(gf1, Ct1, 37), (gl, #[.int .i64 2, .int .i64 4], 3), (gb, #[.bool bl], 4), (gd, DL.toArray, 34), (gq, C0, 37), (gk, KC, 22)]) := Lib.hid (H51.out.put HNe.out (by rw [HCt1.out]; have := H51.out.at (List.mem_cons_self); rw [HC0.out] at this; exact RF.putTyp HFo.out this 2) (gb_set (gb_refl _ _) _ _))
  generalize w51.setCell ⟨gf1, 116, none⟩ (.int .i64 2) = w61 at H61 ⊢
  clear hfl hff hfc H51 HNe
  have HQ6 : Hid (w61.heap[gf1]? = some (.cells Ct1 37 (0, 0))) := Lib.hid (H61.out.at (by simp))
  refine wpList_load_row rfl 37 (.tmp 15) rfl gf1 rfl 37 Ct1 (0, 0) _ HQ6.out Try.underlying37 rfl HICt1.out ?_
  go_wp2_with fail
  refine (HAsk.out w61 H61.out.area).mono ?_
  rintro e w71 ⟨rfl, hA9, hg9⟩
  have H71 : Hid (KnS w w71 g (RA.ask A { f0 with typ := 2 }) [(gf1, Ct1, 37), (gl, #[.int .i64 2, .int .i64 4], 3), (gb, #[.bool bl], 4), (gd, DL.toArray, 34), (gq, C0, 37), (gk, KC, 22)]) := Lib.hid (H61.out.call hA9 HAk.out hg9)
  clear hA9 hg9 HQ6 H61 HAsk
  go_wp2_with fail
  refine (HAns.out w71 H71.out.area (fun x w' hb => tells_clo d HDk.out.1 bl x gd gb w' (by rw [← HDL.out]; exact HasB.below (H71.out.at (k := gd) (by simp)) hb (HasB.lt (H71.out.at (k := gd) (C := DL.toArray) (T := 34) (by simp)))) (HasB.below (H71.out.at (k := gb) (by simp)) hb (HasB.lt (H71.out.at (k := gb) (C := #[.bool bl]) (T := 4) (by simp)))))).mono ?_
  rintro e w81 ⟨rfl, hb8⟩
  have H81 := Lib.hid (H71.out.below hb8)
  clear hb8 H71 HAns
  go_wp2_with (first | (with_reducible refine wpList_store_row rfl 37 (.tmp 16) (.tmp 49) rfl w81.heap.size CX1 rfl rfl 37 zF (heap_new w81 _) HICX1.out HOCX1.out HECX1.out ?_; rw [World.setRow_alloc_new]; refine Stop.mk ?_))
  refine Stop.go ?_
  have H91 : Hid (KnS w (w81.alloc (.cells CX1 37)) g (RA.ask A { f0 with typ := 2 }) [(w81.heap.size, CX1, 37), (gf1, Ct1, 37), (gl, #[.int .i64 2, .int .i64 4], 3), (gb, #[.bool bl], 4), (gd, DL.toArray, 34), (gq, C0, 37), (gk, KC, 22)]) := Lib.hid (H81.out.made CX1 _)
  generalize w81.alloc (.cells CX1 37) = w91 at H91 ⊢
  obtain ⟨gx1, hgx1⟩ : ∃ g, g = w81.heap.size := ⟨_, rfl⟩
  rw [← hgx1] at H91 ⊢
  clear hgx1 H81
  have K1 : Hid (∀ w', Below w91.heap.size w91 w' → w'.cell? ⟨gx1, 116, none⟩ = some (.int .i64 512) ∧ w'.cell? ⟨gx1, 115, none⟩ = some (.int .i64 0) ∧ w'.cell? ⟨gx1, 112, none⟩ = some (.int .u32 (c : Int)) ∧ w'.cell? ⟨gx1, 114, none⟩ = some (.int .i64 0) ∧ w'.rangeAt gx1 96 NL ∧ w'.rangeAt gx1 32 (u8s (List.replicate 64 0))) := Lib.hid (fun w' hw => by
    have hx : HasB w' gx1 CX1 37 := HasB.below (H91.out.at List.mem_cons_self) hw (HasB.lt (H91.out.at List.mem_cons_self))
    rw [HCX1.out] at hx
    refine ⟨RF.tail_at HXo.out hx 4 _ rfl, RF.tail_at HXo.out hx 3 _ rfl, RF.tail_at HXo.out hx 0 _ rfl, RF.tail_at HXo.out hx 2 _ rfl, ?_, ?_⟩
    · rw [HNL.out]; have := RF.nonce_at HXo.out hx; exact this
    · have := RF.data_at HXo.out hx; exact this)
  have K3 : Hid (∀ w', Below w91.heap.size w91 w' → w'.heap[gx1]? = some (.cells CX1 37 (0, 0))) := Lib.hid (fun w' hw => HasB.below (H91.out.at List.mem_cons_self) hw (HasB.lt (H91.out.at List.mem_cons_self)))
  have K4 : Hid (∀ w', Below w91.heap.size w91 w' → w'.heap[gk]? = some (.cells KC 22 (0, 0))) := Lib.hid (fun w' hw => HasB.below (H91.out.at (k := gk) (by simp)) hw (HasB.lt (H91.out.at (k := gk) (C := KC) (T := 22) (by simp))))
  have K5 : Hid (∀ w', Below w91.heap.size w91 w' → w'.rangeAt gq 96 NL ∧ w'.cell? ⟨gq, 113, none⟩ = some (.int .i64 f0.addr)) := Lib.hid (fun w' hw => by
    have hx : HasB w' gq C0 37 := HasB.below (H91.out.at (k := gq) (by simp)) hw (HasB.lt (H91.out.at (k := gq) (C := C0) (T := 37) (by simp)))
    rw [HC0.out] at hx
    refine ⟨?_, RF.tail_at HFo.out hx 1 _ rfl⟩
    rw [HNL.out]; exact RF.nonce_at HFo.out hx)
  go_wp2_with fail
  refine wp_region_held_drew (S := (fun w' => Below w91.heap.size w91 w')) (by kernel_rfl) ((Below.refl _ _).drew) (fun hHeld => ?_)
  refine held_take 0 (v := ?_) rfl (by kernel_rfl) (by kernel_rfl) (by kernel_rfl) (fun _ _ _ h => h) (by rfl) (fun w hS => ?_) (by assumption) ?_
  rotate_left
  · try dsimp only at hS
    have l1 := K1.out w hS
    have l5 := K5.out w hS
    go_simp <;> with_reducible rfl
  try simp only [Act.put, List.setIfInBounds_toArray, List.set_cons_zero, List.set_cons_succ]
  refine held_take 1 (v := ?_) rfl (by kernel_rfl) (by kernel_rfl) (by kernel_rfl) (fun _ _ _ h => h) (by rfl) (fun w hS => ?_) (by assumption) ?_
  rotate_left
  · try dsimp only at hS
    have l1 := K1.out w hS
    have l5 := K5.out w hS
    go_simp <;> with_reducible rfl
  try simp only [Act.put, List.setIfInBounds_toArray, List.set_cons_zero, List.set_cons_succ]
  refine held_take 2 (v := ?_) rfl (by kernel_rfl) (by kernel_rfl) (by kernel_rfl) (fun _ _ _ h => h) (by rfl) (fun w hS => ?_) (by assumption) ?_
  rotate_left
  · try dsimp only at hS
    have l1 := K1.out w hS
    have l5 := K5.out w hS
    go_simp <;> with_reducible rfl
  try simp only [Act.put, List.setIfInBounds_toArray, List.set_cons_zero, List.set_cons_succ]
  refine held_take 3 (v := ?_) rfl (by kernel_rfl) (by kernel_rfl) (by kernel_rfl) (fun _ _ _ h => h) (by rfl) (fun w hS => ?_) (by assumption) ?_
  rotate_left
  · try dsimp only at hS
    have l1 := K1.out w hS
    have l5 := K5.out w hS
    go_simp <;> with_reducible rfl
  try simp only [Act.put, List.setIfInBounds_toArray, List.set_cons_zero, List.set_cons_succ]
  refine held_take 4 (v := ?_) rfl (by kernel_rfl) (by kernel_rfl) (by kernel_rfl) (fun _ _ _ h => h) (by rfl) (fun w hS => ?_) (by assumption) ?_
  rotate_left
  · try dsimp only at hS
    have l1 := K1.out w hS
    have l5 := K5.out w hS
    go_simp <;> with_reducible rfl
  try simp only [Act.put, List.setIfInBounds_toArray, List.set_cons_zero, List.set_cons_succ]
  refine held_take 5 (v := ?_) rfl (by kernel_rfl) (by kernel_rfl) (by kernel_rfl) (fun _ _ _ h => h) (by rfl) (fun w hS => ?_) (by assumption) ?_
  rotate_left
  · try dsimp only at hS
    have l1 := K1.out w hS
    have l5 := K5.out w hS
    go_simp <;> with_reducible rfl
  try simp only [Act.put, List.setIfInBounds_toArray, List.set_cons_zero, List.set_cons_succ]
  refine held_take 6 (v := ?_) rfl (by kernel_rfl) (by kernel_rfl) (by kernel_rfl) (fun _ _ _ h => h) (by rfl) (fun w hS => ?_) (by assumption) ?_
  rotate_left
  · try dsimp only at hS
    have l1 := K1.out w hS
    have l5 := K5.out w hS
    go_simp <;> with_reducible rfl
  try simp only [Act.put, List.setIfInBounds_toArray, List.set_cons_zero, List.set_cons_succ]
  refine held_take 7 (v := (.agg NL.toArray)) rfl (by kernel_rfl) (by kernel_rfl) (by kernel_rfl) (fun _ _ _ h => h) (by rfl) (fun w hS => ?_) (by assumption) ?_
  · exact yield_load_mid _ _ 35 (.tmp 56) (by rfl) gx1 96 (by rfl) NL _ (K1.out w hS).2.2.2.2.1 Try.underlying35 (by rfl) HIn16.out
  try simp only [Act.put, List.setIfInBounds_toArray, List.set_cons_zero, List.set_cons_succ]
  refine held_take 8 (v := ?_) rfl (by kernel_rfl) (by kernel_rfl) (by kernel_rfl) (fun _ _ _ h => h) (by rfl) (fun w hS => ?_) (by assumption) ?_
  rotate_left
  · try dsimp only at hS
    have l1 := K1.out w hS
    have l5 := K5.out w hS
    go_simp <;> with_reducible rfl
  try simp only [Act.put, List.setIfInBounds_toArray, List.set_cons_zero, List.set_cons_succ]
  refine held_take 9 (v := (.agg NL.toArray)) rfl (by kernel_rfl) (by kernel_rfl) (by kernel_rfl) (fun _ _ _ h => h) (by rfl) (fun w hS => ?_) (by assumption) ?_
  · exact yield_load_mid _ _ 35 (.tmp 58) (by rfl) gq 96 (by rfl) NL _ (K5.out w hS).1 Try.underlying35 (by rfl) HIn16.out
  try simp only [Act.put, List.setIfInBounds_toArray, List.set_cons_zero, List.set_cons_succ]
  refine held_take 10 (v := ?_) rfl (by kernel_rfl) (by kernel_rfl) (by kernel_rfl) (fun _ _ _ h => h) (by rfl) (fun w hS => ?_) (by assumption) ?_
  rotate_left
  · try dsimp only at hS
    have l1 := K1.out w hS
    have l5 := K5.out w hS
    go_simp <;> with_reducible rfl
  try simp only [Act.put, List.setIfInBounds_toArray, List.set_cons_zero, List.set_cons_succ]
  refine held_take 11 (v := ?_) rfl (by kernel_rfl) (by kernel_rfl) (by kernel_rfl) (fun _ _ _ h => h) (by rfl) (fun w hS => ?_) (by assumption) ?_
  rotate_left
  · try dsimp only at hS
    have l1 := K1.out w hS
    have l5 := K5.out w hS
    go_simp <;> with_reducible rfl
  try simp only [Act.put, List.setIfInBounds_toArray, List.set_cons_zero, List.set_cons_succ]
  refine held_take 12 (v := ?_) rfl (by kernel_rfl) (by kernel_rfl) (by kernel_rfl) (fun _ _ _ h => h) (by rfl) (fun w hS => ?_) (by assumption) ?_
  rotate_left
  · try dsimp only at hS
    have l1 := K1.out w hS
    have l5 := K5.out w hS
    go_simp <;> with_reducible rfl
  try simp only [Act.put, List.setIfInBounds_toArray, List.set_cons_zero, List.set_cons_succ]
  refine held_take 13 (v := (.agg CX1)) rfl (by kernel_rfl) (by kernel_rfl) (by kernel_rfl) (fun _ _ _ h => h) (by rfl) (fun w hS => ?_) (by assumption) ?_
  · exact yield_row _ _ 37 (.tmp 16) (by rfl) gx1 (by rfl) 37 CX1 (0, 0) _ (K3.out w hS) Try.underlying37 (by rfl) HICX1.out
  try simp only [Act.put, List.setIfInBounds_toArray, List.set_cons_zero, List.set_cons_succ]
  refine held_take 14 (v := (.agg KC)) rfl (by kernel_rfl) (by kernel_rfl) (by kernel_rfl) (fun _ _ _ h => h) (by rfl) (fun w hS => ?_) (by assumption) ?_
  · exact yield_row _ _ 22 (.tmp 5) (by rfl) gk (by rfl) 22 KC (0, 0) _ (K4.out w hS) Try.underlying22 (by rfl) HIk.out
  try simp only [Act.put, List.setIfInBounds_toArray, List.set_cons_zero, List.set_cons_succ]
  refine held_take 16 (v := (.agg CX1)) rfl (by kernel_rfl) (by kernel_rfl) (by kernel_rfl) (fun _ _ _ h => h) (by rfl) (fun w hS => ?_) (by assumption) ?_
  · exact yield_row _ _ 37 (.tmp 16) (by rfl) gx1 (by rfl) 37 CX1 (0, 0) _ (K3.out w hS) Try.underlying37 (by rfl) HICX1.out
  try simp only [Act.put, List.setIfInBounds_toArray, List.set_cons_zero, List.set_cons_succ]
  refine held_one 15 rfl (by kernel_rfl) (fun K hK => ?_)
  go_simp
  refine (HSg2.out _).mono ?_
  rintro e we1 ⟨rfl, hbe⟩
  have HBe : Hid (Below w91.heap.size w91 we1) := Lib.hid ((Below.refl _ _).drew.trans hbe)
  clear hbe
  refine hK.out _ _ (fun w' => Below w91.heap.size w91 w') (fun _ h => h) HBe.out (fun hHeld => ?_)
  clear hK K
  try simp only [Act.put, List.setIfInBounds_toArray, List.set_cons_zero, List.set_cons_succ]
  refine held_take 17 (v := ?_) rfl (by kernel_rfl) (by kernel_rfl) (by kernel_rfl) (fun _ _ _ h => h) (by rfl) (fun w hS => ?_) (by assumption) ?_
  rotate_left
  · try dsimp only at hS
    have l1 := K1.out w hS
    have l5 := K5.out w hS
    go_simp <;> with_reducible rfl
  try simp only [Act.put, List.setIfInBounds_toArray, List.set_cons_zero, List.set_cons_succ]
  refine held_take 18 (v := ?_) rfl (by kernel_rfl) (by kernel_rfl) (by kernel_rfl) (fun _ _ _ h => h) (by rfl) (fun w hS => ?_) (by assumption) ?_
  rotate_left
  · try dsimp only at hS
    have l1 := K1.out w hS
    have l5 := K5.out w hS
    go_simp <;> with_reducible rfl
  try simp only [Act.put, List.setIfInBounds_toArray, List.set_cons_zero, List.set_cons_succ]
  refine held_done (by kernel_rfl) ?_
  have HE1 : Hid (KnS w we1 g (RA.ask A { f0 with typ := 2 }) [(gl, #[.int .i64 2, .int .i64 4], 3), (gb, #[.bool bl], 4), (gd, DL.toArray, 34), (gq, C0, 37), (gk, KC, 22)]) := Lib.hid ⟨(H91.out.below HBe.out).be, H91.out.lg, (H91.out.below HBe.out).area, H91.out.ok, fun x hx => (H91.out.below HBe.out).box x (List.mem_cons_of_mem _ (List.mem_cons_of_mem _ hx))⟩
  have m1 := (K1.out we1 HBe.out).2.1
  have m2 := (K1.out we1 HBe.out).2.2.1
  have m3 := (K1.out we1 HBe.out).2.2.2.1
  have m4 := (K5.out we1 HBe.out).2
  have m5 : we1.cell? ⟨gb, 0, none⟩ = some (.bool bl) := HasB.at (HE1.out.at (C := #[.bool bl]) (T := 4) (by simp)) 0
  have HM6 := Lib.hid (K1.out we1 HBe.out).2.2.2.2.2
  have HM7 : Hid (we1.heap[gd]? = some (.cells DL.toArray 34 (0, 0))) := Lib.hid (HE1.out.at (by simp))
  rw [HBl.out] at m5
  have n1 := HCs.out
  obtain ⟨n1, n2⟩ := n1
  clear K1 K3 K4 K5 HSg2
  go_wp2_with fail
  have HAs := Lib.hid HAs2.out.1
  have HPl := Lib.hid HAs2.out.2
  clear HBe H91 m1 m2 m3 m4 m5 n1 hen hed heq hez HAs2 HXo HM6 HM7 n2
  obtain ⟨A2, hA2⟩ : ∃ A2, A2 = (RA.ask A { f0 with typ := 2 }) := ⟨_, rfl⟩
  rw [← hA2] at HE1 HAs HPl
  clear hA2
  have hft : ({ f0 with typ := 4 } : RF).Ok := RF.with_typ HFo.out (i64k (by decide))
  have hxr : ({ RF.zero with typ := 1024, nonce := f0.nonce, addr := f0.addr, res := 0, data := d, count := 1 } : RF).Ok := RF.with_count (RF.with_data (RF.with_res (RF.with_addr (RF.with_nonce (RF.with_typ RF.zero_ok (x := 1024) (i64k (by decide))) ⟨HFo.out.nl, HFo.out.nb⟩) HFo.out.i1) i64_0) HDk.out) (x := 1) (i64k (by decide))
  have hxs := RF.sign_ok hxr key
  have hask := fun w h => ask_any A2 { f0 with typ := 4 } g w h HE1.out.ok hft
  have hAk : (RA.ask A2 { f0 with typ := 4 }).Ok := RA.ask_ok HE1.out.ok hft
  have hst := tells_ask (A := A2) (f := { f0 with typ := 4 }) (t := 4) (by decide) rfl
  have hans := fun w h hcl => answer_any (RA.ask A2 { f0 with typ := 4 }) d (!bl) 23 #[.pointer (some ⟨gd, 0, none⟩), .pointer (some ⟨gb, 0, none⟩)] g w h hAk HDk.out (fun args w => Try.call23 args w) hcl
  have hsg2 := rsign_any (RF.sign { RF.zero with typ := 1024, nonce := f0.nonce, addr := f0.addr, res := 0, data := d, count := 1 } key) key
  have heq := eqFrame _ _ hxs hxs
  have hen := fun w => equalIn_u8s 9998 35 16 Try.underlying35 HFo.out.nb HFo.out.nb HFo.out.nl HFo.out.nl w
  have hed := fun w => equalIn_u8s 9998 34 64 Try.underlying34 HDk.out.2 HDk.out.2 HDk.out.1 HDk.out.1 w
  rw [RF.sign_sign _ hxr.tl] at hsg2
  rw [hst.1] at hask
  rw [show (RA.ask A2 { f0 with typ := 4 }).answer d (!bl) = RF.sign { RF.zero with typ := 1024, nonce := f0.nonce, addr := f0.addr, res := 0, data := d, count := 1 } key from by rw [show (!bl) = true by rw [HBl.out]; rfl]; exact tells_read1 HAs.out HPl.out d HIn.out] at hans
  simp only [decide_true] at heq hen hed
  unfold RF.val RP.val at hask
  unfold RF.val at hans hsg2
  rw [show RP.zero.cells.toArray = zP from rfl] at hask
  obtain ⟨Ct2, hCt2⟩ : ∃ N, N = ({ f0 with typ := 4 } : RF).cells.toArray := ⟨_, rfl⟩
  have HICt2 : Hid ((Try.prog.info? 37).map (·.size) = some Ct2.size) := Lib.hid (by rw [hCt2]; exact info_f hft)
  have HOCt2 : Hid (zF.size = Ct2.size) := Lib.hid (by rw [hCt2]; exact old_f hft)
  have HECt2 : Hid (Ct2.all (·.oneCell') = true) := Lib.hid (by rw [hCt2]; exact RF.one _)
  have HCt2 := Lib.hid hCt2
  obtain ⟨CX2, hCX2⟩ : ∃ N, N = (RF.sign { RF.zero with typ := 1024, nonce := f0.nonce, addr := f0.addr, res := 0, data := d, count := 1 } key : RF).cells.toArray := ⟨_, rfl⟩
  have HICX2 : Hid ((Try.prog.info? 37).map (·.size) = some CX2.size) := Lib.hid (by rw [hCX2]; exact info_f hxs)
  have HOCX2 : Hid (zF.size = CX2.size) := Lib.hid (by rw [hCX2]; exact old_f hxs)
  have HECX2 : Hid (CX2.all (·.oneCell') = true) := Lib.hid (by rw [hCX2]; exact RF.one _)
  have HCX2 := Lib.hid hCX2
  rw [← hCt2] at hask
  rw [← hCX2] at hans hsg2 heq
  rw [← HKC.out] at hsg2
  rw [← HNL.out] at hen
  rw [← HDL.out] at hed
  have hez : ∀ w, (Op.equalIn 10000 43 (.agg zP) (.agg zP)).run Try.prog w = .ok true w := HEz.out
  have HAk := Lib.hid hAk
  have HAsk := Lib.hid hask
  have HAns := Lib.hid hans
  have HSg2 := Lib.hid (fun w => hsg2 w hxs HKy.out.1 HKy.out.2)
  have HXo := Lib.hid hxs
  have HAs2 : Hid ((RA.ask A2 { f0 with typ := 4 }).s = ⟨key, true, c⟩ ∧ (RA.ask A2 { f0 with typ := 4 }).places = 16) := Lib.hid ⟨HAs.out, HPl.out⟩
  clear hft hxr hxs hask hAk hst hans hsg2 hCt2 hCX2
  have hl0 : we1.cell? ⟨gl, 0, none⟩ = some (.int .i64 2) := HasB.at (HE1.out.at (C := #[.int .i64 2, .int .i64 4]) (T := 3) (by simp)) 0
  have hl1 : we1.cell? ⟨gl, 1, none⟩ = some (.int .i64 4) := HasB.at (HE1.out.at (C := #[.int .i64 2, .int .i64 4]) (T := 3) (by simp)) 1
  have hllt := HasB.lt (HE1.out.at (k := gl) (C := #[.int .i64 2, .int .i64 4]) (T := 3) (by simp))
  have HQq : Hid (we1.heap[gq]? = some (.cells C0 37 (0, 0))) := Lib.hid (HE1.out.at (by simp))
  rw [rounds_succ]
  have HGf0 : Hid (∀ b ∈ [(gl, #[.int .i64 2, .int .i64 4], 3), (gb, #[.bool bl], 4), (gd, DL.toArray, 34), (gq, C0, 37), (gk, KC, 22)], b.1 < we1.heap.size) := Lib.hid (fun b hb => (HE1.out.box b hb).1.lt)
  go_wp2_with (first | (with_reducible refine wpList_load_row rfl 37 (.tmp 7) rfl gq rfl 37 C0 (0, 0) _ HQq.out Try.underlying37 rfl HIC0.out ?_) | (with_reducible refine wpList_store_row rfl 37 (.tmp 15) (.tmp 39) rfl we1.heap.size C0 rfl rfl 37 zF (heap_new we1 _) HIC0.out HOC0.out HEC0.out ?_; rw [World.setRow_alloc_new]; refine Stop.mk ?_))
  refine Stop.go ?_
  have H52 : Hid (KnS w (we1.alloc (.cells C0 37)) g A2 [(we1.heap.size, C0, 37), (gl, #[.int .i64 2, .int .i64 4], 3), (gb, #[.bool bl], 4), (gd, DL.toArray, 34), (gq, C0, 37), (gk, KC, 22)]) := Lib.hid (HE1.out.made C0 _)
  generalize we1.alloc (.cells C0 37) = w52 at H52 ⊢
  obtain ⟨gf2, hgf2⟩ : ∃ g, g = we1.heap.size := ⟨_, rfl⟩
  rw [← hgf2] at H52 ⊢
  have HNe : Hid (∀ b ∈ [(gl, #[.int .i64 2, .int .i64 4], 3), (gb, #[.bool bl], 4), (gd, DL.toArray, 34), (gq, C0, 37), (gk, KC, 22)], b.1 ≠ gf2) := Lib.hid (fun b hb => by have := HGf0.out b hb; omega)
  clear hgf2 HE1
  clear HGf0 HQq hl0 hl1 hllt
  have hfl := HasB.lt (H52.out.at (List.mem_cons_self))
  have hff : w52.frozen? ⟨gf2, 116, none⟩ = false := HasB.free (H52.out.at (List.mem_cons_self)) 116
  have hfc : w52.cell? ⟨gf2, 116, none⟩ = some (.int .i64 f0.typ) := RF.tail_at HFo.out (by rw [← HC0.out]; exact H52.out.at (List.mem_cons_self)) 4 _ rfl
  go_wp2_with (with_reducible refine stop_dst 43 rfl ?_)
  refine Stop.go ?_
  have H62 : Hid (KnS w (w52.setCell ⟨gf2, 116, none⟩ (.int .i64 4)) g A2 [(gf2, Ct2, 37), (gl, #[.int .i64 2, .int .i64 4], 3), (gb, #[.bool bl], 4), (gd, DL.toArray, 34), (gq, C0, 37), (gk, KC, 22)]) := Lib.hid (H52.out.put HNe.out (by rw [HCt2.out]; have := H52.out.at (List.mem_cons_self); rw [HC0.out] at this; exact RF.putTyp HFo.out this 4) (gb_set (gb_refl _ _) _ _))
  generalize w52.setCell ⟨gf2, 116, none⟩ (.int .i64 4) = w62 at H62 ⊢
  clear hfl hff hfc H52 HNe
  have HQ6 : Hid (w62.heap[gf2]? = some (.cells Ct2 37 (0, 0))) := Lib.hid (H62.out.at (by simp))
  refine wpList_load_row rfl 37 (.tmp 15) rfl gf2 rfl 37 Ct2 (0, 0) _ HQ6.out Try.underlying37 rfl HICt2.out ?_
  go_wp2_with fail
  refine (HAsk.out w62 H62.out.area).mono ?_
  rintro e w72 ⟨rfl, hA9, hg9⟩
  have H72 : Hid (KnS w w72 g (RA.ask A2 { f0 with typ := 4 }) [(gf2, Ct2, 37), (gl, #[.int .i64 2, .int .i64 4], 3), (gb, #[.bool bl], 4), (gd, DL.toArray, 34), (gq, C0, 37), (gk, KC, 22)]) := Lib.hid (H62.out.call hA9 HAk.out hg9)
  clear hA9 hg9 HQ6 H62 HAsk
  go_wp2_with fail
  refine (HAns.out w72 H72.out.area (fun x w' hb => tells_clo d HDk.out.1 bl x gd gb w' (by rw [← HDL.out]; exact HasB.below (H72.out.at (k := gd) (by simp)) hb (HasB.lt (H72.out.at (k := gd) (C := DL.toArray) (T := 34) (by simp)))) (HasB.below (H72.out.at (k := gb) (by simp)) hb (HasB.lt (H72.out.at (k := gb) (C := #[.bool bl]) (T := 4) (by simp)))))).mono ?_
  rintro e w82 ⟨rfl, hb8⟩
  have H82 := Lib.hid (H72.out.below hb8)
  clear hb8 H72 HAns
  go_wp2_with (first | (with_reducible refine wpList_store_row rfl 37 (.tmp 16) (.tmp 49) rfl w82.heap.size CX2 rfl rfl 37 zF (heap_new w82 _) HICX2.out HOCX2.out HECX2.out ?_; rw [World.setRow_alloc_new]; refine Stop.mk ?_))
  refine Stop.go ?_
  have H92 : Hid (KnS w (w82.alloc (.cells CX2 37)) g (RA.ask A2 { f0 with typ := 4 }) [(w82.heap.size, CX2, 37), (gf2, Ct2, 37), (gl, #[.int .i64 2, .int .i64 4], 3), (gb, #[.bool bl], 4), (gd, DL.toArray, 34), (gq, C0, 37), (gk, KC, 22)]) := Lib.hid (H82.out.made CX2 _)
  generalize w82.alloc (.cells CX2 37) = w92 at H92 ⊢
  obtain ⟨gx2, hgx2⟩ : ∃ g, g = w82.heap.size := ⟨_, rfl⟩
  rw [← hgx2] at H92 ⊢
  clear hgx2 H82
  have K1 : Hid (∀ w', Below w92.heap.size w92 w' → w'.cell? ⟨gx2, 116, none⟩ = some (.int .i64 1024) ∧ w'.cell? ⟨gx2, 115, none⟩ = some (.int .i64 0) ∧ w'.cell? ⟨gx2, 112, none⟩ = some (.int .u32 0) ∧ w'.cell? ⟨gx2, 114, none⟩ = some (.int .i64 1) ∧ w'.rangeAt gx2 96 NL ∧ w'.rangeAt gx2 32 (u8s d)) := Lib.hid (fun w' hw => by
    have hx : HasB w' gx2 CX2 37 := HasB.below (H92.out.at List.mem_cons_self) hw (HasB.lt (H92.out.at List.mem_cons_self))
    rw [HCX2.out] at hx
    refine ⟨RF.tail_at HXo.out hx 4 _ rfl, RF.tail_at HXo.out hx 3 _ rfl, RF.tail_at HXo.out hx 0 _ rfl, RF.tail_at HXo.out hx 2 _ rfl, ?_, ?_⟩
    · rw [HNL.out]; have := RF.nonce_at HXo.out hx; exact this
    · have := RF.data_at HXo.out hx; exact this)
  have K3 : Hid (∀ w', Below w92.heap.size w92 w' → w'.heap[gx2]? = some (.cells CX2 37 (0, 0))) := Lib.hid (fun w' hw => HasB.below (H92.out.at List.mem_cons_self) hw (HasB.lt (H92.out.at List.mem_cons_self)))
  have K4 : Hid (∀ w', Below w92.heap.size w92 w' → w'.heap[gk]? = some (.cells KC 22 (0, 0))) := Lib.hid (fun w' hw => HasB.below (H92.out.at (k := gk) (by simp)) hw (HasB.lt (H92.out.at (k := gk) (C := KC) (T := 22) (by simp))))
  have K5 : Hid (∀ w', Below w92.heap.size w92 w' → w'.rangeAt gq 96 NL ∧ w'.cell? ⟨gq, 113, none⟩ = some (.int .i64 f0.addr)) := Lib.hid (fun w' hw => by
    have hx : HasB w' gq C0 37 := HasB.below (H92.out.at (k := gq) (by simp)) hw (HasB.lt (H92.out.at (k := gq) (C := C0) (T := 37) (by simp)))
    rw [HC0.out] at hx
    refine ⟨?_, RF.tail_at HFo.out hx 1 _ rfl⟩
    rw [HNL.out]; exact RF.nonce_at HFo.out hx)
  go_wp2_with fail
  refine wp_region_held_drew (S := (fun w' => Below w92.heap.size w92 w')) (by kernel_rfl) ((Below.refl _ _).drew) (fun hHeld => ?_)
  refine held_take 0 (v := ?_) rfl (by kernel_rfl) (by kernel_rfl) (by kernel_rfl) (fun _ _ _ h => h) (by rfl) (fun w hS => ?_) (by assumption) ?_
  rotate_left
  · try dsimp only at hS
    have l1 := K1.out w hS
    have l5 := K5.out w hS
    go_simp <;> with_reducible rfl
  try simp only [Act.put, List.setIfInBounds_toArray, List.set_cons_zero, List.set_cons_succ]
  refine held_take 1 (v := ?_) rfl (by kernel_rfl) (by kernel_rfl) (by kernel_rfl) (fun _ _ _ h => h) (by rfl) (fun w hS => ?_) (by assumption) ?_
  rotate_left
  · try dsimp only at hS
    have l1 := K1.out w hS
    have l5 := K5.out w hS
    go_simp <;> with_reducible rfl
  try simp only [Act.put, List.setIfInBounds_toArray, List.set_cons_zero, List.set_cons_succ]
  refine held_take 2 (v := ?_) rfl (by kernel_rfl) (by kernel_rfl) (by kernel_rfl) (fun _ _ _ h => h) (by rfl) (fun w hS => ?_) (by assumption) ?_
  rotate_left
  · try dsimp only at hS
    have l1 := K1.out w hS
    have l5 := K5.out w hS
    go_simp <;> with_reducible rfl
  try simp only [Act.put, List.setIfInBounds_toArray, List.set_cons_zero, List.set_cons_succ]
  refine held_take 3 (v := ?_) rfl (by kernel_rfl) (by kernel_rfl) (by kernel_rfl) (fun _ _ _ h => h) (by rfl) (fun w hS => ?_) (by assumption) ?_
  rotate_left
  · try dsimp only at hS
    have l1 := K1.out w hS
    have l5 := K5.out w hS
    go_simp <;> with_reducible rfl
  try simp only [Act.put, List.setIfInBounds_toArray, List.set_cons_zero, List.set_cons_succ]
  refine held_take 4 (v := ?_) rfl (by kernel_rfl) (by kernel_rfl) (by kernel_rfl) (fun _ _ _ h => h) (by rfl) (fun w hS => ?_) (by assumption) ?_
  rotate_left
  · try dsimp only at hS
    have l1 := K1.out w hS
    have l5 := K5.out w hS
    go_simp <;> with_reducible rfl
  try simp only [Act.put, List.setIfInBounds_toArray, List.set_cons_zero, List.set_cons_succ]
  refine held_take 5 (v := ?_) rfl (by kernel_rfl) (by kernel_rfl) (by kernel_rfl) (fun _ _ _ h => h) (by rfl) (fun w hS => ?_) (by assumption) ?_
  rotate_left
  · try dsimp only at hS
    have l1 := K1.out w hS
    have l5 := K5.out w hS
    go_simp <;> with_reducible rfl
  try simp only [Act.put, List.setIfInBounds_toArray, List.set_cons_zero, List.set_cons_succ]
  refine held_take 6 (v := ?_) rfl (by kernel_rfl) (by kernel_rfl) (by kernel_rfl) (fun _ _ _ h => h) (by rfl) (fun w hS => ?_) (by assumption) ?_
  rotate_left
  · try dsimp only at hS
    have l1 := K1.out w hS
    have l5 := K5.out w hS
    go_simp <;> with_reducible rfl
  try simp only [Act.put, List.setIfInBounds_toArray, List.set_cons_zero, List.set_cons_succ]
  refine held_take 7 (v := (.agg NL.toArray)) rfl (by kernel_rfl) (by kernel_rfl) (by kernel_rfl) (fun _ _ _ h => h) (by rfl) (fun w hS => ?_) (by assumption) ?_
  · exact yield_load_mid _ _ 35 (.tmp 56) (by rfl) gx2 96 (by rfl) NL _ (K1.out w hS).2.2.2.2.1 Try.underlying35 (by rfl) HIn16.out
  try simp only [Act.put, List.setIfInBounds_toArray, List.set_cons_zero, List.set_cons_succ]
  refine held_take 8 (v := ?_) rfl (by kernel_rfl) (by kernel_rfl) (by kernel_rfl) (fun _ _ _ h => h) (by rfl) (fun w hS => ?_) (by assumption) ?_
  rotate_left
  · try dsimp only at hS
    have l1 := K1.out w hS
    have l5 := K5.out w hS
    go_simp <;> with_reducible rfl
  try simp only [Act.put, List.setIfInBounds_toArray, List.set_cons_zero, List.set_cons_succ]
  refine held_take 9 (v := (.agg NL.toArray)) rfl (by kernel_rfl) (by kernel_rfl) (by kernel_rfl) (fun _ _ _ h => h) (by rfl) (fun w hS => ?_) (by assumption) ?_
  · exact yield_load_mid _ _ 35 (.tmp 58) (by rfl) gq 96 (by rfl) NL _ (K5.out w hS).1 Try.underlying35 (by rfl) HIn16.out
  try simp only [Act.put, List.setIfInBounds_toArray, List.set_cons_zero, List.set_cons_succ]
  refine held_take 10 (v := ?_) rfl (by kernel_rfl) (by kernel_rfl) (by kernel_rfl) (fun _ _ _ h => h) (by rfl) (fun w hS => ?_) (by assumption) ?_
  rotate_left
  · try dsimp only at hS
    have l1 := K1.out w hS
    have l5 := K5.out w hS
    go_simp <;> with_reducible rfl
  try simp only [Act.put, List.setIfInBounds_toArray, List.set_cons_zero, List.set_cons_succ]
  refine held_take 11 (v := ?_) rfl (by kernel_rfl) (by kernel_rfl) (by kernel_rfl) (fun _ _ _ h => h) (by rfl) (fun w hS => ?_) (by assumption) ?_
  rotate_left
  · try dsimp only at hS
    have l1 := K1.out w hS
    have l5 := K5.out w hS
    go_simp <;> with_reducible rfl
  try simp only [Act.put, List.setIfInBounds_toArray, List.set_cons_zero, List.set_cons_succ]
  refine held_take 12 (v := ?_) rfl (by kernel_rfl) (by kernel_rfl) (by kernel_rfl) (fun _ _ _ h => h) (by rfl) (fun w hS => ?_) (by assumption) ?_
  rotate_left
  · try dsimp only at hS
    have l1 := K1.out w hS
    have l5 := K5.out w hS
    go_simp <;> with_reducible rfl
  try simp only [Act.put, List.setIfInBounds_toArray, List.set_cons_zero, List.set_cons_succ]
  refine held_take 13 (v := (.agg CX2)) rfl (by kernel_rfl) (by kernel_rfl) (by kernel_rfl) (fun _ _ _ h => h) (by rfl) (fun w hS => ?_) (by assumption) ?_
  · exact yield_row _ _ 37 (.tmp 16) (by rfl) gx2 (by rfl) 37 CX2 (0, 0) _ (K3.out w hS) Try.underlying37 (by rfl) HICX2.out
  try simp only [Act.put, List.setIfInBounds_toArray, List.set_cons_zero, List.set_cons_succ]
  refine held_take 14 (v := (.agg KC)) rfl (by kernel_rfl) (by kernel_rfl) (by kernel_rfl) (fun _ _ _ h => h) (by rfl) (fun w hS => ?_) (by assumption) ?_
  · exact yield_row _ _ 22 (.tmp 5) (by rfl) gk (by rfl) 22 KC (0, 0) _ (K4.out w hS) Try.underlying22 (by rfl) HIk.out
  try simp only [Act.put, List.setIfInBounds_toArray, List.set_cons_zero, List.set_cons_succ]
  refine held_take 16 (v := (.agg CX2)) rfl (by kernel_rfl) (by kernel_rfl) (by kernel_rfl) (fun _ _ _ h => h) (by rfl) (fun w hS => ?_) (by assumption) ?_
  · exact yield_row _ _ 37 (.tmp 16) (by rfl) gx2 (by rfl) 37 CX2 (0, 0) _ (K3.out w hS) Try.underlying37 (by rfl) HICX2.out
  try simp only [Act.put, List.setIfInBounds_toArray, List.set_cons_zero, List.set_cons_succ]
  refine held_one 15 rfl (by kernel_rfl) (fun K hK => ?_)
  go_simp
  refine (HSg2.out _).mono ?_
  rintro e we2 ⟨rfl, hbe⟩
  have HBe : Hid (Below w92.heap.size w92 we2) := Lib.hid ((Below.refl _ _).drew.trans hbe)
  clear hbe
  refine hK.out _ _ (fun w' => Below w92.heap.size w92 w') (fun _ h => h) HBe.out (fun hHeld => ?_)
  clear hK K
  try simp only [Act.put, List.setIfInBounds_toArray, List.set_cons_zero, List.set_cons_succ]
  refine held_take 17 (v := ?_) rfl (by kernel_rfl) (by kernel_rfl) (by kernel_rfl) (fun _ _ _ h => h) (by rfl) (fun w hS => ?_) (by assumption) ?_
  rotate_left
  · try dsimp only at hS
    have l1 := K1.out w hS
    have l5 := K5.out w hS
    go_simp <;> with_reducible rfl
  try simp only [Act.put, List.setIfInBounds_toArray, List.set_cons_zero, List.set_cons_succ]
  refine held_take 18 (v := ?_) rfl (by kernel_rfl) (by kernel_rfl) (by kernel_rfl) (fun _ _ _ h => h) (by rfl) (fun w hS => ?_) (by assumption) ?_
  rotate_left
  · try dsimp only at hS
    have l1 := K1.out w hS
    have l5 := K5.out w hS
    go_simp <;> with_reducible rfl
  try simp only [Act.put, List.setIfInBounds_toArray, List.set_cons_zero, List.set_cons_succ]
  refine held_done (by kernel_rfl) ?_
  have HE2 : Hid (KnS w we2 g (RA.ask A2 { f0 with typ := 4 }) [(gl, #[.int .i64 2, .int .i64 4], 3), (gb, #[.bool bl], 4), (gd, DL.toArray, 34), (gq, C0, 37), (gk, KC, 22)]) := Lib.hid ⟨(H92.out.below HBe.out).be, H92.out.lg, (H92.out.below HBe.out).area, H92.out.ok, fun x hx => (H92.out.below HBe.out).box x (List.mem_cons_of_mem _ (List.mem_cons_of_mem _ hx))⟩
  have m1 := (K1.out we2 HBe.out).2.1
  have m2 := (K1.out we2 HBe.out).2.2.1
  have m3 := (K1.out we2 HBe.out).2.2.2.1
  have m4 := (K5.out we2 HBe.out).2
  have m5 : we2.cell? ⟨gb, 0, none⟩ = some (.bool bl) := HasB.at (HE2.out.at (C := #[.bool bl]) (T := 4) (by simp)) 0
  have HM6 := Lib.hid (K1.out we2 HBe.out).2.2.2.2.2
  have HM7 : Hid (we2.heap[gd]? = some (.cells DL.toArray 34 (0, 0))) := Lib.hid (HE2.out.at (by simp))
  rw [HBl.out] at m5
  have n1 := HCs.out
  obtain ⟨n1, n2⟩ := n1
  clear K1 K3 K4 K5 HSg2
  rw [← HDL.out] at HM6
  go_wp2_with (with_reducible refine stop_dst 107 rfl ?_)
  refine Stop.go ?_
  refine wpList_wanted (by rfl) (fun K hK => ?_)
  refine wp_load_mid 34 (.tmp 106) rfl gx2 32 rfl DL _ HM6.out Try.underlying34 rfl HId64.out ?_
  refine hK _ _ ?_
  clear hK K
  refine wpList_wanted (by rfl) (fun K hK => ?_)
  refine wp_load_row 34 (.tmp 8) rfl gd rfl 34 DL.toArray (0, 0) _ HM7.out Try.underlying34 rfl HId64a.out ?_
  refine hK _ _ ?_
  clear hK K
  go_wp2_with fail
  have HAs := Lib.hid HAs2.out.1
  have HPl := Lib.hid HAs2.out.2
  clear HBe H92 m1 m2 m3 m4 m5 n1 hen hed heq hez HAs2 HXo HM6 HM7 n2
  rw [rounds_succ]
  go_wp2_with fail
  rw [HPOST.out]
  exact ⟨rfl, HE2.out.be⟩
theorem tells_any (key : List Nat) (hk : key.length = 32 ∧ ∀ c ∈ key, c < 256) (c : Nat) (hc : c < 4294967296) (f0 : RF) (hf : f0.Ok) (d : List Nat) (hd : d.length = 64 ∧ ∀ c ∈ d, c < 256) (bl : Bool) (w : World) :
    Calls Try.prog 6 #[.agg (u8s key).toArray, .int .u32 (c : Int), f0.val, .agg (u8s d).toArray, .bool bl] w fun e w' => e = .returned (.bool true) ∧ Below w.heap.size w w' := by
  by_cases h1 : (0 : Int) ≤ f0.addr
  · by_cases h2 : f0.addr < 16
    · cases hb : bl with
      | true => exact tells_c3 key hk c hc f0 hf d hd w true rfl ⟨h1, h2⟩
      | false => exact tells_c4 key hk c hc f0 hf d hd w false rfl ⟨h1, h2⟩
    · exact tells_c2 key hk c hc f0 hf d hd w bl ⟨h1, h2⟩
  · exact tells_c1 key hk c hc f0 hf d hd w bl h1
end Go.Proofs.Ytkdjimcpdbpemaa
