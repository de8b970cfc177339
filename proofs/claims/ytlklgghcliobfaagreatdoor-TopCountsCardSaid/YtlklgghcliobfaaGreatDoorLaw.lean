/- The statement TopCountsCardSaid: whatever the input, the law lockettop.TopCounts returns true and writes nothing that was there. Conditions: none; the listed package-level variables start as the text lays them (tied by the card). -/
import Derived.Test.YtlklgghcliobfaaGreatDoorLK
import Derived.Test.YtlklgghcliobfaaGreatDoorJH
import Derived.Test.YtlklgghcliobfaaGreatDoorKA
import Derived.Test.YtlklgghcliobfaaGreatDoorKB
import Derived.Test.YtlklgghcliobfaaGreatDoorKD
import Derived.Test.YtlklgghcliobfaaGreatDoorCards
import Derived.Test.YtlklgghcliobfaaGreatDoorTZ
namespace Go.Proofs.YtlklgghcliobfaaGreatDoor.topCounts
open Go Go.ChangeShapes Go.WideShapes Go.ChangeAt Go.RowKit
set_option linter.all false
theorem over : Rows.topCountsRow.holds Tryz.pinned (OpenSpec.ofChange Rows.topCountsSpec) :=
  OpenClaim.holds_of_cond 3 Tryz.f3 rfl rfl rfl rfl rfl rfl rfl ⟨rfl, rfl, rfl, rfl, rfl⟩ rfl rfl rfl rfl rfl fnm Tryz.func3 jf
    (of_decide_eq_true ins) (by unfold Func.isWrapper; first | (rw [if_pos (by decide +kernel)]; kernel_rfl) | (rw [if_neg (by decide +kernel)]; exact ⟨rfl, rfl⟩))
    (fun os started H enc _ F => by rw [OpenClaim.pre_eq_preRow]; exact lifted os started H enc F)
theorem plain (f : FuncId) (fn : Func) (hf : Tryz.pinned.checked.prog.funcNamed "locket/lockettop.TopCounts" = some f) (hfn : Tryz.pinned.checked.prog.funcs[f]? = some fn) :
    true = Tryz.pinned.checked.prog.looks [] ∧ ∀ (j : Nat) t, fn.params[j]? = some t → Tryz.pinned.checked.prog.wantsStandIn t = false := by
  obtain rfl : f = 3 := Option.some.inj (fnm.symm.trans hf) |>.symm
  obtain rfl : fn = Tryz.f3 := (Option.some.inj (Tryz.func3.symm.trans hfn)).symm
  refine ⟨lks.symm, fun j t ht => ?_⟩
  rw [Tryz.params3] at ht
  have hm : t ∈ [3, 3, 3, 3] := by simpa using Array.mem_of_getElem? ht
  exact (show G.wantsStandIn t = false by simpa using List.all_eq_true.1 wsi t hm)
theorem proved : Rows.TopCountsCardSaid :=
  Claim7.holds_tied_plain_at .later [] _ _ _ _ over (fun _ h => by cases h) wft (fun _ h => by cases h) topCounts_row_tie rfl ⟨rfl, rfl⟩ (by kernel_rfl) rfl plain gby
