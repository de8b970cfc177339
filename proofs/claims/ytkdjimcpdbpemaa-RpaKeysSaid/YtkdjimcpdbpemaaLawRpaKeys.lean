/- The statement RpaKeysSaid: whatever the input, the law locketlaw16.RpaKeys returns true and writes nothing that was there. Conditions: none. -/
import Derived.Test.YtkdjimcpdbpemaaRpaR
namespace Go.Proofs.Ytkdjimcpdbpemaa.rpaKeys
open Go.ChangeShapes Go.WideShapes Go.ChangeAt Go.RowKit
set_option linter.unusedVariables false
theorem own : ownKnob Try.prog.godebug = none := by kernel_rfl
theorem laidOut : laidOutB Try.prog = true := by kernel_rfl
noncomputable def laidWorld (os : Os) : World := World.holding Try.prog os ⟨#[], #[], []⟩
theorem laid_met (os : Os) : laidMetH Try.prog Rows.rpaKeysRow.laid ((laidWorld os).forCall (fun _ _ => 0) ⟨#[], #[.slice none 0 0], []⟩).memory := laidMetH_nil _ _
theorem reads (os : Os) {H : Type} (enc : TypeId × Value → H) : ∃ places, DataW.whole enc Try.prog ((laidWorld os).forCall (fun _ _ => 0) ⟨#[], #[.slice none 0 0], []⟩).memory Try.f7.params.toList Rows.rpaKeysSpec.vars false [.slice none 0 0] 8 = some ([.nil], [], places) :=
  ⟨[], by kernel_rfl⟩

set_option maxRecDepth 100000 in
theorem lifted (os : Os) (started : os.Started) (H : Type) (enc : TypeId × Value → H) (F : Stop.Interp) :
    ReturnsInHanded {} Try.checked os 7 .any ((OpenSpec.ofChange Rows.rpaKeysSpec).preRow enc Try.prog Try.f7 Rows.rpaKeysRow.domain false Rows.rpaKeysRow.laid) (((OpenSpec.ofChange Rows.rpaKeysSpec).at F).post enc Try.prog Try.f7 false true false false) := by
  obtain ⟨places, hx⟩ := reads os enc
  refine lift_law (C := Try.checked) (o := (OpenSpec.ofChange Rows.rpaKeysSpec)) (s := Rows.rpaKeysSpec) (tb := 4) rfl own laidOut started (by kernel_rfl) Try.func7 rfl (by kernel_rfl) Try.underlying4 (by kernel_rfl) ?_
    (witness_row_atRef (enc := enc) (C := Try.checked) false (laidWorld os) #[.slice none 0 0] rfl (by kernel_rfl) (by kernel_rfl) (by kernel_rfl)
      (OpenSpec.preRow_of_cond 8 hx (by kernel_rfl) (fun k hk => by cases hk) (by kernel_rfl) (laid_met os))) ?_
  · intro ds hds
    have hds : ds.length = 1 := hds
    match ds, hds with
    | [d0], _ => exact ⟨rfl, rfl, rfl⟩
  · intro W base args ds p told
    obtain ⟨hval, hA, hsz, hlt, hL, hcond, hshaped⟩ := told
    rw [Try.params7] at hA hval hsz
    obtain ⟨v0, vs0, d0, ds0, p0, q0, hargs, rfl, rfl, h0, r0⟩ := trodAll_cons hA
    obtain ⟨rfl, rfl, rfl⟩ := trodAll_nil r0
    obtain rfl : args = #[v0] := by cases args; simp_all
    obtain ⟨a0, len0, cap0, xs0, rfl, lc0, cm0, nn0, hl0⟩ := open_acts (hval 0 24 v0 rfl rfl) h0
    exact keys_any a0 len0 cap0 xs0 W hl0

theorem over : Rows.rpaKeysRow.holds Try.pinned (OpenSpec.ofChange Rows.rpaKeysSpec) :=
  OpenClaim.holds_of_cond 7 Try.f7 rfl rfl rfl rfl rfl rfl rfl ⟨rfl, rfl, rfl, rfl, rfl⟩ rfl rfl rfl rfl rfl (by kernel_rfl) Try.func7 (by kernel_rfl)
    (of_decide_eq_true (by kernel_rfl)) (by unfold Func.isWrapper; first | (rw [if_pos (by decide +kernel)]; kernel_rfl) | (rw [if_neg (by decide +kernel)]; exact ⟨rfl, rfl⟩))
    (fun os started H enc _ F => by rw [OpenClaim.pre_eq_preRow]; exact lifted os started H enc F)

theorem proved : Rows.RpaKeysSaid := over
#print axioms proved
end Go.Proofs.Ytkdjimcpdbpemaa.rpaKeys
