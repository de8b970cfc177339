/- The statement RegsOnceSaid: whatever the input, the law locketlaw15.RegsOnce returns true and writes nothing that was there. Conditions: none. -/
import Derived.Test.YtjjeopanffcbiaaRegsH
namespace Go.Proofs.Ytjjeopanffcbiaa.regsOnce
open Go.ChangeShapes Go.WideShapes Go.ChangeAt Go.RowKit
set_option linter.unusedVariables false
theorem own : ownKnob Try.prog.godebug = none := by kernel_rfl
theorem laidOut : laidOutB Try.prog = true := by kernel_rfl
noncomputable def laidWorld (os : Os) : World := World.holding Try.prog os ⟨#[], #[], []⟩
theorem laid_met (os : Os) : laidMetH Try.prog Rows.regsOnceRow.laid ((laidWorld os).forCall (fun _ _ => 0) ⟨#[], #[.slice none 0 0, .slice none 0 0], []⟩).memory := laidMetH_nil _ _
theorem reads (os : Os) {H : Type} (enc : TypeId × Value → H) : ∃ places, DataW.whole enc Try.prog ((laidWorld os).forCall (fun _ _ => 0) ⟨#[], #[.slice none 0 0, .slice none 0 0], []⟩).memory Try.f12.params.toList Rows.regsOnceSpec.vars false [.slice none 0 0, .slice none 0 0] 8 = some ([.nil, .nil], [], places) :=
  ⟨[], by kernel_rfl⟩

set_option maxRecDepth 100000 in
theorem lifted (os : Os) (started : os.Started) (H : Type) (enc : TypeId × Value → H) (F : Stop.Interp) :
    ReturnsInHanded {} Try.checked os 12 .any ((OpenSpec.ofChange Rows.regsOnceSpec).preRow enc Try.prog Try.f12 Rows.regsOnceRow.domain false Rows.regsOnceRow.laid) (((OpenSpec.ofChange Rows.regsOnceSpec).at F).post enc Try.prog Try.f12 false true false false) := by
  obtain ⟨places, hx⟩ := reads os enc
  refine lift_law (C := Try.checked) (o := (OpenSpec.ofChange Rows.regsOnceSpec)) (s := Rows.regsOnceSpec) (tb := 4) rfl own laidOut started (by kernel_rfl) Try.func12 rfl (by kernel_rfl) Try.underlying4 (by kernel_rfl) ?_
    (witness_row_atRef (enc := enc) (C := Try.checked) false (laidWorld os) #[.slice none 0 0, .slice none 0 0] rfl (by kernel_rfl) (by kernel_rfl) (by kernel_rfl)
      (OpenSpec.preRow_of_cond 8 hx (by kernel_rfl) (fun k hk => by cases hk) (by kernel_rfl) (laid_met os))) ?_
  · intro ds hds
    have hds : ds.length = 2 := hds
    match ds, hds with
    | [d0, d1], _ => exact ⟨rfl, rfl, rfl⟩
  · intro W base args ds p told
    obtain ⟨hval, hA, hsz, hlt, hL, hcond, hshaped⟩ := told
    rw [Try.params12] at hA hval hsz
    obtain ⟨v0, vs0, d0, ds0, p0, q0, hargs, rfl, rfl, h0, r0⟩ := trodAll_cons hA
    obtain ⟨v1, vs1, d1, ds1, p1, q1, rfl, rfl, rfl, h1, r1⟩ := trodAll_cons r0
    obtain ⟨rfl, rfl, rfl⟩ := trodAll_nil r1
    obtain rfl : args = #[v0, v1] := by cases args; simp_all
    obtain ⟨a0, len0, cap0, xs0, rfl, lc0, cm0, nn0, w0, wf0, dd0⟩ := open_racts (hval 0 48 v0 rfl rfl) h0
    obtain ⟨a1, len1, cap1, xs1, rfl, lc1, cm1, nn1, w1, wf1, dd1⟩ := open_racts (hval 1 48 v1 rfl rfl) h1
    have hlen : len0 ≤ 9223372036854775807 := by unfold maxLen at cm0; omega
    have hlen1 : len1 ≤ 9223372036854775807 := by unfold maxLen at cm1; omega
    exact once_all a0 len0 cap0 xs0 a1 len1 cap1 xs1 W hlen hlen1 w0 w1 wf0 wf1

theorem over : Rows.regsOnceRow.holds Try.pinned (OpenSpec.ofChange Rows.regsOnceSpec) :=
  OpenClaim.holds_of_cond 12 Try.f12 rfl rfl rfl rfl rfl rfl rfl ⟨rfl, rfl, rfl, rfl, rfl⟩ rfl rfl rfl rfl rfl (by kernel_rfl) Try.func12 (by kernel_rfl)
    (of_decide_eq_true (by kernel_rfl)) (by unfold Func.isWrapper; first | (rw [if_pos (by decide +kernel)]; kernel_rfl) | (rw [if_neg (by decide +kernel)]; exact ⟨rfl, rfl⟩))
    (fun os started H enc _ F => by rw [OpenClaim.pre_eq_preRow]; exact lifted os started H enc F)

theorem proved : Rows.RegsOnceSaid := over
#print axioms proved
end Go.Proofs.Ytjjeopanffcbiaa.regsOnce
