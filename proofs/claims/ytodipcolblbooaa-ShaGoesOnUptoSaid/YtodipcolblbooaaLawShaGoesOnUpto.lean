/- The statement ShaGoesOnUptoSaid: whatever the input, the law locketlaw3.ShaGoesOn returns true and writes nothing that was there. Conditions: the inputs together hold at most 1048576 values and letters. -/
import Derived.Test.YtodipcolblbooaaShaJJ
namespace Go.Proofs.Ytodipcolblbooaa.shaGoesOnUpto
open Go.ChangeShapes Go.WideShapes Go.ChangeAt Go.RowKit
set_option linter.unusedVariables false
theorem own : ownKnob Try.prog.godebug = none := by kernel_rfl
theorem laidOut : laidOutB Try.prog = true := by kernel_rfl
noncomputable def laidWorld (os : Os) : World := World.holding Try.prog os ⟨#[], #[], []⟩
theorem laid_met (os : Os) : laidMetH Try.prog Rows.shaGoesOnUptoRow.laid ((laidWorld os).forCall (fun _ _ => 0) ⟨#[], #[.slice none 0 0, .bool false, .slice none 0 0, .slice none 0 0], []⟩).memory := laidMetH_nil _ _
theorem reads (os : Os) {H : Type} (enc : TypeId × Value → H) : ∃ places, DataW.whole enc Try.prog ((laidWorld os).forCall (fun _ _ => 0) ⟨#[], #[.slice none 0 0, .bool false, .slice none 0 0, .slice none 0 0], []⟩).memory Try.f4.params.toList Rows.shaGoesOnSpec.vars false [.slice none 0 0, .bool false, .slice none 0 0, .slice none 0 0] 8 = some ([.nil, .lit (.bool false), .nil, .nil], [], places) :=
  ⟨[], by kernel_rfl⟩

set_option maxRecDepth 100000 in
theorem lifted (os : Os) (started : os.Started) (H : Type) (enc : TypeId × Value → H) (F : Stop.Interp) :
    ReturnsInHanded {} Try.checked os 4 .any ((Rows.OpenSpec.upto Rows.shaGoesOnSpec).preRow enc Try.prog Try.f4 Rows.shaGoesOnUptoRow.domain false Rows.shaGoesOnUptoRow.laid) (((Rows.OpenSpec.upto Rows.shaGoesOnSpec).at F).post enc Try.prog Try.f4 false true false false) := by
  obtain ⟨places, hx⟩ := reads os enc
  refine lift_law (C := Try.checked) (o := (Rows.OpenSpec.upto Rows.shaGoesOnSpec)) (s := Rows.shaGoesOnSpec) (tb := 4) rfl own laidOut started (by kernel_rfl) Try.func4 rfl (by kernel_rfl) Try.underlying4 (by kernel_rfl) ?_
    (witness_row_atRef (enc := enc) (C := Try.checked) false (laidWorld os) #[.slice none 0 0, .bool false, .slice none 0 0, .slice none 0 0] rfl (by kernel_rfl) (by kernel_rfl) (by kernel_rfl)
      (OpenSpec.preRow_of_cond 8 hx (by kernel_rfl) (fun k hk => by cases hk; kernel_rfl) (by kernel_rfl) (laid_met os))) ?_
  · intro ds hds
    have hds : ds.length = 4 := hds
    match ds, hds with
    | [d0, d1, d2, d3], _ => exact ⟨rfl, rfl, rfl⟩
  · intro W base args ds p told
    obtain ⟨hval, hA, hsz, hlt, hL, hcond, hshaped⟩ := told
    rw [Try.params4] at hA hval hsz
    have hbulk : Rows.uptoBulkAll ds ≤ 1048576 := of_decide_eq_true (hcond _ rfl)
    obtain ⟨v0, vs0, d0, ds0, p0, q0, hargs, rfl, rfl, h0, r0⟩ := trodAll_cons hA
    obtain ⟨v1, vs1, d1, ds1, p1, q1, rfl, rfl, rfl, h1, r1⟩ := trodAll_cons r0
    obtain ⟨v2, vs2, d2, ds2, p2, q2, rfl, rfl, rfl, h2, r2⟩ := trodAll_cons r1
    obtain ⟨v3, vs3, d3, ds3, p3, q3, rfl, rfl, rfl, h3, r3⟩ := trodAll_cons r2
    obtain ⟨rfl, rfl, rfl⟩ := trodAll_nil r3
    obtain rfl : args = #[v0, v1, v2, v3] := by cases args; simp_all
    obtain ⟨a0, len0, cap0, xs0, rfl, lc0, cm0, nn0, w0, wf0, dd0⟩ := open_intsK Try.underlying22 Try.underlying5 (by kernel_rfl) (hval 0 22 v0 rfl rfl) h0
    obtain ⟨a1, rfl, rfl, rfl⟩ := open_bool Try.underlying4 (hval 1 4 v1 rfl rfl) h1
    obtain ⟨a2, len2, cap2, ls2, rfl, lc2, cm2, nn2, hl2, hR2, hbt2, hm2, dd2⟩ := open_rowsT Try.underlying23 Try.underlying22 Try.underlying5 (by kernel_rfl) (by kernel_rfl) (hval 2 23 v2 rfl rfl) h2
    obtain ⟨a3, len3, cap3, xs3, rfl, lc3, cm3, nn3, w3⟩ := open_bools Try.underlying34 Try.underlying4 (by kernel_rfl) (hval 3 34 v3 rfl rfl) h3
    obtain ⟨l0, hb0⟩ := IntsK.bytes w0 wf0
    have hT2 := bulk_total hl2 dd2
    simp only [Rows.uptoBulkAll] at hbulk
    exact shagoes_any a0 len0 cap0 l0 a1 a2 len2 cap2 ls2 a3 len3 cap3 xs3 W hb0 nn0 lc0 cm0 hR2 hl2 hbt2 (by omega) w3 (by omega)

theorem over : Rows.shaGoesOnUptoRow.holds Try.pinned (Rows.OpenSpec.upto Rows.shaGoesOnSpec) :=
  OpenClaim.holds_of_cond 4 Try.f4 rfl rfl rfl rfl rfl rfl rfl ⟨rfl, rfl, rfl, rfl, rfl⟩ rfl rfl rfl rfl rfl (by kernel_rfl) Try.func4 (by kernel_rfl)
    (of_decide_eq_true (by kernel_rfl)) (by unfold Func.isWrapper; first | (rw [if_pos (by decide +kernel)]; kernel_rfl) | (rw [if_neg (by decide +kernel)]; exact ⟨rfl, rfl⟩))
    (fun os started H enc _ F => by rw [OpenClaim.pre_eq_preRow]; exact lifted os started H enc F)

theorem proved : Rows.ShaGoesOnUptoSaid := over
#print axioms proved
end Go.Proofs.Ytodipcolblbooaa.shaGoesOnUpto
