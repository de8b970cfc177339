/- The statement ShaSumsUptoSaid: whatever the input, the law locketlaw3.ShaSums returns true and writes nothing that was there. Conditions: the inputs together hold at most 1048576 values and letters. -/
import Derived.Test.YtodipcolblbooaaShaGG
namespace Go.Proofs.Ytodipcolblbooaa.shaSumsUpto
open Go.ChangeShapes Go.WideShapes Go.ChangeAt Go.RowKit
set_option linter.unusedVariables false
theorem own : ownKnob Try.prog.godebug = none := by kernel_rfl
theorem laidOut : laidOutB Try.prog = true := by kernel_rfl
noncomputable def laidWorld (os : Os) : World := World.holding Try.prog os ⟨#[], #[], []⟩
theorem laid_met (os : Os) : laidMetH Try.prog Rows.shaSumsUptoRow.laid ((laidWorld os).forCall (fun _ _ => 0) ⟨#[], #[.slice none 0 0, .slice none 0 0], []⟩).memory := laidMetH_nil _ _
theorem reads (os : Os) {H : Type} (enc : TypeId × Value → H) : ∃ places, DataW.whole enc Try.prog ((laidWorld os).forCall (fun _ _ => 0) ⟨#[], #[.slice none 0 0, .slice none 0 0], []⟩).memory Try.f3.params.toList Rows.shaSumsSpec.vars false [.slice none 0 0, .slice none 0 0] 8 = some ([.nil, .nil], [], places) :=
  ⟨[], by kernel_rfl⟩

set_option maxRecDepth 100000 in
theorem lifted (os : Os) (started : os.Started) (H : Type) (enc : TypeId × Value → H) (F : Stop.Interp) :
    ReturnsInHanded {} Try.checked os 3 .any ((Rows.OpenSpec.upto Rows.shaSumsSpec).preRow enc Try.prog Try.f3 Rows.shaSumsUptoRow.domain false Rows.shaSumsUptoRow.laid) (((Rows.OpenSpec.upto Rows.shaSumsSpec).at F).post enc Try.prog Try.f3 false true false false) := by
  obtain ⟨places, hx⟩ := reads os enc
  refine lift_law (C := Try.checked) (o := (Rows.OpenSpec.upto Rows.shaSumsSpec)) (s := Rows.shaSumsSpec) (tb := 4) rfl own laidOut started (by kernel_rfl) Try.func3 rfl (by kernel_rfl) Try.underlying4 (by kernel_rfl) ?_
    (witness_row_atRef (enc := enc) (C := Try.checked) false (laidWorld os) #[.slice none 0 0, .slice none 0 0] rfl (by kernel_rfl) (by kernel_rfl) (by kernel_rfl)
      (OpenSpec.preRow_of_cond 8 hx (by kernel_rfl) (fun k hk => by cases hk; kernel_rfl) (by kernel_rfl) (laid_met os))) ?_
  · intro ds hds
    have hds : ds.length = 2 := hds
    match ds, hds with
    | [d0, d1], _ => exact ⟨rfl, rfl, rfl⟩
  · intro W base args ds p told
    obtain ⟨hval, hA, hsz, hlt, hL, hcond, hshaped⟩ := told
    rw [Try.params3] at hA hval hsz
    have hbulk : Rows.uptoBulkAll ds ≤ 1048576 := of_decide_eq_true (hcond _ rfl)
    obtain ⟨v0, vs0, d0, ds0, p0, q0, hargs, rfl, rfl, h0, r0⟩ := trodAll_cons hA
    obtain ⟨v1, vs1, d1, ds1, p1, q1, rfl, rfl, rfl, h1, r1⟩ := trodAll_cons r0
    obtain ⟨rfl, rfl, rfl⟩ := trodAll_nil r1
    obtain rfl : args = #[v0, v1] := by cases args; simp_all
    obtain ⟨a0, len0, cap0, xs0, rfl, lc0, cm0, nn0, w0, wf0, dd0⟩ := open_intsK Try.underlying22 Try.underlying5 (by kernel_rfl) (hval 0 22 v0 rfl rfl) h0
    obtain ⟨a1, len1, cap1, ls1, rfl, lc1, cm1, nn1, hl1, hR1, hbt1, hm1, dd1⟩ := open_rowsT Try.underlying23 Try.underlying22 Try.underlying5 (by kernel_rfl) (by kernel_rfl) (hval 1 23 v1 rfl rfl) h1
    obtain ⟨l0, hb0⟩ := IntsK.bytes w0 wf0
    have hT1 := bulk_total hl1 dd1
    simp only [Rows.uptoBulkAll] at hbulk
    exact shasums_any a0 len0 cap0 l0 a1 len1 cap1 ls1 W hb0 nn0 lc0 cm0 hR1 hl1 hbt1 (by omega)

theorem over : Rows.shaSumsUptoRow.holds Try.pinned (Rows.OpenSpec.upto Rows.shaSumsSpec) :=
  OpenClaim.holds_of_cond 3 Try.f3 rfl rfl rfl rfl rfl rfl rfl ⟨rfl, rfl, rfl, rfl, rfl⟩ rfl rfl rfl rfl rfl (by kernel_rfl) Try.func3 (by kernel_rfl)
    (of_decide_eq_true (by kernel_rfl)) (by unfold Func.isWrapper; first | (rw [if_pos (by decide +kernel)]; kernel_rfl) | (rw [if_neg (by decide +kernel)]; exact ⟨rfl, rfl⟩))
    (fun os started H enc _ F => by rw [OpenClaim.pre_eq_preRow]; exact lifted os started H enc F)

theorem proved : Rows.ShaSumsUptoSaid := over
#print axioms proved
end Go.Proofs.Ytodipcolblbooaa.shaSumsUpto
