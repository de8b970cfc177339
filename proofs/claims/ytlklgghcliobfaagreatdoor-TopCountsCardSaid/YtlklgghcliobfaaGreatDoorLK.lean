/- Facts. -/
import Derived.Test.YtlklgghcliobfaaGreatDoorP05
import Derived.Test.YtlklgghcliobfaaGreatDoorLAa
import Derived.Test.YtlklgghcliobfaaGreatDoorLAb
import Derived.Test.YtlklgghcliobfaaGreatDoorLAc
import Derived.Test.YtlklgghcliobfaaGreatDoorLAd
import Derived.Test.YtlklgghcliobfaaGreatDoorLB
import Derived.Test.YtlklgghcliobfaaGreatDoorLC
import Derived.Test.YtlklgghcliobfaaGreatDoorLD
import Derived.Test.YtlklgghcliobfaaGreatDoorLE
import Derived.Test.YtlklgghcliobfaaGreatDoorLG
import Derived.Test.YtlklgghcliobfaaGreatDoorLH
import Derived.Test.YtlklgghcliobfaaGreatDoorLI
import Derived.Test.YtlklgghcliobfaaGreatDoorLJ
namespace Go.Proofs.YtlklgghcliobfaaGreatDoor.topCounts
open Go Go.ChangeShapes Go.WideShapes Go.ChangeAt Go.RowKit
set_option linter.all false
theorem laidOut : laidOutB G = true := by
  have A : (List.range G.types.size).all (rowFine G) = true := by
    rw [nty, List.all_eq_true]
    intro t ht
    have ht := List.mem_range.1 ht
    rcases (by omega : (0 ≤ t ∧ t < 0+100) ∨ (100 ≤ t ∧ t < 100+100) ∨ (200 ≤ t ∧ t < 200+100) ∨ (300 ≤ t ∧ t < 300+100) ∨ (400 ≤ t ∧ t < 400+100) ∨ (500 ≤ t ∧ t < 500+100) ∨ (600 ≤ t ∧ t < 600+100) ∨ (700 ≤ t ∧ t < 700+49)) with h | h | h | h | h | h | h | h
    · exact List.all_eq_true.1 lo0 t (List.mem_range'_1.2 h)
    · exact List.all_eq_true.1 lo1 t (List.mem_range'_1.2 h)
    · exact List.all_eq_true.1 lo2 t (List.mem_range'_1.2 h)
    · exact List.all_eq_true.1 lo3 t (List.mem_range'_1.2 h)
    · exact List.all_eq_true.1 lo4 t (List.mem_range'_1.2 h)
    · exact List.all_eq_true.1 lo5 t (List.mem_range'_1.2 h)
    · exact List.all_eq_true.1 lo6 t (List.mem_range'_1.2 h)
    · exact List.all_eq_true.1 lo7 t (List.mem_range'_1.2 h)
  unfold laidOutB
  rw [A, glo, fus]
  rfl
theorem laid_met (os : Os) : laidMetH G Rows.topCountsRow.laid (M os) :=
  laidMetH_of_parts3 (l := LT) (fuel := 8) (laidMet_of_run' 8 (met1 os) (met2 os)) (met3 os) (met4 os)
set_option maxRecDepth 100000 in
theorem lifted (os : Os) (started : os.Started) (H : Type) (enc : TypeId × Value → H) (F : Stop.Interp) :
    ReturnsInHanded {} Tryz.checked os 3 .any ((OpenSpec.ofChange Rows.topCountsSpec).preRow enc G Tryz.f3 Rows.topCountsRow.domain false Rows.topCountsRow.laid) (((OpenSpec.ofChange Rows.topCountsSpec).at F).post enc G Tryz.f3 false true false false) := by
  refine AFO (a := Tryz.checked) (g := (OpenSpec.ofChange Rows.topCountsSpec)) (p := Rows.topCountsSpec) (ah := 4) rfl own laidOut started (by kernel_rfl) Tryz.func3 rfl (by kernel_rfl) Tryz.underlying4 (by kernel_rfl) ?_
    (witness_row_atRef (enc := enc) (C := Tryz.checked) false (W os) #[.int .i64 0, .int .i64 0, .int .i64 0, .int .i64 0] rfl (wit1 os) (wit2 os) (wit3 os)
      (OpenSpec.preRow_of_cond 8 (reads os enc) (by kernel_rfl) (fun k hk => by cases hk) (by kernel_rfl) (laid_met os))) ?_
  · intro ds hds
    have hds : ds.length = 4 := hds
    match ds, hds with
    | [d0, d1, d2, d3], _ => exact ⟨rfl, rfl, rfl⟩
  · intro W base args ds p told
    obtain ⟨hval, hA, hsz, hlt, hL, hcond, hshaped⟩ := told
    rw [Tryz.params3] at hA hval hsz
    obtain ⟨v0, vs0, d0, ds0, p0, q0, hargs, rfl, rfl, h0, r0⟩ := trodAll_cons hA
    obtain ⟨v1, vs1, d1, ds1, p1, q1, rfl, rfl, rfl, h1, r1⟩ := trodAll_cons r0
    obtain ⟨v2, vs2, d2, ds2, p2, q2, rfl, rfl, rfl, h2, r2⟩ := trodAll_cons r1
    obtain ⟨v3, vs3, d3, ds3, p3, q3, rfl, rfl, rfl, h3, r3⟩ := trodAll_cons r2
    obtain ⟨rfl, rfl, rfl⟩ := trodAll_nil r3
    obtain rfl : args = #[v0, v1, v2, v3] := by cases args; simp_all
    obtain ⟨a0, rfl, rfl, rfl, w0⟩ := open_int Tryz.underlying3 (hval 0 3 v0 rfl rfl) h0
    obtain ⟨a1, rfl, rfl, rfl, w1⟩ := open_int Tryz.underlying3 (hval 1 3 v1 rfl rfl) h1
    obtain ⟨a2, rfl, rfl, rfl, w2⟩ := open_int Tryz.underlying3 (hval 2 3 v2 rfl rfl) h2
    obtain ⟨a3, rfl, rfl, rfl, w3⟩ := open_int Tryz.underlying3 (hval 3 3 v3 rfl rfl) h3
    exact AFL a0 a1 a2 a3 W (AFN w0) (AFN w1) (AFN w2) (J0.f hL.1)
