/- areas: what is known. -/
import Derived.Test.YtdbnadhmkfhdkaaAreasF
namespace Go.Proofs.Ytdbnadhmkfhdkaa
open Go Go.RowKit
set_option linter.unusedVariables false

theorem TabW.kept {w w' : World} {g g2 : Nat} {c : Cfg} {s n : Stg} {od om : Int} {sz fi : List Value} (h : TabW w g c s n od om sz fi) (hg : w.grownBy w' (some g2)) (hne : g ≠ g2) : TabW w' g c s n od om sz fi := ⟨HasB.kept h.1 hg (by simp; exact hne), h.2.1, h.2.2⟩
theorem TabW.tab {w : World} {g : Nat} {c : Cfg} {s n : Stg} (h : TabW w g c s n 1 0 (szV c n).toList (fiTo c n 8)) : Tab w g c s n := .inr h

set_option maxRecDepth 100000 in
set_option maxHeartbeats 2000000 in
theorem aknown_any (w : World) : Calls Try.prog 14 #[] w fun e w' => e = .returned (.bool true) ∧ Below w.heap.size w w' := by
  go_enter Try.func14, Try.ntmps14
  go_wp2_with fail
  refine (shape_any _).mono ?_
  rintro e w1 ⟨rfl, hb1⟩
  have HB1 := Lib.hid hb1
  clear hb1
  go_wp2_with fail
  refine (anew_any shapeC Stg.zero _ shape_wf Stg.zero_wf).mono ?_
  rintro e w2 ⟨hR, hb2⟩
  obtain ⟨g1, hg1, rfl, hT1⟩ := up_new (w := w1) (zero_good shape_check) rfl (by simp) hR
  have HB2 : Hid (Below w.heap.size w w2) := Lib.hid ((HB1.out.alloc HB1.out.size _).trans (hb2.mono (by have := HB1.out.size; simp; omega)))
  have HT1 := Lib.hid hT1
  have HG1 : Hid (w.heap.size ≤ g1) := Lib.hid (Nat.le_trans HB1.out.size hg1)
  clear hR hb2 hT1 HB1
  go_wp2_with fail
  refine (asize_in g1 shapeC Stg.zero Stg.zero 0 (by decide) _ (.inl HT1.out) shape_ok zero_few).mono ?_
  rintro e w3 ⟨rfl, hT3, hG3⟩
  rw [szC0.1]
  have HT3 := Lib.hid hT3
  have HB3 := Lib.hid (below_gb HB2.out hG3 HB2.out.size HG1.out)
  clear hT3 hG3 HB2 HT1
  go_wp2_with fail
  refine (aset_any g1 shapeC Stg.zero Stg.zero setC 1 0 _ _ _ HT3.out shape_wf shape_check setC_wf).mono ?_
  rintro e w4 ⟨hS, hG4⟩
  have hS' : e = .returned (.int .i64 0) ∧ TabW w4 g1 shapeC setC Stg.zero 1 0 (szV shapeC Stg.zero).toList (fiTo shapeC Stg.zero 8) := by
    rcases hS with ⟨h, _⟩ | ⟨_, h, _⟩ | ⟨_, _, h3, h4⟩
    · cases h
    · rw [setC_good] at h; cases h
    · exact ⟨h3, h4⟩
  obtain ⟨rfl, hT4⟩ := hS'
  have HT4 := Lib.hid hT4
  have HB4 := Lib.hid (below_gb HB3.out hG4 HB3.out.size HG1.out)
  clear hS hT4 hG4 HB3 HT3
  go_wp2_with fail
  refine (apowerup_any g1 shapeC setC Stg.zero 1 0 _ _ _ HT4.out shape_wf setC_wf setC_good).mono ?_
  rintro e w5 ⟨⟨g2, hg2, rfl, hT5⟩, hb5⟩
  have HT5 : Hid (TabW w5 g2 shapeC setC setC 0 0 zero8 zero8) := Lib.hid hT5
  have HU5 := Lib.hid (HT4.out.below hb5)
  have HB5 := Lib.hid (HB4.out.trans (hb5.mono HB4.out.size))
  have HNe : Hid (g1 ≠ g2 ∧ w.heap.size ≤ g2) := Lib.hid ⟨by have := HT4.out.lt; omega, by have := HB4.out.size; omega⟩
  clear hT5 hb5 HB4 HT4 hg2
  go_wp2_with fail
  refine (aplace_any g2 shapeC setC setC 4 3 _ (.inl HT5.out) shape_ok setC_few (by unfold I64; decide)).mono ?_
  rintro e w6 ⟨he, hT6, hG6⟩
  rw [plC] at he
  subst he
  have HT6 := Lib.hid hT6
  have HU6 := Lib.hid (HU5.out.kept hG6 HNe.out.1)
  have HB6 := Lib.hid (below_gb HB5.out hG6 HB5.out.size HNe.out.2)
  clear hT6 hG6 HB5 HT5 HU5
  go_wp2_with fail
  refine (asize_in g1 shapeC setC Stg.zero 4 (by decide) _ (.inr HU6.out) shape_ok zero_few).mono ?_
  rintro e w7 ⟨rfl, hT7, hG7⟩
  rw [szC0.2.1]
  have HT7 : Hid (Tab w7 g2 shapeC setC setC) := Lib.hid (HT6.out.imp (fun h => h.kept hG7 (fun e => HNe.out.1 e.symm)) (fun h => h.kept hG7 (fun e => HNe.out.1 e.symm)))
  have HB7 := Lib.hid (below_gb HB6.out hG7 HB6.out.size HG1.out)
  clear hT7 hG7 HB6 HT6 HU6
  go_wp2_with fail
  refine (asize_in g2 shapeC setC setC 4 (by decide) _ HT7.out shape_ok setC_few).mono ?_
  rintro e w8 ⟨rfl, hT8, hG8⟩
  rw [szC0.2.2.1]
  have HT8 := Lib.hid hT8
  have HB8 := Lib.hid (below_gb HB7.out hG8 HB7.out.size HNe.out.2)
  clear hT8 hG8 HB7 HT7
  go_wp2_with fail
  refine (asize_in g2 shapeC setC setC 0 (by decide) _ (.inr HT8.out) shape_ok setC_few).mono ?_
  rintro e w9 ⟨rfl, hT9, hG9⟩
  rw [szC0.2.2.2]
  have HT9 := Lib.hid hT9
  have HB9 := Lib.hid (below_gb HB8.out hG9 HB8.out.size HNe.out.2)
  clear hT9 hG9 HB8 HT8
  go_wp2_with fail
  refine (aactive_any g2 shapeC setC setC 1 0 _ _ _ HT9.out).mono ?_
  rintro e w10 ⟨rfl, rfl⟩
  go_wp2_with fail
  go_ret
  exact ⟨rfl, HB9.out⟩
end Go.Proofs.Ytdbnadhmkfhdkaa
