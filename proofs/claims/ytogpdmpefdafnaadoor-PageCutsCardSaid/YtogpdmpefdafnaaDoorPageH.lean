/- page: known; PageReads. -/
import Derived.Test.YtogpdmpefdafnaaDoorPageG
import Derived.Lib.SlBytesConst
namespace Go.Proofs.YtogpdmpefdafnaaDoor
open Go Go.RowKit
set_option linter.unusedVariables false

def abcL : List Nat := [97, 98, 99]
theorem abc_bytes (w : World) (fr : Nat × Nat) : Bytes (w.alloc (.cells #[.int .u8 97, .int .u8 98, .int .u8 99] 5 fr)) (some ⟨w.heap.size, 0, none⟩) 3 abcL :=
  ⟨rfl, by decide, fun _ => ⟨w.heap.size, 0, rfl, by simp, fun i hi => by
    rw [Nat.zero_add, World.cell?_alloc_mark]
    match i, hi with
    | 0, _ => rfl
    | 1, _ => rfl
    | 2, _ => rfl⟩⟩
def rawK : List Nat := layL5 abcL 1
theorem rawK_facts : rawK.length = 73 ∧ rawK.getD 72 0 = 0 ∧ readL5 rawK 3 = abcL ∧ readN5 rawK 3 = 0 ∧ readS5 rawK 3 = 2 ∧ layE5 abcL 1 = 0 ∧ ∀ c ∈ rawK, c < 256 := by decide +kernel

set_option maxRecDepth 100000 in
set_option maxHeartbeats 4000000 in
theorem pknown_any (w : World) (hT : Deb w) : Calls Tryd.prog 5 #[] w fun e w' => e = .returned (.bool true) ∧ Below w.heap.size w w' := by
  obtain ⟨r1, r2, r3, r4, r5, r6, r7⟩ := rawK_facts
  have hkc := fun (w : World) (C : Array Value) (n c : Nat) => Lib.run_convert_bytes_const (P := Tryd.prog) w 22 5 C n c Tryd.underlying22 Tryd.underlying5
  have R1 := Lib.hid r1
  have R2 := Lib.hid r2
  have R3 := Lib.hid r3
  have R4 := Lib.hid r4
  have R5 := Lib.hid r5
  have R6 := Lib.hid r6
  have R7 := Lib.hid r7
  have HT := Lib.hid hT
  clear r1 r2 r3 r4 r5 r6 r7 hT
  have HAB := fun fr => Lib.hid (abc_bytes w fr)
  go_enter Tryd.func5, Tryd.ntmps5
  go_wp2_with fail
  refine (lay_page _ 3 3 abcL _ _ (HAB _).out (by omega) (by unfold I64; omega) (Deb.below HT.out ((Below.refl w.heap.size w).alloc (Nat.le_refl _) _) (Nat.le_refl _))).mono ?_
  rintro e w1 ⟨⟨v, he, hown⟩, hb⟩
  rw [R6.out] at he
  have hown' : w1.ownsRow _ 5 1 v rawK.length (u8s rawK) := hown
  rw [R1.out] at hown'
  have HB1 : Hid (Below w.heap.size w w1) := Lib.hid (((Below.refl w.heap.size w).alloc (Nat.le_refl _) _).trans (hb.mono (by simp)))
  obtain ⟨g, cap, rfl⟩ := own_shape hown' (by omega)
  have hcap : 73 ≤ cap ∧ cap ≤ maxLen := by
    rcases hown'.2 with ⟨h, _⟩ | ⟨g', cap', cur, h, _, _, h3, h4, _⟩
    · simp at h
    · simp at h; obtain ⟨rfl, rfl⟩ := h; exact ⟨h3, h4⟩
  have HY := Lib.hid (bytes_of_own hown' R7.out)
  have HC := Lib.hid (own_at hown' 72 (by omega))
  have hg1 := (hown'.lt g rfl).2
  subst he
  clear hb hown hown' hkc HAB
  go_wp2_with fail
  refine (read_page _ 73 cap rawK 3 _ HY.out (by omega) hcap.1 hcap.2 (by unfold I64; omega) (Deb.below HT.out HB1.out (Nat.le_refl _))).mono ?_
  rintro e w2 ⟨⟨a2, cap2, he, hy2, _, _⟩, hb2⟩
  rw [R3.out, R4.out, R5.out] at he
  rw [R3.out] at hy2
  have HB2 := Lib.hid (HB1.out.trans (hb2.mono HB1.out.size))
  have hstr := run_str (P := Tryd.prog) hy2 22 5 9 Tryd.underlying22 Tryd.underlying5 Tryd.underlying9 cap2
  have c0 : w2.cell? ⟨g, 72, none⟩ = some (.int .u8 0) := by
    have := (hb2.cell (p := ⟨g, 72, none⟩) hg1).trans HC.out
    rw [R2.out] at this
    exact this
  have hs2 : ((strB abcL).toList == [97, 98, 99]) = true := by decide +kernel
  subst he
  clear hy2 hb2
  have hch : Hid (∀ w', Calls Tryd.prog 6 #[.int .i64 65] w' fun e w'' => e = .returned (.int .i64 2) ∧ w' = w'') := Lib.hid (fun w' => chunks_any 65 (by unfold I64; omega) w')
  go_wp2_with (go_at_call 6; refine (hch.out _).mono ?_; rintro e w3 ⟨rfl, rfl⟩)
  go_ret
  exact ⟨rfl, HB2.out⟩

theorem layL5_lt {l : List Nat} (h : ∀ c ∈ l, c < 256) (c : Int) : ∀ x ∈ layL5 l c, x < 256 := by
  unfold layL5
  split
  · exact layTo_lt (padTo_lt h _) _
  · simp

end Go.Proofs.YtogpdmpefdafnaaDoor
