/- page: known; PageReads. -/
import Derived.Test.YtfefjabdfelhnaaDoorPageG
import Derived.Lib.SlBytesConst
namespace Go.Proofs.YtfefjabdfelhnaaDoor
open Go Go.RowKit
set_option linter.unusedVariables false

def abcL : List Nat := [97, 98, 99]
theorem abc_bytes (w : World) (fr : Nat × Nat) : Bytes (w.alloc (.cells #[.int .u8 97, .int .u8 98, .int .u8 99] 5 fr)) (some ⟨w.heap.size, 0, none⟩) 3 abcL :=
  ⟨rfl, by decide, fun _ => ⟨w.heap.size, 0, rfl, by simp, fun i hi => by
    rw [Nat.zero_add, World.cell?_alloc_mark]
    match i, hi with
    | 0, _ => rfl
    | 1, _ => rfl
    | 2, _ => rfl⟩⟩
def rawK : List Nat := layL5 abcL 1
theorem rawK_facts : rawK.length = 73 ∧ rawK.getD 72 0 = 0 ∧ readL5 rawK 3 = abcL ∧ readN5 rawK 3 = 0 ∧ readS5 rawK 3 = 2 ∧ layE5 abcL 1 = 0 ∧ ∀ c ∈ rawK, c < 256 := by decide +kernel

set_option maxRecDepth 100000 in
set_option maxHeartbeats 4000000 in
theorem pknown_any (w : World) (hT : Deb w) : Calls Tryd.prog 15 #[] w fun e w' => e = .returned (.bool true) ∧ Below w.heap.size w w' := by
  obtain ⟨r1, r2, r3, r4, r5, r6, r7⟩ := rawK_facts
  have hkc := fun (w : World) (C : Array Value) (n c : Nat) => Lib.run_convert_bytes_const (P := Tryd.prog) w 22 5 C n c Tryd.underlying22 Tryd.underlying5
  have R1 := Lib.hid r1
  have R2 := Lib.hid r2
  have R3 := Lib.hid r3
  have R4 := Lib.hid r4
  have R5 := Lib.hid r5
  have R6 := Lib.hid r6
  have R7 := Lib.hid r7
  have HT := Lib.hid hT
  clear r1 r2 r3 r4 r5 r6 r7 hT
  have HAB := fun fr => Lib.hid (abc_bytes w fr)
  go_enter Tryd.func15, Tryd.ntmps15
  go_wp2_with fail
  refine (lay_page _ 3 3 abcL _ _ (HAB _).out (by omega) (by unfold I64; omega) (Deb.below HT.out ((Below.refl w.heap.size w).alloc (Nat.le_refl _) _) (Nat.le_refl _))).mono ?_
  rintro e w1 ⟨⟨v, he, hown⟩, hb⟩
  rw [R6.out] at he
  have hown' : w1.ownsRow _ 5 1 v rawK.length (u8s rawK) := hown
  rw [R1.out] at hown'
  have HB1 : Hid (Below w.heap.size w w1) := Lib.hid (((Below.refl w.heap.size w).alloc (Nat.le_refl _) _).trans (hb.mono (by simp)))
  obtain ⟨g, cap, rfl⟩ := own_shape hown' (by omega)
  have hcap : 73 ≤ cap ∧ cap ≤ maxLen := by
    rcases hown'.2 with ⟨h, _⟩ | ⟨g', cap', cur, h, _, _, h3, h4, _⟩
    · simp at h
    · simp at h; obtain ⟨rfl, rfl⟩ := h; exact ⟨h3, h4⟩
  have HY := Lib.hid (bytes_of_own hown' R7.out)
  have HC := Lib.hid (own_at hown' 72 (by omega))
  have hg1 := (hown'.lt g rfl).2
  subst he
  clear hb hown hown' hkc HAB
  go_wp2_with fail
  refine (read_page _ 73 cap rawK 3 _ HY.out (by omega) hcap.1 hcap.2 (by unfold I64; omega) (Deb.below HT.out HB1.out (Nat.le_refl _))).mono ?_
  rintro e w2 ⟨⟨a2, cap2, he, hy2, _, _⟩, hb2⟩
  rw [R3.out, R4.out, R5.out] at he
  rw [R3.out] at hy2
  have HB2 := Lib.hid (HB1.out.trans (hb2.mono HB1.out.size))
  have hstr := run_str (P := Tryd.prog) hy2 22 5 9 Tryd.underlying22 Tryd.underlying5 Tryd.underlying9 cap2
  have c0 : w2.cell? ⟨g, 72, none⟩ = some (.int .u8 0) := by
    have := (hb2.cell (p := ⟨g, 72, none⟩) hg1).trans HC.out
    rw [R2.out] at this
    exact this
  have hs2 : ((strB abcL).toList == [97, 98, 99]) = true := by decide +kernel
  subst he
  clear hy2 hb2
  have hch : Hid (∀ w', Calls Tryd.prog 24 #[.int .i64 65] w' fun e w'' => e = .returned (.int .i64 2) ∧ w' = w'') := Lib.hid (fun w' => chunks_any 65 (by unfold I64; omega) w')
  go_wp2_with (go_at_call 24; refine (hch.out _).mono ?_; rintro e w3 ⟨rfl, rfl⟩)
  go_ret
  exact ⟨rfl, HB2.out⟩

theorem layL5_lt {l : List Nat} (h : ∀ c ∈ l, c < 256) (c : Int) : ∀ x ∈ layL5 l c, x < 256 := by
  unfold layL5
  split
  · exact layTo_lt (padTo_lt h _) _
  · simp

set_option maxRecDepth 100000 in
set_option maxHeartbeats 40000000 in
theorem preads_walk (a : Option Addr) (len cap : Nat) (l : List Nat) (ch : Int) (a2 : Option Addr) (len2 cap2 : Nat) (r : List Nat) (by5 : Int) (mk : Nat) (w : World) (hi : Bytes w a len l) (hnil : a = none → cap = 0) (hj : Bytes w a2 len2 r) (hl : len ≤ 800) (hl2 : len2 ≤ 800) (hc2 : len2 ≤ cap2) (hcm2 : cap2 ≤ maxLen) (hch : I64 ch) (hby : I64 by5) (hb40 : by5 ≤ 1099511627776) (hmk : mk < 256) (hT : Deb w) :
    Calls Tryd.prog 5 #[.slice a len cap, .int .i64 ch, .slice a2 len2 cap2, .int .i64 by5, .int .u8 (mk : Int)] w fun e w' => e = .returned (.bool true) ∧ Below w.heap.size w w' := by
  have HI := Lib.hid hi
  have HJ := Lib.hid hj
  have HT := Lib.hid hT
  have HLt := Lib.hid (layL5_lt hi.2.1 ch)
  obtain ⟨E1, hE1⟩ : ∃ x, x = layE5 l ch := ⟨_, rfl⟩
  obtain ⟨N1, hN1⟩ : ∃ x, x = readN5 r by5 := ⟨_, rfl⟩
  obtain ⟨S1, hS1⟩ : ∃ x, x = readS5 r by5 := ⟨_, rfl⟩
  obtain ⟨T1, hT1⟩ : ∃ x, x = stateP r := ⟨_, rfl⟩
  obtain ⟨M1, hM1⟩ : ∃ x, x = markB mk := ⟨_, rfl⟩
  obtain ⟨C1, hC1⟩ : ∃ x, x = chunksP by5 := ⟨_, rfl⟩
  have HE1 := Lib.hid hE1
  have HN1 := Lib.hid hN1
  have HS1 := Lib.hid hS1
  have HT1 := Lib.hid (fun w (h : Bytes w a2 len2 r) => state_any a2 len2 cap2 r w h (by omega))
  have HT2 := Lib.hid (fun w (h : Bytes w a2 len2 r) => rstate_any a2 len2 cap2 r w h (by omega))
  have HM1 := Lib.hid (fun w => mark_any mk hmk w)
  have HM2 := Lib.hid (fun w => rmark_any mk hmk w)
  have HC1 := Lib.hid (fun w => chunks_any by5 hby w)
  have HC2 := Lib.hid (fun w => rchunks_any by5 hby w)
  rw [← hT1] at HT1 HT2
  rw [← hM1] at HM1 HM2
  rw [← hC1] at HC1 HC2
  clear hi hj hT hE1 hN1 hS1 hT1 hM1 hC1
  go_enter Tryd.func5, Tryd.ntmps5
  go_wp2_with fail
  refine (pknown_any _ HT.out).mono ?_
  rintro e w1 ⟨rfl, hb1⟩
  have HB1 := Lib.hid hb1
  clear hb1
  go_wp2_with fail
  refine (lay_page a len cap l ch _ (HI.out.below HB1.out (Nat.le_refl _)) (by omega) hch (Deb.below HT.out HB1.out (Nat.le_refl _))).mono ?_
  rintro e w2 ⟨⟨v2, he, hown2⟩, hb2⟩
  obtain ⟨a3, cap3, rfl, hy3⟩ := bytes_of_own' hown2 HLt.out
  rw [← HE1.out] at he
  subst he
  have HY3 := Lib.hid hy3
  have HB2 := Lib.hid (HB1.out.trans (hb2.mono HB1.out.size))
  clear hown2 hb2 hy3
  go_wp2_with fail
  refine (rlay_page a len cap l ch _ (HI.out.below HB2.out (Nat.le_refl _)) hnil (by omega) hch).mono ?_
  rintro e w3 ⟨⟨v4, he, hown4⟩, hb3⟩
  obtain ⟨a4, cap4, rfl, hy4⟩ := bytes_of_own' hown4 HLt.out
  rw [← HE1.out] at he
  subst he
  have HY3' := Lib.hid (HY3.out.below hb3 (Nat.le_refl _))
  have HY4 := Lib.hid hy4
  have HB3 := Lib.hid (HB2.out.trans (hb3.mono HB2.out.size))
  clear hown4 hb3 hy4 HY3
  go_wp2_with fail
  refine (read_page a2 len2 cap2 r by5 _ (HJ.out.below HB3.out (Nat.le_refl _)) (by omega) hc2 hcm2 hby (Deb.below HT.out HB3.out (Nat.le_refl _))).mono ?_
  rintro e w4 ⟨⟨a5, cap5, he, hy5, _, _⟩, hb4⟩
  rw [← HN1.out, ← HS1.out] at he
  subst he
  have HY3 := Lib.hid (HY3'.out.below hb4 (Nat.le_refl _))
  have HY4' := Lib.hid (HY4.out.below hb4 (Nat.le_refl _))
  have HY5 := Lib.hid hy5
  have HB4 := Lib.hid (HB3.out.trans (hb4.mono HB3.out.size))
  clear hb4 hy5 HY3' HY4
  go_wp2_with fail
  refine (rread_page a2 len2 cap2 r by5 _ (HJ.out.below HB4.out (Nat.le_refl _)) (by omega) hc2 hcm2 hby).mono ?_
  rintro e w5 ⟨⟨a6, cap6, he, hy6, _, _⟩, hb5⟩
  rw [← HN1.out, ← HS1.out] at he
  subst he
  have s3 := str_below (HY3.out.below hb5 (Nat.le_refl _)) cap3 w5 (Below.refl _ _)
  have s4 := str_below (HY4'.out.below hb5 (Nat.le_refl _)) cap4 w5 (Below.refl _ _)
  have s5 := str_below (HY5.out.below hb5 (Nat.le_refl _)) cap5 w5 (Below.refl _ _)
  have s6 := str_below hy6 cap6 w5 (Below.refl _ _)
  have HB5 := Lib.hid (HB4.out.trans (hb5.mono HB4.out.size))
  have HJ5 := Lib.hid (HJ.out.below HB5.out (Nat.le_refl _))
  clear hb5 hy6 HY3 HY4' HY5
  go_wp2_with (first
    | (go_at_call 20; refine (HT1.out _ HJ5.out).mono ?_; rintro e w6 ⟨rfl, rfl⟩)
    | (go_at_call 21; refine (HT2.out _ HJ5.out).mono ?_; rintro e w6 ⟨rfl, rfl⟩)
    | (go_at_call 22; refine (HM1.out _).mono ?_; rintro e w6 ⟨rfl, rfl⟩)
    | (go_at_call 23; refine (HM2.out _).mono ?_; rintro e w6 ⟨rfl, rfl⟩)
    | (go_at_call 24; refine (HC1.out _).mono ?_; rintro e w6 ⟨rfl, rfl⟩)
    | (go_at_call 25; refine (HC2.out _).mono ?_; rintro e w6 ⟨rfl, rfl⟩))
  go_ret
  exact ⟨rfl, HB5.out⟩

theorem preads_any (a : Option Addr) (len cap : Nat) (l : List Nat) (ch : Int) (a2 : Option Addr) (len2 cap2 : Nat) (r : List Nat) (by5 : Int) (mk : Nat) (w : World) (hi : Bytes w a len l) (hnil : a = none → cap = 0) (hj : Bytes w a2 len2 r) (hc : len ≤ cap) (hcm : cap ≤ maxLen) (hc2 : len2 ≤ cap2) (hcm2 : cap2 ≤ maxLen) (hch : I64 ch) (hby : I64 by5) (hmk : mk < 256) (hT : Deb w) :
    Calls Tryd.prog 5 #[.slice a len cap, .int .i64 ch, .slice a2 len2 cap2, .int .i64 by5, .int .u8 (mk : Int)] w fun e w' => e = .returned (.bool true) ∧ Below w.heap.size w w' := by
  by_cases h : len ≤ 800 ∧ len2 ≤ 800 ∧ by5 ≤ 1099511627776
  · obtain ⟨h1, h2, h3⟩ := h
    exact preads_walk a len cap l ch a2 len2 cap2 r by5 mk w hi hnil hj h1 h2 hc2 hcm2 hch hby h3 hmk hT
  · unfold maxLen at hcm hcm2
    unfold I64 at hby
    have HT := Lib.hid hT
    have hcs : 800 < len ∨ (len ≤ 800 ∧ 800 < len2) ∨ (len ≤ 800 ∧ len2 ≤ 800 ∧ 1099511627776 < by5) := by omega
    clear hi hj hT h
    rcases hcs with h | ⟨h, h2⟩ | ⟨h, h2, h3⟩
    all_goals
      go_enter Tryd.func5, Tryd.ntmps5
      go_wp2_with (go_at_call 15; refine (pknown_any _ HT.out).mono ?_; rintro e w1 ⟨rfl, hb⟩)
      go_ret
      exact ⟨rfl, hb⟩

end Go.Proofs.YtfefjabdfelhnaaDoor
