/- nand: the power: Arm, Cut, On, step. -/
import Derived.Test.YtbbhniohliklhaaNandB
import Derived.Laws.LoneSync
namespace Go.Proofs.Ytbbhniohliklhaa
open Go Go.RowKit
set_option linter.unusedVariables false

def NF.cut (F : NF) : NF := { F with off := true, armed := 0 }
def NF.tick (F : NF) : NF := { F with armed := max (F.armed - 1) 0, st := IntKind.i64.wrap (F.st + 1) }
def NF.arm (F : NF) (n : Int) : NF := { F with armed := max n 1 }
def NF.on (F : NF) : NF := { F with off := false }
/-- Whether a step is done; what is behind it. -/
def NF.stepOk (F : NF) : Bool := !(F.armed == 1)
def NF.stepF (F : NF) : NF := if F.armed = 1 then F.cut else F.tick

theorem nadd_any (g k : Nat) (u : Int) (w : World) (hc : w.cell? ⟨g, k, none⟩ = some (.int .i64 u)) (hf : w.frozen? ⟨g, k, none⟩ = false) :
    Calls Try.prog 33 #[.pointer (some ⟨g, k, none⟩), .int .i64 1] w fun e w' => e = .returned (.int .i64 (IntKind.i64.wrap (u + 1))) ∧ w' = w.setCell ⟨g, k, none⟩ (.int .i64 (IntKind.i64.wrap (u + 1))) := by
  have hadd := run_call_add (P := Try.prog) Try.func49 (by kernel_rfl) (by kernel_rfl) (by kernel_rfl) .i64 (by kernel_rfl) (y := 1) (s := IntKind.i64.wrap (u + 1)) hc hf (by simp [go_sem])
  generalize IntKind.i64.wrap (u + 1) = s at hadd ⊢
  go_enter Try.func33, Try.ntmps33
  go_wp2_with fail
  go_ret
  exact ⟨rfl, rfl⟩

theorem FlashX.cut {M : NMem} {S : Zone} {w : World} {g : Nat} {F : NF} {ex : Nat → Nat → Bool} (h : FlashX M S w g F ex) : FlashX M S ((w.setCell ⟨g, 0, none⟩ (.bool true)).setCell ⟨g, 1, none⟩ (.int .i64 0)) g F.cut ex := by
  have h1 := h.setOwn (F' := { F with off := true }) 0 (.bool true) (by simp [NF.cells]) rfl rfl
  exact h1.setOwn 1 (.int .i64 0) (by simp [NF.cells, NF.cut]) rfl rfl
theorem FlashX.tick {M : NMem} {S : Zone} {w : World} {g : Nat} {F : NF} {ex : Nat → Nat → Bool} (h : FlashX M S w g F ex) : FlashX M S ((w.setCell ⟨g, 1, none⟩ (.int .i64 (max (F.armed - 1) 0))).setCell ⟨g, 2, none⟩ (.int .i64 (IntKind.i64.wrap (F.st + 1)))) g F.tick ex := by
  have h1 := h.setOwn (F' := { F with armed := max (F.armed - 1) 0 }) 1 (.int .i64 (max (F.armed - 1) 0)) (by simp [NF.cells]) rfl rfl
  exact h1.setOwn 2 (.int .i64 (IntKind.i64.wrap (F.st + 1))) (by simp [NF.cells, NF.tick]) rfl rfl

theorem ncut_any {M : NMem} {S : Zone} {g : Nat} {F : NF} {ex : Nat → Nat → Bool} (w : World) (h : FlashX M S w g F ex) :
    Calls Try.prog 41 #[.pointer (some ⟨g, 0, none⟩)] w fun e w' => e = .returned (.tuple #[]) ∧ FlashX M S w' g F.cut ex ∧ w.grownBy w' (some g) := by
  obtain ⟨c0, c1, -⟩ := h.gcells
  have f0 := h.gfree 0
  have f1 := h.gfree 1
  have HN := Lib.hid h.cut
  have HG : Hid (w.grownBy ((w.setCell ⟨g, 0, none⟩ (.bool true)).setCell ⟨g, 1, none⟩ (.int .i64 0)) (some g)) := Lib.hid (gb_set (gb_set (gb_refl _ _) 0 _) 1 _)
  clear h
  go_enter Try.func41, Try.ntmps41
  go_wp2_with fail
  go_end0
  exact ⟨rfl, HN.out, HG.out⟩
theorem narm_any {M : NMem} {S : Zone} {g : Nat} {F : NF} {ex : Nat → Nat → Bool} (n : Int) (w : World) (h : FlashX M S w g F ex) :
    Calls Try.prog 13 #[.pointer (some ⟨g, 0, none⟩), .int .i64 n] w fun e w' => e = .returned (.tuple #[]) ∧ FlashX M S w' g (F.arm n) ex ∧ w.grownBy w' (some g) := by
  obtain ⟨c0, c1, -⟩ := h.gcells
  have f1 := h.gfree 1
  have HN : Hid (FlashX M S (w.setCell ⟨g, 1, none⟩ (.int .i64 (max n 1))) g (F.arm n) ex) := Lib.hid (h.setOwn 1 (.int .i64 (max n 1)) (by simp [NF.cells, NF.arm]) rfl rfl)
  have HG : Hid (w.grownBy (w.setCell ⟨g, 1, none⟩ (.int .i64 (max n 1))) (some g)) := Lib.hid (gb_set (gb_refl _ _) 1 _)
  clear h
  by_cases hn : 1 ≤ n
  · rw [show max n 1 = n by omega] at HN HG
    go_enter Try.func13, Try.ntmps13
    go_wp2_with fail
    go_end0
    exact ⟨rfl, HN.out, HG.out⟩
  · rw [show max n 1 = 1 by omega] at HN HG
    go_enter Try.func13, Try.ntmps13
    go_wp2_with fail
    go_end0
    exact ⟨rfl, HN.out, HG.out⟩
theorem non_any {M : NMem} {S : Zone} {g : Nat} {F : NF} {ex : Nat → Nat → Bool} (w : World) (h : FlashX M S w g F ex) :
    Calls Try.prog 15 #[.pointer (some ⟨g, 0, none⟩)] w fun e w' => e = .returned (.tuple #[]) ∧ FlashX M S w' g F.on ex ∧ w.grownBy w' (some g) := by
  obtain ⟨c0, c1, -⟩ := h.gcells
  have f1 := h.gfree 0
  have HN : Hid (FlashX M S (w.setCell ⟨g, 0, none⟩ (.bool false)) g F.on ex) := Lib.hid (h.setOwn 0 (.bool false) (by simp [NF.cells, NF.on]) rfl rfl)
  have HG : Hid (w.grownBy (w.setCell ⟨g, 0, none⟩ (.bool false)) (some g)) := Lib.hid (gb_set (gb_refl _ _) 0 _)
  clear h
  go_enter Try.func15, Try.ntmps15
  go_wp2_with fail
  go_end0
  exact ⟨rfl, HN.out, HG.out⟩
theorem nstep_any {M : NMem} {S : Zone} {g : Nat} {F : NF} {ex : Nat → Nat → Bool} (w : World) (h : FlashX M S w g F ex) (h0 : 0 ≤ F.armed) (h1 : F.armed ≤ 9223372036854775807) :
    Calls Try.prog 32 #[.pointer (some ⟨g, 0, none⟩)] w fun e w' => e = .returned (.bool F.stepOk) ∧ FlashX M S w' g F.stepF ex ∧ w.grownBy w' (some g) := by
  obtain ⟨c0, c1, c2, -⟩ := h.gcells
  have f1 := h.gfree 1
  have f2 := h.gfree 2
  unfold NF.stepOk NF.stepF
  by_cases ha : F.armed = 1
  · rw [ha] at c1
    rw [if_pos ha, ha]
    have HH := Lib.hid h
    clear h f1 f2 h0 h1 ha
    go_enter Try.func32, Try.ntmps32
    go_wp2_with fail
    refine (ncut_any _ HH.out).mono ?_
    rintro e w1 ⟨rfl, hX, hG⟩
    have HX := Lib.hid hX
    have HG := Lib.hid hG
    clear hX hG
    go_wp2_with fail
    go_ret
    exact ⟨rfl, HX.out, HG.out⟩
  · rw [if_neg ha]
    have HN := Lib.hid h.tick
    have e1 : (F.armed == 1) = false := by simpa using ha
    rw [e1]
    have HG : Hid (w.grownBy ((w.setCell ⟨g, 1, none⟩ (.int .i64 (max (F.armed - 1) 0))).setCell ⟨g, 2, none⟩ (.int .i64 (IntKind.i64.wrap (F.st + 1)))) (some g)) := Lib.hid (gb_set (gb_set (gb_refl _ _) 1 _) 2 _)
    generalize F.armed = ar at *
    obtain ⟨m, hm⟩ : ∃ m, m = max (ar - 1) 0 := ⟨_, rfl⟩
    rw [← hm] at HN HG
    have c2' : (w.setCell ⟨g, 1, none⟩ (.int .i64 m)).cell? ⟨g, 2, none⟩ = some (.int .i64 F.st) := by
      rw [World.cell?_setCell_other (h := by intro e; simp at e)]
      exact c2
    have f2' : (w.setCell ⟨g, 1, none⟩ (.int .i64 m)).frozen? ⟨g, 2, none⟩ = false := by rw [World.frozen?_setCell]; exact f2
    generalize F.st = st at *
    clear h e1 c2 f2
    by_cases h2 : 1 ≤ ar
    · obtain rfl : m = ar - 1 := by omega
      clear hm
      go_enter Try.func32, Try.ntmps32
      go_wp2_with fail
      refine (nadd_any g 2 st _ c2' f2').mono ?_
      rintro e w2 ⟨rfl, rfl⟩
      go_wp2_with fail
      go_ret
      exact ⟨rfl, HN.out, HG.out⟩
    · obtain rfl : m = 0 := by omega
      clear hm
      go_enter Try.func32, Try.ntmps32
      go_wp2_with fail
      refine (nadd_any g 2 st _ c2' f2').mono ?_
      rintro e w2 ⟨rfl, rfl⟩
      go_wp2_with fail
      go_ret
      exact ⟨rfl, HN.out, HG.out⟩
end Go.Proofs.Ytbbhniohliklhaa
