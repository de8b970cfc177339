/- nand: a law's page of an act. -/
import Derived.Test.YtbbhniohliklhaaNandRJ
namespace Go.Proofs.Ytbbhniohliklhaa
open Go Go.RowKit
set_option linter.unusedVariables false

def pageOf (F : NF) (x : NAct) : Int := if x.own = true ∧ 0 ≤ F.nextAt x.blk then F.nextAt x.blk else x.page
theorem lpage_any (x : NAct) (S : Zone) (h : Nat) (F : NF) (w : World) (hf : RefG S w h F) :
    Calls Try.prog 34 #[.pointer (some ⟨h, 0, none⟩), x.agg] w fun e w' => e = .returned (.int .i64 (pageOf F x)) ∧ Below w.heap.size w w' := by
  unfold NAct.agg pageOf
  generalize x.op = op
  generalize x.blk = blk
  generalize x.page = pg
  generalize x.own = ow
  generalize x.one = one
  generalize x.n = nn
  generalize x.fill = f
  generalize x.ra = ra
  generalize x.raw.length = L
  generalize x.rc = rc
  obtain ⟨w2, hw2⟩ : ∃ w2, w2 = w.alloc (.cells #[.int .i64 op, .int .i64 blk, .int .i64 pg, .bool ow, .int .u8 f, .slice ra L rc, .bool one, .int .i64 nn] 53) := ⟨_, rfl⟩
  have hb : Below w.heap.size w w2 := by rw [hw2]; exact (Below.refl _ _).alloc (Nat.le_refl _) _
  have HN := Lib.hid (rnext_all blk w2 (hf.same (SameOn.below hb)))
  have HB := Lib.hid hb
  obtain ⟨nx, hnx⟩ : ∃ nx, nx = F.nextAt blk := ⟨_, rfl⟩
  rw [← hnx] at HN ⊢
  rw [hw2] at HN HB
  obtain ⟨R, hR⟩ : ∃ R, R = (if ow = true ∧ 0 ≤ nx then nx else pg) := ⟨_, rfl⟩
  rw [← hR]
  clear hf hw2 hb hnx
  cases ow with
  | false =>
    obtain rfl : R = pg := by rw [hR]; simp
    clear hR
    go_enter Try.func34, Try.ntmps34
    go_wp2_with fail
    go_ret
    exact ⟨rfl, HB.out⟩
  | true =>
    by_cases h0 : 0 ≤ nx
    · obtain rfl : R = nx := by rw [hR]; simp [h0]
      clear hR
      go_enter Try.func34, Try.ntmps34
      go_wp2_with fail
      refine HN.out.mono ?_
      rintro e w1 ⟨rfl, rfl⟩
      go_wp2_with fail
      refine HN.out.mono ?_
      rintro e w1 ⟨rfl, rfl⟩
      go_wp2_with fail
      go_ret
      exact ⟨rfl, HB.out⟩
    · obtain rfl : R = pg := by rw [hR]; simp [h0]
      clear hR
      go_enter Try.func34, Try.ntmps34
      go_wp2_with fail
      refine HN.out.mono ?_
      rintro e w1 ⟨rfl, rfl⟩
      go_wp2_with fail
      go_ret
      exact ⟨rfl, HB.out⟩
/-- A flash's shape. -/
def NF.sh (F : NF) : Nat × Nat × Nat := (F.bl.length, F.np, F.ch)
theorem NF.sh_progK (F : NF) (n p : Nat) (x : NB) (raw old : List Nat) (k : Nat) : (F.progK n p x raw old k).sh = F.sh := by
  obtain ⟨a, b, c⟩ := F.progK_ch n p x raw old k
  unfold NF.sh; rw [a, b, c]
theorem NF.sh_progGo (F : NF) (n p : Nat) (x : NB) (raw old : List Nat) : ∀ m k, (F.progGo n p x raw old m k).2.sh = F.sh
  | 0, k => F.sh_progK n p x raw old k
  | m + 1, k => by
    unfold NF.progGo
    split
    · exact F.sh_progK n p x raw old k
    · exact NF.sh_progGo F n p x raw old m (k + 1)
theorem NF.sh_prog (F : NF) (n p : Int) (raw : List Nat) : (F.prog n p raw).2.sh = F.sh := by
  unfold NF.prog
  cases F.at n with
  | none => rfl
  | some x =>
    dsimp only
    split
    · rfl
    · exact F.sh_progGo _ _ _ _ _ _ _
theorem NF.sh_setB (F : NF) (n : Nat) (x : NB) : (F.setB n x).sh = F.sh := by simp [NF.sh, NF.setB]
theorem NF.sh_erase (F : NF) (n : Int) : (F.erase n).2.sh = F.sh := by
  unfold NF.erase
  cases F.at n with
  | none => rfl
  | some x =>
    dsimp only
    unfold NF.erE
    split
    · rfl
    · unfold NF.erGo
      split
      · rfl
      · split
        · exact NF.sh_setB F.tick _ _
        · exact (NF.sh_setB _ _ _).trans (NF.sh_setB F.tick _ _)
theorem NF.sh_mode (F : NF) (n : Int) (one : Bool) : (F.mode n one).2.sh = F.sh := by
  unfold NF.mode
  cases F.at n with
  | none => rfl
  | some x =>
    dsimp only
    unfold NF.modeF
    split
    · exact F.sh_setB _ _
    · rfl
theorem NF.sh_fail (F : NF) (n : Int) : (F.fail n).2.sh = F.sh := by
  unfold NF.fail
  cases F.at n with
  | none => rfl
  | some x => exact F.sh_setB _ _
theorem NF.sh_flip (F : NF) (n p k : Int) : (F.flip n p k).2.sh = F.sh := by
  unfold NF.flip
  cases F.at n with
  | none => rfl
  | some x =>
    dsimp only
    split
    · exact F.sh_setB _ _
    · rfl
theorem NF.sh_read (F : NF) (n p : Int) : (F.read n p).2.2.sh = F.sh := by
  unfold NF.read
  cases F.at n with
  | none => rfl
  | some x =>
    dsimp only
    split <;> rfl
end Go.Proofs.Ytbbhniohliklhaa
