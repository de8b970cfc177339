/- wear.Victim, wear.Fresh. -/
import Derived.Test.YtjadkfgkidejbaaWearD
namespace Go.Proofs.Ytjadkfgkidejbaa
open Go.RowKit
set_option linter.unusedVariables false

def victimOf (l : List Blk) : Option Blk := match bestOf closedB aheadV l with
  | none => none
  | some b => if b.live = b.pages then none else some b
def freshOf (one : Bool) (l : List Blk) : Option Blk := bestOf emptyB (aheadF one) l
def numOf (o : Option Blk) : Int := (o.getD Blk.zero).n

theorem enter_closed (args : Array Value) (w : World) : Sem.run Try.prog (callFunc 96 args) w = .ok (.enter 96 args) w := by go_simp
theorem enter_empty (args : Array Value) (w : World) : Sem.run Try.prog (callFunc 100 args) w = .ok (.enter 100 args) w := by go_simp
theorem enter_aheadF (args : Array Value) (w : World) : Sem.run Try.prog (callFunc 101 args) w = .ok (.enter 101 args) w := by go_simp
theorem enter_aheadV (args : Array Value) (w : World) : Sem.run Try.prog (callFunc 97 args) w = .ok (.enter 97 args) w := by go_simp

set_option maxRecDepth 100000 in
theorem victim_any (a : Option Addr) (len cap : Nat) (l : List Blk) (W : World) (hm : len ≤ 9223372036854775807) (hl : Rws 7 Blk.cells W a len l) :
    Calls Try.prog 29 #[.slice a len cap] W fun e w' => e = .returned (.tuple #[.int .i64 (numOf (victimOf l)), .bool (victimOf l).isSome]) ∧ Below W.heap.size W w' := by
  have hs : ∀ o : Option Blk, bestOf closedB aheadV l = o → victimOf l = (match o with | none => none | some b => if b.live = b.pages then none else some b) := fun o h => by subst h; rfl
  have HS := Lib.hid hs
  clear hs
  rcases ho : bestOf closedB aheadV l with _ | b
  · go_enter Try.func29, Try.ntmps29
    go_wp2_with fail
    refine (best_any closedB aheadV _ _ #[] a len cap l _ hm hl enter_closed enter_aheadV (fun b w' _ => closed_any b w') (fun b c w' _ hb hc => aheadV_any b c w' hb hc)).mono ?_
    rintro e w1 ⟨rfl, hb⟩
    rw [ho]
    simp only [Blk.val, Option.getD, Option.isSome]
    go_wp2_with fail
    go_ret2
    exact ⟨by rw [HS.out _ ho]; rfl, below_new hb hb.size _⟩
  · by_cases he : b.live = b.pages
    all_goals
      go_enter Try.func29, Try.ntmps29
      go_wp2_with fail
      refine (best_any closedB aheadV _ _ #[] a len cap l _ hm hl enter_closed enter_aheadV (fun b w' _ => closed_any b w') (fun b c w' _ hb hc => aheadV_any b c w' hb hc)).mono ?_
      rintro e w1 ⟨rfl, hb⟩
      rw [ho]
      simp only [Blk.val, Option.getD, Option.isSome]
      go_wp2_with fail
      go_ret2
      exact ⟨by rw [HS.out _ ho]; simp [he, numOf, Blk.zero], below_new hb hb.size _⟩

set_option maxRecDepth 100000 in
theorem fresh_any (one : Bool) (a : Option Addr) (len cap : Nat) (l : List Blk) (W : World) (hm : len ≤ 9223372036854775807) (hl : Rws 7 Blk.cells W a len l) :
    Calls Try.prog 31 #[.bool one, .slice a len cap] W fun e w' => e = .returned (.tuple #[.int .i64 (numOf (freshOf one l)), .bool (freshOf one l).isSome]) ∧ Below W.heap.size W w' := by
  have hl' := hl.below (Below.alloc (Below.refl W.heap.size W) (Nat.le_refl _) (.cells #[.bool one] 4))
  rcases ho : bestOf emptyB (aheadF one) l with _ | b
  all_goals
    go_enter Try.func31, Try.ntmps31
    go_wp2_with fail
    refine (best_any emptyB (aheadF one) _ _ #[.pointer (some ⟨W.heap.size, 0, none⟩)] a len cap l _ hm hl' enter_empty enter_aheadF (fun b w' _ => empty_any b w') (fun b c w' hB hb hc => aheadF_any one b c W.heap.size w' (Nat.lt_of_lt_of_le (by simp) hB.size) ((hB.cell (p := ⟨W.heap.size, 0, none⟩) (by simp)).trans (by simp)))).mono ?_
    rintro e w1 ⟨rfl, hb⟩
    rw [ho]
    simp only [Blk.val, Option.getD, Option.isSome]
    go_wp2_with fail
    go_ret2
    exact ⟨by simp [freshOf, ho, numOf], below_new ((Below.alloc (Below.refl W.heap.size W) (Nat.le_refl _) _).trans (hb.mono (by simp))) (by have := hb.size; simp at this; omega) _⟩

end Go.Proofs.Ytjadkfgkidejbaa
