/- wear.Old. -/
import Derived.Test.YtjadkfgkidejbaaWearO
namespace Go.Proofs.Ytjadkfgkidejbaa
open Go.RowKit
set_option linter.unusedVariables false

theorem good_any (b : Blk) (w : World) : Calls Try.prog 103 #[.agg #[.int .i64 b.n, .int .i64 b.live, .int .i64 b.pages, .int .i64 b.worn, .bool b.op, .bool b.one, .bool b.bad]] w fun e w' => e = .returned (.bool (goodB b)) ∧ Below w.heap.size w w' := by
  go_enter Try.func103, Try.ntmps103
  go_wp2
  go_ret
  exact ⟨rfl, (Below.refl _ _).alloc (Nat.le_refl _) _⟩
theorem aheadM_any (a b : Blk) (w : World) : Calls Try.prog 104 #[.agg #[.int .i64 a.n, .int .i64 a.live, .int .i64 a.pages, .int .i64 a.worn, .bool a.op, .bool a.one, .bool a.bad], .agg #[.int .i64 b.n, .int .i64 b.live, .int .i64 b.pages, .int .i64 b.worn, .bool b.op, .bool b.one, .bool b.bad]] w fun e w' => e = .returned (.bool (aheadM a b)) ∧ Below w.heap.size w w' := by
  go_enter Try.func104, Try.ntmps104
  go_wp2
  all_goals
    go_ret
    exact ⟨by simp_all [aheadM], ((Below.refl _ _).alloc (Nat.le_refl _) _).alloc (by simp) _⟩
theorem rest_any (b : Blk) (w : World) : Calls Try.prog 105 #[.agg #[.int .i64 b.n, .int .i64 b.live, .int .i64 b.pages, .int .i64 b.worn, .bool b.op, .bool b.one, .bool b.bad]] w fun e w' => e = .returned (.bool (restB b)) ∧ Below w.heap.size w w' := by
  cases hc : closedB b
  all_goals
    go_enter Try.func105, Try.ntmps105
    go_wp2_with (go_at_call 96; refine (closed_any b _).mono ?_; rintro e w1 ⟨rfl, hb⟩; rw [hc]; have hcl := hb.cell (p := ⟨w.heap.size, 1, none⟩) (by simp))
    all_goals
      go_ret
      exact ⟨by (simp [restB, *]; try rfl), ((Below.refl _ _).alloc (Nat.le_refl _) _).trans (hb.mono (by simp))⟩
theorem aheadO_any (a b : Blk) (w : World) : Calls Try.prog 106 #[.agg #[.int .i64 a.n, .int .i64 a.live, .int .i64 a.pages, .int .i64 a.worn, .bool a.op, .bool a.one, .bool a.bad], .agg #[.int .i64 b.n, .int .i64 b.live, .int .i64 b.pages, .int .i64 b.worn, .bool b.op, .bool b.one, .bool b.bad]] w fun e w' => e = .returned (.bool (aheadO a b)) ∧ Below w.heap.size w w' := by
  by_cases h1 : a.worn < b.worn
  · have hv : aheadO a b = true := by simp [aheadO, h1]
    rw [hv]
    clear hv
    go_enter Try.func106, Try.ntmps106
    go_wp2
    go_ret
    exact ⟨rfl, ((Below.refl _ _).alloc (Nat.le_refl _) _).alloc (by simp) _⟩
  · cases h2 : (a.worn == b.worn) with
    | false =>
      have hv : aheadO a b = false := by have : ¬ a.worn = b.worn := by simpa using h2
                                         simp [aheadO, h1, this]
      rw [hv]
      clear hv
      go_enter Try.func106, Try.ntmps106
      go_wp2
      go_ret
      exact ⟨rfl, ((Below.refl _ _).alloc (Nat.le_refl _) _).alloc (by simp) _⟩
    | true =>
      have hv : aheadO a b = decide (a.n < b.n) := by have : a.worn = b.worn := by simpa using h2
                                                      simp [aheadO, this]
      rw [hv]
      clear hv
      go_enter Try.func106, Try.ntmps106
      go_wp2
      go_ret
      exact ⟨rfl, ((Below.refl _ _).alloc (Nat.le_refl _) _).alloc (by simp) _⟩

theorem enter_good (args : Array Value) (w : World) : Sem.run Try.prog (callFunc 103 args) w = .ok (.enter 103 args) w := by go_simp
theorem enter_aheadM (args : Array Value) (w : World) : Sem.run Try.prog (callFunc 104 args) w = .ok (.enter 104 args) w := by go_simp
theorem enter_rest (args : Array Value) (w : World) : Sem.run Try.prog (callFunc 105 args) w = .ok (.enter 105 args) w := by go_simp
theorem enter_aheadO (args : Array Value) (w : World) : Sem.run Try.prog (callFunc 106 args) w = .ok (.enter 106 args) w := by go_simp

theorem rest_good {l : List Blk} {b : Blk} (h : bestOf restB aheadO l = some b) : ∃ m, bestOf goodB aheadM l = some m := by
  obtain ⟨h1, h2, h3⟩ := bestOf_right h
  have hg : goodB b = true := by unfold restB closedB at h2; unfold goodB; cases hb : b.bad with | false => rfl | true => simp [hb] at h2
  have hl := bestOf_least (may := goodB) (ahead := aheadM) (le := fun _ _ => True) (fun _ _ _ _ _ => trivial) (fun _ _ _ _ _ => trivial) (fun _ _ _ _ _ _ _ _ => trivial) (fun _ => trivial) l
  cases hm : bestOf goodB aheadM l with
  | none => rw [hm] at hl; exact (hl b h3 h1 hg).elim
  | some m => exact ⟨m, rfl⟩

def oldPost (gap : Int) (l : List Blk) (e : Ending) : Prop := e = .returned (.tuple #[.int .i64 (numOf (oldOf gap l)), .bool (oldOf gap l).isSome])

set_option maxRecDepth 100000 in
set_option maxHeartbeats 8000000 in
theorem old_any (gap : Int) (a : Option Addr) (len cap : Nat) (l : List Blk) (W : World) (hm : len ≤ 1000000) (hl : Rws 7 Blk.cells W a len l) :
    Calls Try.prog 33 #[.int .i64 gap, .slice a len cap] W fun e w' => oldPost gap l e ∧ Below W.heap.size W w' := by
  have hmb := most_best l l.length (Nat.le_refl _)
  rw [List.take_length] at hmb
  have HB1 := Lib.hid (fun W' (hW : Below W.heap.size W W') => best_any goodB aheadM _ _ #[] a len cap l W' (by omega) (hl.below hW) enter_good enter_aheadM (fun b w' _ => good_any b w') (fun b c w' _ hb hc => aheadM_any b c w'))
  have HB2 := Lib.hid (fun W' (hW : Below W.heap.size W W') => best_any restB aheadO _ _ #[] a len cap l W' (by omega) (hl.below hW) enter_rest enter_aheadO (fun b w' _ => rest_any b w') (fun b c w' _ hb hc => aheadO_any b c w'))
  have HMB := Lib.hid hmb
  clear hmb hl
  rcases h1 : bestOf goodB aheadM l with _ | m
  · have hfin : oldPost gap l (.returned (.tuple #[.int .i64 0, .bool false])) := by
      unfold oldPost oldOf
      cases h2 : bestOf restB aheadO l with
      | none => rfl
      | some b => obtain ⟨m, hm⟩ := rest_good h2; rw [h1] at hm; cases hm
    have HFin := Lib.hid hfin
    clear hfin
    rcases h2 : bestOf restB aheadO l with _ | b
    all_goals
      go_enter Try.func33, Try.ntmps33
      go_wp2_with fail
      refine (HB1.out _ (Below.refl _ _)).mono ?_
      rintro e w1 ⟨rfl, hb1⟩
      rw [h1]
      simp only [Blk.val, Option.getD, Option.isSome]
      have HA := Lib.hid (hb1.alloc hb1.size (.cells #[.int .i64 Blk.zero.n, .int .i64 Blk.zero.live, .int .i64 Blk.zero.pages, .int .i64 Blk.zero.worn, .bool Blk.zero.op, .bool Blk.zero.one, .bool Blk.zero.bad] 57))
      go_wp2_with fail
      refine (HB2.out _ HA.out).mono ?_
      rintro e w2 ⟨rfl, hb2⟩
      rw [h2]
      simp only [Blk.val, Option.getD, Option.isSome]
      have HC := Lib.hid (HA.out.trans (hb2.mono HA.out.size))
      go_wp2_with fail
      go_ret2
      exact ⟨HFin.out, below_new HC.out HC.out.size _⟩
  · have hmw : mostTo l l.length = m.worn := by
      rcases HMB.out with ⟨h, _⟩ | ⟨m', h, h'⟩
      · rw [h1] at h; cases h
      · rw [h1] at h; rw [h', Option.some.inj h]
    have HMW := Lib.hid hmw
    obtain ⟨m1, m2, m3, m4, m5, m6, m7⟩ := rightB_bd (bestOf_right h1).1
    clear hmw
    rcases h2 : bestOf restB aheadO l with _ | b
    · have hfin : oldPost gap l (.returned (.tuple #[.int .i64 0, .bool false])) := by
        unfold oldPost oldOf
        rw [h2]
        rfl
      have HFin := Lib.hid hfin
      clear hfin
      go_enter Try.func33, Try.ntmps33
      go_wp2_with fail
      refine (HB1.out _ (Below.refl _ _)).mono ?_
      rintro e w1 ⟨rfl, hb1⟩
      rw [h1]
      simp only [Blk.val, Option.getD, Option.isSome]
      have HA := Lib.hid (hb1.alloc hb1.size (.cells #[.int .i64 m.n, .int .i64 m.live, .int .i64 m.pages, .int .i64 m.worn, .bool m.op, .bool m.one, .bool m.bad] 57))
      go_wp2_with fail
      refine (HB2.out _ HA.out).mono ?_
      rintro e w2 ⟨rfl, hb2⟩
      rw [h2]
      simp only [Blk.val, Option.getD, Option.isSome]
      have HC := Lib.hid (HA.out.trans (hb2.mono HA.out.size))
      go_wp2_with fail
      go_ret2
      exact ⟨HFin.out, below_new HC.out HC.out.size _⟩
    · obtain ⟨b1, b2, b3, b4, b5, b6, b7⟩ := rightB_bd (bestOf_right h2).1
      by_cases hg : m.worn - b.worn ≤ gap
      · have hfin : oldPost gap l (.returned (.tuple #[.int .i64 0, .bool false])) := by
          unfold oldPost oldOf
          rw [h2]
          simp only [HMW.out, hg, if_true]
          rfl
        have HFin := Lib.hid hfin
        clear hfin
        go_enter Try.func33, Try.ntmps33
        go_wp2_with fail
        refine (HB1.out _ (Below.refl _ _)).mono ?_
        rintro e w1 ⟨rfl, hb1⟩
        rw [h1]
        simp only [Blk.val, Option.getD, Option.isSome]
        have HA := Lib.hid (hb1.alloc hb1.size (.cells #[.int .i64 m.n, .int .i64 m.live, .int .i64 m.pages, .int .i64 m.worn, .bool m.op, .bool m.one, .bool m.bad] 57))
        go_wp2_with fail
        refine (HB2.out _ HA.out).mono ?_
        rintro e w2 ⟨rfl, hb2⟩
        have c1 := hb2.cell (p := ⟨w1.heap.size, 3, none⟩) (by simp)
        simp at c1
        have hlt0 := hb2.size
        rw [World.size_alloc] at hlt0
        have hlt : w1.heap.size < w2.heap.size := by omega
        clear hlt0
        rw [h2]
        simp only [Blk.val, Option.getD, Option.isSome]
        have HC := Lib.hid (HA.out.trans (hb2.mono HA.out.size))
        go_wp2_with fail
        go_ret2
        exact ⟨HFin.out, below_new HC.out HC.out.size _⟩
      · have hfin : oldPost gap l (.returned (.tuple #[.int .i64 b.n, .bool true])) := by
          unfold oldPost oldOf
          rw [h2]
          simp only [HMW.out, hg, if_false]
          rfl
        have HFin := Lib.hid hfin
        clear hfin
        go_enter Try.func33, Try.ntmps33
        go_wp2_with fail
        refine (HB1.out _ (Below.refl _ _)).mono ?_
        rintro e w1 ⟨rfl, hb1⟩
        rw [h1]
        simp only [Blk.val, Option.getD, Option.isSome]
        have HA := Lib.hid (hb1.alloc hb1.size (.cells #[.int .i64 m.n, .int .i64 m.live, .int .i64 m.pages, .int .i64 m.worn, .bool m.op, .bool m.one, .bool m.bad] 57))
        go_wp2_with fail
        refine (HB2.out _ HA.out).mono ?_
        rintro e w2 ⟨rfl, hb2⟩
        have c1 := hb2.cell (p := ⟨w1.heap.size, 3, none⟩) (by simp)
        simp at c1
        have hlt0 := hb2.size
        rw [World.size_alloc] at hlt0
        have hlt : w1.heap.size < w2.heap.size := by omega
        clear hlt0
        rw [h2]
        simp only [Blk.val, Option.getD, Option.isSome]
        have HC := Lib.hid (HA.out.trans (hb2.mono HA.out.size))
        go_wp2_with fail
        go_ret2
        exact ⟨HFin.out, below_new HC.out HC.out.size _⟩

end Go.Proofs.Ytjadkfgkidejbaa
