/- the reference's table: New, Set, PowerUp. -/
import Derived.Test.YtdbnadhmkfhdkaaAreasU
import Derived.Test.YtdbnadhmkfhdkaaAreasJ
import Derived.Test.YtdbnadhmkfhdkaaAreasE
namespace Go.Proofs.Ytdbnadhmkfhdkaa
open Go Go.RowKit
set_option linter.unusedVariables false

/-- The reference's table in memory. -/
def RTab (w : World) (g : Nat) (c : Cfg) (s n : Stg) : Prop := HasB w g (c.cells ++ (s.cells ++ n.cells)).toArray 104
theorem RTab.lt {w : World} {g : Nat} {c : Cfg} {s n : Stg} (h : RTab w g c s n) : g < w.heap.size := HasB.lt h
theorem RTab.below {w w' : World} {g : Nat} {c : Cfg} {s n : Stg} (h : RTab w g c s n) (hb : Below w.heap.size w w') : RTab w' g c s n := HasB.below h hb (HasB.lt h)
theorem RTab.kept {w w' : World} {g g2 : Nat} {c : Cfg} {s n : Stg} (h : RTab w g c s n) (hg : w.grownBy w' (some g2)) (hne : g ≠ g2) : RTab w' g c s n := HasB.kept h hg (by simp; exact hne)
theorem RTab.cCells {w : World} {g : Nat} {c : Cfg} {s n : Stg} (h : RTab w g c s n) :
    w.cell? ⟨g, 0, none⟩ = some (.int .i64 c.blocks) ∧ w.cell? ⟨g, 1, none⟩ = some (.int .i64 c.pages) ∧ w.cell? ⟨g, 2, none⟩ = some (.int .i64 c.sector) ∧ w.cell? ⟨g, 3, none⟩ = some (.int .i64 c.user) ∧ w.cell? ⟨g, 4, none⟩ = some (.int .i64 c.boot) ∧ w.cell? ⟨g, 5, none⟩ = some (.int .i64 c.rpa) ∧ w.cell? ⟨g, 6, none⟩ = some (.int .i64 c.group) ∧ w.cell? ⟨g, 7, none⟩ = some (.int .i64 c.cache) ∧ w.cell? ⟨g, 8, none⟩ = some (.int .i64 c.spare) := ⟨HasB.at h 0, HasB.at h 1, HasB.at h 2, HasB.at h 3, HasB.at h 4, HasB.at h 5, HasB.at h 6, HasB.at h 7, HasB.at h 8⟩
theorem RTab.sCells {w : World} {g : Nat} {c : Cfg} {s n : Stg} (h : RTab w g c s n) :
    w.cell? ⟨g, 9, none⟩ = some (.int .i64 s.a) ∧ w.cell? ⟨g, 10, none⟩ = some (.int .i64 s.b) ∧ w.cell? ⟨g, 11, none⟩ = some (.int .i64 s.d) ∧ w.cell? ⟨g, 12, none⟩ = some (.int .i64 s.e) ∧ w.cell? ⟨g, 13, none⟩ = some (.int .u8 s.v) ∧ w.cell? ⟨g, 14, none⟩ = some (.bool s.dn) := ⟨HasB.at h 9, HasB.at h 10, HasB.at h 11, HasB.at h 12, HasB.at h 13, HasB.at h 14⟩
theorem RTab.nCells {w : World} {g : Nat} {c : Cfg} {s n : Stg} (h : RTab w g c s n) :
    w.cell? ⟨g, 15, none⟩ = some (.int .i64 n.a) ∧ w.cell? ⟨g, 16, none⟩ = some (.int .i64 n.b) ∧ w.cell? ⟨g, 17, none⟩ = some (.int .i64 n.d) ∧ w.cell? ⟨g, 18, none⟩ = some (.int .i64 n.e) ∧ w.cell? ⟨g, 19, none⟩ = some (.int .u8 n.v) ∧ w.cell? ⟨g, 20, none⟩ = some (.bool n.dn) := ⟨HasB.at h 15, HasB.at h 16, HasB.at h 17, HasB.at h 18, HasB.at h 19, HasB.at h 20⟩
theorem RTab.setS {w : World} {g : Nat} {c : Cfg} {s n : Stg} (h : RTab w g c s n) (z : Stg) : RTab ((((((w.setCell ⟨g, 9, none⟩ (.int .i64 z.a)).setCell ⟨g, 10, none⟩ (.int .i64 z.b)).setCell ⟨g, 11, none⟩ (.int .i64 z.d)).setCell ⟨g, 12, none⟩ (.int .i64 z.e)).setCell ⟨g, 13, none⟩ (.int .u8 z.v)).setCell ⟨g, 14, none⟩ (.bool z.dn)) g c z n := by
  have h1 := (((((HasB.set h 9 (.int .i64 z.a)).set 10 (.int .i64 z.b)).set 11 (.int .i64 z.d)).set 12 (.int .i64 z.e)).set 13 (.int .u8 z.v)).set 14 (.bool z.dn)
  unfold RTab
  simpa [Cfg.cells, Stg.cells] using h1
/-- What New returns. -/
def RNewR (w : World) (c : Cfg) (s : Stg) (x : Ending) (w' : World) : Prop :=
  (goodOf c s = false ∧ x = .returned (.tuple #[.pointer none, .int .i64 1])) ∨ (goodOf c s = true ∧ ∃ g, w.heap.size ≤ g ∧ x = .returned (.tuple #[.pointer (some ⟨g, 0, none⟩), .int .i64 0]) ∧ RTab w' g c s (nowOf s))

set_option maxRecDepth 100000 in
set_option maxHeartbeats 4000000 in
theorem rnew_any (c : Cfg) (s : Stg) (w : World) (hs : s.wf) :
    Calls Try.prog 24 #[.agg #[.int .i64 c.blocks, .int .i64 c.pages, .int .i64 c.sector, .int .i64 c.user, .int .i64 c.boot, .int .i64 c.rpa, .int .i64 c.group, .int .i64 c.cache, .int .i64 c.spare], .agg #[.int .i64 s.a, .int .i64 s.b, .int .i64 s.d, .int .i64 s.e, .int .u8 s.v, .bool s.dn]] w fun x w' => RNewR w c s x w' ∧ Below w.heap.size w w' := by
  obtain ⟨za, zb, zd, ze, zv, zn⟩ := s
  have HS := Lib.hid hs
  obtain ⟨POST, hPOST⟩ : ∃ POST : Ending → World → Prop, POST = fun x w' => RNewR w c ⟨za, zb, zd, ze, zv, zn⟩ x w' ∧ Below w.heap.size w w' := ⟨_, rfl⟩
  rw [← hPOST]
  have HPost := Lib.hid hPOST
  clear hPOST hs
  have N1 : Hid (HasB ((w.alloc (.cells #[.int .i64 c.blocks, .int .i64 c.pages, .int .i64 c.sector, .int .i64 c.user, .int .i64 c.boot, .int .i64 c.rpa, .int .i64 c.group, .int .i64 c.cache, .int .i64 c.spare] 23)).alloc (.cells #[.int .i64 za, .int .i64 zb, .int .i64 zd, .int .i64 ze, .int .u8 zv, .bool zn] 56)) w.heap.size #[.int .i64 c.blocks, .int .i64 c.pages, .int .i64 c.sector, .int .i64 c.user, .int .i64 c.boot, .int .i64 c.rpa, .int .i64 c.group, .int .i64 c.cache, .int .i64 c.spare] 23) := Lib.hid ((HasB.new w _ _).alloc _)
  have N2 : Hid (HasB ((w.alloc (.cells #[.int .i64 c.blocks, .int .i64 c.pages, .int .i64 c.sector, .int .i64 c.user, .int .i64 c.boot, .int .i64 c.rpa, .int .i64 c.group, .int .i64 c.cache, .int .i64 c.spare] 23)).alloc (.cells #[.int .i64 za, .int .i64 zb, .int .i64 zd, .int .i64 ze, .int .u8 zv, .bool zn] 56)) (w.heap.size + 1) #[.int .i64 za, .int .i64 zb, .int .i64 zd, .int .i64 ze, .int .u8 zv, .bool zn] 56) := Lib.hid (HasB.new' (by simp) _ _)
  have HB0 : Hid (Below w.heap.size w ((w.alloc (.cells #[.int .i64 c.blocks, .int .i64 c.pages, .int .i64 c.sector, .int .i64 c.user, .int .i64 c.boot, .int .i64 c.rpa, .int .i64 c.group, .int .i64 c.cache, .int .i64 c.spare] 23)).alloc (.cells #[.int .i64 za, .int .i64 zb, .int .i64 zd, .int .i64 ze, .int .u8 zv, .bool zn] 56))) := Lib.hid (((Below.refl _ _).alloc (Nat.le_refl _) _).alloc (by simp) _)
  go_enter Try.func24, Try.ntmps24
  go_wp2_with fail
  refine (rcheck_any c _).mono ?_
  rintro x w1 ⟨rfl, hb1⟩
  have M1 := Lib.hid (N1.out.below hb1 N1.out.lt)
  have M2 := Lib.hid (N2.out.below hb1 N2.out.lt)
  have HB1 : Hid (Below w.heap.size w w1) := Lib.hid (HB0.out.trans (hb1.mono HB0.out.size))
  clear hb1 N1 N2 HB0
  rcases checkOf_two c with hc | hc
  · rw [hc]
    have HCk := Lib.hid hc
    clear hc
    cases zn with
    | false =>
      have HG := Lib.hid (good_off (s := ⟨za, zb, zd, ze, zv, false⟩) HCk.out rfl)
      obtain ⟨l1, x0, x1, x2, x3, x4, x5, x6, x7, x8⟩ := HasB.nine M1.out
      obtain ⟨l2, y0, y1, y2, y3, y4, y5⟩ := HasB.six M2.out
      go_wp2_with fail
      rw [HPost.out]
      exact ⟨.inr ⟨HG.out, w1.heap.size, HB1.out.size, rfl, HasB.new _ _ _⟩, HB1.out.alloc HB1.out.size _⟩
    | true =>
      have HG := Lib.hid (good_on (s := ⟨za, zb, zd, ze, zv, true⟩) HCk.out rfl)
      obtain ⟨l1, x0, x1, x2, x3, x4, x5, x6, x7, x8⟩ := HasB.nine M1.out
      obtain ⟨l2, y0, y1, y2, y3, y4, y5⟩ := HasB.six M2.out
      go_wp2_with fail
      refine (rfits_any c za zb zd ze zv _ HS.out.2.2.2.2).mono ?_
      rintro x w2 ⟨rfl, hb2⟩
      have HB2 : Hid (Below w.heap.size w w2) := Lib.hid (HB1.out.trans (hb2.mono HB1.out.size))
      have P1 := M1.out.below hb2 l1
      have P2 := M2.out.below hb2 l2
      obtain ⟨r, hr⟩ : ∃ r, r = fitsOf c za zb zd ze zv := ⟨_, rfl⟩
      rw [← hr]
      have HR := Lib.hid hr
      clear hb2 hr x0 x1 x2 x3 x4 x5 x6 x7 x8 y0 y1 y2 y3 y4 y5 l1 l2
      obtain ⟨l1, x0, x1, x2, x3, x4, x5, x6, x7, x8⟩ := HasB.nine P1
      obtain ⟨l2, y0, y1, y2, y3, y4, y5⟩ := HasB.six P2
      cases r with
      | false =>
        go_wp2_with fail
        rw [HPost.out]
        exact ⟨.inl ⟨by rw [HG.out]; exact HR.out.symm, rfl⟩, HB2.out⟩
      | true =>
        go_wp2_with fail
        rw [HPost.out]
        exact ⟨.inr ⟨by rw [HG.out]; exact HR.out.symm, w2.heap.size, HB2.out.size, rfl, HasB.new _ _ _⟩, HB2.out.alloc HB2.out.size _⟩
  · rw [hc]
    have HG := Lib.hid (good_bad (s := ⟨za, zb, zd, ze, zv, zn⟩) hc)
    clear hc
    go_wp2_with fail
    rw [HPost.out]
    exact ⟨.inl ⟨HG.out, rfl⟩, HB1.out⟩

/-- What Set returns, and the table behind it. -/
def RSetR (w : World) (g : Nat) (c : Cfg) (s n z : Stg) (x : Ending) (w' : World) : Prop :=
  (s.dn = true ∧ x = .returned (.int .i64 22) ∧ RTab w' g c s n) ∨ (s.dn = false ∧ goodOf c z = false ∧ x = .returned (.int .i64 1) ∧ RTab w' g c s n) ∨ (s.dn = false ∧ goodOf c z = true ∧ x = .returned (.int .i64 0) ∧ RTab w' g c z n)
set_option maxRecDepth 100000 in
set_option maxHeartbeats 2000000 in
theorem rset_any (g : Nat) (c : Cfg) (s n z : Stg) (w : World) (h : RTab w g c s n) (hck : checkOf c = 0) (hz : z.wf) :
    Calls Try.prog 26 #[.pointer (some ⟨g, 0, none⟩), .agg #[.int .i64 z.a, .int .i64 z.b, .int .i64 z.d, .int .i64 z.e, .int .u8 z.v, .bool z.dn]] w fun e w' => RSetR w g c s n z e w' ∧ w.grownBy w' (some g) := by
  obtain ⟨za, zb, zd, ze, zv, zn⟩ := z
  obtain ⟨sa, sb, sd, se, sv, sn⟩ := s
  have HZ := Lib.hid hz
  have HCk := Lib.hid hck
  obtain ⟨POST, hPOST⟩ : ∃ POST : Ending → World → Prop, POST = fun x w' => RSetR w g c ⟨sa, sb, sd, se, sv, sn⟩ n ⟨za, zb, zd, ze, zv, zn⟩ x w' ∧ w.grownBy w' (some g) := ⟨_, rfl⟩
  rw [← hPOST]
  have HPost := Lib.hid hPOST
  have n1 : HasB (w.alloc (.cells #[.int .i64 za, .int .i64 zb, .int .i64 zd, .int .i64 ze, .int .u8 zv, .bool zn] 56)) w.heap.size #[.int .i64 za, .int .i64 zb, .int .i64 zd, .int .i64 ze, .int .u8 zv, .bool zn] 56 := HasB.new _ _ _
  have hT1 := h.below ((Below.refl _ _).alloc (Nat.le_refl _) (.cells #[.int .i64 za, .int .i64 zb, .int .i64 zd, .int .i64 ze, .int .u8 zv, .bool zn] 56))
  have hG1 : w.grownBy (w.alloc (.cells #[.int .i64 za, .int .i64 zb, .int .i64 zd, .int .i64 ze, .int .u8 zv, .bool zn] 56)) (some g) := gb_alloc (gb_refl _ _) _
  obtain ⟨w1, hw1⟩ : ∃ w1, w.alloc (.cells #[.int .i64 za, .int .i64 zb, .int .i64 zd, .int .i64 ze, .int .u8 zv, .bool zn] 56) = w1 := ⟨_, rfl⟩
  rw [hw1] at n1 hT1 hG1
  have HT1 := Lib.hid hT1
  have HG1 := Lib.hid hG1
  have N1 := Lib.hid n1
  obtain ⟨c9, c10, c11, c12, c13, c14⟩ := hT1.sCells
  dsimp only at c9 c10 c11 c12 c13 c14
  clear h hz hck hPOST n1 hT1 hG1
  go_enter Try.func26, Try.ntmps26
  cases sn with
  | true =>
    go_wp2_with fail
    rw [HPost.out]
    exact ⟨.inl ⟨rfl, rfl, HT1.out⟩, HG1.out⟩
  | false =>
    cases zn with
    | false =>
      have HF : Hid (RTab ((((((w1.setCell ⟨g, 9, none⟩ (.int .i64 za)).setCell ⟨g, 10, none⟩ (.int .i64 zb)).setCell ⟨g, 11, none⟩ (.int .i64 zd)).setCell ⟨g, 12, none⟩ (.int .i64 ze)).setCell ⟨g, 13, none⟩ (.int .u8 zv)).setCell ⟨g, 14, none⟩ (.bool false)) g c ⟨za, zb, zd, ze, zv, false⟩ n) := Lib.hid (HT1.out.setS ⟨za, zb, zd, ze, zv, false⟩)
      have hf9 := HasB.free HT1.out 9
      have hf10 := HasB.free HT1.out 10
      have hf11 := HasB.free HT1.out 11
      have hf12 := HasB.free HT1.out 12
      have hf13 := HasB.free HT1.out 13
      have hf14 := HasB.free HT1.out 14
      have HGF : Hid (w.grownBy ((((((w1.setCell ⟨g, 9, none⟩ (.int .i64 za)).setCell ⟨g, 10, none⟩ (.int .i64 zb)).setCell ⟨g, 11, none⟩ (.int .i64 zd)).setCell ⟨g, 12, none⟩ (.int .i64 ze)).setCell ⟨g, 13, none⟩ (.int .u8 zv)).setCell ⟨g, 14, none⟩ (.bool false)) (some g)) := Lib.hid (gb_set (gb_set (gb_set (gb_set (gb_set (gb_set HG1.out 9 _) 10 _) 11 _) 12 _) 13 _) 14 _)
      obtain ⟨l2, y0, y1, y2, y3, y4, y5⟩ := HasB.six N1.out
      have HS5 := Lib.hid (fun (w' : World) (hb : Below w1.heap.size w1 w') => (N1.out.below hb N1.out.lt).six)
      have k5 : ∀ w', Below w1.heap.size w1 w' → w'.cell? ⟨w.heap.size, 5, none⟩ = some (.bool false) := fun w' hb => (HS5.out w' hb).2.2.2.2.2.2
      clear y0 y1 y2 y3 y4 y5
      go_wp2_with fail
      refine wp_region_held_drew (S := (fun w' => Below w1.heap.size w1 w')) (by kernel_rfl) ((Below.refl _ _).drew) (fun hHeld => ?_)
      refine held_take 0 (v := ?_) rfl (by kernel_rfl) (by kernel_rfl) (by kernel_rfl) (fun _ _ _ h => h) (by rfl) (fun w hS => ?_) (by assumption) ?_
      rotate_left
      · try dsimp only at hS
        go_simp <;> with_reducible rfl
      try simp only [Act.put, List.setIfInBounds_toArray, List.set_cons_zero, List.set_cons_succ]
      refine held_take 1 (v := ?_) rfl (by kernel_rfl) (by kernel_rfl) (by kernel_rfl) (fun _ _ _ h => h) (by rfl) (fun w hS => ?_) (by assumption) ?_
      rotate_left
      · try dsimp only at hS
        go_simp <;> with_reducible rfl
      try simp only [Act.put, List.setIfInBounds_toArray, List.set_cons_zero, List.set_cons_succ]
      refine held_take 2 (v := ?_) rfl (by kernel_rfl) (by kernel_rfl) (by kernel_rfl) (fun _ _ _ h => h) (by rfl) (fun w hS => ?_) (by assumption) ?_
      rotate_left
      · try dsimp only at hS
        go_simp <;> with_reducible rfl
      try simp only [Act.put, List.setIfInBounds_toArray, List.set_cons_zero, List.set_cons_succ]
      refine held_skip 3 rfl (by kernel_rfl) (by kernel_rfl) (by kernel_rfl) (fun _ _ _ h => h) (by rfl) (by assumption) ?_
      try simp only [Act.put, List.setIfInBounds_toArray, List.set_cons_zero, List.set_cons_succ]
      refine held_skip 4 rfl (by kernel_rfl) (by kernel_rfl) (by kernel_rfl) (fun _ _ _ h => h) (by rfl) (by assumption) ?_
      try simp only [Act.put, List.setIfInBounds_toArray, List.set_cons_zero, List.set_cons_succ]
      refine held_skip 5 rfl (by kernel_rfl) (by kernel_rfl) (by kernel_rfl) (fun _ _ _ h => h) (by rfl) (by assumption) ?_
      try simp only [Act.put, List.setIfInBounds_toArray, List.set_cons_zero, List.set_cons_succ]
      refine held_skip 6 rfl (by kernel_rfl) (by kernel_rfl) (by kernel_rfl) (fun _ _ _ h => h) (by rfl) (by assumption) ?_
      try simp only [Act.put, List.setIfInBounds_toArray, List.set_cons_zero, List.set_cons_succ]
      refine held_skip 7 rfl (by kernel_rfl) (by kernel_rfl) (by kernel_rfl) (fun _ _ _ h => h) (by rfl) (by assumption) ?_
      try simp only [Act.put, List.setIfInBounds_toArray, List.set_cons_zero, List.set_cons_succ]
      refine held_skip 8 rfl (by kernel_rfl) (by kernel_rfl) (by kernel_rfl) (fun _ _ _ h => h) (by rfl) (by assumption) ?_
      try simp only [Act.put, List.setIfInBounds_toArray, List.set_cons_zero, List.set_cons_succ]
      refine held_skip 9 rfl (by kernel_rfl) (by kernel_rfl) (by kernel_rfl) (fun _ _ _ h => h) (by rfl) (by assumption) ?_
      try simp only [Act.put, List.setIfInBounds_toArray, List.set_cons_zero, List.set_cons_succ]
      refine held_skip 10 rfl (by kernel_rfl) (by kernel_rfl) (by kernel_rfl) (fun _ _ _ h => h) (by rfl) (by assumption) ?_
      try simp only [Act.put, List.setIfInBounds_toArray, List.set_cons_zero, List.set_cons_succ]
      refine held_skip 11 rfl (by kernel_rfl) (by kernel_rfl) (by kernel_rfl) (fun _ _ _ h => h) (by rfl) (by assumption) ?_
      try simp only [Act.put, List.setIfInBounds_toArray, List.set_cons_zero, List.set_cons_succ]
      refine held_skip 12 rfl (by kernel_rfl) (by kernel_rfl) (by kernel_rfl) (fun _ _ _ h => h) (by rfl) (by assumption) ?_
      try simp only [Act.put, List.setIfInBounds_toArray, List.set_cons_zero, List.set_cons_succ]
      refine held_take 13 (v := ?_) rfl (by kernel_rfl) (by kernel_rfl) (by kernel_rfl) (fun _ _ _ h => h) (by rfl) (fun w hS => ?_) (by assumption) ?_
      rotate_left
      · try dsimp only at hS
        go_simp <;> with_reducible rfl
      try simp only [Act.put, List.setIfInBounds_toArray, List.set_cons_zero, List.set_cons_succ]
      refine held_done (by kernel_rfl) ?_
      obtain ⟨l2, y0, y1, y2, y3, y4, y5⟩ := HasB.six N1.out
      clear k5
      go_wp2_with fail
      rw [HPost.out]
      refine ⟨.inr (.inr ⟨rfl, good_off HCk.out rfl, rfl, ?_⟩), ?_⟩
      · exact HF.out.drew
      · exact gb_drew HGF.out
    | true =>
      obtain ⟨r, hr⟩ : ∃ r, r = fitsOf c za zb zd ze zv := ⟨_, rfl⟩
      have HR := Lib.hid hr
      have HC0 := Lib.hid (fun (w' : World) (hb : Below w1.heap.size w1 w') => (HT1.out.below hb).cCells)
      have HS5 := Lib.hid (fun (w' : World) (hb : Below w1.heap.size w1 w') => (N1.out.below hb N1.out.lt).six)
      have j0 : ∀ w', Below w1.heap.size w1 w' → w'.cell? ⟨w.heap.size, 0, none⟩ = some (.int .i64 za) := fun w' hb => (HS5.out w' hb).2.1
      have j1 : ∀ w', Below w1.heap.size w1 w' → w'.cell? ⟨w.heap.size, 1, none⟩ = some (.int .i64 zb) := fun w' hb => (HS5.out w' hb).2.2.1
      have j2 : ∀ w', Below w1.heap.size w1 w' → w'.cell? ⟨w.heap.size, 2, none⟩ = some (.int .i64 zd) := fun w' hb => (HS5.out w' hb).2.2.2.1
      have j3 : ∀ w', Below w1.heap.size w1 w' → w'.cell? ⟨w.heap.size, 3, none⟩ = some (.int .i64 ze) := fun w' hb => (HS5.out w' hb).2.2.2.2.1
      have j4 : ∀ w', Below w1.heap.size w1 w' → w'.cell? ⟨w.heap.size, 4, none⟩ = some (.int .u8 zv) := fun w' hb => (HS5.out w' hb).2.2.2.2.2.1
      have j5 : ∀ w', Below w1.heap.size w1 w' → w'.cell? ⟨w.heap.size, 5, none⟩ = some (.bool true) := fun w' hb => (HS5.out w' hb).2.2.2.2.2.2
      have k0 : ∀ w', Below w1.heap.size w1 w' → w'.cell? ⟨g, 0, none⟩ = some (.int .i64 c.blocks) := fun w' hb => (HC0.out w' hb).1
      have k1 : ∀ w', Below w1.heap.size w1 w' → w'.cell? ⟨g, 1, none⟩ = some (.int .i64 c.pages) := fun w' hb => (HC0.out w' hb).2.1
      have k2 : ∀ w', Below w1.heap.size w1 w' → w'.cell? ⟨g, 2, none⟩ = some (.int .i64 c.sector) := fun w' hb => (HC0.out w' hb).2.2.1
      have k3 : ∀ w', Below w1.heap.size w1 w' → w'.cell? ⟨g, 3, none⟩ = some (.int .i64 c.user) := fun w' hb => (HC0.out w' hb).2.2.2.1
      have k4 : ∀ w', Below w1.heap.size w1 w' → w'.cell? ⟨g, 4, none⟩ = some (.int .i64 c.boot) := fun w' hb => (HC0.out w' hb).2.2.2.2.1
      have k5 : ∀ w', Below w1.heap.size w1 w' → w'.cell? ⟨g, 5, none⟩ = some (.int .i64 c.rpa) := fun w' hb => (HC0.out w' hb).2.2.2.2.2.1
      have k6 : ∀ w', Below w1.heap.size w1 w' → w'.cell? ⟨g, 6, none⟩ = some (.int .i64 c.group) := fun w' hb => (HC0.out w' hb).2.2.2.2.2.2.1
      have k7 : ∀ w', Below w1.heap.size w1 w' → w'.cell? ⟨g, 7, none⟩ = some (.int .i64 c.cache) := fun w' hb => (HC0.out w' hb).2.2.2.2.2.2.2.1
      have k8 : ∀ w', Below w1.heap.size w1 w' → w'.cell? ⟨g, 8, none⟩ = some (.int .i64 c.spare) := fun w' hb => (HC0.out w' hb).2.2.2.2.2.2.2.2
      clear hr
      go_wp2_with fail
      refine wp_region_held_drew (S := (fun w' => Below w1.heap.size w1 w')) (by kernel_rfl) ((Below.refl _ _).drew) (fun hHeld => ?_)
      refine held_take 0 (v := ?_) rfl (by kernel_rfl) (by kernel_rfl) (by kernel_rfl) (fun _ _ _ h => h) (by rfl) (fun w hS => ?_) (by assumption) ?_
      rotate_left
      · try dsimp only at hS
        go_simp <;> with_reducible rfl
      try simp only [Act.put, List.setIfInBounds_toArray, List.set_cons_zero, List.set_cons_succ]
      refine held_take 1 (v := ?_) rfl (by kernel_rfl) (by kernel_rfl) (by kernel_rfl) (fun _ _ _ h => h) (by rfl) (fun w hS => ?_) (by assumption) ?_
      rotate_left
      · try dsimp only at hS
        go_simp <;> with_reducible rfl
      try simp only [Act.put, List.setIfInBounds_toArray, List.set_cons_zero, List.set_cons_succ]
      refine held_take 2 (v := ?_) rfl (by kernel_rfl) (by kernel_rfl) (by kernel_rfl) (fun _ _ _ h => h) (by rfl) (fun w hS => ?_) (by assumption) ?_
      rotate_left
      · try dsimp only at hS
        go_simp <;> with_reducible rfl
      try simp only [Act.put, List.setIfInBounds_toArray, List.set_cons_zero, List.set_cons_succ]
      refine held_take 3 (v := ?_) rfl (by kernel_rfl) (by kernel_rfl) (by kernel_rfl) (fun _ _ _ h => h) (by rfl) (fun w hS => ?_) (by assumption) ?_
      rotate_left
      · try dsimp only at hS
        go_simp <;> with_reducible rfl
      try simp only [Act.put, List.setIfInBounds_toArray, List.set_cons_zero, List.set_cons_succ]
      refine held_take 4 (v := ?_) rfl (by kernel_rfl) (by kernel_rfl) (by kernel_rfl) (fun _ _ _ h => h) (by rfl) (fun w hS => ?_) (by assumption) ?_
      rotate_left
      · try dsimp only at hS
        go_simp <;> with_reducible rfl
      try simp only [Act.put, List.setIfInBounds_toArray, List.set_cons_zero, List.set_cons_succ]
      refine held_take 5 (v := ?_) rfl (by kernel_rfl) (by kernel_rfl) (by kernel_rfl) (fun _ _ _ h => h) (by rfl) (fun w hS => ?_) (by assumption) ?_
      rotate_left
      · try dsimp only at hS
        go_simp <;> with_reducible rfl
      try simp only [Act.put, List.setIfInBounds_toArray, List.set_cons_zero, List.set_cons_succ]
      refine held_take 6 (v := ?_) rfl (by kernel_rfl) (by kernel_rfl) (by kernel_rfl) (fun _ _ _ h => h) (by rfl) (fun w hS => ?_) (by assumption) ?_
      rotate_left
      · try dsimp only at hS
        go_simp <;> with_reducible rfl
      try simp only [Act.put, List.setIfInBounds_toArray, List.set_cons_zero, List.set_cons_succ]
      refine held_take 7 (v := ?_) rfl (by kernel_rfl) (by kernel_rfl) (by kernel_rfl) (fun _ _ _ h => h) (by rfl) (fun w hS => ?_) (by assumption) ?_
      rotate_left
      · try dsimp only at hS
        go_simp <;> with_reducible rfl
      try simp only [Act.put, List.setIfInBounds_toArray, List.set_cons_zero, List.set_cons_succ]
      refine held_take 8 (v := ?_) rfl (by kernel_rfl) (by kernel_rfl) (by kernel_rfl) (fun _ _ _ h => h) (by rfl) (fun w hS => ?_) (by assumption) ?_
      rotate_left
      · try dsimp only at hS
        go_simp <;> with_reducible rfl
      try simp only [Act.put, List.setIfInBounds_toArray, List.set_cons_zero, List.set_cons_succ]
      refine held_take 9 (v := ?_) rfl (by kernel_rfl) (by kernel_rfl) (by kernel_rfl) (fun _ _ _ h => h) (by rfl) (fun w hS => ?_) (by assumption) ?_
      rotate_left
      · try dsimp only at hS
        go_simp <;> with_reducible rfl
      try simp only [Act.put, List.setIfInBounds_toArray, List.set_cons_zero, List.set_cons_succ]
      refine held_take 10 (v := ?_) rfl (by kernel_rfl) (by kernel_rfl) (by kernel_rfl) (fun _ _ _ h => h) (by rfl) (fun w hS => ?_) (by assumption) ?_
      rotate_left
      · try dsimp only at hS
        go_simp <;> with_reducible rfl
      try simp only [Act.put, List.setIfInBounds_toArray, List.set_cons_zero, List.set_cons_succ]
      refine held_one 11 rfl (by kernel_rfl) (fun K hK => ?_)
      go_simp
      refine Calls.mono (rfits_any c za zb zd ze zv _ HZ.out.2.2.2.2) ?_
      rintro e wm ⟨rfl, hbm⟩
      rw [← HR.out]
      have hbm' : Below w1.heap.size w1 wm := (Below.refl w1.heap.size w1).drew.trans (hbm.mono (Nat.le_refl _))
      have HBm := Lib.hid hbm'
      clear hbm
      refine hK.out _ _ (fun w' => Below w1.heap.size w1 w') (fun _ h => h) hbm' (fun hHeld => ?_)
      clear hK K
      try simp only [Act.put, List.setIfInBounds_toArray, List.set_cons_zero, List.set_cons_succ]
      refine held_take 12 (v := ?_) rfl (by kernel_rfl) (by kernel_rfl) (by kernel_rfl) (fun _ _ _ h => h) (by rfl) (fun w hS => ?_) (by assumption) ?_
      rotate_left
      · try dsimp only at hS
        go_simp <;> with_reducible rfl
      try simp only [Act.put, List.setIfInBounds_toArray, List.set_cons_zero, List.set_cons_succ]
      refine held_take 13 (v := ?_) rfl (by kernel_rfl) (by kernel_rfl) (by kernel_rfl) (fun _ _ _ h => h) (by rfl) (fun w hS => ?_) (by assumption) ?_
      rotate_left
      · try dsimp only at hS
        go_simp <;> with_reducible rfl
      try simp only [Act.put, List.setIfInBounds_toArray, List.set_cons_zero, List.set_cons_succ]
      refine held_done (by kernel_rfl) ?_
      clear hbm' j0 j1 j2 j3 j4 j5 k0 k1 k2 k3 k4 k5 k6 k7 k8 c9 c10 c11 c12 c13 c14
      have HTm : Hid (RTab wm g c ⟨sa, sb, sd, se, sv, false⟩ n) := Lib.hid (HT1.out.below HBm.out)
      have HGm : Hid (w.grownBy wm (some g)) := Lib.hid (gb_call HG1.out HBm.out)
      cases r with
      | false =>
        go_wp2_with fail
        rw [HPost.out]
        exact ⟨.inr (.inl ⟨rfl, by rw [good_on HCk.out rfl]; exact HR.out.symm, rfl, HTm.out⟩), HGm.out⟩
      | true =>
        obtain ⟨c9, c10, c11, c12, c13, c14⟩ := HTm.out.sCells
        dsimp only at c9 c10 c11 c12 c13 c14
        have hf9 := HasB.free HTm.out 9
        have hf10 := HasB.free HTm.out 10
        have hf11 := HasB.free HTm.out 11
        have hf12 := HasB.free HTm.out 12
        have hf13 := HasB.free HTm.out 13
        have hf14 := HasB.free HTm.out 14
        have HGF : Hid (w.grownBy ((((((wm.setCell ⟨g, 9, none⟩ (.int .i64 za)).setCell ⟨g, 10, none⟩ (.int .i64 zb)).setCell ⟨g, 11, none⟩ (.int .i64 zd)).setCell ⟨g, 12, none⟩ (.int .i64 ze)).setCell ⟨g, 13, none⟩ (.int .u8 zv)).setCell ⟨g, 14, none⟩ (.bool true)) (some g)) := Lib.hid (gb_set (gb_set (gb_set (gb_set (gb_set (gb_set HGm.out 9 _) 10 _) 11 _) 12 _) 13 _) 14 _)
        have HF : Hid (RTab ((((((wm.setCell ⟨g, 9, none⟩ (.int .i64 za)).setCell ⟨g, 10, none⟩ (.int .i64 zb)).setCell ⟨g, 11, none⟩ (.int .i64 zd)).setCell ⟨g, 12, none⟩ (.int .i64 ze)).setCell ⟨g, 13, none⟩ (.int .u8 zv)).setCell ⟨g, 14, none⟩ (.bool true)) g c ⟨za, zb, zd, ze, zv, true⟩ n) := Lib.hid (HTm.out.setS ⟨za, zb, zd, ze, zv, true⟩)
        obtain ⟨l2, y0, y1, y2, y3, y4, y5⟩ := HS5.out wm HBm.out
        simp only [Bool.not_true]
        go_wp2_with fail
        rw [HPost.out]
        refine ⟨.inr (.inr ⟨rfl, by rw [good_on HCk.out rfl]; exact HR.out.symm, rfl, ?_⟩), ?_⟩
        · exact HF.out
        · exact HGF.out
def RUpR (w : World) (c : Cfg) (s : Stg) (x : Ending) (w' : World) : Prop := ∃ g, w.heap.size ≤ g ∧ x = .returned (.pointer (some ⟨g, 0, none⟩)) ∧ RTab w' g c s s
theorem rup_new {w w1 w' : World} {c : Cfg} {s : Stg} (hg : goodOf c s = true) (hn : nowOf s = s) (hw : w.heap.size ≤ w1.heap.size) {x : Ending} (h : RNewR w1 c s x w') : ∃ g, w.heap.size ≤ g ∧ x = .returned (.tuple #[.pointer (some ⟨g, 0, none⟩), .int .i64 0]) ∧ RTab w' g c s s := by
  rcases h with ⟨h1, _⟩ | ⟨_, g, h2, h3, h4⟩
  · rw [hg] at h1; cases h1
  · exact ⟨g, Nat.le_trans hw h2, h3, by rw [hn] at h4; exact h4⟩

set_option maxRecDepth 100000 in
set_option maxHeartbeats 2000000 in
theorem rpowerup_any (g : Nat) (c : Cfg) (s n : Stg) (w : World) (h : RTab w g c s n) (hs : s.wf) (hg : goodOf c (nowOf s) = true) :
    Calls Try.prog 28 #[.pointer (some ⟨g, 0, none⟩)] w fun e w' => RUpR w c (nowOf s) e w' ∧ Below w.heap.size w w' := by
  obtain ⟨sa, sb, sd, se, sv, sn⟩ := s
  have HS := Lib.hid hs
  have HT := Lib.hid h
  obtain ⟨c9, c10, c11, c12, c13, c14⟩ := (h.below ((Below.refl _ _).alloc (Nat.le_refl _) (.cells #[.int .i64 0, .int .i64 0, .int .i64 0, .int .i64 0, .int .u8 0, .bool false] 56))).sCells
  dsimp only at c9 c10 c11 c12 c13 c14
  have HA : Hid (∀ A : Obj, RTab (w.alloc A) g c ⟨sa, sb, sd, se, sv, sn⟩ n ∧ Below w.heap.size w (w.alloc A) ∧ w.heap.size ≤ (w.alloc A).heap.size) := Lib.hid (fun A => ⟨h.below ((Below.refl _ _).alloc (Nat.le_refl _) A), (Below.refl w.heap.size w).alloc (Nat.le_refl _) A, by simp⟩)
  obtain ⟨POST, hPOST⟩ : ∃ POST : Ending → World → Prop, POST = fun x w' => RUpR w c (nowOf ⟨sa, sb, sd, se, sv, sn⟩) x w' ∧ Below w.heap.size w w' := ⟨_, rfl⟩
  rw [← hPOST]
  have HPost := Lib.hid hPOST
  clear h hPOST hs
  cases sn with
  | false =>
    have HG : Hid (goodOf c Stg.zero = true) := Lib.hid hg
    clear hg
    go_enter Try.func28, Try.ntmps28
    go_wp2_with fail
    obtain ⟨hTA, hbA, hszA⟩ := HA.out (.cells #[.int .i64 0, .int .i64 0, .int .i64 0, .int .i64 0, .int .u8 0, .bool false] 56)
    have n6 := HasB.new w #[.int .i64 0, .int .i64 0, .int .i64 0, .int .i64 0, .int .u8 0, .bool false] 56
    obtain ⟨wq, hwq⟩ : ∃ wq, w.alloc (.cells #[.int .i64 0, .int .i64 0, .int .i64 0, .int .i64 0, .int .u8 0, .bool false] 56) = wq := ⟨_, rfl⟩
    rw [hwq] at hTA hbA hszA n6 ⊢
    have HTq := Lib.hid hTA
    have HBq := Lib.hid hbA
    have HSq := Lib.hid hszA
    have HNq := Lib.hid n6
    have k0 : ∀ w', Below wq.heap.size wq w' → w'.cell? ⟨g, 0, none⟩ = some (.int .i64 c.blocks) := fun w' hb => (HTq.out.below hb).cCells.1
    have k1 : ∀ w', Below wq.heap.size wq w' → w'.cell? ⟨g, 1, none⟩ = some (.int .i64 c.pages) := fun w' hb => (HTq.out.below hb).cCells.2.1
    have k2 : ∀ w', Below wq.heap.size wq w' → w'.cell? ⟨g, 2, none⟩ = some (.int .i64 c.sector) := fun w' hb => (HTq.out.below hb).cCells.2.2.1
    have k3 : ∀ w', Below wq.heap.size wq w' → w'.cell? ⟨g, 3, none⟩ = some (.int .i64 c.user) := fun w' hb => (HTq.out.below hb).cCells.2.2.2.1
    have k4 : ∀ w', Below wq.heap.size wq w' → w'.cell? ⟨g, 4, none⟩ = some (.int .i64 c.boot) := fun w' hb => (HTq.out.below hb).cCells.2.2.2.2.1
    have k5 : ∀ w', Below wq.heap.size wq w' → w'.cell? ⟨g, 5, none⟩ = some (.int .i64 c.rpa) := fun w' hb => (HTq.out.below hb).cCells.2.2.2.2.2.1
    have k6 : ∀ w', Below wq.heap.size wq w' → w'.cell? ⟨g, 6, none⟩ = some (.int .i64 c.group) := fun w' hb => (HTq.out.below hb).cCells.2.2.2.2.2.2.1
    have k7 : ∀ w', Below wq.heap.size wq w' → w'.cell? ⟨g, 7, none⟩ = some (.int .i64 c.cache) := fun w' hb => (HTq.out.below hb).cCells.2.2.2.2.2.2.2.1
    have k8 : ∀ w', Below wq.heap.size wq w' → w'.cell? ⟨g, 8, none⟩ = some (.int .i64 c.spare) := fun w' hb => (HTq.out.below hb).cCells.2.2.2.2.2.2.2.2
    have y0 : ∀ w', Below wq.heap.size wq w' → w'.cell? ⟨w.heap.size, 0, none⟩ = some (.int .i64 0) := fun w' hb => (HNq.out.below hb HNq.out.lt).six.2.1
    have y1 : ∀ w', Below wq.heap.size wq w' → w'.cell? ⟨w.heap.size, 1, none⟩ = some (.int .i64 0) := fun w' hb => (HNq.out.below hb HNq.out.lt).six.2.2.1
    have y2 : ∀ w', Below wq.heap.size wq w' → w'.cell? ⟨w.heap.size, 2, none⟩ = some (.int .i64 0) := fun w' hb => (HNq.out.below hb HNq.out.lt).six.2.2.2.1
    have y3 : ∀ w', Below wq.heap.size wq w' → w'.cell? ⟨w.heap.size, 3, none⟩ = some (.int .i64 0) := fun w' hb => (HNq.out.below hb HNq.out.lt).six.2.2.2.2.1
    have y4 : ∀ w', Below wq.heap.size wq w' → w'.cell? ⟨w.heap.size, 4, none⟩ = some (.int .u8 0) := fun w' hb => (HNq.out.below hb HNq.out.lt).six.2.2.2.2.2.1
    have y5 : ∀ w', Below wq.heap.size wq w' → w'.cell? ⟨w.heap.size, 5, none⟩ = some (.bool false) := fun w' hb => (HNq.out.below hb HNq.out.lt).six.2.2.2.2.2.2
    clear hwq n6 hTA hbA hszA c9 c10 c11 c12 c13 c14 HA
    refine wp_region_held_drew (S := (fun w' => Below wq.heap.size wq w')) (by kernel_rfl) ((Below.refl _ _).drew) (fun hHeld => ?_)
    refine held_take 0 (v := ?_) rfl (by kernel_rfl) (by kernel_rfl) (by kernel_rfl) (fun _ _ _ h => h) (by rfl) (fun w hS => ?_) (by assumption) ?_
    rotate_left
    · try dsimp only at hS
      go_simp <;> with_reducible rfl
    try simp only [Act.put, List.setIfInBounds_toArray, List.set_cons_zero, List.set_cons_succ]
    refine held_take 1 (v := ?_) rfl (by kernel_rfl) (by kernel_rfl) (by kernel_rfl) (fun _ _ _ h => h) (by rfl) (fun w hS => ?_) (by assumption) ?_
    rotate_left
    · try dsimp only at hS
      go_simp <;> with_reducible rfl
    try simp only [Act.put, List.setIfInBounds_toArray, List.set_cons_zero, List.set_cons_succ]
    refine held_take 2 (v := ?_) rfl (by kernel_rfl) (by kernel_rfl) (by kernel_rfl) (fun _ _ _ h => h) (by rfl) (fun w hS => ?_) (by assumption) ?_
    rotate_left
    · try dsimp only at hS
      go_simp <;> with_reducible rfl
    try simp only [Act.put, List.setIfInBounds_toArray, List.set_cons_zero, List.set_cons_succ]
    refine held_take 3 (v := ?_) rfl (by kernel_rfl) (by kernel_rfl) (by kernel_rfl) (fun _ _ _ h => h) (by rfl) (fun w hS => ?_) (by assumption) ?_
    rotate_left
    · try dsimp only at hS
      go_simp <;> with_reducible rfl
    try simp only [Act.put, List.setIfInBounds_toArray, List.set_cons_zero, List.set_cons_succ]
    refine held_take 4 (v := ?_) rfl (by kernel_rfl) (by kernel_rfl) (by kernel_rfl) (fun _ _ _ h => h) (by rfl) (fun w hS => ?_) (by assumption) ?_
    rotate_left
    · try dsimp only at hS
      go_simp <;> with_reducible rfl
    try simp only [Act.put, List.setIfInBounds_toArray, List.set_cons_zero, List.set_cons_succ]
    refine held_one 5 rfl (by kernel_rfl) (fun K hK => ?_)
    go_simp
    refine Calls.mono (rnew_any c Stg.zero _ Stg.zero_wf) ?_
    rintro e w9 ⟨hR, hb9⟩
    obtain ⟨g9, hg9, rfl, hT9⟩ := rup_new (w := w) HG.out rfl HSq.out hR
    have hb9' : Below wq.heap.size wq w9 := (Below.refl wq.heap.size wq).drew.trans (hb9.mono (Nat.le_refl _))
    have HB9 : Hid (Below w.heap.size w w9) := Lib.hid (HBq.out.trans (hb9'.mono HSq.out))
    have HT9 := Lib.hid hT9
    clear hR hb9 hT9
    refine hK.out _ _ (fun w' => Below wq.heap.size wq w') (fun _ h => h) hb9' (fun hHeld => ?_)
    clear hK K
    try simp only [Act.put, List.setIfInBounds_toArray, List.set_cons_zero, List.set_cons_succ]
    refine held_take 6 (v := ?_) rfl (by kernel_rfl) (by kernel_rfl) (by kernel_rfl) (fun _ _ _ h => h) (by rfl) (fun w hS => ?_) (by assumption) ?_
    rotate_left
    · try dsimp only at hS
      go_simp <;> with_reducible rfl
    try simp only [Act.put, List.setIfInBounds_toArray, List.set_cons_zero, List.set_cons_succ]
    refine held_take 7 (v := ?_) rfl (by kernel_rfl) (by kernel_rfl) (by kernel_rfl) (fun _ _ _ h => h) (by rfl) (fun w hS => ?_) (by assumption) ?_
    rotate_left
    · try dsimp only at hS
      go_simp <;> with_reducible rfl
    try simp only [Act.put, List.setIfInBounds_toArray, List.set_cons_zero, List.set_cons_succ]
    refine held_take 8 (v := ?_) rfl (by kernel_rfl) (by kernel_rfl) (by kernel_rfl) (fun _ _ _ h => h) (by rfl) (fun w hS => ?_) (by assumption) ?_
    rotate_left
    · try dsimp only at hS
      go_simp <;> with_reducible rfl
    try simp only [Act.put, List.setIfInBounds_toArray, List.set_cons_zero, List.set_cons_succ]
    refine held_take 9 (v := ?_) rfl (by kernel_rfl) (by kernel_rfl) (by kernel_rfl) (fun _ _ _ h => h) (by rfl) (fun w hS => ?_) (by assumption) ?_
    rotate_left
    · try dsimp only at hS
      go_simp <;> with_reducible rfl
    try simp only [Act.put, List.setIfInBounds_toArray, List.set_cons_zero, List.set_cons_succ]
    refine held_take 10 (v := ?_) rfl (by kernel_rfl) (by kernel_rfl) (by kernel_rfl) (fun _ _ _ h => h) (by rfl) (fun w hS => ?_) (by assumption) ?_
    rotate_left
    · try dsimp only at hS
      go_simp <;> with_reducible rfl
    try simp only [Act.put, List.setIfInBounds_toArray, List.set_cons_zero, List.set_cons_succ]
    refine held_done (by kernel_rfl) ?_
    clear k0 k1 k2 k3 k4 k5 k6 k7 k8 y0 y1 y2 y3 y4 y5
    go_wp2_with fail
    rw [HPost.out]
    exact ⟨⟨g9, hg9, rfl, HT9.out⟩, HB9.out⟩
  | true =>
    have HG : Hid (goodOf c ⟨sa, sb, sd, se, sv, true⟩ = true) := Lib.hid hg
    clear hg
    go_enter Try.func28, Try.ntmps28
    go_wp2_with fail
    obtain ⟨hTA, hbA, hszA⟩ := HA.out (.cells #[.int .i64 sa, .int .i64 sb, .int .i64 sd, .int .i64 se, .int .u8 sv, .bool true] 56)
    have n6 := HasB.new w #[.int .i64 sa, .int .i64 sb, .int .i64 sd, .int .i64 se, .int .u8 sv, .bool true] 56
    obtain ⟨wq, hwq⟩ : ∃ wq, w.alloc (.cells #[.int .i64 sa, .int .i64 sb, .int .i64 sd, .int .i64 se, .int .u8 sv, .bool true] 56) = wq := ⟨_, rfl⟩
    rw [hwq] at hTA hbA hszA n6 ⊢
    have HTq := Lib.hid hTA
    have HBq := Lib.hid hbA
    have HSq := Lib.hid hszA
    have HNq := Lib.hid n6
    have k0 : ∀ w', Below wq.heap.size wq w' → w'.cell? ⟨g, 0, none⟩ = some (.int .i64 c.blocks) := fun w' hb => (HTq.out.below hb).cCells.1
    have k1 : ∀ w', Below wq.heap.size wq w' → w'.cell? ⟨g, 1, none⟩ = some (.int .i64 c.pages) := fun w' hb => (HTq.out.below hb).cCells.2.1
    have k2 : ∀ w', Below wq.heap.size wq w' → w'.cell? ⟨g, 2, none⟩ = some (.int .i64 c.sector) := fun w' hb => (HTq.out.below hb).cCells.2.2.1
    have k3 : ∀ w', Below wq.heap.size wq w' → w'.cell? ⟨g, 3, none⟩ = some (.int .i64 c.user) := fun w' hb => (HTq.out.below hb).cCells.2.2.2.1
    have k4 : ∀ w', Below wq.heap.size wq w' → w'.cell? ⟨g, 4, none⟩ = some (.int .i64 c.boot) := fun w' hb => (HTq.out.below hb).cCells.2.2.2.2.1
    have k5 : ∀ w', Below wq.heap.size wq w' → w'.cell? ⟨g, 5, none⟩ = some (.int .i64 c.rpa) := fun w' hb => (HTq.out.below hb).cCells.2.2.2.2.2.1
    have k6 : ∀ w', Below wq.heap.size wq w' → w'.cell? ⟨g, 6, none⟩ = some (.int .i64 c.group) := fun w' hb => (HTq.out.below hb).cCells.2.2.2.2.2.2.1
    have k7 : ∀ w', Below wq.heap.size wq w' → w'.cell? ⟨g, 7, none⟩ = some (.int .i64 c.cache) := fun w' hb => (HTq.out.below hb).cCells.2.2.2.2.2.2.2.1
    have k8 : ∀ w', Below wq.heap.size wq w' → w'.cell? ⟨g, 8, none⟩ = some (.int .i64 c.spare) := fun w' hb => (HTq.out.below hb).cCells.2.2.2.2.2.2.2.2
    have y0 : ∀ w', Below wq.heap.size wq w' → w'.cell? ⟨w.heap.size, 0, none⟩ = some (.int .i64 sa) := fun w' hb => (HNq.out.below hb HNq.out.lt).six.2.1
    have y1 : ∀ w', Below wq.heap.size wq w' → w'.cell? ⟨w.heap.size, 1, none⟩ = some (.int .i64 sb) := fun w' hb => (HNq.out.below hb HNq.out.lt).six.2.2.1
    have y2 : ∀ w', Below wq.heap.size wq w' → w'.cell? ⟨w.heap.size, 2, none⟩ = some (.int .i64 sd) := fun w' hb => (HNq.out.below hb HNq.out.lt).six.2.2.2.1
    have y3 : ∀ w', Below wq.heap.size wq w' → w'.cell? ⟨w.heap.size, 3, none⟩ = some (.int .i64 se) := fun w' hb => (HNq.out.below hb HNq.out.lt).six.2.2.2.2.1
    have y4 : ∀ w', Below wq.heap.size wq w' → w'.cell? ⟨w.heap.size, 4, none⟩ = some (.int .u8 sv) := fun w' hb => (HNq.out.below hb HNq.out.lt).six.2.2.2.2.2.1
    have y5 : ∀ w', Below wq.heap.size wq w' → w'.cell? ⟨w.heap.size, 5, none⟩ = some (.bool true) := fun w' hb => (HNq.out.below hb HNq.out.lt).six.2.2.2.2.2.2
    clear hwq n6 hTA hbA hszA c9 c10 c11 c12 c13 c14 HA
    refine wp_region_held_drew (S := (fun w' => Below wq.heap.size wq w')) (by kernel_rfl) ((Below.refl _ _).drew) (fun hHeld => ?_)
    refine held_take 0 (v := ?_) rfl (by kernel_rfl) (by kernel_rfl) (by kernel_rfl) (fun _ _ _ h => h) (by rfl) (fun w hS => ?_) (by assumption) ?_
    rotate_left
    · try dsimp only at hS
      go_simp <;> with_reducible rfl
    try simp only [Act.put, List.setIfInBounds_toArray, List.set_cons_zero, List.set_cons_succ]
    refine held_take 1 (v := ?_) rfl (by kernel_rfl) (by kernel_rfl) (by kernel_rfl) (fun _ _ _ h => h) (by rfl) (fun w hS => ?_) (by assumption) ?_
    rotate_left
    · try dsimp only at hS
      go_simp <;> with_reducible rfl
    try simp only [Act.put, List.setIfInBounds_toArray, List.set_cons_zero, List.set_cons_succ]
    refine held_take 2 (v := ?_) rfl (by kernel_rfl) (by kernel_rfl) (by kernel_rfl) (fun _ _ _ h => h) (by rfl) (fun w hS => ?_) (by assumption) ?_
    rotate_left
    · try dsimp only at hS
      go_simp <;> with_reducible rfl
    try simp only [Act.put, List.setIfInBounds_toArray, List.set_cons_zero, List.set_cons_succ]
    refine held_take 3 (v := ?_) rfl (by kernel_rfl) (by kernel_rfl) (by kernel_rfl) (fun _ _ _ h => h) (by rfl) (fun w hS => ?_) (by assumption) ?_
    rotate_left
    · try dsimp only at hS
      go_simp <;> with_reducible rfl
    try simp only [Act.put, List.setIfInBounds_toArray, List.set_cons_zero, List.set_cons_succ]
    refine held_take 4 (v := ?_) rfl (by kernel_rfl) (by kernel_rfl) (by kernel_rfl) (fun _ _ _ h => h) (by rfl) (fun w hS => ?_) (by assumption) ?_
    rotate_left
    · try dsimp only at hS
      go_simp <;> with_reducible rfl
    try simp only [Act.put, List.setIfInBounds_toArray, List.set_cons_zero, List.set_cons_succ]
    refine held_one 5 rfl (by kernel_rfl) (fun K hK => ?_)
    go_simp
    refine Calls.mono (rnew_any c ⟨sa, sb, sd, se, sv, true⟩ _ HS.out) ?_
    rintro e w9 ⟨hR, hb9⟩
    obtain ⟨g9, hg9, rfl, hT9⟩ := rup_new (w := w) HG.out rfl HSq.out hR
    have hb9' : Below wq.heap.size wq w9 := (Below.refl wq.heap.size wq).drew.trans (hb9.mono (Nat.le_refl _))
    have HB9 : Hid (Below w.heap.size w w9) := Lib.hid (HBq.out.trans (hb9'.mono HSq.out))
    have HT9 := Lib.hid hT9
    clear hR hb9 hT9
    refine hK.out _ _ (fun w' => Below wq.heap.size wq w') (fun _ h => h) hb9' (fun hHeld => ?_)
    clear hK K
    try simp only [Act.put, List.setIfInBounds_toArray, List.set_cons_zero, List.set_cons_succ]
    refine held_take 6 (v := ?_) rfl (by kernel_rfl) (by kernel_rfl) (by kernel_rfl) (fun _ _ _ h => h) (by rfl) (fun w hS => ?_) (by assumption) ?_
    rotate_left
    · try dsimp only at hS
      go_simp <;> with_reducible rfl
    try simp only [Act.put, List.setIfInBounds_toArray, List.set_cons_zero, List.set_cons_succ]
    refine held_take 7 (v := ?_) rfl (by kernel_rfl) (by kernel_rfl) (by kernel_rfl) (fun _ _ _ h => h) (by rfl) (fun w hS => ?_) (by assumption) ?_
    rotate_left
    · try dsimp only at hS
      go_simp <;> with_reducible rfl
    try simp only [Act.put, List.setIfInBounds_toArray, List.set_cons_zero, List.set_cons_succ]
    refine held_take 8 (v := ?_) rfl (by kernel_rfl) (by kernel_rfl) (by kernel_rfl) (fun _ _ _ h => h) (by rfl) (fun w hS => ?_) (by assumption) ?_
    rotate_left
    · try dsimp only at hS
      go_simp <;> with_reducible rfl
    try simp only [Act.put, List.setIfInBounds_toArray, List.set_cons_zero, List.set_cons_succ]
    refine held_take 9 (v := ?_) rfl (by kernel_rfl) (by kernel_rfl) (by kernel_rfl) (fun _ _ _ h => h) (by rfl) (fun w hS => ?_) (by assumption) ?_
    rotate_left
    · try dsimp only at hS
      go_simp <;> with_reducible rfl
    try simp only [Act.put, List.setIfInBounds_toArray, List.set_cons_zero, List.set_cons_succ]
    refine held_take 10 (v := ?_) rfl (by kernel_rfl) (by kernel_rfl) (by kernel_rfl) (fun _ _ _ h => h) (by rfl) (fun w hS => ?_) (by assumption) ?_
    rotate_left
    · try dsimp only at hS
      go_simp <;> with_reducible rfl
    try simp only [Act.put, List.setIfInBounds_toArray, List.set_cons_zero, List.set_cons_succ]
    refine held_done (by kernel_rfl) ?_
    clear k0 k1 k2 k3 k4 k5 k6 k7 k8 y0 y1 y2 y3 y4 y5
    go_wp2_with fail
    rw [HPost.out]
    exact ⟨⟨g9, hg9, rfl, HT9.out⟩, HB9.out⟩

end Go.Proofs.Ytdbnadhmkfhdkaa
