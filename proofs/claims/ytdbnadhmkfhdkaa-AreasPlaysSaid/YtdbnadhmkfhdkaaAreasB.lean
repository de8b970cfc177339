/- areas: Setting, Active, Set. -/
import Derived.Test.YtdbnadhmkfhdkaaAreasA
import Derived.Test.YtdbnadhmkfhdkaaHeld
import Derived.Laws.Tables
import Derived.Laws.Rows
namespace Go.Proofs.Ytdbnadhmkfhdkaa
open Go Go.RowKit
set_option linter.unusedVariables false

theorem TabW.sCells {w : World} {g : Nat} {c : Cfg} {s n : Stg} {od om : Int} {sz fi : List Value} (h : TabW w g c s n od om sz fi) :
    w.cell? ⟨g, 9, none⟩ = some (.int .i64 s.a) ∧ w.cell? ⟨g, 10, none⟩ = some (.int .i64 s.b) ∧ w.cell? ⟨g, 11, none⟩ = some (.int .i64 s.d) ∧ w.cell? ⟨g, 12, none⟩ = some (.int .i64 s.e) ∧ w.cell? ⟨g, 13, none⟩ = some (.int .u8 s.v) ∧ w.cell? ⟨g, 14, none⟩ = some (.bool s.dn) := ⟨h.1.at 9, h.1.at 10, h.1.at 11, h.1.at 12, h.1.at 13, h.1.at 14⟩
theorem TabW.nCells {w : World} {g : Nat} {c : Cfg} {s n : Stg} {od om : Int} {sz fi : List Value} (h : TabW w g c s n od om sz fi) :
    w.cell? ⟨g, 15, none⟩ = some (.int .i64 n.a) ∧ w.cell? ⟨g, 16, none⟩ = some (.int .i64 n.b) ∧ w.cell? ⟨g, 17, none⟩ = some (.int .i64 n.d) ∧ w.cell? ⟨g, 18, none⟩ = some (.int .i64 n.e) ∧ w.cell? ⟨g, 19, none⟩ = some (.int .u8 n.v) ∧ w.cell? ⟨g, 20, none⟩ = some (.bool n.dn) := ⟨h.1.at 15, h.1.at 16, h.1.at 17, h.1.at 18, h.1.at 19, h.1.at 20⟩
theorem TabW.cCells {w : World} {g : Nat} {c : Cfg} {s n : Stg} {od om : Int} {sz fi : List Value} (h : TabW w g c s n od om sz fi) :
    w.cell? ⟨g, 0, none⟩ = some (.int .i64 c.blocks) ∧ w.cell? ⟨g, 1, none⟩ = some (.int .i64 c.pages) ∧ w.cell? ⟨g, 2, none⟩ = some (.int .i64 c.sector) ∧ w.cell? ⟨g, 3, none⟩ = some (.int .i64 c.user) ∧ w.cell? ⟨g, 4, none⟩ = some (.int .i64 c.boot) ∧ w.cell? ⟨g, 5, none⟩ = some (.int .i64 c.rpa) ∧ w.cell? ⟨g, 6, none⟩ = some (.int .i64 c.group) ∧ w.cell? ⟨g, 7, none⟩ = some (.int .i64 c.cache) ∧ w.cell? ⟨g, 8, none⟩ = some (.int .i64 c.spare) := ⟨h.1.at 0, h.1.at 1, h.1.at 2, h.1.at 3, h.1.at 4, h.1.at 5, h.1.at 6, h.1.at 7, h.1.at 8⟩
theorem TabW.below {w w' : World} {g : Nat} {c : Cfg} {s n : Stg} {od om : Int} {sz fi : List Value} (h : TabW w g c s n od om sz fi) (hb : Below w.heap.size w w') : TabW w' g c s n od om sz fi := ⟨h.1.below hb h.1.lt, h.2.1, h.2.2⟩
theorem TabW.lt {w : World} {g : Nat} {c : Cfg} {s n : Stg} {od om : Int} {sz fi : List Value} (h : TabW w g c s n od om sz fi) : g < w.heap.size := h.1.lt
theorem TabW.drew {w : World} {g : Nat} {c : Cfg} {s n : Stg} {od om : Int} {sz fi : List Value} (h : TabW w g c s n od om sz fi) : TabW w.drew g c s n od om sz fi := h
theorem gb_call {a b c : World} {row : Option Nat} (h : a.grownBy b row) (hb : Below b.heap.size b c) : a.grownBy c row :=
  ⟨hb.os.trans h.os, hb.tape.trans h.tape, hb.output.trans h.output, Nat.le_trans h.size hb.size, fun k hk hne => (hb.block k (Nat.lt_of_lt_of_le hk h.size)).trans (h.block k hk hne)⟩

set_option maxRecDepth 100000 in
set_option maxHeartbeats 1000000 in
theorem asetting_any (g : Nat) (c : Cfg) (s n : Stg) (od om : Int) (sz fi : List Value) (w : World) (h : TabW w g c s n od om sz fi) :
    Calls Try.prog 17 #[.pointer (some ⟨g, 0, none⟩)] w fun e w' => e = .returned (.agg #[.int .i64 s.a, .int .i64 s.b, .int .i64 s.d, .int .i64 s.e, .int .u8 s.v, .bool s.dn]) ∧ Below w.heap.size w w' := by
  have c9 := (h.below ((Below.refl _ _).alloc (Nat.le_refl _) (.cells #[.int .i64 0, .int .i64 0, .int .i64 0, .int .i64 0, .int .u8 0, .bool false] 36))).sCells
  obtain ⟨c1, c2, c3, c4, c5, c6⟩ := c9
  have HB : Hid (∀ A, Below w.heap.size w (w.alloc A)) := Lib.hid (fun A => (Below.refl _ _).alloc (Nat.le_refl _) A)
  clear h
  go_enter Try.func17, Try.ntmps17
  go_wp2_with fail
  exact bodyPost_ret (results_cell_row (p := 2) (by kernel_rfl) _ _ w.heap.size 36 #[.int .i64 s.a, .int .i64 s.b, .int .i64 s.d, .int .i64 s.e, .int .u8 s.v, .bool s.dn] (0, 0) _ rfl (heap_alloc_new w _) Try.underlying36 rfl (by kernel_rfl)) rfl ⟨rfl, HB.out _⟩

set_option maxRecDepth 100000 in
set_option maxHeartbeats 1000000 in
theorem aactive_any (g : Nat) (c : Cfg) (s n : Stg) (od om : Int) (sz fi : List Value) (w : World) (h : TabW w g c s n od om sz fi) :
    Calls Try.prog 19 #[.pointer (some ⟨g, 0, none⟩)] w fun e w' => e = .returned (.bool n.dn) ∧ w = w' := by
  obtain ⟨_, _, _, _, _, c6⟩ := h.nCells
  clear h
  go_enter Try.func19, Try.ntmps19
  go_wp2_with fail
  go_ret
  exact ⟨rfl, rfl⟩

/-- What Set returns and leaves. -/
def SetR (w : World) (g : Nat) (c : Cfg) (s n z : Stg) (od om : Int) (sz fi : List Value) (x : Ending) (w' : World) : Prop :=
  (s.dn = true ∧ x = .returned (.int .i64 22) ∧ TabW w' g c s n od om sz fi) ∨
  (s.dn = false ∧ goodOf c z = false ∧ x = .returned (.int .i64 1) ∧ TabW w' g c s n od om sz fi) ∨
  (s.dn = false ∧ goodOf c z = true ∧ x = .returned (.int .i64 0) ∧ TabW w' g c z n od om sz fi)
set_option maxRecDepth 100000 in
set_option maxHeartbeats 2000000 in
theorem aset_any (g : Nat) (c : Cfg) (s n z : Stg) (od om : Int) (sz fi : List Value) (w : World) (h : TabW w g c s n od om sz fi) (hwf : c.wf) (hck : checkOf c = 0) (hz : z.wf) :
    Calls Try.prog 16 #[.pointer (some ⟨g, 0, none⟩), .agg #[.int .i64 z.a, .int .i64 z.b, .int .i64 z.d, .int .i64 z.e, .int .u8 z.v, .bool z.dn]] w fun e w' => SetR w g c s n z od om sz fi e w' ∧ w.grownBy w' (some g) := by
  obtain ⟨za, zb, zd, ze, zv, zn⟩ := z
  obtain ⟨sa, sb, sd, se, sv, sn⟩ := s
  have HW := Lib.hid hwf
  have HZ := Lib.hid hz
  have HCk := Lib.hid hck
  obtain ⟨POST, hPOST⟩ : ∃ POST : Ending → World → Prop, POST = fun x w' => SetR w g c ⟨sa, sb, sd, se, sv, sn⟩ n ⟨za, zb, zd, ze, zv, zn⟩ od om sz fi x w' ∧ w.grownBy w' (some g) := ⟨_, rfl⟩
  rw [← hPOST]
  have HPost := Lib.hid hPOST
  have n1 : HasB (w.alloc (.cells #[.int .i64 za, .int .i64 zb, .int .i64 zd, .int .i64 ze, .int .u8 zv, .bool zn] 36)) w.heap.size #[.int .i64 za, .int .i64 zb, .int .i64 zd, .int .i64 ze, .int .u8 zv, .bool zn] 36 := HasB.new _ _ _
  have hT1 := h.below ((Below.refl _ _).alloc (Nat.le_refl _) (.cells #[.int .i64 za, .int .i64 zb, .int .i64 zd, .int .i64 ze, .int .u8 zv, .bool zn] 36))
  have hG1 : w.grownBy (w.alloc (.cells #[.int .i64 za, .int .i64 zb, .int .i64 zd, .int .i64 ze, .int .u8 zv, .bool zn] 36)) (some g) := gb_alloc (gb_refl _ _) _
  obtain ⟨w1, hw1⟩ : ∃ w1, w.alloc (.cells #[.int .i64 za, .int .i64 zb, .int .i64 zd, .int .i64 ze, .int .u8 zv, .bool zn] 36) = w1 := ⟨_, rfl⟩
  rw [hw1] at n1 hT1 hG1
  have HT1 := Lib.hid hT1
  have HG1 := Lib.hid hG1
  have N1 := Lib.hid n1
  obtain ⟨c9, c10, c11, c12, c13, c14⟩ := hT1.sCells
  dsimp only at c9 c10 c11 c12 c13 c14
  clear h hwf hz hck hPOST n1 hT1 hG1
  go_enter Try.func16, Try.ntmps16
  cases sn with
  | true =>
    go_wp2_with fail
    rw [HPost.out]
    exact ⟨.inl ⟨rfl, rfl, HT1.out⟩, HG1.out⟩
  | false =>
    cases zn with
    | false =>
      have HF : Hid (TabW ((((((w1.setCell ⟨g, 9, none⟩ (.int .i64 za)).setCell ⟨g, 10, none⟩ (.int .i64 zb)).setCell ⟨g, 11, none⟩ (.int .i64 zd)).setCell ⟨g, 12, none⟩ (.int .i64 ze)).setCell ⟨g, 13, none⟩ (.int .u8 zv)).setCell ⟨g, 14, none⟩ (.bool false)) g c ⟨za, zb, zd, ze, zv, false⟩ n od om sz fi) := Lib.hid (HT1.out.setS ⟨za, zb, zd, ze, zv, false⟩)
      have hf9 := HT1.out.1.free 9
      have hf10 := HT1.out.1.free 10
      have hf11 := HT1.out.1.free 11
      have hf12 := HT1.out.1.free 12
      have hf13 := HT1.out.1.free 13
      have hf14 := HT1.out.1.free 14
      have HGF : Hid (w.grownBy ((((((w1.setCell ⟨g, 9, none⟩ (.int .i64 za)).setCell ⟨g, 10, none⟩ (.int .i64 zb)).setCell ⟨g, 11, none⟩ (.int .i64 zd)).setCell ⟨g, 12, none⟩ (.int .i64 ze)).setCell ⟨g, 13, none⟩ (.int .u8 zv)).setCell ⟨g, 14, none⟩ (.bool false)) (some g)) := Lib.hid (gb_set (gb_set (gb_set (gb_set (gb_set (gb_set HG1.out 9 _) 10 _) 11 _) 12 _) 13 _) 14 _)
      obtain ⟨l2, y0, y1, y2, y3, y4, y5⟩ := HasB.six N1.out
      have HS5 := Lib.hid (fun (w' : World) (hb : Below w1.heap.size w1 w') => (N1.out.below hb N1.out.lt).six)
      have k5 : ∀ w', Below w1.heap.size w1 w' → w'.cell? ⟨w.heap.size, 5, none⟩ = some (.bool false) := fun w' hb => (HS5.out w' hb).2.2.2.2.2.2
      clear y0 y1 y2 y3 y4 y5
      go_wp2_with fail
      refine wp_region_held_drew (S := (fun w' => Below w1.heap.size w1 w')) (by kernel_rfl) ((Below.refl _ _).drew) (fun hHeld => ?_)
      refine held_take 0 (v := ?_) rfl (by kernel_rfl) (by kernel_rfl) (by kernel_rfl) (fun _ _ _ h => h) (by rfl) (fun w hS => ?_) (by assumption) ?_
      rotate_left
      · try dsimp only at hS
        go_simp <;> with_reducible rfl
      try simp only [Act.put, List.setIfInBounds_toArray, List.set_cons_zero, List.set_cons_succ]
      refine held_take 1 (v := ?_) rfl (by kernel_rfl) (by kernel_rfl) (by kernel_rfl) (fun _ _ _ h => h) (by rfl) (fun w hS => ?_) (by assumption) ?_
      rotate_left
      · try dsimp only at hS
        go_simp <;> with_reducible rfl
      try simp only [Act.put, List.setIfInBounds_toArray, List.set_cons_zero, List.set_cons_succ]
      refine held_take 2 (v := ?_) rfl (by kernel_rfl) (by kernel_rfl) (by kernel_rfl) (fun _ _ _ h => h) (by rfl) (fun w hS => ?_) (by assumption) ?_
      rotate_left
      · try dsimp only at hS
        go_simp <;> with_reducible rfl
      try simp only [Act.put, List.setIfInBounds_toArray, List.set_cons_zero, List.set_cons_succ]
      refine held_skip 3 rfl (by kernel_rfl) (by kernel_rfl) (by kernel_rfl) (fun _ _ _ h => h) (by rfl) (by assumption) ?_
      try simp only [Act.put, List.setIfInBounds_toArray, List.set_cons_zero, List.set_cons_succ]
      refine held_skip 4 rfl (by kernel_rfl) (by kernel_rfl) (by kernel_rfl) (fun _ _ _ h => h) (by rfl) (by assumption) ?_
      try simp only [Act.put, List.setIfInBounds_toArray, List.set_cons_zero, List.set_cons_succ]
      refine held_skip 5 rfl (by kernel_rfl) (by kernel_rfl) (by kernel_rfl) (fun _ _ _ h => h) (by rfl) (by assumption) ?_
      try simp only [Act.put, List.setIfInBounds_toArray, List.set_cons_zero, List.set_cons_succ]
      refine held_skip 6 rfl (by kernel_rfl) (by kernel_rfl) (by kernel_rfl) (fun _ _ _ h => h) (by rfl) (by assumption) ?_
      try simp only [Act.put, List.setIfInBounds_toArray, List.set_cons_zero, List.set_cons_succ]
      refine held_skip 7 rfl (by kernel_rfl) (by kernel_rfl) (by kernel_rfl) (fun _ _ _ h => h) (by rfl) (by assumption) ?_
      try simp only [Act.put, List.setIfInBounds_toArray, List.set_cons_zero, List.set_cons_succ]
      refine held_skip 8 rfl (by kernel_rfl) (by kernel_rfl) (by kernel_rfl) (fun _ _ _ h => h) (by rfl) (by assumption) ?_
      try simp only [Act.put, List.setIfInBounds_toArray, List.set_cons_zero, List.set_cons_succ]
      refine held_skip 9 rfl (by kernel_rfl) (by kernel_rfl) (by kernel_rfl) (fun _ _ _ h => h) (by rfl) (by assumption) ?_
      try simp only [Act.put, List.setIfInBounds_toArray, List.set_cons_zero, List.set_cons_succ]
      refine held_skip 10 rfl (by kernel_rfl) (by kernel_rfl) (by kernel_rfl) (fun _ _ _ h => h) (by rfl) (by assumption) ?_
      try simp only [Act.put, List.setIfInBounds_toArray, List.set_cons_zero, List.set_cons_succ]
      refine held_skip 11 rfl (by kernel_rfl) (by kernel_rfl) (by kernel_rfl) (fun _ _ _ h => h) (by rfl) (by assumption) ?_
      try simp only [Act.put, List.setIfInBounds_toArray, List.set_cons_zero, List.set_cons_succ]
      refine held_skip 12 rfl (by kernel_rfl) (by kernel_rfl) (by kernel_rfl) (fun _ _ _ h => h) (by rfl) (by assumption) ?_
      try simp only [Act.put, List.setIfInBounds_toArray, List.set_cons_zero, List.set_cons_succ]
      refine held_take 13 (v := ?_) rfl (by kernel_rfl) (by kernel_rfl) (by kernel_rfl) (fun _ _ _ h => h) (by rfl) (fun w hS => ?_) (by assumption) ?_
      rotate_left
      · try dsimp only at hS
        go_simp <;> with_reducible rfl
      try simp only [Act.put, List.setIfInBounds_toArray, List.set_cons_zero, List.set_cons_succ]
      refine held_take 14 (v := ?_) rfl (by kernel_rfl) (by kernel_rfl) (by kernel_rfl) (fun _ _ _ h => h) (by rfl) (fun w hS => ?_) (by assumption) ?_
      rotate_left
      · try dsimp only at hS
        go_simp <;> with_reducible rfl
      try simp only [Act.put, List.setIfInBounds_toArray, List.set_cons_zero, List.set_cons_succ]
      refine held_done (by kernel_rfl) ?_
      obtain ⟨l2, y0, y1, y2, y3, y4, y5⟩ := HasB.six N1.out
      clear k5
      go_wp2_with fail
      rw [HPost.out]
      refine ⟨.inr (.inr ⟨rfl, good_off HCk.out rfl, rfl, ?_⟩), ?_⟩
      · exact HF.out.drew
      · exact gb_drew HGF.out
    | true =>
      obtain ⟨r, hr⟩ : ∃ r, r = fitsOf c za zb zd ze zv := ⟨_, rfl⟩
      have HR := Lib.hid hr
      have HC0 := Lib.hid (fun (w' : World) (hb : Below w1.heap.size w1 w') => (HT1.out.below hb).cCells)
      have HS5 := Lib.hid (fun (w' : World) (hb : Below w1.heap.size w1 w') => (N1.out.below hb N1.out.lt).six)
      have j0 : ∀ w', Below w1.heap.size w1 w' → w'.cell? ⟨w.heap.size, 0, none⟩ = some (.int .i64 za) := fun w' hb => (HS5.out w' hb).2.1
      have j1 : ∀ w', Below w1.heap.size w1 w' → w'.cell? ⟨w.heap.size, 1, none⟩ = some (.int .i64 zb) := fun w' hb => (HS5.out w' hb).2.2.1
      have j2 : ∀ w', Below w1.heap.size w1 w' → w'.cell? ⟨w.heap.size, 2, none⟩ = some (.int .i64 zd) := fun w' hb => (HS5.out w' hb).2.2.2.1
      have j3 : ∀ w', Below w1.heap.size w1 w' → w'.cell? ⟨w.heap.size, 3, none⟩ = some (.int .i64 ze) := fun w' hb => (HS5.out w' hb).2.2.2.2.1
      have j4 : ∀ w', Below w1.heap.size w1 w' → w'.cell? ⟨w.heap.size, 4, none⟩ = some (.int .u8 zv) := fun w' hb => (HS5.out w' hb).2.2.2.2.2.1
      have j5 : ∀ w', Below w1.heap.size w1 w' → w'.cell? ⟨w.heap.size, 5, none⟩ = some (.bool true) := fun w' hb => (HS5.out w' hb).2.2.2.2.2.2
      have k0 : ∀ w', Below w1.heap.size w1 w' → w'.cell? ⟨g, 0, none⟩ = some (.int .i64 c.blocks) := fun w' hb => (HC0.out w' hb).1
      have k1 : ∀ w', Below w1.heap.size w1 w' → w'.cell? ⟨g, 1, none⟩ = some (.int .i64 c.pages) := fun w' hb => (HC0.out w' hb).2.1
      have k2 : ∀ w', Below w1.heap.size w1 w' → w'.cell? ⟨g, 2, none⟩ = some (.int .i64 c.sector) := fun w' hb => (HC0.out w' hb).2.2.1
      have k3 : ∀ w', Below w1.heap.size w1 w' → w'.cell? ⟨g, 3, none⟩ = some (.int .i64 c.user) := fun w' hb => (HC0.out w' hb).2.2.2.1
      have k4 : ∀ w', Below w1.heap.size w1 w' → w'.cell? ⟨g, 4, none⟩ = some (.int .i64 c.boot) := fun w' hb => (HC0.out w' hb).2.2.2.2.1
      have k5 : ∀ w', Below w1.heap.size w1 w' → w'.cell? ⟨g, 5, none⟩ = some (.int .i64 c.rpa) := fun w' hb => (HC0.out w' hb).2.2.2.2.2.1
      have k6 : ∀ w', Below w1.heap.size w1 w' → w'.cell? ⟨g, 6, none⟩ = some (.int .i64 c.group) := fun w' hb => (HC0.out w' hb).2.2.2.2.2.2.1
      have k7 : ∀ w', Below w1.heap.size w1 w' → w'.cell? ⟨g, 7, none⟩ = some (.int .i64 c.cache) := fun w' hb => (HC0.out w' hb).2.2.2.2.2.2.2.1
      have k8 : ∀ w', Below w1.heap.size w1 w' → w'.cell? ⟨g, 8, none⟩ = some (.int .i64 c.spare) := fun w' hb => (HC0.out w' hb).2.2.2.2.2.2.2.2
      clear hr
      go_wp2_with fail
      refine wp_region_held_drew (S := (fun w' => Below w1.heap.size w1 w')) (by kernel_rfl) ((Below.refl _ _).drew) (fun hHeld => ?_)
      refine held_take 0 (v := ?_) rfl (by kernel_rfl) (by kernel_rfl) (by kernel_rfl) (fun _ _ _ h => h) (by rfl) (fun w hS => ?_) (by assumption) ?_
      rotate_left
      · try dsimp only at hS
        go_simp <;> with_reducible rfl
      try simp only [Act.put, List.setIfInBounds_toArray, List.set_cons_zero, List.set_cons_succ]
      refine held_take 1 (v := ?_) rfl (by kernel_rfl) (by kernel_rfl) (by kernel_rfl) (fun _ _ _ h => h) (by rfl) (fun w hS => ?_) (by assumption) ?_
      rotate_left
      · try dsimp only at hS
        go_simp <;> with_reducible rfl
      try simp only [Act.put, List.setIfInBounds_toArray, List.set_cons_zero, List.set_cons_succ]
      refine held_take 2 (v := ?_) rfl (by kernel_rfl) (by kernel_rfl) (by kernel_rfl) (fun _ _ _ h => h) (by rfl) (fun w hS => ?_) (by assumption) ?_
      rotate_left
      · try dsimp only at hS
        go_simp <;> with_reducible rfl
      try simp only [Act.put, List.setIfInBounds_toArray, List.set_cons_zero, List.set_cons_succ]
      refine held_take 3 (v := ?_) rfl (by kernel_rfl) (by kernel_rfl) (by kernel_rfl) (fun _ _ _ h => h) (by rfl) (fun w hS => ?_) (by assumption) ?_
      rotate_left
      · try dsimp only at hS
        go_simp <;> with_reducible rfl
      try simp only [Act.put, List.setIfInBounds_toArray, List.set_cons_zero, List.set_cons_succ]
      refine held_take 4 (v := ?_) rfl (by kernel_rfl) (by kernel_rfl) (by kernel_rfl) (fun _ _ _ h => h) (by rfl) (fun w hS => ?_) (by assumption) ?_
      rotate_left
      · try dsimp only at hS
        go_simp <;> with_reducible rfl
      try simp only [Act.put, List.setIfInBounds_toArray, List.set_cons_zero, List.set_cons_succ]
      refine held_take 5 (v := ?_) rfl (by kernel_rfl) (by kernel_rfl) (by kernel_rfl) (fun _ _ _ h => h) (by rfl) (fun w hS => ?_) (by assumption) ?_
      rotate_left
      · try dsimp only at hS
        go_simp <;> with_reducible rfl
      try simp only [Act.put, List.setIfInBounds_toArray, List.set_cons_zero, List.set_cons_succ]
      refine held_take 6 (v := ?_) rfl (by kernel_rfl) (by kernel_rfl) (by kernel_rfl) (fun _ _ _ h => h) (by rfl) (fun w hS => ?_) (by assumption) ?_
      rotate_left
      · try dsimp only at hS
        go_simp <;> with_reducible rfl
      try simp only [Act.put, List.setIfInBounds_toArray, List.set_cons_zero, List.set_cons_succ]
      refine held_take 7 (v := ?_) rfl (by kernel_rfl) (by kernel_rfl) (by kernel_rfl) (fun _ _ _ h => h) (by rfl) (fun w hS => ?_) (by assumption) ?_
      rotate_left
      · try dsimp only at hS
        go_simp <;> with_reducible rfl
      try simp only [Act.put, List.setIfInBounds_toArray, List.set_cons_zero, List.set_cons_succ]
      refine held_take 8 (v := ?_) rfl (by kernel_rfl) (by kernel_rfl) (by kernel_rfl) (fun _ _ _ h => h) (by rfl) (fun w hS => ?_) (by assumption) ?_
      rotate_left
      · try dsimp only at hS
        go_simp <;> with_reducible rfl
      try simp only [Act.put, List.setIfInBounds_toArray, List.set_cons_zero, List.set_cons_succ]
      refine held_take 9 (v := ?_) rfl (by kernel_rfl) (by kernel_rfl) (by kernel_rfl) (fun _ _ _ h => h) (by rfl) (fun w hS => ?_) (by assumption) ?_
      rotate_left
      · try dsimp only at hS
        go_simp <;> with_reducible rfl
      try simp only [Act.put, List.setIfInBounds_toArray, List.set_cons_zero, List.set_cons_succ]
      refine held_take 10 (v := ?_) rfl (by kernel_rfl) (by kernel_rfl) (by kernel_rfl) (fun _ _ _ h => h) (by rfl) (fun w hS => ?_) (by assumption) ?_
      rotate_left
      · try dsimp only at hS
        go_simp <;> with_reducible rfl
      try simp only [Act.put, List.setIfInBounds_toArray, List.set_cons_zero, List.set_cons_succ]
      refine held_one 11 rfl (by kernel_rfl) (fun K hK => ?_)
      go_simp
      refine Calls.mono (fitsX_any c za zb zd ze zv _ HW.out HZ.out.2.2.2.2 HZ.out.1 HZ.out.2.1 HZ.out.2.2.1 HZ.out.2.2.2.1) ?_
      rintro e wm ⟨rfl, hbm⟩
      rw [← HR.out]
      have hbm' : Below w1.heap.size w1 wm := (Below.refl w1.heap.size w1).drew.trans (hbm.mono (Nat.le_refl _))
      have HBm := Lib.hid hbm'
      clear hbm
      refine hK.out _ _ (fun w' => Below w1.heap.size w1 w') (fun _ h => h) hbm' (fun hHeld => ?_)
      clear hK K
      try simp only [Act.put, List.setIfInBounds_toArray, List.set_cons_zero, List.set_cons_succ]
      refine held_take 12 (v := ?_) rfl (by kernel_rfl) (by kernel_rfl) (by kernel_rfl) (fun _ _ _ h => h) (by rfl) (fun w hS => ?_) (by assumption) ?_
      rotate_left
      · try dsimp only at hS
        go_simp <;> with_reducible rfl
      try simp only [Act.put, List.setIfInBounds_toArray, List.set_cons_zero, List.set_cons_succ]
      refine held_take 13 (v := ?_) rfl (by kernel_rfl) (by kernel_rfl) (by kernel_rfl) (fun _ _ _ h => h) (by rfl) (fun w hS => ?_) (by assumption) ?_
      rotate_left
      · try dsimp only at hS
        go_simp <;> with_reducible rfl
      try simp only [Act.put, List.setIfInBounds_toArray, List.set_cons_zero, List.set_cons_succ]
      refine held_take 14 (v := ?_) rfl (by kernel_rfl) (by kernel_rfl) (by kernel_rfl) (fun _ _ _ h => h) (by rfl) (fun w hS => ?_) (by assumption) ?_
      rotate_left
      · try dsimp only at hS
        go_simp <;> with_reducible rfl
      try simp only [Act.put, List.setIfInBounds_toArray, List.set_cons_zero, List.set_cons_succ]
      refine held_done (by kernel_rfl) ?_
      clear hbm' j0 j1 j2 j3 j4 j5 k0 k1 k2 k3 k4 k5 k6 k7 k8 c9 c10 c11 c12 c13 c14
      have HTm : Hid (TabW wm g c ⟨sa, sb, sd, se, sv, false⟩ n od om sz fi) := Lib.hid (HT1.out.below HBm.out)
      have HGm : Hid (w.grownBy wm (some g)) := Lib.hid (gb_call HG1.out HBm.out)
      cases r with
      | false =>
        go_wp2_with fail
        rw [HPost.out]
        exact ⟨.inr (.inl ⟨rfl, by rw [good_on HCk.out rfl]; exact HR.out.symm, rfl, HTm.out⟩), HGm.out⟩
      | true =>
        obtain ⟨c9, c10, c11, c12, c13, c14⟩ := HTm.out.sCells
        dsimp only at c9 c10 c11 c12 c13 c14
        have hf9 := HTm.out.1.free 9
        have hf10 := HTm.out.1.free 10
        have hf11 := HTm.out.1.free 11
        have hf12 := HTm.out.1.free 12
        have hf13 := HTm.out.1.free 13
        have hf14 := HTm.out.1.free 14
        have HGF : Hid (w.grownBy ((((((wm.setCell ⟨g, 9, none⟩ (.int .i64 za)).setCell ⟨g, 10, none⟩ (.int .i64 zb)).setCell ⟨g, 11, none⟩ (.int .i64 zd)).setCell ⟨g, 12, none⟩ (.int .i64 ze)).setCell ⟨g, 13, none⟩ (.int .u8 zv)).setCell ⟨g, 14, none⟩ (.bool true)) (some g)) := Lib.hid (gb_set (gb_set (gb_set (gb_set (gb_set (gb_set HGm.out 9 _) 10 _) 11 _) 12 _) 13 _) 14 _)
        have HF : Hid (TabW ((((((wm.setCell ⟨g, 9, none⟩ (.int .i64 za)).setCell ⟨g, 10, none⟩ (.int .i64 zb)).setCell ⟨g, 11, none⟩ (.int .i64 zd)).setCell ⟨g, 12, none⟩ (.int .i64 ze)).setCell ⟨g, 13, none⟩ (.int .u8 zv)).setCell ⟨g, 14, none⟩ (.bool true)) g c ⟨za, zb, zd, ze, zv, true⟩ n od om sz fi) := Lib.hid (HTm.out.setS ⟨za, zb, zd, ze, zv, true⟩)
        obtain ⟨l2, y0, y1, y2, y3, y4, y5⟩ := HS5.out wm HBm.out
        go_wp2_with fail
        rw [HPost.out]
        refine ⟨.inr (.inr ⟨rfl, by rw [good_on HCk.out rfl]; exact HR.out.symm, rfl, ?_⟩), ?_⟩
        · exact HF.out
        · exact HGF.out
end Go.Proofs.Ytdbnadhmkfhdkaa
