/- areas: both tables at once; what the law looks at. -/
import Derived.Test.YtdbnadhmkfhdkaaAreasX
import Derived.Test.YtdbnadhmkfhdkaaAreasP
import Derived.Test.YtdbnadhmkfhdkaaAreasG
namespace Go.Proofs.Ytdbnadhmkfhdkaa
open Go Go.RowKit
set_option linter.unusedVariables false

structure PlW (w0 : World) (g h : Nat) (c : Cfg) (s n : Stg) (w : World) : Prop where
  tab : Tab w g c s n
  ref : RTab w h c s n
  be : Below w0.heap.size w0 w
  lg : w0.heap.size ≤ g
  lh : w0.heap.size ≤ h
  ne : g ≠ h
section
variable {w0 w w' : World} {g h : Nat} {c : Cfg} {s n : Stg}
theorem PlW.prog (k : PlW w0 g h c s n w) (hT : Tab w' g c s n) (hG : w.grownBy w' (some g)) : PlW w0 g h c s n w' :=
  ⟨hT, k.ref.kept hG (fun e => k.ne e.symm), below_gb k.be hG k.be.size k.lg, k.lg, k.lh, k.ne⟩
theorem PlW.later (k : PlW w0 g h c s n w) (hb : Below w.heap.size w w') : PlW w0 g h c s n w' :=
  ⟨k.tab.below hb, k.ref.below hb, k.be.trans (hb.mono k.be.size), k.lg, k.lh, k.ne⟩
theorem PlW.drew (k : PlW w0 g h c s n w) : PlW w0 g h c s n w.drew := k.later (Below.refl _ _).drew
end
theorem Tab.active {w : World} {g : Nat} {c : Cfg} {s n : Stg} (h : Tab w g c s n) :
    Calls Try.prog 19 #[.pointer (some ⟨g, 0, none⟩)] w fun e w' => e = .returned (.bool n.dn) ∧ w = w' := by
  rcases h with h | h <;> exact aactive_any g c s n _ _ _ _ w h
theorem Tab.setting {w : World} {g : Nat} {c : Cfg} {s n : Stg} (h : Tab w g c s n) :
    Calls Try.prog 17 #[.pointer (some ⟨g, 0, none⟩)] w fun e w' => e = .returned (.agg #[.int .i64 s.a, .int .i64 s.b, .int .i64 s.d, .int .i64 s.e, .int .u8 s.v, .bool s.dn]) ∧ Below w.heap.size w w' := by
  rcases h with h | h <;> exact asetting_any g c s n _ _ _ _ w h

set_option maxRecDepth 100000 in
set_option maxHeartbeats 8000000 in
theorem looks_any (w0 : World) (g h : Nat) (c : Cfg) (s n : Stg) (area sector place : Int) (w : World) (k : PlW w0 g h c s n w) (hok : OkC c) (hno : NowOk c n) (h1 : I64 area) (h2 : I64 sector) (h3 : I64 place) :
    Calls Try.prog 27 #[.pointer (some ⟨g, 0, none⟩), .pointer (some ⟨h, 0, none⟩), .int .i64 area, .int .i64 sector, .int .i64 place] w fun e w' => e = .returned (.bool true) ∧ PlW w0 g h c s n w' := by
  obtain ⟨POST, hPOST⟩ : ∃ POST : Ending → World → Prop, POST = fun e w' => e = .returned (.bool true) ∧ PlW w0 g h c s n w' := ⟨_, rfl⟩
  rw [← hPOST]
  have HPost := Lib.hid hPOST
  have HF := Lib.hid (few_of hok hno)
  have HOk := Lib.hid hok
  have HNo := Lib.hid hno
  have H2 := Lib.hid h2
  have H3 := Lib.hid h3
  have K0 := Lib.hid k
  obtain ⟨pp, pi, hpl⟩ : ∃ pp pi, plR c n area sector = .returned (.tuple #[.int .i64 pp, .bool pi]) := by unfold plR; split <;> exact ⟨_, _, rfl⟩
  have HPl := Lib.hid hpl
  obtain ⟨oa, os, ob, hof⟩ : ∃ oa os ob, ofE c n place = .returned (.tuple #[.int .i64 oa, .int .i64 os, .bool ob]) := ⟨_, _, _, rfl⟩
  have HOf := Lib.hid hof
  obtain ⟨Z, hZ⟩ : ∃ Z, Z = szOf c n area := ⟨_, rfl⟩
  have HZ := Lib.hid hZ
  obtain ⟨B, hB⟩ : ∃ B, B = enhB c n place := ⟨_, rfl⟩
  have HB := Lib.hid hB
  have heq : ∀ w, (Op.equalIn 10000 56 (.agg #[.int .i64 s.a, .int .i64 s.b, .int .i64 s.d, .int .i64 s.e, .int .u8 s.v, .bool s.dn]) (.agg #[.int .i64 s.a, .int .i64 s.b, .int .i64 s.d, .int .i64 s.e, .int .u8 s.v, .bool s.dn])).run Try.prog w = .ok true w := fun w => by rw [eqStg13]; simp
  clear hPOST hpl hof hZ hB hok hno h1 h2 h3 k
  go_enter Try.func27, Try.ntmps27
  go_wp2_with fail
  refine (aplace_any g c s n area sector w K0.out.tab HOk.out HF.out H2.out).mono ?_
  rintro e w1 ⟨rfl, hT, hG⟩
  rw [HPl.out]
  have K1 := Lib.hid (K0.out.prog hT hG)
  clear hT hG K0
  go_wp2_with fail
  refine (rplace_any h c s n area sector w1 K1.out.ref HOk.out HF.out).mono ?_
  rintro e w2 ⟨rfl, hb⟩
  rw [HPl.out]
  have K2 := Lib.hid (K1.out.later hb)
  clear hb K1
  go_wp2_with fail
  refine (aofx_any g c s n place w2 K2.out.tab HOk.out HNo.out H3.out).mono ?_
  rintro e w3 ⟨rfl, hT, hG⟩
  rw [HOf.out]
  have K3 := Lib.hid (K2.out.prog hT hG)
  clear hT hG K2
  go_wp2_with fail
  refine (rof_any h c s n place w3 K3.out.ref HOk.out HNo.out H3.out).mono ?_
  rintro e w4 ⟨rfl, hb⟩
  rw [HOf.out]
  have K4 := Lib.hid (K3.out.later hb)
  clear hb K3
  go_wp2_with fail
  refine wp_region_held_drew (S := (PlW w0 g h c s n)) (by kernel_rfl) (K4.out.drew) (fun hHeld => ?_)
  refine held_take 0 (v := ?_) rfl (by kernel_rfl) (by kernel_rfl) (by kernel_rfl) (fun _ _ _ h => h) (by rfl) (fun w hS => ?_) (by assumption) ?_
  rotate_left
  · try dsimp only at hS
    obtain ⟨n15, n16, n17, n18, n19, n20⟩ := hS.ref.nCells
    obtain ⟨s9, s10, s11, s12, s13, s14⟩ := hS.ref.sCells
    go_simp <;> with_reducible rfl
  try simp only [Act.put, List.setIfInBounds_toArray, List.set_cons_zero, List.set_cons_succ]
  refine held_take 1 (v := ?_) rfl (by kernel_rfl) (by kernel_rfl) (by kernel_rfl) (fun _ _ _ h => h) (by rfl) (fun w hS => ?_) (by assumption) ?_
  rotate_left
  · try dsimp only at hS
    obtain ⟨n15, n16, n17, n18, n19, n20⟩ := hS.ref.nCells
    obtain ⟨s9, s10, s11, s12, s13, s14⟩ := hS.ref.sCells
    go_simp <;> with_reducible rfl
  try simp only [Act.put, List.setIfInBounds_toArray, List.set_cons_zero, List.set_cons_succ]
  refine held_take 2 (v := ?_) rfl (by kernel_rfl) (by kernel_rfl) (by kernel_rfl) (fun _ _ _ h => h) (by rfl) (fun w hS => ?_) (by assumption) ?_
  rotate_left
  · try dsimp only at hS
    obtain ⟨n15, n16, n17, n18, n19, n20⟩ := hS.ref.nCells
    obtain ⟨s9, s10, s11, s12, s13, s14⟩ := hS.ref.sCells
    go_simp <;> with_reducible rfl
  try simp only [Act.put, List.setIfInBounds_toArray, List.set_cons_zero, List.set_cons_succ]
  refine held_take 3 (v := ?_) rfl (by kernel_rfl) (by kernel_rfl) (by kernel_rfl) (fun _ _ _ h => h) (by rfl) (fun w hS => ?_) (by assumption) ?_
  rotate_left
  · try dsimp only at hS
    obtain ⟨n15, n16, n17, n18, n19, n20⟩ := hS.ref.nCells
    obtain ⟨s9, s10, s11, s12, s13, s14⟩ := hS.ref.sCells
    go_simp <;> with_reducible rfl
  try simp only [Act.put, List.setIfInBounds_toArray, List.set_cons_zero, List.set_cons_succ]
  refine held_take 4 (v := ?_) rfl (by kernel_rfl) (by kernel_rfl) (by kernel_rfl) (fun _ _ _ h => h) (by rfl) (fun w hS => ?_) (by assumption) ?_
  rotate_left
  · try dsimp only at hS
    obtain ⟨n15, n16, n17, n18, n19, n20⟩ := hS.ref.nCells
    obtain ⟨s9, s10, s11, s12, s13, s14⟩ := hS.ref.sCells
    go_simp <;> with_reducible rfl
  try simp only [Act.put, List.setIfInBounds_toArray, List.set_cons_zero, List.set_cons_succ]
  refine held_take 5 (v := ?_) rfl (by kernel_rfl) (by kernel_rfl) (by kernel_rfl) (fun _ _ _ h => h) (by rfl) (fun w hS => ?_) (by assumption) ?_
  rotate_left
  · try dsimp only at hS
    obtain ⟨n15, n16, n17, n18, n19, n20⟩ := hS.ref.nCells
    obtain ⟨s9, s10, s11, s12, s13, s14⟩ := hS.ref.sCells
    go_simp <;> with_reducible rfl
  try simp only [Act.put, List.setIfInBounds_toArray, List.set_cons_zero, List.set_cons_succ]
  refine held_take 6 (v := ?_) rfl (by kernel_rfl) (by kernel_rfl) (by kernel_rfl) (fun _ _ _ h => h) (by rfl) (fun w hS => ?_) (by assumption) ?_
  rotate_left
  · try dsimp only at hS
    obtain ⟨n15, n16, n17, n18, n19, n20⟩ := hS.ref.nCells
    obtain ⟨s9, s10, s11, s12, s13, s14⟩ := hS.ref.sCells
    go_simp <;> with_reducible rfl
  try simp only [Act.put, List.setIfInBounds_toArray, List.set_cons_zero, List.set_cons_succ]
  refine held_take 7 (v := ?_) rfl (by kernel_rfl) (by kernel_rfl) (by kernel_rfl) (fun _ _ _ h => h) (by rfl) (fun w hS => ?_) (by assumption) ?_
  rotate_left
  · try dsimp only at hS
    obtain ⟨n15, n16, n17, n18, n19, n20⟩ := hS.ref.nCells
    obtain ⟨s9, s10, s11, s12, s13, s14⟩ := hS.ref.sCells
    go_simp <;> with_reducible rfl
  try simp only [Act.put, List.setIfInBounds_toArray, List.set_cons_zero, List.set_cons_succ]
  refine held_take 8 (v := ?_) rfl (by kernel_rfl) (by kernel_rfl) (by kernel_rfl) (fun _ _ _ h => h) (by rfl) (fun w hS => ?_) (by assumption) ?_
  rotate_left
  · try dsimp only at hS
    obtain ⟨n15, n16, n17, n18, n19, n20⟩ := hS.ref.nCells
    obtain ⟨s9, s10, s11, s12, s13, s14⟩ := hS.ref.sCells
    go_simp <;> with_reducible rfl
  try simp only [Act.put, List.setIfInBounds_toArray, List.set_cons_zero, List.set_cons_succ]
  refine held_take 9 (v := ?_) rfl (by kernel_rfl) (by kernel_rfl) (by kernel_rfl) (fun _ _ _ h => h) (by rfl) (fun w hS => ?_) (by assumption) ?_
  rotate_left
  · try dsimp only at hS
    obtain ⟨n15, n16, n17, n18, n19, n20⟩ := hS.ref.nCells
    obtain ⟨s9, s10, s11, s12, s13, s14⟩ := hS.ref.sCells
    go_simp <;> with_reducible rfl
  try simp only [Act.put, List.setIfInBounds_toArray, List.set_cons_zero, List.set_cons_succ]
  refine held_take 10 (v := ?_) rfl (by kernel_rfl) (by kernel_rfl) (by kernel_rfl) (fun _ _ _ h => h) (by rfl) (fun w hS => ?_) (by assumption) ?_
  rotate_left
  · try dsimp only at hS
    obtain ⟨n15, n16, n17, n18, n19, n20⟩ := hS.ref.nCells
    obtain ⟨s9, s10, s11, s12, s13, s14⟩ := hS.ref.sCells
    go_simp <;> with_reducible rfl
  try simp only [Act.put, List.setIfInBounds_toArray, List.set_cons_zero, List.set_cons_succ]
  refine held_take 11 (v := ?_) rfl (by kernel_rfl) (by kernel_rfl) (by kernel_rfl) (fun _ _ _ h => h) (by rfl) (fun w hS => ?_) (by assumption) ?_
  rotate_left
  · try dsimp only at hS
    obtain ⟨n15, n16, n17, n18, n19, n20⟩ := hS.ref.nCells
    obtain ⟨s9, s10, s11, s12, s13, s14⟩ := hS.ref.sCells
    go_simp <;> with_reducible rfl
  try simp only [Act.put, List.setIfInBounds_toArray, List.set_cons_zero, List.set_cons_succ]
  refine held_take 12 (v := ?_) rfl (by kernel_rfl) (by kernel_rfl) (by kernel_rfl) (fun _ _ _ h => h) (by rfl) (fun w hS => ?_) (by assumption) ?_
  rotate_left
  · try dsimp only at hS
    obtain ⟨n15, n16, n17, n18, n19, n20⟩ := hS.ref.nCells
    obtain ⟨s9, s10, s11, s12, s13, s14⟩ := hS.ref.sCells
    go_simp <;> with_reducible rfl
  try simp only [Act.put, List.setIfInBounds_toArray, List.set_cons_zero, List.set_cons_succ]
  refine held_take 13 (v := ?_) rfl (by kernel_rfl) (by kernel_rfl) (by kernel_rfl) (fun _ _ _ h => h) (by rfl) (fun w hS => ?_) (by assumption) ?_
  rotate_left
  · try dsimp only at hS
    obtain ⟨n15, n16, n17, n18, n19, n20⟩ := hS.ref.nCells
    obtain ⟨s9, s10, s11, s12, s13, s14⟩ := hS.ref.sCells
    go_simp <;> with_reducible rfl
  try simp only [Act.put, List.setIfInBounds_toArray, List.set_cons_zero, List.set_cons_succ]
  refine held_take 14 (v := ?_) rfl (by kernel_rfl) (by kernel_rfl) (by kernel_rfl) (fun _ _ _ h => h) (by rfl) (fun w hS => ?_) (by assumption) ?_
  rotate_left
  · try dsimp only at hS
    obtain ⟨n15, n16, n17, n18, n19, n20⟩ := hS.ref.nCells
    obtain ⟨s9, s10, s11, s12, s13, s14⟩ := hS.ref.sCells
    go_simp <;> with_reducible rfl
  try simp only [Act.put, List.setIfInBounds_toArray, List.set_cons_zero, List.set_cons_succ]
  refine held_take 15 (v := ?_) rfl (by kernel_rfl) (by kernel_rfl) (by kernel_rfl) (fun _ _ _ h => h) (by rfl) (fun w hS => ?_) (by assumption) ?_
  rotate_left
  · try dsimp only at hS
    obtain ⟨n15, n16, n17, n18, n19, n20⟩ := hS.ref.nCells
    obtain ⟨s9, s10, s11, s12, s13, s14⟩ := hS.ref.sCells
    go_simp <;> with_reducible rfl
  try simp only [Act.put, List.setIfInBounds_toArray, List.set_cons_zero, List.set_cons_succ]
  refine held_take 16 (v := ?_) rfl (by kernel_rfl) (by kernel_rfl) (by kernel_rfl) (fun _ _ _ h => h) (by rfl) (fun w hS => ?_) (by assumption) ?_
  rotate_left
  · try dsimp only at hS
    obtain ⟨n15, n16, n17, n18, n19, n20⟩ := hS.ref.nCells
    obtain ⟨s9, s10, s11, s12, s13, s14⟩ := hS.ref.sCells
    go_simp <;> with_reducible rfl
  try simp only [Act.put, List.setIfInBounds_toArray, List.set_cons_zero, List.set_cons_succ]
  refine held_take 17 (v := ?_) rfl (by kernel_rfl) (by kernel_rfl) (by kernel_rfl) (fun _ _ _ h => h) (by rfl) (fun w hS => ?_) (by assumption) ?_
  rotate_left
  · try dsimp only at hS
    obtain ⟨n15, n16, n17, n18, n19, n20⟩ := hS.ref.nCells
    obtain ⟨s9, s10, s11, s12, s13, s14⟩ := hS.ref.sCells
    go_simp <;> with_reducible rfl
  try simp only [Act.put, List.setIfInBounds_toArray, List.set_cons_zero, List.set_cons_succ]
  refine held_take 18 (v := ?_) rfl (by kernel_rfl) (by kernel_rfl) (by kernel_rfl) (fun _ _ _ h => h) (by rfl) (fun w hS => ?_) (by assumption) ?_
  rotate_left
  · try dsimp only at hS
    obtain ⟨n15, n16, n17, n18, n19, n20⟩ := hS.ref.nCells
    obtain ⟨s9, s10, s11, s12, s13, s14⟩ := hS.ref.sCells
    go_simp <;> with_reducible rfl
  try simp only [Act.put, List.setIfInBounds_toArray, List.set_cons_zero, List.set_cons_succ]
  refine held_take 19 (v := ?_) rfl (by kernel_rfl) (by kernel_rfl) (by kernel_rfl) (fun _ _ _ h => h) (by rfl) (fun w hS => ?_) (by assumption) ?_
  rotate_left
  · try dsimp only at hS
    obtain ⟨n15, n16, n17, n18, n19, n20⟩ := hS.ref.nCells
    obtain ⟨s9, s10, s11, s12, s13, s14⟩ := hS.ref.sCells
    go_simp <;> with_reducible rfl
  try simp only [Act.put, List.setIfInBounds_toArray, List.set_cons_zero, List.set_cons_succ]
  refine held_take 20 (v := ?_) rfl (by kernel_rfl) (by kernel_rfl) (by kernel_rfl) (fun _ _ _ h => h) (by rfl) (fun w hS => ?_) (by assumption) ?_
  rotate_left
  · try dsimp only at hS
    obtain ⟨n15, n16, n17, n18, n19, n20⟩ := hS.ref.nCells
    obtain ⟨s9, s10, s11, s12, s13, s14⟩ := hS.ref.sCells
    go_simp <;> with_reducible rfl
  try simp only [Act.put, List.setIfInBounds_toArray, List.set_cons_zero, List.set_cons_succ]
  refine held_take 21 (v := ?_) rfl (by kernel_rfl) (by kernel_rfl) (by kernel_rfl) (fun _ _ _ h => h) (by rfl) (fun w hS => ?_) (by assumption) ?_
  rotate_left
  · try dsimp only at hS
    obtain ⟨n15, n16, n17, n18, n19, n20⟩ := hS.ref.nCells
    obtain ⟨s9, s10, s11, s12, s13, s14⟩ := hS.ref.sCells
    go_simp <;> with_reducible rfl
  try simp only [Act.put, List.setIfInBounds_toArray, List.set_cons_zero, List.set_cons_succ]
  refine held_take 22 (v := ?_) rfl (by kernel_rfl) (by kernel_rfl) (by kernel_rfl) (fun _ _ _ h => h) (by rfl) (fun w hS => ?_) (by assumption) ?_
  rotate_left
  · try dsimp only at hS
    obtain ⟨n15, n16, n17, n18, n19, n20⟩ := hS.ref.nCells
    obtain ⟨s9, s10, s11, s12, s13, s14⟩ := hS.ref.sCells
    go_simp <;> with_reducible rfl
  try simp only [Act.put, List.setIfInBounds_toArray, List.set_cons_zero, List.set_cons_succ]
  refine held_take 23 (v := ?_) rfl (by kernel_rfl) (by kernel_rfl) (by kernel_rfl) (fun _ _ _ h => h) (by rfl) (fun w hS => ?_) (by assumption) ?_
  rotate_left
  · try dsimp only at hS
    obtain ⟨n15, n16, n17, n18, n19, n20⟩ := hS.ref.nCells
    obtain ⟨s9, s10, s11, s12, s13, s14⟩ := hS.ref.sCells
    go_simp <;> with_reducible rfl
  try simp only [Act.put, List.setIfInBounds_toArray, List.set_cons_zero, List.set_cons_succ]
  refine held_take 24 (v := ?_) rfl (by kernel_rfl) (by kernel_rfl) (by kernel_rfl) (fun _ _ _ h => h) (by rfl) (fun w hS => ?_) (by assumption) ?_
  rotate_left
  · try dsimp only at hS
    obtain ⟨n15, n16, n17, n18, n19, n20⟩ := hS.ref.nCells
    obtain ⟨s9, s10, s11, s12, s13, s14⟩ := hS.ref.sCells
    go_simp <;> with_reducible rfl
  try simp only [Act.put, List.setIfInBounds_toArray, List.set_cons_zero, List.set_cons_succ]
  refine held_take 25 (v := ?_) rfl (by kernel_rfl) (by kernel_rfl) (by kernel_rfl) (fun _ _ _ h => h) (by rfl) (fun w hS => ?_) (by assumption) ?_
  rotate_left
  · try dsimp only at hS
    obtain ⟨n15, n16, n17, n18, n19, n20⟩ := hS.ref.nCells
    obtain ⟨s9, s10, s11, s12, s13, s14⟩ := hS.ref.sCells
    go_simp <;> with_reducible rfl
  try simp only [Act.put, List.setIfInBounds_toArray, List.set_cons_zero, List.set_cons_succ]
  refine held_take 27 (v := ?_) rfl (by kernel_rfl) (by kernel_rfl) (by kernel_rfl) (fun _ _ _ h => h) (by rfl) (fun w hS => ?_) (by assumption) ?_
  rotate_left
  · try dsimp only at hS
    obtain ⟨n15, n16, n17, n18, n19, n20⟩ := hS.ref.nCells
    obtain ⟨s9, s10, s11, s12, s13, s14⟩ := hS.ref.sCells
    go_simp <;> with_reducible rfl
  try simp only [Act.put, List.setIfInBounds_toArray, List.set_cons_zero, List.set_cons_succ]
  refine held_take 28 (v := ?_) rfl (by kernel_rfl) (by kernel_rfl) (by kernel_rfl) (fun _ _ _ h => h) (by rfl) (fun w hS => ?_) (by assumption) ?_
  rotate_left
  · try dsimp only at hS
    obtain ⟨n15, n16, n17, n18, n19, n20⟩ := hS.ref.nCells
    obtain ⟨s9, s10, s11, s12, s13, s14⟩ := hS.ref.sCells
    go_simp <;> with_reducible rfl
  try simp only [Act.put, List.setIfInBounds_toArray, List.set_cons_zero, List.set_cons_succ]
  refine held_one 26 rfl (by kernel_rfl) (fun K hK => ?_)
  go_simp
  refine Calls.mono (asize_any g c s n area _ K4.out.drew.tab HOk.out HF.out) ?_
  rintro e w5 ⟨rfl, hT, hG⟩
  rw [← HZ.out]
  have K5 := Lib.hid (K4.out.drew.prog hT hG)
  clear hT hG
  refine hK.out _ _ (PlW w0 g h c s n) (fun _ h => h) K5.out (fun hHeld => ?_)
  clear hK K
  try simp only [Act.put, List.setIfInBounds_toArray, List.set_cons_zero, List.set_cons_succ]
  refine held_one 29 rfl (by kernel_rfl) (fun K hK => ?_)
  go_simp
  refine Calls.mono (rsize_any h c s n area _ K5.out.ref HOk.out HF.out) ?_
  rintro e w6 ⟨rfl, hb⟩
  rw [← HZ.out]
  have K6 := Lib.hid (K5.out.later hb)
  clear hb
  refine hK.out _ _ (PlW w0 g h c s n) (fun _ h => h) K6.out (fun hHeld => ?_)
  clear hK K
  try simp only [Act.put, List.setIfInBounds_toArray, List.set_cons_zero, List.set_cons_succ]
  refine held_take 30 (v := ?_) rfl (by kernel_rfl) (by kernel_rfl) (by kernel_rfl) (fun _ _ _ h => h) (by rfl) (fun w hS => ?_) (by assumption) ?_
  rotate_left
  · try dsimp only at hS
    obtain ⟨n15, n16, n17, n18, n19, n20⟩ := hS.ref.nCells
    obtain ⟨s9, s10, s11, s12, s13, s14⟩ := hS.ref.sCells
    go_simp <;> with_reducible rfl
  try simp only [Act.put, List.setIfInBounds_toArray, List.set_cons_zero, List.set_cons_succ]
  refine held_take 31 (v := ?_) rfl (by kernel_rfl) (by kernel_rfl) (by kernel_rfl) (fun _ _ _ h => h) (by rfl) (fun w hS => ?_) (by assumption) ?_
  rotate_left
  · try dsimp only at hS
    obtain ⟨n15, n16, n17, n18, n19, n20⟩ := hS.ref.nCells
    obtain ⟨s9, s10, s11, s12, s13, s14⟩ := hS.ref.sCells
    go_simp <;> with_reducible rfl
  try simp only [Act.put, List.setIfInBounds_toArray, List.set_cons_zero, List.set_cons_succ]
  refine held_take 32 (v := ?_) rfl (by kernel_rfl) (by kernel_rfl) (by kernel_rfl) (fun _ _ _ h => h) (by rfl) (fun w hS => ?_) (by assumption) ?_
  rotate_left
  · try dsimp only at hS
    obtain ⟨n15, n16, n17, n18, n19, n20⟩ := hS.ref.nCells
    obtain ⟨s9, s10, s11, s12, s13, s14⟩ := hS.ref.sCells
    go_simp <;> with_reducible rfl
  try simp only [Act.put, List.setIfInBounds_toArray, List.set_cons_zero, List.set_cons_succ]
  refine held_take 33 (v := ?_) rfl (by kernel_rfl) (by kernel_rfl) (by kernel_rfl) (fun _ _ _ h => h) (by rfl) (fun w hS => ?_) (by assumption) ?_
  rotate_left
  · try dsimp only at hS
    obtain ⟨n15, n16, n17, n18, n19, n20⟩ := hS.ref.nCells
    obtain ⟨s9, s10, s11, s12, s13, s14⟩ := hS.ref.sCells
    go_simp <;> with_reducible rfl
  try simp only [Act.put, List.setIfInBounds_toArray, List.set_cons_zero, List.set_cons_succ]
  refine held_take 35 (v := ?_) rfl (by kernel_rfl) (by kernel_rfl) (by kernel_rfl) (fun _ _ _ h => h) (by rfl) (fun w hS => ?_) (by assumption) ?_
  rotate_left
  · try dsimp only at hS
    obtain ⟨n15, n16, n17, n18, n19, n20⟩ := hS.ref.nCells
    obtain ⟨s9, s10, s11, s12, s13, s14⟩ := hS.ref.sCells
    go_simp <;> with_reducible rfl
  try simp only [Act.put, List.setIfInBounds_toArray, List.set_cons_zero, List.set_cons_succ]
  refine held_take 36 (v := ?_) rfl (by kernel_rfl) (by kernel_rfl) (by kernel_rfl) (fun _ _ _ h => h) (by rfl) (fun w hS => ?_) (by assumption) ?_
  rotate_left
  · try dsimp only at hS
    obtain ⟨n15, n16, n17, n18, n19, n20⟩ := hS.ref.nCells
    obtain ⟨s9, s10, s11, s12, s13, s14⟩ := hS.ref.sCells
    go_simp <;> with_reducible rfl
  try simp only [Act.put, List.setIfInBounds_toArray, List.set_cons_zero, List.set_cons_succ]
  refine held_take 37 (v := ?_) rfl (by kernel_rfl) (by kernel_rfl) (by kernel_rfl) (fun _ _ _ h => h) (by rfl) (fun w hS => ?_) (by assumption) ?_
  rotate_left
  · try dsimp only at hS
    obtain ⟨n15, n16, n17, n18, n19, n20⟩ := hS.ref.nCells
    obtain ⟨s9, s10, s11, s12, s13, s14⟩ := hS.ref.sCells
    go_simp <;> with_reducible rfl
  try simp only [Act.put, List.setIfInBounds_toArray, List.set_cons_zero, List.set_cons_succ]
  refine held_take 38 (v := ?_) rfl (by kernel_rfl) (by kernel_rfl) (by kernel_rfl) (fun _ _ _ h => h) (by rfl) (fun w hS => ?_) (by assumption) ?_
  rotate_left
  · try dsimp only at hS
    obtain ⟨n15, n16, n17, n18, n19, n20⟩ := hS.ref.nCells
    obtain ⟨s9, s10, s11, s12, s13, s14⟩ := hS.ref.sCells
    go_simp <;> with_reducible rfl
  try simp only [Act.put, List.setIfInBounds_toArray, List.set_cons_zero, List.set_cons_succ]
  refine held_take 39 (v := ?_) rfl (by kernel_rfl) (by kernel_rfl) (by kernel_rfl) (fun _ _ _ h => h) (by rfl) (fun w hS => ?_) (by assumption) ?_
  rotate_left
  · try dsimp only at hS
    obtain ⟨n15, n16, n17, n18, n19, n20⟩ := hS.ref.nCells
    obtain ⟨s9, s10, s11, s12, s13, s14⟩ := hS.ref.sCells
    go_simp <;> with_reducible rfl
  try simp only [Act.put, List.setIfInBounds_toArray, List.set_cons_zero, List.set_cons_succ]
  refine held_one 34 rfl (by kernel_rfl) (fun K hK => ?_)
  go_simp
  refine Calls.mono K6.out.tab.active ?_
  rintro e w7 ⟨rfl, rfl⟩
  refine hK.out _ _ (PlW w0 g h c s n) (fun _ h => h) K6.out (fun hHeld => ?_)
  clear hK K
  try simp only [Act.put, List.setIfInBounds_toArray, List.set_cons_zero, List.set_cons_succ]
  refine held_take 40 (v := ?_) rfl (by kernel_rfl) (by kernel_rfl) (by kernel_rfl) (fun _ _ _ h => h) (by rfl) (fun w hS => ?_) (by assumption) ?_
  rotate_left
  · try dsimp only at hS
    obtain ⟨n15, n16, n17, n18, n19, n20⟩ := hS.ref.nCells
    obtain ⟨s9, s10, s11, s12, s13, s14⟩ := hS.ref.sCells
    go_simp <;> with_reducible rfl
  try simp only [Act.put, List.setIfInBounds_toArray, List.set_cons_zero, List.set_cons_succ]
  refine held_take 41 (v := ?_) rfl (by kernel_rfl) (by kernel_rfl) (by kernel_rfl) (fun _ _ _ h => h) (by rfl) (fun w hS => ?_) (by assumption) ?_
  rotate_left
  · try dsimp only at hS
    obtain ⟨n15, n16, n17, n18, n19, n20⟩ := hS.ref.nCells
    obtain ⟨s9, s10, s11, s12, s13, s14⟩ := hS.ref.sCells
    go_simp <;> with_reducible rfl
  try simp only [Act.put, List.setIfInBounds_toArray, List.set_cons_zero, List.set_cons_succ]
  refine held_take 42 (v := ?_) rfl (by kernel_rfl) (by kernel_rfl) (by kernel_rfl) (fun _ _ _ h => h) (by rfl) (fun w hS => ?_) (by assumption) ?_
  rotate_left
  · try dsimp only at hS
    obtain ⟨n15, n16, n17, n18, n19, n20⟩ := hS.ref.nCells
    obtain ⟨s9, s10, s11, s12, s13, s14⟩ := hS.ref.sCells
    go_simp <;> with_reducible rfl
  try simp only [Act.put, List.setIfInBounds_toArray, List.set_cons_zero, List.set_cons_succ]
  refine held_take 43 (v := ?_) rfl (by kernel_rfl) (by kernel_rfl) (by kernel_rfl) (fun _ _ _ h => h) (by rfl) (fun w hS => ?_) (by assumption) ?_
  rotate_left
  · try dsimp only at hS
    obtain ⟨n15, n16, n17, n18, n19, n20⟩ := hS.ref.nCells
    obtain ⟨s9, s10, s11, s12, s13, s14⟩ := hS.ref.sCells
    go_simp <;> with_reducible rfl
  try simp only [Act.put, List.setIfInBounds_toArray, List.set_cons_zero, List.set_cons_succ]
  refine held_take 44 (v := ?_) rfl (by kernel_rfl) (by kernel_rfl) (by kernel_rfl) (fun _ _ _ h => h) (by rfl) (fun w hS => ?_) (by assumption) ?_
  rotate_left
  · try dsimp only at hS
    obtain ⟨n15, n16, n17, n18, n19, n20⟩ := hS.ref.nCells
    obtain ⟨s9, s10, s11, s12, s13, s14⟩ := hS.ref.sCells
    go_simp <;> with_reducible rfl
  try simp only [Act.put, List.setIfInBounds_toArray, List.set_cons_zero, List.set_cons_succ]
  refine held_take 46 (v := ?_) rfl (by kernel_rfl) (by kernel_rfl) (by kernel_rfl) (fun _ _ _ h => h) (by rfl) (fun w hS => ?_) (by assumption) ?_
  rotate_left
  · try dsimp only at hS
    obtain ⟨n15, n16, n17, n18, n19, n20⟩ := hS.ref.nCells
    obtain ⟨s9, s10, s11, s12, s13, s14⟩ := hS.ref.sCells
    go_simp <;> with_reducible rfl
  try simp only [Act.put, List.setIfInBounds_toArray, List.set_cons_zero, List.set_cons_succ]
  refine held_take 47 (v := ?_) rfl (by kernel_rfl) (by kernel_rfl) (by kernel_rfl) (fun _ _ _ h => h) (by rfl) (fun w hS => ?_) (by assumption) ?_
  rotate_left
  · try dsimp only at hS
    obtain ⟨n15, n16, n17, n18, n19, n20⟩ := hS.ref.nCells
    obtain ⟨s9, s10, s11, s12, s13, s14⟩ := hS.ref.sCells
    go_simp <;> with_reducible rfl
  try simp only [Act.put, List.setIfInBounds_toArray, List.set_cons_zero, List.set_cons_succ]
  refine held_one 45 rfl (by kernel_rfl) (fun K hK => ?_)
  go_simp
  refine Calls.mono (aenh_any g c s n place _ K6.out.tab HOk.out HNo.out H3.out) ?_
  rintro e w8 ⟨rfl, hT, hG⟩
  rw [← HB.out]
  have K8 := Lib.hid (K6.out.prog hT hG)
  clear hT hG
  refine hK.out _ _ (PlW w0 g h c s n) (fun _ h => h) K8.out (fun hHeld => ?_)
  clear hK K
  try simp only [Act.put, List.setIfInBounds_toArray, List.set_cons_zero, List.set_cons_succ]
  refine held_one 48 rfl (by kernel_rfl) (fun K hK => ?_)
  go_simp
  refine Calls.mono (renh_any h c s n place _ K8.out.ref HOk.out HNo.out H3.out) ?_
  rintro e w9 ⟨rfl, hb⟩
  rw [← HB.out]
  have K9 := Lib.hid (K8.out.later hb)
  clear hb
  refine hK.out _ _ (PlW w0 g h c s n) (fun _ h => h) K9.out (fun hHeld => ?_)
  clear hK K
  try simp only [Act.put, List.setIfInBounds_toArray, List.set_cons_zero, List.set_cons_succ]
  refine held_take 49 (v := ?_) rfl (by kernel_rfl) (by kernel_rfl) (by kernel_rfl) (fun _ _ _ h => h) (by rfl) (fun w hS => ?_) (by assumption) ?_
  rotate_left
  · try dsimp only at hS
    obtain ⟨n15, n16, n17, n18, n19, n20⟩ := hS.ref.nCells
    obtain ⟨s9, s10, s11, s12, s13, s14⟩ := hS.ref.sCells
    go_simp <;> with_reducible rfl
  try simp only [Act.put, List.setIfInBounds_toArray, List.set_cons_zero, List.set_cons_succ]
  refine held_take 50 (v := ?_) rfl (by kernel_rfl) (by kernel_rfl) (by kernel_rfl) (fun _ _ _ h => h) (by rfl) (fun w hS => ?_) (by assumption) ?_
  rotate_left
  · try dsimp only at hS
    obtain ⟨n15, n16, n17, n18, n19, n20⟩ := hS.ref.nCells
    obtain ⟨s9, s10, s11, s12, s13, s14⟩ := hS.ref.sCells
    go_simp <;> with_reducible rfl
  try simp only [Act.put, List.setIfInBounds_toArray, List.set_cons_zero, List.set_cons_succ]
  refine held_take 51 (v := ?_) rfl (by kernel_rfl) (by kernel_rfl) (by kernel_rfl) (fun _ _ _ h => h) (by rfl) (fun w hS => ?_) (by assumption) ?_
  rotate_left
  · try dsimp only at hS
    obtain ⟨n15, n16, n17, n18, n19, n20⟩ := hS.ref.nCells
    obtain ⟨s9, s10, s11, s12, s13, s14⟩ := hS.ref.sCells
    go_simp <;> with_reducible rfl
  try simp only [Act.put, List.setIfInBounds_toArray, List.set_cons_zero, List.set_cons_succ]
  refine held_take 52 (v := ?_) rfl (by kernel_rfl) (by kernel_rfl) (by kernel_rfl) (fun _ _ _ h => h) (by rfl) (fun w hS => ?_) (by assumption) ?_
  rotate_left
  · try dsimp only at hS
    obtain ⟨n15, n16, n17, n18, n19, n20⟩ := hS.ref.nCells
    obtain ⟨s9, s10, s11, s12, s13, s14⟩ := hS.ref.sCells
    go_simp <;> with_reducible rfl
  try simp only [Act.put, List.setIfInBounds_toArray, List.set_cons_zero, List.set_cons_succ]
  refine held_take 55 (v := ?_) rfl (by kernel_rfl) (by kernel_rfl) (by kernel_rfl) (fun _ _ _ h => h) (by rfl) (fun w hS => ?_) (by assumption) ?_
  rotate_left
  · try dsimp only at hS
    obtain ⟨n15, n16, n17, n18, n19, n20⟩ := hS.ref.nCells
    obtain ⟨s9, s10, s11, s12, s13, s14⟩ := hS.ref.sCells
    go_simp <;> with_reducible rfl
  try simp only [Act.put, List.setIfInBounds_toArray, List.set_cons_zero, List.set_cons_succ]
  refine held_take 56 (v := ?_) rfl (by kernel_rfl) (by kernel_rfl) (by kernel_rfl) (fun _ _ _ h => h) (by rfl) (fun w hS => ?_) (by assumption) ?_
  rotate_left
  · try dsimp only at hS
    obtain ⟨n15, n16, n17, n18, n19, n20⟩ := hS.ref.nCells
    obtain ⟨s9, s10, s11, s12, s13, s14⟩ := hS.ref.sCells
    go_simp <;> with_reducible rfl
  try simp only [Act.put, List.setIfInBounds_toArray, List.set_cons_zero, List.set_cons_succ]
  refine held_take 57 (v := ?_) rfl (by kernel_rfl) (by kernel_rfl) (by kernel_rfl) (fun _ _ _ h => h) (by rfl) (fun w hS => ?_) (by assumption) ?_
  rotate_left
  · try dsimp only at hS
    obtain ⟨n15, n16, n17, n18, n19, n20⟩ := hS.ref.nCells
    obtain ⟨s9, s10, s11, s12, s13, s14⟩ := hS.ref.sCells
    go_simp <;> with_reducible rfl
  try simp only [Act.put, List.setIfInBounds_toArray, List.set_cons_zero, List.set_cons_succ]
  refine held_take 58 (v := ?_) rfl (by kernel_rfl) (by kernel_rfl) (by kernel_rfl) (fun _ _ _ h => h) (by rfl) (fun w hS => ?_) (by assumption) ?_
  rotate_left
  · try dsimp only at hS
    obtain ⟨n15, n16, n17, n18, n19, n20⟩ := hS.ref.nCells
    obtain ⟨s9, s10, s11, s12, s13, s14⟩ := hS.ref.sCells
    go_simp <;> with_reducible rfl
  try simp only [Act.put, List.setIfInBounds_toArray, List.set_cons_zero, List.set_cons_succ]
  refine held_one 53 rfl (by kernel_rfl) (fun K hK => ?_)
  go_simp
  refine Calls.mono K9.out.tab.setting ?_
  rintro e wa ⟨rfl, hb⟩
  have Ka := Lib.hid (K9.out.later hb)
  clear hb
  refine hK.out _ _ (PlW w0 g h c s n) (fun _ h => h) Ka.out (fun hHeld => ?_)
  clear hK K
  try simp only [Act.put, List.setIfInBounds_toArray, List.set_cons_zero, List.set_cons_succ]
  refine held_one 54 rfl (by kernel_rfl) (fun K hK => ?_)
  go_simp
  refine Calls.mono (aof2_any s _) ?_
  rintro e wb ⟨rfl, hb⟩
  have Kb := Lib.hid (Ka.out.later hb)
  clear hb
  refine hK.out _ _ (PlW w0 g h c s n) (fun _ h => h) Kb.out (fun hHeld => ?_)
  clear hK K
  try simp only [Act.put, List.setIfInBounds_toArray, List.set_cons_zero, List.set_cons_succ]
  refine held_take 59 (v := ?_) rfl (by kernel_rfl) (by kernel_rfl) (by kernel_rfl) (fun _ _ _ h => h) (by rfl) (fun w hS => ?_) (by assumption) ?_
  rotate_left
  · try dsimp only at hS
    obtain ⟨n15, n16, n17, n18, n19, n20⟩ := hS.ref.nCells
    obtain ⟨s9, s10, s11, s12, s13, s14⟩ := hS.ref.sCells
    go_simp <;> with_reducible rfl
  try simp only [Act.put, List.setIfInBounds_toArray, List.set_cons_zero, List.set_cons_succ]
  refine held_take 60 (v := ?_) rfl (by kernel_rfl) (by kernel_rfl) (by kernel_rfl) (fun _ _ _ h => h) (by rfl) (fun w hS => ?_) (by assumption) ?_
  rotate_left
  · try dsimp only at hS
    obtain ⟨n15, n16, n17, n18, n19, n20⟩ := hS.ref.nCells
    obtain ⟨s9, s10, s11, s12, s13, s14⟩ := hS.ref.sCells
    go_simp <;> with_reducible rfl
  try simp only [Act.put, List.setIfInBounds_toArray, List.set_cons_zero, List.set_cons_succ]
  refine held_take 61 (v := ?_) rfl (by kernel_rfl) (by kernel_rfl) (by kernel_rfl) (fun _ _ _ h => h) (by rfl) (fun w hS => ?_) (by assumption) ?_
  rotate_left
  · try dsimp only at hS
    obtain ⟨n15, n16, n17, n18, n19, n20⟩ := hS.ref.nCells
    obtain ⟨s9, s10, s11, s12, s13, s14⟩ := hS.ref.sCells
    go_simp <;> with_reducible rfl
  try simp only [Act.put, List.setIfInBounds_toArray, List.set_cons_zero, List.set_cons_succ]
  refine held_done (by kernel_rfl) ?_
  have KF := Lib.hid Kb.out
  clear heq
  go_wp2_with fail
  rw [HPost.out]
  exact ⟨rfl, KF.out⟩
end Go.Proofs.Ytdbnadhmkfhdkaa
