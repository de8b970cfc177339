/- geom.Fits. -/
import Derived.Test.YtdbnadhmkfhdkaaGeomD
namespace Go.Proofs.Ytdbnadhmkfhdkaa
open Go Go.RowKit
set_option linter.unusedVariables false

def valI : Option Value → Int
  | some (.int _ z) => z
  | _ => 0
/-- The enhanced sectors of the first so many areas. -/
def enhTo (arr : Array Value) (v : Int) : Nat → Int
  | 0 => 0
  | k + 1 => enhTo arr v k + (if (bits BinOp.and IntKind.u8 (v / 2 ^ k) 1 == 1) = true then valI arr[k]? else 0)
instance (c : Cfg) (a b d e : Int) : Decidable (SizesOk c a b d e) := by unfold SizesOk; infer_instance
/-- Whether sizes fit. -/
noncomputable def fitsOf (c : Cfg) (a b d e v : Int) : Bool := decide (checkOf c = 0 ∧ bits BinOp.andNot IntKind.u8 v 241 = 0 ∧ SizesOk c a b d e ∧ needOf c (enhTo (sizesV c a b d e) v 8) ≤ c.blocks)
theorem fits_no {c : Cfg} {a b d e v : Int} (h : ¬ (checkOf c = 0 ∧ bits BinOp.andNot IntKind.u8 v 241 = 0 ∧ SizesOk c a b d e ∧ needOf c (enhTo (sizesV c a b d e) v 8) ≤ c.blocks)) : fitsOf c a b d e v = false := by
  unfold fitsOf
  exact decide_eq_false h
theorem fits_yes {c : Cfg} {a b d e v : Int} (h : fitsOf c a b d e v = true) : checkOf c = 0 ∧ bits BinOp.andNot IntKind.u8 v 241 = 0 ∧ SizesOk c a b d e ∧ needOf c (enhTo (sizesV c a b d e) v 8) ≤ c.blocks := of_decide_eq_true h

set_option maxRecDepth 100000 in
set_option maxHeartbeats 16000000 in
theorem fitsX_good (c : Cfg) (a b d e : Int) (v : Int) (w : World) (hwf : c.wf) (hck : checkOf c = 0) (hv : 0 ≤ v ∧ v < 256) (ha : I64 a) (hb : I64 b) (hd : I64 d) (he : I64 e) :
    Calls Try.prog 43 #[.agg #[.int .i64 c.blocks, .int .i64 c.pages, .int .i64 c.sector, .int .i64 c.user, .int .i64 c.boot, .int .i64 c.rpa, .int .i64 c.group, .int .i64 c.cache, .int .i64 c.spare], .agg #[.int .i64 a, .int .i64 b, .int .i64 d, .int .i64 e], .int .u8 v] w fun x w' => x = .returned (.bool (fitsOf c a b d e v)) ∧ Below w.heap.size w w' := by
  obtain ⟨hok, hneed⟩ := check_zero hck
  have hok' := hok
  obtain ⟨c1, c2, c3, c4, c5, c6, c7, c8, c9, c10, c11, c12, c13, c14, c15, c16, c17, c18, c19, c20, c21, c22⟩ := hok'
  obtain ⟨G, hG⟩ : ∃ G, Hid (c.user / c.group = G) := ⟨_, Lib.hid rfl⟩
  have hG0 : 0 ≤ G := hG.out ▸ Int.ediv_nonneg (by omega) (by omega)
  have hG1 : G ≤ 32 := hG.out ▸ c18
  clear c17 c18
  have hi0 : ∀ w, (Instr.index 34 (.agg #[.int .i64 a, .int .i64 b, .int .i64 d, .int .i64 e]) (.int .i64 0)).run Try.prog w = .ok (.int .i64 a) w := fun w => index_arr 34 3 4 _ .i64 0 _ Try.underlying34 Try.sizeOf3 Try.isAgg3 (by omega) rfl
  have hi1 : ∀ w, (Instr.index 34 (.agg #[.int .i64 a, .int .i64 b, .int .i64 d, .int .i64 e]) (.int .i64 1)).run Try.prog w = .ok (.int .i64 b) w := fun w => index_arr 34 3 4 _ .i64 1 _ Try.underlying34 Try.sizeOf3 Try.isAgg3 (by omega) rfl
  have hi2 : ∀ w, (Instr.index 34 (.agg #[.int .i64 a, .int .i64 b, .int .i64 d, .int .i64 e]) (.int .i64 2)).run Try.prog w = .ok (.int .i64 d) w := fun w => index_arr 34 3 4 _ .i64 2 _ Try.underlying34 Try.sizeOf3 Try.isAgg3 (by omega) rfl
  have hi3 : ∀ w, (Instr.index 34 (.agg #[.int .i64 a, .int .i64 b, .int .i64 d, .int .i64 e]) (.int .i64 3)).run Try.prog w = .ok (.int .i64 e) w := fun w => index_arr 34 3 4 _ .i64 3 _ Try.underlying34 Try.sizeOf3 Try.isAgg3 (by omega) rfl
  obtain ⟨a1, a2⟩ := ha
  obtain ⟨b1, b2⟩ := hb
  obtain ⟨d1, d2⟩ := hd
  obtain ⟨e1, e2⟩ := he
  by_cases hx : bits BinOp.andNot IntKind.u8 v 241 = 0
  · have hxx : (bits BinOp.andNot IntKind.u8 v 241 != 0) = false := by simp [hx]
    by_cases q0 : a < 0
    · go_enter Try.func43, Try.ntmps43
      go_wp2_with fail
      refine (check_any c _ hwf).mono ?_
      rintro x w1 ⟨rfl, hb1⟩
      rw [hck]
      have hB1 : Below w.heap.size w w1 := ((((Below.refl w.heap.size w).alloc (Nat.le_refl _) _).alloc (by simp) _)).trans (hb1.mono (by simp; omega))
      have n1 : HasB w1 w.heap.size #[.int .i64 c.blocks, .int .i64 c.pages, .int .i64 c.sector, .int .i64 c.user, .int .i64 c.boot, .int .i64 c.rpa, .int .i64 c.group, .int .i64 c.cache, .int .i64 c.spare] 23 := ((HasB.new w _ _).alloc _).below hb1 (by simp; omega)
      have n2 : HasB w1 (w.heap.size + 1) #[.int .i64 a, .int .i64 b, .int .i64 d, .int .i64 e] 34 := (HasB.new' (by simp) _ _).below hb1 (by simp)
      obtain ⟨l1, x0, x1, x2, x3, x4, x5, x6, x7, x8⟩ := HasB.nine n1
      obtain ⟨l2, y0, y1, y2, y3⟩ := HasB.four n2
      clear hb1
      go_wp2_with fail
      refine (groups_any c _ hok).mono ?_
      rintro x w2 ⟨rfl, hb2⟩
      rw [hG.out]
      have hB2 := below_call hB1 hb2 hB1.size
      have n3 := n1.below hb2 l1
      have n4 := n2.below hb2 l2
      obtain ⟨l3, u0, u1, u2, u3, u4, u5, u6, u7, u8⟩ := HasB.nine n3
      obtain ⟨l4, v0, v1, v2, v3⟩ := HasB.four n4
      clear x0 x1 x2 x3 x4 x5 x6 x7 x8 y0 y1 y2 y3 hb2
      go_wp2_with fail
      refine wp_loop_rounds 5 ?_
      rw [rounds_succ]
      go_wp2_with fail
      go_ret
      exact ⟨by rw [fits_no (fun k => by have := k.2.2.1; unfold SizesOk at this; rw [hG.out] at this; omega)]; rfl, hB2⟩
    by_cases q1 : G ≤ a
    · go_enter Try.func43, Try.ntmps43
      go_wp2_with fail
      refine (check_any c _ hwf).mono ?_
      rintro x w1 ⟨rfl, hb1⟩
      rw [hck]
      have hB1 : Below w.heap.size w w1 := ((((Below.refl w.heap.size w).alloc (Nat.le_refl _) _).alloc (by simp) _)).trans (hb1.mono (by simp; omega))
      have n1 : HasB w1 w.heap.size #[.int .i64 c.blocks, .int .i64 c.pages, .int .i64 c.sector, .int .i64 c.user, .int .i64 c.boot, .int .i64 c.rpa, .int .i64 c.group, .int .i64 c.cache, .int .i64 c.spare] 23 := ((HasB.new w _ _).alloc _).below hb1 (by simp; omega)
      have n2 : HasB w1 (w.heap.size + 1) #[.int .i64 a, .int .i64 b, .int .i64 d, .int .i64 e] 34 := (HasB.new' (by simp) _ _).below hb1 (by simp)
      obtain ⟨l1, x0, x1, x2, x3, x4, x5, x6, x7, x8⟩ := HasB.nine n1
      obtain ⟨l2, y0, y1, y2, y3⟩ := HasB.four n2
      clear hb1
      go_wp2_with fail
      refine (groups_any c _ hok).mono ?_
      rintro x w2 ⟨rfl, hb2⟩
      rw [hG.out]
      have hB2 := below_call hB1 hb2 hB1.size
      have n3 := n1.below hb2 l1
      have n4 := n2.below hb2 l2
      obtain ⟨l3, u0, u1, u2, u3, u4, u5, u6, u7, u8⟩ := HasB.nine n3
      obtain ⟨l4, v0, v1, v2, v3⟩ := HasB.four n4
      clear x0 x1 x2 x3 x4 x5 x6 x7 x8 y0 y1 y2 y3 hb2
      go_wp2_with fail
      refine wp_loop_rounds 5 ?_
      rw [rounds_succ]
      go_wp2_with fail
      go_ret
      exact ⟨by rw [fits_no (fun k => by have := k.2.2.1; unfold SizesOk at this; rw [hG.out] at this; omega)]; rfl, hB2⟩
    by_cases q2 : b < 0
    · go_enter Try.func43, Try.ntmps43
      go_wp2_with fail
      refine (check_any c _ hwf).mono ?_
      rintro x w1 ⟨rfl, hb1⟩
      rw [hck]
      have hB1 : Below w.heap.size w w1 := ((((Below.refl w.heap.size w).alloc (Nat.le_refl _) _).alloc (by simp) _)).trans (hb1.mono (by simp; omega))
      have n1 : HasB w1 w.heap.size #[.int .i64 c.blocks, .int .i64 c.pages, .int .i64 c.sector, .int .i64 c.user, .int .i64 c.boot, .int .i64 c.rpa, .int .i64 c.group, .int .i64 c.cache, .int .i64 c.spare] 23 := ((HasB.new w _ _).alloc _).below hb1 (by simp; omega)
      have n2 : HasB w1 (w.heap.size + 1) #[.int .i64 a, .int .i64 b, .int .i64 d, .int .i64 e] 34 := (HasB.new' (by simp) _ _).below hb1 (by simp)
      obtain ⟨l1, x0, x1, x2, x3, x4, x5, x6, x7, x8⟩ := HasB.nine n1
      obtain ⟨l2, y0, y1, y2, y3⟩ := HasB.four n2
      clear hb1
      go_wp2_with fail
      refine (groups_any c _ hok).mono ?_
      rintro x w2 ⟨rfl, hb2⟩
      rw [hG.out]
      have hB2 := below_call hB1 hb2 hB1.size
      have n3 := n1.below hb2 l1
      have n4 := n2.below hb2 l2
      obtain ⟨l3, u0, u1, u2, u3, u4, u5, u6, u7, u8⟩ := HasB.nine n3
      obtain ⟨l4, v0, v1, v2, v3⟩ := HasB.four n4
      clear x0 x1 x2 x3 x4 x5 x6 x7 x8 y0 y1 y2 y3 hb2
      go_wp2_with fail
      refine wp_loop_rounds 5 ?_
      rw [rounds_succ]
      go_wp2_with fail
      rw [rounds_succ]
      go_wp2_with fail
      go_ret
      exact ⟨by rw [fits_no (fun k => by have := k.2.2.1; unfold SizesOk at this; rw [hG.out] at this; omega)]; rfl, hB2⟩
    by_cases q3 : G - a ≤ b
    · go_enter Try.func43, Try.ntmps43
      go_wp2_with fail
      refine (check_any c _ hwf).mono ?_
      rintro x w1 ⟨rfl, hb1⟩
      rw [hck]
      have hB1 : Below w.heap.size w w1 := ((((Below.refl w.heap.size w).alloc (Nat.le_refl _) _).alloc (by simp) _)).trans (hb1.mono (by simp; omega))
      have n1 : HasB w1 w.heap.size #[.int .i64 c.blocks, .int .i64 c.pages, .int .i64 c.sector, .int .i64 c.user, .int .i64 c.boot, .int .i64 c.rpa, .int .i64 c.group, .int .i64 c.cache, .int .i64 c.spare] 23 := ((HasB.new w _ _).alloc _).below hb1 (by simp; omega)
      have n2 : HasB w1 (w.heap.size + 1) #[.int .i64 a, .int .i64 b, .int .i64 d, .int .i64 e] 34 := (HasB.new' (by simp) _ _).below hb1 (by simp)
      obtain ⟨l1, x0, x1, x2, x3, x4, x5, x6, x7, x8⟩ := HasB.nine n1
      obtain ⟨l2, y0, y1, y2, y3⟩ := HasB.four n2
      clear hb1
      go_wp2_with fail
      refine (groups_any c _ hok).mono ?_
      rintro x w2 ⟨rfl, hb2⟩
      rw [hG.out]
      have hB2 := below_call hB1 hb2 hB1.size
      have n3 := n1.below hb2 l1
      have n4 := n2.below hb2 l2
      obtain ⟨l3, u0, u1, u2, u3, u4, u5, u6, u7, u8⟩ := HasB.nine n3
      obtain ⟨l4, v0, v1, v2, v3⟩ := HasB.four n4
      clear x0 x1 x2 x3 x4 x5 x6 x7 x8 y0 y1 y2 y3 hb2
      go_wp2_with fail
      refine wp_loop_rounds 5 ?_
      rw [rounds_succ]
      go_wp2_with fail
      rw [rounds_succ]
      go_wp2_with fail
      go_ret
      exact ⟨by rw [fits_no (fun k => by have := k.2.2.1; unfold SizesOk at this; rw [hG.out] at this; omega)]; rfl, hB2⟩
    by_cases q4 : d < 0
    · go_enter Try.func43, Try.ntmps43
      go_wp2_with fail
      refine (check_any c _ hwf).mono ?_
      rintro x w1 ⟨rfl, hb1⟩
      rw [hck]
      have hB1 : Below w.heap.size w w1 := ((((Below.refl w.heap.size w).alloc (Nat.le_refl _) _).alloc (by simp) _)).trans (hb1.mono (by simp; omega))
      have n1 : HasB w1 w.heap.size #[.int .i64 c.blocks, .int .i64 c.pages, .int .i64 c.sector, .int .i64 c.user, .int .i64 c.boot, .int .i64 c.rpa, .int .i64 c.group, .int .i64 c.cache, .int .i64 c.spare] 23 := ((HasB.new w _ _).alloc _).below hb1 (by simp; omega)
      have n2 : HasB w1 (w.heap.size + 1) #[.int .i64 a, .int .i64 b, .int .i64 d, .int .i64 e] 34 := (HasB.new' (by simp) _ _).below hb1 (by simp)
      obtain ⟨l1, x0, x1, x2, x3, x4, x5, x6, x7, x8⟩ := HasB.nine n1
      obtain ⟨l2, y0, y1, y2, y3⟩ := HasB.four n2
      clear hb1
      go_wp2_with fail
      refine (groups_any c _ hok).mono ?_
      rintro x w2 ⟨rfl, hb2⟩
      rw [hG.out]
      have hB2 := below_call hB1 hb2 hB1.size
      have n3 := n1.below hb2 l1
      have n4 := n2.below hb2 l2
      obtain ⟨l3, u0, u1, u2, u3, u4, u5, u6, u7, u8⟩ := HasB.nine n3
      obtain ⟨l4, v0, v1, v2, v3⟩ := HasB.four n4
      clear x0 x1 x2 x3 x4 x5 x6 x7 x8 y0 y1 y2 y3 hb2
      go_wp2_with fail
      refine wp_loop_rounds 5 ?_
      rw [rounds_succ]
      go_wp2_with fail
      rw [rounds_succ]
      go_wp2_with fail
      rw [rounds_succ]
      go_wp2_with fail
      go_ret
      exact ⟨by rw [fits_no (fun k => by have := k.2.2.1; unfold SizesOk at this; rw [hG.out] at this; omega)]; rfl, hB2⟩
    by_cases q5 : G - a - b ≤ d
    · go_enter Try.func43, Try.ntmps43
      go_wp2_with fail
      refine (check_any c _ hwf).mono ?_
      rintro x w1 ⟨rfl, hb1⟩
      rw [hck]
      have hB1 : Below w.heap.size w w1 := ((((Below.refl w.heap.size w).alloc (Nat.le_refl _) _).alloc (by simp) _)).trans (hb1.mono (by simp; omega))
      have n1 : HasB w1 w.heap.size #[.int .i64 c.blocks, .int .i64 c.pages, .int .i64 c.sector, .int .i64 c.user, .int .i64 c.boot, .int .i64 c.rpa, .int .i64 c.group, .int .i64 c.cache, .int .i64 c.spare] 23 := ((HasB.new w _ _).alloc _).below hb1 (by simp; omega)
      have n2 : HasB w1 (w.heap.size + 1) #[.int .i64 a, .int .i64 b, .int .i64 d, .int .i64 e] 34 := (HasB.new' (by simp) _ _).below hb1 (by simp)
      obtain ⟨l1, x0, x1, x2, x3, x4, x5, x6, x7, x8⟩ := HasB.nine n1
      obtain ⟨l2, y0, y1, y2, y3⟩ := HasB.four n2
      clear hb1
      go_wp2_with fail
      refine (groups_any c _ hok).mono ?_
      rintro x w2 ⟨rfl, hb2⟩
      rw [hG.out]
      have hB2 := below_call hB1 hb2 hB1.size
      have n3 := n1.below hb2 l1
      have n4 := n2.below hb2 l2
      obtain ⟨l3, u0, u1, u2, u3, u4, u5, u6, u7, u8⟩ := HasB.nine n3
      obtain ⟨l4, v0, v1, v2, v3⟩ := HasB.four n4
      clear x0 x1 x2 x3 x4 x5 x6 x7 x8 y0 y1 y2 y3 hb2
      go_wp2_with fail
      refine wp_loop_rounds 5 ?_
      rw [rounds_succ]
      go_wp2_with fail
      rw [rounds_succ]
      go_wp2_with fail
      rw [rounds_succ]
      go_wp2_with fail
      go_ret
      exact ⟨by rw [fits_no (fun k => by have := k.2.2.1; unfold SizesOk at this; rw [hG.out] at this; omega)]; rfl, hB2⟩
    by_cases q6 : e < 0
    · go_enter Try.func43, Try.ntmps43
      go_wp2_with fail
      refine (check_any c _ hwf).mono ?_
      rintro x w1 ⟨rfl, hb1⟩
      rw [hck]
      have hB1 : Below w.heap.size w w1 := ((((Below.refl w.heap.size w).alloc (Nat.le_refl _) _).alloc (by simp) _)).trans (hb1.mono (by simp; omega))
      have n1 : HasB w1 w.heap.size #[.int .i64 c.blocks, .int .i64 c.pages, .int .i64 c.sector, .int .i64 c.user, .int .i64 c.boot, .int .i64 c.rpa, .int .i64 c.group, .int .i64 c.cache, .int .i64 c.spare] 23 := ((HasB.new w _ _).alloc _).below hb1 (by simp; omega)
      have n2 : HasB w1 (w.heap.size + 1) #[.int .i64 a, .int .i64 b, .int .i64 d, .int .i64 e] 34 := (HasB.new' (by simp) _ _).below hb1 (by simp)
      obtain ⟨l1, x0, x1, x2, x3, x4, x5, x6, x7, x8⟩ := HasB.nine n1
      obtain ⟨l2, y0, y1, y2, y3⟩ := HasB.four n2
      clear hb1
      go_wp2_with fail
      refine (groups_any c _ hok).mono ?_
      rintro x w2 ⟨rfl, hb2⟩
      rw [hG.out]
      have hB2 := below_call hB1 hb2 hB1.size
      have n3 := n1.below hb2 l1
      have n4 := n2.below hb2 l2
      obtain ⟨l3, u0, u1, u2, u3, u4, u5, u6, u7, u8⟩ := HasB.nine n3
      obtain ⟨l4, v0, v1, v2, v3⟩ := HasB.four n4
      clear x0 x1 x2 x3 x4 x5 x6 x7 x8 y0 y1 y2 y3 hb2
      go_wp2_with fail
      refine wp_loop_rounds 5 ?_
      rw [rounds_succ]
      go_wp2_with fail
      rw [rounds_succ]
      go_wp2_with fail
      rw [rounds_succ]
      go_wp2_with fail
      rw [rounds_succ]
      go_wp2_with fail
      go_ret
      exact ⟨by rw [fits_no (fun k => by have := k.2.2.1; unfold SizesOk at this; rw [hG.out] at this; omega)]; rfl, hB2⟩
    by_cases q7 : G - a - b - d ≤ e
    · go_enter Try.func43, Try.ntmps43
      go_wp2_with fail
      refine (check_any c _ hwf).mono ?_
      rintro x w1 ⟨rfl, hb1⟩
      rw [hck]
      have hB1 : Below w.heap.size w w1 := ((((Below.refl w.heap.size w).alloc (Nat.le_refl _) _).alloc (by simp) _)).trans (hb1.mono (by simp; omega))
      have n1 : HasB w1 w.heap.size #[.int .i64 c.blocks, .int .i64 c.pages, .int .i64 c.sector, .int .i64 c.user, .int .i64 c.boot, .int .i64 c.rpa, .int .i64 c.group, .int .i64 c.cache, .int .i64 c.spare] 23 := ((HasB.new w _ _).alloc _).below hb1 (by simp; omega)
      have n2 : HasB w1 (w.heap.size + 1) #[.int .i64 a, .int .i64 b, .int .i64 d, .int .i64 e] 34 := (HasB.new' (by simp) _ _).below hb1 (by simp)
      obtain ⟨l1, x0, x1, x2, x3, x4, x5, x6, x7, x8⟩ := HasB.nine n1
      obtain ⟨l2, y0, y1, y2, y3⟩ := HasB.four n2
      clear hb1
      go_wp2_with fail
      refine (groups_any c _ hok).mono ?_
      rintro x w2 ⟨rfl, hb2⟩
      rw [hG.out]
      have hB2 := below_call hB1 hb2 hB1.size
      have n3 := n1.below hb2 l1
      have n4 := n2.below hb2 l2
      obtain ⟨l3, u0, u1, u2, u3, u4, u5, u6, u7, u8⟩ := HasB.nine n3
      obtain ⟨l4, v0, v1, v2, v3⟩ := HasB.four n4
      clear x0 x1 x2 x3 x4 x5 x6 x7 x8 y0 y1 y2 y3 hb2
      go_wp2_with fail
      refine wp_loop_rounds 5 ?_
      rw [rounds_succ]
      go_wp2_with fail
      rw [rounds_succ]
      go_wp2_with fail
      rw [rounds_succ]
      go_wp2_with fail
      rw [rounds_succ]
      go_wp2_with fail
      go_ret
      exact ⟨by rw [fits_no (fun k => by have := k.2.2.1; unfold SizesOk at this; rw [hG.out] at this; omega)]; rfl, hB2⟩
    go_enter Try.func43, Try.ntmps43
    go_wp2_with fail
    refine (check_any c _ hwf).mono ?_
    rintro x w1 ⟨rfl, hb1⟩
    rw [hck]
    have hB1 : Below w.heap.size w w1 := ((((Below.refl w.heap.size w).alloc (Nat.le_refl _) _).alloc (by simp) _)).trans (hb1.mono (by simp; omega))
    have n1 : HasB w1 w.heap.size #[.int .i64 c.blocks, .int .i64 c.pages, .int .i64 c.sector, .int .i64 c.user, .int .i64 c.boot, .int .i64 c.rpa, .int .i64 c.group, .int .i64 c.cache, .int .i64 c.spare] 23 := ((HasB.new w _ _).alloc _).below hb1 (by simp; omega)
    have n2 : HasB w1 (w.heap.size + 1) #[.int .i64 a, .int .i64 b, .int .i64 d, .int .i64 e] 34 := (HasB.new' (by simp) _ _).below hb1 (by simp)
    obtain ⟨l1, x0, x1, x2, x3, x4, x5, x6, x7, x8⟩ := HasB.nine n1
    obtain ⟨l2, y0, y1, y2, y3⟩ := HasB.four n2
    clear hb1
    go_wp2_with fail
    refine (groups_any c _ hok).mono ?_
    rintro x w2 ⟨rfl, hb2⟩
    rw [hG.out]
    have hB2 := below_call hB1 hb2 hB1.size
    have n3 := n1.below hb2 l1
    have n4 := n2.below hb2 l2
    obtain ⟨l3, u0, u1, u2, u3, u4, u5, u6, u7, u8⟩ := HasB.nine n3
    obtain ⟨l4, v0, v1, v2, v3⟩ := HasB.four n4
    clear x0 x1 x2 x3 x4 x5 x6 x7 x8 y0 y1 y2 y3 hb2
    go_wp2_with fail
    refine wp_loop_rounds 5 ?_
    rw [rounds_succ]
    go_wp2_with fail
    rw [rounds_succ]
    go_wp2_with fail
    rw [rounds_succ]
    go_wp2_with fail
    rw [rounds_succ]
    go_wp2_with fail
    rw [rounds_succ]
    go_wp2_with fail
    have hSz : SizesOk c a b d e := by unfold SizesOk; rw [hG.out]; omega
    refine (sizes_any c a b d e _ hok ⟨by omega, by omega⟩ ⟨by omega, by omega⟩ ⟨by omega, by omega⟩ ⟨by omega, by omega⟩).mono ?_
    rintro x w3 ⟨rfl, hb3⟩
    have hB3 := below_call hB2 hb3 hB2.size
    have n5 := n3.below hb3 l3
    obtain ⟨l5, x0, x1, x2, x3, x4, x5, x6, x7, x8⟩ := HasB.nine n5
    have hat := sizesV_at c a b d e
    have hbd := sizesV_bd c a b d e hok ⟨by omega, by omega⟩ ⟨by omega, by omega⟩ ⟨by omega, by omega⟩ ⟨by omega, by omega⟩
    obtain ⟨arr, harr⟩ : ∃ arr, Hid (sizesV c a b d e = arr) := ⟨_, Lib.hid rfl⟩
    rw [harr.out] at hat hbd ⊢
    have HAT := Lib.hid hat
    have HBD := Lib.hid hbd
    clear hat hbd hb3 u0 u1 u2 u3 u4 u5 u6 u7 u8 v0 v1 v2 v3 hi0 hi1 hi2 hi3
    go_wp2_with fail
    go_loop [10, 41] (fun n i => ∃ (k : Nat) (t : Int), k ≤ 8 ∧ i = .int .i64 k ∧ n = .int .i64 t ∧ -(4194304 * (k : Int)) ≤ t ∧ t ≤ 4194304 * k ∧ Hid (t = enhTo arr v k)) (fun _ i => 8 - (intOf i).toNat)
    case atStart => exact ⟨0, 0, by omega, rfl, rfl, by omega, by omega, Lib.hid rfl⟩
    case round =>
      obtain ⟨k, t, hk, rfl, rfl, ht1, ht2, HT⟩ := hrel
      by_cases hlt : k < 8
      · obtain ⟨z, hz⟩ := HAT.out k hlt
        obtain ⟨z1, z2⟩ := HBD.out k hlt z hz
        have hik : ∀ w, (Instr.index 98 (.agg arr) (.int .i64 (k : Int))).run Try.prog w = .ok (.int .i64 z) w := fun w => index_arr 98 3 8 _ .i64 k _ Try.underlying98 Try.sizeOf3 Try.isAgg3 hlt hz
        go_wp2_with fail
        all_goals
          go_round
          case rel => exact ⟨k + 1, _, by omega, by go_num, rfl, by omega, by omega, by first | exact Lib.hid (by rw [enhTo, if_pos (by assumption), ← HT.out, hz]; rfl) | exact Lib.hid (by rw [enhTo, if_neg (fun h => by rename_i hq; rw [hq] at h; cases h), ← HT.out]; omega)⟩
          case measure => simp [intOf]; omega
      · obtain rfl : k = 8 := by omega
        go_wp2_with fail
        go_region_with (go_at_call 35; refine (need_any c t _ hok (by unfold I64; omega)).mono ?_; rintro x w4 ⟨rfl, hb4⟩; have hc0 := hb4.cell (p := ⟨w.heap.size, 0, none⟩) l5)
        all_goals
          go_wp2
          go_ret
          have hf : fitsOf c a b d e v = decide (needOf c t ≤ c.blocks) := by
            unfold fitsOf
            rw [harr.out, ← HT.out]
            exact decide_eq_decide.2 ⟨fun k => k.2.2.2, fun k => ⟨hck, hx, hSz, k⟩⟩
          exact ⟨by rw [hf]; rfl, by first | exact (hB3.drew).trans (Below.mono (by assumption) hB3.size) | exact hB3.trans (Below.mono (by assumption) hB3.size) | exact (hB3.drew.drew).trans (Below.mono (by assumption) hB3.size)⟩
  · have hxx : (bits BinOp.andNot IntKind.u8 v 241 != 0) = true := by simp [hx]
    go_enter Try.func43, Try.ntmps43
    go_wp2_with fail
    refine (check_any c _ hwf).mono ?_
    rintro x w1 ⟨rfl, hb1⟩
    rw [hck]
    have hB1 : Below w.heap.size w w1 := ((((Below.refl w.heap.size w).alloc (Nat.le_refl _) _).alloc (by simp) _)).trans (hb1.mono (by simp; omega))
    have n1 : HasB w1 w.heap.size #[.int .i64 c.blocks, .int .i64 c.pages, .int .i64 c.sector, .int .i64 c.user, .int .i64 c.boot, .int .i64 c.rpa, .int .i64 c.group, .int .i64 c.cache, .int .i64 c.spare] 23 := ((HasB.new w _ _).alloc _).below hb1 (by simp; omega)
    have n2 : HasB w1 (w.heap.size + 1) #[.int .i64 a, .int .i64 b, .int .i64 d, .int .i64 e] 34 := (HasB.new' (by simp) _ _).below hb1 (by simp)
    obtain ⟨l1, x0, x1, x2, x3, x4, x5, x6, x7, x8⟩ := HasB.nine n1
    obtain ⟨l2, y0, y1, y2, y3⟩ := HasB.four n2
    clear hb1
    go_wp2_with fail
    go_ret
    exact ⟨by rw [fits_no (fun k => hx k.2.1)]; rfl, hB1⟩

theorem fitsX_any (c : Cfg) (a b d e : Int) (v : Int) (w : World) (hwf : c.wf) (hv : 0 ≤ v ∧ v < 256) (ha : I64 a) (hb : I64 b) (hd : I64 d) (he : I64 e) :
    Calls Try.prog 43 #[.agg #[.int .i64 c.blocks, .int .i64 c.pages, .int .i64 c.sector, .int .i64 c.user, .int .i64 c.boot, .int .i64 c.rpa, .int .i64 c.group, .int .i64 c.cache, .int .i64 c.spare], .agg #[.int .i64 a, .int .i64 b, .int .i64 d, .int .i64 e], .int .u8 v] w fun x w' => x = .returned (.bool (fitsOf c a b d e v)) ∧ Below w.heap.size w w' := by
  rcases checkOf_two c with h | h
  · exact fitsX_good c a b d e v w hwf h hv ha hb hd he
  · refine (fits_bad c a b d e v w hwf h).mono ?_
    rintro x w1 ⟨rfl, hb1⟩
    exact ⟨by rw [fits_no (fun k => by have := k.1; omega)], hb1⟩

end Go.Proofs.Ytdbnadhmkfhdkaa
