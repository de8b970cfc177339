/- geom.Fits. -/
import Derived.Test.YtdbnadhmkfhdkaaGeomC
namespace Go.Proofs.Ytdbnadhmkfhdkaa
open Go.RowKit
set_option linter.unusedVariables false

theorem HasB.nine {w : World} {g : Nat} {a0 a1 a2 a3 a4 a5 a6 a7 a8 : Value} {T : TypeId} (h : HasB w g #[a0, a1, a2, a3, a4, a5, a6, a7, a8] T) :
    g < w.heap.size ∧ w.cell? ⟨g, 0, none⟩ = some a0 ∧ w.cell? ⟨g, 1, none⟩ = some a1 ∧ w.cell? ⟨g, 2, none⟩ = some a2 ∧ w.cell? ⟨g, 3, none⟩ = some a3 ∧ w.cell? ⟨g, 4, none⟩ = some a4 ∧ w.cell? ⟨g, 5, none⟩ = some a5 ∧ w.cell? ⟨g, 6, none⟩ = some a6 ∧ w.cell? ⟨g, 7, none⟩ = some a7 ∧ w.cell? ⟨g, 8, none⟩ = some a8 :=
  ⟨h.lt, h.at 0, h.at 1, h.at 2, h.at 3, h.at 4, h.at 5, h.at 6, h.at 7, h.at 8⟩
theorem HasB.four {w : World} {g : Nat} {a0 a1 a2 a3 : Value} {T : TypeId} (h : HasB w g #[a0, a1, a2, a3] T) :
    g < w.heap.size ∧ w.cell? ⟨g, 0, none⟩ = some a0 ∧ w.cell? ⟨g, 1, none⟩ = some a1 ∧ w.cell? ⟨g, 2, none⟩ = some a2 ∧ w.cell? ⟨g, 3, none⟩ = some a3 :=
  ⟨h.lt, h.at 0, h.at 1, h.at 2, h.at 3⟩

theorem sizesV_at (c : Cfg) (a b d e : Int) (k : Nat) (h : k < 8) : ∃ z : Int, (sizesV c a b d e)[k]? = some (.int .i64 z) := by
  match k, h with
  | 0, _ => exact ⟨_, rfl⟩
  | 1, _ => exact ⟨_, rfl⟩
  | 2, _ => exact ⟨_, rfl⟩
  | 3, _ => exact ⟨_, rfl⟩
  | 4, _ => exact ⟨_, rfl⟩
  | 5, _ => exact ⟨_, rfl⟩
  | 6, _ => exact ⟨_, rfl⟩
  | 7, _ => exact ⟨_, rfl⟩

theorem sizesV_bd (c : Cfg) (a b d e : Int) (hok : OkC c) (ha : 0 ≤ a ∧ a ≤ 32) (hb : 0 ≤ b ∧ b ≤ 32) (hd : 0 ≤ d ∧ d ≤ 32) (he : 0 ≤ e ∧ e ≤ 32) (k : Nat) (h : k < 8) (z : Int) (hz : (sizesV c a b d e)[k]? = some (.int .i64 z)) : -4194304 ≤ z ∧ z ≤ 4194304 := by
  obtain ⟨c1, c2, c3, c4, c5, c6, c7, c8, c9, c10, c11, c12, c13, c14, c15, c16, c17, c18, c19, c20, c21, c22⟩ := hok
  obtain ⟨m1, m2⟩ := mul_in ha.1 ha.2 c15 (by omega)
  obtain ⟨m3, m4⟩ := mul_in hb.1 hb.2 c15 (by omega)
  obtain ⟨m5, m6⟩ := mul_in hd.1 hd.2 c15 (by omega)
  obtain ⟨m7, m8⟩ := mul_in he.1 he.2 c15 (by omega)
  match k, h with
  | 0, _ => simp [sizesV] at hz; omega
  | 1, _ => simp [sizesV] at hz; omega
  | 2, _ => simp [sizesV] at hz; omega
  | 3, _ => simp [sizesV] at hz; omega
  | 4, _ => simp [sizesV] at hz; omega
  | 5, _ => simp [sizesV] at hz; omega
  | 6, _ => simp [sizesV] at hz; omega
  | 7, _ => simp [sizesV] at hz; omega

/-- Sizes of the general areas that leave the user's one a group at least. -/
def SizesOk (c : Cfg) (a b d e : Int) : Prop := 0 ≤ a ∧ 0 ≤ b ∧ 0 ≤ d ∧ 0 ≤ e ∧ a + b + d + e < c.user / c.group

def FitsAt (c : Cfg) (a b d e : Int) (x : Ending) : Prop := ∃ r : Bool, x = .returned (.bool r) ∧ (r = true → checkOf c = 0 ∧ SizesOk c a b d e)

theorem checkOf_two (c : Cfg) : checkOf c = 0 ∨ checkOf c = 1 := by
  unfold checkOf
  split
  · exact .inl rfl
  · exact .inr rfl

set_option maxRecDepth 100000 in
set_option maxHeartbeats 4000000 in
theorem fits_bad (c : Cfg) (a b d e : Int) (v : Int) (w : World) (hwf : c.wf) (hck : checkOf c = 1) :
    Calls Try.prog 43 #[.agg #[.int .i64 c.blocks, .int .i64 c.pages, .int .i64 c.sector, .int .i64 c.user, .int .i64 c.boot, .int .i64 c.rpa, .int .i64 c.group, .int .i64 c.cache, .int .i64 c.spare], .agg #[.int .i64 a, .int .i64 b, .int .i64 d, .int .i64 e], .int .u8 v] w fun x w' => x = .returned (.bool false) ∧ Below w.heap.size w w' := by
  go_enter Try.func43, Try.ntmps43
  go_wp2_with fail
  refine (check_any c _ hwf).mono ?_
  rintro x w1 ⟨rfl, hb1⟩
  rw [hck]
  go_wp2_with fail
  go_ret
  exact ⟨rfl, ((((Below.refl w.heap.size w).alloc (Nat.le_refl _) _).alloc (by simp) _)).trans (hb1.mono (by simp; omega))⟩

set_option maxRecDepth 100000 in
set_option maxHeartbeats 16000000 in
theorem fits_good (c : Cfg) (a b d e : Int) (v : Int) (w : World) (hwf : c.wf) (hck : checkOf c = 0) (hv : 0 ≤ v ∧ v < 256) (ha : I64 a) (hb : I64 b) (hd : I64 d) (he : I64 e) :
    Calls Try.prog 43 #[.agg #[.int .i64 c.blocks, .int .i64 c.pages, .int .i64 c.sector, .int .i64 c.user, .int .i64 c.boot, .int .i64 c.rpa, .int .i64 c.group, .int .i64 c.cache, .int .i64 c.spare], .agg #[.int .i64 a, .int .i64 b, .int .i64 d, .int .i64 e], .int .u8 v] w fun x w' => FitsAt c a b d e x ∧ Below w.heap.size w w' := by
  obtain ⟨hok, hneed⟩ := check_zero hck
  have hok' := hok
  obtain ⟨c1, c2, c3, c4, c5, c6, c7, c8, c9, c10, c11, c12, c13, c14, c15, c16, c17, c18, c19, c20, c21, c22⟩ := hok'
  obtain ⟨G, hG⟩ : ∃ G, Hid (c.user / c.group = G) := ⟨_, Lib.hid rfl⟩
  have hG0 : 0 ≤ G := hG.out ▸ Int.ediv_nonneg (by omega) (by omega)
  have hG1 : G ≤ 32 := hG.out ▸ c18
  clear c17 c18
  have hi0 : ∀ w, (Instr.index 34 (.agg #[.int .i64 a, .int .i64 b, .int .i64 d, .int .i64 e]) (.int .i64 0)).run Try.prog w = .ok (.int .i64 a) w := fun w => index_arr 34 3 4 _ .i64 0 _ Try.underlying34 Try.sizeOf3 Try.isAgg3 (by omega) rfl
  have hi1 : ∀ w, (Instr.index 34 (.agg #[.int .i64 a, .int .i64 b, .int .i64 d, .int .i64 e]) (.int .i64 1)).run Try.prog w = .ok (.int .i64 b) w := fun w => index_arr 34 3 4 _ .i64 1 _ Try.underlying34 Try.sizeOf3 Try.isAgg3 (by omega) rfl
  have hi2 : ∀ w, (Instr.index 34 (.agg #[.int .i64 a, .int .i64 b, .int .i64 d, .int .i64 e]) (.int .i64 2)).run Try.prog w = .ok (.int .i64 d) w := fun w => index_arr 34 3 4 _ .i64 2 _ Try.underlying34 Try.sizeOf3 Try.isAgg3 (by omega) rfl
  have hi3 : ∀ w, (Instr.index 34 (.agg #[.int .i64 a, .int .i64 b, .int .i64 d, .int .i64 e]) (.int .i64 3)).run Try.prog w = .ok (.int .i64 e) w := fun w => index_arr 34 3 4 _ .i64 3 _ Try.underlying34 Try.sizeOf3 Try.isAgg3 (by omega) rfl
  obtain ⟨a1, a2⟩ := ha
  obtain ⟨b1, b2⟩ := hb
  obtain ⟨d1, d2⟩ := hd
  obtain ⟨e1, e2⟩ := he
  by_cases hx : bits BinOp.andNot IntKind.u8 v 241 = 0
  · have hxx : (bits BinOp.andNot IntKind.u8 v 241 != 0) = false := by simp [hx]
    by_cases q0 : a < 0
    · go_enter Try.func43, Try.ntmps43
      go_wp2_with fail
      refine (check_any c _ hwf).mono ?_
      rintro x w1 ⟨rfl, hb1⟩
      rw [hck]
      have hB1 : Below w.heap.size w w1 := ((((Below.refl w.heap.size w).alloc (Nat.le_refl _) _).alloc (by simp) _)).trans (hb1.mono (by simp; omega))
      have n1 : HasB w1 w.heap.size #[.int .i64 c.blocks, .int .i64 c.pages, .int .i64 c.sector, .int .i64 c.user, .int .i64 c.boot, .int .i64 c.rpa, .int .i64 c.group, .int .i64 c.cache, .int .i64 c.spare] 23 := ((HasB.new w _ _).alloc _).below hb1 (by simp; omega)
      have n2 : HasB w1 (w.heap.size + 1) #[.int .i64 a, .int .i64 b, .int .i64 d, .int .i64 e] 34 := (HasB.new' (by simp) _ _).below hb1 (by simp)
      obtain ⟨l1, x0, x1, x2, x3, x4, x5, x6, x7, x8⟩ := HasB.nine n1
      obtain ⟨l2, y0, y1, y2, y3⟩ := HasB.four n2
      clear hb1
      go_wp2_with fail
      refine (groups_any c _ hok).mono ?_
      rintro x w2 ⟨rfl, hb2⟩
      rw [hG.out]
      have hB2 := below_call hB1 hb2 hB1.size
      have n3 := n1.below hb2 l1
      have n4 := n2.below hb2 l2
      obtain ⟨l3, u0, u1, u2, u3, u4, u5, u6, u7, u8⟩ := HasB.nine n3
      obtain ⟨l4, v0, v1, v2, v3⟩ := HasB.four n4
      clear x0 x1 x2 x3 x4 x5 x6 x7 x8 y0 y1 y2 y3 hb2
      go_wp2_with fail
      refine wp_loop_rounds 5 ?_
      rw [rounds_succ]
      go_wp2_with fail
      go_ret
      exact ⟨⟨false, rfl, fun h => by cases h⟩, hB2⟩
    by_cases q1 : G ≤ a
    · go_enter Try.func43, Try.ntmps43
      go_wp2_with fail
      refine (check_any c _ hwf).mono ?_
      rintro x w1 ⟨rfl, hb1⟩
      rw [hck]
      have hB1 : Below w.heap.size w w1 := ((((Below.refl w.heap.size w).alloc (Nat.le_refl _) _).alloc (by simp) _)).trans (hb1.mono (by simp; omega))
      have n1 : HasB w1 w.heap.size #[.int .i64 c.blocks, .int .i64 c.pages, .int .i64 c.sector, .int .i64 c.user, .int .i64 c.boot, .int .i64 c.rpa, .int .i64 c.group, .int .i64 c.cache, .int .i64 c.spare] 23 := ((HasB.new w _ _).alloc _).below hb1 (by simp; omega)
      have n2 : HasB w1 (w.heap.size + 1) #[.int .i64 a, .int .i64 b, .int .i64 d, .int .i64 e] 34 := (HasB.new' (by simp) _ _).below hb1 (by simp)
      obtain ⟨l1, x0, x1, x2, x3, x4, x5, x6, x7, x8⟩ := HasB.nine n1
      obtain ⟨l2, y0, y1, y2, y3⟩ := HasB.four n2
      clear hb1
      go_wp2_with fail
      refine (groups_any c _ hok).mono ?_
      rintro x w2 ⟨rfl, hb2⟩
      rw [hG.out]
      have hB2 := below_call hB1 hb2 hB1.size
      have n3 := n1.below hb2 l1
      have n4 := n2.below hb2 l2
      obtain ⟨l3, u0, u1, u2, u3, u4, u5, u6, u7, u8⟩ := HasB.nine n3
      obtain ⟨l4, v0, v1, v2, v3⟩ := HasB.four n4
      clear x0 x1 x2 x3 x4 x5 x6 x7 x8 y0 y1 y2 y3 hb2
      go_wp2_with fail
      refine wp_loop_rounds 5 ?_
      rw [rounds_succ]
      go_wp2_with fail
      go_ret
      exact ⟨⟨false, rfl, fun h => by cases h⟩, hB2⟩
    by_cases q2 : b < 0
    · go_enter Try.func43, Try.ntmps43
      go_wp2_with fail
      refine (check_any c _ hwf).mono ?_
      rintro x w1 ⟨rfl, hb1⟩
      rw [hck]
      have hB1 : Below w.heap.size w w1 := ((((Below.refl w.heap.size w).alloc (Nat.le_refl _) _).alloc (by simp) _)).trans (hb1.mono (by simp; omega))
      have n1 : HasB w1 w.heap.size #[.int .i64 c.blocks, .int .i64 c.pages, .int .i64 c.sector, .int .i64 c.user, .int .i64 c.boot, .int .i64 c.rpa, .int .i64 c.group, .int .i64 c.cache, .int .i64 c.spare] 23 := ((HasB.new w _ _).alloc _).below hb1 (by simp; omega)
      have n2 : HasB w1 (w.heap.size + 1) #[.int .i64 a, .int .i64 b, .int .i64 d, .int .i64 e] 34 := (HasB.new' (by simp) _ _).below hb1 (by simp)
      obtain ⟨l1, x0, x1, x2, x3, x4, x5, x6, x7, x8⟩ := HasB.nine n1
      obtain ⟨l2, y0, y1, y2, y3⟩ := HasB.four n2
      clear hb1
      go_wp2_with fail
      refine (groups_any c _ hok).mono ?_
      rintro x w2 ⟨rfl, hb2⟩
      rw [hG.out]
      have hB2 := below_call hB1 hb2 hB1.size
      have n3 := n1.below hb2 l1
      have n4 := n2.below hb2 l2
      obtain ⟨l3, u0, u1, u2, u3, u4, u5, u6, u7, u8⟩ := HasB.nine n3
      obtain ⟨l4, v0, v1, v2, v3⟩ := HasB.four n4
      clear x0 x1 x2 x3 x4 x5 x6 x7 x8 y0 y1 y2 y3 hb2
      go_wp2_with fail
      refine wp_loop_rounds 5 ?_
      rw [rounds_succ]
      go_wp2_with fail
      rw [rounds_succ]
      go_wp2_with fail
      go_ret
      exact ⟨⟨false, rfl, fun h => by cases h⟩, hB2⟩
    by_cases q3 : G - a ≤ b
    · go_enter Try.func43, Try.ntmps43
      go_wp2_with fail
      refine (check_any c _ hwf).mono ?_
      rintro x w1 ⟨rfl, hb1⟩
      rw [hck]
      have hB1 : Below w.heap.size w w1 := ((((Below.refl w.heap.size w).alloc (Nat.le_refl _) _).alloc (by simp) _)).trans (hb1.mono (by simp; omega))
      have n1 : HasB w1 w.heap.size #[.int .i64 c.blocks, .int .i64 c.pages, .int .i64 c.sector, .int .i64 c.user, .int .i64 c.boot, .int .i64 c.rpa, .int .i64 c.group, .int .i64 c.cache, .int .i64 c.spare] 23 := ((HasB.new w _ _).alloc _).below hb1 (by simp; omega)
      have n2 : HasB w1 (w.heap.size + 1) #[.int .i64 a, .int .i64 b, .int .i64 d, .int .i64 e] 34 := (HasB.new' (by simp) _ _).below hb1 (by simp)
      obtain ⟨l1, x0, x1, x2, x3, x4, x5, x6, x7, x8⟩ := HasB.nine n1
      obtain ⟨l2, y0, y1, y2, y3⟩ := HasB.four n2
      clear hb1
      go_wp2_with fail
      refine (groups_any c _ hok).mono ?_
      rintro x w2 ⟨rfl, hb2⟩
      rw [hG.out]
      have hB2 := below_call hB1 hb2 hB1.size
      have n3 := n1.below hb2 l1
      have n4 := n2.below hb2 l2
      obtain ⟨l3, u0, u1, u2, u3, u4, u5, u6, u7, u8⟩ := HasB.nine n3
      obtain ⟨l4, v0, v1, v2, v3⟩ := HasB.four n4
      clear x0 x1 x2 x3 x4 x5 x6 x7 x8 y0 y1 y2 y3 hb2
      go_wp2_with fail
      refine wp_loop_rounds 5 ?_
      rw [rounds_succ]
      go_wp2_with fail
      rw [rounds_succ]
      go_wp2_with fail
      go_ret
      exact ⟨⟨false, rfl, fun h => by cases h⟩, hB2⟩
    by_cases q4 : d < 0
    · go_enter Try.func43, Try.ntmps43
      go_wp2_with fail
      refine (check_any c _ hwf).mono ?_
      rintro x w1 ⟨rfl, hb1⟩
      rw [hck]
      have hB1 : Below w.heap.size w w1 := ((((Below.refl w.heap.size w).alloc (Nat.le_refl _) _).alloc (by simp) _)).trans (hb1.mono (by simp; omega))
      have n1 : HasB w1 w.heap.size #[.int .i64 c.blocks, .int .i64 c.pages, .int .i64 c.sector, .int .i64 c.user, .int .i64 c.boot, .int .i64 c.rpa, .int .i64 c.group, .int .i64 c.cache, .int .i64 c.spare] 23 := ((HasB.new w _ _).alloc _).below hb1 (by simp; omega)
      have n2 : HasB w1 (w.heap.size + 1) #[.int .i64 a, .int .i64 b, .int .i64 d, .int .i64 e] 34 := (HasB.new' (by simp) _ _).below hb1 (by simp)
      obtain ⟨l1, x0, x1, x2, x3, x4, x5, x6, x7, x8⟩ := HasB.nine n1
      obtain ⟨l2, y0, y1, y2, y3⟩ := HasB.four n2
      clear hb1
      go_wp2_with fail
      refine (groups_any c _ hok).mono ?_
      rintro x w2 ⟨rfl, hb2⟩
      rw [hG.out]
      have hB2 := below_call hB1 hb2 hB1.size
      have n3 := n1.below hb2 l1
      have n4 := n2.below hb2 l2
      obtain ⟨l3, u0, u1, u2, u3, u4, u5, u6, u7, u8⟩ := HasB.nine n3
      obtain ⟨l4, v0, v1, v2, v3⟩ := HasB.four n4
      clear x0 x1 x2 x3 x4 x5 x6 x7 x8 y0 y1 y2 y3 hb2
      go_wp2_with fail
      refine wp_loop_rounds 5 ?_
      rw [rounds_succ]
      go_wp2_with fail
      rw [rounds_succ]
      go_wp2_with fail
      rw [rounds_succ]
      go_wp2_with fail
      go_ret
      exact ⟨⟨false, rfl, fun h => by cases h⟩, hB2⟩
    by_cases q5 : G - a - b ≤ d
    · go_enter Try.func43, Try.ntmps43
      go_wp2_with fail
      refine (check_any c _ hwf).mono ?_
      rintro x w1 ⟨rfl, hb1⟩
      rw [hck]
      have hB1 : Below w.heap.size w w1 := ((((Below.refl w.heap.size w).alloc (Nat.le_refl _) _).alloc (by simp) _)).trans (hb1.mono (by simp; omega))
      have n1 : HasB w1 w.heap.size #[.int .i64 c.blocks, .int .i64 c.pages, .int .i64 c.sector, .int .i64 c.user, .int .i64 c.boot, .int .i64 c.rpa, .int .i64 c.group, .int .i64 c.cache, .int .i64 c.spare] 23 := ((HasB.new w _ _).alloc _).below hb1 (by simp; omega)
      have n2 : HasB w1 (w.heap.size + 1) #[.int .i64 a, .int .i64 b, .int .i64 d, .int .i64 e] 34 := (HasB.new' (by simp) _ _).below hb1 (by simp)
      obtain ⟨l1, x0, x1, x2, x3, x4, x5, x6, x7, x8⟩ := HasB.nine n1
      obtain ⟨l2, y0, y1, y2, y3⟩ := HasB.four n2
      clear hb1
      go_wp2_with fail
      refine (groups_any c _ hok).mono ?_
      rintro x w2 ⟨rfl, hb2⟩
      rw [hG.out]
      have hB2 := below_call hB1 hb2 hB1.size
      have n3 := n1.below hb2 l1
      have n4 := n2.below hb2 l2
      obtain ⟨l3, u0, u1, u2, u3, u4, u5, u6, u7, u8⟩ := HasB.nine n3
      obtain ⟨l4, v0, v1, v2, v3⟩ := HasB.four n4
      clear x0 x1 x2 x3 x4 x5 x6 x7 x8 y0 y1 y2 y3 hb2
      go_wp2_with fail
      refine wp_loop_rounds 5 ?_
      rw [rounds_succ]
      go_wp2_with fail
      rw [rounds_succ]
      go_wp2_with fail
      rw [rounds_succ]
      go_wp2_with fail
      go_ret
      exact ⟨⟨false, rfl, fun h => by cases h⟩, hB2⟩
    by_cases q6 : e < 0
    · go_enter Try.func43, Try.ntmps43
      go_wp2_with fail
      refine (check_any c _ hwf).mono ?_
      rintro x w1 ⟨rfl, hb1⟩
      rw [hck]
      have hB1 : Below w.heap.size w w1 := ((((Below.refl w.heap.size w).alloc (Nat.le_refl _) _).alloc (by simp) _)).trans (hb1.mono (by simp; omega))
      have n1 : HasB w1 w.heap.size #[.int .i64 c.blocks, .int .i64 c.pages, .int .i64 c.sector, .int .i64 c.user, .int .i64 c.boot, .int .i64 c.rpa, .int .i64 c.group, .int .i64 c.cache, .int .i64 c.spare] 23 := ((HasB.new w _ _).alloc _).below hb1 (by simp; omega)
      have n2 : HasB w1 (w.heap.size + 1) #[.int .i64 a, .int .i64 b, .int .i64 d, .int .i64 e] 34 := (HasB.new' (by simp) _ _).below hb1 (by simp)
      obtain ⟨l1, x0, x1, x2, x3, x4, x5, x6, x7, x8⟩ := HasB.nine n1
      obtain ⟨l2, y0, y1, y2, y3⟩ := HasB.four n2
      clear hb1
      go_wp2_with fail
      refine (groups_any c _ hok).mono ?_
      rintro x w2 ⟨rfl, hb2⟩
      rw [hG.out]
      have hB2 := below_call hB1 hb2 hB1.size
      have n3 := n1.below hb2 l1
      have n4 := n2.below hb2 l2
      obtain ⟨l3, u0, u1, u2, u3, u4, u5, u6, u7, u8⟩ := HasB.nine n3
      obtain ⟨l4, v0, v1, v2, v3⟩ := HasB.four n4
      clear x0 x1 x2 x3 x4 x5 x6 x7 x8 y0 y1 y2 y3 hb2
      go_wp2_with fail
      refine wp_loop_rounds 5 ?_
      rw [rounds_succ]
      go_wp2_with fail
      rw [rounds_succ]
      go_wp2_with fail
      rw [rounds_succ]
      go_wp2_with fail
      rw [rounds_succ]
      go_wp2_with fail
      go_ret
      exact ⟨⟨false, rfl, fun h => by cases h⟩, hB2⟩
    by_cases q7 : G - a - b - d ≤ e
    · go_enter Try.func43, Try.ntmps43
      go_wp2_with fail
      refine (check_any c _ hwf).mono ?_
      rintro x w1 ⟨rfl, hb1⟩
      rw [hck]
      have hB1 : Below w.heap.size w w1 := ((((Below.refl w.heap.size w).alloc (Nat.le_refl _) _).alloc (by simp) _)).trans (hb1.mono (by simp; omega))
      have n1 : HasB w1 w.heap.size #[.int .i64 c.blocks, .int .i64 c.pages, .int .i64 c.sector, .int .i64 c.user, .int .i64 c.boot, .int .i64 c.rpa, .int .i64 c.group, .int .i64 c.cache, .int .i64 c.spare] 23 := ((HasB.new w _ _).alloc _).below hb1 (by simp; omega)
      have n2 : HasB w1 (w.heap.size + 1) #[.int .i64 a, .int .i64 b, .int .i64 d, .int .i64 e] 34 := (HasB.new' (by simp) _ _).below hb1 (by simp)
      obtain ⟨l1, x0, x1, x2, x3, x4, x5, x6, x7, x8⟩ := HasB.nine n1
      obtain ⟨l2, y0, y1, y2, y3⟩ := HasB.four n2
      clear hb1
      go_wp2_with fail
      refine (groups_any c _ hok).mono ?_
      rintro x w2 ⟨rfl, hb2⟩
      rw [hG.out]
      have hB2 := below_call hB1 hb2 hB1.size
      have n3 := n1.below hb2 l1
      have n4 := n2.below hb2 l2
      obtain ⟨l3, u0, u1, u2, u3, u4, u5, u6, u7, u8⟩ := HasB.nine n3
      obtain ⟨l4, v0, v1, v2, v3⟩ := HasB.four n4
      clear x0 x1 x2 x3 x4 x5 x6 x7 x8 y0 y1 y2 y3 hb2
      go_wp2_with fail
      refine wp_loop_rounds 5 ?_
      rw [rounds_succ]
      go_wp2_with fail
      rw [rounds_succ]
      go_wp2_with fail
      rw [rounds_succ]
      go_wp2_with fail
      rw [rounds_succ]
      go_wp2_with fail
      go_ret
      exact ⟨⟨false, rfl, fun h => by cases h⟩, hB2⟩
    go_enter Try.func43, Try.ntmps43
    go_wp2_with fail
    refine (check_any c _ hwf).mono ?_
    rintro x w1 ⟨rfl, hb1⟩
    rw [hck]
    have hB1 : Below w.heap.size w w1 := ((((Below.refl w.heap.size w).alloc (Nat.le_refl _) _).alloc (by simp) _)).trans (hb1.mono (by simp; omega))
    have n1 : HasB w1 w.heap.size #[.int .i64 c.blocks, .int .i64 c.pages, .int .i64 c.sector, .int .i64 c.user, .int .i64 c.boot, .int .i64 c.rpa, .int .i64 c.group, .int .i64 c.cache, .int .i64 c.spare] 23 := ((HasB.new w _ _).alloc _).below hb1 (by simp; omega)
    have n2 : HasB w1 (w.heap.size + 1) #[.int .i64 a, .int .i64 b, .int .i64 d, .int .i64 e] 34 := (HasB.new' (by simp) _ _).below hb1 (by simp)
    obtain ⟨l1, x0, x1, x2, x3, x4, x5, x6, x7, x8⟩ := HasB.nine n1
    obtain ⟨l2, y0, y1, y2, y3⟩ := HasB.four n2
    clear hb1
    go_wp2_with fail
    refine (groups_any c _ hok).mono ?_
    rintro x w2 ⟨rfl, hb2⟩
    rw [hG.out]
    have hB2 := below_call hB1 hb2 hB1.size
    have n3 := n1.below hb2 l1
    have n4 := n2.below hb2 l2
    obtain ⟨l3, u0, u1, u2, u3, u4, u5, u6, u7, u8⟩ := HasB.nine n3
    obtain ⟨l4, v0, v1, v2, v3⟩ := HasB.four n4
    clear x0 x1 x2 x3 x4 x5 x6 x7 x8 y0 y1 y2 y3 hb2
    go_wp2_with fail
    refine wp_loop_rounds 5 ?_
    rw [rounds_succ]
    go_wp2_with fail
    rw [rounds_succ]
    go_wp2_with fail
    rw [rounds_succ]
    go_wp2_with fail
    rw [rounds_succ]
    go_wp2_with fail
    rw [rounds_succ]
    go_wp2_with fail
    have hSz : SizesOk c a b d e := by unfold SizesOk; rw [hG.out]; omega
    refine (sizes_any c a b d e _ hok ⟨by omega, by omega⟩ ⟨by omega, by omega⟩ ⟨by omega, by omega⟩ ⟨by omega, by omega⟩).mono ?_
    rintro x w3 ⟨rfl, hb3⟩
    have hB3 := below_call hB2 hb3 hB2.size
    have n5 := n3.below hb3 l3
    obtain ⟨l5, x0, x1, x2, x3, x4, x5, x6, x7, x8⟩ := HasB.nine n5
    have hat := sizesV_at c a b d e
    have hbd := sizesV_bd c a b d e hok ⟨by omega, by omega⟩ ⟨by omega, by omega⟩ ⟨by omega, by omega⟩ ⟨by omega, by omega⟩
    obtain ⟨arr, harr⟩ : ∃ arr, Hid (sizesV c a b d e = arr) := ⟨_, Lib.hid rfl⟩
    rw [harr.out] at hat hbd ⊢
    have HAT := Lib.hid hat
    have HBD := Lib.hid hbd
    clear hat hbd hb3 u0 u1 u2 u3 u4 u5 u6 u7 u8 v0 v1 v2 v3 hi0 hi1 hi2 hi3
    go_wp2_with fail
    go_loop [10, 41] (fun n i => ∃ (k : Nat) (t : Int), k ≤ 8 ∧ i = .int .i64 k ∧ n = .int .i64 t ∧ -(4194304 * (k : Int)) ≤ t ∧ t ≤ 4194304 * k) (fun _ i => 8 - (intOf i).toNat)
    case atStart => exact ⟨0, 0, by omega, rfl, rfl, by omega, by omega⟩
    case round =>
      obtain ⟨k, t, hk, rfl, rfl, ht1, ht2⟩ := hrel
      by_cases hlt : k < 8
      · obtain ⟨z, hz⟩ := HAT.out k hlt
        obtain ⟨z1, z2⟩ := HBD.out k hlt z hz
        have hik : ∀ w, (Instr.index 98 (.agg arr) (.int .i64 (k : Int))).run Try.prog w = .ok (.int .i64 z) w := fun w => index_arr 98 3 8 _ .i64 k _ Try.underlying98 Try.sizeOf3 Try.isAgg3 hlt hz
        go_wp2_with fail
        all_goals
          go_round
          case rel => exact ⟨k + 1, _, by omega, by go_num, rfl, by omega, by omega⟩
          case measure => simp [intOf]; omega
      · obtain rfl : k = 8 := by omega
        go_wp2_with fail
        go_region_with (go_at_call 35; refine (need_any c t _ hok (by unfold I64; omega)).mono ?_; rintro x w4 ⟨rfl, hb4⟩; have hc0 := hb4.cell (p := ⟨w.heap.size, 0, none⟩) l5)
        all_goals
          go_wp2
          go_ret
          exact ⟨⟨_, rfl, fun _ => ⟨hck, hSz⟩⟩, by first | exact (hB3.drew).trans (Below.mono (by assumption) hB3.size) | exact hB3.trans (Below.mono (by assumption) hB3.size) | exact (hB3.drew.drew).trans (Below.mono (by assumption) hB3.size)⟩
  · have hxx : (bits BinOp.andNot IntKind.u8 v 241 != 0) = true := by simp [hx]
    go_enter Try.func43, Try.ntmps43
    go_wp2_with fail
    refine (check_any c _ hwf).mono ?_
    rintro x w1 ⟨rfl, hb1⟩
    rw [hck]
    have hB1 : Below w.heap.size w w1 := ((((Below.refl w.heap.size w).alloc (Nat.le_refl _) _).alloc (by simp) _)).trans (hb1.mono (by simp; omega))
    have n1 : HasB w1 w.heap.size #[.int .i64 c.blocks, .int .i64 c.pages, .int .i64 c.sector, .int .i64 c.user, .int .i64 c.boot, .int .i64 c.rpa, .int .i64 c.group, .int .i64 c.cache, .int .i64 c.spare] 23 := ((HasB.new w _ _).alloc _).below hb1 (by simp; omega)
    have n2 : HasB w1 (w.heap.size + 1) #[.int .i64 a, .int .i64 b, .int .i64 d, .int .i64 e] 34 := (HasB.new' (by simp) _ _).below hb1 (by simp)
    obtain ⟨l1, x0, x1, x2, x3, x4, x5, x6, x7, x8⟩ := HasB.nine n1
    obtain ⟨l2, y0, y1, y2, y3⟩ := HasB.four n2
    clear hb1
    go_wp2_with fail
    go_ret
    exact ⟨⟨false, rfl, fun h => by cases h⟩, hB1⟩

theorem fits_any (c : Cfg) (a b d e : Int) (v : Int) (w : World) (hwf : c.wf) (hv : 0 ≤ v ∧ v < 256) (ha : I64 a) (hb : I64 b) (hd : I64 d) (he : I64 e) :
    Calls Try.prog 43 #[.agg #[.int .i64 c.blocks, .int .i64 c.pages, .int .i64 c.sector, .int .i64 c.user, .int .i64 c.boot, .int .i64 c.rpa, .int .i64 c.group, .int .i64 c.cache, .int .i64 c.spare], .agg #[.int .i64 a, .int .i64 b, .int .i64 d, .int .i64 e], .int .u8 v] w fun x w' => FitsAt c a b d e x ∧ Below w.heap.size w w' := by
  rcases checkOf_two c with h | h
  · exact fits_good c a b d e v w hwf h hv ha hb hd he
  · refine (fits_bad c a b d e v w hwf h).mono ?_
    rintro x w1 ⟨rfl, hb1⟩
    exact ⟨⟨false, rfl, fun h => by cases h⟩, hb1⟩

end Go.Proofs.Ytdbnadhmkfhdkaa
