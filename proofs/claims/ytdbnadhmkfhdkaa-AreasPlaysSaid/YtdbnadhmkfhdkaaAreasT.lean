/- the reference's Sizes. -/
import Derived.Test.YtdbnadhmkfhdkaaGeomH
import Derived.Test.YtdbnadhmkfhdkaaAreasI
import Derived.Test.YtdbnadhmkfhdkaaMut
import Derived.Laws.CopyOwn
namespace Go.Proofs.Ytdbnadhmkfhdkaa
open Go Go.RowKit
set_option linter.unusedVariables false

theorem and14 (v : Int) (h0 : 0 ≤ v) (h1 : v < 256) : bits BinOp.and IntKind.u8 v 14 = bits BinOp.andNot IntKind.u8 v 241 := by
  have key : ∀ n : Fin 256, bits BinOp.and IntKind.u8 (n.val : Int) 14 = bits BinOp.andNot IntKind.u8 (n.val : Int) 241 := by decide +kernel
  have := key ⟨v.toNat, by omega⟩
  rw [show ((v.toNat : Nat) : Int) = v by omega] at this
  exact this
/-- The boxes of Sizes: the shape, the sizes, the result, what is reckoned. -/
structure SzS (c : Cfg) (a b d e : Int) (w0 : World) (g : Nat) (o : Array Value) (w : World) : Prop where
  cf : HasB w g #[.int .i64 c.blocks, .int .i64 c.pages, .int .i64 c.sector, .int .i64 c.user, .int .i64 c.boot, .int .i64 c.rpa, .int .i64 c.group, .int .i64 c.cache, .int .i64 c.spare] 23
  sz : HasB w (g + 1) #[.int .i64 a, .int .i64 b, .int .i64 d, .int .i64 e] 34
  res : HasB w (g + 1 + 1) #[.int .i64 0, .int .i64 0, .int .i64 0, .int .i64 0, .int .i64 0, .int .i64 0, .int .i64 0, .int .i64 0] 98
  out : HasB w (g + 1 + 1 + 1) o 98
  be : Below w0.heap.size w0 w
  lo : w0.heap.size ≤ g
theorem SzS.drew {c : Cfg} {a b d e : Int} {w0 w : World} {g : Nat} {o : Array Value} (h : SzS c a b d e w0 g o w) : SzS c a b d e w0 g o w.drew := ⟨h.cf, h.sz, h.res, h.out, h.be.drew, h.lo⟩
theorem SzS.putn {c : Cfg} {a b d e : Int} {w0 w : World} {g : Nat} {o : Array Value} (h : SzS c a b d e w0 g o w) (k : Nat) (v : Value) : SzS c a b d e w0 g (o.setIfInBounds k v) (w.setCell ⟨g + 1 + 1 + 1, k, none⟩ v) := by
  have l0 := h.lo
  have hg : w.grownBy (w.setCell ⟨g + 1 + 1 + 1, k, none⟩ v) (some (g + 1 + 1 + 1)) := gb_set (gb_refl _ _) _ _
  exact ⟨h.cf.kept hg (by intro e; have := Option.some.inj e; omega), h.sz.kept hg (by intro e; have := Option.some.inj e; omega), h.res.kept hg (by intro e; have := Option.some.inj e; omega), h.out.set k v, below_gb h.be hg h.be.size (by omega), l0⟩
theorem SzS.fin {c : Cfg} {a b d e : Int} {w0 w : World} {g : Nat} {o : Array Value} (h : SzS c a b d e w0 g o w) (R : Array Value) : (w.setRow (g + 1 + 1) R).heap[g + 1 + 1]? = some (.cells R 98 (0, 0)) ∧ Below w0.heap.size w0 (w.setRow (g + 1 + 1) R) :=
  ⟨setRow_heap _ _ _ R 98 (0, 0) h.res, below_setRow h.be (by have := h.lo; omega) R⟩
theorem info_8 : (Try.prog.info? 98).map (·.size) = some 8 := by kernel_rfl
set_option maxRecDepth 100000 in
set_option maxHeartbeats 4000000 in
theorem rsizes_any (c : Cfg) (a b d e : Int) (w : World) (hok : OkC c) (ha : 0 ≤ a ∧ a ≤ 32) (hb : 0 ≤ b ∧ b ≤ 32) (hd : 0 ≤ d ∧ d ≤ 32) (he : 0 ≤ e ∧ e ≤ 32) :
    Calls Try.prog 64 #[.agg #[.int .i64 c.blocks, .int .i64 c.pages, .int .i64 c.sector, .int .i64 c.user, .int .i64 c.boot, .int .i64 c.rpa, .int .i64 c.group, .int .i64 c.cache, .int .i64 c.spare], .agg #[.int .i64 a, .int .i64 b, .int .i64 d, .int .i64 e]] w fun x w' => x = .returned (.agg (sizesV c a b d e)) ∧ Below w.heap.size w w' := by
  obtain ⟨POST, hPOST⟩ : ∃ Q : Ending → World → Prop, Q = fun x w' => x = .returned (.agg (sizesV c a b d e)) ∧ Below w.heap.size w w' := ⟨_, rfl⟩
  rw [← hPOST]
  have HPOST := Lib.hid hPOST
  obtain ⟨c1, c2, c3, c4, c5, c6, c7, c8, c9, c10, c11, c12, c13, c14, c15, c16, c17, c18, c19, c20, c21, c22⟩ := hok
  obtain ⟨m1, m2⟩ := mul_in ha.1 ha.2 c15 (by omega)
  obtain ⟨m3, m4⟩ := mul_in hb.1 hb.2 c15 (by omega)
  obtain ⟨m5, m6⟩ := mul_in hd.1 hd.2 c15 (by omega)
  obtain ⟨m7, m8⟩ := mul_in he.1 he.2 c15 (by omega)
  obtain ⟨W, hW⟩ : ∃ W, W = (((w.alloc (.cells #[.int .i64 c.blocks, .int .i64 c.pages, .int .i64 c.sector, .int .i64 c.user, .int .i64 c.boot, .int .i64 c.rpa, .int .i64 c.group, .int .i64 c.cache, .int .i64 c.spare] 23)).alloc (.cells #[.int .i64 a, .int .i64 b, .int .i64 d, .int .i64 e] 34)).alloc (.cells #[.int .i64 0, .int .i64 0, .int .i64 0, .int .i64 0, .int .i64 0, .int .i64 0, .int .i64 0, .int .i64 0] 98)).alloc (.cells #[.int .i64 0, .int .i64 0, .int .i64 0, .int .i64 0, .int .i64 0, .int .i64 0, .int .i64 0, .int .i64 0] 98) := ⟨_, rfl⟩
  have H0 : Hid (SzS c a b d e w w.heap.size #[.int .i64 0, .int .i64 0, .int .i64 0, .int .i64 0, .int .i64 0, .int .i64 0, .int .i64 0, .int .i64 0] W) := Lib.hid (by
    rw [hW]
    exact ⟨(((HasB.new w _ _).alloc _).alloc _).alloc _, ((HasB.new' (by simp) _ _).alloc _).alloc _, (HasB.new' (by simp) _ _).alloc _, HasB.new' (by simp) _ _, ((((Below.refl _ _).alloc (Nat.le_refl _) _).alloc (by simp) _).alloc (by simp; omega) _).alloc (by simp; omega) _, Nat.le_refl _⟩)
  obtain ⟨P0, hP0⟩ : ∃ P, P = a * c.group := ⟨_, rfl⟩
  have HP0 := Lib.hid hP0
  have r0 : IntKind.i64.wrap (a * c.group) = P0 := by rw [hP0]; exact wr64 _ (by omega) (by omega)
  obtain ⟨P1, hP1⟩ : ∃ P, P = b * c.group := ⟨_, rfl⟩
  have HP1 := Lib.hid hP1
  have r1 : IntKind.i64.wrap (b * c.group) = P1 := by rw [hP1]; exact wr64 _ (by omega) (by omega)
  obtain ⟨P2, hP2⟩ : ∃ P, P = d * c.group := ⟨_, rfl⟩
  have HP2 := Lib.hid hP2
  have r2 : IntKind.i64.wrap (d * c.group) = P2 := by rw [hP2]; exact wr64 _ (by omega) (by omega)
  obtain ⟨P3, hP3⟩ : ∃ P, P = e * c.group := ⟨_, rfl⟩
  have HP3 := Lib.hid hP3
  have r3 : IntKind.i64.wrap (e * c.group) = P3 := by rw [hP3]; exact wr64 _ (by omega) (by omega)
  rw [← hP0] at m1 m2
  rw [← hP1] at m3 m4
  rw [← hP2] at m5 m6
  rw [← hP3] at m7 m8
  have HV : Hid (POST = fun x w' => x = .returned (.agg #[.int .i64 (c.user - P0 - P1 - P2 - P3), .int .i64 c.boot, .int .i64 c.boot, .int .i64 c.rpa, .int .i64 P0, .int .i64 P1, .int .i64 P2, .int .i64 P3]) ∧ Below w.heap.size w w') := Lib.hid (by rw [hPOST, hP0, hP1, hP2, hP3]; rfl)
  clear hP0 hP1 hP2 hP3 HP0 HP1 HP2 HP3 c17 c18 hPOST HPOST
  go_enter Try.func64, Try.ntmps64
  go_wp2_with fail
  rw [← hW]
  obtain ⟨g, hg⟩ : ∃ g, g = w.heap.size := ⟨_, rfl⟩
  rw [← hg] at H0 ⊢
  clear hW hg
  have x3 : W.cell? ⟨g, 3, none⟩ = some (.int .i64 c.user) := H0.out.cf.at 3
  go_wp2_with fail
  clear x3
  refine wp_loop_rounds 5 ?_
  rw [rounds_succ]
  have x6 : W.cell? ⟨g, 6, none⟩ = some (.int .i64 c.group) := H0.out.cf.at 6
  have y0 : W.cell? ⟨g + 1, 0, none⟩ = some (.int .i64 a) := H0.out.sz.at 0
  have z0 : W.cell? ⟨g + 1 + 1 + 1, 4, none⟩ = some (.int .i64 0) := H0.out.out.at 4
  have z1 : W.frozen? ⟨g + 1 + 1 + 1, 4, none⟩ = false := H0.out.out.free 4
  have i0 : IntKind.i64.wrap 4 = 4 := by decide
  go_wp2_with fail
  go_still_tail 9, (by kernel_rfl)
  change wpList _ _ _ _ _ W.drew
  go_wp2_with fail
  have H1 : Hid (SzS c a b d e w g #[.int .i64 0, .int .i64 0, .int .i64 0, .int .i64 0, .int .i64 P0, .int .i64 0, .int .i64 0, .int .i64 0] (W.setCell ⟨g + 1 + 1 + 1, 4, none⟩ (.int .i64 P0)).drew) := Lib.hid ((H0.out.putn 4 (.int .i64 P0)).drew)
  generalize (W.setCell ⟨g + 1 + 1 + 1, 4, none⟩ (.int .i64 P0)).drew = W1 at H1 ⊢
  clear x6 y0 z0 z1 i0 H0
  have q0 : W1.cell? ⟨g + 1 + 1 + 1, 4, none⟩ = some (.int .i64 P0) := H1.out.out.at 4
  go_wp2_with fail
  clear q0
  rw [rounds_succ]
  have x6 : W1.cell? ⟨g, 6, none⟩ = some (.int .i64 c.group) := H1.out.cf.at 6
  have y0 : W1.cell? ⟨g + 1, 1, none⟩ = some (.int .i64 b) := H1.out.sz.at 1
  have z0 : W1.cell? ⟨g + 1 + 1 + 1, 5, none⟩ = some (.int .i64 0) := H1.out.out.at 5
  have z1 : W1.frozen? ⟨g + 1 + 1 + 1, 5, none⟩ = false := H1.out.out.free 5
  have i0 : IntKind.i64.wrap 5 = 5 := by decide
  go_wp2_with fail
  go_still_tail 9, (by kernel_rfl)
  change wpList _ _ _ _ _ W1.drew
  go_wp2_with fail
  have H2 : Hid (SzS c a b d e w g #[.int .i64 0, .int .i64 0, .int .i64 0, .int .i64 0, .int .i64 P0, .int .i64 P1, .int .i64 0, .int .i64 0] (W1.setCell ⟨g + 1 + 1 + 1, 5, none⟩ (.int .i64 P1)).drew) := Lib.hid ((H1.out.putn 5 (.int .i64 P1)).drew)
  generalize (W1.setCell ⟨g + 1 + 1 + 1, 5, none⟩ (.int .i64 P1)).drew = W2 at H2 ⊢
  clear x6 y0 z0 z1 i0 H1
  have q0 : W2.cell? ⟨g + 1 + 1 + 1, 5, none⟩ = some (.int .i64 P1) := H2.out.out.at 5
  go_wp2_with fail
  clear q0
  rw [rounds_succ]
  have x6 : W2.cell? ⟨g, 6, none⟩ = some (.int .i64 c.group) := H2.out.cf.at 6
  have y0 : W2.cell? ⟨g + 1, 2, none⟩ = some (.int .i64 d) := H2.out.sz.at 2
  have z0 : W2.cell? ⟨g + 1 + 1 + 1, 6, none⟩ = some (.int .i64 0) := H2.out.out.at 6
  have z1 : W2.frozen? ⟨g + 1 + 1 + 1, 6, none⟩ = false := H2.out.out.free 6
  have i0 : IntKind.i64.wrap 6 = 6 := by decide
  go_wp2_with fail
  go_still_tail 9, (by kernel_rfl)
  change wpList _ _ _ _ _ W2.drew
  go_wp2_with fail
  have H3 : Hid (SzS c a b d e w g #[.int .i64 0, .int .i64 0, .int .i64 0, .int .i64 0, .int .i64 P0, .int .i64 P1, .int .i64 P2, .int .i64 0] (W2.setCell ⟨g + 1 + 1 + 1, 6, none⟩ (.int .i64 P2)).drew) := Lib.hid ((H2.out.putn 6 (.int .i64 P2)).drew)
  generalize (W2.setCell ⟨g + 1 + 1 + 1, 6, none⟩ (.int .i64 P2)).drew = W3 at H3 ⊢
  clear x6 y0 z0 z1 i0 H2
  have q0 : W3.cell? ⟨g + 1 + 1 + 1, 6, none⟩ = some (.int .i64 P2) := H3.out.out.at 6
  go_wp2_with fail
  clear q0
  rw [rounds_succ]
  have x6 : W3.cell? ⟨g, 6, none⟩ = some (.int .i64 c.group) := H3.out.cf.at 6
  have y0 : W3.cell? ⟨g + 1, 3, none⟩ = some (.int .i64 e) := H3.out.sz.at 3
  have z0 : W3.cell? ⟨g + 1 + 1 + 1, 7, none⟩ = some (.int .i64 0) := H3.out.out.at 7
  have z1 : W3.frozen? ⟨g + 1 + 1 + 1, 7, none⟩ = false := H3.out.out.free 7
  have i0 : IntKind.i64.wrap 7 = 7 := by decide
  go_wp2_with fail
  go_still_tail 9, (by kernel_rfl)
  change wpList _ _ _ _ _ W3.drew
  go_wp2_with fail
  have H4 : Hid (SzS c a b d e w g #[.int .i64 0, .int .i64 0, .int .i64 0, .int .i64 0, .int .i64 P0, .int .i64 P1, .int .i64 P2, .int .i64 P3] (W3.setCell ⟨g + 1 + 1 + 1, 7, none⟩ (.int .i64 P3)).drew) := Lib.hid ((H3.out.putn 7 (.int .i64 P3)).drew)
  generalize (W3.setCell ⟨g + 1 + 1 + 1, 7, none⟩ (.int .i64 P3)).drew = W4 at H4 ⊢
  clear x6 y0 z0 z1 i0 H3
  have q0 : W4.cell? ⟨g + 1 + 1 + 1, 7, none⟩ = some (.int .i64 P3) := H4.out.out.at 7
  go_wp2_with fail
  clear q0
  rw [rounds_succ]
  have x4 : W4.cell? ⟨g, 4, none⟩ = some (.int .i64 c.boot) := H4.out.cf.at 4
  have x5 : W4.cell? ⟨g, 5, none⟩ = some (.int .i64 c.rpa) := H4.out.cf.at 5
  have z0 : W4.cell? ⟨g + 1 + 1 + 1, 0, none⟩ = some (.int .i64 0) := H4.out.out.at 0
  have f0 : W4.frozen? ⟨g + 1 + 1 + 1, 0, none⟩ = false := H4.out.out.free 0
  have z1 : W4.cell? ⟨g + 1 + 1 + 1, 1, none⟩ = some (.int .i64 0) := H4.out.out.at 1
  have f1 : W4.frozen? ⟨g + 1 + 1 + 1, 1, none⟩ = false := H4.out.out.free 1
  have z2 : W4.cell? ⟨g + 1 + 1 + 1, 2, none⟩ = some (.int .i64 0) := H4.out.out.at 2
  have f2 : W4.frozen? ⟨g + 1 + 1 + 1, 2, none⟩ = false := H4.out.out.free 2
  have z3 : W4.cell? ⟨g + 1 + 1 + 1, 3, none⟩ = some (.int .i64 0) := H4.out.out.at 3
  have f3 : W4.frozen? ⟨g + 1 + 1 + 1, 3, none⟩ = false := H4.out.out.free 3
  obtain ⟨R, hR⟩ : ∃ R : Array Value, R = #[.int .i64 (c.user - P0 - P1 - P2 - P3), .int .i64 c.boot, .int .i64 c.boot, .int .i64 c.rpa, .int .i64 P0, .int .i64 P1, .int .i64 P2, .int .i64 P3] := ⟨_, rfl⟩
  have H5 := ((((H4.out.putn 0 (.int .i64 (c.user - P0 - P1 - P2 - P3))).putn 1 (.int .i64 c.boot)).putn 2 (.int .i64 c.boot)).putn 3 (.int .i64 c.rpa))
  obtain ⟨w5, hw5⟩ : ∃ w5, w5 = (((W4.setCell ⟨g + 1 + 1 + 1, 0, none⟩ (.int .i64 (c.user - P0 - P1 - P2 - P3))).setCell ⟨g + 1 + 1 + 1, 1, none⟩ (.int .i64 c.boot)).setCell ⟨g + 1 + 1 + 1, 2, none⟩ (.int .i64 c.boot)).setCell ⟨g + 1 + 1 + 1, 3, none⟩ (.int .i64 c.rpa) := ⟨_, rfl⟩
  rw [← hw5] at H5
  have H6 : Hid (SzS c a b d e w g R w5) := Lib.hid (by rw [hR]; exact H5)
  rw [← hR] at HV
  have HRs : Hid ((Try.prog.info? 98).map (·.size) = some R.size) := Lib.hid (by rw [hR]; exact info_8)
  have HRo : Hid ((#[.int .i64 0, .int .i64 0, .int .i64 0, .int .i64 0, .int .i64 0, .int .i64 0, .int .i64 0, .int .i64 0] : Array Value).size = R.size) := Lib.hid (by rw [hR]; rfl)
  have HR1 : Hid (R.all (·.oneCell') = true) := Lib.hid (by rw [hR]; apply all_oneCell_toArray; intro v hv; simp at hv; rcases hv with rfl | rfl | rfl | rfl | rfl | rfl | rfl <;> rfl)
  have HW5 := Lib.hid hw5
  clear hR H5 hw5 H4
  have HQ1 : Hid (w5.heap[g + 1 + 1 + 1]? = some (.cells R 98 (0, 0))) := Lib.hid H6.out.out
  have HQ2 : Hid (w5.heap[g + 1 + 1]? = some (.cells #[.int .i64 0, .int .i64 0, .int .i64 0, .int .i64 0, .int .i64 0, .int .i64 0, .int .i64 0, .int .i64 0] 98 (0, 0))) := Lib.hid H6.out.res
  have HFi := Lib.hid (H6.out.fin R)
  rw [HW5.out] at HQ1 HQ2 HFi
  go_wp2_with (first | (with_reducible refine wpList_load_row rfl 98 (.tmp 5) rfl (g + 1 + 1 + 1) rfl 98 R (0, 0) _ HQ1.out Try.underlying98 rfl HRs.out ?_) | (with_reducible refine wpList_store_row rfl 98 (.tmp 4) (.tmp 40) rfl (g + 1 + 1) R rfl rfl 98 _ HQ2.out HRs.out HRo.out HR1.out ?_))
  rw [HV.out]
  exact bodyPost_ret (results_cell_row (p := 4) (by kernel_rfl) _ _ (g + 1 + 1) 98 R (0, 0) _ rfl HFi.out.1 Try.underlying98 rfl HRs.out) rfl ⟨rfl, HFi.out.2⟩
end Go.Proofs.Ytdbnadhmkfhdkaa
