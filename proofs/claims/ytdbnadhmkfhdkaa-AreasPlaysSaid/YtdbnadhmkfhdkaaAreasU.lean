/- the reference's Fits. -/
import Derived.Test.YtdbnadhmkfhdkaaAreasS
import Derived.Test.YtdbnadhmkfhdkaaAreasT
import Derived.Deep.WholeRow
namespace Go.Proofs.Ytdbnadhmkfhdkaa
open Go Go.RowKit
set_option linter.unusedVariables false

theorem rgroups_any (c : Cfg) (w : World) (hok : OkC c) :
    Calls Try.prog 63 #[.agg #[.int .i64 c.blocks, .int .i64 c.pages, .int .i64 c.sector, .int .i64 c.user, .int .i64 c.boot, .int .i64 c.rpa, .int .i64 c.group, .int .i64 c.cache, .int .i64 c.spare]] w fun x w' => x = .returned (.int .i64 (c.user / c.group)) ∧ Below w.heap.size w w' := by
  obtain ⟨c1, c2, c3, c4, c5, c6, c7, c8, c9, c10, c11, c12, c13, c14, c15, c16, c17, c18, c19, c20, c21, c22⟩ := hok
  have d0 : 0 ≤ c.user / c.group := Int.ediv_nonneg (by omega) (by omega)
  have d1 : c.user.tdiv c.group = c.user / c.group := Int.tdiv_eq_ediv_of_nonneg (by omega)
  have g0 : ¬ c.group = 0 := by omega
  have HB : Hid (∀ A, Below w.heap.size w (w.alloc A)) := Lib.hid (fun A => (Below.refl _ _).alloc (Nat.le_refl _) A)
  go_enter Try.func63, Try.ntmps63
  go_wp2_with fail
  go_ret
  exact ⟨rfl, HB.out _⟩

set_option maxRecDepth 100000 in
set_option maxHeartbeats 16000000 in
theorem rfits_any (c : Cfg) (a b d e v : Int) (w : World) (hv : 0 ≤ v ∧ v < 256) :
    Calls Try.prog 48 #[.agg #[.int .i64 c.blocks, .int .i64 c.pages, .int .i64 c.sector, .int .i64 c.user, .int .i64 c.boot, .int .i64 c.rpa, .int .i64 c.group, .int .i64 c.cache, .int .i64 c.spare], .agg #[.int .i64 a, .int .i64 b, .int .i64 d, .int .i64 e], .int .u8 v] w fun x w' => x = .returned (.bool (fitsOf c a b d e v)) ∧ Below w.heap.size w w' := by
  obtain ⟨POST, hPOST⟩ : ∃ Q : Ending → World → Prop, Q = fun x w' => x = .returned (.bool (fitsOf c a b d e v)) ∧ Below w.heap.size w w' := ⟨_, rfl⟩
  rw [← hPOST]
  have HPOST := Lib.hid hPOST
  clear hPOST
  have HF : Hid (∀ w', ¬ (checkOf c = 0 ∧ bits BinOp.andNot IntKind.u8 v 241 = 0 ∧ SizesOk c a b d e ∧ needOf c (enhTo (sizesV c a b d e) v 8) ≤ c.blocks) → Below w.heap.size w w' → POST (.returned (.bool false)) w') := Lib.hid (fun w' h hb => by rw [HPOST.out, fits_no h]; exact ⟨rfl, hb⟩)
  have HAn := Lib.hid (and14 v hv.1 hv.2)
  have n0 := HasB.new w #[.int .i64 c.blocks, .int .i64 c.pages, .int .i64 c.sector, .int .i64 c.user, .int .i64 c.boot, .int .i64 c.rpa, .int .i64 c.group, .int .i64 c.cache, .int .i64 c.spare] 23
  obtain ⟨wa, hwa⟩ : ∃ wa, (w.alloc (.cells #[.int .i64 c.blocks, .int .i64 c.pages, .int .i64 c.sector, .int .i64 c.user, .int .i64 c.boot, .int .i64 c.rpa, .int .i64 c.group, .int .i64 c.cache, .int .i64 c.spare] 23)).alloc (.cells #[.int .i64 a, .int .i64 b, .int .i64 d, .int .i64 e] 34) = wa := ⟨_, rfl⟩
  have n1 : HasB wa w.heap.size #[.int .i64 c.blocks, .int .i64 c.pages, .int .i64 c.sector, .int .i64 c.user, .int .i64 c.boot, .int .i64 c.rpa, .int .i64 c.group, .int .i64 c.cache, .int .i64 c.spare] 23 := by rw [← hwa]; exact n0.alloc _
  have n2 : HasB wa (w.heap.size + 1) #[.int .i64 a, .int .i64 b, .int .i64 d, .int .i64 e] 34 := by rw [← hwa]; exact HasB.new' (by simp) _ _
  have hb1 : Below w.heap.size w wa := by rw [← hwa]; exact ((Below.refl _ _).alloc (Nat.le_refl _) _).alloc (by simp) _
  have HN := Lib.hid (fun (w' : World) (hb : Below wa.heap.size wa w') => And.intro (n1.below hb n1.lt).nine (n2.below hb n2.lt))
  have HBa := Lib.hid hb1
  obtain ⟨l0, x0, x1, x2, x3, x4, x5, x6, x7, x8⟩ := HasB.nine n1
  have HNb := Lib.hid n1
  clear n0 n1 n2 hb1
  rcases checkOf_two c with hck | hck
  rotate_left
  · go_enter Try.func48, Try.ntmps48
    go_wp2_with fail
    clear hwa
    refine (rcheck_any c _).mono ?_
    rintro e wm ⟨rfl, hbm⟩
    rw [hck]
    have HBm := Lib.hid hbm
    clear hbm
    clear x0 x1 x2 x3 x4 x5 x6 x7 x8 l0
    go_wp2_with fail
    exact HF.out _ (fun k => by rw [hck] at k; cases k.1) (HBa.out.trans (HBm.out.mono HBa.out.size))
  obtain ⟨hok, hneed⟩ := check_zero hck
  by_cases hx : bits BinOp.andNot IntKind.u8 v 241 = 0
  rotate_left
  · have hxx : (bits BinOp.and IntKind.u8 v 14 != 0) = true := by rw [HAn.out]; simp [hx]
    go_enter Try.func48, Try.ntmps48
    go_wp2_with fail
    clear hwa
    refine (rcheck_any c _).mono ?_
    rintro e wm ⟨rfl, hbm⟩
    rw [hck]
    have HBm := Lib.hid hbm
    clear hbm
    clear x0 x1 x2 x3 x4 x5 x6 x7 x8 l0
    go_wp2_with fail
    exact HF.out _ (fun k => hx k.2.1) (HBa.out.trans (HBm.out.mono HBa.out.size))
  have hxx : (bits BinOp.and IntKind.u8 v 14 != 0) = false := by rw [HAn.out]; simp [hx]
  go_enter Try.func48, Try.ntmps48
  go_wp2_with fail
  clear hwa
  refine (rcheck_any c _).mono ?_
  rintro e wm ⟨rfl, hbm⟩
  rw [hck]
  have HBm := Lib.hid hbm
  clear hbm
  clear x0 x1 x2 x3 x4 x5 x6 x7 x8 l0
  have HB1 := Lib.hid (HBa.out.trans (HBm.out.mono HBa.out.size))
  have hall := HN.out _ HBm.out
  obtain ⟨y0, y1, y2, y3⟩ := (HasB.four hall.2).2
  obtain ⟨z0, z1, z2, z3, z4, z5, z6, z7, z8⟩ := hall.1.2
  have HX : Hid (bits BinOp.andNot IntKind.u8 v 241 = 0) := Lib.hid hx
  have H1 : Hid (HasB wm w.heap.size #[.int .i64 c.blocks, .int .i64 c.pages, .int .i64 c.sector, .int .i64 c.user, .int .i64 c.boot, .int .i64 c.rpa, .int .i64 c.group, .int .i64 c.cache, .int .i64 c.spare] 23 ∧ HasB wm (w.heap.size + 1) #[.int .i64 a, .int .i64 b, .int .i64 d, .int .i64 e] 34) := Lib.hid ⟨(HNb.out.below HBm.out HNb.out.lt), hall.2⟩
  have hok2 := hok
  obtain ⟨c1, c2, c3, c4, c5, c6, c7, c8, c9, c10, c11, c12, c13, c14, c15, c16, c17, c18, c19, c20, c21, c22⟩ := hok2
  obtain ⟨G, hG⟩ : ∃ G, Hid (c.user / c.group = G) := ⟨_, Lib.hid rfl⟩
  have hG0 : 0 ≤ G := hG.out ▸ Int.ediv_nonneg (by omega) (by omega)
  have hG1 : G ≤ 32 := hG.out ▸ c18
  clear c17 c18 hall hx HBm HBa HN
  go_wp2_with fail
  refine wp_loop_rounds 5 ?_
  rw [rounds_succ]
  by_cases q0 : a < 0
  · go_wp2_with fail
    exact HF.out _ (fun k => by have := k.2.2.1; unfold SizesOk at this; rw [hG.out] at this; omega) HB1.out
  by_cases p0 : 32 < a
  · go_wp2_with fail
    exact HF.out _ (fun k => by have := k.2.2.1; unfold SizesOk at this; rw [hG.out] at this; omega) HB1.out
  go_wp2_with fail
  rw [rounds_succ]
  by_cases q1 : b < 0
  · go_wp2_with fail
    exact HF.out _ (fun k => by have := k.2.2.1; unfold SizesOk at this; rw [hG.out] at this; omega) HB1.out
  by_cases p1 : 32 < b
  · go_wp2_with fail
    exact HF.out _ (fun k => by have := k.2.2.1; unfold SizesOk at this; rw [hG.out] at this; omega) HB1.out
  go_wp2_with fail
  rw [rounds_succ]
  by_cases q2 : d < 0
  · go_wp2_with fail
    exact HF.out _ (fun k => by have := k.2.2.1; unfold SizesOk at this; rw [hG.out] at this; omega) HB1.out
  by_cases p2 : 32 < d
  · go_wp2_with fail
    exact HF.out _ (fun k => by have := k.2.2.1; unfold SizesOk at this; rw [hG.out] at this; omega) HB1.out
  go_wp2_with fail
  rw [rounds_succ]
  by_cases q3 : e < 0
  · go_wp2_with fail
    exact HF.out _ (fun k => by have := k.2.2.1; unfold SizesOk at this; rw [hG.out] at this; omega) HB1.out
  by_cases p3 : 32 < e
  · go_wp2_with fail
    exact HF.out _ (fun k => by have := k.2.2.1; unfold SizesOk at this; rw [hG.out] at this; omega) HB1.out
  go_wp2_with fail
  rw [rounds_succ]
  go_wp2_with fail
  clear y0 y1 y2 y3 z0 z1 z2 z3 z4 z5 z6 z7 z8
  obtain ⟨w1, hw1⟩ : ∃ w1, wm = w1 := ⟨_, rfl⟩
  rw [hw1]
  have H2 : Hid (HasB w1 w.heap.size #[.int .i64 c.blocks, .int .i64 c.pages, .int .i64 c.sector, .int .i64 c.user, .int .i64 c.boot, .int .i64 c.rpa, .int .i64 c.group, .int .i64 c.cache, .int .i64 c.spare] 23 ∧ HasB w1 (w.heap.size + 1) #[.int .i64 a, .int .i64 b, .int .i64 d, .int .i64 e] 34) := Lib.hid (by rw [← hw1]; exact H1.out)
  have HB2 : Hid (Below w.heap.size w w1) := Lib.hid (by rw [← hw1]; exact HB1.out)
  clear hw1 H1 HB1
  refine (rgroups_any c _ hok).mono ?_
  rintro x w2 ⟨rfl, hb2⟩
  rw [hG.out]
  have HB3 := Lib.hid (below_call HB2.out hb2 HB2.out.size)
  have n3 := H2.out.1.below hb2 H2.out.1.lt
  have n4 := H2.out.2.below hb2 H2.out.2.lt
  obtain ⟨l3, u0, u1, u2, u3, u4, u5, u6, u7, u8⟩ := HasB.nine n3
  obtain ⟨l4, v0, v1, v2, v3⟩ := HasB.four n4
  clear hb2 H2 HB2
  by_cases q7 : G ≤ a + b + d + e
  · go_wp2_with fail
    exact HF.out _ (fun k => by have := k.2.2.1; unfold SizesOk at this; rw [hG.out] at this; omega) HB3.out
  have hSz : SizesOk c a b d e := by unfold SizesOk; rw [hG.out]; omega
  go_wp2_with fail
  refine (rsizes_any c a b d e _ hok ⟨by omega, by omega⟩ ⟨by omega, by omega⟩ ⟨by omega, by omega⟩ ⟨by omega, by omega⟩).mono ?_
  rintro x w3 ⟨rfl, hb3⟩
  have HB4 := Lib.hid (below_call HB3.out hb3 HB3.out.size)
  have N5 := Lib.hid (n3.below hb3 l3)
  have hat := sizesV_at c a b d e
  have hbd := sizesV_bd c a b d e hok ⟨by omega, by omega⟩ ⟨by omega, by omega⟩ ⟨by omega, by omega⟩ ⟨by omega, by omega⟩
  obtain ⟨arr, harr⟩ : ∃ arr, Hid (sizesV c a b d e = arr) := ⟨_, Lib.hid rfl⟩
  have hsz8 : arr.size = 8 := by rw [← harr.out]; rfl
  have HO1 : Hid (arr.all (·.oneCell') = true) := Lib.hid (by rw [← harr.out]; unfold sizesV; apply all_oneCell_toArray; intro v hv; simp at hv; rcases hv with rfl | rfl | rfl | rfl | rfl | rfl | rfl <;> rfl)
  have HIa : Hid ((Try.prog.info? 98).map (·.size) = some arr.size) := Lib.hid (by rw [hsz8]; exact info_8)
  have HOa : Hid ((#[.int .i64 0, .int .i64 0, .int .i64 0, .int .i64 0, .int .i64 0, .int .i64 0, .int .i64 0, .int .i64 0] : Array Value).size = arr.size) := Lib.hid (by rw [hsz8]; rfl)
  rw [harr.out] at hat hbd ⊢
  have HAT := Lib.hid hat
  have HBD := Lib.hid hbd
  have HSz := Lib.hid hSz
  have HNd := Lib.hid hneed
  clear hat hbd hb3 u0 u1 u2 u3 u4 u5 u6 u7 u8 v0 v1 v2 v3 n3 n4 l3 l4 hsz8 hSz hneed HB3
  go_wp2_with (with_reducible refine wpList_store_row rfl 98 (.tmp 9) (.tmp 45) rfl w3.heap.size arr rfl rfl 98 _ (heap_alloc_new w3 _) HIa.out HOa.out HO1.out ?_; rw [World.setRow_alloc_new]; refine Stop.mk ?_)
  refine Stop.go ?_
  have H5 : Hid (HasB (w3.alloc (.cells arr 98)) w.heap.size #[.int .i64 c.blocks, .int .i64 c.pages, .int .i64 c.sector, .int .i64 c.user, .int .i64 c.boot, .int .i64 c.rpa, .int .i64 c.group, .int .i64 c.cache, .int .i64 c.spare] 23 ∧ HasB (w3.alloc (.cells arr 98)) w3.heap.size arr 98 ∧ Below w.heap.size w (w3.alloc (.cells arr 98))) := Lib.hid ⟨N5.out.alloc _, HasB.new _ _ _, HB4.out.alloc HB4.out.size _⟩
  generalize w3.alloc (.cells arr 98) = w4 at H5 ⊢
  obtain ⟨g9, hg9⟩ : ∃ g9, g9 = w3.heap.size := ⟨_, rfl⟩
  rw [← hg9] at H5 ⊢
  clear hg9 N5 HB4 HIa HOa HO1
  go_wp2_with fail
  go_loopw [10, 11] (fun n i wr => ∃ (k : Nat) (t : Int), k ≤ 8 ∧ i = .int .i64 k ∧ n = .int .i64 t ∧ Hid (wr = w4) ∧ -(4194304 * (k : Int)) ≤ t ∧ t ≤ 4194304 * k ∧ Hid (t = enhTo arr v k)) (fun _ i _ => 8 - (intOf i).toNat)
  case atStart => exact ⟨0, 0, by omega, rfl, rfl, Lib.hid rfl, by omega, by omega, Lib.hid rfl⟩
  case round =>
    obtain ⟨k, t, hk, rfl, rfl, hwe, ht1, ht2, HT⟩ := hrel
    obtain rfl := hwe.out
    clear hwe
    by_cases hlt : k < 8
    · have t0 : (k : Int) < 8 := by omega
      have t1 : (0 : Int) ≤ (k : Int) := by omega
      obtain ⟨z, hz⟩ := HAT.out k hlt
      obtain ⟨z1, z2⟩ := HBD.out k hlt z hz
      have hc : wr.cell? ⟨g9, k, none⟩ = some (.int .i64 z) := (H5.out.2.1.at k).trans hz
      go_wp2_with fail
      all_goals
        go_roundw
        case rel => exact ⟨k + 1, _, by omega, by go_num, rfl, Lib.hid (by first | rfl | trivial), by omega, by omega, by first | exact Lib.hid (by rw [enhTo, if_pos (by assumption), ← HT.out, hz]; rfl) | exact Lib.hid (by rw [enhTo, if_neg (fun h => by rename_i hq; rw [hq] at h; cases h), ← HT.out]; omega)⟩
        case measure => simp [intOf]; omega
    · obtain rfl : k = 8 := by omega
      have HEq : Hid (fitsOf c a b d e v = decide (needOf c t ≤ c.blocks)) := Lib.hid (by unfold fitsOf; rw [harr.out, ← HT.out]; exact decide_eq_decide.2 ⟨fun k => k.2.2.2, fun k => ⟨hck, HX.out, HSz.out, k⟩⟩)
      have HNx := Lib.hid (fun (w' : World) (hb : Below wr.heap.size wr w') => (H5.out.1.below hb H5.out.1.lt).nine)
      have x0 : ∀ w', Below wr.heap.size wr w' → w'.cell? ⟨w.heap.size, 0, none⟩ = some (.int .i64 c.blocks) := fun w' hb => (HNx.out w' hb).2.1
      have x1 : ∀ w', Below wr.heap.size wr w' → w'.cell? ⟨w.heap.size, 1, none⟩ = some (.int .i64 c.pages) := fun w' hb => (HNx.out w' hb).2.2.1
      have x2 : ∀ w', Below wr.heap.size wr w' → w'.cell? ⟨w.heap.size, 2, none⟩ = some (.int .i64 c.sector) := fun w' hb => (HNx.out w' hb).2.2.2.1
      have x3 : ∀ w', Below wr.heap.size wr w' → w'.cell? ⟨w.heap.size, 3, none⟩ = some (.int .i64 c.user) := fun w' hb => (HNx.out w' hb).2.2.2.2.1
      have x4 : ∀ w', Below wr.heap.size wr w' → w'.cell? ⟨w.heap.size, 4, none⟩ = some (.int .i64 c.boot) := fun w' hb => (HNx.out w' hb).2.2.2.2.2.1
      have x5 : ∀ w', Below wr.heap.size wr w' → w'.cell? ⟨w.heap.size, 5, none⟩ = some (.int .i64 c.rpa) := fun w' hb => (HNx.out w' hb).2.2.2.2.2.2.1
      have x6 : ∀ w', Below wr.heap.size wr w' → w'.cell? ⟨w.heap.size, 6, none⟩ = some (.int .i64 c.group) := fun w' hb => (HNx.out w' hb).2.2.2.2.2.2.2.1
      have x7 : ∀ w', Below wr.heap.size wr w' → w'.cell? ⟨w.heap.size, 7, none⟩ = some (.int .i64 c.cache) := fun w' hb => (HNx.out w' hb).2.2.2.2.2.2.2.2.1
      have x8 : ∀ w', Below wr.heap.size wr w' → w'.cell? ⟨w.heap.size, 8, none⟩ = some (.int .i64 c.spare) := fun w' hb => (HNx.out w' hb).2.2.2.2.2.2.2.2.2
      have t0 : ¬ ((8 : Nat) : Int) < 8 := by omega
      obtain ⟨ND, hND⟩ : ∃ ND, ND = needOf c t := ⟨_, rfl⟩
      have HND := Lib.hid hND
      rw [← hND] at HEq
      have hti : I64 t := by unfold I64; omega
      clear hND HT ht1 ht2
      go_wp2_with fail
      refine wp_region_held_drew (S := (fun w' => Below wr.heap.size wr w')) (by kernel_rfl) ((Below.refl _ _).drew) (fun hHeld => ?_)
      refine held_take 0 (v := ?_) rfl (by kernel_rfl) (by kernel_rfl) (by kernel_rfl) (fun _ _ _ h => h) (by rfl) (fun w hS => ?_) (by assumption) ?_
      rotate_left
      · try dsimp only at hS
        go_simp <;> with_reducible rfl
      try simp only [Act.put, List.setIfInBounds_toArray, List.set_cons_zero, List.set_cons_succ]
      refine held_take 1 (v := ?_) rfl (by kernel_rfl) (by kernel_rfl) (by kernel_rfl) (fun _ _ _ h => h) (by rfl) (fun w hS => ?_) (by assumption) ?_
      rotate_left
      · try dsimp only at hS
        go_simp <;> with_reducible rfl
      try simp only [Act.put, List.setIfInBounds_toArray, List.set_cons_zero, List.set_cons_succ]
      refine held_take 3 (v := ?_) rfl (by kernel_rfl) (by kernel_rfl) (by kernel_rfl) (fun _ _ _ h => h) (by rfl) (fun w hS => ?_) (by assumption) ?_
      rotate_left
      · try dsimp only at hS
        go_simp <;> with_reducible rfl
      try simp only [Act.put, List.setIfInBounds_toArray, List.set_cons_zero, List.set_cons_succ]
      refine held_take 4 (v := ?_) rfl (by kernel_rfl) (by kernel_rfl) (by kernel_rfl) (fun _ _ _ h => h) (by rfl) (fun w hS => ?_) (by assumption) ?_
      rotate_left
      · try dsimp only at hS
        go_simp <;> with_reducible rfl
      try simp only [Act.put, List.setIfInBounds_toArray, List.set_cons_zero, List.set_cons_succ]
      refine held_one 2 rfl (by kernel_rfl) (fun K hK => ?_)
      go_simp
      refine Calls.mono (rneed_any c t _ hok hti) ?_
      rintro e wn ⟨rfl, hbm⟩
      rw [← HND.out]
      have hbm' : Below wr.heap.size wr wn := (Below.refl wr.heap.size wr).drew.trans (hbm.mono (Nat.le_refl _))
      have HBm := Lib.hid hbm'
      clear hbm
      refine hK.out _ _ (fun w' => Below wr.heap.size wr w') (fun _ h => h) hbm' (fun hHeld => ?_)
      clear hK K
      try simp only [Act.put, List.setIfInBounds_toArray, List.set_cons_zero, List.set_cons_succ]
      refine held_take 5 (v := ?_) rfl (by kernel_rfl) (by kernel_rfl) (by kernel_rfl) (fun _ _ _ h => h) (by rfl) (fun w hS => ?_) (by assumption) ?_
      rotate_left
      · try dsimp only at hS
        go_simp <;> with_reducible rfl
      try simp only [Act.put, List.setIfInBounds_toArray, List.set_cons_zero, List.set_cons_succ]
      refine held_take 6 (v := ?_) rfl (by kernel_rfl) (by kernel_rfl) (by kernel_rfl) (fun _ _ _ h => h) (by rfl) (fun w hS => ?_) (by assumption) ?_
      rotate_left
      · try dsimp only at hS
        go_simp <;> with_reducible rfl
      try simp only [Act.put, List.setIfInBounds_toArray, List.set_cons_zero, List.set_cons_succ]
      refine held_done (by kernel_rfl) ?_
      clear x0 x1 x2 x3 x4 x5 x6 x7 x8
      go_wp2_with fail
      rw [HPOST.out, HEq.out]
      exact ⟨rfl, H5.out.2.2.trans (HBm.out.mono H5.out.2.2.size)⟩
end Go.Proofs.Ytdbnadhmkfhdkaa
