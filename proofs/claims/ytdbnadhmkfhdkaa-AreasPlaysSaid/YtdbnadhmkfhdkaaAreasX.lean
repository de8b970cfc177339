/- the reference's Size, Place, Of, Enhanced. -/
import Derived.Test.YtdbnadhmkfhdkaaAreasV
import Derived.Test.YtdbnadhmkfhdkaaAreasW
namespace Go.Proofs.Ytdbnadhmkfhdkaa
open Go Go.RowKit
set_option linter.unusedVariables false

theorem ordN_inj {i j : Nat} (hi : i < 8) (hj : j < 8) (h : ordN i = ordN j) : i = j := by
  have key : ∀ a : Fin 8, ∀ b : Fin 8, ordN a.val = ordN b.val → a.val = b.val := by decide
  exact key ⟨i, hi⟩ ⟨j, hj⟩ h
theorem ordN_surj {q : Nat} (hq : q < 8) : ∃ j, j < 8 ∧ ordN j = q := by
  have key : ∀ a : Fin 8, ∃ j : Fin 8, ordN j.val = a.val := by decide
  obtain ⟨j, hj⟩ := key ⟨q, hq⟩
  exact ⟨j.val, j.isLt, hj⟩
theorem ord_at (j : Nat) (hj : j < 8) : (#[.int .i64 0, .int .i64 4, .int .i64 5, .int .i64 6, .int .i64 7, .int .i64 1, .int .i64 2, .int .i64 3] : Array Value)[j]? = some (.int .i64 (ordN j : Nat)) := by
  match j, hj with
  | 0, _ => rfl
  | 1, _ => rfl
  | 2, _ => rfl
  | 3, _ => rfl
  | 4, _ => rfl
  | 5, _ => rfl
  | 6, _ => rfl
  | 7, _ => rfl
theorem rrows_any (w : World) : Calls Try.prog 65 #[] w fun e w' => e = .returned (.slice (some ⟨w.heap.size, 0, none⟩) 8 8) ∧ HasB w' w.heap.size #[.int .i64 0, .int .i64 4, .int .i64 5, .int .i64 6, .int .i64 7, .int .i64 1, .int .i64 2, .int .i64 3] 3 ∧ Below w.heap.size w w' := by
  have HN : Hid (HasB (w.alloc (.cells #[.int .i64 0, .int .i64 4, .int .i64 5, .int .i64 6, .int .i64 7, .int .i64 1, .int .i64 2, .int .i64 3] 3)) w.heap.size #[.int .i64 0, .int .i64 4, .int .i64 5, .int .i64 6, .int .i64 7, .int .i64 1, .int .i64 2, .int .i64 3] 3 ∧ Below w.heap.size w (w.alloc (.cells #[.int .i64 0, .int .i64 4, .int .i64 5, .int .i64 6, .int .i64 7, .int .i64 1, .int .i64 2, .int .i64 3] 3))) := Lib.hid ⟨HasB.new _ _ _, (Below.refl _ _).alloc (Nat.le_refl _) _⟩
  go_enter Try.func65, Try.ntmps65
  go_wp2_with fail
  go_ret
  exact ⟨rfl, HN.out.1, HN.out.2⟩

set_option maxRecDepth 100000 in
set_option maxHeartbeats 2000000 in
theorem rsize_in (g : Nat) (c : Cfg) (s n : Stg) (k : Nat) (hk : k < 8) (w : World) (h : RTab w g c s n) (hok : OkC c) (hf : Few n) :
    Calls Try.prog 51 #[.pointer (some ⟨g, 0, none⟩), .int .i64 (k : Int)] w fun e w' => e = .returned (.int .i64 (szI c n k)) ∧ Below w.heap.size w w' := by
  have HT := Lib.hid h
  have HSz := Lib.hid (fun w => rsizes_any c n.a n.b n.d n.e w hok hf.1 hf.2.1 hf.2.2.1 hf.2.2.2)
  obtain ⟨V, hV⟩ : ∃ V, V = sizesV c n.a n.b n.d n.e := ⟨_, rfl⟩
  rw [← hV] at HSz
  obtain ⟨Z, hZ⟩ : ∃ Z, Z = szI c n k := ⟨_, rfl⟩
  have hVk : V[k]? = some (.int .i64 Z) := by
    have := sz_at c n k hk
    rw [hV, hZ]
    unfold szV at this
    simpa using this
  have hix : ∀ w, (Instr.index 98 (.agg V) (.int .i64 (k : Int))).run Try.prog w = .ok (.int .i64 Z) w := fun w => index_arr 98 3 8 _ .i64 k _ Try.underlying98 Try.sizeOf3 Try.isAgg3 hk hVk
  have HIx := Lib.hid hix
  rw [← hZ]
  have t1 : (k : Int) ≤ 7 := by omega
  have t0 : ¬ (7 : Int) < (k : Int) := by omega
  have HC := Lib.hid (fun (w' : World) (hb : Below w.heap.size w w') => And.intro (HT.out.below hb).cCells (HT.out.below hb).nCells)
  have k0 : ∀ w', Below w.heap.size w w' → w'.cell? ⟨g, 0, none⟩ = some (.int .i64 c.blocks) := fun w' hb => (HC.out w' hb).1.1
  have k1 : ∀ w', Below w.heap.size w w' → w'.cell? ⟨g, 1, none⟩ = some (.int .i64 c.pages) := fun w' hb => (HC.out w' hb).1.2.1
  have k2 : ∀ w', Below w.heap.size w w' → w'.cell? ⟨g, 2, none⟩ = some (.int .i64 c.sector) := fun w' hb => (HC.out w' hb).1.2.2.1
  have k3 : ∀ w', Below w.heap.size w w' → w'.cell? ⟨g, 3, none⟩ = some (.int .i64 c.user) := fun w' hb => (HC.out w' hb).1.2.2.2.1
  have k4 : ∀ w', Below w.heap.size w w' → w'.cell? ⟨g, 4, none⟩ = some (.int .i64 c.boot) := fun w' hb => (HC.out w' hb).1.2.2.2.2.1
  have k5 : ∀ w', Below w.heap.size w w' → w'.cell? ⟨g, 5, none⟩ = some (.int .i64 c.rpa) := fun w' hb => (HC.out w' hb).1.2.2.2.2.2.1
  have k6 : ∀ w', Below w.heap.size w w' → w'.cell? ⟨g, 6, none⟩ = some (.int .i64 c.group) := fun w' hb => (HC.out w' hb).1.2.2.2.2.2.2.1
  have k7 : ∀ w', Below w.heap.size w w' → w'.cell? ⟨g, 7, none⟩ = some (.int .i64 c.cache) := fun w' hb => (HC.out w' hb).1.2.2.2.2.2.2.2.1
  have k8 : ∀ w', Below w.heap.size w w' → w'.cell? ⟨g, 8, none⟩ = some (.int .i64 c.spare) := fun w' hb => (HC.out w' hb).1.2.2.2.2.2.2.2.2
  have y0 : ∀ w', Below w.heap.size w w' → w'.cell? ⟨g, 15, none⟩ = some (.int .i64 n.a) := fun w' hb => (HC.out w' hb).2.1
  have y1 : ∀ w', Below w.heap.size w w' → w'.cell? ⟨g, 16, none⟩ = some (.int .i64 n.b) := fun w' hb => (HC.out w' hb).2.2.1
  have y2 : ∀ w', Below w.heap.size w w' → w'.cell? ⟨g, 17, none⟩ = some (.int .i64 n.d) := fun w' hb => (HC.out w' hb).2.2.2.1
  have y3 : ∀ w', Below w.heap.size w w' → w'.cell? ⟨g, 18, none⟩ = some (.int .i64 n.e) := fun w' hb => (HC.out w' hb).2.2.2.2.1
  clear h hV hZ hVk hix
  go_enter Try.func51, Try.ntmps51
  go_wp2_with fail
  refine wp_region_held_drew (S := (fun w' => Below w.heap.size w w')) (by kernel_rfl) ((Below.refl _ _).drew) (fun hHeld => ?_)
  refine held_take 0 (v := ?_) rfl (by kernel_rfl) (by kernel_rfl) (by kernel_rfl) (fun _ _ _ h => h) (by rfl) (fun w hS => ?_) (by assumption) ?_
  rotate_left
  · try dsimp only at hS
    go_simp <;> with_reducible rfl
  try simp only [Act.put, List.setIfInBounds_toArray, List.set_cons_zero, List.set_cons_succ]
  refine held_take 1 (v := ?_) rfl (by kernel_rfl) (by kernel_rfl) (by kernel_rfl) (fun _ _ _ h => h) (by rfl) (fun w hS => ?_) (by assumption) ?_
  rotate_left
  · try dsimp only at hS
    go_simp <;> with_reducible rfl
  try simp only [Act.put, List.setIfInBounds_toArray, List.set_cons_zero, List.set_cons_succ]
  refine held_take 2 (v := ?_) rfl (by kernel_rfl) (by kernel_rfl) (by kernel_rfl) (fun _ _ _ h => h) (by rfl) (fun w hS => ?_) (by assumption) ?_
  rotate_left
  · try dsimp only at hS
    go_simp <;> with_reducible rfl
  try simp only [Act.put, List.setIfInBounds_toArray, List.set_cons_zero, List.set_cons_succ]
  refine held_take 3 (v := ?_) rfl (by kernel_rfl) (by kernel_rfl) (by kernel_rfl) (fun _ _ _ h => h) (by rfl) (fun w hS => ?_) (by assumption) ?_
  rotate_left
  · try dsimp only at hS
    go_simp <;> with_reducible rfl
  try simp only [Act.put, List.setIfInBounds_toArray, List.set_cons_zero, List.set_cons_succ]
  refine held_take 4 (v := ?_) rfl (by kernel_rfl) (by kernel_rfl) (by kernel_rfl) (fun _ _ _ h => h) (by rfl) (fun w hS => ?_) (by assumption) ?_
  rotate_left
  · try dsimp only at hS
    go_simp <;> with_reducible rfl
  try simp only [Act.put, List.setIfInBounds_toArray, List.set_cons_zero, List.set_cons_succ]
  refine held_take 5 (v := ?_) rfl (by kernel_rfl) (by kernel_rfl) (by kernel_rfl) (fun _ _ _ h => h) (by rfl) (fun w hS => ?_) (by assumption) ?_
  rotate_left
  · try dsimp only at hS
    go_simp <;> with_reducible rfl
  try simp only [Act.put, List.setIfInBounds_toArray, List.set_cons_zero, List.set_cons_succ]
  refine held_take 6 (v := ?_) rfl (by kernel_rfl) (by kernel_rfl) (by kernel_rfl) (fun _ _ _ h => h) (by rfl) (fun w hS => ?_) (by assumption) ?_
  rotate_left
  · try dsimp only at hS
    go_simp <;> with_reducible rfl
  try simp only [Act.put, List.setIfInBounds_toArray, List.set_cons_zero, List.set_cons_succ]
  refine held_take 7 (v := ?_) rfl (by kernel_rfl) (by kernel_rfl) (by kernel_rfl) (fun _ _ _ h => h) (by rfl) (fun w hS => ?_) (by assumption) ?_
  rotate_left
  · try dsimp only at hS
    go_simp <;> with_reducible rfl
  try simp only [Act.put, List.setIfInBounds_toArray, List.set_cons_zero, List.set_cons_succ]
  refine held_take 8 (v := ?_) rfl (by kernel_rfl) (by kernel_rfl) (by kernel_rfl) (fun _ _ _ h => h) (by rfl) (fun w hS => ?_) (by assumption) ?_
  rotate_left
  · try dsimp only at hS
    go_simp <;> with_reducible rfl
  try simp only [Act.put, List.setIfInBounds_toArray, List.set_cons_zero, List.set_cons_succ]
  refine held_take 10 (v := ?_) rfl (by kernel_rfl) (by kernel_rfl) (by kernel_rfl) (fun _ _ _ h => h) (by rfl) (fun w hS => ?_) (by assumption) ?_
  rotate_left
  · try dsimp only at hS
    go_simp <;> with_reducible rfl
  try simp only [Act.put, List.setIfInBounds_toArray, List.set_cons_zero, List.set_cons_succ]
  refine held_one 9 rfl (by kernel_rfl) (fun K hK => ?_)
  go_simp
  refine Calls.mono (HSz.out _) ?_
  rintro e wm ⟨rfl, hbm⟩
  have hbm' : Below w.heap.size w wm := (Below.refl w.heap.size w).drew.trans (hbm.mono (Nat.le_refl _))
  have HBm := Lib.hid hbm'
  have hix := HIx.out
  clear hbm
  refine hK.out _ _ (fun w' => Below w.heap.size w w') (fun _ h => h) hbm' (fun hHeld => ?_)
  clear hK K
  try simp only [Act.put, List.setIfInBounds_toArray, List.set_cons_zero, List.set_cons_succ]
  refine held_take 11 (v := ?_) rfl (by kernel_rfl) (by kernel_rfl) (by kernel_rfl) (fun _ _ _ h => h) (by rfl) (fun w hS => ?_) (by assumption) ?_
  rotate_left
  · try dsimp only at hS
    go_simp <;> with_reducible rfl
  try simp only [Act.put, List.setIfInBounds_toArray, List.set_cons_zero, List.set_cons_succ]
  refine held_take 12 (v := ?_) rfl (by kernel_rfl) (by kernel_rfl) (by kernel_rfl) (fun _ _ _ h => h) (by rfl) (fun w hS => ?_) (by assumption) ?_
  rotate_left
  · try dsimp only at hS
    go_simp <;> with_reducible rfl
  try simp only [Act.put, List.setIfInBounds_toArray, List.set_cons_zero, List.set_cons_succ]
  refine held_done (by kernel_rfl) ?_
  clear k0 k1 k2 k3 k4 k5 k6 k7 k8 y0 y1 y2 y3 hix
  go_wp2_with fail
  go_ret
  exact ⟨rfl, HBm.out⟩
set_option maxRecDepth 100000 in
set_option maxHeartbeats 2000000 in
theorem rsize_any (g : Nat) (c : Cfg) (s n : Stg) (area : Int) (w : World) (h : RTab w g c s n) (hok : OkC c) (hf : Few n) :
    Calls Try.prog 51 #[.pointer (some ⟨g, 0, none⟩), .int .i64 area] w fun e w' => e = .returned (.int .i64 (szOf c n area)) ∧ Below w.heap.size w w' := by
  by_cases h1 : area < 0
  · have hz : szOf c n area = 0 := by unfold szOf; rw [if_pos (.inl h1)]
    rw [hz]
    have HB := Lib.hid (Below.refl w.heap.size w)
    clear h
    go_enter Try.func51, Try.ntmps51
    go_wp2_with fail
    go_ret
    exact ⟨rfl, HB.out⟩
  · by_cases h2 : 8 ≤ area
    · have hz : szOf c n area = 0 := by unfold szOf; rw [if_pos (.inr h2)]
      rw [hz]
      have HB := Lib.hid (Below.refl w.heap.size w)
      have h7 : 7 < area := by omega
      clear h
      go_enter Try.func51, Try.ntmps51
      go_wp2_with fail
      go_ret
      exact ⟨rfl, HB.out⟩
    · obtain ⟨k, rfl⟩ : ∃ k : Nat, area = (k : Int) := ⟨area.toNat, by omega⟩
      rw [szOf_in c n k (by omega)]
      exact rsize_in g c s n k (by omega) w h hok hf

/-- The reference's table, the row of areas. -/
def RwS (w0 : World) (g gl : Nat) (c : Cfg) (s n : Stg) (w : World) : Prop := RTab w g c s n ∧ HasB w gl #[.int .i64 0, .int .i64 4, .int .i64 5, .int .i64 6, .int .i64 7, .int .i64 1, .int .i64 2, .int .i64 3] 3 ∧ Below w0.heap.size w0 w
theorem RwS.below {w0 w w' : World} {g gl : Nat} {c : Cfg} {s n : Stg} (h : RwS w0 g gl c s n w) (hb : Below w.heap.size w w') : RwS w0 g gl c s n w' := ⟨h.1.below hb, h.2.1.below hb h.2.1.lt, h.2.2.trans (hb.mono h.2.2.size)⟩

set_option maxRecDepth 100000 in
set_option maxHeartbeats 2000000 in
theorem rplace_any (g : Nat) (c : Cfg) (s n : Stg) (area sector : Int) (w : World) (h : RTab w g c s n) (hok : OkC c) (hf : Few n) :
    Calls Try.prog 49 #[.pointer (some ⟨g, 0, none⟩), .int .i64 area, .int .i64 sector] w fun e w' => e = plR c n area sector ∧ Below w.heap.size w w' := by
  obtain ⟨POST, hPOST⟩ : ∃ POST : Ending → World → Prop, POST = fun e w' => e = plR c n area sector ∧ Below w.heap.size w w' := ⟨_, rfl⟩
  rw [← hPOST]
  have HPost := Lib.hid hPOST
  have HT := Lib.hid h
  clear hPOST h
  have HB0 := Lib.hid (Below.refl w.heap.size w)
  by_cases h1 : sector < 0
  · have hz : plR c n area sector = .returned (.tuple #[.int .i64 0, .bool false]) := by unfold plR; rw [if_pos (.inl h1)]
    have HZ := Lib.hid hz
    clear hz
    go_enter Try.func49, Try.ntmps49
    go_wp2_with fail
    rw [HPost.out, HZ.out]
    exact ⟨rfl, HB0.out⟩
  · by_cases h2 : szOf c n area ≤ sector
    · have hz : plR c n area sector = .returned (.tuple #[.int .i64 0, .bool false]) := by unfold plR; rw [if_pos (.inr h2)]
      have HZ := Lib.hid hz
      have HSz := Lib.hid (rsize_any g c s n area w HT.out hok hf)
      obtain ⟨Z, hZ⟩ : ∃ Z, Z = szOf c n area := ⟨_, rfl⟩
      rw [← hZ] at h2 HSz
      clear hz hZ
      go_enter Try.func49, Try.ntmps49
      go_wp2_with fail
      refine HSz.out.mono ?_
      rintro e w1 ⟨rfl, hb⟩
      have HB1 := Lib.hid hb
      clear hb
      go_wp2_with fail
      rw [HPost.out, HZ.out]
      exact ⟨rfl, HB1.out⟩
    · have hr : 0 ≤ area ∧ area < 8 := by
        by_cases q : area < 0 ∨ 8 ≤ area
        · exfalso; apply h2; unfold szOf; rw [if_pos q]; omega
        · omega
      obtain ⟨q, rfl⟩ : ∃ q : Nat, area = (q : Int) := ⟨area.toNat, by omega⟩
      obtain ⟨J, hJ, hJq⟩ := ordN_surj (q := q) (by omega)
      have hz : plR c n (q : Int) sector = .returned (.tuple #[.int .i64 (preA c n J + sector), .bool true]) := by
        unfold plR
        rw [if_neg (by omega)]
        have := fi_ord c n J hJ
        rw [hJq] at this
        simp [this]
      have HZ := Lib.hid hz
      have HSz := Lib.hid (rsize_any g c s n (q : Int) w HT.out hok hf)
      have hzb := szI_bd hok hf q (by omega)
      rw [szOf_in c n q (by omega)] at h2 HSz
      obtain ⟨Z, hZ⟩ : ∃ Z, Z = szI c n q := ⟨_, rfl⟩
      rw [← hZ] at h2 hzb HSz
      have HJq := Lib.hid hJq
      clear hz hZ hr hJq
      go_enter Try.func49, Try.ntmps49
      go_wp2_with fail
      refine HSz.out.mono ?_
      rintro e w1 ⟨rfl, hb⟩
      have HB1 := Lib.hid hb
      clear hb
      go_wp2_with fail
      refine (rrows_any w1).mono ?_
      rintro e w2 ⟨rfl, hn, hb⟩
      have HR2 : Hid (RwS w g w1.heap.size c s n w2) := Lib.hid ⟨(HT.out.below HB1.out).below hb, hn, HB1.out.trans (hb.mono HB1.out.size)⟩
      obtain ⟨gl, hgl⟩ : ∃ gl, gl = w1.heap.size := ⟨_, rfl⟩
      rw [← hgl] at HR2 ⊢
      clear hgl hn hb HB1 HSz
      go_wp2_with fail
      go_loopw [8, 10] (fun at_ i wr => ∃ j : Nat, j ≤ J ∧ i = .int .i64 (j : Int) ∧ at_ = .int .i64 (preA c n j) ∧ Hid (RwS w g gl c s n wr)) (fun _ i _ => 8 - (intOf i).toNat)
      case atStart => exact ⟨0, by omega, rfl, rfl, HR2⟩
      case round =>
        clear HR2
        obtain ⟨j, hj, rfl, rfl, HR⟩ := hrel
        obtain ⟨wo, rfl⟩ : ∃ wo : World, wo = wr := ⟨_, rfl⟩
        have hj8 : j < 8 := by omega
        have hcj : wo.cell? ⟨gl, j, none⟩ = some (.int .i64 (ordN j : Nat)) := (HR.out.2.1.at j).trans (ord_at j hj8)
        have t2 : (0 : Int) ≤ (j : Int) ∧ (j : Int) < 8 := by omega
        have hPb := preA_bd hok hf j (by omega)
        have hql := ordN_lt j hj8
        have HPs : Hid (preA c n (j + 1) = preA c n j + szI c n (ordN j)) := Lib.hid rfl
        have hSb := szI_bd hok hf (ordN j) hql
        by_cases hjJ : j = J
        · subst hjJ
          rw [HJq.out] at hcj
          obtain ⟨F, hF⟩ : ∃ F, F = preA c n j := ⟨_, rfl⟩
          rw [← hF] at HZ hPb ⊢
          have hw1 : IntKind.i64.wrap (F + sector) = F + sector := wr64 _ (by omega) (by omega)
          clear hF HPs hSb
          go_wp2_with fail
          rw [HPost.out, HZ.out]
          exact ⟨rfl, HR.out.2.2⟩
        · have hne : ordN j ≠ q := fun e => hjJ (ordN_inj hj8 hJ (by rw [e, HJq.out]))
          have HSj := Lib.hid (rsize_in g c s n (ordN j) hql wo HR.out.1 hok hf)
          obtain ⟨qj, hqj⟩ : ∃ qj, qj = ordN j := ⟨_, rfl⟩
          rw [← hqj] at hcj hne HSj hSb HPs
          obtain ⟨F, hF⟩ : ∃ F, F = preA c n j := ⟨_, rfl⟩
          obtain ⟨X, hX⟩ : ∃ X, X = szI c n qj := ⟨_, rfl⟩
          rw [← hF] at hPb HPs ⊢
          rw [← hX] at HSj hSb HPs
          have hw1 : IntKind.i64.wrap (F + X) = F + X := wr64 _ (by omega) (by omega)
          have hne2 : ((qj : Int) != (q : Int)) = true := by simp; omega
          have hne3 : ¬ (qj : Int) = (q : Int) := by omega
          clear hF hX hqj
          go_wp2_with fail
          refine HSj.out.mono ?_
          rintro e w3 ⟨rfl, hb⟩
          have HR3 := Lib.hid (HR.out.below hb)
          clear hb HSj HR hcj
          go_wp2_with fail
          go_roundw
          case rel => exact ⟨j + 1, by omega, by go_num, by rw [HPs.out], HR3⟩
          case measure => simp [intOf]; omega

set_option maxRecDepth 100000 in
set_option maxHeartbeats 2000000 in
theorem rof_any (g : Nat) (c : Cfg) (s n : Stg) (p : Int) (w : World) (h : RTab w g c s n) (hok : OkC c) (hno : NowOk c n) (hp : I64 p) :
    Calls Try.prog 50 #[.pointer (some ⟨g, 0, none⟩), .int .i64 p] w fun e w' => e = ofE c n p ∧ Below w.heap.size w w' := by
  obtain ⟨POST, hPOST⟩ : ∃ POST : Ending → World → Prop, POST = fun e w' => e = ofE c n p ∧ Below w.heap.size w w' := ⟨_, rfl⟩
  rw [← hPOST]
  have HPost := Lib.hid hPOST
  have HT := Lib.hid h
  have hf : Few n := few_of hok hno
  have HNow := Lib.hid hno
  unfold I64 at hp
  clear hPOST h hno
  go_enter Try.func50, Try.ntmps50
  go_wp2_with fail
  refine (rrows_any w).mono ?_
  rintro e w2 ⟨rfl, hn, hb⟩
  have HR2 : Hid (RwS w g w.heap.size c s n w2) := Lib.hid ⟨HT.out.below hb, hn, hb⟩
  obtain ⟨gl, hgl⟩ : ∃ gl, gl = w.heap.size := ⟨_, rfl⟩
  rw [← hgl] at HR2 ⊢
  clear hgl hn hb
  go_wp2_with fail
  go_loopw [1, 8] (fun x i wr => ∃ k : Nat, k ≤ 8 ∧ i = .int .i64 (k : Int) ∧ x = .int .i64 (p - preA c n k) ∧ (k = 0 ∨ 0 ≤ p - preA c n k) ∧ Hid (∀ j, j < k → ¬ (preA c n j ≤ p ∧ p < preA c n (j + 1))) ∧ Hid (RwS w g gl c s n wr)) (fun _ i _ => 8 - (intOf i).toNat)
  case atStart => exact ⟨0, by omega, rfl, by show Value.int .i64 p = .int .i64 (p - 0); rw [Int.sub_zero], .inl rfl, Lib.hid (fun j hj => by omega), HR2⟩
  case round =>
    clear HR2
    obtain ⟨k, hk, rfl, rfl, hpos, HNo, HR⟩ := hrel
    obtain ⟨wo, rfl⟩ : ∃ wo : World, wo = wr := ⟨_, rfl⟩
    have hPb := preA_bd hok hf k hk
    have hP0 := pre_nonneg hok HNow.out hk
    by_cases hneg : p - preA c n k < 0
    · have k0 : k = 0 := by omega
      subst k0
      have hp0 : p < 0 := by have : preA c n 0 = 0 := rfl; omega
      have HE : Hid (ofE c n p = .returned (.tuple #[.int .i64 0, .int .i64 0, .bool false])) := Lib.hid (ofE_none (ofJ_none (fun j hj q => by have := pre_nonneg hok HNow.out (j := j) (by omega); omega)))
      obtain ⟨X, hX⟩ : ∃ X, X = p - preA c n 0 := ⟨_, rfl⟩
      rw [← hX] at hneg ⊢
      clear hX hpos
      go_wp2_with fail
      go_ret3
      rw [HPost.out, HE.out]
      exact ⟨rfl, HR.out.2.2⟩
    by_cases hlt : k < 8
    · have t1 : (k : Int) < 8 := by omega
      have t2 : (0 : Int) ≤ (k : Int) ∧ (k : Int) < 8 := by omega
      have hcj : wo.cell? ⟨gl, k, none⟩ = some (.int .i64 (ordN k : Nat)) := (HR.out.2.1.at k).trans (ord_at k hlt)
      have hql := ordN_lt k hlt
      have HPs : Hid (preA c n (k + 1) = preA c n k + szI c n (ordN k)) := Lib.hid rfl
      have hSb := szI_bd hok hf (ordN k) hql
      have hS0 := sz_pos c n hok HNow.out (ordN k) hql
      have HSj := Lib.hid (fun wo h => rsize_in g c s n (ordN k) hql wo h hok hf)
      obtain ⟨qj, hqj⟩ : ∃ qj, qj = ordN k := ⟨_, rfl⟩
      have HQ := Lib.hid hqj
      rw [← hqj] at hcj HSj hSb hS0 HPs
      obtain ⟨X, hX⟩ : ∃ X, X = szI c n qj := ⟨_, rfl⟩
      rw [← hX] at HSj hSb hS0 HPs
      obtain ⟨F, hF⟩ : ∃ F, F = preA c n k := ⟨_, rfl⟩
      have HF := Lib.hid hF
      rw [← hF] at hPb HPs hpos hneg hP0 ⊢
      obtain ⟨Y, hY⟩ : ∃ Y, Y = p - F := ⟨_, rfl⟩
      have HY := Lib.hid hY
      rw [← hY] at hneg ⊢
      have hYb : -9223372036854775808 ≤ Y ∧ Y ≤ 9223372036854775807 := by omega
      clear hqj hX hF hY hpos
      by_cases h2 : Y < X
      · have HE : Hid (ofE c n p = .returned (.tuple #[.int .i64 (qj : Int), .int .i64 Y, .bool true])) := Lib.hid (by
          rw [ofE_some (ofJ_some hok HNow.out hlt (by rw [← HF.out]; have := HY.out; omega) (by rw [HPs.out]; have := HY.out; omega)), ← HQ.out, ← HF.out, ← HY.out])
        go_wp2_with fail
        refine (HSj.out wo HR.out.1).mono ?_
        rintro e w3 ⟨rfl, hb⟩
        have HR3 := Lib.hid (HR.out.below hb)
        have hcj3 : w3.cell? ⟨gl, k, none⟩ = some (.int .i64 (qj : Int)) := by rw [HQ.out]; exact (HR3.out.2.1.at k).trans (ord_at k hlt)
        clear hb HSj HR hcj
        go_wp2_with fail
        go_ret3
        rw [HPost.out, HE.out]
        exact ⟨rfl, HR3.out.2.2⟩
      · have HNn : Hid (∀ j, j < k + 1 → ¬ (preA c n j ≤ p ∧ p < preA c n (j + 1))) := Lib.hid (fun j hj => by
          by_cases hjk : j = k
          · rw [hjk, HPs.out]; have := HY.out; omega
          · exact HNo.out j (by omega))
        have hw1 : IntKind.i64.wrap (Y - X) = Y - X := wr64 _ (by omega) (by omega)
        go_wp2_with fail
        refine (HSj.out wo HR.out.1).mono ?_
        rintro e w3 ⟨rfl, hb⟩
        have HR3 := Lib.hid (HR.out.below hb)
        have hcj3 : w3.cell? ⟨gl, k, none⟩ = some (.int .i64 (qj : Int)) := by rw [HQ.out]; exact (HR3.out.2.1.at k).trans (ord_at k hlt)
        clear hb HR hcj
        go_wp2_with fail
        refine (HSj.out w3 HR3.out.1).mono ?_
        rintro e w4 ⟨rfl, hb⟩
        have HR4 := Lib.hid (HR3.out.below hb)
        clear hb HSj HR3 hcj3
        go_wp2_with fail
        go_roundw
        case rel => exact ⟨k + 1, by omega, by go_num, by rw [HPs.out, HY.out, show p - (F + X) = p - F - X by omega], .inr (by rw [HPs.out]; have := HY.out; omega), HNn, HR4⟩
        case measure => simp [intOf]; omega
    · obtain rfl : k = 8 := by omega
      have HE : Hid (ofE c n p = .returned (.tuple #[.int .i64 0, .int .i64 0, .bool false])) := Lib.hid (ofE_none (ofJ_none HNo.out))
      obtain ⟨Y, hY⟩ : ∃ Y, Y = p - preA c n 8 := ⟨_, rfl⟩
      rw [← hY] at hneg ⊢
      clear hY hpos
      go_wp2_with fail
      go_ret3
      rw [HPost.out, HE.out]
      exact ⟨rfl, HR.out.2.2⟩

set_option maxRecDepth 100000 in
set_option maxHeartbeats 2000000 in
theorem renh_any (g : Nat) (c : Cfg) (s n : Stg) (p : Int) (w : World) (h : RTab w g c s n) (hok : OkC c) (hno : NowOk c n) (hp : I64 p) :
    Calls Try.prog 53 #[.pointer (some ⟨g, 0, none⟩), .int .i64 p] w fun e w' => e = .returned (.bool (enhB c n p)) ∧ Below w.heap.size w w' := by
  have HOf := Lib.hid (rof_any g c s n p w h hok hno hp)
  have HT := Lib.hid h
  clear h hok hno hp
  cases hj : ofJ c n p with
  | none =>
    have he : enhB c n p = false := by unfold enhB; rw [hj]
    have HE := Lib.hid (ofE_none hj)
    rw [he]
    clear hj he
    go_enter Try.func53, Try.ntmps53
    go_wp2_with fail
    refine HOf.out.mono ?_
    rintro e w1 ⟨rfl, hb⟩
    rw [HE.out]
    have HB := Lib.hid hb
    clear hb
    go_wp2_with fail
    go_ret
    exact ⟨rfl, HB.out⟩
  | some j =>
    have hj8 := ofJ_lt hj
    have hq8 := ordN_lt j hj8
    obtain ⟨q, hq⟩ : ∃ q, q = ordN j := ⟨_, rfl⟩
    obtain ⟨b, hb⟩ : ∃ b, b = (bits BinOp.and IntKind.u8 (n.v / 2 ^ q) 1 == 1) := ⟨_, rfl⟩
    have he : enhB c n p = (decide (1 ≤ q ∧ q ≤ 3) || b) := by unfold enhB; rw [hj]; show (decide (1 ≤ ordN j ∧ ordN j ≤ 3) || _) = _; rw [← hq, hb]
    obtain ⟨S, hS⟩ : ∃ S, S = p - preA c n j := ⟨_, rfl⟩
    have HE : Hid (ofE c n p = .returned (.tuple #[.int .i64 (q : Int), .int .i64 S, .bool true])) := Lib.hid (by rw [ofE_some hj, ← hq, ← hS])
    have hqq : q < 8 := by rw [hq]; exact hq8
    rw [he]
    clear hj he hq hS hq8 hj8
    by_cases q1 : 1 ≤ q ∧ q ≤ 3
    · have hd : decide (1 ≤ q ∧ q ≤ 3) = true := by rw [decide_eq_true_eq]; omega
      rw [hd, Bool.true_or]
      have e1 : (1 : Int) ≤ (q : Int) := by omega
      have e2 : (q : Int) ≤ 3 := by omega
      go_enter Try.func53, Try.ntmps53
      go_wp2_with fail
      refine HOf.out.mono ?_
      rintro e w1 ⟨rfl, hb1⟩
      rw [HE.out]
      have HB := Lib.hid hb1
      clear hb1
      go_wp2_with fail
      go_ret
      exact ⟨rfl, HB.out⟩
    · have hd : decide (1 ≤ q ∧ q ≤ 3) = false := by rw [decide_eq_false_iff_not]; omega
      rw [hd, Bool.false_or]
      have q0 : (0 : Int) ≤ (q : Int) := by omega
      have hu : IntKind.u64.wrap (q : Int) = (q : Int) := by rw [IntKind.wrap_u64]; omega
      have HBq := Lib.hid hb
      clear hb hd
      go_enter Try.func53, Try.ntmps53
      go_wp2_with fail
      refine HOf.out.mono ?_
      rintro e w1 ⟨rfl, hb1⟩
      rw [HE.out]
      have hv : w1.cell? ⟨g, 19, none⟩ = some (.int .u8 n.v) := (HT.out.below hb1).nCells.2.2.2.2.1
      have HB := Lib.hid hb1
      have hb2 : (bits BinOp.and IntKind.u8 (n.v / 2 ^ q) 1 == 1) = b := HBq.out.symm
      clear hb1
      by_cases qz : q = 0
      · have e1 : ¬ (1 : Int) ≤ (q : Int) := by omega
        have hb4 : (bits BinOp.and IntKind.u8 n.v 1 == 1) = b := by have := hb2; rw [qz] at this; simpa using this
        go_wp2_with fail
        go_ret
        exact ⟨rfl, HB.out⟩
      · have e1 : (1 : Int) ≤ (q : Int) := by omega
        have e2 : ¬ (q : Int) ≤ 3 := by omega
        cases b with
        | false =>
          have hb3 : ¬ bits BinOp.and IntKind.u8 (n.v / 2 ^ q) 1 = 1 := by simpa using hb2
          go_wp2_with fail
          go_ret
          exact ⟨by show Ending.returned (.bool (decide ((q : Int) ≤ 3))) = _; rw [decide_eq_false (show ¬ (q : Int) ≤ 3 by omega)], HB.out⟩
        | true =>
          have hb3 : bits BinOp.and IntKind.u8 (n.v / 2 ^ q) 1 = 1 := by simpa using hb2
          go_wp2_with fail
          go_ret
          exact ⟨rfl, HB.out⟩
end Go.Proofs.Ytdbnadhmkfhdkaa
