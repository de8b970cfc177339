/- areas: AreasOnce, the walk. -/
import Derived.Test.YtdbnadhmkfhdkaaAreasG
namespace Go.Proofs.Ytdbnadhmkfhdkaa
open Go Go.RowKit
set_option linter.unusedVariables false

/-- The table in the loop, the setting's box. -/
def OnceW (w wr : World) (g : Nat) (c : Cfg) (s n : Stg) (od om : Int) (sz fi : List Value) : Prop :=
  TabW wr g c s n od om sz fi ∧ HasB wr (w.heap.size + 1) #[.int .i64 s.a, .int .i64 s.b, .int .i64 s.d, .int .i64 s.e, .int .u8 s.v, .bool s.dn] 36 ∧ Below w.heap.size w wr ∧ w.heap.size + 2 ≤ g

set_option maxRecDepth 100000 in
set_option maxHeartbeats 2000000 in
theorem aonce_any (c : Cfg) (s : Stg) (a : Option Addr) (len cap : Nat) (l : List Stg) (w : World) (hwf : c.wf) (hs : s.wf) (hl : Rws 6 Stg.cells w a len l) (hlw : ∀ x ∈ l, x.wf) (hcap : len ≤ cap) (hcm : cap ≤ maxLen) :
    Calls Try.prog 4 #[.agg #[.int .i64 c.blocks, .int .i64 c.pages, .int .i64 c.sector, .int .i64 c.user, .int .i64 c.boot, .int .i64 c.rpa, .int .i64 c.group, .int .i64 c.cache, .int .i64 c.spare], .agg #[.int .i64 s.a, .int .i64 s.b, .int .i64 s.d, .int .i64 s.e, .int .u8 s.v, .bool s.dn], .slice a len cap] w fun e w' => e = .returned (.bool true) ∧ Below w.heap.size w w' := by
  obtain ⟨sa, sb, sd, se, sv, sn⟩ := s
  have HW := Lib.hid hwf
  have HS := Lib.hid hs
  have HL := Lib.hid hl
  have HLw := Lib.hid hlw
  unfold maxLen at hcm
  have n1 : HasB ((w.alloc (.cells #[.int .i64 c.blocks, .int .i64 c.pages, .int .i64 c.sector, .int .i64 c.user, .int .i64 c.boot, .int .i64 c.rpa, .int .i64 c.group, .int .i64 c.cache, .int .i64 c.spare] 23)).alloc (.cells #[.int .i64 sa, .int .i64 sb, .int .i64 sd, .int .i64 se, .int .u8 sv, .bool sn] 36)) w.heap.size #[.int .i64 c.blocks, .int .i64 c.pages, .int .i64 c.sector, .int .i64 c.user, .int .i64 c.boot, .int .i64 c.rpa, .int .i64 c.group, .int .i64 c.cache, .int .i64 c.spare] 23 := (HasB.new w _ _).alloc _
  have n2 : HasB ((w.alloc (.cells #[.int .i64 c.blocks, .int .i64 c.pages, .int .i64 c.sector, .int .i64 c.user, .int .i64 c.boot, .int .i64 c.rpa, .int .i64 c.group, .int .i64 c.cache, .int .i64 c.spare] 23)).alloc (.cells #[.int .i64 sa, .int .i64 sb, .int .i64 sd, .int .i64 se, .int .u8 sv, .bool sn] 36)) (w.heap.size + 1) #[.int .i64 sa, .int .i64 sb, .int .i64 sd, .int .i64 se, .int .u8 sv, .bool sn] 36 := HasB.new' (by simp) _ _
  have hb0 : Below w.heap.size w ((w.alloc (.cells #[.int .i64 c.blocks, .int .i64 c.pages, .int .i64 c.sector, .int .i64 c.user, .int .i64 c.boot, .int .i64 c.rpa, .int .i64 c.group, .int .i64 c.cache, .int .i64 c.spare] 23)).alloc (.cells #[.int .i64 sa, .int .i64 sb, .int .i64 sd, .int .i64 se, .int .u8 sv, .bool sn] 36)) := ((Below.refl _ _).alloc (Nat.le_refl _) _).alloc (by simp) _
  have N1 := Lib.hid n1
  have N2 := Lib.hid n2
  have HB0 := Lib.hid hb0
  clear n1 n2 hb0 hwf hs hl hlw
  go_enter Try.func4, Try.ntmps4
  go_wp2_with fail
  refine (aknown_any _).mono ?_
  rintro e w1 ⟨rfl, hb1⟩
  have M1 := Lib.hid (N1.out.below hb1 N1.out.lt)
  have M2 := Lib.hid (N2.out.below hb1 N2.out.lt)
  have HB1 : Hid (Below w.heap.size w w1) := Lib.hid (HB0.out.trans (hb1.mono HB0.out.size))
  clear hb1 N1 N2 HB0
  by_cases h60 : 60 < len
  · have t1 : 60 < (len : Int) := by omega
    go_wp2_with fail
    go_ret
    exact ⟨rfl, HB1.out⟩
  have t1 : ¬ (60 < (len : Int)) := by omega
  obtain ⟨l1, x0, x1, x2, x3, x4, x5, x6, x7, x8⟩ := HasB.nine M1.out
  go_wp2_with fail
  refine (anew_any c Stg.zero _ HW.out Stg.zero_wf).mono ?_
  rintro e w2 ⟨hR, hb2⟩
  have P2 := Lib.hid (M2.out.below hb2 M2.out.lt)
  have HB2 : Hid (Below w.heap.size w w2) := Lib.hid (HB1.out.trans (hb2.mono HB1.out.size))
  clear x0 x1 x2 x3 x4 x5 x6 x7 x8 l1 t1
  rcases hR with ⟨hg0, rfl⟩ | ⟨hg0, g, hg, rfl, hT⟩
  · clear hb2 hg0
    go_wp2_with fail
    go_ret
    exact ⟨rfl, HB2.out⟩
  have HCk : Hid (checkOf c = 0) := Lib.hid (by
    rcases checkOf_two c with h | h
    · exact h
    · rw [good_bad h] at hg0; cases hg0)
  have HT2 : Hid (TabW w2 g c Stg.zero Stg.zero 0 0 zero8 zero8) := Lib.hid hT
  have hgw : w.heap.size + 2 ≤ g := by have := M2.out.lt; omega
  obtain ⟨l2, y0, y1, y2, y3, y4, y5⟩ := HasB.six P2.out
  have hf5 := P2.out.free 5
  have HP5 : Hid (HasB (w2.setCell ⟨w.heap.size + 1, 5, none⟩ (.bool true)) (w.heap.size + 1) #[.int .i64 sa, .int .i64 sb, .int .i64 sd, .int .i64 se, .int .u8 sv, .bool true] 36) := Lib.hid (P2.out.set 5 (.bool true))
  have HT5 : Hid (TabW (w2.setCell ⟨w.heap.size + 1, 5, none⟩ (.bool true)) g c Stg.zero Stg.zero 0 0 zero8 zero8) := Lib.hid ⟨HasB.set_other hT.1 (by simp; omega) _, hT.2.1, hT.2.2⟩
  have HB5 : Hid (Below w.heap.size w (w2.setCell ⟨w.heap.size + 1, 5, none⟩ (.bool true))) := Lib.hid (HB2.out.setCell (by show w.heap.size ≤ w.heap.size + 1; omega) _)
  obtain ⟨w5, hw5⟩ : ∃ w5, w2.setCell ⟨w.heap.size + 1, 5, none⟩ (.bool true) = w5 := ⟨_, rfl⟩
  rw [hw5] at HP5 HT5 HB5
  obtain ⟨l5, v0, v1, v2, v3, v4, v5⟩ := HasB.six HP5.out
  clear hb2 hg0 hg hT HB2 HT2 P2 M1 M2 HB1 l2 l5
  go_wp2_with fail
  refine (aset_any g c Stg.zero Stg.zero ⟨sa, sb, sd, se, sv, true⟩ 0 0 _ _ _ HT5.out HW.out HCk.out ⟨HS.out.1, HS.out.2.1, HS.out.2.2.1, HS.out.2.2.2.1, HS.out.2.2.2.2⟩).mono ?_
  rintro e w6 ⟨hSR, hG6⟩
  have HB6 := Lib.hid (below_gb HB5.out hG6 HB5.out.size (by omega))
  have HP6 := Lib.hid (HasB.kept HP5.out hG6 (by simp; omega))
  clear hG6 hf5 hw5 y0 y1 y2 y3 y4 y5 v0 v1 v2 v3 v4 v5 HB5 HP5 HT5
  rcases hSR with ⟨h, _⟩ | ⟨_, _, rfl, hT⟩ | ⟨_, hgs, rfl, hT⟩
  · cases h
  · have HT6 := Lib.hid hT
    have e6 : ∀ w, (Op.equalIn 10000 36 (.agg #[.int .i64 0, .int .i64 0, .int .i64 0, .int .i64 0, .int .u8 0, .bool false]) (.agg #[.int .i64 0, .int .i64 0, .int .i64 0, .int .i64 0, .int .u8 0, .bool false])).run Try.prog w = .ok true w := fun w => (eqStg Stg.zero Stg.zero w).trans (by simp [Stg.zero])
    clear hT
    go_wp2_with fail
    refine (asetting_any g c Stg.zero Stg.zero 0 0 zero8 zero8 _ HT6.out).mono ?_
    rintro e w7 ⟨rfl, hb7⟩
    have HB7 := Lib.hid (HB6.out.trans (hb7.mono HB6.out.size))
    clear hb7
    dsimp only [Stg.zero]
    go_wp2_with fail
    first
      | exact ⟨rfl, HB7.out⟩
      | (go_ret; exact ⟨rfl, HB7.out⟩)
  have HGs := Lib.hid hgs
  have HO6 : Hid (OnceW w w6 g c ⟨sa, sb, sd, se, sv, true⟩ Stg.zero 0 0 zero8 zero8) := Lib.hid ⟨hT, HP6.out, HB6.out, hgw⟩
  clear hgs hT hgw HB6 HP6
  have hs1 : (Stg.mk sa sb sd se sv true).wf := ⟨HS.out.1, HS.out.2.1, HS.out.2.2.1, HS.out.2.2.2.1, HS.out.2.2.2.2⟩
  have HS1 := Lib.hid hs1
  clear hs1
  go_wp2_with fail
  go_loopw [7, 9] (fun p i wr => ∃ (k g : Nat) (n : Stg) (od om : Int) (sz fi : List Value), k ≤ len ∧ i = .int .i64 (k : Int) ∧ p = .pointer (some ⟨g, 0, none⟩) ∧ Hid (OnceW w wr g c ⟨sa, sb, sd, se, sv, true⟩ n od om sz fi)) (fun _ i _ => len - (intOf i).toNat)
  case atStart => exact ⟨0, g, _, _, _, _, _, by omega, rfl, rfl, HO6⟩
  case round =>
    clear HO6
    obtain ⟨k, g, n, od, om, sz, fi, hk, rfl, rfl, HO⟩ := hrel
    obtain ⟨wo, rfl⟩ : ∃ wo : World, wo = wr := ⟨_, rfl⟩
    have HT : Hid (TabW wo g c ⟨sa, sb, sd, se, sv, true⟩ n od om sz fi) := Lib.hid HO.out.1
    by_cases hlt : k < len
    · obtain ⟨z, hx⟩ : ∃ z, l[k]? = some z := ⟨_, List.getElem?_eq_getElem (by rw [HL.out.1]; exact hlt)⟩
      obtain ⟨b, off, rfl, _, _⟩ := HL.out.2 (by omega)
      obtain ⟨j0, j1, j2, j3, j4, j5⟩ := Stg.sixAt HL.out HO.out.2.2.1 hlt hx
      have HZ := Lib.hid (HLw.out z (by rw [List.mem_iff_getElem?]; exact ⟨k, hx⟩))
      have t1 : (k : Int) < (len : Int) := by omega
      have t0 : (0 : Int) ≤ (k : Int) := by omega
      clear hx
      go_wp2_with fail
      refine (aset_any g c ⟨sa, sb, sd, se, sv, true⟩ n z od om sz fi _ HT.out HW.out HCk.out HZ.out).mono ?_
      rintro e w7 ⟨hSR, hG7⟩
      have hSR' : e = .returned (.int .i64 22) ∧ TabW w7 g c ⟨sa, sb, sd, se, sv, true⟩ n od om sz fi := by
        rcases hSR with ⟨_, h2, h3⟩ | ⟨h, _⟩ | ⟨h, _⟩
        · exact ⟨h2, h3⟩
        · cases h
        · cases h
      obtain ⟨rfl, hT7⟩ := hSR'
      have HT7 := Lib.hid hT7
      have HB7 := Lib.hid (below_gb HO.out.2.2.1 hG7 HO.out.2.2.1.size (by have := HO.out.2.2.2; omega))
      have HP7 := Lib.hid (HasB.kept HO.out.2.1 hG7 (by have := HO.out.2.2.2; simp; omega))
      clear hSR hG7 hT7 j0 j1 j2 j3 j4 j5 HT
      go_wp2_with fail
      refine (apowerup_any g c ⟨sa, sb, sd, se, sv, true⟩ n od om sz fi _ HT7.out HW.out HS1.out HGs.out).mono ?_
      rintro e wz ⟨⟨gz, hgz, rfl, hTz⟩, hbz⟩
      have HTz : Hid (TabW wz gz c ⟨sa, sb, sd, se, sv, true⟩ ⟨sa, sb, sd, se, sv, true⟩ 0 0 zero8 zero8) := Lib.hid hTz
      have HBz := Lib.hid (HB7.out.trans (hbz.mono HB7.out.size))
      have HPz := Lib.hid (HP7.out.below hbz HP7.out.lt)
      have HGz : Hid (w.heap.size + 2 ≤ gz) := Lib.hid (by have := HP7.out.lt; omega)
      have hy : ∀ w', Below wz.heap.size wz w' → HasB w' (w.heap.size + 1) _ 36 := fun w' hb => HPz.out.below hb HPz.out.lt
      have HY := Lib.hid hy
      have y0 : ∀ w', Below wz.heap.size wz w' → w'.cell? ⟨w.heap.size + 1, 0, none⟩ = some (.int .i64 sa) := fun w' hb => (HY.out w' hb).at 0
      have y1 : ∀ w', Below wz.heap.size wz w' → w'.cell? ⟨w.heap.size + 1, 1, none⟩ = some (.int .i64 sb) := fun w' hb => (HY.out w' hb).at 1
      have y2 : ∀ w', Below wz.heap.size wz w' → w'.cell? ⟨w.heap.size + 1, 2, none⟩ = some (.int .i64 sd) := fun w' hb => (HY.out w' hb).at 2
      have y3 : ∀ w', Below wz.heap.size wz w' → w'.cell? ⟨w.heap.size + 1, 3, none⟩ = some (.int .i64 se) := fun w' hb => (HY.out w' hb).at 3
      have y4 : ∀ w', Below wz.heap.size wz w' → w'.cell? ⟨w.heap.size + 1, 4, none⟩ = some (.int .u8 sv) := fun w' hb => (HY.out w' hb).at 4
      have y5 : ∀ w', Below wz.heap.size wz w' → w'.cell? ⟨w.heap.size + 1, 5, none⟩ = some (.bool true) := fun w' hb => (HY.out w' hb).at 5
      have e6 : ∀ w, (Op.equalIn 10000 36 (.agg #[.int .i64 sa, .int .i64 sb, .int .i64 sd, .int .i64 se, .int .u8 sv, .bool true]) (.agg #[.int .i64 sa, .int .i64 sb, .int .i64 sd, .int .i64 se, .int .u8 sv, .bool true])).run Try.prog w = .ok true w := fun w => (eqStg ⟨sa, sb, sd, se, sv, true⟩ ⟨sa, sb, sd, se, sv, true⟩ w).trans (by simp)
      clear hTz hbz hy hgz HB7 HP7 HT7
      go_wp2_with fail
      refine wp_region_held_drew (S := (fun w' => Below wz.heap.size wz w')) (by kernel_rfl) ((Below.refl _ _).drew) (fun hHeld => ?_)
      refine held_take 0 (v := ?_) rfl (by kernel_rfl) (by kernel_rfl) (by kernel_rfl) (fun _ _ _ h => h) (by rfl) (fun w hS => ?_) (by assumption) ?_
      rotate_left
      · try dsimp only at hS
        go_simp <;> with_reducible rfl
      try simp only [Act.put, List.setIfInBounds_toArray, List.set_cons_zero, List.set_cons_succ]
      refine held_take 1 (v := ?_) rfl (by kernel_rfl) (by kernel_rfl) (by kernel_rfl) (fun _ _ _ h => h) (by rfl) (fun w hS => ?_) (by assumption) ?_
      rotate_left
      · try dsimp only at hS
        go_simp <;> with_reducible rfl
      try simp only [Act.put, List.setIfInBounds_toArray, List.set_cons_zero, List.set_cons_succ]
      refine held_take 2 (v := ?_) rfl (by kernel_rfl) (by kernel_rfl) (by kernel_rfl) (fun _ _ _ h => h) (by rfl) (fun w hS => ?_) (by assumption) ?_
      rotate_left
      · try dsimp only at hS
        go_simp <;> with_reducible rfl
      try simp only [Act.put, List.setIfInBounds_toArray, List.set_cons_zero, List.set_cons_succ]
      refine held_take 3 (v := ?_) rfl (by kernel_rfl) (by kernel_rfl) (by kernel_rfl) (fun _ _ _ h => h) (by rfl) (fun w hS => ?_) (by assumption) ?_
      rotate_left
      · try dsimp only at hS
        go_simp <;> with_reducible rfl
      try simp only [Act.put, List.setIfInBounds_toArray, List.set_cons_zero, List.set_cons_succ]
      refine held_take 5 (v := ?_) rfl (by kernel_rfl) (by kernel_rfl) (by kernel_rfl) (fun _ _ _ h => h) (by rfl) (fun w hS => ?_) (by assumption) ?_
      rotate_left
      · try dsimp only at hS
        go_simp <;> with_reducible rfl
      try simp only [Act.put, List.setIfInBounds_toArray, List.set_cons_zero, List.set_cons_succ]
      refine held_one 4 rfl (by kernel_rfl) (fun K hK => ?_)
      go_simp
      refine Calls.mono (asetting_any gz c ⟨sa, sb, sd, se, sv, true⟩ ⟨sa, sb, sd, se, sv, true⟩ 0 0 zero8 zero8 _ HTz.out.drew) ?_
      rintro e wm ⟨rfl, hbm⟩
      have hbm' : Below wz.heap.size wz wm := (Below.refl wz.heap.size wz).drew.trans (hbm.mono (Nat.le_refl _))
      have HBm := Lib.hid hbm'
      clear hbm
      refine hK.out _ _ (fun w' => Below wz.heap.size wz w') (fun _ h => h) hbm' (fun hHeld => ?_)
      clear hK K
      try simp only [Act.put, List.setIfInBounds_toArray, List.set_cons_zero, List.set_cons_succ]
      refine held_take 6 (v := ?_) rfl (by kernel_rfl) (by kernel_rfl) (by kernel_rfl) (fun _ _ _ h => h) (by rfl) (fun w hS => ?_) (by assumption) ?_
      rotate_left
      · try dsimp only at hS
        go_simp <;> with_reducible rfl
      try simp only [Act.put, List.setIfInBounds_toArray, List.set_cons_zero, List.set_cons_succ]
      refine held_take 7 (v := ?_) rfl (by kernel_rfl) (by kernel_rfl) (by kernel_rfl) (fun _ _ _ h => h) (by rfl) (fun w hS => ?_) (by assumption) ?_
      rotate_left
      · try dsimp only at hS
        go_simp <;> with_reducible rfl
      try simp only [Act.put, List.setIfInBounds_toArray, List.set_cons_zero, List.set_cons_succ]
      refine held_take 8 (v := ?_) rfl (by kernel_rfl) (by kernel_rfl) (by kernel_rfl) (fun _ _ _ h => h) (by rfl) (fun w hS => ?_) (by assumption) ?_
      rotate_left
      · try dsimp only at hS
        go_simp <;> with_reducible rfl
      try simp only [Act.put, List.setIfInBounds_toArray, List.set_cons_zero, List.set_cons_succ]
      refine held_take 9 (v := ?_) rfl (by kernel_rfl) (by kernel_rfl) (by kernel_rfl) (fun _ _ _ h => h) (by rfl) (fun w hS => ?_) (by assumption) ?_
      rotate_left
      · try dsimp only at hS
        go_simp <;> with_reducible rfl
      try simp only [Act.put, List.setIfInBounds_toArray, List.set_cons_zero, List.set_cons_succ]
      refine held_one 10 rfl (by kernel_rfl) (fun K hK => ?_)
      go_simp
      refine Calls.mono (aactive_any gz c ⟨sa, sb, sd, se, sv, true⟩ ⟨sa, sb, sd, se, sv, true⟩ 0 0 zero8 zero8 _ (HTz.out.below HBm.out)) ?_
      rintro e wq ⟨rfl, rfl⟩
      refine hK.out _ _ (fun w' => Below wz.heap.size wz w') (fun _ h => h) HBm.out (fun hHeld => ?_)
      clear hK K
      try simp only [Act.put, List.setIfInBounds_toArray, List.set_cons_zero, List.set_cons_succ]
      refine held_take 11 (v := ?_) rfl (by kernel_rfl) (by kernel_rfl) (by kernel_rfl) (fun _ _ _ h => h) (by rfl) (fun w hS => ?_) (by assumption) ?_
      rotate_left
      · try dsimp only at hS
        go_simp <;> with_reducible rfl
      try simp only [Act.put, List.setIfInBounds_toArray, List.set_cons_zero, List.set_cons_succ]
      refine held_take 12 (v := ?_) rfl (by kernel_rfl) (by kernel_rfl) (by kernel_rfl) (fun _ _ _ h => h) (by rfl) (fun w hS => ?_) (by assumption) ?_
      rotate_left
      · try dsimp only at hS
        go_simp <;> with_reducible rfl
      try simp only [Act.put, List.setIfInBounds_toArray, List.set_cons_zero, List.set_cons_succ]
      refine held_done (by kernel_rfl) ?_
      have HOq : Hid (OnceW w wm gz c ⟨sa, sb, sd, se, sv, true⟩ ⟨sa, sb, sd, se, sv, true⟩ 0 0 zero8 zero8) := Lib.hid ⟨HTz.out.below HBm.out, HPz.out.below HBm.out HPz.out.lt, HBz.out.trans (HBm.out.mono HBz.out.size), HGz.out⟩
      clear y0 y1 y2 y3 y4 y5 e6 hbm'
      go_wp2_with fail
      go_roundw
      case rel => exact ⟨k + 1, gz, _, _, _, _, _, by omega, by go_num, rfl, HOq⟩
      case measure => simp [intOf]; omega
    · have t1 : ¬ ((k : Int) < (len : Int)) := by omega
      have HY := Lib.hid (fun (w' : World) (hb : Below wo.heap.size wo w') => HO.out.2.1.below hb HO.out.2.1.lt)
      have y0 : ∀ w', Below wo.heap.size wo w' → w'.cell? ⟨w.heap.size + 1, 0, none⟩ = some (.int .i64 sa) := fun w' hb => (HY.out w' hb).at 0
      have y1 : ∀ w', Below wo.heap.size wo w' → w'.cell? ⟨w.heap.size + 1, 1, none⟩ = some (.int .i64 sb) := fun w' hb => (HY.out w' hb).at 1
      have y2 : ∀ w', Below wo.heap.size wo w' → w'.cell? ⟨w.heap.size + 1, 2, none⟩ = some (.int .i64 sd) := fun w' hb => (HY.out w' hb).at 2
      have y3 : ∀ w', Below wo.heap.size wo w' → w'.cell? ⟨w.heap.size + 1, 3, none⟩ = some (.int .i64 se) := fun w' hb => (HY.out w' hb).at 3
      have y4 : ∀ w', Below wo.heap.size wo w' → w'.cell? ⟨w.heap.size + 1, 4, none⟩ = some (.int .u8 sv) := fun w' hb => (HY.out w' hb).at 4
      have y5 : ∀ w', Below wo.heap.size wo w' → w'.cell? ⟨w.heap.size + 1, 5, none⟩ = some (.bool true) := fun w' hb => (HY.out w' hb).at 5
      have e6 : ∀ w, (Op.equalIn 10000 36 (.agg #[.int .i64 sa, .int .i64 sb, .int .i64 sd, .int .i64 se, .int .u8 sv, .bool true]) (.agg #[.int .i64 sa, .int .i64 sb, .int .i64 sd, .int .i64 se, .int .u8 sv, .bool true])).run Try.prog w = .ok true w := fun w => (eqStg ⟨sa, sb, sd, se, sv, true⟩ ⟨sa, sb, sd, se, sv, true⟩ w).trans (by simp)
      go_wp2_with fail
      refine wp_region_held_drew (S := (fun w' => Below wo.heap.size wo w')) (by kernel_rfl) ((Below.refl _ _).drew) (fun hHeld => ?_)
      refine held_take 0 (v := ?_) rfl (by kernel_rfl) (by kernel_rfl) (by kernel_rfl) (fun _ _ _ h => h) (by rfl) (fun w hS => ?_) (by assumption) ?_
      rotate_left
      · try dsimp only at hS
        go_simp <;> with_reducible rfl
      try simp only [Act.put, List.setIfInBounds_toArray, List.set_cons_zero, List.set_cons_succ]
      refine held_take 2 (v := ?_) rfl (by kernel_rfl) (by kernel_rfl) (by kernel_rfl) (fun _ _ _ h => h) (by rfl) (fun w hS => ?_) (by assumption) ?_
      rotate_left
      · try dsimp only at hS
        go_simp <;> with_reducible rfl
      try simp only [Act.put, List.setIfInBounds_toArray, List.set_cons_zero, List.set_cons_succ]
      refine held_one 1 rfl (by kernel_rfl) (fun K hK => ?_)
      go_simp
      refine Calls.mono (asetting_any g c ⟨sa, sb, sd, se, sv, true⟩ n od om sz fi _ HT.out.drew) ?_
      rintro e wm ⟨rfl, hbm⟩
      have hbm' : Below wo.heap.size wo wm := (Below.refl wo.heap.size wo).drew.trans (hbm.mono (Nat.le_refl _))
      have HBm := Lib.hid hbm'
      clear hbm
      refine hK.out _ _ (fun w' => Below wo.heap.size wo w') (fun _ h => h) hbm' (fun hHeld => ?_)
      clear hK K
      try simp only [Act.put, List.setIfInBounds_toArray, List.set_cons_zero, List.set_cons_succ]
      refine held_take 3 (v := ?_) rfl (by kernel_rfl) (by kernel_rfl) (by kernel_rfl) (fun _ _ _ h => h) (by rfl) (fun w hS => ?_) (by assumption) ?_
      rotate_left
      · try dsimp only at hS
        go_simp <;> with_reducible rfl
      try simp only [Act.put, List.setIfInBounds_toArray, List.set_cons_zero, List.set_cons_succ]
      refine held_take 4 (v := ?_) rfl (by kernel_rfl) (by kernel_rfl) (by kernel_rfl) (fun _ _ _ h => h) (by rfl) (fun w hS => ?_) (by assumption) ?_
      rotate_left
      · try dsimp only at hS
        go_simp <;> with_reducible rfl
      try simp only [Act.put, List.setIfInBounds_toArray, List.set_cons_zero, List.set_cons_succ]
      refine held_done (by kernel_rfl) ?_
      have HBq := Lib.hid (HO.out.2.2.1.trans (HBm.out.mono HO.out.2.2.1.size))
      clear y0 y1 y2 y3 y4 y5 e6 hbm'
      go_wp2_with fail
      go_ret
      exact ⟨rfl, HBq.out⟩
end Go.Proofs.Ytdbnadhmkfhdkaa
