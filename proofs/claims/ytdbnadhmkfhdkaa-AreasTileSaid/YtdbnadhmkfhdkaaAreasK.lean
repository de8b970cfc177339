/- areas: AreasTile, the walk. -/
import Derived.Test.YtdbnadhmkfhdkaaAreasJ
import Derived.Test.YtdbnadhmkfhdkaaAreasI
namespace Go.Proofs.Ytdbnadhmkfhdkaa
open Go Go.RowKit
set_option linter.unusedVariables false

def TileW (w wr : World) (g : Nat) (c : Cfg) (s n : Stg) : Prop := Tab wr g c s n ∧ Below w.heap.size w wr ∧ w.heap.size ≤ g
theorem TileW.later {w wr wr' : World} {g : Nat} {c : Cfg} {s n : Stg} (h : TileW w wr g c s n) (hT : Tab wr' g c s n) (hG : wr.grownBy wr' (some g)) : TileW w wr' g c s n := ⟨hT, below_gb h.2.1 hG h.2.1.size h.2.2, h.2.2⟩

set_option maxRecDepth 100000 in
set_option maxHeartbeats 2000000 in
theorem atile_any (c : Cfg) (s : Stg) (w : World) (hwf : c.wf) (hs : s.wf) :
    Calls Try.prog 5 #[.agg #[.int .i64 c.blocks, .int .i64 c.pages, .int .i64 c.sector, .int .i64 c.user, .int .i64 c.boot, .int .i64 c.rpa, .int .i64 c.group, .int .i64 c.cache, .int .i64 c.spare], .agg #[.int .i64 s.a, .int .i64 s.b, .int .i64 s.d, .int .i64 s.e, .int .u8 s.v, .bool s.dn]] w fun e w' => e = .returned (.bool true) ∧ Below w.heap.size w w' := by
  have HW := Lib.hid hwf
  have HS := Lib.hid hs
  have n1 : HasB ((w.alloc (.cells #[.int .i64 c.blocks, .int .i64 c.pages, .int .i64 c.sector, .int .i64 c.user, .int .i64 c.boot, .int .i64 c.rpa, .int .i64 c.group, .int .i64 c.cache, .int .i64 c.spare] 23)).alloc (.cells #[.int .i64 s.a, .int .i64 s.b, .int .i64 s.d, .int .i64 s.e, .int .u8 s.v, .bool s.dn] 36)) w.heap.size #[.int .i64 c.blocks, .int .i64 c.pages, .int .i64 c.sector, .int .i64 c.user, .int .i64 c.boot, .int .i64 c.rpa, .int .i64 c.group, .int .i64 c.cache, .int .i64 c.spare] 23 := (HasB.new w _ _).alloc _
  have n2 : HasB ((w.alloc (.cells #[.int .i64 c.blocks, .int .i64 c.pages, .int .i64 c.sector, .int .i64 c.user, .int .i64 c.boot, .int .i64 c.rpa, .int .i64 c.group, .int .i64 c.cache, .int .i64 c.spare] 23)).alloc (.cells #[.int .i64 s.a, .int .i64 s.b, .int .i64 s.d, .int .i64 s.e, .int .u8 s.v, .bool s.dn] 36)) (w.heap.size + 1) #[.int .i64 s.a, .int .i64 s.b, .int .i64 s.d, .int .i64 s.e, .int .u8 s.v, .bool s.dn] 36 := HasB.new' (by simp) _ _
  have hb0 : Below w.heap.size w ((w.alloc (.cells #[.int .i64 c.blocks, .int .i64 c.pages, .int .i64 c.sector, .int .i64 c.user, .int .i64 c.boot, .int .i64 c.rpa, .int .i64 c.group, .int .i64 c.cache, .int .i64 c.spare] 23)).alloc (.cells #[.int .i64 s.a, .int .i64 s.b, .int .i64 s.d, .int .i64 s.e, .int .u8 s.v, .bool s.dn] 36)) := ((Below.refl _ _).alloc (Nat.le_refl _) _).alloc (by simp) _
  have N1 := Lib.hid n1
  have N2 := Lib.hid n2
  have HB0 := Lib.hid hb0
  clear n1 n2 hb0 hwf hs
  go_enter Try.func5, Try.ntmps5
  go_wp2_with fail
  refine (aknown_any _).mono ?_
  rintro e w1 ⟨rfl, hb1⟩
  have M1 := Lib.hid (N1.out.below hb1 N1.out.lt)
  have M2 := Lib.hid (N2.out.below hb1 N2.out.lt)
  have HB1 : Hid (Below w.heap.size w w1) := Lib.hid (HB0.out.trans (hb1.mono HB0.out.size))
  clear hb1 N1 N2 HB0
  obtain ⟨l1, x0, x1, x2, x3, x4, x5, x6, x7, x8⟩ := HasB.nine M1.out
  obtain ⟨l2, y0, y1, y2, y3, y4, y5⟩ := HasB.six M2.out
  go_wp2_with fail
  refine (anew_any c s _ HW.out HS.out).mono ?_
  rintro e w2 ⟨hR, hb2⟩
  have P1 := Lib.hid (M1.out.below hb2 M1.out.lt)
  have HB2 : Hid (Below w.heap.size w w2) := Lib.hid (HB1.out.trans (hb2.mono HB1.out.size))
  clear x0 x1 x2 x3 x4 x5 x6 x7 x8 l1 y0 y1 y2 y3 y4 y5 l2
  rcases hR with ⟨hg0, rfl⟩ | ⟨hg0, g, hg, rfl, hT⟩
  · clear hb2 hg0
    go_wp2_with fail
    go_ret
    exact ⟨rfl, HB2.out⟩
  have hck : checkOf c = 0 := by
    rcases checkOf_two c with h | h
    · exact h
    · rw [good_bad h] at hg0; cases hg0
  have HCk := Lib.hid hck
  have hok := (check_zero hck).1
  have HOk := Lib.hid hok
  have hnow := now_ok hg0
  have HNow := Lib.hid hnow
  have HFew := Lib.hid (few_of hok hnow)
  obtain ⟨n, hn⟩ : ∃ n, n = nowOf s := ⟨_, rfl⟩
  rw [← hn] at hT HNow HFew
  have HO2 : Hid (TileW w w2 g c s n) := Lib.hid ⟨.inl hT, HB2.out, Nat.le_trans HB1.out.size hg⟩
  have hcb := hok.2.2.2.2.2.2.2.2
  have HTot := Lib.hid (pre_total c n)
  have HAll := Lib.hid (all_total c n)
  obtain ⟨l1, x0, x1, x2, x3, x4, x5, x6, x7, x8⟩ := HasB.nine P1.out
  clear hg0 hck hnow hn hT hg hb2 M1 M2 HB1 HB2 hok
  go_wp2_with fail
  refine (rcheck_ok c _ HCk.out).mono ?_
  rintro e w3 ⟨rfl, hb3⟩
  have Q1 := Lib.hid (P1.out.below hb3 l1)
  have HO3 : Hid (TileW w w3 g c s n) := Lib.hid ⟨HO2.out.1.below hb3, HO2.out.2.1.trans (hb3.mono HO2.out.2.1.size), HO2.out.2.2⟩
  clear hb3 x0 x1 x2 x3 x4 x5 x6 x7 x8 l1 HO2 P1
  obtain ⟨l1, x0, x1, x2, x3, x4, x5, x6, x7, x8⟩ := HasB.nine Q1.out
  obtain ⟨c9, c10, c11, c12, c13, c14, c15⟩ := hcb
  obtain ⟨N, hN⟩ : ∃ N : Nat, c.user + 2 * c.boot + c.rpa = (N : Int) := ⟨(c.user + 2 * c.boot + c.rpa).toNat, by omega⟩
  rw [hN] at HTot HAll
  have hNb : (N : Int) ≤ 20000 := by omega
  clear c15
  by_cases hbig : 2000 < N
  · have t1 : 2000 < (N : Int) := by omega
    go_wp2_with fail
    go_ret
    exact ⟨rfl, HO3.out.2.1⟩
  have t1 : ¬ (2000 < (N : Int)) := by omega
  go_wp2_with fail
  go_loopw [8, 9] (fun x i wr => ∃ k : Nat, k ≤ 10 ∧ i = .int .i64 ((k : Int) - 1) ∧ x = .int .i64 (allS c n k) ∧ Hid (TileW w wr g c s n)) (fun _ i _ => (9 - intOf i).toNat)
  case atStart => exact ⟨0, by omega, rfl, rfl, HO3⟩
  case round =>
    clear HO3 x0 x1 x2 x3 x4 x5 x6 x7 x8 l1 hN c9 c10 c11 c12 c13 c14
    obtain ⟨k, hk, rfl, rfl, HO⟩ := hrel
    obtain ⟨wo, rfl⟩ : ∃ wo : World, wo = wr := ⟨_, rfl⟩
    by_cases hlt : k < 10
    · have t2 : (k : Int) - 1 ≤ 8 := by omega
      have hAb := all_bd c n HOk.out HFew.out k hk
      have hAb2 := all_bd c n HOk.out HFew.out (k + 1) (by omega)
      have HSt : Hid (allS c n (k + 1) = allS c n k + szOf c n ((k : Int) - 1)) := Lib.hid rfl
      obtain ⟨A, hA⟩ : ∃ A, A = allS c n k := ⟨_, rfl⟩
      obtain ⟨Z, hZ⟩ : ∃ Z, Z = szOf c n ((k : Int) - 1) := ⟨_, rfl⟩
      rw [HSt.out] at hAb2
      rw [← hA, ← hZ] at hAb2 HSt
      rw [← hA] at hAb ⊢
      have HZ := Lib.hid hZ
      have hs1 : -41943040 ≤ A + Z ∧ A + Z ≤ 41943040 := by omega
      have hs2 : -41943040 ≤ A ∧ A ≤ 41943040 := by omega
      clear hA hZ hAb hAb2
      go_wp2_with fail
      refine (asize_any g c s n ((k : Int) - 1) _ HO.out.1 HOk.out HFew.out).mono ?_
      rintro e w5 ⟨rfl, hT5, hG5⟩
      rw [← HZ.out]
      have HO5 := Lib.hid (HO.out.later hT5 hG5)
      clear hT5 hG5
      go_wp2_with fail
      go_roundw
      case rel => exact ⟨k + 1, by omega, by go_num, by rw [HSt.out], HO5⟩
      case measure => simp [intOf]; omega
    · have hk10 : k = 10 := by omega
      have hAk : allS c n k = (N : Int) := by rw [hk10]; exact HAll.out
      rw [hAk]
      have t2 : ¬ ((k : Int) - 1 ≤ 8) := by omega
      have t2d : decide ((k : Int) - 1 ≤ 8) = false := by simp; omega
      clear hk10 hAk hk hlt
      go_wp2_with fail
      go_loopw [10] (fun i wr => ∃ p : Nat, p ≤ N ∧ i = .int .i64 (p : Int) ∧ Hid (TileW w wr g c s n)) (fun i _ => N - (intOf i).toNat)
      case atStart => exact ⟨0, by omega, rfl, HO⟩
      case round =>
        clear HO
        obtain ⟨p, hp, rfl, HO⟩ := hrel
        obtain ⟨wp, rfl⟩ : ∃ wp : World, wp = wr := ⟨_, rfl⟩
        by_cases hlp : p < N
        · have t3 : (p : Int) < (N : Int) := by omega
          go_wp2_with fail
          refine (aof_any g c s n (p : Int) _ HO.out.1 HOk.out HFew.out ⟨by omega, by omega⟩).mono ?_
          rintro e w5 ⟨hR, hT5, hG5⟩
          have HO5 := Lib.hid (HO.out.later hT5 hG5)
          clear hT5 hG5
          rcases hR with ⟨j, hj, hj1, hj2, rfl⟩ | ⟨hno, _⟩
          case inr =>
            exfalso
            have h8 := pre_none c n (p : Int) (by omega) hno 8 (by omega)
            rw [HTot.out] at h8
            omega
          have hql := ordN_lt j hj
          have hfi := fi_ord c n j hj
          have hsz := szOf_in c n (ordN j) hql
          have hst : preA c n (j + 1) = preA c n j + szI c n (ordN j) := rfl
          rw [hst] at hj2
          have hPl : plR c n (ordN j : Nat) ((p : Int) - preA c n j) = .returned (.tuple #[.int .i64 (p : Int), .bool true]) := by
            unfold plR
            rw [hsz, if_neg (by omega)]
            simp only [Int.toNat_natCast]
            rw [hfi, show preA c n j + ((p : Int) - preA c n j) = (p : Int) by omega]
          have HPl := Lib.hid hPl
          obtain ⟨q, hq⟩ : ∃ q, q = ordN j := ⟨_, rfl⟩
          obtain ⟨K, hK⟩ : ∃ K, K = (p : Int) - preA c n j := ⟨_, rfl⟩
          have hK0 : 0 ≤ K := by omega
          have hKz : K < szI c n (ordN j) := by omega
          have hZb := szI_bd HOk.out HFew.out (ordN j) hql
          rw [← hq] at hql hKz hZb HPl ⊢
          rw [← hK] at HPl ⊢
          clear hj1 hj2 hfi hsz hst hPl hq hK hj
          go_wp2_with fail
          refine (aplace_any g c s n (q : Int) K _ HO5.out.1 HOk.out HFew.out (by unfold I64; omega)).mono ?_
          rintro e w6 ⟨he, hT6, hG6⟩
          rw [HPl.out] at he
          subst he
          have HO6 := Lib.hid (HO5.out.later hT6 hG6)
          obtain ⟨Z, hZ⟩ : ∃ Z, Z = szI c n q := ⟨_, rfl⟩
          rw [← hZ] at hKz hZb
          have HZ := Lib.hid hZ
          clear hT6 hG6 hZ HO5
          go_wp2_with fail
          refine (asize_in g c s n q hql _ HO6.out.1 HOk.out HFew.out).mono ?_
          rintro e w7 ⟨rfl, hT7, hG7⟩
          rw [← HZ.out]
          have HO7 := Lib.hid (HO6.out.later (.inr hT7) hG7)
          clear hT7 hG7 HO6
          go_wp2_with fail
          go_roundw
          case rel => exact ⟨p + 1, by omega, by go_num, HO7⟩
          case measure => simp [intOf]; omega
        · obtain rfl : p = N := by omega
          have t3 : ¬ ((p : Int) < (p : Int)) := by omega
          go_wp2_with fail
          refine (aof_any g c s n (p : Int) _ HO.out.1 HOk.out HFew.out ⟨by omega, by omega⟩).mono ?_
          rintro e w5 ⟨hR, hT5, hG5⟩
          have HO5 := Lib.hid (HO.out.later hT5 hG5)
          clear hT5 hG5
          rcases hR with ⟨j, hj, hj1, hj2, _⟩ | ⟨_, rfl⟩
          case inl =>
            exfalso
            have hm := pre_mono c n HOk.out HNow.out (8 - (j + 1)) (j + 1) (by omega)
            rw [show j + 1 + (8 - (j + 1)) = 8 by omega, HTot.out] at hm
            omega
          go_wp2_with fail
          refine (aof_any g c s n (-1) _ HO5.out.1 HOk.out HFew.out ⟨by omega, by omega⟩).mono ?_
          rintro e w6 ⟨hR, hT6, hG6⟩
          have HO6 := Lib.hid (HO5.out.later hT6 hG6)
          clear hT6 hG6
          rcases hR with ⟨j, hj, hj1, hj2, _⟩ | ⟨_, rfl⟩
          case inl =>
            exfalso
            have hm := pre_mono c n HOk.out HNow.out j 0 (by omega)
            rw [show 0 + j = j by omega] at hm
            have : preA c n 0 = 0 := rfl
            omega
          go_wp2_with fail
          go_ret
          exact ⟨rfl, HO6.out.2.1⟩
end Go.Proofs.Ytdbnadhmkfhdkaa
