/- areas: Of; where the areas lie (plain). -/
import Derived.Test.YtdbnadhmkfhdkaaAreasG
namespace Go.Proofs.Ytdbnadhmkfhdkaa
open Go Go.RowKit
set_option linter.unusedVariables false

theorem fi_ord (c : Cfg) (n : Stg) (j : Nat) (h : j < 8) : fiI c n (ordN j) = preA c n j := by
  have e : fiTo c n 8 = [.int .i64 (preA c n 0), .int .i64 (preA c n 5), .int .i64 (preA c n 6), .int .i64 (preA c n 7), .int .i64 (preA c n 1), .int .i64 (preA c n 2), .int .i64 (preA c n 3), .int .i64 (preA c n 4)] := rfl
  unfold fiI
  rw [e]
  match j, h with
  | 0, _ => rfl
  | 1, _ => rfl
  | 2, _ => rfl
  | 3, _ => rfl
  | 4, _ => rfl
  | 5, _ => rfl
  | 6, _ => rfl
  | 7, _ => rfl
theorem szOf_in (c : Cfg) (n : Stg) (k : Nat) (h : k < 8) : szOf c n (k : Int) = szI c n k := by unfold szOf; rw [if_neg (by omega)]; simp
theorem tile_sum (c : Cfg) (n : Stg) (hok : OkC c) (h : NowOk c n) : 0 ≤ n.a * c.group ∧ 0 ≤ n.b * c.group ∧ 0 ≤ n.d * c.group ∧ 0 ≤ n.e * c.group ∧ 0 ≤ c.user - n.a * c.group - n.b * c.group - n.d * c.group - n.e * c.group := by
  obtain ⟨c1, c2, c3, c4, c5, c6, c7, c8, c9, c10, c11, c12, c13, c14, c15, c16, c17, c18, c19, c20, c21, c22⟩ := hok
  cases hd : n.dn with
  | false =>
    rw [h.2 hd]
    simp [Stg.zero]
    omega
  | true =>
    obtain ⟨s1, s2, s3, s4, s5⟩ := h.1 hd
    refine ⟨Int.mul_nonneg s1 (by omega), Int.mul_nonneg s2 (by omega), Int.mul_nonneg s3 (by omega), Int.mul_nonneg s4 (by omega), ?_⟩
    have hu : c.group * (c.user / c.group) = c.user := Int.mul_ediv_cancel' (Int.dvd_of_emod_eq_zero c17)
    have h1 : (n.a + n.b + n.d + n.e + 1) * c.group ≤ c.user / c.group * c.group := Int.mul_le_mul_of_nonneg_right (by omega) (by omega)
    rw [Int.mul_comm (c.user / c.group), hu, Int.add_mul, Int.add_mul, Int.add_mul, Int.add_mul] at h1
    omega
theorem sz_pos (c : Cfg) (n : Stg) (hok : OkC c) (h : NowOk c n) (q : Nat) (hq : q < 8) : 0 ≤ szI c n q := by
  obtain ⟨t1, t2, t3, t4, t5⟩ := tile_sum c n hok h
  obtain ⟨c1, c2, c3, c4, c5, c6, c7, c8, c9, c10, c11, c12, c13, c14, c15, c16, c17, c18, c19, c20, c21, c22⟩ := hok
  match q, hq with
  | 0, _ => exact t5
  | 1, _ => show 0 ≤ c.boot; omega
  | 2, _ => show 0 ≤ c.boot; omega
  | 3, _ => show 0 ≤ c.rpa; omega
  | 4, _ => exact t1
  | 5, _ => exact t2
  | 6, _ => exact t3
  | 7, _ => exact t4
theorem pre_total (c : Cfg) (n : Stg) : preA c n 8 = c.user + 2 * c.boot + c.rpa := by
  have e0 : preA c n 8 = ((((((((0 + szI c n 0) + szI c n 4) + szI c n 5) + szI c n 6) + szI c n 7) + szI c n 1) + szI c n 2) + szI c n 3) := rfl
  have s0 : szI c n 0 = c.user - n.a * c.group - n.b * c.group - n.d * c.group - n.e * c.group := rfl
  have s1 : szI c n 1 = c.boot := rfl
  have s2 : szI c n 2 = c.boot := rfl
  have s3 : szI c n 3 = c.rpa := rfl
  have s4 : szI c n 4 = n.a * c.group := rfl
  have s5 : szI c n 5 = n.b * c.group := rfl
  have s6 : szI c n 6 = n.d * c.group := rfl
  have s7 : szI c n 7 = n.e * c.group := rfl
  rw [e0, s0, s1, s2, s3, s4, s5, s6, s7]
  omega
/-- The sizes of all areas, from -1 on. -/
def allS (c : Cfg) (n : Stg) : Nat → Int
  | 0 => 0
  | k + 1 => allS c n k + szOf c n ((k : Int) - 1)
theorem all_total (c : Cfg) (n : Stg) : allS c n 10 = c.user + 2 * c.boot + c.rpa := by
  have e0 : allS c n 10 = 0 + szOf c n (-1) + szOf c n ((0 : Nat) : Int) + szOf c n ((1 : Nat) : Int) + szOf c n ((2 : Nat) : Int) + szOf c n ((3 : Nat) : Int) + szOf c n ((4 : Nat) : Int) + szOf c n ((5 : Nat) : Int) + szOf c n ((6 : Nat) : Int) + szOf c n ((7 : Nat) : Int) + szOf c n 8 := rfl
  have m1 : szOf c n (-1) = 0 := by unfold szOf; rw [if_pos (by decide)]
  have m8 : szOf c n 8 = 0 := by unfold szOf; rw [if_pos (by decide)]
  rw [e0, m1, m8, szOf_in c n 0 (by decide), szOf_in c n 1 (by decide), szOf_in c n 2 (by decide), szOf_in c n 3 (by decide), szOf_in c n 4 (by decide), szOf_in c n 5 (by decide), szOf_in c n 6 (by decide), szOf_in c n 7 (by decide)]
  have e1 : preA c n 8 = ((((((((0 + szI c n 0) + szI c n 4) + szI c n 5) + szI c n 6) + szI c n 7) + szI c n 1) + szI c n 2) + szI c n 3) := rfl
  have := pre_total c n
  omega
theorem all_bd (c : Cfg) (n : Stg) (hok : OkC c) (hf : Few n) : ∀ k : Nat, k ≤ 10 → -(4194304 * (k : Int)) ≤ allS c n k ∧ allS c n k ≤ 4194304 * (k : Int)
  | 0, _ => by simp [allS]
  | k + 1, hk => by
    have h1 := all_bd c n hok hf k (by omega)
    have h2 : -4194304 ≤ szOf c n ((k : Int) - 1) ∧ szOf c n ((k : Int) - 1) ≤ 4194304 := by
      unfold szOf
      split
      · omega
      · exact szI_bd hok hf _ (by omega)
    rw [allS]
    omega
theorem pre_mono (c : Cfg) (n : Stg) (hok : OkC c) (h : NowOk c n) : ∀ (d j : Nat), j + d ≤ 8 → preA c n j ≤ preA c n (j + d)
  | 0, j, _ => Int.le_refl _
  | d + 1, j, hd => by
    have h1 := pre_mono c n hok h d j (by omega)
    have h2 := sz_pos c n hok h (ordN (j + d)) (ordN_lt _ (by omega))
    show preA c n j ≤ preA c n (j + d) + szI c n (ordN (j + d))
    omega
theorem pre_none (c : Cfg) (n : Stg) (p : Int) (hp : 0 ≤ p) (h : ∀ j, j < 8 → ¬ (preA c n j ≤ p ∧ p < preA c n (j + 1))) : ∀ m, m ≤ 8 → preA c n m ≤ p
  | 0, _ => hp
  | m + 1, hm => by
    have h1 := pre_none c n p hp h m (by omega)
    have h2 := h m (by omega)
    omega

/-- What Of returns. -/
def OfR (c : Cfg) (n : Stg) (p : Int) (e : Ending) : Prop :=
  (∃ j, j < 8 ∧ preA c n j ≤ p ∧ p < preA c n (j + 1) ∧ e = .returned (.tuple #[.int .i64 (ordN j : Nat), .int .i64 (p - preA c n j), .bool true])) ∨
  ((∀ j, j < 8 → ¬ (preA c n j ≤ p ∧ p < preA c n (j + 1))) ∧ e = .returned (.tuple #[.int .i64 0, .int .i64 0, .bool false]))

set_option maxRecDepth 100000 in
set_option maxHeartbeats 2000000 in
theorem aof_any (g : Nat) (c : Cfg) (s n : Stg) (p : Int) (w : World) (h : Tab w g c s n) (hok : OkC c) (hf : Few n) (hp : -1099511627776 ≤ p ∧ p ≤ 1099511627776) :
    Calls Try.prog 22 #[.pointer (some ⟨g, 0, none⟩), .int .i64 p] w fun e w' => OfR c n p e ∧ Tab w' g c s n ∧ w.grownBy w' (some g) := by
  have HT := Lib.hid h
  obtain ⟨POST, hPOST⟩ : ∃ POST : Ending → World → Prop, POST = fun e w' => OfR c n p e ∧ Tab w' g c s n ∧ w.grownBy w' (some g) := ⟨_, rfl⟩
  rw [← hPOST]
  have HPost := Lib.hid hPOST
  clear hPOST h
  have HOrd : Hid (∀ k : Nat, k < 8 → ∀ w, (Instr.index 98 (.agg #[.int .i64 0, .int .i64 4, .int .i64 5, .int .i64 6, .int .i64 7, .int .i64 1, .int .i64 2, .int .i64 3]) (.int .i64 (k : Int))).run Try.prog w = .ok (.int .i64 (ordN k : Nat)) w) := Lib.hid (fun k hk w => index_arr 98 3 8 _ .i64 k _ Try.underlying98 Try.sizeOf3 Try.isAgg3 hk (by
    match k, hk with
    | 0, _ => rfl
    | 1, _ => rfl
    | 2, _ => rfl
    | 3, _ => rfl
    | 4, _ => rfl
    | 5, _ => rfl
    | 6, _ => rfl
    | 7, _ => rfl))
  go_enter Try.func22, Try.ntmps22
  go_wp2_with fail
  refine (reckon_any g c s n _ HT.out hok hf).mono ?_
  rintro e w1 ⟨rfl, hT, hG⟩
  have HT1 := Lib.hid hT
  have HG1 := Lib.hid hG
  clear hT hG HT
  go_wp2_with fail
  refine (order_any w1).mono ?_
  rintro e w2 ⟨rfl, hb2⟩
  have HR2 : Hid (TabW w2 g c s n 1 0 (szV c n).toList (fiTo c n 8) ∧ w.grownBy w2 (some g)) := Lib.hid ⟨HT1.out.below hb2, gb_call HG1.out hb2⟩
  clear hb2 HT1 HG1
  go_wp2_with fail
  go_loopw [13] (fun i wr => ∃ k : Nat, k ≤ 8 ∧ i = .int .i64 (k : Int) ∧ Hid (∀ j, j < k → ¬ (preA c n j ≤ p ∧ p < preA c n (j + 1))) ∧ Hid (TabW wr g c s n 1 0 (szV c n).toList (fiTo c n 8) ∧ w.grownBy wr (some g))) (fun i _ => 8 - (intOf i).toNat)
  case atStart => exact ⟨0, by omega, rfl, Lib.hid (fun j hj => by omega), HR2⟩
  case round =>
    clear HR2
    obtain ⟨k, hk, rfl, HNo, HR⟩ := hrel
    obtain ⟨wo, rfl⟩ : ∃ wo : World, wo = wr := ⟨_, rfl⟩
    by_cases hlt : k < 8
    · have t1 : (k : Int) < 8 := by omega
      have hik := HOrd.out k hlt
      have hql := ordN_lt k hlt
      have hPb := preA_bd hok hf k hk
      have hSb := szI_bd hok hf (ordN k) hql
      have HPs : Hid (preA c n (k + 1) = preA c n k + szI c n (ordN k)) := Lib.hid rfl
      have hcz : wo.cell? ⟨g, 24 + ordN k, none⟩ = some (.int .i64 (szI c n (ordN k))) := by rw [HR.out.1.szAt _ hql]; exact sz_at c n _ hql
      have hcf : wo.cell? ⟨g, 32 + ordN k, none⟩ = some (.int .i64 (preA c n k)) := by rw [HR.out.1.fiAt _ hql, ← fi_ord c n k hlt]; exact (fi_at c n _ hql).1
      obtain ⟨q, hq⟩ : ∃ q, q = ordN k := ⟨_, rfl⟩
      obtain ⟨F, hF⟩ : ∃ F, F = preA c n k := ⟨_, rfl⟩
      obtain ⟨Z, hZ⟩ : ∃ Z, Z = szI c n (ordN k) := ⟨_, rfl⟩
      rw [← hZ] at hcz hSb HPs
      rw [← hF] at hPb HPs hcf
      rw [← hq] at hik hql hcz hcf
      have HQ := Lib.hid hq
      have HF := Lib.hid hF
      have hFb : -33554432 ≤ F ∧ F ≤ 33554432 := by omega
      have t2 : (0 : Int) ≤ (q : Int) ∧ (q : Int) < 8 := by omega
      have hw1 : IntKind.i64.wrap (p - F) = p - F := wr64 _ (by omega) (by omega)
      clear hq hF hZ hPb
      by_cases h1 : F ≤ p
      · by_cases h2 : p - F < Z
        · go_wp2_with fail
          go_ret3
          rw [HPost.out]
          refine ⟨.inl ⟨k, hlt, by rw [← HF.out]; exact h1, by rw [HPs.out]; omega, ?_⟩, .inr HR.out.1, HR.out.2⟩
          rw [← HQ.out, ← HF.out]; rfl
        · have HNn : Hid (∀ j, j < k + 1 → ¬ (preA c n j ≤ p ∧ p < preA c n (j + 1))) := Lib.hid (fun j hj => by
            by_cases hjk : j = k
            · rw [hjk, HPs.out]; omega
            · exact HNo.out j (by omega))
          go_wp2_with fail
          go_roundw
          case rel => exact ⟨k + 1, by omega, by go_num, HNn, HR⟩
          case measure => simp [intOf]; omega
      · have HNn : Hid (∀ j, j < k + 1 → ¬ (preA c n j ≤ p ∧ p < preA c n (j + 1))) := Lib.hid (fun j hj => by
          by_cases hjk : j = k
          · rw [hjk, ← HF.out]; omega
          · exact HNo.out j (by omega))
        go_wp2_with fail
        go_roundw
        case rel => exact ⟨k + 1, by omega, by go_num, HNn, HR⟩
        case measure => simp [intOf]; omega
    · obtain rfl : k = 8 := by omega
      go_wp2_with fail
      go_ret3
      rw [HPost.out]
      exact ⟨.inr ⟨HNo.out, rfl⟩, .inr HR.out.1, HR.out.2⟩
end Go.Proofs.Ytdbnadhmkfhdkaa
