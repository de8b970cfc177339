/- areas: Of, Enhanced of the program, exactly. -/
import Derived.Test.YtdbnadhmkfhdkaaAreasJ
namespace Go.Proofs.Ytdbnadhmkfhdkaa
open Go Go.RowKit
set_option linter.unusedVariables false

/-- The area in whose stretch a place lies. -/
def inJ (c : Cfg) (n : Stg) (p : Int) (j : Nat) : Bool := decide (preA c n j ≤ p ∧ p < preA c n (j + 1))
def ofJ (c : Cfg) (n : Stg) (p : Int) : Option Nat := (List.range 8).find? (inJ c n p)
theorem ofJ_some {c : Cfg} {n : Stg} {p : Int} (hok : OkC c) (h : NowOk c n) {j : Nat} (hj : j < 8) (h1 : preA c n j ≤ p) (h2 : p < preA c n (j + 1)) : ofJ c n p = some j := by
  unfold ofJ
  rw [List.find?_range_eq_some]
  refine ⟨decide_eq_true ⟨h1, h2⟩, List.mem_range.2 hj, fun i hi => ?_⟩
  have := pre_mono c n hok h (j - (i + 1)) (i + 1) (by omega)
  rw [show i + 1 + (j - (i + 1)) = j by omega] at this
  have hf : inJ c n p i = false := decide_eq_false (fun k => by have := k.2; omega)
  simp [hf]
theorem ofJ_none {c : Cfg} {n : Stg} {p : Int} (h : ∀ j, j < 8 → ¬ (preA c n j ≤ p ∧ p < preA c n (j + 1))) : ofJ c n p = none := by
  unfold ofJ
  rw [List.find?_eq_none]
  intro j hj
  have hf : inJ c n p j = false := decide_eq_false (h j (List.mem_range.1 hj))
  simp [hf]
theorem ofJ_lt {c : Cfg} {n : Stg} {p : Int} {j : Nat} (h : ofJ c n p = some j) : j < 8 := List.mem_range.1 (List.mem_of_find?_eq_some h)
theorem pre_nonneg {c : Cfg} {n : Stg} (hok : OkC c) (h : NowOk c n) {j : Nat} (hj : j ≤ 8) : 0 ≤ preA c n j := by
  have := pre_mono c n hok h j 0 (by omega)
  rw [Nat.zero_add] at this
  exact this
def ofA (c : Cfg) (n : Stg) (p : Int) : Int := match ofJ c n p with | some j => (ordN j : Nat) | none => 0
def ofS (c : Cfg) (n : Stg) (p : Int) : Int := match ofJ c n p with | some j => p - preA c n j | none => 0
def ofK (c : Cfg) (n : Stg) (p : Int) : Bool := (ofJ c n p).isSome
/-- What Of returns. -/
def ofE (c : Cfg) (n : Stg) (p : Int) : Ending := .returned (.tuple #[.int .i64 (ofA c n p), .int .i64 (ofS c n p), .bool (ofK c n p)])
theorem ofE_some {c : Cfg} {n : Stg} {p : Int} {j : Nat} (h : ofJ c n p = some j) : ofE c n p = .returned (.tuple #[.int .i64 (ordN j : Nat), .int .i64 (p - preA c n j), .bool true]) := by
  unfold ofE ofA ofS ofK; rw [h]; rfl
theorem ofE_none {c : Cfg} {n : Stg} {p : Int} (h : ofJ c n p = none) : ofE c n p = .returned (.tuple #[.int .i64 0, .int .i64 0, .bool false]) := by
  unfold ofE ofA ofS ofK; rw [h]; rfl
/-- Is a place enhanced? -/
def enhB (c : Cfg) (n : Stg) (p : Int) : Bool := match ofJ c n p with | some j => decide (1 ≤ ordN j ∧ ordN j ≤ 3) || (bits BinOp.and IntKind.u8 (n.v / 2 ^ ordN j) 1 == 1) | none => false

set_option maxRecDepth 100000 in
set_option maxHeartbeats 2000000 in
theorem aofx_any (g : Nat) (c : Cfg) (s n : Stg) (p : Int) (w : World) (h : Tab w g c s n) (hok : OkC c) (hno : NowOk c n) (hp : I64 p) :
    Calls Try.prog 22 #[.pointer (some ⟨g, 0, none⟩), .int .i64 p] w fun e w' => e = ofE c n p ∧ Tab w' g c s n ∧ w.grownBy w' (some g) := by
  have HT := Lib.hid h
  have hf : Few n := few_of hok hno
  have HNow := Lib.hid hno
  obtain ⟨POST, hPOST⟩ : ∃ POST : Ending → World → Prop, POST = fun e w' => e = ofE c n p ∧ Tab w' g c s n ∧ w.grownBy w' (some g) := ⟨_, rfl⟩
  rw [← hPOST]
  have HPost := Lib.hid hPOST
  clear hPOST h hno
  have HOrd : Hid (∀ k : Nat, k < 8 → ∀ w, (Instr.index 98 (.agg #[.int .i64 0, .int .i64 4, .int .i64 5, .int .i64 6, .int .i64 7, .int .i64 1, .int .i64 2, .int .i64 3]) (.int .i64 (k : Int))).run Try.prog w = .ok (.int .i64 (ordN k : Nat)) w) := Lib.hid (fun k hk w => index_arr 98 3 8 _ .i64 k _ Try.underlying98 Try.sizeOf3 Try.isAgg3 hk (by
    match k, hk with
    | 0, _ => rfl
    | 1, _ => rfl
    | 2, _ => rfl
    | 3, _ => rfl
    | 4, _ => rfl
    | 5, _ => rfl
    | 6, _ => rfl
    | 7, _ => rfl))
  go_enter Try.func22, Try.ntmps22
  go_wp2_with fail
  refine (reckon_any g c s n _ HT.out hok hf).mono ?_
  rintro e w1 ⟨rfl, hT, hG⟩
  have HT1 := Lib.hid hT
  have HG1 := Lib.hid hG
  clear hT hG HT
  go_wp2_with fail
  refine (order_any w1).mono ?_
  rintro e w2 ⟨rfl, hb2⟩
  have HR2 : Hid (TabW w2 g c s n 1 0 (szV c n).toList (fiTo c n 8) ∧ w.grownBy w2 (some g)) := Lib.hid ⟨HT1.out.below hb2, gb_call HG1.out hb2⟩
  clear hb2 HT1 HG1
  go_wp2_with fail
  go_loopw [13] (fun i wr => ∃ k : Nat, k ≤ 8 ∧ i = .int .i64 (k : Int) ∧ Hid (∀ j, j < k → ¬ (preA c n j ≤ p ∧ p < preA c n (j + 1))) ∧ Hid (TabW wr g c s n 1 0 (szV c n).toList (fiTo c n 8) ∧ w.grownBy wr (some g))) (fun i _ => 8 - (intOf i).toNat)
  case atStart => exact ⟨0, by omega, rfl, Lib.hid (fun j hj => by omega), HR2⟩
  case round =>
    clear HR2
    obtain ⟨k, hk, rfl, HNo, HR⟩ := hrel
    obtain ⟨wo, rfl⟩ : ∃ wo : World, wo = wr := ⟨_, rfl⟩
    by_cases hlt : k < 8
    · have t1 : (k : Int) < 8 := by omega
      have hik := HOrd.out k hlt
      have hql := ordN_lt k hlt
      have hPb := preA_bd hok hf k hk
      have hSb := szI_bd hok hf (ordN k) hql
      have HPs : Hid (preA c n (k + 1) = preA c n k + szI c n (ordN k)) := Lib.hid rfl
      have hcz : wo.cell? ⟨g, 24 + ordN k, none⟩ = some (.int .i64 (szI c n (ordN k))) := by rw [HR.out.1.szAt _ hql]; exact sz_at c n _ hql
      have hcf : wo.cell? ⟨g, 32 + ordN k, none⟩ = some (.int .i64 (preA c n k)) := by rw [HR.out.1.fiAt _ hql, ← fi_ord c n k hlt]; exact (fi_at c n _ hql).1
      obtain ⟨q, hq⟩ : ∃ q, q = ordN k := ⟨_, rfl⟩
      obtain ⟨F, hF⟩ : ∃ F, F = preA c n k := ⟨_, rfl⟩
      obtain ⟨Z, hZ⟩ : ∃ Z, Z = szI c n (ordN k) := ⟨_, rfl⟩
      rw [← hZ] at hcz hSb HPs
      rw [← hF] at hPb HPs hcf
      rw [← hq] at hik hql hcz hcf
      have HQ := Lib.hid hq
      have HF := Lib.hid hF
      have hFb : -33554432 ≤ F ∧ F ≤ 33554432 := by omega
      have t2 : (0 : Int) ≤ (q : Int) ∧ (q : Int) < 8 := by omega
      have hF0 : 0 ≤ F := by rw [HF.out]; exact pre_nonneg hok HNow.out (by omega)
      have hp2 := hp
      unfold I64 at hp2
      clear hq hF hZ hPb
      by_cases h1 : F ≤ p
      · have hw1 : IntKind.i64.wrap (p - F) = p - F := wr64 _ (by omega) (by omega)
        by_cases h2 : p - F < Z
        · go_wp2_with fail
          go_ret3
          rw [HPost.out]
          refine ⟨?_, .inr HR.out.1, HR.out.2⟩
          rw [ofE_some (ofJ_some hok HNow.out hlt (by rw [← HF.out]; exact h1) (by rw [HPs.out]; omega)), ← HQ.out, ← HF.out]; rfl
        · have HNn : Hid (∀ j, j < k + 1 → ¬ (preA c n j ≤ p ∧ p < preA c n (j + 1))) := Lib.hid (fun j hj => by
            by_cases hjk : j = k
            · rw [hjk, HPs.out]; omega
            · exact HNo.out j (by omega))
          go_wp2_with fail
          go_roundw
          case rel => exact ⟨k + 1, by omega, by go_num, HNn, HR⟩
          case measure => simp [intOf]; omega
      · have HNn : Hid (∀ j, j < k + 1 → ¬ (preA c n j ≤ p ∧ p < preA c n (j + 1))) := Lib.hid (fun j hj => by
          by_cases hjk : j = k
          · rw [hjk, ← HF.out]; omega
          · exact HNo.out j (by omega))
        obtain ⟨Y, hY⟩ : ∃ Y, Y = IntKind.i64.wrap (p - F) := ⟨_, rfl⟩
        have hY2 : IntKind.i64.wrap (p - F) = Y := hY.symm
        clear hY
        go_wp2_with fail
        go_roundw
        case rel => exact ⟨k + 1, by omega, by go_num, HNn, HR⟩
        case measure => simp [intOf]; omega
    · obtain rfl : k = 8 := by omega
      go_wp2_with fail
      go_ret3
      rw [HPost.out]
      exact ⟨by rw [ofE_none (ofJ_none HNo.out)]; rfl, .inr HR.out.1, HR.out.2⟩

set_option maxRecDepth 100000 in
set_option maxHeartbeats 2000000 in
theorem aenh_any (g : Nat) (c : Cfg) (s n : Stg) (p : Int) (w : World) (h : Tab w g c s n) (hok : OkC c) (hno : NowOk c n) (hp : I64 p) :
    Calls Try.prog 52 #[.pointer (some ⟨g, 0, none⟩), .int .i64 p] w fun e w' => e = .returned (.bool (enhB c n p)) ∧ Tab w' g c s n ∧ w.grownBy w' (some g) := by
  have HOf := Lib.hid (aofx_any g c s n p w h hok hno hp)
  clear h hok hno hp
  cases hj : ofJ c n p with
  | none =>
    have he : enhB c n p = false := by unfold enhB; rw [hj]
    have HE := Lib.hid (ofE_none hj)
    rw [he]
    clear hj he
    go_enter Try.func52, Try.ntmps52
    go_wp2_with fail
    refine HOf.out.mono ?_
    rintro e w1 ⟨rfl, hT, hG⟩
    rw [HE.out]
    have HT := Lib.hid hT
    have HG := Lib.hid hG
    clear hT hG
    go_wp2_with fail
    go_ret
    exact ⟨rfl, HT.out, HG.out⟩
  | some j =>
    have hj8 := ofJ_lt hj
    have hq8 := ordN_lt j hj8
    obtain ⟨q, hq⟩ : ∃ q, q = ordN j := ⟨_, rfl⟩
    obtain ⟨b, hb⟩ : ∃ b, b = (bits BinOp.and IntKind.u8 (n.v / 2 ^ q) 1 == 1) := ⟨_, rfl⟩
    have he : enhB c n p = (decide (1 ≤ q ∧ q ≤ 3) || b) := by unfold enhB; rw [hj]; show (decide (1 ≤ ordN j ∧ ordN j ≤ 3) || _) = _; rw [← hq, hb]
    obtain ⟨S, hS⟩ : ∃ S, S = p - preA c n j := ⟨_, rfl⟩
    have HE : Hid (ofE c n p = .returned (.tuple #[.int .i64 (q : Int), .int .i64 S, .bool true])) := Lib.hid (by rw [ofE_some hj, ← hq, ← hS])
    have hqq : q < 8 := by rw [hq]; exact hq8
    rw [he]
    clear hj he hq hS hq8 hj8
    by_cases q1 : q = 1 ∨ q = 2 ∨ q = 3
    · have hd : decide (1 ≤ q ∧ q ≤ 3) = true := by rw [decide_eq_true_eq]; omega
      rw [hd, Bool.true_or]
      rcases q1 with rfl | rfl | rfl
      · go_enter Try.func52, Try.ntmps52
        go_wp2_with fail
        refine HOf.out.mono ?_
        rintro e w1 ⟨rfl, hT, hG⟩
        rw [HE.out]
        have HT := Lib.hid hT
        have HG := Lib.hid hG
        clear hT hG
        go_wp2_with fail
        go_ret
        exact ⟨rfl, HT.out, HG.out⟩
      · go_enter Try.func52, Try.ntmps52
        go_wp2_with fail
        refine HOf.out.mono ?_
        rintro e w1 ⟨rfl, hT, hG⟩
        rw [HE.out]
        have HT := Lib.hid hT
        have HG := Lib.hid hG
        clear hT hG
        go_wp2_with fail
        go_ret
        exact ⟨rfl, HT.out, HG.out⟩
      · go_enter Try.func52, Try.ntmps52
        go_wp2_with fail
        refine HOf.out.mono ?_
        rintro e w1 ⟨rfl, hT, hG⟩
        rw [HE.out]
        have HT := Lib.hid hT
        have HG := Lib.hid hG
        clear hT hG
        go_wp2_with fail
        go_ret
        exact ⟨rfl, HT.out, HG.out⟩
    · have hd : decide (1 ≤ q ∧ q ≤ 3) = false := by rw [decide_eq_false_iff_not]; omega
      rw [hd, Bool.false_or]
      have e1 : ((q : Int) == 1) = false := by simp; omega
      have e2 : ((q : Int) == 2) = false := by simp; omega
      have e3 : ((q : Int) == 3) = false := by simp; omega
      have q0 : (0 : Int) ≤ (q : Int) := by omega
      have HB := Lib.hid hb
      clear hb hd
      go_enter Try.func52, Try.ntmps52
      go_wp2_with fail
      refine HOf.out.mono ?_
      rintro e w1 ⟨rfl, hT, hG⟩
      rw [HE.out]
      have hv : w1.cell? ⟨g, 19, none⟩ = some (.int .u8 n.v) := by rcases hT with h | h <;> exact h.nCells.2.2.2.2.1
      have HT := Lib.hid hT
      have HG := Lib.hid hG
      have hb2 : (bits BinOp.and IntKind.u8 (n.v / 2 ^ q) 1 == 1) = b := HB.out.symm
      clear hT hG
      cases b with
      | false =>
        have hb3 : ¬ bits BinOp.and IntKind.u8 (n.v / 2 ^ q) 1 = 1 := by simpa using hb2
        go_wp2_with fail
        go_ret
        exact ⟨rfl, HT.out, HG.out⟩
      | true =>
        have hb3 : bits BinOp.and IntKind.u8 (n.v / 2 ^ q) 1 = 1 := by simpa using hb2
        go_wp2_with fail
        go_ret
        exact ⟨rfl, HT.out, HG.out⟩
end Go.Proofs.Ytdbnadhmkfhdkaa
