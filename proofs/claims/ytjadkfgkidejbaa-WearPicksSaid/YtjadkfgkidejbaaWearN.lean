/- The reference's Old. -/
import Derived.Test.YtjadkfgkidejbaaWearM
namespace Go.Proofs.Ytjadkfgkidejbaa
open Go.RowKit
set_option linter.unusedVariables false

def restB (b : Blk) : Bool := closedB b && decide (0 < b.live)
def aheadO (a b : Blk) : Bool := decide (a.worn < b.worn) || (decide (a.worn = b.worn) && decide (a.n < b.n))
def goodB (b : Blk) : Bool := !b.bad
def aheadM (a b : Blk) : Bool := decide (b.worn < a.worn)
def mostStep (m : Int) (b : Blk) : Int := if rightB b && goodB b && decide (m < b.worn) then b.worn else m
def mostTo (l : List Blk) (k : Nat) : Int := (l.take k).foldl mostStep 0
theorem mostTo_snoc (l : List Blk) (k : Nat) (z : Blk) (h : l[k]? = some z) : mostTo l (k + 1) = mostStep (mostTo l k) z := by
  have hk : k < l.length := (List.getElem?_eq_some_iff.1 h).1
  unfold mostTo
  rw [List.take_succ_eq_append_getElem hk, (List.getElem?_eq_some_iff.1 h).2]
  simp [List.foldl_append]
/-- The most worn of good blocks. -/
theorem most_best (l : List Blk) : ∀ k, k ≤ l.length → (bestOf goodB aheadM (l.take k) = none ∧ mostTo l k = 0) ∨ ∃ m, bestOf goodB aheadM (l.take k) = some m ∧ mostTo l k = m.worn
  | 0, _ => .inl ⟨by simp [bestOf], by simp [mostTo]⟩
  | k + 1, h => by
    have hx : l[k]? = some l[k] := List.getElem?_eq_getElem (by omega)
    obtain ⟨x, hxe⟩ : ∃ x, x = l[k] := ⟨_, rfl⟩
    rw [← hxe] at hx
    rw [bestOf_snoc goodB aheadM l k x hx, mostTo_snoc l k x hx]
    rcases most_best l k (by omega) with ⟨h1, h2⟩ | ⟨m, h1, h2⟩
    · rw [h1, h2]
      unfold bestStep mostStep
      cases hr : rightB x && goodB x
      · left; simp [hr]
      · right
        have hw := rightB_bd (show rightB x = true by cases h : rightB x with | false => simp [h] at hr | true => rfl)
        refine ⟨x, by simp [hr], ?_⟩
        by_cases h0 : 0 < x.worn
        · simp [hr, h0]
        · simp [hr, h0]; omega
    · rw [h1, h2]
      right
      unfold bestStep mostStep aheadM
      cases hr : rightB x && goodB x
      · exact ⟨m, by simp [hr], by simp [hr]⟩
      · by_cases h0 : m.worn < x.worn
        · exact ⟨x, by simp [hr, h0], by simp [hr, h0]⟩
        · exact ⟨m, by simp [hr, h0], by simp [hr, h0]⟩
/-- Which block rests too long. -/
def oldOf (gap : Int) (l : List Blk) : Option Blk := match bestOf restB aheadO l with
  | none => none
  | some b => if mostTo l l.length - b.worn ≤ gap then none else some b

theorem rright_lit {r : Bool} (n l p o : Int) (x y z : Bool) (w : World) (h : rightB ⟨n, l, p, o, x, y, z⟩ = r) : Calls Try.prog 38 #[.agg #[.int .i64 n, .int .i64 l, .int .i64 p, .int .i64 o, .bool x, .bool y, .bool z]] w fun e w' => e = .returned (.bool r) ∧ Below w.heap.size w w' := by
  subst h; exact rright_any n l p o x y z w

theorem rmay7_lit {r : Bool} (n l p o : Int) (x y z : Bool) (w : World) (h : okB ⟨n, l, p, o, x, y, z⟩ = r) : Calls Try.prog 98 #[.agg #[.int .i64 n, .int .i64 l, .int .i64 p, .int .i64 o, .bool x, .bool y, .bool z]] w fun e w' => e = .returned (.bool r) ∧ Below w.heap.size w w' := rmay_lit ⟨n, l, p, o, x, y, z⟩ w h

set_option maxRecDepth 100000 in
set_option maxHeartbeats 40000000 in
theorem rold_any (gap : Int) (a : Option Addr) (len cap : Nat) (l : List Blk) (W : World) (hm : len ≤ 1000000) (hl : Rws 7 Blk.cells W a len l) :
    Calls Try.prog 34 #[.int .i64 gap, .slice a len cap] W fun e w' => e = .returned (.tuple #[.int .i64 (numOf (oldOf gap l)), .bool (oldOf gap l).isSome]) ∧ Below W.heap.size W w' := by
  have hll := hl.1
  have HL := Lib.hid hl
  clear hl
  obtain ⟨POST, hPOST⟩ : ∃ Q : Ending → World → Prop, Q = fun e w' => e = .returned (.tuple #[.int .i64 (numOf (oldOf gap l)), .bool (oldOf gap l).isSome]) ∧ Below W.heap.size W w' := ⟨_, rfl⟩
  rw [← hPOST]
  have HPOST := Lib.hid hPOST
  clear hPOST
  go_enter Try.func34, Try.ntmps34
  go_wp2_with fail
  go_loopw [6, 7, 8] (fun kk mm i wr => ∃ (k : Nat) (z M : Int), k ≤ len ∧ i = .int .i64 (k : Int) ∧ kk = .int .i64 z ∧ mm = .int .i64 M ∧ Hid (PickAt restB aheadO l k z) ∧ Hid (M = mostTo l k) ∧ 0 ≤ M ∧ M ≤ 1073741824 ∧ Hid (Below W.heap.size W wr)) (fun _ _ i _ => len - (intOf i).toNat)
  case atStart => exact ⟨0, -1, 0, Nat.zero_le _, rfl, rfl, rfl, Lib.hid (PickAt.start _ _ _), Lib.hid (by simp [mostTo]), by omega, by omega, Lib.hid (Below.refl _ _)⟩
  case round =>
    obtain ⟨k, zz, M, hk, rfl, rfl, rfl, HP, HM, hM0, hM1, HB⟩ := hrel
    obtain ⟨wo, rfl⟩ : ∃ wo : World, wo = wr := ⟨_, rfl⟩
    have hlo := HL.out.below HB.out
    by_cases hlt : k < len
    · obtain ⟨bb, off, rfl, hlt2, hc⟩ := hlo.2 (by omega)
      obtain ⟨zn, zl, zp, zw, zo, zi, zb, hx⟩ : ∃ zn zl zp zw zo zi zb, l[k]? = some ⟨zn, zl, zp, zw, zo, zi, zb⟩ := ⟨_, _, _, _, _, _, _, List.getElem?_eq_getElem (by omega)⟩
      obtain ⟨hc0, hc1, hc2, hc3, hc4, hc5, hc6⟩ := Blk.sevenAll hlo hlt hx
      dsimp only at hc0 hc1 hc2 hc3 hc4 hc5 hc6
      have t1 : (k : Int) < (len : Int) := by omega
      have t2 : (0 : Int) ≤ (k : Int) := by omega
      have t3 : ((k : Int)).toNat = k := by omega
      have hd : Below wo.heap.size wo wo := Below.refl _ _
      have hbo := HB.out.size
      have HLo := Lib.hid hlo
      have hms := mostTo_snoc l k _ hx
      rw [← HM.out] at hms
      clear hc hlo
      have HX := Lib.hid hx
      cases hrz : rightB ⟨zn, zl, zp, zw, zo, zi, zb⟩ with
      | false =>
        have HM2 : Hid (M = mostTo l (k + 1)) := Lib.hid (by rw [hms]; simp [mostStep, hrz])
        have HOkF : Hid (okB ⟨zn, zl, zp, zw, zo, zi, zb⟩ = false) := Lib.hid (by simp [okB, hrz])
        clear hms hx
        go_wp2_with (go_at_call 38; refine (rright_lit _ _ _ _ _ _ _ _ hrz).mono ?_; rintro e w1 ⟨rfl, hb1⟩; have hbD : Below wo.heap.size wo w1.drew := hb1.drew)
        have hok := HOkF.out
        have HP2 := Lib.hid (pick_skip HP.out HX.out (by unfold okB at hok; unfold restB; rw [← Bool.and_assoc, hok]; rfl))
        refine wp_region_held_drew (S := (fun w' => Below wo.heap.size wo w')) (by kernel_rfl) (hbD) (fun hHeld => ?_)
        refine held_take 0 (v := ?_) rfl (by kernel_rfl) (by kernel_rfl) (by kernel_rfl) (fun _ _ _ h => h) (by rfl) (fun w hS => ?_) (by assumption) ?_; rotate_left
        · (try dsimp only at hS); go_simp <;> with_reducible rfl
        try simp only [Act.put, lA, lB, lC]
        refine held_take 1 (v := ?_) rfl (by kernel_rfl) (by kernel_rfl) (by kernel_rfl) (fun _ _ _ h => h) (by rfl) (fun w hS => ?_) (by assumption) ?_; rotate_left
        · (try dsimp only at hS); go_simp <;> with_reducible rfl
        try simp only [Act.put, lA, lB, lC]
        refine held_take 2 (v := ?_) rfl (by kernel_rfl) (by kernel_rfl) (by kernel_rfl) (fun _ _ _ h => h) (by rfl) (fun w hS => ?_) (by assumption) ?_; rotate_left
        · (try dsimp only at hS); go_simp <;> with_reducible rfl
        try simp only [Act.put, lA, lB, lC]
        refine held_take 3 (v := ?_) rfl (by kernel_rfl) (by kernel_rfl) (by kernel_rfl) (fun _ _ _ h => h) (by rfl) (fun w hS => ?_) (by assumption) ?_; rotate_left
        · (try dsimp only at hS); go_simp <;> with_reducible rfl
        try simp only [Act.put, lA, lB, lC]
        refine held_one 4 rfl (by kernel_rfl) (fun K hK => ?_)
        go_simp
        refine Calls.mono (rmay7_lit _ _ _ _ _ _ _ _ hok) ?_
        rintro e wa ⟨rfl, hb⟩
        have hbA : Below wo.heap.size wo wa := hbD.trans (hb.mono hbD.size)
        refine hK.out _ _ (fun w' => Below wo.heap.size wo w') (fun _ h => h) hbA (fun hHeld => ?_)
        clear hK K
        try simp only [Act.put, lA, lB, lC]
        refine held_take 5 (v := ?_) rfl (by kernel_rfl) (by kernel_rfl) (by kernel_rfl) (fun _ _ _ h => h) (by rfl) (fun w hS => ?_) (by assumption) ?_; rotate_left
        · (try dsimp only at hS); go_simp <;> with_reducible rfl
        try simp only [Act.put, lA, lB, lC]
        refine held_skip 6 rfl (by kernel_rfl) (by kernel_rfl) (by kernel_rfl) (fun _ _ _ h => h) (by rfl) (by assumption) ?_
        try simp only [Act.put, lA, lB, lC]
        refine held_skip 7 rfl (by kernel_rfl) (by kernel_rfl) (by kernel_rfl) (fun _ _ _ h => h) (by rfl) (by assumption) ?_
        try simp only [Act.put, lA, lB, lC]
        refine held_skip 8 rfl (by kernel_rfl) (by kernel_rfl) (by kernel_rfl) (fun _ _ _ h => h) (by rfl) (by assumption) ?_
        try simp only [Act.put, lA, lB, lC]
        refine held_skip 9 rfl (by kernel_rfl) (by kernel_rfl) (by kernel_rfl) (fun _ _ _ h => h) (by rfl) (by assumption) ?_
        try simp only [Act.put, lA, lB, lC]
        refine held_skip 10 rfl (by kernel_rfl) (by kernel_rfl) (by kernel_rfl) (fun _ _ _ h => h) (by rfl) (by assumption) ?_
        try simp only [Act.put, lA, lB, lC]
        refine held_skip 11 rfl (by kernel_rfl) (by kernel_rfl) (by kernel_rfl) (fun _ _ _ h => h) (by rfl) (by assumption) ?_
        try simp only [Act.put, lA, lB, lC]
        refine held_take 12 (v := ?_) rfl (by kernel_rfl) (by kernel_rfl) (by kernel_rfl) (fun _ _ _ h => h) (by rfl) (fun w hS => ?_) (by assumption) ?_; rotate_left
        · (try dsimp only at hS); go_simp <;> with_reducible rfl
        try simp only [Act.put, lA, lB, lC]
        refine held_take 13 (v := ?_) rfl (by kernel_rfl) (by kernel_rfl) (by kernel_rfl) (fun _ _ _ h => h) (by rfl) (fun w hS => ?_) (by assumption) ?_; rotate_left
        · (try dsimp only at hS); go_simp <;> with_reducible rfl
        try simp only [Act.put, lA, lB, lC]
        refine held_skip 14 rfl (by kernel_rfl) (by kernel_rfl) (by kernel_rfl) (fun _ _ _ h => h) (by rfl) (by assumption) ?_
        try simp only [Act.put, lA, lB, lC]
        refine held_skip 15 rfl (by kernel_rfl) (by kernel_rfl) (by kernel_rfl) (fun _ _ _ h => h) (by rfl) (by assumption) ?_
        try simp only [Act.put, lA, lB, lC]
        refine held_skip 16 rfl (by kernel_rfl) (by kernel_rfl) (by kernel_rfl) (fun _ _ _ h => h) (by rfl) (by assumption) ?_
        try simp only [Act.put, lA, lB, lC]
        refine held_skip 17 rfl (by kernel_rfl) (by kernel_rfl) (by kernel_rfl) (fun _ _ _ h => h) (by rfl) (by assumption) ?_
        try simp only [Act.put, lA, lB, lC]
        refine held_skip 18 rfl (by kernel_rfl) (by kernel_rfl) (by kernel_rfl) (fun _ _ _ h => h) (by rfl) (by assumption) ?_
        try simp only [Act.put, lA, lB, lC]
        refine held_skip 19 rfl (by kernel_rfl) (by kernel_rfl) (by kernel_rfl) (fun _ _ _ h => h) (by rfl) (by assumption) ?_
        try simp only [Act.put, lA, lB, lC]
        refine held_skip 20 rfl (by kernel_rfl) (by kernel_rfl) (by kernel_rfl) (fun _ _ _ h => h) (by rfl) (by assumption) ?_
        try simp only [Act.put, lA, lB, lC]
        refine held_skip 21 rfl (by kernel_rfl) (by kernel_rfl) (by kernel_rfl) (fun _ _ _ h => h) (by rfl) (by assumption) ?_
        try simp only [Act.put, lA, lB, lC]
        refine held_skip 22 rfl (by kernel_rfl) (by kernel_rfl) (by kernel_rfl) (fun _ _ _ h => h) (by rfl) (by assumption) ?_
        try simp only [Act.put, lA, lB, lC]
        refine held_skip 23 rfl (by kernel_rfl) (by kernel_rfl) (by kernel_rfl) (fun _ _ _ h => h) (by rfl) (by assumption) ?_
        try simp only [Act.put, lA, lB, lC]
        refine held_skip 24 rfl (by kernel_rfl) (by kernel_rfl) (by kernel_rfl) (fun _ _ _ h => h) (by rfl) (by assumption) ?_
        try simp only [Act.put, lA, lB, lC]
        refine held_skip 25 rfl (by kernel_rfl) (by kernel_rfl) (by kernel_rfl) (fun _ _ _ h => h) (by rfl) (by assumption) ?_
        try simp only [Act.put, lA, lB, lC]
        refine held_skip 26 rfl (by kernel_rfl) (by kernel_rfl) (by kernel_rfl) (fun _ _ _ h => h) (by rfl) (by assumption) ?_
        try simp only [Act.put, lA, lB, lC]
        refine held_skip 27 rfl (by kernel_rfl) (by kernel_rfl) (by kernel_rfl) (fun _ _ _ h => h) (by rfl) (by assumption) ?_
        try simp only [Act.put, lA, lB, lC]
        refine held_skip 28 rfl (by kernel_rfl) (by kernel_rfl) (by kernel_rfl) (fun _ _ _ h => h) (by rfl) (by assumption) ?_
        try simp only [Act.put, lA, lB, lC]
        refine held_skip 29 rfl (by kernel_rfl) (by kernel_rfl) (by kernel_rfl) (fun _ _ _ h => h) (by rfl) (by assumption) ?_
        try simp only [Act.put, lA, lB, lC]
        refine held_skip 30 rfl (by kernel_rfl) (by kernel_rfl) (by kernel_rfl) (fun _ _ _ h => h) (by rfl) (by assumption) ?_
        try simp only [Act.put, lA, lB, lC]
        refine held_skip 31 rfl (by kernel_rfl) (by kernel_rfl) (by kernel_rfl) (fun _ _ _ h => h) (by rfl) (by assumption) ?_
        try simp only [Act.put, lA, lB, lC]
        refine held_skip 32 rfl (by kernel_rfl) (by kernel_rfl) (by kernel_rfl) (fun _ _ _ h => h) (by rfl) (by assumption) ?_
        try simp only [Act.put, lA, lB, lC]
        refine held_skip 33 rfl (by kernel_rfl) (by kernel_rfl) (by kernel_rfl) (fun _ _ _ h => h) (by rfl) (by assumption) ?_
        try simp only [Act.put, lA, lB, lC]
        refine held_skip 34 rfl (by kernel_rfl) (by kernel_rfl) (by kernel_rfl) (fun _ _ _ h => h) (by rfl) (by assumption) ?_
        try simp only [Act.put, lA, lB, lC]
        refine held_skip 35 rfl (by kernel_rfl) (by kernel_rfl) (by kernel_rfl) (fun _ _ _ h => h) (by rfl) (by assumption) ?_
        try simp only [Act.put, lA, lB, lC]
        refine held_skip 36 rfl (by kernel_rfl) (by kernel_rfl) (by kernel_rfl) (fun _ _ _ h => h) (by rfl) (by assumption) ?_
        try simp only [Act.put, lA, lB, lC]
        refine held_skip 37 rfl (by kernel_rfl) (by kernel_rfl) (by kernel_rfl) (fun _ _ _ h => h) (by rfl) (by assumption) ?_
        try simp only [Act.put, lA, lB, lC]
        refine held_skip 38 rfl (by kernel_rfl) (by kernel_rfl) (by kernel_rfl) (fun _ _ _ h => h) (by rfl) (by assumption) ?_
        try simp only [Act.put, lA, lB, lC]
        refine held_skip 39 rfl (by kernel_rfl) (by kernel_rfl) (by kernel_rfl) (fun _ _ _ h => h) (by rfl) (by assumption) ?_
        try simp only [Act.put, lA, lB, lC]
        refine held_skip 40 rfl (by kernel_rfl) (by kernel_rfl) (by kernel_rfl) (fun _ _ _ h => h) (by rfl) (by assumption) ?_
        try simp only [Act.put, lA, lB, lC]
        refine held_skip 41 rfl (by kernel_rfl) (by kernel_rfl) (by kernel_rfl) (fun _ _ _ h => h) (by rfl) (by assumption) ?_
        try simp only [Act.put, lA, lB, lC]
        refine held_skip 42 rfl (by kernel_rfl) (by kernel_rfl) (by kernel_rfl) (fun _ _ _ h => h) (by rfl) (by assumption) ?_
        try simp only [Act.put, lA, lB, lC]
        refine held_skip 43 rfl (by kernel_rfl) (by kernel_rfl) (by kernel_rfl) (fun _ _ _ h => h) (by rfl) (by assumption) ?_
        try simp only [Act.put, lA, lB, lC]
        refine held_skip 44 rfl (by kernel_rfl) (by kernel_rfl) (by kernel_rfl) (fun _ _ _ h => h) (by rfl) (by assumption) ?_
        try simp only [Act.put, lA, lB, lC]
        refine held_skip 45 rfl (by kernel_rfl) (by kernel_rfl) (by kernel_rfl) (fun _ _ _ h => h) (by rfl) (by assumption) ?_
        try simp only [Act.put, lA, lB, lC]
        refine held_skip 46 rfl (by kernel_rfl) (by kernel_rfl) (by kernel_rfl) (fun _ _ _ h => h) (by rfl) (by assumption) ?_
        try simp only [Act.put, lA, lB, lC]
        refine held_skip 47 rfl (by kernel_rfl) (by kernel_rfl) (by kernel_rfl) (fun _ _ _ h => h) (by rfl) (by assumption) ?_
        try simp only [Act.put, lA, lB, lC]
        refine held_skip 48 rfl (by kernel_rfl) (by kernel_rfl) (by kernel_rfl) (fun _ _ _ h => h) (by rfl) (by assumption) ?_
        try simp only [Act.put, lA, lB, lC]
        refine held_skip 49 rfl (by kernel_rfl) (by kernel_rfl) (by kernel_rfl) (fun _ _ _ h => h) (by rfl) (by assumption) ?_
        try simp only [Act.put, lA, lB, lC]
        refine held_skip 50 rfl (by kernel_rfl) (by kernel_rfl) (by kernel_rfl) (fun _ _ _ h => h) (by rfl) (by assumption) ?_
        try simp only [Act.put, lA, lB, lC]
        refine held_skip 51 rfl (by kernel_rfl) (by kernel_rfl) (by kernel_rfl) (fun _ _ _ h => h) (by rfl) (by assumption) ?_
        try simp only [Act.put, lA, lB, lC]
        refine held_skip 52 rfl (by kernel_rfl) (by kernel_rfl) (by kernel_rfl) (fun _ _ _ h => h) (by rfl) (by assumption) ?_
        try simp only [Act.put, lA, lB, lC]
        refine held_skip 53 rfl (by kernel_rfl) (by kernel_rfl) (by kernel_rfl) (fun _ _ _ h => h) (by rfl) (by assumption) ?_
        try simp only [Act.put, lA, lB, lC]
        refine held_skip 54 rfl (by kernel_rfl) (by kernel_rfl) (by kernel_rfl) (fun _ _ _ h => h) (by rfl) (by assumption) ?_
        try simp only [Act.put, lA, lB, lC]
        refine held_take 55 (v := ?_) rfl (by kernel_rfl) (by kernel_rfl) (by kernel_rfl) (fun _ _ _ h => h) (by rfl) (fun w hS => ?_) (by assumption) ?_; rotate_left
        · (try dsimp only at hS); go_simp <;> with_reducible rfl
        try simp only [Act.put, lA, lB, lC]
        refine held_done (by kernel_rfl) ?_
        go_wp2
        go_roundw
        case rel => exact ⟨k + 1, zz, _, by omega, by go_num, rfl, rfl, HP2, HM2, by omega, by omega, Lib.hid (HB.out.trans (hbA.mono hbo))⟩
        case measure => simp [intOf]; omega
      | true =>
        have hbd := rightB_bd hrz
        obtain ⟨b1, b2, b3, b4, b5, b6, b7⟩ := hbd
        dsimp only at b1 b2 b3 b4 b5 b6 b7
        cases zb with
        | true =>
          have HM2 : Hid (M = mostTo l (k + 1)) := Lib.hid (by rw [hms]; simp [mostStep, goodB])
          have HOkF : Hid (okB ⟨zn, zl, zp, zw, zo, zi, true⟩ = false) := Lib.hid (by simp [okB, closedB])
          clear hms hx
          go_wp2_with (go_at_call 38; refine (rright_lit _ _ _ _ _ _ _ _ hrz).mono ?_; rintro e w1 ⟨rfl, hb1⟩; have hbD : Below wo.heap.size wo w1.drew := hb1.drew)
          have hok := HOkF.out
          have HP2 := Lib.hid (pick_skip HP.out HX.out (by unfold okB at hok; unfold restB; rw [← Bool.and_assoc, hok]; rfl))
          refine wp_region_held_drew (S := (fun w' => Below wo.heap.size wo w')) (by kernel_rfl) (hbD) (fun hHeld => ?_)
          refine held_take 0 (v := ?_) rfl (by kernel_rfl) (by kernel_rfl) (by kernel_rfl) (fun _ _ _ h => h) (by rfl) (fun w hS => ?_) (by assumption) ?_; rotate_left
          · (try dsimp only at hS); go_simp <;> with_reducible rfl
          try simp only [Act.put, lA, lB, lC]
          refine held_take 1 (v := ?_) rfl (by kernel_rfl) (by kernel_rfl) (by kernel_rfl) (fun _ _ _ h => h) (by rfl) (fun w hS => ?_) (by assumption) ?_; rotate_left
          · (try dsimp only at hS); go_simp <;> with_reducible rfl
          try simp only [Act.put, lA, lB, lC]
          refine held_take 2 (v := ?_) rfl (by kernel_rfl) (by kernel_rfl) (by kernel_rfl) (fun _ _ _ h => h) (by rfl) (fun w hS => ?_) (by assumption) ?_; rotate_left
          · (try dsimp only at hS); go_simp <;> with_reducible rfl
          try simp only [Act.put, lA, lB, lC]
          refine held_take 3 (v := ?_) rfl (by kernel_rfl) (by kernel_rfl) (by kernel_rfl) (fun _ _ _ h => h) (by rfl) (fun w hS => ?_) (by assumption) ?_; rotate_left
          · (try dsimp only at hS); go_simp <;> with_reducible rfl
          try simp only [Act.put, lA, lB, lC]
          refine held_one 4 rfl (by kernel_rfl) (fun K hK => ?_)
          go_simp
          refine Calls.mono (rmay7_lit _ _ _ _ _ _ _ _ hok) ?_
          rintro e wa ⟨rfl, hb⟩
          have hbA : Below wo.heap.size wo wa := hbD.trans (hb.mono hbD.size)
          refine hK.out _ _ (fun w' => Below wo.heap.size wo w') (fun _ h => h) hbA (fun hHeld => ?_)
          clear hK K
          try simp only [Act.put, lA, lB, lC]
          refine held_take 5 (v := ?_) rfl (by kernel_rfl) (by kernel_rfl) (by kernel_rfl) (fun _ _ _ h => h) (by rfl) (fun w hS => ?_) (by assumption) ?_; rotate_left
          · (try dsimp only at hS); go_simp <;> with_reducible rfl
          try simp only [Act.put, lA, lB, lC]
          refine held_skip 6 rfl (by kernel_rfl) (by kernel_rfl) (by kernel_rfl) (fun _ _ _ h => h) (by rfl) (by assumption) ?_
          try simp only [Act.put, lA, lB, lC]
          refine held_skip 7 rfl (by kernel_rfl) (by kernel_rfl) (by kernel_rfl) (fun _ _ _ h => h) (by rfl) (by assumption) ?_
          try simp only [Act.put, lA, lB, lC]
          refine held_skip 8 rfl (by kernel_rfl) (by kernel_rfl) (by kernel_rfl) (fun _ _ _ h => h) (by rfl) (by assumption) ?_
          try simp only [Act.put, lA, lB, lC]
          refine held_skip 9 rfl (by kernel_rfl) (by kernel_rfl) (by kernel_rfl) (fun _ _ _ h => h) (by rfl) (by assumption) ?_
          try simp only [Act.put, lA, lB, lC]
          refine held_skip 10 rfl (by kernel_rfl) (by kernel_rfl) (by kernel_rfl) (fun _ _ _ h => h) (by rfl) (by assumption) ?_
          try simp only [Act.put, lA, lB, lC]
          refine held_skip 11 rfl (by kernel_rfl) (by kernel_rfl) (by kernel_rfl) (fun _ _ _ h => h) (by rfl) (by assumption) ?_
          try simp only [Act.put, lA, lB, lC]
          refine held_take 12 (v := ?_) rfl (by kernel_rfl) (by kernel_rfl) (by kernel_rfl) (fun _ _ _ h => h) (by rfl) (fun w hS => ?_) (by assumption) ?_; rotate_left
          · (try dsimp only at hS); go_simp <;> with_reducible rfl
          try simp only [Act.put, lA, lB, lC]
          refine held_take 13 (v := ?_) rfl (by kernel_rfl) (by kernel_rfl) (by kernel_rfl) (fun _ _ _ h => h) (by rfl) (fun w hS => ?_) (by assumption) ?_; rotate_left
          · (try dsimp only at hS); go_simp <;> with_reducible rfl
          try simp only [Act.put, lA, lB, lC]
          refine held_skip 14 rfl (by kernel_rfl) (by kernel_rfl) (by kernel_rfl) (fun _ _ _ h => h) (by rfl) (by assumption) ?_
          try simp only [Act.put, lA, lB, lC]
          refine held_skip 15 rfl (by kernel_rfl) (by kernel_rfl) (by kernel_rfl) (fun _ _ _ h => h) (by rfl) (by assumption) ?_
          try simp only [Act.put, lA, lB, lC]
          refine held_skip 16 rfl (by kernel_rfl) (by kernel_rfl) (by kernel_rfl) (fun _ _ _ h => h) (by rfl) (by assumption) ?_
          try simp only [Act.put, lA, lB, lC]
          refine held_skip 17 rfl (by kernel_rfl) (by kernel_rfl) (by kernel_rfl) (fun _ _ _ h => h) (by rfl) (by assumption) ?_
          try simp only [Act.put, lA, lB, lC]
          refine held_skip 18 rfl (by kernel_rfl) (by kernel_rfl) (by kernel_rfl) (fun _ _ _ h => h) (by rfl) (by assumption) ?_
          try simp only [Act.put, lA, lB, lC]
          refine held_skip 19 rfl (by kernel_rfl) (by kernel_rfl) (by kernel_rfl) (fun _ _ _ h => h) (by rfl) (by assumption) ?_
          try simp only [Act.put, lA, lB, lC]
          refine held_skip 20 rfl (by kernel_rfl) (by kernel_rfl) (by kernel_rfl) (fun _ _ _ h => h) (by rfl) (by assumption) ?_
          try simp only [Act.put, lA, lB, lC]
          refine held_skip 21 rfl (by kernel_rfl) (by kernel_rfl) (by kernel_rfl) (fun _ _ _ h => h) (by rfl) (by assumption) ?_
          try simp only [Act.put, lA, lB, lC]
          refine held_skip 22 rfl (by kernel_rfl) (by kernel_rfl) (by kernel_rfl) (fun _ _ _ h => h) (by rfl) (by assumption) ?_
          try simp only [Act.put, lA, lB, lC]
          refine held_skip 23 rfl (by kernel_rfl) (by kernel_rfl) (by kernel_rfl) (fun _ _ _ h => h) (by rfl) (by assumption) ?_
          try simp only [Act.put, lA, lB, lC]
          refine held_skip 24 rfl (by kernel_rfl) (by kernel_rfl) (by kernel_rfl) (fun _ _ _ h => h) (by rfl) (by assumption) ?_
          try simp only [Act.put, lA, lB, lC]
          refine held_skip 25 rfl (by kernel_rfl) (by kernel_rfl) (by kernel_rfl) (fun _ _ _ h => h) (by rfl) (by assumption) ?_
          try simp only [Act.put, lA, lB, lC]
          refine held_skip 26 rfl (by kernel_rfl) (by kernel_rfl) (by kernel_rfl) (fun _ _ _ h => h) (by rfl) (by assumption) ?_
          try simp only [Act.put, lA, lB, lC]
          refine held_skip 27 rfl (by kernel_rfl) (by kernel_rfl) (by kernel_rfl) (fun _ _ _ h => h) (by rfl) (by assumption) ?_
          try simp only [Act.put, lA, lB, lC]
          refine held_skip 28 rfl (by kernel_rfl) (by kernel_rfl) (by kernel_rfl) (fun _ _ _ h => h) (by rfl) (by assumption) ?_
          try simp only [Act.put, lA, lB, lC]
          refine held_skip 29 rfl (by kernel_rfl) (by kernel_rfl) (by kernel_rfl) (fun _ _ _ h => h) (by rfl) (by assumption) ?_
          try simp only [Act.put, lA, lB, lC]
          refine held_skip 30 rfl (by kernel_rfl) (by kernel_rfl) (by kernel_rfl) (fun _ _ _ h => h) (by rfl) (by assumption) ?_
          try simp only [Act.put, lA, lB, lC]
          refine held_skip 31 rfl (by kernel_rfl) (by kernel_rfl) (by kernel_rfl) (fun _ _ _ h => h) (by rfl) (by assumption) ?_
          try simp only [Act.put, lA, lB, lC]
          refine held_skip 32 rfl (by kernel_rfl) (by kernel_rfl) (by kernel_rfl) (fun _ _ _ h => h) (by rfl) (by assumption) ?_
          try simp only [Act.put, lA, lB, lC]
          refine held_skip 33 rfl (by kernel_rfl) (by kernel_rfl) (by kernel_rfl) (fun _ _ _ h => h) (by rfl) (by assumption) ?_
          try simp only [Act.put, lA, lB, lC]
          refine held_skip 34 rfl (by kernel_rfl) (by kernel_rfl) (by kernel_rfl) (fun _ _ _ h => h) (by rfl) (by assumption) ?_
          try simp only [Act.put, lA, lB, lC]
          refine held_skip 35 rfl (by kernel_rfl) (by kernel_rfl) (by kernel_rfl) (fun _ _ _ h => h) (by rfl) (by assumption) ?_
          try simp only [Act.put, lA, lB, lC]
          refine held_skip 36 rfl (by kernel_rfl) (by kernel_rfl) (by kernel_rfl) (fun _ _ _ h => h) (by rfl) (by assumption) ?_
          try simp only [Act.put, lA, lB, lC]
          refine held_skip 37 rfl (by kernel_rfl) (by kernel_rfl) (by kernel_rfl) (fun _ _ _ h => h) (by rfl) (by assumption) ?_
          try simp only [Act.put, lA, lB, lC]
          refine held_skip 38 rfl (by kernel_rfl) (by kernel_rfl) (by kernel_rfl) (fun _ _ _ h => h) (by rfl) (by assumption) ?_
          try simp only [Act.put, lA, lB, lC]
          refine held_skip 39 rfl (by kernel_rfl) (by kernel_rfl) (by kernel_rfl) (fun _ _ _ h => h) (by rfl) (by assumption) ?_
          try simp only [Act.put, lA, lB, lC]
          refine held_skip 40 rfl (by kernel_rfl) (by kernel_rfl) (by kernel_rfl) (fun _ _ _ h => h) (by rfl) (by assumption) ?_
          try simp only [Act.put, lA, lB, lC]
          refine held_skip 41 rfl (by kernel_rfl) (by kernel_rfl) (by kernel_rfl) (fun _ _ _ h => h) (by rfl) (by assumption) ?_
          try simp only [Act.put, lA, lB, lC]
          refine held_skip 42 rfl (by kernel_rfl) (by kernel_rfl) (by kernel_rfl) (fun _ _ _ h => h) (by rfl) (by assumption) ?_
          try simp only [Act.put, lA, lB, lC]
          refine held_skip 43 rfl (by kernel_rfl) (by kernel_rfl) (by kernel_rfl) (fun _ _ _ h => h) (by rfl) (by assumption) ?_
          try simp only [Act.put, lA, lB, lC]
          refine held_skip 44 rfl (by kernel_rfl) (by kernel_rfl) (by kernel_rfl) (fun _ _ _ h => h) (by rfl) (by assumption) ?_
          try simp only [Act.put, lA, lB, lC]
          refine held_skip 45 rfl (by kernel_rfl) (by kernel_rfl) (by kernel_rfl) (fun _ _ _ h => h) (by rfl) (by assumption) ?_
          try simp only [Act.put, lA, lB, lC]
          refine held_skip 46 rfl (by kernel_rfl) (by kernel_rfl) (by kernel_rfl) (fun _ _ _ h => h) (by rfl) (by assumption) ?_
          try simp only [Act.put, lA, lB, lC]
          refine held_skip 47 rfl (by kernel_rfl) (by kernel_rfl) (by kernel_rfl) (fun _ _ _ h => h) (by rfl) (by assumption) ?_
          try simp only [Act.put, lA, lB, lC]
          refine held_skip 48 rfl (by kernel_rfl) (by kernel_rfl) (by kernel_rfl) (fun _ _ _ h => h) (by rfl) (by assumption) ?_
          try simp only [Act.put, lA, lB, lC]
          refine held_skip 49 rfl (by kernel_rfl) (by kernel_rfl) (by kernel_rfl) (fun _ _ _ h => h) (by rfl) (by assumption) ?_
          try simp only [Act.put, lA, lB, lC]
          refine held_skip 50 rfl (by kernel_rfl) (by kernel_rfl) (by kernel_rfl) (fun _ _ _ h => h) (by rfl) (by assumption) ?_
          try simp only [Act.put, lA, lB, lC]
          refine held_skip 51 rfl (by kernel_rfl) (by kernel_rfl) (by kernel_rfl) (fun _ _ _ h => h) (by rfl) (by assumption) ?_
          try simp only [Act.put, lA, lB, lC]
          refine held_skip 52 rfl (by kernel_rfl) (by kernel_rfl) (by kernel_rfl) (fun _ _ _ h => h) (by rfl) (by assumption) ?_
          try simp only [Act.put, lA, lB, lC]
          refine held_skip 53 rfl (by kernel_rfl) (by kernel_rfl) (by kernel_rfl) (fun _ _ _ h => h) (by rfl) (by assumption) ?_
          try simp only [Act.put, lA, lB, lC]
          refine held_skip 54 rfl (by kernel_rfl) (by kernel_rfl) (by kernel_rfl) (fun _ _ _ h => h) (by rfl) (by assumption) ?_
          try simp only [Act.put, lA, lB, lC]
          refine held_take 55 (v := ?_) rfl (by kernel_rfl) (by kernel_rfl) (by kernel_rfl) (fun _ _ _ h => h) (by rfl) (fun w hS => ?_) (by assumption) ?_; rotate_left
          · (try dsimp only at hS); go_simp <;> with_reducible rfl
          try simp only [Act.put, lA, lB, lC]
          refine held_done (by kernel_rfl) ?_
          go_wp2
          go_roundw
          case rel => exact ⟨k + 1, zz, _, by omega, by go_num, rfl, rfl, HP2, HM2, by omega, by omega, Lib.hid (HB.out.trans (hbA.mono hbo))⟩
          case measure => simp [intOf]; omega
        | false =>
          by_cases hw0 : M < zw
          · have HM2 : Hid (zw = mostTo l (k + 1)) := Lib.hid (by rw [hms]; simp [mostStep, goodB, hrz, hw0])
            clear hms hx
            go_wp2_with (go_at_call 38; refine (rright_lit _ _ _ _ _ _ _ _ hrz).mono ?_; rintro e w1 ⟨rfl, hb1⟩; have hbD : Below wo.heap.size wo w1.drew := hb1.drew)
            cases hok : okB ⟨zn, zl, zp, zw, zo, zi, false⟩ with
            | false =>
              have HP2 := Lib.hid (pick_skip HP.out HX.out (by unfold okB at hok; unfold restB; rw [← Bool.and_assoc, hok]; rfl))
              refine wp_region_held_drew (S := (fun w' => Below wo.heap.size wo w')) (by kernel_rfl) (hbD) (fun hHeld => ?_)
              refine held_take 0 (v := ?_) rfl (by kernel_rfl) (by kernel_rfl) (by kernel_rfl) (fun _ _ _ h => h) (by rfl) (fun w hS => ?_) (by assumption) ?_; rotate_left
              · (try dsimp only at hS); go_simp <;> with_reducible rfl
              try simp only [Act.put, lA, lB, lC]
              refine held_take 1 (v := ?_) rfl (by kernel_rfl) (by kernel_rfl) (by kernel_rfl) (fun _ _ _ h => h) (by rfl) (fun w hS => ?_) (by assumption) ?_; rotate_left
              · (try dsimp only at hS); go_simp <;> with_reducible rfl
              try simp only [Act.put, lA, lB, lC]
              refine held_take 2 (v := ?_) rfl (by kernel_rfl) (by kernel_rfl) (by kernel_rfl) (fun _ _ _ h => h) (by rfl) (fun w hS => ?_) (by assumption) ?_; rotate_left
              · (try dsimp only at hS); go_simp <;> with_reducible rfl
              try simp only [Act.put, lA, lB, lC]
              refine held_take 3 (v := ?_) rfl (by kernel_rfl) (by kernel_rfl) (by kernel_rfl) (fun _ _ _ h => h) (by rfl) (fun w hS => ?_) (by assumption) ?_; rotate_left
              · (try dsimp only at hS); go_simp <;> with_reducible rfl
              try simp only [Act.put, lA, lB, lC]
              refine held_one 4 rfl (by kernel_rfl) (fun K hK => ?_)
              go_simp
              refine Calls.mono (rmay7_lit _ _ _ _ _ _ _ _ hok) ?_
              rintro e wa ⟨rfl, hb⟩
              have hbA : Below wo.heap.size wo wa := hbD.trans (hb.mono hbD.size)
              refine hK.out _ _ (fun w' => Below wo.heap.size wo w') (fun _ h => h) hbA (fun hHeld => ?_)
              clear hK K
              try simp only [Act.put, lA, lB, lC]
              refine held_take 5 (v := ?_) rfl (by kernel_rfl) (by kernel_rfl) (by kernel_rfl) (fun _ _ _ h => h) (by rfl) (fun w hS => ?_) (by assumption) ?_; rotate_left
              · (try dsimp only at hS); go_simp <;> with_reducible rfl
              try simp only [Act.put, lA, lB, lC]
              refine held_skip 6 rfl (by kernel_rfl) (by kernel_rfl) (by kernel_rfl) (fun _ _ _ h => h) (by rfl) (by assumption) ?_
              try simp only [Act.put, lA, lB, lC]
              refine held_skip 7 rfl (by kernel_rfl) (by kernel_rfl) (by kernel_rfl) (fun _ _ _ h => h) (by rfl) (by assumption) ?_
              try simp only [Act.put, lA, lB, lC]
              refine held_skip 8 rfl (by kernel_rfl) (by kernel_rfl) (by kernel_rfl) (fun _ _ _ h => h) (by rfl) (by assumption) ?_
              try simp only [Act.put, lA, lB, lC]
              refine held_skip 9 rfl (by kernel_rfl) (by kernel_rfl) (by kernel_rfl) (fun _ _ _ h => h) (by rfl) (by assumption) ?_
              try simp only [Act.put, lA, lB, lC]
              refine held_skip 10 rfl (by kernel_rfl) (by kernel_rfl) (by kernel_rfl) (fun _ _ _ h => h) (by rfl) (by assumption) ?_
              try simp only [Act.put, lA, lB, lC]
              refine held_skip 11 rfl (by kernel_rfl) (by kernel_rfl) (by kernel_rfl) (fun _ _ _ h => h) (by rfl) (by assumption) ?_
              try simp only [Act.put, lA, lB, lC]
              refine held_take 12 (v := ?_) rfl (by kernel_rfl) (by kernel_rfl) (by kernel_rfl) (fun _ _ _ h => h) (by rfl) (fun w hS => ?_) (by assumption) ?_; rotate_left
              · (try dsimp only at hS); go_simp <;> with_reducible rfl
              try simp only [Act.put, lA, lB, lC]
              refine held_take 13 (v := ?_) rfl (by kernel_rfl) (by kernel_rfl) (by kernel_rfl) (fun _ _ _ h => h) (by rfl) (fun w hS => ?_) (by assumption) ?_; rotate_left
              · (try dsimp only at hS); go_simp <;> with_reducible rfl
              try simp only [Act.put, lA, lB, lC]
              refine held_skip 14 rfl (by kernel_rfl) (by kernel_rfl) (by kernel_rfl) (fun _ _ _ h => h) (by rfl) (by assumption) ?_
              try simp only [Act.put, lA, lB, lC]
              refine held_skip 15 rfl (by kernel_rfl) (by kernel_rfl) (by kernel_rfl) (fun _ _ _ h => h) (by rfl) (by assumption) ?_
              try simp only [Act.put, lA, lB, lC]
              refine held_skip 16 rfl (by kernel_rfl) (by kernel_rfl) (by kernel_rfl) (fun _ _ _ h => h) (by rfl) (by assumption) ?_
              try simp only [Act.put, lA, lB, lC]
              refine held_skip 17 rfl (by kernel_rfl) (by kernel_rfl) (by kernel_rfl) (fun _ _ _ h => h) (by rfl) (by assumption) ?_
              try simp only [Act.put, lA, lB, lC]
              refine held_skip 18 rfl (by kernel_rfl) (by kernel_rfl) (by kernel_rfl) (fun _ _ _ h => h) (by rfl) (by assumption) ?_
              try simp only [Act.put, lA, lB, lC]
              refine held_skip 19 rfl (by kernel_rfl) (by kernel_rfl) (by kernel_rfl) (fun _ _ _ h => h) (by rfl) (by assumption) ?_
              try simp only [Act.put, lA, lB, lC]
              refine held_skip 20 rfl (by kernel_rfl) (by kernel_rfl) (by kernel_rfl) (fun _ _ _ h => h) (by rfl) (by assumption) ?_
              try simp only [Act.put, lA, lB, lC]
              refine held_skip 21 rfl (by kernel_rfl) (by kernel_rfl) (by kernel_rfl) (fun _ _ _ h => h) (by rfl) (by assumption) ?_
              try simp only [Act.put, lA, lB, lC]
              refine held_skip 22 rfl (by kernel_rfl) (by kernel_rfl) (by kernel_rfl) (fun _ _ _ h => h) (by rfl) (by assumption) ?_
              try simp only [Act.put, lA, lB, lC]
              refine held_skip 23 rfl (by kernel_rfl) (by kernel_rfl) (by kernel_rfl) (fun _ _ _ h => h) (by rfl) (by assumption) ?_
              try simp only [Act.put, lA, lB, lC]
              refine held_skip 24 rfl (by kernel_rfl) (by kernel_rfl) (by kernel_rfl) (fun _ _ _ h => h) (by rfl) (by assumption) ?_
              try simp only [Act.put, lA, lB, lC]
              refine held_skip 25 rfl (by kernel_rfl) (by kernel_rfl) (by kernel_rfl) (fun _ _ _ h => h) (by rfl) (by assumption) ?_
              try simp only [Act.put, lA, lB, lC]
              refine held_skip 26 rfl (by kernel_rfl) (by kernel_rfl) (by kernel_rfl) (fun _ _ _ h => h) (by rfl) (by assumption) ?_
              try simp only [Act.put, lA, lB, lC]
              refine held_skip 27 rfl (by kernel_rfl) (by kernel_rfl) (by kernel_rfl) (fun _ _ _ h => h) (by rfl) (by assumption) ?_
              try simp only [Act.put, lA, lB, lC]
              refine held_skip 28 rfl (by kernel_rfl) (by kernel_rfl) (by kernel_rfl) (fun _ _ _ h => h) (by rfl) (by assumption) ?_
              try simp only [Act.put, lA, lB, lC]
              refine held_skip 29 rfl (by kernel_rfl) (by kernel_rfl) (by kernel_rfl) (fun _ _ _ h => h) (by rfl) (by assumption) ?_
              try simp only [Act.put, lA, lB, lC]
              refine held_skip 30 rfl (by kernel_rfl) (by kernel_rfl) (by kernel_rfl) (fun _ _ _ h => h) (by rfl) (by assumption) ?_
              try simp only [Act.put, lA, lB, lC]
              refine held_skip 31 rfl (by kernel_rfl) (by kernel_rfl) (by kernel_rfl) (fun _ _ _ h => h) (by rfl) (by assumption) ?_
              try simp only [Act.put, lA, lB, lC]
              refine held_skip 32 rfl (by kernel_rfl) (by kernel_rfl) (by kernel_rfl) (fun _ _ _ h => h) (by rfl) (by assumption) ?_
              try simp only [Act.put, lA, lB, lC]
              refine held_skip 33 rfl (by kernel_rfl) (by kernel_rfl) (by kernel_rfl) (fun _ _ _ h => h) (by rfl) (by assumption) ?_
              try simp only [Act.put, lA, lB, lC]
              refine held_skip 34 rfl (by kernel_rfl) (by kernel_rfl) (by kernel_rfl) (fun _ _ _ h => h) (by rfl) (by assumption) ?_
              try simp only [Act.put, lA, lB, lC]
              refine held_skip 35 rfl (by kernel_rfl) (by kernel_rfl) (by kernel_rfl) (fun _ _ _ h => h) (by rfl) (by assumption) ?_
              try simp only [Act.put, lA, lB, lC]
              refine held_skip 36 rfl (by kernel_rfl) (by kernel_rfl) (by kernel_rfl) (fun _ _ _ h => h) (by rfl) (by assumption) ?_
              try simp only [Act.put, lA, lB, lC]
              refine held_skip 37 rfl (by kernel_rfl) (by kernel_rfl) (by kernel_rfl) (fun _ _ _ h => h) (by rfl) (by assumption) ?_
              try simp only [Act.put, lA, lB, lC]
              refine held_skip 38 rfl (by kernel_rfl) (by kernel_rfl) (by kernel_rfl) (fun _ _ _ h => h) (by rfl) (by assumption) ?_
              try simp only [Act.put, lA, lB, lC]
              refine held_skip 39 rfl (by kernel_rfl) (by kernel_rfl) (by kernel_rfl) (fun _ _ _ h => h) (by rfl) (by assumption) ?_
              try simp only [Act.put, lA, lB, lC]
              refine held_skip 40 rfl (by kernel_rfl) (by kernel_rfl) (by kernel_rfl) (fun _ _ _ h => h) (by rfl) (by assumption) ?_
              try simp only [Act.put, lA, lB, lC]
              refine held_skip 41 rfl (by kernel_rfl) (by kernel_rfl) (by kernel_rfl) (fun _ _ _ h => h) (by rfl) (by assumption) ?_
              try simp only [Act.put, lA, lB, lC]
              refine held_skip 42 rfl (by kernel_rfl) (by kernel_rfl) (by kernel_rfl) (fun _ _ _ h => h) (by rfl) (by assumption) ?_
              try simp only [Act.put, lA, lB, lC]
              refine held_skip 43 rfl (by kernel_rfl) (by kernel_rfl) (by kernel_rfl) (fun _ _ _ h => h) (by rfl) (by assumption) ?_
              try simp only [Act.put, lA, lB, lC]
              refine held_skip 44 rfl (by kernel_rfl) (by kernel_rfl) (by kernel_rfl) (fun _ _ _ h => h) (by rfl) (by assumption) ?_
              try simp only [Act.put, lA, lB, lC]
              refine held_skip 45 rfl (by kernel_rfl) (by kernel_rfl) (by kernel_rfl) (fun _ _ _ h => h) (by rfl) (by assumption) ?_
              try simp only [Act.put, lA, lB, lC]
              refine held_skip 46 rfl (by kernel_rfl) (by kernel_rfl) (by kernel_rfl) (fun _ _ _ h => h) (by rfl) (by assumption) ?_
              try simp only [Act.put, lA, lB, lC]
              refine held_skip 47 rfl (by kernel_rfl) (by kernel_rfl) (by kernel_rfl) (fun _ _ _ h => h) (by rfl) (by assumption) ?_
              try simp only [Act.put, lA, lB, lC]
              refine held_skip 48 rfl (by kernel_rfl) (by kernel_rfl) (by kernel_rfl) (fun _ _ _ h => h) (by rfl) (by assumption) ?_
              try simp only [Act.put, lA, lB, lC]
              refine held_skip 49 rfl (by kernel_rfl) (by kernel_rfl) (by kernel_rfl) (fun _ _ _ h => h) (by rfl) (by assumption) ?_
              try simp only [Act.put, lA, lB, lC]
              refine held_skip 50 rfl (by kernel_rfl) (by kernel_rfl) (by kernel_rfl) (fun _ _ _ h => h) (by rfl) (by assumption) ?_
              try simp only [Act.put, lA, lB, lC]
              refine held_skip 51 rfl (by kernel_rfl) (by kernel_rfl) (by kernel_rfl) (fun _ _ _ h => h) (by rfl) (by assumption) ?_
              try simp only [Act.put, lA, lB, lC]
              refine held_skip 52 rfl (by kernel_rfl) (by kernel_rfl) (by kernel_rfl) (fun _ _ _ h => h) (by rfl) (by assumption) ?_
              try simp only [Act.put, lA, lB, lC]
              refine held_skip 53 rfl (by kernel_rfl) (by kernel_rfl) (by kernel_rfl) (fun _ _ _ h => h) (by rfl) (by assumption) ?_
              try simp only [Act.put, lA, lB, lC]
              refine held_skip 54 rfl (by kernel_rfl) (by kernel_rfl) (by kernel_rfl) (fun _ _ _ h => h) (by rfl) (by assumption) ?_
              try simp only [Act.put, lA, lB, lC]
              refine held_take 55 (v := ?_) rfl (by kernel_rfl) (by kernel_rfl) (by kernel_rfl) (fun _ _ _ h => h) (by rfl) (fun w hS => ?_) (by assumption) ?_; rotate_left
              · (try dsimp only at hS); go_simp <;> with_reducible rfl
              try simp only [Act.put, lA, lB, lC]
              refine held_done (by kernel_rfl) ?_
              go_wp2
              go_roundw
              case rel => exact ⟨k + 1, zz, _, by omega, by go_num, rfl, rfl, HP2, HM2, by omega, by omega, Lib.hid (HB.out.trans (hbA.mono hbo))⟩
              case measure => simp [intOf]; omega
            | true =>
              by_cases hlv : 0 < zl
              · have hem : (rightB ⟨zn, zl, zp, zw, zo, zi, false⟩ && restB ⟨zn, zl, zp, zw, zo, zi, false⟩) = true := by unfold okB at hok; unfold restB; rw [← Bool.and_assoc, hok]; simpa using hlv
                rcases HP.out with ⟨h1, rfl⟩ | ⟨j, y, rfl, hj, hy, hbest⟩
                · have HP2 := Lib.hid (pick_first h1 HX.out hem)
                  clear h1 hem
                  refine wp_region_held_drew (S := (fun w' => Below wo.heap.size wo w')) (by kernel_rfl) (hbD) (fun hHeld => ?_)
                  refine held_take 0 (v := ?_) rfl (by kernel_rfl) (by kernel_rfl) (by kernel_rfl) (fun _ _ _ h => h) (by rfl) (fun w hS => ?_) (by assumption) ?_; rotate_left
                  · (try dsimp only at hS); go_simp <;> with_reducible rfl
                  try simp only [Act.put, lA, lB, lC]
                  refine held_take 1 (v := ?_) rfl (by kernel_rfl) (by kernel_rfl) (by kernel_rfl) (fun _ _ _ h => h) (by rfl) (fun w hS => ?_) (by assumption) ?_; rotate_left
                  · (try dsimp only at hS); go_simp <;> with_reducible rfl
                  try simp only [Act.put, lA, lB, lC]
                  refine held_take 2 (v := ?_) rfl (by kernel_rfl) (by kernel_rfl) (by kernel_rfl) (fun _ _ _ h => h) (by rfl) (fun w hS => ?_) (by assumption) ?_; rotate_left
                  · (try dsimp only at hS); go_simp <;> with_reducible rfl
                  try simp only [Act.put, lA, lB, lC]
                  refine held_take 3 (v := ?_) rfl (by kernel_rfl) (by kernel_rfl) (by kernel_rfl) (fun _ _ _ h => h) (by rfl) (fun w hS => ?_) (by assumption) ?_; rotate_left
                  · (try dsimp only at hS); go_simp <;> with_reducible rfl
                  try simp only [Act.put, lA, lB, lC]
                  refine held_one 4 rfl (by kernel_rfl) (fun K hK => ?_)
                  go_simp
                  refine Calls.mono (rmay7_lit _ _ _ _ _ _ _ _ hok) ?_
                  rintro e wa ⟨rfl, hb⟩
                  have hbA : Below wo.heap.size wo wa := hbD.trans (hb.mono hbD.size)
                  refine hK.out _ _ (fun w' => Below wo.heap.size wo w') (fun _ h => h) hbA (fun hHeld => ?_)
                  clear hK K
                  try simp only [Act.put, lA, lB, lC]
                  refine held_take 5 (v := ?_) rfl (by kernel_rfl) (by kernel_rfl) (by kernel_rfl) (fun _ _ _ h => h) (by rfl) (fun w hS => ?_) (by assumption) ?_; rotate_left
                  · (try dsimp only at hS); go_simp <;> with_reducible rfl
                  try simp only [Act.put, lA, lB, lC]
                  refine held_take 6 (v := ?_) rfl (by kernel_rfl) (by kernel_rfl) (by kernel_rfl) (fun _ _ _ h => h) (by rfl) (fun w hS => ?_) (by assumption) ?_; rotate_left
                  · (try dsimp only at hS); go_simp <;> with_reducible rfl
                  try simp only [Act.put, lA, lB, lC]
                  refine held_take 7 (v := ?_) rfl (by kernel_rfl) (by kernel_rfl) (by kernel_rfl) (fun _ _ _ h => h) (by rfl) (fun w hS => ?_) (by assumption) ?_; rotate_left
                  · (try dsimp only at hS); go_simp <;> with_reducible rfl
                  try simp only [Act.put, lA, lB, lC]
                  refine held_take 8 (v := ?_) rfl (by kernel_rfl) (by kernel_rfl) (by kernel_rfl) (fun _ _ _ h => h) (by rfl) (fun w hS => ?_) (by assumption) ?_; rotate_left
                  · (try dsimp only at hS); go_simp <;> with_reducible rfl
                  try simp only [Act.put, lA, lB, lC]
                  refine held_take 9 (v := ?_) rfl (by kernel_rfl) (by kernel_rfl) (by kernel_rfl) (fun _ _ _ h => h) (by rfl) (fun w hS => ?_) (by assumption) ?_; rotate_left
                  · (try dsimp only at hS); go_simp <;> with_reducible rfl
                  try simp only [Act.put, lA, lB, lC]
                  refine held_take 10 (v := ?_) rfl (by kernel_rfl) (by kernel_rfl) (by kernel_rfl) (fun _ _ _ h => h) (by rfl) (fun w hS => ?_) (by assumption) ?_; rotate_left
                  · (try dsimp only at hS); go_simp <;> with_reducible rfl
                  try simp only [Act.put, lA, lB, lC]
                  refine held_take 11 (v := ?_) rfl (by kernel_rfl) (by kernel_rfl) (by kernel_rfl) (fun _ _ _ h => h) (by rfl) (fun w hS => ?_) (by assumption) ?_; rotate_left
                  · (try dsimp only at hS); go_simp <;> with_reducible rfl
                  try simp only [Act.put, lA, lB, lC]
                  refine held_take 12 (v := ?_) rfl (by kernel_rfl) (by kernel_rfl) (by kernel_rfl) (fun _ _ _ h => h) (by rfl) (fun w hS => ?_) (by assumption) ?_; rotate_left
                  · (try dsimp only at hS); go_simp <;> with_reducible rfl
                  try simp only [Act.put, lA, lB, lC]
                  refine held_take 13 (v := ?_) rfl (by kernel_rfl) (by kernel_rfl) (by kernel_rfl) (fun _ _ _ h => h) (by rfl) (fun w hS => ?_) (by assumption) ?_; rotate_left
                  · (try dsimp only at hS); go_simp <;> with_reducible rfl
                  try simp only [Act.put, lA, lB, lC]
                  refine held_take 14 (v := ?_) rfl (by kernel_rfl) (by kernel_rfl) (by kernel_rfl) (fun _ _ _ h => h) (by rfl) (fun w hS => ?_) (by assumption) ?_; rotate_left
                  · (try dsimp only at hS); go_simp <;> with_reducible rfl
                  try simp only [Act.put, lA, lB, lC]
                  refine held_take 15 (v := ?_) rfl (by kernel_rfl) (by kernel_rfl) (by kernel_rfl) (fun _ _ _ h => h) (by rfl) (fun w hS => ?_) (by assumption) ?_; rotate_left
                  · (try dsimp only at hS); go_simp <;> with_reducible rfl
                  try simp only [Act.put, lA, lB, lC]
                  refine held_take 16 (v := ?_) rfl (by kernel_rfl) (by kernel_rfl) (by kernel_rfl) (fun _ _ _ h => h) (by rfl) (fun w hS => ?_) (by assumption) ?_; rotate_left
                  · (try dsimp only at hS); go_simp <;> with_reducible rfl
                  try simp only [Act.put, lA, lB, lC]
                  refine held_skip 17 rfl (by kernel_rfl) (by kernel_rfl) (by kernel_rfl) (fun _ _ _ h => h) (by rfl) (by assumption) ?_
                  try simp only [Act.put, lA, lB, lC]
                  refine held_skip 18 rfl (by kernel_rfl) (by kernel_rfl) (by kernel_rfl) (fun _ _ _ h => h) (by rfl) (by assumption) ?_
                  try simp only [Act.put, lA, lB, lC]
                  refine held_skip 19 rfl (by kernel_rfl) (by kernel_rfl) (by kernel_rfl) (fun _ _ _ h => h) (by rfl) (by assumption) ?_
                  try simp only [Act.put, lA, lB, lC]
                  refine held_skip 20 rfl (by kernel_rfl) (by kernel_rfl) (by kernel_rfl) (fun _ _ _ h => h) (by rfl) (by assumption) ?_
                  try simp only [Act.put, lA, lB, lC]
                  refine held_skip 21 rfl (by kernel_rfl) (by kernel_rfl) (by kernel_rfl) (fun _ _ _ h => h) (by rfl) (by assumption) ?_
                  try simp only [Act.put, lA, lB, lC]
                  refine held_skip 22 rfl (by kernel_rfl) (by kernel_rfl) (by kernel_rfl) (fun _ _ _ h => h) (by rfl) (by assumption) ?_
                  try simp only [Act.put, lA, lB, lC]
                  refine held_skip 23 rfl (by kernel_rfl) (by kernel_rfl) (by kernel_rfl) (fun _ _ _ h => h) (by rfl) (by assumption) ?_
                  try simp only [Act.put, lA, lB, lC]
                  refine held_skip 24 rfl (by kernel_rfl) (by kernel_rfl) (by kernel_rfl) (fun _ _ _ h => h) (by rfl) (by assumption) ?_
                  try simp only [Act.put, lA, lB, lC]
                  refine held_skip 25 rfl (by kernel_rfl) (by kernel_rfl) (by kernel_rfl) (fun _ _ _ h => h) (by rfl) (by assumption) ?_
                  try simp only [Act.put, lA, lB, lC]
                  refine held_skip 26 rfl (by kernel_rfl) (by kernel_rfl) (by kernel_rfl) (fun _ _ _ h => h) (by rfl) (by assumption) ?_
                  try simp only [Act.put, lA, lB, lC]
                  refine held_skip 27 rfl (by kernel_rfl) (by kernel_rfl) (by kernel_rfl) (fun _ _ _ h => h) (by rfl) (by assumption) ?_
                  try simp only [Act.put, lA, lB, lC]
                  refine held_take 28 (v := ?_) rfl (by kernel_rfl) (by kernel_rfl) (by kernel_rfl) (fun _ _ _ h => h) (by rfl) (fun w hS => ?_) (by assumption) ?_; rotate_left
                  · (try dsimp only at hS); go_simp <;> with_reducible rfl
                  try simp only [Act.put, lA, lB, lC]
                  refine held_take 29 (v := ?_) rfl (by kernel_rfl) (by kernel_rfl) (by kernel_rfl) (fun _ _ _ h => h) (by rfl) (fun w hS => ?_) (by assumption) ?_; rotate_left
                  · (try dsimp only at hS); go_simp <;> with_reducible rfl
                  try simp only [Act.put, lA, lB, lC]
                  refine held_skip 30 rfl (by kernel_rfl) (by kernel_rfl) (by kernel_rfl) (fun _ _ _ h => h) (by rfl) (by assumption) ?_
                  try simp only [Act.put, lA, lB, lC]
                  refine held_skip 31 rfl (by kernel_rfl) (by kernel_rfl) (by kernel_rfl) (fun _ _ _ h => h) (by rfl) (by assumption) ?_
                  try simp only [Act.put, lA, lB, lC]
                  refine held_skip 32 rfl (by kernel_rfl) (by kernel_rfl) (by kernel_rfl) (fun _ _ _ h => h) (by rfl) (by assumption) ?_
                  try simp only [Act.put, lA, lB, lC]
                  refine held_skip 33 rfl (by kernel_rfl) (by kernel_rfl) (by kernel_rfl) (fun _ _ _ h => h) (by rfl) (by assumption) ?_
                  try simp only [Act.put, lA, lB, lC]
                  refine held_skip 34 rfl (by kernel_rfl) (by kernel_rfl) (by kernel_rfl) (fun _ _ _ h => h) (by rfl) (by assumption) ?_
                  try simp only [Act.put, lA, lB, lC]
                  refine held_skip 35 rfl (by kernel_rfl) (by kernel_rfl) (by kernel_rfl) (fun _ _ _ h => h) (by rfl) (by assumption) ?_
                  try simp only [Act.put, lA, lB, lC]
                  refine held_skip 36 rfl (by kernel_rfl) (by kernel_rfl) (by kernel_rfl) (fun _ _ _ h => h) (by rfl) (by assumption) ?_
                  try simp only [Act.put, lA, lB, lC]
                  refine held_skip 37 rfl (by kernel_rfl) (by kernel_rfl) (by kernel_rfl) (fun _ _ _ h => h) (by rfl) (by assumption) ?_
                  try simp only [Act.put, lA, lB, lC]
                  refine held_skip 38 rfl (by kernel_rfl) (by kernel_rfl) (by kernel_rfl) (fun _ _ _ h => h) (by rfl) (by assumption) ?_
                  try simp only [Act.put, lA, lB, lC]
                  refine held_skip 39 rfl (by kernel_rfl) (by kernel_rfl) (by kernel_rfl) (fun _ _ _ h => h) (by rfl) (by assumption) ?_
                  try simp only [Act.put, lA, lB, lC]
                  refine held_skip 40 rfl (by kernel_rfl) (by kernel_rfl) (by kernel_rfl) (fun _ _ _ h => h) (by rfl) (by assumption) ?_
                  try simp only [Act.put, lA, lB, lC]
                  refine held_skip 41 rfl (by kernel_rfl) (by kernel_rfl) (by kernel_rfl) (fun _ _ _ h => h) (by rfl) (by assumption) ?_
                  try simp only [Act.put, lA, lB, lC]
                  refine held_skip 42 rfl (by kernel_rfl) (by kernel_rfl) (by kernel_rfl) (fun _ _ _ h => h) (by rfl) (by assumption) ?_
                  try simp only [Act.put, lA, lB, lC]
                  refine held_skip 43 rfl (by kernel_rfl) (by kernel_rfl) (by kernel_rfl) (fun _ _ _ h => h) (by rfl) (by assumption) ?_
                  try simp only [Act.put, lA, lB, lC]
                  refine held_skip 44 rfl (by kernel_rfl) (by kernel_rfl) (by kernel_rfl) (fun _ _ _ h => h) (by rfl) (by assumption) ?_
                  try simp only [Act.put, lA, lB, lC]
                  refine held_skip 45 rfl (by kernel_rfl) (by kernel_rfl) (by kernel_rfl) (fun _ _ _ h => h) (by rfl) (by assumption) ?_
                  try simp only [Act.put, lA, lB, lC]
                  refine held_skip 46 rfl (by kernel_rfl) (by kernel_rfl) (by kernel_rfl) (fun _ _ _ h => h) (by rfl) (by assumption) ?_
                  try simp only [Act.put, lA, lB, lC]
                  refine held_skip 47 rfl (by kernel_rfl) (by kernel_rfl) (by kernel_rfl) (fun _ _ _ h => h) (by rfl) (by assumption) ?_
                  try simp only [Act.put, lA, lB, lC]
                  refine held_skip 48 rfl (by kernel_rfl) (by kernel_rfl) (by kernel_rfl) (fun _ _ _ h => h) (by rfl) (by assumption) ?_
                  try simp only [Act.put, lA, lB, lC]
                  refine held_skip 49 rfl (by kernel_rfl) (by kernel_rfl) (by kernel_rfl) (fun _ _ _ h => h) (by rfl) (by assumption) ?_
                  try simp only [Act.put, lA, lB, lC]
                  refine held_skip 50 rfl (by kernel_rfl) (by kernel_rfl) (by kernel_rfl) (fun _ _ _ h => h) (by rfl) (by assumption) ?_
                  try simp only [Act.put, lA, lB, lC]
                  refine held_skip 51 rfl (by kernel_rfl) (by kernel_rfl) (by kernel_rfl) (fun _ _ _ h => h) (by rfl) (by assumption) ?_
                  try simp only [Act.put, lA, lB, lC]
                  refine held_skip 52 rfl (by kernel_rfl) (by kernel_rfl) (by kernel_rfl) (fun _ _ _ h => h) (by rfl) (by assumption) ?_
                  try simp only [Act.put, lA, lB, lC]
                  refine held_skip 53 rfl (by kernel_rfl) (by kernel_rfl) (by kernel_rfl) (fun _ _ _ h => h) (by rfl) (by assumption) ?_
                  try simp only [Act.put, lA, lB, lC]
                  refine held_take 54 (v := ?_) rfl (by kernel_rfl) (by kernel_rfl) (by kernel_rfl) (fun _ _ _ h => h) (by rfl) (fun w hS => ?_) (by assumption) ?_; rotate_left
                  · (try dsimp only at hS); go_simp <;> with_reducible rfl
                  try simp only [Act.put, lA, lB, lC]
                  refine held_take 55 (v := ?_) rfl (by kernel_rfl) (by kernel_rfl) (by kernel_rfl) (fun _ _ _ h => h) (by rfl) (fun w hS => ?_) (by assumption) ?_; rotate_left
                  · (try dsimp only at hS); go_simp <;> with_reducible rfl
                  try simp only [Act.put, lA, lB, lC]
                  refine held_done (by kernel_rfl) ?_
                  go_wp2
                  go_roundw
                  case rel => exact ⟨k + 1, (k : Int), _, by omega, by go_num, rfl, rfl, HP2, HM2, by omega, by omega, Lib.hid (HB.out.trans (hbA.mono hbo))⟩
                  case measure => simp [intOf]; omega
                · obtain ⟨hd0, hd1, hd2, hd3, hd4, hd5, hd6⟩ := Blk.sevenAll HLo.out (show j < len by omega) hy
                  have t4 : (j : Int) < (len : Int) := by omega
                  have t5 : (0 : Int) ≤ (j : Int) := by omega
                  have t6 : ((j : Int)).toNat = j := by omega
                  by_cases hw : zw < y.worn
                  · have HP2 := Lib.hid (pick_better hbest HX.out hem (by simp [aheadO, hw]))
                    clear hbest hy hem
                    refine wp_region_held_drew (S := (fun w' => Below wo.heap.size wo w')) (by kernel_rfl) (hbD) (fun hHeld => ?_)
                    refine held_take 0 (v := ?_) rfl (by kernel_rfl) (by kernel_rfl) (by kernel_rfl) (fun _ _ _ h => h) (by rfl) (fun w hS => ?_) (by assumption) ?_; rotate_left
                    · (try dsimp only at hS); go_simp <;> with_reducible rfl
                    try simp only [Act.put, lA, lB, lC]
                    refine held_take 1 (v := ?_) rfl (by kernel_rfl) (by kernel_rfl) (by kernel_rfl) (fun _ _ _ h => h) (by rfl) (fun w hS => ?_) (by assumption) ?_; rotate_left
                    · (try dsimp only at hS); go_simp <;> with_reducible rfl
                    try simp only [Act.put, lA, lB, lC]
                    refine held_take 2 (v := ?_) rfl (by kernel_rfl) (by kernel_rfl) (by kernel_rfl) (fun _ _ _ h => h) (by rfl) (fun w hS => ?_) (by assumption) ?_; rotate_left
                    · (try dsimp only at hS); go_simp <;> with_reducible rfl
                    try simp only [Act.put, lA, lB, lC]
                    refine held_take 3 (v := ?_) rfl (by kernel_rfl) (by kernel_rfl) (by kernel_rfl) (fun _ _ _ h => h) (by rfl) (fun w hS => ?_) (by assumption) ?_; rotate_left
                    · (try dsimp only at hS); go_simp <;> with_reducible rfl
                    try simp only [Act.put, lA, lB, lC]
                    refine held_one 4 rfl (by kernel_rfl) (fun K hK => ?_)
                    go_simp
                    refine Calls.mono (rmay7_lit _ _ _ _ _ _ _ _ hok) ?_
                    rintro e wa ⟨rfl, hb⟩
                    have hbA : Below wo.heap.size wo wa := hbD.trans (hb.mono hbD.size)
                    refine hK.out _ _ (fun w' => Below wo.heap.size wo w') (fun _ h => h) hbA (fun hHeld => ?_)
                    clear hK K
                    try simp only [Act.put, lA, lB, lC]
                    refine held_take 5 (v := ?_) rfl (by kernel_rfl) (by kernel_rfl) (by kernel_rfl) (fun _ _ _ h => h) (by rfl) (fun w hS => ?_) (by assumption) ?_; rotate_left
                    · (try dsimp only at hS); go_simp <;> with_reducible rfl
                    try simp only [Act.put, lA, lB, lC]
                    refine held_take 6 (v := ?_) rfl (by kernel_rfl) (by kernel_rfl) (by kernel_rfl) (fun _ _ _ h => h) (by rfl) (fun w hS => ?_) (by assumption) ?_; rotate_left
                    · (try dsimp only at hS); go_simp <;> with_reducible rfl
                    try simp only [Act.put, lA, lB, lC]
                    refine held_take 7 (v := ?_) rfl (by kernel_rfl) (by kernel_rfl) (by kernel_rfl) (fun _ _ _ h => h) (by rfl) (fun w hS => ?_) (by assumption) ?_; rotate_left
                    · (try dsimp only at hS); go_simp <;> with_reducible rfl
                    try simp only [Act.put, lA, lB, lC]
                    refine held_take 8 (v := ?_) rfl (by kernel_rfl) (by kernel_rfl) (by kernel_rfl) (fun _ _ _ h => h) (by rfl) (fun w hS => ?_) (by assumption) ?_; rotate_left
                    · (try dsimp only at hS); go_simp <;> with_reducible rfl
                    try simp only [Act.put, lA, lB, lC]
                    refine held_take 9 (v := ?_) rfl (by kernel_rfl) (by kernel_rfl) (by kernel_rfl) (fun _ _ _ h => h) (by rfl) (fun w hS => ?_) (by assumption) ?_; rotate_left
                    · (try dsimp only at hS); go_simp <;> with_reducible rfl
                    try simp only [Act.put, lA, lB, lC]
                    refine held_take 10 (v := ?_) rfl (by kernel_rfl) (by kernel_rfl) (by kernel_rfl) (fun _ _ _ h => h) (by rfl) (fun w hS => ?_) (by assumption) ?_; rotate_left
                    · (try dsimp only at hS); go_simp <;> with_reducible rfl
                    try simp only [Act.put, lA, lB, lC]
                    refine held_take 11 (v := ?_) rfl (by kernel_rfl) (by kernel_rfl) (by kernel_rfl) (fun _ _ _ h => h) (by rfl) (fun w hS => ?_) (by assumption) ?_; rotate_left
                    · (try dsimp only at hS); go_simp <;> with_reducible rfl
                    try simp only [Act.put, lA, lB, lC]
                    refine held_take 12 (v := ?_) rfl (by kernel_rfl) (by kernel_rfl) (by kernel_rfl) (fun _ _ _ h => h) (by rfl) (fun w hS => ?_) (by assumption) ?_; rotate_left
                    · (try dsimp only at hS); go_simp <;> with_reducible rfl
                    try simp only [Act.put, lA, lB, lC]
                    refine held_take 13 (v := ?_) rfl (by kernel_rfl) (by kernel_rfl) (by kernel_rfl) (fun _ _ _ h => h) (by rfl) (fun w hS => ?_) (by assumption) ?_; rotate_left
                    · (try dsimp only at hS); go_simp <;> with_reducible rfl
                    try simp only [Act.put, lA, lB, lC]
                    refine held_take 14 (v := ?_) rfl (by kernel_rfl) (by kernel_rfl) (by kernel_rfl) (fun _ _ _ h => h) (by rfl) (fun w hS => ?_) (by assumption) ?_; rotate_left
                    · (try dsimp only at hS); go_simp <;> with_reducible rfl
                    try simp only [Act.put, lA, lB, lC]
                    refine held_take 15 (v := ?_) rfl (by kernel_rfl) (by kernel_rfl) (by kernel_rfl) (fun _ _ _ h => h) (by rfl) (fun w hS => ?_) (by assumption) ?_; rotate_left
                    · (try dsimp only at hS); go_simp <;> with_reducible rfl
                    try simp only [Act.put, lA, lB, lC]
                    refine held_take 16 (v := ?_) rfl (by kernel_rfl) (by kernel_rfl) (by kernel_rfl) (fun _ _ _ h => h) (by rfl) (fun w hS => ?_) (by assumption) ?_; rotate_left
                    · (try dsimp only at hS); go_simp <;> with_reducible rfl
                    try simp only [Act.put, lA, lB, lC]
                    refine held_take 17 (v := ?_) rfl (by kernel_rfl) (by kernel_rfl) (by kernel_rfl) (fun _ _ _ h => h) (by rfl) (fun w hS => ?_) (by assumption) ?_; rotate_left
                    · (try dsimp only at hS); go_simp <;> with_reducible rfl
                    try simp only [Act.put, lA, lB, lC]
                    refine held_take 18 (v := ?_) rfl (by kernel_rfl) (by kernel_rfl) (by kernel_rfl) (fun _ _ _ h => h) (by rfl) (fun w hS => ?_) (by assumption) ?_; rotate_left
                    · (try dsimp only at hS); go_simp <;> with_reducible rfl
                    try simp only [Act.put, lA, lB, lC]
                    refine held_take 19 (v := ?_) rfl (by kernel_rfl) (by kernel_rfl) (by kernel_rfl) (fun _ _ _ h => h) (by rfl) (fun w hS => ?_) (by assumption) ?_; rotate_left
                    · (try dsimp only at hS); go_simp <;> with_reducible rfl
                    try simp only [Act.put, lA, lB, lC]
                    refine held_take 20 (v := ?_) rfl (by kernel_rfl) (by kernel_rfl) (by kernel_rfl) (fun _ _ _ h => h) (by rfl) (fun w hS => ?_) (by assumption) ?_; rotate_left
                    · (try dsimp only at hS); go_simp <;> with_reducible rfl
                    try simp only [Act.put, lA, lB, lC]
                    refine held_take 21 (v := ?_) rfl (by kernel_rfl) (by kernel_rfl) (by kernel_rfl) (fun _ _ _ h => h) (by rfl) (fun w hS => ?_) (by assumption) ?_; rotate_left
                    · (try dsimp only at hS); go_simp <;> with_reducible rfl
                    try simp only [Act.put, lA, lB, lC]
                    refine held_take 22 (v := ?_) rfl (by kernel_rfl) (by kernel_rfl) (by kernel_rfl) (fun _ _ _ h => h) (by rfl) (fun w hS => ?_) (by assumption) ?_; rotate_left
                    · (try dsimp only at hS); go_simp <;> with_reducible rfl
                    try simp only [Act.put, lA, lB, lC]
                    refine held_take 23 (v := ?_) rfl (by kernel_rfl) (by kernel_rfl) (by kernel_rfl) (fun _ _ _ h => h) (by rfl) (fun w hS => ?_) (by assumption) ?_; rotate_left
                    · (try dsimp only at hS); go_simp <;> with_reducible rfl
                    try simp only [Act.put, lA, lB, lC]
                    refine held_take 24 (v := ?_) rfl (by kernel_rfl) (by kernel_rfl) (by kernel_rfl) (fun _ _ _ h => h) (by rfl) (fun w hS => ?_) (by assumption) ?_; rotate_left
                    · (try dsimp only at hS); go_simp <;> with_reducible rfl
                    try simp only [Act.put, lA, lB, lC]
                    refine held_take 25 (v := ?_) rfl (by kernel_rfl) (by kernel_rfl) (by kernel_rfl) (fun _ _ _ h => h) (by rfl) (fun w hS => ?_) (by assumption) ?_; rotate_left
                    · (try dsimp only at hS); go_simp <;> with_reducible rfl
                    try simp only [Act.put, lA, lB, lC]
                    refine held_take 26 (v := ?_) rfl (by kernel_rfl) (by kernel_rfl) (by kernel_rfl) (fun _ _ _ h => h) (by rfl) (fun w hS => ?_) (by assumption) ?_; rotate_left
                    · (try dsimp only at hS); go_simp <;> with_reducible rfl
                    try simp only [Act.put, lA, lB, lC]
                    refine held_take 27 (v := ?_) rfl (by kernel_rfl) (by kernel_rfl) (by kernel_rfl) (fun _ _ _ h => h) (by rfl) (fun w hS => ?_) (by assumption) ?_; rotate_left
                    · (try dsimp only at hS); go_simp <;> with_reducible rfl
                    try simp only [Act.put, lA, lB, lC]
                    refine held_take 28 (v := ?_) rfl (by kernel_rfl) (by kernel_rfl) (by kernel_rfl) (fun _ _ _ h => h) (by rfl) (fun w hS => ?_) (by assumption) ?_; rotate_left
                    · (try dsimp only at hS); go_simp <;> with_reducible rfl
                    try simp only [Act.put, lA, lB, lC]
                    refine held_take 29 (v := ?_) rfl (by kernel_rfl) (by kernel_rfl) (by kernel_rfl) (fun _ _ _ h => h) (by rfl) (fun w hS => ?_) (by assumption) ?_; rotate_left
                    · (try dsimp only at hS); go_simp <;> with_reducible rfl
                    try simp only [Act.put, lA, lB, lC]
                    refine held_skip 30 rfl (by kernel_rfl) (by kernel_rfl) (by kernel_rfl) (fun _ _ _ h => h) (by rfl) (by assumption) ?_
                    try simp only [Act.put, lA, lB, lC]
                    refine held_skip 31 rfl (by kernel_rfl) (by kernel_rfl) (by kernel_rfl) (fun _ _ _ h => h) (by rfl) (by assumption) ?_
                    try simp only [Act.put, lA, lB, lC]
                    refine held_skip 32 rfl (by kernel_rfl) (by kernel_rfl) (by kernel_rfl) (fun _ _ _ h => h) (by rfl) (by assumption) ?_
                    try simp only [Act.put, lA, lB, lC]
                    refine held_skip 33 rfl (by kernel_rfl) (by kernel_rfl) (by kernel_rfl) (fun _ _ _ h => h) (by rfl) (by assumption) ?_
                    try simp only [Act.put, lA, lB, lC]
                    refine held_skip 34 rfl (by kernel_rfl) (by kernel_rfl) (by kernel_rfl) (fun _ _ _ h => h) (by rfl) (by assumption) ?_
                    try simp only [Act.put, lA, lB, lC]
                    refine held_skip 35 rfl (by kernel_rfl) (by kernel_rfl) (by kernel_rfl) (fun _ _ _ h => h) (by rfl) (by assumption) ?_
                    try simp only [Act.put, lA, lB, lC]
                    refine held_skip 36 rfl (by kernel_rfl) (by kernel_rfl) (by kernel_rfl) (fun _ _ _ h => h) (by rfl) (by assumption) ?_
                    try simp only [Act.put, lA, lB, lC]
                    refine held_skip 37 rfl (by kernel_rfl) (by kernel_rfl) (by kernel_rfl) (fun _ _ _ h => h) (by rfl) (by assumption) ?_
                    try simp only [Act.put, lA, lB, lC]
                    refine held_skip 38 rfl (by kernel_rfl) (by kernel_rfl) (by kernel_rfl) (fun _ _ _ h => h) (by rfl) (by assumption) ?_
                    try simp only [Act.put, lA, lB, lC]
                    refine held_skip 39 rfl (by kernel_rfl) (by kernel_rfl) (by kernel_rfl) (fun _ _ _ h => h) (by rfl) (by assumption) ?_
                    try simp only [Act.put, lA, lB, lC]
                    refine held_skip 40 rfl (by kernel_rfl) (by kernel_rfl) (by kernel_rfl) (fun _ _ _ h => h) (by rfl) (by assumption) ?_
                    try simp only [Act.put, lA, lB, lC]
                    refine held_skip 41 rfl (by kernel_rfl) (by kernel_rfl) (by kernel_rfl) (fun _ _ _ h => h) (by rfl) (by assumption) ?_
                    try simp only [Act.put, lA, lB, lC]
                    refine held_skip 42 rfl (by kernel_rfl) (by kernel_rfl) (by kernel_rfl) (fun _ _ _ h => h) (by rfl) (by assumption) ?_
                    try simp only [Act.put, lA, lB, lC]
                    refine held_skip 43 rfl (by kernel_rfl) (by kernel_rfl) (by kernel_rfl) (fun _ _ _ h => h) (by rfl) (by assumption) ?_
                    try simp only [Act.put, lA, lB, lC]
                    refine held_skip 44 rfl (by kernel_rfl) (by kernel_rfl) (by kernel_rfl) (fun _ _ _ h => h) (by rfl) (by assumption) ?_
                    try simp only [Act.put, lA, lB, lC]
                    refine held_skip 45 rfl (by kernel_rfl) (by kernel_rfl) (by kernel_rfl) (fun _ _ _ h => h) (by rfl) (by assumption) ?_
                    try simp only [Act.put, lA, lB, lC]
                    refine held_skip 46 rfl (by kernel_rfl) (by kernel_rfl) (by kernel_rfl) (fun _ _ _ h => h) (by rfl) (by assumption) ?_
                    try simp only [Act.put, lA, lB, lC]
                    refine held_skip 47 rfl (by kernel_rfl) (by kernel_rfl) (by kernel_rfl) (fun _ _ _ h => h) (by rfl) (by assumption) ?_
                    try simp only [Act.put, lA, lB, lC]
                    refine held_skip 48 rfl (by kernel_rfl) (by kernel_rfl) (by kernel_rfl) (fun _ _ _ h => h) (by rfl) (by assumption) ?_
                    try simp only [Act.put, lA, lB, lC]
                    refine held_skip 49 rfl (by kernel_rfl) (by kernel_rfl) (by kernel_rfl) (fun _ _ _ h => h) (by rfl) (by assumption) ?_
                    try simp only [Act.put, lA, lB, lC]
                    refine held_skip 50 rfl (by kernel_rfl) (by kernel_rfl) (by kernel_rfl) (fun _ _ _ h => h) (by rfl) (by assumption) ?_
                    try simp only [Act.put, lA, lB, lC]
                    refine held_skip 51 rfl (by kernel_rfl) (by kernel_rfl) (by kernel_rfl) (fun _ _ _ h => h) (by rfl) (by assumption) ?_
                    try simp only [Act.put, lA, lB, lC]
                    refine held_skip 52 rfl (by kernel_rfl) (by kernel_rfl) (by kernel_rfl) (fun _ _ _ h => h) (by rfl) (by assumption) ?_
                    try simp only [Act.put, lA, lB, lC]
                    refine held_skip 53 rfl (by kernel_rfl) (by kernel_rfl) (by kernel_rfl) (fun _ _ _ h => h) (by rfl) (by assumption) ?_
                    try simp only [Act.put, lA, lB, lC]
                    refine held_take 54 (v := ?_) rfl (by kernel_rfl) (by kernel_rfl) (by kernel_rfl) (fun _ _ _ h => h) (by rfl) (fun w hS => ?_) (by assumption) ?_; rotate_left
                    · (try dsimp only at hS); go_simp <;> with_reducible rfl
                    try simp only [Act.put, lA, lB, lC]
                    refine held_take 55 (v := ?_) rfl (by kernel_rfl) (by kernel_rfl) (by kernel_rfl) (fun _ _ _ h => h) (by rfl) (fun w hS => ?_) (by assumption) ?_; rotate_left
                    · (try dsimp only at hS); go_simp <;> with_reducible rfl
                    try simp only [Act.put, lA, lB, lC]
                    refine held_done (by kernel_rfl) ?_
                    go_wp2
                    go_roundw
                    case rel => exact ⟨k + 1, (k : Int), _, by omega, by go_num, rfl, rfl, HP2, HM2, by omega, by omega, Lib.hid (HB.out.trans (hbA.mono hbo))⟩
                    case measure => simp [intOf]; omega
                  · cases he : (zw == y.worn) with
                    | false =>
                      have HP2 := Lib.hid (pick_keep hbest hj hy HX.out (by have : ¬ zw = y.worn := (by simpa using he); simp [aheadO, hw, this]))
                      clear hbest hy hem
                      refine wp_region_held_drew (S := (fun w' => Below wo.heap.size wo w')) (by kernel_rfl) (hbD) (fun hHeld => ?_)
                      refine held_take 0 (v := ?_) rfl (by kernel_rfl) (by kernel_rfl) (by kernel_rfl) (fun _ _ _ h => h) (by rfl) (fun w hS => ?_) (by assumption) ?_; rotate_left
                      · (try dsimp only at hS); go_simp <;> with_reducible rfl
                      try simp only [Act.put, lA, lB, lC]
                      refine held_take 1 (v := ?_) rfl (by kernel_rfl) (by kernel_rfl) (by kernel_rfl) (fun _ _ _ h => h) (by rfl) (fun w hS => ?_) (by assumption) ?_; rotate_left
                      · (try dsimp only at hS); go_simp <;> with_reducible rfl
                      try simp only [Act.put, lA, lB, lC]
                      refine held_take 2 (v := ?_) rfl (by kernel_rfl) (by kernel_rfl) (by kernel_rfl) (fun _ _ _ h => h) (by rfl) (fun w hS => ?_) (by assumption) ?_; rotate_left
                      · (try dsimp only at hS); go_simp <;> with_reducible rfl
                      try simp only [Act.put, lA, lB, lC]
                      refine held_take 3 (v := ?_) rfl (by kernel_rfl) (by kernel_rfl) (by kernel_rfl) (fun _ _ _ h => h) (by rfl) (fun w hS => ?_) (by assumption) ?_; rotate_left
                      · (try dsimp only at hS); go_simp <;> with_reducible rfl
                      try simp only [Act.put, lA, lB, lC]
                      refine held_one 4 rfl (by kernel_rfl) (fun K hK => ?_)
                      go_simp
                      refine Calls.mono (rmay7_lit _ _ _ _ _ _ _ _ hok) ?_
                      rintro e wa ⟨rfl, hb⟩
                      have hbA : Below wo.heap.size wo wa := hbD.trans (hb.mono hbD.size)
                      refine hK.out _ _ (fun w' => Below wo.heap.size wo w') (fun _ h => h) hbA (fun hHeld => ?_)
                      clear hK K
                      try simp only [Act.put, lA, lB, lC]
                      refine held_take 5 (v := ?_) rfl (by kernel_rfl) (by kernel_rfl) (by kernel_rfl) (fun _ _ _ h => h) (by rfl) (fun w hS => ?_) (by assumption) ?_; rotate_left
                      · (try dsimp only at hS); go_simp <;> with_reducible rfl
                      try simp only [Act.put, lA, lB, lC]
                      refine held_take 6 (v := ?_) rfl (by kernel_rfl) (by kernel_rfl) (by kernel_rfl) (fun _ _ _ h => h) (by rfl) (fun w hS => ?_) (by assumption) ?_; rotate_left
                      · (try dsimp only at hS); go_simp <;> with_reducible rfl
                      try simp only [Act.put, lA, lB, lC]
                      refine held_take 7 (v := ?_) rfl (by kernel_rfl) (by kernel_rfl) (by kernel_rfl) (fun _ _ _ h => h) (by rfl) (fun w hS => ?_) (by assumption) ?_; rotate_left
                      · (try dsimp only at hS); go_simp <;> with_reducible rfl
                      try simp only [Act.put, lA, lB, lC]
                      refine held_take 8 (v := ?_) rfl (by kernel_rfl) (by kernel_rfl) (by kernel_rfl) (fun _ _ _ h => h) (by rfl) (fun w hS => ?_) (by assumption) ?_; rotate_left
                      · (try dsimp only at hS); go_simp <;> with_reducible rfl
                      try simp only [Act.put, lA, lB, lC]
                      refine held_take 9 (v := ?_) rfl (by kernel_rfl) (by kernel_rfl) (by kernel_rfl) (fun _ _ _ h => h) (by rfl) (fun w hS => ?_) (by assumption) ?_; rotate_left
                      · (try dsimp only at hS); go_simp <;> with_reducible rfl
                      try simp only [Act.put, lA, lB, lC]
                      refine held_take 10 (v := ?_) rfl (by kernel_rfl) (by kernel_rfl) (by kernel_rfl) (fun _ _ _ h => h) (by rfl) (fun w hS => ?_) (by assumption) ?_; rotate_left
                      · (try dsimp only at hS); go_simp <;> with_reducible rfl
                      try simp only [Act.put, lA, lB, lC]
                      refine held_take 11 (v := ?_) rfl (by kernel_rfl) (by kernel_rfl) (by kernel_rfl) (fun _ _ _ h => h) (by rfl) (fun w hS => ?_) (by assumption) ?_; rotate_left
                      · (try dsimp only at hS); go_simp <;> with_reducible rfl
                      try simp only [Act.put, lA, lB, lC]
                      refine held_take 12 (v := ?_) rfl (by kernel_rfl) (by kernel_rfl) (by kernel_rfl) (fun _ _ _ h => h) (by rfl) (fun w hS => ?_) (by assumption) ?_; rotate_left
                      · (try dsimp only at hS); go_simp <;> with_reducible rfl
                      try simp only [Act.put, lA, lB, lC]
                      refine held_take 13 (v := ?_) rfl (by kernel_rfl) (by kernel_rfl) (by kernel_rfl) (fun _ _ _ h => h) (by rfl) (fun w hS => ?_) (by assumption) ?_; rotate_left
                      · (try dsimp only at hS); go_simp <;> with_reducible rfl
                      try simp only [Act.put, lA, lB, lC]
                      refine held_take 14 (v := ?_) rfl (by kernel_rfl) (by kernel_rfl) (by kernel_rfl) (fun _ _ _ h => h) (by rfl) (fun w hS => ?_) (by assumption) ?_; rotate_left
                      · (try dsimp only at hS); go_simp <;> with_reducible rfl
                      try simp only [Act.put, lA, lB, lC]
                      refine held_take 15 (v := ?_) rfl (by kernel_rfl) (by kernel_rfl) (by kernel_rfl) (fun _ _ _ h => h) (by rfl) (fun w hS => ?_) (by assumption) ?_; rotate_left
                      · (try dsimp only at hS); go_simp <;> with_reducible rfl
                      try simp only [Act.put, lA, lB, lC]
                      refine held_take 16 (v := ?_) rfl (by kernel_rfl) (by kernel_rfl) (by kernel_rfl) (fun _ _ _ h => h) (by rfl) (fun w hS => ?_) (by assumption) ?_; rotate_left
                      · (try dsimp only at hS); go_simp <;> with_reducible rfl
                      try simp only [Act.put, lA, lB, lC]
                      refine held_take 17 (v := ?_) rfl (by kernel_rfl) (by kernel_rfl) (by kernel_rfl) (fun _ _ _ h => h) (by rfl) (fun w hS => ?_) (by assumption) ?_; rotate_left
                      · (try dsimp only at hS); go_simp <;> with_reducible rfl
                      try simp only [Act.put, lA, lB, lC]
                      refine held_take 18 (v := ?_) rfl (by kernel_rfl) (by kernel_rfl) (by kernel_rfl) (fun _ _ _ h => h) (by rfl) (fun w hS => ?_) (by assumption) ?_; rotate_left
                      · (try dsimp only at hS); go_simp <;> with_reducible rfl
                      try simp only [Act.put, lA, lB, lC]
                      refine held_take 19 (v := ?_) rfl (by kernel_rfl) (by kernel_rfl) (by kernel_rfl) (fun _ _ _ h => h) (by rfl) (fun w hS => ?_) (by assumption) ?_; rotate_left
                      · (try dsimp only at hS); go_simp <;> with_reducible rfl
                      try simp only [Act.put, lA, lB, lC]
                      refine held_take 20 (v := ?_) rfl (by kernel_rfl) (by kernel_rfl) (by kernel_rfl) (fun _ _ _ h => h) (by rfl) (fun w hS => ?_) (by assumption) ?_; rotate_left
                      · (try dsimp only at hS); go_simp <;> with_reducible rfl
                      try simp only [Act.put, lA, lB, lC]
                      refine held_take 21 (v := ?_) rfl (by kernel_rfl) (by kernel_rfl) (by kernel_rfl) (fun _ _ _ h => h) (by rfl) (fun w hS => ?_) (by assumption) ?_; rotate_left
                      · (try dsimp only at hS); go_simp <;> with_reducible rfl
                      try simp only [Act.put, lA, lB, lC]
                      refine held_take 22 (v := ?_) rfl (by kernel_rfl) (by kernel_rfl) (by kernel_rfl) (fun _ _ _ h => h) (by rfl) (fun w hS => ?_) (by assumption) ?_; rotate_left
                      · (try dsimp only at hS); go_simp <;> with_reducible rfl
                      try simp only [Act.put, lA, lB, lC]
                      refine held_take 23 (v := ?_) rfl (by kernel_rfl) (by kernel_rfl) (by kernel_rfl) (fun _ _ _ h => h) (by rfl) (fun w hS => ?_) (by assumption) ?_; rotate_left
                      · (try dsimp only at hS); go_simp <;> with_reducible rfl
                      try simp only [Act.put, lA, lB, lC]
                      refine held_take 24 (v := ?_) rfl (by kernel_rfl) (by kernel_rfl) (by kernel_rfl) (fun _ _ _ h => h) (by rfl) (fun w hS => ?_) (by assumption) ?_; rotate_left
                      · (try dsimp only at hS); go_simp <;> with_reducible rfl
                      try simp only [Act.put, lA, lB, lC]
                      refine held_take 25 (v := ?_) rfl (by kernel_rfl) (by kernel_rfl) (by kernel_rfl) (fun _ _ _ h => h) (by rfl) (fun w hS => ?_) (by assumption) ?_; rotate_left
                      · (try dsimp only at hS); go_simp <;> with_reducible rfl
                      try simp only [Act.put, lA, lB, lC]
                      refine held_take 26 (v := ?_) rfl (by kernel_rfl) (by kernel_rfl) (by kernel_rfl) (fun _ _ _ h => h) (by rfl) (fun w hS => ?_) (by assumption) ?_; rotate_left
                      · (try dsimp only at hS); go_simp <;> with_reducible rfl
                      try simp only [Act.put, lA, lB, lC]
                      refine held_take 27 (v := ?_) rfl (by kernel_rfl) (by kernel_rfl) (by kernel_rfl) (fun _ _ _ h => h) (by rfl) (fun w hS => ?_) (by assumption) ?_; rotate_left
                      · (try dsimp only at hS); go_simp <;> with_reducible rfl
                      try simp only [Act.put, lA, lB, lC]
                      refine held_take 28 (v := ?_) rfl (by kernel_rfl) (by kernel_rfl) (by kernel_rfl) (fun _ _ _ h => h) (by rfl) (fun w hS => ?_) (by assumption) ?_; rotate_left
                      · (try dsimp only at hS); go_simp <;> with_reducible rfl
                      try simp only [Act.put, lA, lB, lC]
                      refine held_take 29 (v := ?_) rfl (by kernel_rfl) (by kernel_rfl) (by kernel_rfl) (fun _ _ _ h => h) (by rfl) (fun w hS => ?_) (by assumption) ?_; rotate_left
                      · (try dsimp only at hS); go_simp <;> with_reducible rfl
                      try simp only [Act.put, lA, lB, lC]
                      refine held_take 30 (v := ?_) rfl (by kernel_rfl) (by kernel_rfl) (by kernel_rfl) (fun _ _ _ h => h) (by rfl) (fun w hS => ?_) (by assumption) ?_; rotate_left
                      · (try dsimp only at hS); go_simp <;> with_reducible rfl
                      try simp only [Act.put, lA, lB, lC]
                      refine held_take 31 (v := ?_) rfl (by kernel_rfl) (by kernel_rfl) (by kernel_rfl) (fun _ _ _ h => h) (by rfl) (fun w hS => ?_) (by assumption) ?_; rotate_left
                      · (try dsimp only at hS); go_simp <;> with_reducible rfl
                      try simp only [Act.put, lA, lB, lC]
                      refine held_take 32 (v := ?_) rfl (by kernel_rfl) (by kernel_rfl) (by kernel_rfl) (fun _ _ _ h => h) (by rfl) (fun w hS => ?_) (by assumption) ?_; rotate_left
                      · (try dsimp only at hS); go_simp <;> with_reducible rfl
                      try simp only [Act.put, lA, lB, lC]
                      refine held_take 33 (v := ?_) rfl (by kernel_rfl) (by kernel_rfl) (by kernel_rfl) (fun _ _ _ h => h) (by rfl) (fun w hS => ?_) (by assumption) ?_; rotate_left
                      · (try dsimp only at hS); go_simp <;> with_reducible rfl
                      try simp only [Act.put, lA, lB, lC]
                      refine held_take 34 (v := ?_) rfl (by kernel_rfl) (by kernel_rfl) (by kernel_rfl) (fun _ _ _ h => h) (by rfl) (fun w hS => ?_) (by assumption) ?_; rotate_left
                      · (try dsimp only at hS); go_simp <;> with_reducible rfl
                      try simp only [Act.put, lA, lB, lC]
                      refine held_take 35 (v := ?_) rfl (by kernel_rfl) (by kernel_rfl) (by kernel_rfl) (fun _ _ _ h => h) (by rfl) (fun w hS => ?_) (by assumption) ?_; rotate_left
                      · (try dsimp only at hS); go_simp <;> with_reducible rfl
                      try simp only [Act.put, lA, lB, lC]
                      refine held_take 36 (v := ?_) rfl (by kernel_rfl) (by kernel_rfl) (by kernel_rfl) (fun _ _ _ h => h) (by rfl) (fun w hS => ?_) (by assumption) ?_; rotate_left
                      · (try dsimp only at hS); go_simp <;> with_reducible rfl
                      try simp only [Act.put, lA, lB, lC]
                      refine held_take 37 (v := ?_) rfl (by kernel_rfl) (by kernel_rfl) (by kernel_rfl) (fun _ _ _ h => h) (by rfl) (fun w hS => ?_) (by assumption) ?_; rotate_left
                      · (try dsimp only at hS); go_simp <;> with_reducible rfl
                      try simp only [Act.put, lA, lB, lC]
                      refine held_take 38 (v := ?_) rfl (by kernel_rfl) (by kernel_rfl) (by kernel_rfl) (fun _ _ _ h => h) (by rfl) (fun w hS => ?_) (by assumption) ?_; rotate_left
                      · (try dsimp only at hS); go_simp <;> with_reducible rfl
                      try simp only [Act.put, lA, lB, lC]
                      refine held_take 39 (v := ?_) rfl (by kernel_rfl) (by kernel_rfl) (by kernel_rfl) (fun _ _ _ h => h) (by rfl) (fun w hS => ?_) (by assumption) ?_; rotate_left
                      · (try dsimp only at hS); go_simp <;> with_reducible rfl
                      try simp only [Act.put, lA, lB, lC]
                      refine held_take 40 (v := ?_) rfl (by kernel_rfl) (by kernel_rfl) (by kernel_rfl) (fun _ _ _ h => h) (by rfl) (fun w hS => ?_) (by assumption) ?_; rotate_left
                      · (try dsimp only at hS); go_simp <;> with_reducible rfl
                      try simp only [Act.put, lA, lB, lC]
                      refine held_take 41 (v := ?_) rfl (by kernel_rfl) (by kernel_rfl) (by kernel_rfl) (fun _ _ _ h => h) (by rfl) (fun w hS => ?_) (by assumption) ?_; rotate_left
                      · (try dsimp only at hS); go_simp <;> with_reducible rfl
                      try simp only [Act.put, lA, lB, lC]
                      refine held_skip 42 rfl (by kernel_rfl) (by kernel_rfl) (by kernel_rfl) (fun _ _ _ h => h) (by rfl) (by assumption) ?_
                      try simp only [Act.put, lA, lB, lC]
                      refine held_skip 43 rfl (by kernel_rfl) (by kernel_rfl) (by kernel_rfl) (fun _ _ _ h => h) (by rfl) (by assumption) ?_
                      try simp only [Act.put, lA, lB, lC]
                      refine held_skip 44 rfl (by kernel_rfl) (by kernel_rfl) (by kernel_rfl) (fun _ _ _ h => h) (by rfl) (by assumption) ?_
                      try simp only [Act.put, lA, lB, lC]
                      refine held_skip 45 rfl (by kernel_rfl) (by kernel_rfl) (by kernel_rfl) (fun _ _ _ h => h) (by rfl) (by assumption) ?_
                      try simp only [Act.put, lA, lB, lC]
                      refine held_skip 46 rfl (by kernel_rfl) (by kernel_rfl) (by kernel_rfl) (fun _ _ _ h => h) (by rfl) (by assumption) ?_
                      try simp only [Act.put, lA, lB, lC]
                      refine held_skip 47 rfl (by kernel_rfl) (by kernel_rfl) (by kernel_rfl) (fun _ _ _ h => h) (by rfl) (by assumption) ?_
                      try simp only [Act.put, lA, lB, lC]
                      refine held_skip 48 rfl (by kernel_rfl) (by kernel_rfl) (by kernel_rfl) (fun _ _ _ h => h) (by rfl) (by assumption) ?_
                      try simp only [Act.put, lA, lB, lC]
                      refine held_skip 49 rfl (by kernel_rfl) (by kernel_rfl) (by kernel_rfl) (fun _ _ _ h => h) (by rfl) (by assumption) ?_
                      try simp only [Act.put, lA, lB, lC]
                      refine held_skip 50 rfl (by kernel_rfl) (by kernel_rfl) (by kernel_rfl) (fun _ _ _ h => h) (by rfl) (by assumption) ?_
                      try simp only [Act.put, lA, lB, lC]
                      refine held_skip 51 rfl (by kernel_rfl) (by kernel_rfl) (by kernel_rfl) (fun _ _ _ h => h) (by rfl) (by assumption) ?_
                      try simp only [Act.put, lA, lB, lC]
                      refine held_skip 52 rfl (by kernel_rfl) (by kernel_rfl) (by kernel_rfl) (fun _ _ _ h => h) (by rfl) (by assumption) ?_
                      try simp only [Act.put, lA, lB, lC]
                      refine held_take 53 (v := ?_) rfl (by kernel_rfl) (by kernel_rfl) (by kernel_rfl) (fun _ _ _ h => h) (by rfl) (fun w hS => ?_) (by assumption) ?_; rotate_left
                      · (try dsimp only at hS); go_simp <;> with_reducible rfl
                      try simp only [Act.put, lA, lB, lC]
                      refine held_take 54 (v := ?_) rfl (by kernel_rfl) (by kernel_rfl) (by kernel_rfl) (fun _ _ _ h => h) (by rfl) (fun w hS => ?_) (by assumption) ?_; rotate_left
                      · (try dsimp only at hS); go_simp <;> with_reducible rfl
                      try simp only [Act.put, lA, lB, lC]
                      refine held_take 55 (v := ?_) rfl (by kernel_rfl) (by kernel_rfl) (by kernel_rfl) (fun _ _ _ h => h) (by rfl) (fun w hS => ?_) (by assumption) ?_; rotate_left
                      · (try dsimp only at hS); go_simp <;> with_reducible rfl
                      try simp only [Act.put, lA, lB, lC]
                      refine held_done (by kernel_rfl) ?_
                      go_wp2
                      go_roundw
                      case rel => exact ⟨k + 1, (j : Int), _, by omega, by go_num, rfl, rfl, HP2, HM2, by omega, by omega, Lib.hid (HB.out.trans (hbA.mono hbo))⟩
                      case measure => simp [intOf]; omega
                    | true =>
                      by_cases hn : zn < y.n
                      · have HP2 := Lib.hid (pick_better hbest HX.out hem (by have : zw = y.worn := (by simpa using he); simp [aheadO, this, hn]))
                        clear hbest hy hem
                        refine wp_region_held_drew (S := (fun w' => Below wo.heap.size wo w')) (by kernel_rfl) (hbD) (fun hHeld => ?_)
                        refine held_take 0 (v := ?_) rfl (by kernel_rfl) (by kernel_rfl) (by kernel_rfl) (fun _ _ _ h => h) (by rfl) (fun w hS => ?_) (by assumption) ?_; rotate_left
                        · (try dsimp only at hS); go_simp <;> with_reducible rfl
                        try simp only [Act.put, lA, lB, lC]
                        refine held_take 1 (v := ?_) rfl (by kernel_rfl) (by kernel_rfl) (by kernel_rfl) (fun _ _ _ h => h) (by rfl) (fun w hS => ?_) (by assumption) ?_; rotate_left
                        · (try dsimp only at hS); go_simp <;> with_reducible rfl
                        try simp only [Act.put, lA, lB, lC]
                        refine held_take 2 (v := ?_) rfl (by kernel_rfl) (by kernel_rfl) (by kernel_rfl) (fun _ _ _ h => h) (by rfl) (fun w hS => ?_) (by assumption) ?_; rotate_left
                        · (try dsimp only at hS); go_simp <;> with_reducible rfl
                        try simp only [Act.put, lA, lB, lC]
                        refine held_take 3 (v := ?_) rfl (by kernel_rfl) (by kernel_rfl) (by kernel_rfl) (fun _ _ _ h => h) (by rfl) (fun w hS => ?_) (by assumption) ?_; rotate_left
                        · (try dsimp only at hS); go_simp <;> with_reducible rfl
                        try simp only [Act.put, lA, lB, lC]
                        refine held_one 4 rfl (by kernel_rfl) (fun K hK => ?_)
                        go_simp
                        refine Calls.mono (rmay7_lit _ _ _ _ _ _ _ _ hok) ?_
                        rintro e wa ⟨rfl, hb⟩
                        have hbA : Below wo.heap.size wo wa := hbD.trans (hb.mono hbD.size)
                        refine hK.out _ _ (fun w' => Below wo.heap.size wo w') (fun _ h => h) hbA (fun hHeld => ?_)
                        clear hK K
                        try simp only [Act.put, lA, lB, lC]
                        refine held_take 5 (v := ?_) rfl (by kernel_rfl) (by kernel_rfl) (by kernel_rfl) (fun _ _ _ h => h) (by rfl) (fun w hS => ?_) (by assumption) ?_; rotate_left
                        · (try dsimp only at hS); go_simp <;> with_reducible rfl
                        try simp only [Act.put, lA, lB, lC]
                        refine held_take 6 (v := ?_) rfl (by kernel_rfl) (by kernel_rfl) (by kernel_rfl) (fun _ _ _ h => h) (by rfl) (fun w hS => ?_) (by assumption) ?_; rotate_left
                        · (try dsimp only at hS); go_simp <;> with_reducible rfl
                        try simp only [Act.put, lA, lB, lC]
                        refine held_take 7 (v := ?_) rfl (by kernel_rfl) (by kernel_rfl) (by kernel_rfl) (fun _ _ _ h => h) (by rfl) (fun w hS => ?_) (by assumption) ?_; rotate_left
                        · (try dsimp only at hS); go_simp <;> with_reducible rfl
                        try simp only [Act.put, lA, lB, lC]
                        refine held_take 8 (v := ?_) rfl (by kernel_rfl) (by kernel_rfl) (by kernel_rfl) (fun _ _ _ h => h) (by rfl) (fun w hS => ?_) (by assumption) ?_; rotate_left
                        · (try dsimp only at hS); go_simp <;> with_reducible rfl
                        try simp only [Act.put, lA, lB, lC]
                        refine held_take 9 (v := ?_) rfl (by kernel_rfl) (by kernel_rfl) (by kernel_rfl) (fun _ _ _ h => h) (by rfl) (fun w hS => ?_) (by assumption) ?_; rotate_left
                        · (try dsimp only at hS); go_simp <;> with_reducible rfl
                        try simp only [Act.put, lA, lB, lC]
                        refine held_take 10 (v := ?_) rfl (by kernel_rfl) (by kernel_rfl) (by kernel_rfl) (fun _ _ _ h => h) (by rfl) (fun w hS => ?_) (by assumption) ?_; rotate_left
                        · (try dsimp only at hS); go_simp <;> with_reducible rfl
                        try simp only [Act.put, lA, lB, lC]
                        refine held_take 11 (v := ?_) rfl (by kernel_rfl) (by kernel_rfl) (by kernel_rfl) (fun _ _ _ h => h) (by rfl) (fun w hS => ?_) (by assumption) ?_; rotate_left
                        · (try dsimp only at hS); go_simp <;> with_reducible rfl
                        try simp only [Act.put, lA, lB, lC]
                        refine held_take 12 (v := ?_) rfl (by kernel_rfl) (by kernel_rfl) (by kernel_rfl) (fun _ _ _ h => h) (by rfl) (fun w hS => ?_) (by assumption) ?_; rotate_left
                        · (try dsimp only at hS); go_simp <;> with_reducible rfl
                        try simp only [Act.put, lA, lB, lC]
                        refine held_take 13 (v := ?_) rfl (by kernel_rfl) (by kernel_rfl) (by kernel_rfl) (fun _ _ _ h => h) (by rfl) (fun w hS => ?_) (by assumption) ?_; rotate_left
                        · (try dsimp only at hS); go_simp <;> with_reducible rfl
                        try simp only [Act.put, lA, lB, lC]
                        refine held_take 14 (v := ?_) rfl (by kernel_rfl) (by kernel_rfl) (by kernel_rfl) (fun _ _ _ h => h) (by rfl) (fun w hS => ?_) (by assumption) ?_; rotate_left
                        · (try dsimp only at hS); go_simp <;> with_reducible rfl
                        try simp only [Act.put, lA, lB, lC]
                        refine held_take 15 (v := ?_) rfl (by kernel_rfl) (by kernel_rfl) (by kernel_rfl) (fun _ _ _ h => h) (by rfl) (fun w hS => ?_) (by assumption) ?_; rotate_left
                        · (try dsimp only at hS); go_simp <;> with_reducible rfl
                        try simp only [Act.put, lA, lB, lC]
                        refine held_take 16 (v := ?_) rfl (by kernel_rfl) (by kernel_rfl) (by kernel_rfl) (fun _ _ _ h => h) (by rfl) (fun w hS => ?_) (by assumption) ?_; rotate_left
                        · (try dsimp only at hS); go_simp <;> with_reducible rfl
                        try simp only [Act.put, lA, lB, lC]
                        refine held_take 17 (v := ?_) rfl (by kernel_rfl) (by kernel_rfl) (by kernel_rfl) (fun _ _ _ h => h) (by rfl) (fun w hS => ?_) (by assumption) ?_; rotate_left
                        · (try dsimp only at hS); go_simp <;> with_reducible rfl
                        try simp only [Act.put, lA, lB, lC]
                        refine held_take 18 (v := ?_) rfl (by kernel_rfl) (by kernel_rfl) (by kernel_rfl) (fun _ _ _ h => h) (by rfl) (fun w hS => ?_) (by assumption) ?_; rotate_left
                        · (try dsimp only at hS); go_simp <;> with_reducible rfl
                        try simp only [Act.put, lA, lB, lC]
                        refine held_take 19 (v := ?_) rfl (by kernel_rfl) (by kernel_rfl) (by kernel_rfl) (fun _ _ _ h => h) (by rfl) (fun w hS => ?_) (by assumption) ?_; rotate_left
                        · (try dsimp only at hS); go_simp <;> with_reducible rfl
                        try simp only [Act.put, lA, lB, lC]
                        refine held_take 20 (v := ?_) rfl (by kernel_rfl) (by kernel_rfl) (by kernel_rfl) (fun _ _ _ h => h) (by rfl) (fun w hS => ?_) (by assumption) ?_; rotate_left
                        · (try dsimp only at hS); go_simp <;> with_reducible rfl
                        try simp only [Act.put, lA, lB, lC]
                        refine held_take 21 (v := ?_) rfl (by kernel_rfl) (by kernel_rfl) (by kernel_rfl) (fun _ _ _ h => h) (by rfl) (fun w hS => ?_) (by assumption) ?_; rotate_left
                        · (try dsimp only at hS); go_simp <;> with_reducible rfl
                        try simp only [Act.put, lA, lB, lC]
                        refine held_take 22 (v := ?_) rfl (by kernel_rfl) (by kernel_rfl) (by kernel_rfl) (fun _ _ _ h => h) (by rfl) (fun w hS => ?_) (by assumption) ?_; rotate_left
                        · (try dsimp only at hS); go_simp <;> with_reducible rfl
                        try simp only [Act.put, lA, lB, lC]
                        refine held_take 23 (v := ?_) rfl (by kernel_rfl) (by kernel_rfl) (by kernel_rfl) (fun _ _ _ h => h) (by rfl) (fun w hS => ?_) (by assumption) ?_; rotate_left
                        · (try dsimp only at hS); go_simp <;> with_reducible rfl
                        try simp only [Act.put, lA, lB, lC]
                        refine held_take 24 (v := ?_) rfl (by kernel_rfl) (by kernel_rfl) (by kernel_rfl) (fun _ _ _ h => h) (by rfl) (fun w hS => ?_) (by assumption) ?_; rotate_left
                        · (try dsimp only at hS); go_simp <;> with_reducible rfl
                        try simp only [Act.put, lA, lB, lC]
                        refine held_take 25 (v := ?_) rfl (by kernel_rfl) (by kernel_rfl) (by kernel_rfl) (fun _ _ _ h => h) (by rfl) (fun w hS => ?_) (by assumption) ?_; rotate_left
                        · (try dsimp only at hS); go_simp <;> with_reducible rfl
                        try simp only [Act.put, lA, lB, lC]
                        refine held_take 26 (v := ?_) rfl (by kernel_rfl) (by kernel_rfl) (by kernel_rfl) (fun _ _ _ h => h) (by rfl) (fun w hS => ?_) (by assumption) ?_; rotate_left
                        · (try dsimp only at hS); go_simp <;> with_reducible rfl
                        try simp only [Act.put, lA, lB, lC]
                        refine held_take 27 (v := ?_) rfl (by kernel_rfl) (by kernel_rfl) (by kernel_rfl) (fun _ _ _ h => h) (by rfl) (fun w hS => ?_) (by assumption) ?_; rotate_left
                        · (try dsimp only at hS); go_simp <;> with_reducible rfl
                        try simp only [Act.put, lA, lB, lC]
                        refine held_take 28 (v := ?_) rfl (by kernel_rfl) (by kernel_rfl) (by kernel_rfl) (fun _ _ _ h => h) (by rfl) (fun w hS => ?_) (by assumption) ?_; rotate_left
                        · (try dsimp only at hS); go_simp <;> with_reducible rfl
                        try simp only [Act.put, lA, lB, lC]
                        refine held_take 29 (v := ?_) rfl (by kernel_rfl) (by kernel_rfl) (by kernel_rfl) (fun _ _ _ h => h) (by rfl) (fun w hS => ?_) (by assumption) ?_; rotate_left
                        · (try dsimp only at hS); go_simp <;> with_reducible rfl
                        try simp only [Act.put, lA, lB, lC]
                        refine held_take 30 (v := ?_) rfl (by kernel_rfl) (by kernel_rfl) (by kernel_rfl) (fun _ _ _ h => h) (by rfl) (fun w hS => ?_) (by assumption) ?_; rotate_left
                        · (try dsimp only at hS); go_simp <;> with_reducible rfl
                        try simp only [Act.put, lA, lB, lC]
                        refine held_take 31 (v := ?_) rfl (by kernel_rfl) (by kernel_rfl) (by kernel_rfl) (fun _ _ _ h => h) (by rfl) (fun w hS => ?_) (by assumption) ?_; rotate_left
                        · (try dsimp only at hS); go_simp <;> with_reducible rfl
                        try simp only [Act.put, lA, lB, lC]
                        refine held_take 32 (v := ?_) rfl (by kernel_rfl) (by kernel_rfl) (by kernel_rfl) (fun _ _ _ h => h) (by rfl) (fun w hS => ?_) (by assumption) ?_; rotate_left
                        · (try dsimp only at hS); go_simp <;> with_reducible rfl
                        try simp only [Act.put, lA, lB, lC]
                        refine held_take 33 (v := ?_) rfl (by kernel_rfl) (by kernel_rfl) (by kernel_rfl) (fun _ _ _ h => h) (by rfl) (fun w hS => ?_) (by assumption) ?_; rotate_left
                        · (try dsimp only at hS); go_simp <;> with_reducible rfl
                        try simp only [Act.put, lA, lB, lC]
                        refine held_take 34 (v := ?_) rfl (by kernel_rfl) (by kernel_rfl) (by kernel_rfl) (fun _ _ _ h => h) (by rfl) (fun w hS => ?_) (by assumption) ?_; rotate_left
                        · (try dsimp only at hS); go_simp <;> with_reducible rfl
                        try simp only [Act.put, lA, lB, lC]
                        refine held_take 35 (v := ?_) rfl (by kernel_rfl) (by kernel_rfl) (by kernel_rfl) (fun _ _ _ h => h) (by rfl) (fun w hS => ?_) (by assumption) ?_; rotate_left
                        · (try dsimp only at hS); go_simp <;> with_reducible rfl
                        try simp only [Act.put, lA, lB, lC]
                        refine held_take 36 (v := ?_) rfl (by kernel_rfl) (by kernel_rfl) (by kernel_rfl) (fun _ _ _ h => h) (by rfl) (fun w hS => ?_) (by assumption) ?_; rotate_left
                        · (try dsimp only at hS); go_simp <;> with_reducible rfl
                        try simp only [Act.put, lA, lB, lC]
                        refine held_take 37 (v := ?_) rfl (by kernel_rfl) (by kernel_rfl) (by kernel_rfl) (fun _ _ _ h => h) (by rfl) (fun w hS => ?_) (by assumption) ?_; rotate_left
                        · (try dsimp only at hS); go_simp <;> with_reducible rfl
                        try simp only [Act.put, lA, lB, lC]
                        refine held_take 38 (v := ?_) rfl (by kernel_rfl) (by kernel_rfl) (by kernel_rfl) (fun _ _ _ h => h) (by rfl) (fun w hS => ?_) (by assumption) ?_; rotate_left
                        · (try dsimp only at hS); go_simp <;> with_reducible rfl
                        try simp only [Act.put, lA, lB, lC]
                        refine held_take 39 (v := ?_) rfl (by kernel_rfl) (by kernel_rfl) (by kernel_rfl) (fun _ _ _ h => h) (by rfl) (fun w hS => ?_) (by assumption) ?_; rotate_left
                        · (try dsimp only at hS); go_simp <;> with_reducible rfl
                        try simp only [Act.put, lA, lB, lC]
                        refine held_take 40 (v := ?_) rfl (by kernel_rfl) (by kernel_rfl) (by kernel_rfl) (fun _ _ _ h => h) (by rfl) (fun w hS => ?_) (by assumption) ?_; rotate_left
                        · (try dsimp only at hS); go_simp <;> with_reducible rfl
                        try simp only [Act.put, lA, lB, lC]
                        refine held_take 41 (v := ?_) rfl (by kernel_rfl) (by kernel_rfl) (by kernel_rfl) (fun _ _ _ h => h) (by rfl) (fun w hS => ?_) (by assumption) ?_; rotate_left
                        · (try dsimp only at hS); go_simp <;> with_reducible rfl
                        try simp only [Act.put, lA, lB, lC]
                        refine held_take 42 (v := ?_) rfl (by kernel_rfl) (by kernel_rfl) (by kernel_rfl) (fun _ _ _ h => h) (by rfl) (fun w hS => ?_) (by assumption) ?_; rotate_left
                        · (try dsimp only at hS); go_simp <;> with_reducible rfl
                        try simp only [Act.put, lA, lB, lC]
                        refine held_take 43 (v := ?_) rfl (by kernel_rfl) (by kernel_rfl) (by kernel_rfl) (fun _ _ _ h => h) (by rfl) (fun w hS => ?_) (by assumption) ?_; rotate_left
                        · (try dsimp only at hS); go_simp <;> with_reducible rfl
                        try simp only [Act.put, lA, lB, lC]
                        refine held_take 44 (v := ?_) rfl (by kernel_rfl) (by kernel_rfl) (by kernel_rfl) (fun _ _ _ h => h) (by rfl) (fun w hS => ?_) (by assumption) ?_; rotate_left
                        · (try dsimp only at hS); go_simp <;> with_reducible rfl
                        try simp only [Act.put, lA, lB, lC]
                        refine held_take 45 (v := ?_) rfl (by kernel_rfl) (by kernel_rfl) (by kernel_rfl) (fun _ _ _ h => h) (by rfl) (fun w hS => ?_) (by assumption) ?_; rotate_left
                        · (try dsimp only at hS); go_simp <;> with_reducible rfl
                        try simp only [Act.put, lA, lB, lC]
                        refine held_take 46 (v := ?_) rfl (by kernel_rfl) (by kernel_rfl) (by kernel_rfl) (fun _ _ _ h => h) (by rfl) (fun w hS => ?_) (by assumption) ?_; rotate_left
                        · (try dsimp only at hS); go_simp <;> with_reducible rfl
                        try simp only [Act.put, lA, lB, lC]
                        refine held_take 47 (v := ?_) rfl (by kernel_rfl) (by kernel_rfl) (by kernel_rfl) (fun _ _ _ h => h) (by rfl) (fun w hS => ?_) (by assumption) ?_; rotate_left
                        · (try dsimp only at hS); go_simp <;> with_reducible rfl
                        try simp only [Act.put, lA, lB, lC]
                        refine held_take 48 (v := ?_) rfl (by kernel_rfl) (by kernel_rfl) (by kernel_rfl) (fun _ _ _ h => h) (by rfl) (fun w hS => ?_) (by assumption) ?_; rotate_left
                        · (try dsimp only at hS); go_simp <;> with_reducible rfl
                        try simp only [Act.put, lA, lB, lC]
                        refine held_take 49 (v := ?_) rfl (by kernel_rfl) (by kernel_rfl) (by kernel_rfl) (fun _ _ _ h => h) (by rfl) (fun w hS => ?_) (by assumption) ?_; rotate_left
                        · (try dsimp only at hS); go_simp <;> with_reducible rfl
                        try simp only [Act.put, lA, lB, lC]
                        refine held_take 50 (v := ?_) rfl (by kernel_rfl) (by kernel_rfl) (by kernel_rfl) (fun _ _ _ h => h) (by rfl) (fun w hS => ?_) (by assumption) ?_; rotate_left
                        · (try dsimp only at hS); go_simp <;> with_reducible rfl
                        try simp only [Act.put, lA, lB, lC]
                        refine held_take 51 (v := ?_) rfl (by kernel_rfl) (by kernel_rfl) (by kernel_rfl) (fun _ _ _ h => h) (by rfl) (fun w hS => ?_) (by assumption) ?_; rotate_left
                        · (try dsimp only at hS); go_simp <;> with_reducible rfl
                        try simp only [Act.put, lA, lB, lC]
                        refine held_take 52 (v := ?_) rfl (by kernel_rfl) (by kernel_rfl) (by kernel_rfl) (fun _ _ _ h => h) (by rfl) (fun w hS => ?_) (by assumption) ?_; rotate_left
                        · (try dsimp only at hS); go_simp <;> with_reducible rfl
                        try simp only [Act.put, lA, lB, lC]
                        refine held_take 53 (v := ?_) rfl (by kernel_rfl) (by kernel_rfl) (by kernel_rfl) (fun _ _ _ h => h) (by rfl) (fun w hS => ?_) (by assumption) ?_; rotate_left
                        · (try dsimp only at hS); go_simp <;> with_reducible rfl
                        try simp only [Act.put, lA, lB, lC]
                        refine held_take 54 (v := ?_) rfl (by kernel_rfl) (by kernel_rfl) (by kernel_rfl) (fun _ _ _ h => h) (by rfl) (fun w hS => ?_) (by assumption) ?_; rotate_left
                        · (try dsimp only at hS); go_simp <;> with_reducible rfl
                        try simp only [Act.put, lA, lB, lC]
                        refine held_take 55 (v := ?_) rfl (by kernel_rfl) (by kernel_rfl) (by kernel_rfl) (fun _ _ _ h => h) (by rfl) (fun w hS => ?_) (by assumption) ?_; rotate_left
                        · (try dsimp only at hS); go_simp <;> with_reducible rfl
                        try simp only [Act.put, lA, lB, lC]
                        refine held_done (by kernel_rfl) ?_
                        go_wp2
                        go_roundw
                        case rel => exact ⟨k + 1, (k : Int), _, by omega, by go_num, rfl, rfl, HP2, HM2, by omega, by omega, Lib.hid (HB.out.trans (hbA.mono hbo))⟩
                        case measure => simp [intOf]; omega
                      · have HP2 := Lib.hid (pick_keep hbest hj hy HX.out (by have : zw = y.worn := (by simpa using he); simp [aheadO, this, hn]))
                        clear hbest hy hem
                        refine wp_region_held_drew (S := (fun w' => Below wo.heap.size wo w')) (by kernel_rfl) (hbD) (fun hHeld => ?_)
                        refine held_take 0 (v := ?_) rfl (by kernel_rfl) (by kernel_rfl) (by kernel_rfl) (fun _ _ _ h => h) (by rfl) (fun w hS => ?_) (by assumption) ?_; rotate_left
                        · (try dsimp only at hS); go_simp <;> with_reducible rfl
                        try simp only [Act.put, lA, lB, lC]
                        refine held_take 1 (v := ?_) rfl (by kernel_rfl) (by kernel_rfl) (by kernel_rfl) (fun _ _ _ h => h) (by rfl) (fun w hS => ?_) (by assumption) ?_; rotate_left
                        · (try dsimp only at hS); go_simp <;> with_reducible rfl
                        try simp only [Act.put, lA, lB, lC]
                        refine held_take 2 (v := ?_) rfl (by kernel_rfl) (by kernel_rfl) (by kernel_rfl) (fun _ _ _ h => h) (by rfl) (fun w hS => ?_) (by assumption) ?_; rotate_left
                        · (try dsimp only at hS); go_simp <;> with_reducible rfl
                        try simp only [Act.put, lA, lB, lC]
                        refine held_take 3 (v := ?_) rfl (by kernel_rfl) (by kernel_rfl) (by kernel_rfl) (fun _ _ _ h => h) (by rfl) (fun w hS => ?_) (by assumption) ?_; rotate_left
                        · (try dsimp only at hS); go_simp <;> with_reducible rfl
                        try simp only [Act.put, lA, lB, lC]
                        refine held_one 4 rfl (by kernel_rfl) (fun K hK => ?_)
                        go_simp
                        refine Calls.mono (rmay7_lit _ _ _ _ _ _ _ _ hok) ?_
                        rintro e wa ⟨rfl, hb⟩
                        have hbA : Below wo.heap.size wo wa := hbD.trans (hb.mono hbD.size)
                        refine hK.out _ _ (fun w' => Below wo.heap.size wo w') (fun _ h => h) hbA (fun hHeld => ?_)
                        clear hK K
                        try simp only [Act.put, lA, lB, lC]
                        refine held_take 5 (v := ?_) rfl (by kernel_rfl) (by kernel_rfl) (by kernel_rfl) (fun _ _ _ h => h) (by rfl) (fun w hS => ?_) (by assumption) ?_; rotate_left
                        · (try dsimp only at hS); go_simp <;> with_reducible rfl
                        try simp only [Act.put, lA, lB, lC]
                        refine held_take 6 (v := ?_) rfl (by kernel_rfl) (by kernel_rfl) (by kernel_rfl) (fun _ _ _ h => h) (by rfl) (fun w hS => ?_) (by assumption) ?_; rotate_left
                        · (try dsimp only at hS); go_simp <;> with_reducible rfl
                        try simp only [Act.put, lA, lB, lC]
                        refine held_take 7 (v := ?_) rfl (by kernel_rfl) (by kernel_rfl) (by kernel_rfl) (fun _ _ _ h => h) (by rfl) (fun w hS => ?_) (by assumption) ?_; rotate_left
                        · (try dsimp only at hS); go_simp <;> with_reducible rfl
                        try simp only [Act.put, lA, lB, lC]
                        refine held_take 8 (v := ?_) rfl (by kernel_rfl) (by kernel_rfl) (by kernel_rfl) (fun _ _ _ h => h) (by rfl) (fun w hS => ?_) (by assumption) ?_; rotate_left
                        · (try dsimp only at hS); go_simp <;> with_reducible rfl
                        try simp only [Act.put, lA, lB, lC]
                        refine held_take 9 (v := ?_) rfl (by kernel_rfl) (by kernel_rfl) (by kernel_rfl) (fun _ _ _ h => h) (by rfl) (fun w hS => ?_) (by assumption) ?_; rotate_left
                        · (try dsimp only at hS); go_simp <;> with_reducible rfl
                        try simp only [Act.put, lA, lB, lC]
                        refine held_take 10 (v := ?_) rfl (by kernel_rfl) (by kernel_rfl) (by kernel_rfl) (fun _ _ _ h => h) (by rfl) (fun w hS => ?_) (by assumption) ?_; rotate_left
                        · (try dsimp only at hS); go_simp <;> with_reducible rfl
                        try simp only [Act.put, lA, lB, lC]
                        refine held_take 11 (v := ?_) rfl (by kernel_rfl) (by kernel_rfl) (by kernel_rfl) (fun _ _ _ h => h) (by rfl) (fun w hS => ?_) (by assumption) ?_; rotate_left
                        · (try dsimp only at hS); go_simp <;> with_reducible rfl
                        try simp only [Act.put, lA, lB, lC]
                        refine held_take 12 (v := ?_) rfl (by kernel_rfl) (by kernel_rfl) (by kernel_rfl) (fun _ _ _ h => h) (by rfl) (fun w hS => ?_) (by assumption) ?_; rotate_left
                        · (try dsimp only at hS); go_simp <;> with_reducible rfl
                        try simp only [Act.put, lA, lB, lC]
                        refine held_take 13 (v := ?_) rfl (by kernel_rfl) (by kernel_rfl) (by kernel_rfl) (fun _ _ _ h => h) (by rfl) (fun w hS => ?_) (by assumption) ?_; rotate_left
                        · (try dsimp only at hS); go_simp <;> with_reducible rfl
                        try simp only [Act.put, lA, lB, lC]
                        refine held_take 14 (v := ?_) rfl (by kernel_rfl) (by kernel_rfl) (by kernel_rfl) (fun _ _ _ h => h) (by rfl) (fun w hS => ?_) (by assumption) ?_; rotate_left
                        · (try dsimp only at hS); go_simp <;> with_reducible rfl
                        try simp only [Act.put, lA, lB, lC]
                        refine held_take 15 (v := ?_) rfl (by kernel_rfl) (by kernel_rfl) (by kernel_rfl) (fun _ _ _ h => h) (by rfl) (fun w hS => ?_) (by assumption) ?_; rotate_left
                        · (try dsimp only at hS); go_simp <;> with_reducible rfl
                        try simp only [Act.put, lA, lB, lC]
                        refine held_take 16 (v := ?_) rfl (by kernel_rfl) (by kernel_rfl) (by kernel_rfl) (fun _ _ _ h => h) (by rfl) (fun w hS => ?_) (by assumption) ?_; rotate_left
                        · (try dsimp only at hS); go_simp <;> with_reducible rfl
                        try simp only [Act.put, lA, lB, lC]
                        refine held_take 17 (v := ?_) rfl (by kernel_rfl) (by kernel_rfl) (by kernel_rfl) (fun _ _ _ h => h) (by rfl) (fun w hS => ?_) (by assumption) ?_; rotate_left
                        · (try dsimp only at hS); go_simp <;> with_reducible rfl
                        try simp only [Act.put, lA, lB, lC]
                        refine held_take 18 (v := ?_) rfl (by kernel_rfl) (by kernel_rfl) (by kernel_rfl) (fun _ _ _ h => h) (by rfl) (fun w hS => ?_) (by assumption) ?_; rotate_left
                        · (try dsimp only at hS); go_simp <;> with_reducible rfl
                        try simp only [Act.put, lA, lB, lC]
                        refine held_take 19 (v := ?_) rfl (by kernel_rfl) (by kernel_rfl) (by kernel_rfl) (fun _ _ _ h => h) (by rfl) (fun w hS => ?_) (by assumption) ?_; rotate_left
                        · (try dsimp only at hS); go_simp <;> with_reducible rfl
                        try simp only [Act.put, lA, lB, lC]
                        refine held_take 20 (v := ?_) rfl (by kernel_rfl) (by kernel_rfl) (by kernel_rfl) (fun _ _ _ h => h) (by rfl) (fun w hS => ?_) (by assumption) ?_; rotate_left
                        · (try dsimp only at hS); go_simp <;> with_reducible rfl
                        try simp only [Act.put, lA, lB, lC]
                        refine held_take 21 (v := ?_) rfl (by kernel_rfl) (by kernel_rfl) (by kernel_rfl) (fun _ _ _ h => h) (by rfl) (fun w hS => ?_) (by assumption) ?_; rotate_left
                        · (try dsimp only at hS); go_simp <;> with_reducible rfl
                        try simp only [Act.put, lA, lB, lC]
                        refine held_take 22 (v := ?_) rfl (by kernel_rfl) (by kernel_rfl) (by kernel_rfl) (fun _ _ _ h => h) (by rfl) (fun w hS => ?_) (by assumption) ?_; rotate_left
                        · (try dsimp only at hS); go_simp <;> with_reducible rfl
                        try simp only [Act.put, lA, lB, lC]
                        refine held_take 23 (v := ?_) rfl (by kernel_rfl) (by kernel_rfl) (by kernel_rfl) (fun _ _ _ h => h) (by rfl) (fun w hS => ?_) (by assumption) ?_; rotate_left
                        · (try dsimp only at hS); go_simp <;> with_reducible rfl
                        try simp only [Act.put, lA, lB, lC]
                        refine held_take 24 (v := ?_) rfl (by kernel_rfl) (by kernel_rfl) (by kernel_rfl) (fun _ _ _ h => h) (by rfl) (fun w hS => ?_) (by assumption) ?_; rotate_left
                        · (try dsimp only at hS); go_simp <;> with_reducible rfl
                        try simp only [Act.put, lA, lB, lC]
                        refine held_take 25 (v := ?_) rfl (by kernel_rfl) (by kernel_rfl) (by kernel_rfl) (fun _ _ _ h => h) (by rfl) (fun w hS => ?_) (by assumption) ?_; rotate_left
                        · (try dsimp only at hS); go_simp <;> with_reducible rfl
                        try simp only [Act.put, lA, lB, lC]
                        refine held_take 26 (v := ?_) rfl (by kernel_rfl) (by kernel_rfl) (by kernel_rfl) (fun _ _ _ h => h) (by rfl) (fun w hS => ?_) (by assumption) ?_; rotate_left
                        · (try dsimp only at hS); go_simp <;> with_reducible rfl
                        try simp only [Act.put, lA, lB, lC]
                        refine held_take 27 (v := ?_) rfl (by kernel_rfl) (by kernel_rfl) (by kernel_rfl) (fun _ _ _ h => h) (by rfl) (fun w hS => ?_) (by assumption) ?_; rotate_left
                        · (try dsimp only at hS); go_simp <;> with_reducible rfl
                        try simp only [Act.put, lA, lB, lC]
                        refine held_take 28 (v := ?_) rfl (by kernel_rfl) (by kernel_rfl) (by kernel_rfl) (fun _ _ _ h => h) (by rfl) (fun w hS => ?_) (by assumption) ?_; rotate_left
                        · (try dsimp only at hS); go_simp <;> with_reducible rfl
                        try simp only [Act.put, lA, lB, lC]
                        refine held_take 29 (v := ?_) rfl (by kernel_rfl) (by kernel_rfl) (by kernel_rfl) (fun _ _ _ h => h) (by rfl) (fun w hS => ?_) (by assumption) ?_; rotate_left
                        · (try dsimp only at hS); go_simp <;> with_reducible rfl
                        try simp only [Act.put, lA, lB, lC]
                        refine held_take 30 (v := ?_) rfl (by kernel_rfl) (by kernel_rfl) (by kernel_rfl) (fun _ _ _ h => h) (by rfl) (fun w hS => ?_) (by assumption) ?_; rotate_left
                        · (try dsimp only at hS); go_simp <;> with_reducible rfl
                        try simp only [Act.put, lA, lB, lC]
                        refine held_take 31 (v := ?_) rfl (by kernel_rfl) (by kernel_rfl) (by kernel_rfl) (fun _ _ _ h => h) (by rfl) (fun w hS => ?_) (by assumption) ?_; rotate_left
                        · (try dsimp only at hS); go_simp <;> with_reducible rfl
                        try simp only [Act.put, lA, lB, lC]
                        refine held_take 32 (v := ?_) rfl (by kernel_rfl) (by kernel_rfl) (by kernel_rfl) (fun _ _ _ h => h) (by rfl) (fun w hS => ?_) (by assumption) ?_; rotate_left
                        · (try dsimp only at hS); go_simp <;> with_reducible rfl
                        try simp only [Act.put, lA, lB, lC]
                        refine held_take 33 (v := ?_) rfl (by kernel_rfl) (by kernel_rfl) (by kernel_rfl) (fun _ _ _ h => h) (by rfl) (fun w hS => ?_) (by assumption) ?_; rotate_left
                        · (try dsimp only at hS); go_simp <;> with_reducible rfl
                        try simp only [Act.put, lA, lB, lC]
                        refine held_take 34 (v := ?_) rfl (by kernel_rfl) (by kernel_rfl) (by kernel_rfl) (fun _ _ _ h => h) (by rfl) (fun w hS => ?_) (by assumption) ?_; rotate_left
                        · (try dsimp only at hS); go_simp <;> with_reducible rfl
                        try simp only [Act.put, lA, lB, lC]
                        refine held_take 35 (v := ?_) rfl (by kernel_rfl) (by kernel_rfl) (by kernel_rfl) (fun _ _ _ h => h) (by rfl) (fun w hS => ?_) (by assumption) ?_; rotate_left
                        · (try dsimp only at hS); go_simp <;> with_reducible rfl
                        try simp only [Act.put, lA, lB, lC]
                        refine held_take 36 (v := ?_) rfl (by kernel_rfl) (by kernel_rfl) (by kernel_rfl) (fun _ _ _ h => h) (by rfl) (fun w hS => ?_) (by assumption) ?_; rotate_left
                        · (try dsimp only at hS); go_simp <;> with_reducible rfl
                        try simp only [Act.put, lA, lB, lC]
                        refine held_take 37 (v := ?_) rfl (by kernel_rfl) (by kernel_rfl) (by kernel_rfl) (fun _ _ _ h => h) (by rfl) (fun w hS => ?_) (by assumption) ?_; rotate_left
                        · (try dsimp only at hS); go_simp <;> with_reducible rfl
                        try simp only [Act.put, lA, lB, lC]
                        refine held_take 38 (v := ?_) rfl (by kernel_rfl) (by kernel_rfl) (by kernel_rfl) (fun _ _ _ h => h) (by rfl) (fun w hS => ?_) (by assumption) ?_; rotate_left
                        · (try dsimp only at hS); go_simp <;> with_reducible rfl
                        try simp only [Act.put, lA, lB, lC]
                        refine held_take 39 (v := ?_) rfl (by kernel_rfl) (by kernel_rfl) (by kernel_rfl) (fun _ _ _ h => h) (by rfl) (fun w hS => ?_) (by assumption) ?_; rotate_left
                        · (try dsimp only at hS); go_simp <;> with_reducible rfl
                        try simp only [Act.put, lA, lB, lC]
                        refine held_take 40 (v := ?_) rfl (by kernel_rfl) (by kernel_rfl) (by kernel_rfl) (fun _ _ _ h => h) (by rfl) (fun w hS => ?_) (by assumption) ?_; rotate_left
                        · (try dsimp only at hS); go_simp <;> with_reducible rfl
                        try simp only [Act.put, lA, lB, lC]
                        refine held_take 41 (v := ?_) rfl (by kernel_rfl) (by kernel_rfl) (by kernel_rfl) (fun _ _ _ h => h) (by rfl) (fun w hS => ?_) (by assumption) ?_; rotate_left
                        · (try dsimp only at hS); go_simp <;> with_reducible rfl
                        try simp only [Act.put, lA, lB, lC]
                        refine held_take 42 (v := ?_) rfl (by kernel_rfl) (by kernel_rfl) (by kernel_rfl) (fun _ _ _ h => h) (by rfl) (fun w hS => ?_) (by assumption) ?_; rotate_left
                        · (try dsimp only at hS); go_simp <;> with_reducible rfl
                        try simp only [Act.put, lA, lB, lC]
                        refine held_take 43 (v := ?_) rfl (by kernel_rfl) (by kernel_rfl) (by kernel_rfl) (fun _ _ _ h => h) (by rfl) (fun w hS => ?_) (by assumption) ?_; rotate_left
                        · (try dsimp only at hS); go_simp <;> with_reducible rfl
                        try simp only [Act.put, lA, lB, lC]
                        refine held_take 44 (v := ?_) rfl (by kernel_rfl) (by kernel_rfl) (by kernel_rfl) (fun _ _ _ h => h) (by rfl) (fun w hS => ?_) (by assumption) ?_; rotate_left
                        · (try dsimp only at hS); go_simp <;> with_reducible rfl
                        try simp only [Act.put, lA, lB, lC]
                        refine held_take 45 (v := ?_) rfl (by kernel_rfl) (by kernel_rfl) (by kernel_rfl) (fun _ _ _ h => h) (by rfl) (fun w hS => ?_) (by assumption) ?_; rotate_left
                        · (try dsimp only at hS); go_simp <;> with_reducible rfl
                        try simp only [Act.put, lA, lB, lC]
                        refine held_take 46 (v := ?_) rfl (by kernel_rfl) (by kernel_rfl) (by kernel_rfl) (fun _ _ _ h => h) (by rfl) (fun w hS => ?_) (by assumption) ?_; rotate_left
                        · (try dsimp only at hS); go_simp <;> with_reducible rfl
                        try simp only [Act.put, lA, lB, lC]
                        refine held_take 47 (v := ?_) rfl (by kernel_rfl) (by kernel_rfl) (by kernel_rfl) (fun _ _ _ h => h) (by rfl) (fun w hS => ?_) (by assumption) ?_; rotate_left
                        · (try dsimp only at hS); go_simp <;> with_reducible rfl
                        try simp only [Act.put, lA, lB, lC]
                        refine held_take 48 (v := ?_) rfl (by kernel_rfl) (by kernel_rfl) (by kernel_rfl) (fun _ _ _ h => h) (by rfl) (fun w hS => ?_) (by assumption) ?_; rotate_left
                        · (try dsimp only at hS); go_simp <;> with_reducible rfl
                        try simp only [Act.put, lA, lB, lC]
                        refine held_take 49 (v := ?_) rfl (by kernel_rfl) (by kernel_rfl) (by kernel_rfl) (fun _ _ _ h => h) (by rfl) (fun w hS => ?_) (by assumption) ?_; rotate_left
                        · (try dsimp only at hS); go_simp <;> with_reducible rfl
                        try simp only [Act.put, lA, lB, lC]
                        refine held_take 50 (v := ?_) rfl (by kernel_rfl) (by kernel_rfl) (by kernel_rfl) (fun _ _ _ h => h) (by rfl) (fun w hS => ?_) (by assumption) ?_; rotate_left
                        · (try dsimp only at hS); go_simp <;> with_reducible rfl
                        try simp only [Act.put, lA, lB, lC]
                        refine held_take 51 (v := ?_) rfl (by kernel_rfl) (by kernel_rfl) (by kernel_rfl) (fun _ _ _ h => h) (by rfl) (fun w hS => ?_) (by assumption) ?_; rotate_left
                        · (try dsimp only at hS); go_simp <;> with_reducible rfl
                        try simp only [Act.put, lA, lB, lC]
                        refine held_take 52 (v := ?_) rfl (by kernel_rfl) (by kernel_rfl) (by kernel_rfl) (fun _ _ _ h => h) (by rfl) (fun w hS => ?_) (by assumption) ?_; rotate_left
                        · (try dsimp only at hS); go_simp <;> with_reducible rfl
                        try simp only [Act.put, lA, lB, lC]
                        refine held_take 53 (v := ?_) rfl (by kernel_rfl) (by kernel_rfl) (by kernel_rfl) (fun _ _ _ h => h) (by rfl) (fun w hS => ?_) (by assumption) ?_; rotate_left
                        · (try dsimp only at hS); go_simp <;> with_reducible rfl
                        try simp only [Act.put, lA, lB, lC]
                        refine held_take 54 (v := ?_) rfl (by kernel_rfl) (by kernel_rfl) (by kernel_rfl) (fun _ _ _ h => h) (by rfl) (fun w hS => ?_) (by assumption) ?_; rotate_left
                        · (try dsimp only at hS); go_simp <;> with_reducible rfl
                        try simp only [Act.put, lA, lB, lC]
                        refine held_take 55 (v := ?_) rfl (by kernel_rfl) (by kernel_rfl) (by kernel_rfl) (fun _ _ _ h => h) (by rfl) (fun w hS => ?_) (by assumption) ?_; rotate_left
                        · (try dsimp only at hS); go_simp <;> with_reducible rfl
                        try simp only [Act.put, lA, lB, lC]
                        refine held_done (by kernel_rfl) ?_
                        go_wp2
                        go_roundw
                        case rel => exact ⟨k + 1, (j : Int), _, by omega, by go_num, rfl, rfl, HP2, HM2, by omega, by omega, Lib.hid (HB.out.trans (hbA.mono hbo))⟩
                        case measure => simp [intOf]; omega
              · have HP2 := Lib.hid (pick_skip HP.out HX.out (by unfold restB; rw [show decide (0 < zl) = false by simpa using hlv]; simp))
                refine wp_region_held_drew (S := (fun w' => Below wo.heap.size wo w')) (by kernel_rfl) (hbD) (fun hHeld => ?_)
                refine held_take 0 (v := ?_) rfl (by kernel_rfl) (by kernel_rfl) (by kernel_rfl) (fun _ _ _ h => h) (by rfl) (fun w hS => ?_) (by assumption) ?_; rotate_left
                · (try dsimp only at hS); go_simp <;> with_reducible rfl
                try simp only [Act.put, lA, lB, lC]
                refine held_take 1 (v := ?_) rfl (by kernel_rfl) (by kernel_rfl) (by kernel_rfl) (fun _ _ _ h => h) (by rfl) (fun w hS => ?_) (by assumption) ?_; rotate_left
                · (try dsimp only at hS); go_simp <;> with_reducible rfl
                try simp only [Act.put, lA, lB, lC]
                refine held_take 2 (v := ?_) rfl (by kernel_rfl) (by kernel_rfl) (by kernel_rfl) (fun _ _ _ h => h) (by rfl) (fun w hS => ?_) (by assumption) ?_; rotate_left
                · (try dsimp only at hS); go_simp <;> with_reducible rfl
                try simp only [Act.put, lA, lB, lC]
                refine held_take 3 (v := ?_) rfl (by kernel_rfl) (by kernel_rfl) (by kernel_rfl) (fun _ _ _ h => h) (by rfl) (fun w hS => ?_) (by assumption) ?_; rotate_left
                · (try dsimp only at hS); go_simp <;> with_reducible rfl
                try simp only [Act.put, lA, lB, lC]
                refine held_one 4 rfl (by kernel_rfl) (fun K hK => ?_)
                go_simp
                refine Calls.mono (rmay7_lit _ _ _ _ _ _ _ _ hok) ?_
                rintro e wa ⟨rfl, hb⟩
                have hbA : Below wo.heap.size wo wa := hbD.trans (hb.mono hbD.size)
                refine hK.out _ _ (fun w' => Below wo.heap.size wo w') (fun _ h => h) hbA (fun hHeld => ?_)
                clear hK K
                try simp only [Act.put, lA, lB, lC]
                refine held_take 5 (v := ?_) rfl (by kernel_rfl) (by kernel_rfl) (by kernel_rfl) (fun _ _ _ h => h) (by rfl) (fun w hS => ?_) (by assumption) ?_; rotate_left
                · (try dsimp only at hS); go_simp <;> with_reducible rfl
                try simp only [Act.put, lA, lB, lC]
                refine held_take 6 (v := ?_) rfl (by kernel_rfl) (by kernel_rfl) (by kernel_rfl) (fun _ _ _ h => h) (by rfl) (fun w hS => ?_) (by assumption) ?_; rotate_left
                · (try dsimp only at hS); go_simp <;> with_reducible rfl
                try simp only [Act.put, lA, lB, lC]
                refine held_take 7 (v := ?_) rfl (by kernel_rfl) (by kernel_rfl) (by kernel_rfl) (fun _ _ _ h => h) (by rfl) (fun w hS => ?_) (by assumption) ?_; rotate_left
                · (try dsimp only at hS); go_simp <;> with_reducible rfl
                try simp only [Act.put, lA, lB, lC]
                refine held_take 8 (v := ?_) rfl (by kernel_rfl) (by kernel_rfl) (by kernel_rfl) (fun _ _ _ h => h) (by rfl) (fun w hS => ?_) (by assumption) ?_; rotate_left
                · (try dsimp only at hS); go_simp <;> with_reducible rfl
                try simp only [Act.put, lA, lB, lC]
                refine held_take 9 (v := ?_) rfl (by kernel_rfl) (by kernel_rfl) (by kernel_rfl) (fun _ _ _ h => h) (by rfl) (fun w hS => ?_) (by assumption) ?_; rotate_left
                · (try dsimp only at hS); go_simp <;> with_reducible rfl
                try simp only [Act.put, lA, lB, lC]
                refine held_take 10 (v := ?_) rfl (by kernel_rfl) (by kernel_rfl) (by kernel_rfl) (fun _ _ _ h => h) (by rfl) (fun w hS => ?_) (by assumption) ?_; rotate_left
                · (try dsimp only at hS); go_simp <;> with_reducible rfl
                try simp only [Act.put, lA, lB, lC]
                refine held_take 11 (v := ?_) rfl (by kernel_rfl) (by kernel_rfl) (by kernel_rfl) (fun _ _ _ h => h) (by rfl) (fun w hS => ?_) (by assumption) ?_; rotate_left
                · (try dsimp only at hS); go_simp <;> with_reducible rfl
                try simp only [Act.put, lA, lB, lC]
                refine held_take 12 (v := ?_) rfl (by kernel_rfl) (by kernel_rfl) (by kernel_rfl) (fun _ _ _ h => h) (by rfl) (fun w hS => ?_) (by assumption) ?_; rotate_left
                · (try dsimp only at hS); go_simp <;> with_reducible rfl
                try simp only [Act.put, lA, lB, lC]
                refine held_take 13 (v := ?_) rfl (by kernel_rfl) (by kernel_rfl) (by kernel_rfl) (fun _ _ _ h => h) (by rfl) (fun w hS => ?_) (by assumption) ?_; rotate_left
                · (try dsimp only at hS); go_simp <;> with_reducible rfl
                try simp only [Act.put, lA, lB, lC]
                refine held_skip 14 rfl (by kernel_rfl) (by kernel_rfl) (by kernel_rfl) (fun _ _ _ h => h) (by rfl) (by assumption) ?_
                try simp only [Act.put, lA, lB, lC]
                refine held_skip 15 rfl (by kernel_rfl) (by kernel_rfl) (by kernel_rfl) (fun _ _ _ h => h) (by rfl) (by assumption) ?_
                try simp only [Act.put, lA, lB, lC]
                refine held_skip 16 rfl (by kernel_rfl) (by kernel_rfl) (by kernel_rfl) (fun _ _ _ h => h) (by rfl) (by assumption) ?_
                try simp only [Act.put, lA, lB, lC]
                refine held_skip 17 rfl (by kernel_rfl) (by kernel_rfl) (by kernel_rfl) (fun _ _ _ h => h) (by rfl) (by assumption) ?_
                try simp only [Act.put, lA, lB, lC]
                refine held_skip 18 rfl (by kernel_rfl) (by kernel_rfl) (by kernel_rfl) (fun _ _ _ h => h) (by rfl) (by assumption) ?_
                try simp only [Act.put, lA, lB, lC]
                refine held_skip 19 rfl (by kernel_rfl) (by kernel_rfl) (by kernel_rfl) (fun _ _ _ h => h) (by rfl) (by assumption) ?_
                try simp only [Act.put, lA, lB, lC]
                refine held_skip 20 rfl (by kernel_rfl) (by kernel_rfl) (by kernel_rfl) (fun _ _ _ h => h) (by rfl) (by assumption) ?_
                try simp only [Act.put, lA, lB, lC]
                refine held_skip 21 rfl (by kernel_rfl) (by kernel_rfl) (by kernel_rfl) (fun _ _ _ h => h) (by rfl) (by assumption) ?_
                try simp only [Act.put, lA, lB, lC]
                refine held_skip 22 rfl (by kernel_rfl) (by kernel_rfl) (by kernel_rfl) (fun _ _ _ h => h) (by rfl) (by assumption) ?_
                try simp only [Act.put, lA, lB, lC]
                refine held_skip 23 rfl (by kernel_rfl) (by kernel_rfl) (by kernel_rfl) (fun _ _ _ h => h) (by rfl) (by assumption) ?_
                try simp only [Act.put, lA, lB, lC]
                refine held_skip 24 rfl (by kernel_rfl) (by kernel_rfl) (by kernel_rfl) (fun _ _ _ h => h) (by rfl) (by assumption) ?_
                try simp only [Act.put, lA, lB, lC]
                refine held_skip 25 rfl (by kernel_rfl) (by kernel_rfl) (by kernel_rfl) (fun _ _ _ h => h) (by rfl) (by assumption) ?_
                try simp only [Act.put, lA, lB, lC]
                refine held_skip 26 rfl (by kernel_rfl) (by kernel_rfl) (by kernel_rfl) (fun _ _ _ h => h) (by rfl) (by assumption) ?_
                try simp only [Act.put, lA, lB, lC]
                refine held_skip 27 rfl (by kernel_rfl) (by kernel_rfl) (by kernel_rfl) (fun _ _ _ h => h) (by rfl) (by assumption) ?_
                try simp only [Act.put, lA, lB, lC]
                refine held_skip 28 rfl (by kernel_rfl) (by kernel_rfl) (by kernel_rfl) (fun _ _ _ h => h) (by rfl) (by assumption) ?_
                try simp only [Act.put, lA, lB, lC]
                refine held_skip 29 rfl (by kernel_rfl) (by kernel_rfl) (by kernel_rfl) (fun _ _ _ h => h) (by rfl) (by assumption) ?_
                try simp only [Act.put, lA, lB, lC]
                refine held_skip 30 rfl (by kernel_rfl) (by kernel_rfl) (by kernel_rfl) (fun _ _ _ h => h) (by rfl) (by assumption) ?_
                try simp only [Act.put, lA, lB, lC]
                refine held_skip 31 rfl (by kernel_rfl) (by kernel_rfl) (by kernel_rfl) (fun _ _ _ h => h) (by rfl) (by assumption) ?_
                try simp only [Act.put, lA, lB, lC]
                refine held_skip 32 rfl (by kernel_rfl) (by kernel_rfl) (by kernel_rfl) (fun _ _ _ h => h) (by rfl) (by assumption) ?_
                try simp only [Act.put, lA, lB, lC]
                refine held_skip 33 rfl (by kernel_rfl) (by kernel_rfl) (by kernel_rfl) (fun _ _ _ h => h) (by rfl) (by assumption) ?_
                try simp only [Act.put, lA, lB, lC]
                refine held_skip 34 rfl (by kernel_rfl) (by kernel_rfl) (by kernel_rfl) (fun _ _ _ h => h) (by rfl) (by assumption) ?_
                try simp only [Act.put, lA, lB, lC]
                refine held_skip 35 rfl (by kernel_rfl) (by kernel_rfl) (by kernel_rfl) (fun _ _ _ h => h) (by rfl) (by assumption) ?_
                try simp only [Act.put, lA, lB, lC]
                refine held_skip 36 rfl (by kernel_rfl) (by kernel_rfl) (by kernel_rfl) (fun _ _ _ h => h) (by rfl) (by assumption) ?_
                try simp only [Act.put, lA, lB, lC]
                refine held_skip 37 rfl (by kernel_rfl) (by kernel_rfl) (by kernel_rfl) (fun _ _ _ h => h) (by rfl) (by assumption) ?_
                try simp only [Act.put, lA, lB, lC]
                refine held_skip 38 rfl (by kernel_rfl) (by kernel_rfl) (by kernel_rfl) (fun _ _ _ h => h) (by rfl) (by assumption) ?_
                try simp only [Act.put, lA, lB, lC]
                refine held_skip 39 rfl (by kernel_rfl) (by kernel_rfl) (by kernel_rfl) (fun _ _ _ h => h) (by rfl) (by assumption) ?_
                try simp only [Act.put, lA, lB, lC]
                refine held_skip 40 rfl (by kernel_rfl) (by kernel_rfl) (by kernel_rfl) (fun _ _ _ h => h) (by rfl) (by assumption) ?_
                try simp only [Act.put, lA, lB, lC]
                refine held_skip 41 rfl (by kernel_rfl) (by kernel_rfl) (by kernel_rfl) (fun _ _ _ h => h) (by rfl) (by assumption) ?_
                try simp only [Act.put, lA, lB, lC]
                refine held_skip 42 rfl (by kernel_rfl) (by kernel_rfl) (by kernel_rfl) (fun _ _ _ h => h) (by rfl) (by assumption) ?_
                try simp only [Act.put, lA, lB, lC]
                refine held_skip 43 rfl (by kernel_rfl) (by kernel_rfl) (by kernel_rfl) (fun _ _ _ h => h) (by rfl) (by assumption) ?_
                try simp only [Act.put, lA, lB, lC]
                refine held_skip 44 rfl (by kernel_rfl) (by kernel_rfl) (by kernel_rfl) (fun _ _ _ h => h) (by rfl) (by assumption) ?_
                try simp only [Act.put, lA, lB, lC]
                refine held_skip 45 rfl (by kernel_rfl) (by kernel_rfl) (by kernel_rfl) (fun _ _ _ h => h) (by rfl) (by assumption) ?_
                try simp only [Act.put, lA, lB, lC]
                refine held_skip 46 rfl (by kernel_rfl) (by kernel_rfl) (by kernel_rfl) (fun _ _ _ h => h) (by rfl) (by assumption) ?_
                try simp only [Act.put, lA, lB, lC]
                refine held_skip 47 rfl (by kernel_rfl) (by kernel_rfl) (by kernel_rfl) (fun _ _ _ h => h) (by rfl) (by assumption) ?_
                try simp only [Act.put, lA, lB, lC]
                refine held_skip 48 rfl (by kernel_rfl) (by kernel_rfl) (by kernel_rfl) (fun _ _ _ h => h) (by rfl) (by assumption) ?_
                try simp only [Act.put, lA, lB, lC]
                refine held_skip 49 rfl (by kernel_rfl) (by kernel_rfl) (by kernel_rfl) (fun _ _ _ h => h) (by rfl) (by assumption) ?_
                try simp only [Act.put, lA, lB, lC]
                refine held_skip 50 rfl (by kernel_rfl) (by kernel_rfl) (by kernel_rfl) (fun _ _ _ h => h) (by rfl) (by assumption) ?_
                try simp only [Act.put, lA, lB, lC]
                refine held_skip 51 rfl (by kernel_rfl) (by kernel_rfl) (by kernel_rfl) (fun _ _ _ h => h) (by rfl) (by assumption) ?_
                try simp only [Act.put, lA, lB, lC]
                refine held_skip 52 rfl (by kernel_rfl) (by kernel_rfl) (by kernel_rfl) (fun _ _ _ h => h) (by rfl) (by assumption) ?_
                try simp only [Act.put, lA, lB, lC]
                refine held_skip 53 rfl (by kernel_rfl) (by kernel_rfl) (by kernel_rfl) (fun _ _ _ h => h) (by rfl) (by assumption) ?_
                try simp only [Act.put, lA, lB, lC]
                refine held_skip 54 rfl (by kernel_rfl) (by kernel_rfl) (by kernel_rfl) (fun _ _ _ h => h) (by rfl) (by assumption) ?_
                try simp only [Act.put, lA, lB, lC]
                refine held_take 55 (v := ?_) rfl (by kernel_rfl) (by kernel_rfl) (by kernel_rfl) (fun _ _ _ h => h) (by rfl) (fun w hS => ?_) (by assumption) ?_; rotate_left
                · (try dsimp only at hS); go_simp <;> with_reducible rfl
                try simp only [Act.put, lA, lB, lC]
                refine held_done (by kernel_rfl) ?_
                go_wp2
                go_roundw
                case rel => exact ⟨k + 1, zz, _, by omega, by go_num, rfl, rfl, HP2, HM2, by omega, by omega, Lib.hid (HB.out.trans (hbA.mono hbo))⟩
                case measure => simp [intOf]; omega
          · have HM2 : Hid (M = mostTo l (k + 1)) := Lib.hid (by rw [hms]; simp [mostStep, goodB, hrz, hw0])
            clear hms hx
            go_wp2_with (go_at_call 38; refine (rright_lit _ _ _ _ _ _ _ _ hrz).mono ?_; rintro e w1 ⟨rfl, hb1⟩; have hbD : Below wo.heap.size wo w1.drew := hb1.drew)
            cases hok : okB ⟨zn, zl, zp, zw, zo, zi, false⟩ with
            | false =>
              have HP2 := Lib.hid (pick_skip HP.out HX.out (by unfold okB at hok; unfold restB; rw [← Bool.and_assoc, hok]; rfl))
              refine wp_region_held_drew (S := (fun w' => Below wo.heap.size wo w')) (by kernel_rfl) (hbD) (fun hHeld => ?_)
              refine held_take 0 (v := ?_) rfl (by kernel_rfl) (by kernel_rfl) (by kernel_rfl) (fun _ _ _ h => h) (by rfl) (fun w hS => ?_) (by assumption) ?_; rotate_left
              · (try dsimp only at hS); go_simp <;> with_reducible rfl
              try simp only [Act.put, lA, lB, lC]
              refine held_take 1 (v := ?_) rfl (by kernel_rfl) (by kernel_rfl) (by kernel_rfl) (fun _ _ _ h => h) (by rfl) (fun w hS => ?_) (by assumption) ?_; rotate_left
              · (try dsimp only at hS); go_simp <;> with_reducible rfl
              try simp only [Act.put, lA, lB, lC]
              refine held_take 2 (v := ?_) rfl (by kernel_rfl) (by kernel_rfl) (by kernel_rfl) (fun _ _ _ h => h) (by rfl) (fun w hS => ?_) (by assumption) ?_; rotate_left
              · (try dsimp only at hS); go_simp <;> with_reducible rfl
              try simp only [Act.put, lA, lB, lC]
              refine held_take 3 (v := ?_) rfl (by kernel_rfl) (by kernel_rfl) (by kernel_rfl) (fun _ _ _ h => h) (by rfl) (fun w hS => ?_) (by assumption) ?_; rotate_left
              · (try dsimp only at hS); go_simp <;> with_reducible rfl
              try simp only [Act.put, lA, lB, lC]
              refine held_one 4 rfl (by kernel_rfl) (fun K hK => ?_)
              go_simp
              refine Calls.mono (rmay7_lit _ _ _ _ _ _ _ _ hok) ?_
              rintro e wa ⟨rfl, hb⟩
              have hbA : Below wo.heap.size wo wa := hbD.trans (hb.mono hbD.size)
              refine hK.out _ _ (fun w' => Below wo.heap.size wo w') (fun _ h => h) hbA (fun hHeld => ?_)
              clear hK K
              try simp only [Act.put, lA, lB, lC]
              refine held_take 5 (v := ?_) rfl (by kernel_rfl) (by kernel_rfl) (by kernel_rfl) (fun _ _ _ h => h) (by rfl) (fun w hS => ?_) (by assumption) ?_; rotate_left
              · (try dsimp only at hS); go_simp <;> with_reducible rfl
              try simp only [Act.put, lA, lB, lC]
              refine held_skip 6 rfl (by kernel_rfl) (by kernel_rfl) (by kernel_rfl) (fun _ _ _ h => h) (by rfl) (by assumption) ?_
              try simp only [Act.put, lA, lB, lC]
              refine held_skip 7 rfl (by kernel_rfl) (by kernel_rfl) (by kernel_rfl) (fun _ _ _ h => h) (by rfl) (by assumption) ?_
              try simp only [Act.put, lA, lB, lC]
              refine held_skip 8 rfl (by kernel_rfl) (by kernel_rfl) (by kernel_rfl) (fun _ _ _ h => h) (by rfl) (by assumption) ?_
              try simp only [Act.put, lA, lB, lC]
              refine held_skip 9 rfl (by kernel_rfl) (by kernel_rfl) (by kernel_rfl) (fun _ _ _ h => h) (by rfl) (by assumption) ?_
              try simp only [Act.put, lA, lB, lC]
              refine held_skip 10 rfl (by kernel_rfl) (by kernel_rfl) (by kernel_rfl) (fun _ _ _ h => h) (by rfl) (by assumption) ?_
              try simp only [Act.put, lA, lB, lC]
              refine held_skip 11 rfl (by kernel_rfl) (by kernel_rfl) (by kernel_rfl) (fun _ _ _ h => h) (by rfl) (by assumption) ?_
              try simp only [Act.put, lA, lB, lC]
              refine held_take 12 (v := ?_) rfl (by kernel_rfl) (by kernel_rfl) (by kernel_rfl) (fun _ _ _ h => h) (by rfl) (fun w hS => ?_) (by assumption) ?_; rotate_left
              · (try dsimp only at hS); go_simp <;> with_reducible rfl
              try simp only [Act.put, lA, lB, lC]
              refine held_take 13 (v := ?_) rfl (by kernel_rfl) (by kernel_rfl) (by kernel_rfl) (fun _ _ _ h => h) (by rfl) (fun w hS => ?_) (by assumption) ?_; rotate_left
              · (try dsimp only at hS); go_simp <;> with_reducible rfl
              try simp only [Act.put, lA, lB, lC]
              refine held_skip 14 rfl (by kernel_rfl) (by kernel_rfl) (by kernel_rfl) (fun _ _ _ h => h) (by rfl) (by assumption) ?_
              try simp only [Act.put, lA, lB, lC]
              refine held_skip 15 rfl (by kernel_rfl) (by kernel_rfl) (by kernel_rfl) (fun _ _ _ h => h) (by rfl) (by assumption) ?_
              try simp only [Act.put, lA, lB, lC]
              refine held_skip 16 rfl (by kernel_rfl) (by kernel_rfl) (by kernel_rfl) (fun _ _ _ h => h) (by rfl) (by assumption) ?_
              try simp only [Act.put, lA, lB, lC]
              refine held_skip 17 rfl (by kernel_rfl) (by kernel_rfl) (by kernel_rfl) (fun _ _ _ h => h) (by rfl) (by assumption) ?_
              try simp only [Act.put, lA, lB, lC]
              refine held_skip 18 rfl (by kernel_rfl) (by kernel_rfl) (by kernel_rfl) (fun _ _ _ h => h) (by rfl) (by assumption) ?_
              try simp only [Act.put, lA, lB, lC]
              refine held_skip 19 rfl (by kernel_rfl) (by kernel_rfl) (by kernel_rfl) (fun _ _ _ h => h) (by rfl) (by assumption) ?_
              try simp only [Act.put, lA, lB, lC]
              refine held_skip 20 rfl (by kernel_rfl) (by kernel_rfl) (by kernel_rfl) (fun _ _ _ h => h) (by rfl) (by assumption) ?_
              try simp only [Act.put, lA, lB, lC]
              refine held_skip 21 rfl (by kernel_rfl) (by kernel_rfl) (by kernel_rfl) (fun _ _ _ h => h) (by rfl) (by assumption) ?_
              try simp only [Act.put, lA, lB, lC]
              refine held_skip 22 rfl (by kernel_rfl) (by kernel_rfl) (by kernel_rfl) (fun _ _ _ h => h) (by rfl) (by assumption) ?_
              try simp only [Act.put, lA, lB, lC]
              refine held_skip 23 rfl (by kernel_rfl) (by kernel_rfl) (by kernel_rfl) (fun _ _ _ h => h) (by rfl) (by assumption) ?_
              try simp only [Act.put, lA, lB, lC]
              refine held_skip 24 rfl (by kernel_rfl) (by kernel_rfl) (by kernel_rfl) (fun _ _ _ h => h) (by rfl) (by assumption) ?_
              try simp only [Act.put, lA, lB, lC]
              refine held_skip 25 rfl (by kernel_rfl) (by kernel_rfl) (by kernel_rfl) (fun _ _ _ h => h) (by rfl) (by assumption) ?_
              try simp only [Act.put, lA, lB, lC]
              refine held_skip 26 rfl (by kernel_rfl) (by kernel_rfl) (by kernel_rfl) (fun _ _ _ h => h) (by rfl) (by assumption) ?_
              try simp only [Act.put, lA, lB, lC]
              refine held_skip 27 rfl (by kernel_rfl) (by kernel_rfl) (by kernel_rfl) (fun _ _ _ h => h) (by rfl) (by assumption) ?_
              try simp only [Act.put, lA, lB, lC]
              refine held_skip 28 rfl (by kernel_rfl) (by kernel_rfl) (by kernel_rfl) (fun _ _ _ h => h) (by rfl) (by assumption) ?_
              try simp only [Act.put, lA, lB, lC]
              refine held_skip 29 rfl (by kernel_rfl) (by kernel_rfl) (by kernel_rfl) (fun _ _ _ h => h) (by rfl) (by assumption) ?_
              try simp only [Act.put, lA, lB, lC]
              refine held_skip 30 rfl (by kernel_rfl) (by kernel_rfl) (by kernel_rfl) (fun _ _ _ h => h) (by rfl) (by assumption) ?_
              try simp only [Act.put, lA, lB, lC]
              refine held_skip 31 rfl (by kernel_rfl) (by kernel_rfl) (by kernel_rfl) (fun _ _ _ h => h) (by rfl) (by assumption) ?_
              try simp only [Act.put, lA, lB, lC]
              refine held_skip 32 rfl (by kernel_rfl) (by kernel_rfl) (by kernel_rfl) (fun _ _ _ h => h) (by rfl) (by assumption) ?_
              try simp only [Act.put, lA, lB, lC]
              refine held_skip 33 rfl (by kernel_rfl) (by kernel_rfl) (by kernel_rfl) (fun _ _ _ h => h) (by rfl) (by assumption) ?_
              try simp only [Act.put, lA, lB, lC]
              refine held_skip 34 rfl (by kernel_rfl) (by kernel_rfl) (by kernel_rfl) (fun _ _ _ h => h) (by rfl) (by assumption) ?_
              try simp only [Act.put, lA, lB, lC]
              refine held_skip 35 rfl (by kernel_rfl) (by kernel_rfl) (by kernel_rfl) (fun _ _ _ h => h) (by rfl) (by assumption) ?_
              try simp only [Act.put, lA, lB, lC]
              refine held_skip 36 rfl (by kernel_rfl) (by kernel_rfl) (by kernel_rfl) (fun _ _ _ h => h) (by rfl) (by assumption) ?_
              try simp only [Act.put, lA, lB, lC]
              refine held_skip 37 rfl (by kernel_rfl) (by kernel_rfl) (by kernel_rfl) (fun _ _ _ h => h) (by rfl) (by assumption) ?_
              try simp only [Act.put, lA, lB, lC]
              refine held_skip 38 rfl (by kernel_rfl) (by kernel_rfl) (by kernel_rfl) (fun _ _ _ h => h) (by rfl) (by assumption) ?_
              try simp only [Act.put, lA, lB, lC]
              refine held_skip 39 rfl (by kernel_rfl) (by kernel_rfl) (by kernel_rfl) (fun _ _ _ h => h) (by rfl) (by assumption) ?_
              try simp only [Act.put, lA, lB, lC]
              refine held_skip 40 rfl (by kernel_rfl) (by kernel_rfl) (by kernel_rfl) (fun _ _ _ h => h) (by rfl) (by assumption) ?_
              try simp only [Act.put, lA, lB, lC]
              refine held_skip 41 rfl (by kernel_rfl) (by kernel_rfl) (by kernel_rfl) (fun _ _ _ h => h) (by rfl) (by assumption) ?_
              try simp only [Act.put, lA, lB, lC]
              refine held_skip 42 rfl (by kernel_rfl) (by kernel_rfl) (by kernel_rfl) (fun _ _ _ h => h) (by rfl) (by assumption) ?_
              try simp only [Act.put, lA, lB, lC]
              refine held_skip 43 rfl (by kernel_rfl) (by kernel_rfl) (by kernel_rfl) (fun _ _ _ h => h) (by rfl) (by assumption) ?_
              try simp only [Act.put, lA, lB, lC]
              refine held_skip 44 rfl (by kernel_rfl) (by kernel_rfl) (by kernel_rfl) (fun _ _ _ h => h) (by rfl) (by assumption) ?_
              try simp only [Act.put, lA, lB, lC]
              refine held_skip 45 rfl (by kernel_rfl) (by kernel_rfl) (by kernel_rfl) (fun _ _ _ h => h) (by rfl) (by assumption) ?_
              try simp only [Act.put, lA, lB, lC]
              refine held_skip 46 rfl (by kernel_rfl) (by kernel_rfl) (by kernel_rfl) (fun _ _ _ h => h) (by rfl) (by assumption) ?_
              try simp only [Act.put, lA, lB, lC]
              refine held_skip 47 rfl (by kernel_rfl) (by kernel_rfl) (by kernel_rfl) (fun _ _ _ h => h) (by rfl) (by assumption) ?_
              try simp only [Act.put, lA, lB, lC]
              refine held_skip 48 rfl (by kernel_rfl) (by kernel_rfl) (by kernel_rfl) (fun _ _ _ h => h) (by rfl) (by assumption) ?_
              try simp only [Act.put, lA, lB, lC]
              refine held_skip 49 rfl (by kernel_rfl) (by kernel_rfl) (by kernel_rfl) (fun _ _ _ h => h) (by rfl) (by assumption) ?_
              try simp only [Act.put, lA, lB, lC]
              refine held_skip 50 rfl (by kernel_rfl) (by kernel_rfl) (by kernel_rfl) (fun _ _ _ h => h) (by rfl) (by assumption) ?_
              try simp only [Act.put, lA, lB, lC]
              refine held_skip 51 rfl (by kernel_rfl) (by kernel_rfl) (by kernel_rfl) (fun _ _ _ h => h) (by rfl) (by assumption) ?_
              try simp only [Act.put, lA, lB, lC]
              refine held_skip 52 rfl (by kernel_rfl) (by kernel_rfl) (by kernel_rfl) (fun _ _ _ h => h) (by rfl) (by assumption) ?_
              try simp only [Act.put, lA, lB, lC]
              refine held_skip 53 rfl (by kernel_rfl) (by kernel_rfl) (by kernel_rfl) (fun _ _ _ h => h) (by rfl) (by assumption) ?_
              try simp only [Act.put, lA, lB, lC]
              refine held_skip 54 rfl (by kernel_rfl) (by kernel_rfl) (by kernel_rfl) (fun _ _ _ h => h) (by rfl) (by assumption) ?_
              try simp only [Act.put, lA, lB, lC]
              refine held_take 55 (v := ?_) rfl (by kernel_rfl) (by kernel_rfl) (by kernel_rfl) (fun _ _ _ h => h) (by rfl) (fun w hS => ?_) (by assumption) ?_; rotate_left
              · (try dsimp only at hS); go_simp <;> with_reducible rfl
              try simp only [Act.put, lA, lB, lC]
              refine held_done (by kernel_rfl) ?_
              go_wp2
              go_roundw
              case rel => exact ⟨k + 1, zz, _, by omega, by go_num, rfl, rfl, HP2, HM2, by omega, by omega, Lib.hid (HB.out.trans (hbA.mono hbo))⟩
              case measure => simp [intOf]; omega
            | true =>
              by_cases hlv : 0 < zl
              · have hem : (rightB ⟨zn, zl, zp, zw, zo, zi, false⟩ && restB ⟨zn, zl, zp, zw, zo, zi, false⟩) = true := by unfold okB at hok; unfold restB; rw [← Bool.and_assoc, hok]; simpa using hlv
                rcases HP.out with ⟨h1, rfl⟩ | ⟨j, y, rfl, hj, hy, hbest⟩
                · have HP2 := Lib.hid (pick_first h1 HX.out hem)
                  clear h1 hem
                  refine wp_region_held_drew (S := (fun w' => Below wo.heap.size wo w')) (by kernel_rfl) (hbD) (fun hHeld => ?_)
                  refine held_take 0 (v := ?_) rfl (by kernel_rfl) (by kernel_rfl) (by kernel_rfl) (fun _ _ _ h => h) (by rfl) (fun w hS => ?_) (by assumption) ?_; rotate_left
                  · (try dsimp only at hS); go_simp <;> with_reducible rfl
                  try simp only [Act.put, lA, lB, lC]
                  refine held_take 1 (v := ?_) rfl (by kernel_rfl) (by kernel_rfl) (by kernel_rfl) (fun _ _ _ h => h) (by rfl) (fun w hS => ?_) (by assumption) ?_; rotate_left
                  · (try dsimp only at hS); go_simp <;> with_reducible rfl
                  try simp only [Act.put, lA, lB, lC]
                  refine held_take 2 (v := ?_) rfl (by kernel_rfl) (by kernel_rfl) (by kernel_rfl) (fun _ _ _ h => h) (by rfl) (fun w hS => ?_) (by assumption) ?_; rotate_left
                  · (try dsimp only at hS); go_simp <;> with_reducible rfl
                  try simp only [Act.put, lA, lB, lC]
                  refine held_take 3 (v := ?_) rfl (by kernel_rfl) (by kernel_rfl) (by kernel_rfl) (fun _ _ _ h => h) (by rfl) (fun w hS => ?_) (by assumption) ?_; rotate_left
                  · (try dsimp only at hS); go_simp <;> with_reducible rfl
                  try simp only [Act.put, lA, lB, lC]
                  refine held_one 4 rfl (by kernel_rfl) (fun K hK => ?_)
                  go_simp
                  refine Calls.mono (rmay7_lit _ _ _ _ _ _ _ _ hok) ?_
                  rintro e wa ⟨rfl, hb⟩
                  have hbA : Below wo.heap.size wo wa := hbD.trans (hb.mono hbD.size)
                  refine hK.out _ _ (fun w' => Below wo.heap.size wo w') (fun _ h => h) hbA (fun hHeld => ?_)
                  clear hK K
                  try simp only [Act.put, lA, lB, lC]
                  refine held_take 5 (v := ?_) rfl (by kernel_rfl) (by kernel_rfl) (by kernel_rfl) (fun _ _ _ h => h) (by rfl) (fun w hS => ?_) (by assumption) ?_; rotate_left
                  · (try dsimp only at hS); go_simp <;> with_reducible rfl
                  try simp only [Act.put, lA, lB, lC]
                  refine held_take 6 (v := ?_) rfl (by kernel_rfl) (by kernel_rfl) (by kernel_rfl) (fun _ _ _ h => h) (by rfl) (fun w hS => ?_) (by assumption) ?_; rotate_left
                  · (try dsimp only at hS); go_simp <;> with_reducible rfl
                  try simp only [Act.put, lA, lB, lC]
                  refine held_take 7 (v := ?_) rfl (by kernel_rfl) (by kernel_rfl) (by kernel_rfl) (fun _ _ _ h => h) (by rfl) (fun w hS => ?_) (by assumption) ?_; rotate_left
                  · (try dsimp only at hS); go_simp <;> with_reducible rfl
                  try simp only [Act.put, lA, lB, lC]
                  refine held_take 8 (v := ?_) rfl (by kernel_rfl) (by kernel_rfl) (by kernel_rfl) (fun _ _ _ h => h) (by rfl) (fun w hS => ?_) (by assumption) ?_; rotate_left
                  · (try dsimp only at hS); go_simp <;> with_reducible rfl
                  try simp only [Act.put, lA, lB, lC]
                  refine held_take 9 (v := ?_) rfl (by kernel_rfl) (by kernel_rfl) (by kernel_rfl) (fun _ _ _ h => h) (by rfl) (fun w hS => ?_) (by assumption) ?_; rotate_left
                  · (try dsimp only at hS); go_simp <;> with_reducible rfl
                  try simp only [Act.put, lA, lB, lC]
                  refine held_take 10 (v := ?_) rfl (by kernel_rfl) (by kernel_rfl) (by kernel_rfl) (fun _ _ _ h => h) (by rfl) (fun w hS => ?_) (by assumption) ?_; rotate_left
                  · (try dsimp only at hS); go_simp <;> with_reducible rfl
                  try simp only [Act.put, lA, lB, lC]
                  refine held_take 11 (v := ?_) rfl (by kernel_rfl) (by kernel_rfl) (by kernel_rfl) (fun _ _ _ h => h) (by rfl) (fun w hS => ?_) (by assumption) ?_; rotate_left
                  · (try dsimp only at hS); go_simp <;> with_reducible rfl
                  try simp only [Act.put, lA, lB, lC]
                  refine held_take 12 (v := ?_) rfl (by kernel_rfl) (by kernel_rfl) (by kernel_rfl) (fun _ _ _ h => h) (by rfl) (fun w hS => ?_) (by assumption) ?_; rotate_left
                  · (try dsimp only at hS); go_simp <;> with_reducible rfl
                  try simp only [Act.put, lA, lB, lC]
                  refine held_take 13 (v := ?_) rfl (by kernel_rfl) (by kernel_rfl) (by kernel_rfl) (fun _ _ _ h => h) (by rfl) (fun w hS => ?_) (by assumption) ?_; rotate_left
                  · (try dsimp only at hS); go_simp <;> with_reducible rfl
                  try simp only [Act.put, lA, lB, lC]
                  refine held_take 14 (v := ?_) rfl (by kernel_rfl) (by kernel_rfl) (by kernel_rfl) (fun _ _ _ h => h) (by rfl) (fun w hS => ?_) (by assumption) ?_; rotate_left
                  · (try dsimp only at hS); go_simp <;> with_reducible rfl
                  try simp only [Act.put, lA, lB, lC]
                  refine held_take 15 (v := ?_) rfl (by kernel_rfl) (by kernel_rfl) (by kernel_rfl) (fun _ _ _ h => h) (by rfl) (fun w hS => ?_) (by assumption) ?_; rotate_left
                  · (try dsimp only at hS); go_simp <;> with_reducible rfl
                  try simp only [Act.put, lA, lB, lC]
                  refine held_take 16 (v := ?_) rfl (by kernel_rfl) (by kernel_rfl) (by kernel_rfl) (fun _ _ _ h => h) (by rfl) (fun w hS => ?_) (by assumption) ?_; rotate_left
                  · (try dsimp only at hS); go_simp <;> with_reducible rfl
                  try simp only [Act.put, lA, lB, lC]
                  refine held_skip 17 rfl (by kernel_rfl) (by kernel_rfl) (by kernel_rfl) (fun _ _ _ h => h) (by rfl) (by assumption) ?_
                  try simp only [Act.put, lA, lB, lC]
                  refine held_skip 18 rfl (by kernel_rfl) (by kernel_rfl) (by kernel_rfl) (fun _ _ _ h => h) (by rfl) (by assumption) ?_
                  try simp only [Act.put, lA, lB, lC]
                  refine held_skip 19 rfl (by kernel_rfl) (by kernel_rfl) (by kernel_rfl) (fun _ _ _ h => h) (by rfl) (by assumption) ?_
                  try simp only [Act.put, lA, lB, lC]
                  refine held_skip 20 rfl (by kernel_rfl) (by kernel_rfl) (by kernel_rfl) (fun _ _ _ h => h) (by rfl) (by assumption) ?_
                  try simp only [Act.put, lA, lB, lC]
                  refine held_skip 21 rfl (by kernel_rfl) (by kernel_rfl) (by kernel_rfl) (fun _ _ _ h => h) (by rfl) (by assumption) ?_
                  try simp only [Act.put, lA, lB, lC]
                  refine held_skip 22 rfl (by kernel_rfl) (by kernel_rfl) (by kernel_rfl) (fun _ _ _ h => h) (by rfl) (by assumption) ?_
                  try simp only [Act.put, lA, lB, lC]
                  refine held_skip 23 rfl (by kernel_rfl) (by kernel_rfl) (by kernel_rfl) (fun _ _ _ h => h) (by rfl) (by assumption) ?_
                  try simp only [Act.put, lA, lB, lC]
                  refine held_skip 24 rfl (by kernel_rfl) (by kernel_rfl) (by kernel_rfl) (fun _ _ _ h => h) (by rfl) (by assumption) ?_
                  try simp only [Act.put, lA, lB, lC]
                  refine held_skip 25 rfl (by kernel_rfl) (by kernel_rfl) (by kernel_rfl) (fun _ _ _ h => h) (by rfl) (by assumption) ?_
                  try simp only [Act.put, lA, lB, lC]
                  refine held_skip 26 rfl (by kernel_rfl) (by kernel_rfl) (by kernel_rfl) (fun _ _ _ h => h) (by rfl) (by assumption) ?_
                  try simp only [Act.put, lA, lB, lC]
                  refine held_skip 27 rfl (by kernel_rfl) (by kernel_rfl) (by kernel_rfl) (fun _ _ _ h => h) (by rfl) (by assumption) ?_
                  try simp only [Act.put, lA, lB, lC]
                  refine held_take 28 (v := ?_) rfl (by kernel_rfl) (by kernel_rfl) (by kernel_rfl) (fun _ _ _ h => h) (by rfl) (fun w hS => ?_) (by assumption) ?_; rotate_left
                  · (try dsimp only at hS); go_simp <;> with_reducible rfl
                  try simp only [Act.put, lA, lB, lC]
                  refine held_take 29 (v := ?_) rfl (by kernel_rfl) (by kernel_rfl) (by kernel_rfl) (fun _ _ _ h => h) (by rfl) (fun w hS => ?_) (by assumption) ?_; rotate_left
                  · (try dsimp only at hS); go_simp <;> with_reducible rfl
                  try simp only [Act.put, lA, lB, lC]
                  refine held_skip 30 rfl (by kernel_rfl) (by kernel_rfl) (by kernel_rfl) (fun _ _ _ h => h) (by rfl) (by assumption) ?_
                  try simp only [Act.put, lA, lB, lC]
                  refine held_skip 31 rfl (by kernel_rfl) (by kernel_rfl) (by kernel_rfl) (fun _ _ _ h => h) (by rfl) (by assumption) ?_
                  try simp only [Act.put, lA, lB, lC]
                  refine held_skip 32 rfl (by kernel_rfl) (by kernel_rfl) (by kernel_rfl) (fun _ _ _ h => h) (by rfl) (by assumption) ?_
                  try simp only [Act.put, lA, lB, lC]
                  refine held_skip 33 rfl (by kernel_rfl) (by kernel_rfl) (by kernel_rfl) (fun _ _ _ h => h) (by rfl) (by assumption) ?_
                  try simp only [Act.put, lA, lB, lC]
                  refine held_skip 34 rfl (by kernel_rfl) (by kernel_rfl) (by kernel_rfl) (fun _ _ _ h => h) (by rfl) (by assumption) ?_
                  try simp only [Act.put, lA, lB, lC]
                  refine held_skip 35 rfl (by kernel_rfl) (by kernel_rfl) (by kernel_rfl) (fun _ _ _ h => h) (by rfl) (by assumption) ?_
                  try simp only [Act.put, lA, lB, lC]
                  refine held_skip 36 rfl (by kernel_rfl) (by kernel_rfl) (by kernel_rfl) (fun _ _ _ h => h) (by rfl) (by assumption) ?_
                  try simp only [Act.put, lA, lB, lC]
                  refine held_skip 37 rfl (by kernel_rfl) (by kernel_rfl) (by kernel_rfl) (fun _ _ _ h => h) (by rfl) (by assumption) ?_
                  try simp only [Act.put, lA, lB, lC]
                  refine held_skip 38 rfl (by kernel_rfl) (by kernel_rfl) (by kernel_rfl) (fun _ _ _ h => h) (by rfl) (by assumption) ?_
                  try simp only [Act.put, lA, lB, lC]
                  refine held_skip 39 rfl (by kernel_rfl) (by kernel_rfl) (by kernel_rfl) (fun _ _ _ h => h) (by rfl) (by assumption) ?_
                  try simp only [Act.put, lA, lB, lC]
                  refine held_skip 40 rfl (by kernel_rfl) (by kernel_rfl) (by kernel_rfl) (fun _ _ _ h => h) (by rfl) (by assumption) ?_
                  try simp only [Act.put, lA, lB, lC]
                  refine held_skip 41 rfl (by kernel_rfl) (by kernel_rfl) (by kernel_rfl) (fun _ _ _ h => h) (by rfl) (by assumption) ?_
                  try simp only [Act.put, lA, lB, lC]
                  refine held_skip 42 rfl (by kernel_rfl) (by kernel_rfl) (by kernel_rfl) (fun _ _ _ h => h) (by rfl) (by assumption) ?_
                  try simp only [Act.put, lA, lB, lC]
                  refine held_skip 43 rfl (by kernel_rfl) (by kernel_rfl) (by kernel_rfl) (fun _ _ _ h => h) (by rfl) (by assumption) ?_
                  try simp only [Act.put, lA, lB, lC]
                  refine held_skip 44 rfl (by kernel_rfl) (by kernel_rfl) (by kernel_rfl) (fun _ _ _ h => h) (by rfl) (by assumption) ?_
                  try simp only [Act.put, lA, lB, lC]
                  refine held_skip 45 rfl (by kernel_rfl) (by kernel_rfl) (by kernel_rfl) (fun _ _ _ h => h) (by rfl) (by assumption) ?_
                  try simp only [Act.put, lA, lB, lC]
                  refine held_skip 46 rfl (by kernel_rfl) (by kernel_rfl) (by kernel_rfl) (fun _ _ _ h => h) (by rfl) (by assumption) ?_
                  try simp only [Act.put, lA, lB, lC]
                  refine held_skip 47 rfl (by kernel_rfl) (by kernel_rfl) (by kernel_rfl) (fun _ _ _ h => h) (by rfl) (by assumption) ?_
                  try simp only [Act.put, lA, lB, lC]
                  refine held_skip 48 rfl (by kernel_rfl) (by kernel_rfl) (by kernel_rfl) (fun _ _ _ h => h) (by rfl) (by assumption) ?_
                  try simp only [Act.put, lA, lB, lC]
                  refine held_skip 49 rfl (by kernel_rfl) (by kernel_rfl) (by kernel_rfl) (fun _ _ _ h => h) (by rfl) (by assumption) ?_
                  try simp only [Act.put, lA, lB, lC]
                  refine held_skip 50 rfl (by kernel_rfl) (by kernel_rfl) (by kernel_rfl) (fun _ _ _ h => h) (by rfl) (by assumption) ?_
                  try simp only [Act.put, lA, lB, lC]
                  refine held_skip 51 rfl (by kernel_rfl) (by kernel_rfl) (by kernel_rfl) (fun _ _ _ h => h) (by rfl) (by assumption) ?_
                  try simp only [Act.put, lA, lB, lC]
                  refine held_skip 52 rfl (by kernel_rfl) (by kernel_rfl) (by kernel_rfl) (fun _ _ _ h => h) (by rfl) (by assumption) ?_
                  try simp only [Act.put, lA, lB, lC]
                  refine held_skip 53 rfl (by kernel_rfl) (by kernel_rfl) (by kernel_rfl) (fun _ _ _ h => h) (by rfl) (by assumption) ?_
                  try simp only [Act.put, lA, lB, lC]
                  refine held_take 54 (v := ?_) rfl (by kernel_rfl) (by kernel_rfl) (by kernel_rfl) (fun _ _ _ h => h) (by rfl) (fun w hS => ?_) (by assumption) ?_; rotate_left
                  · (try dsimp only at hS); go_simp <;> with_reducible rfl
                  try simp only [Act.put, lA, lB, lC]
                  refine held_take 55 (v := ?_) rfl (by kernel_rfl) (by kernel_rfl) (by kernel_rfl) (fun _ _ _ h => h) (by rfl) (fun w hS => ?_) (by assumption) ?_; rotate_left
                  · (try dsimp only at hS); go_simp <;> with_reducible rfl
                  try simp only [Act.put, lA, lB, lC]
                  refine held_done (by kernel_rfl) ?_
                  go_wp2
                  go_roundw
                  case rel => exact ⟨k + 1, (k : Int), _, by omega, by go_num, rfl, rfl, HP2, HM2, by omega, by omega, Lib.hid (HB.out.trans (hbA.mono hbo))⟩
                  case measure => simp [intOf]; omega
                · obtain ⟨hd0, hd1, hd2, hd3, hd4, hd5, hd6⟩ := Blk.sevenAll HLo.out (show j < len by omega) hy
                  have t4 : (j : Int) < (len : Int) := by omega
                  have t5 : (0 : Int) ≤ (j : Int) := by omega
                  have t6 : ((j : Int)).toNat = j := by omega
                  by_cases hw : zw < y.worn
                  · have HP2 := Lib.hid (pick_better hbest HX.out hem (by simp [aheadO, hw]))
                    clear hbest hy hem
                    refine wp_region_held_drew (S := (fun w' => Below wo.heap.size wo w')) (by kernel_rfl) (hbD) (fun hHeld => ?_)
                    refine held_take 0 (v := ?_) rfl (by kernel_rfl) (by kernel_rfl) (by kernel_rfl) (fun _ _ _ h => h) (by rfl) (fun w hS => ?_) (by assumption) ?_; rotate_left
                    · (try dsimp only at hS); go_simp <;> with_reducible rfl
                    try simp only [Act.put, lA, lB, lC]
                    refine held_take 1 (v := ?_) rfl (by kernel_rfl) (by kernel_rfl) (by kernel_rfl) (fun _ _ _ h => h) (by rfl) (fun w hS => ?_) (by assumption) ?_; rotate_left
                    · (try dsimp only at hS); go_simp <;> with_reducible rfl
                    try simp only [Act.put, lA, lB, lC]
                    refine held_take 2 (v := ?_) rfl (by kernel_rfl) (by kernel_rfl) (by kernel_rfl) (fun _ _ _ h => h) (by rfl) (fun w hS => ?_) (by assumption) ?_; rotate_left
                    · (try dsimp only at hS); go_simp <;> with_reducible rfl
                    try simp only [Act.put, lA, lB, lC]
                    refine held_take 3 (v := ?_) rfl (by kernel_rfl) (by kernel_rfl) (by kernel_rfl) (fun _ _ _ h => h) (by rfl) (fun w hS => ?_) (by assumption) ?_; rotate_left
                    · (try dsimp only at hS); go_simp <;> with_reducible rfl
                    try simp only [Act.put, lA, lB, lC]
                    refine held_one 4 rfl (by kernel_rfl) (fun K hK => ?_)
                    go_simp
                    refine Calls.mono (rmay7_lit _ _ _ _ _ _ _ _ hok) ?_
                    rintro e wa ⟨rfl, hb⟩
                    have hbA : Below wo.heap.size wo wa := hbD.trans (hb.mono hbD.size)
                    refine hK.out _ _ (fun w' => Below wo.heap.size wo w') (fun _ h => h) hbA (fun hHeld => ?_)
                    clear hK K
                    try simp only [Act.put, lA, lB, lC]
                    refine held_take 5 (v := ?_) rfl (by kernel_rfl) (by kernel_rfl) (by kernel_rfl) (fun _ _ _ h => h) (by rfl) (fun w hS => ?_) (by assumption) ?_; rotate_left
                    · (try dsimp only at hS); go_simp <;> with_reducible rfl
                    try simp only [Act.put, lA, lB, lC]
                    refine held_take 6 (v := ?_) rfl (by kernel_rfl) (by kernel_rfl) (by kernel_rfl) (fun _ _ _ h => h) (by rfl) (fun w hS => ?_) (by assumption) ?_; rotate_left
                    · (try dsimp only at hS); go_simp <;> with_reducible rfl
                    try simp only [Act.put, lA, lB, lC]
                    refine held_take 7 (v := ?_) rfl (by kernel_rfl) (by kernel_rfl) (by kernel_rfl) (fun _ _ _ h => h) (by rfl) (fun w hS => ?_) (by assumption) ?_; rotate_left
                    · (try dsimp only at hS); go_simp <;> with_reducible rfl
                    try simp only [Act.put, lA, lB, lC]
                    refine held_take 8 (v := ?_) rfl (by kernel_rfl) (by kernel_rfl) (by kernel_rfl) (fun _ _ _ h => h) (by rfl) (fun w hS => ?_) (by assumption) ?_; rotate_left
                    · (try dsimp only at hS); go_simp <;> with_reducible rfl
                    try simp only [Act.put, lA, lB, lC]
                    refine held_take 9 (v := ?_) rfl (by kernel_rfl) (by kernel_rfl) (by kernel_rfl) (fun _ _ _ h => h) (by rfl) (fun w hS => ?_) (by assumption) ?_; rotate_left
                    · (try dsimp only at hS); go_simp <;> with_reducible rfl
                    try simp only [Act.put, lA, lB, lC]
                    refine held_take 10 (v := ?_) rfl (by kernel_rfl) (by kernel_rfl) (by kernel_rfl) (fun _ _ _ h => h) (by rfl) (fun w hS => ?_) (by assumption) ?_; rotate_left
                    · (try dsimp only at hS); go_simp <;> with_reducible rfl
                    try simp only [Act.put, lA, lB, lC]
                    refine held_take 11 (v := ?_) rfl (by kernel_rfl) (by kernel_rfl) (by kernel_rfl) (fun _ _ _ h => h) (by rfl) (fun w hS => ?_) (by assumption) ?_; rotate_left
                    · (try dsimp only at hS); go_simp <;> with_reducible rfl
                    try simp only [Act.put, lA, lB, lC]
                    refine held_take 12 (v := ?_) rfl (by kernel_rfl) (by kernel_rfl) (by kernel_rfl) (fun _ _ _ h => h) (by rfl) (fun w hS => ?_) (by assumption) ?_; rotate_left
                    · (try dsimp only at hS); go_simp <;> with_reducible rfl
                    try simp only [Act.put, lA, lB, lC]
                    refine held_take 13 (v := ?_) rfl (by kernel_rfl) (by kernel_rfl) (by kernel_rfl) (fun _ _ _ h => h) (by rfl) (fun w hS => ?_) (by assumption) ?_; rotate_left
                    · (try dsimp only at hS); go_simp <;> with_reducible rfl
                    try simp only [Act.put, lA, lB, lC]
                    refine held_take 14 (v := ?_) rfl (by kernel_rfl) (by kernel_rfl) (by kernel_rfl) (fun _ _ _ h => h) (by rfl) (fun w hS => ?_) (by assumption) ?_; rotate_left
                    · (try dsimp only at hS); go_simp <;> with_reducible rfl
                    try simp only [Act.put, lA, lB, lC]
                    refine held_take 15 (v := ?_) rfl (by kernel_rfl) (by kernel_rfl) (by kernel_rfl) (fun _ _ _ h => h) (by rfl) (fun w hS => ?_) (by assumption) ?_; rotate_left
                    · (try dsimp only at hS); go_simp <;> with_reducible rfl
                    try simp only [Act.put, lA, lB, lC]
                    refine held_take 16 (v := ?_) rfl (by kernel_rfl) (by kernel_rfl) (by kernel_rfl) (fun _ _ _ h => h) (by rfl) (fun w hS => ?_) (by assumption) ?_; rotate_left
                    · (try dsimp only at hS); go_simp <;> with_reducible rfl
                    try simp only [Act.put, lA, lB, lC]
                    refine held_take 17 (v := ?_) rfl (by kernel_rfl) (by kernel_rfl) (by kernel_rfl) (fun _ _ _ h => h) (by rfl) (fun w hS => ?_) (by assumption) ?_; rotate_left
                    · (try dsimp only at hS); go_simp <;> with_reducible rfl
                    try simp only [Act.put, lA, lB, lC]
                    refine held_take 18 (v := ?_) rfl (by kernel_rfl) (by kernel_rfl) (by kernel_rfl) (fun _ _ _ h => h) (by rfl) (fun w hS => ?_) (by assumption) ?_; rotate_left
                    · (try dsimp only at hS); go_simp <;> with_reducible rfl
                    try simp only [Act.put, lA, lB, lC]
                    refine held_take 19 (v := ?_) rfl (by kernel_rfl) (by kernel_rfl) (by kernel_rfl) (fun _ _ _ h => h) (by rfl) (fun w hS => ?_) (by assumption) ?_; rotate_left
                    · (try dsimp only at hS); go_simp <;> with_reducible rfl
                    try simp only [Act.put, lA, lB, lC]
                    refine held_take 20 (v := ?_) rfl (by kernel_rfl) (by kernel_rfl) (by kernel_rfl) (fun _ _ _ h => h) (by rfl) (fun w hS => ?_) (by assumption) ?_; rotate_left
                    · (try dsimp only at hS); go_simp <;> with_reducible rfl
                    try simp only [Act.put, lA, lB, lC]
                    refine held_take 21 (v := ?_) rfl (by kernel_rfl) (by kernel_rfl) (by kernel_rfl) (fun _ _ _ h => h) (by rfl) (fun w hS => ?_) (by assumption) ?_; rotate_left
                    · (try dsimp only at hS); go_simp <;> with_reducible rfl
                    try simp only [Act.put, lA, lB, lC]
                    refine held_take 22 (v := ?_) rfl (by kernel_rfl) (by kernel_rfl) (by kernel_rfl) (fun _ _ _ h => h) (by rfl) (fun w hS => ?_) (by assumption) ?_; rotate_left
                    · (try dsimp only at hS); go_simp <;> with_reducible rfl
                    try simp only [Act.put, lA, lB, lC]
                    refine held_take 23 (v := ?_) rfl (by kernel_rfl) (by kernel_rfl) (by kernel_rfl) (fun _ _ _ h => h) (by rfl) (fun w hS => ?_) (by assumption) ?_; rotate_left
                    · (try dsimp only at hS); go_simp <;> with_reducible rfl
                    try simp only [Act.put, lA, lB, lC]
                    refine held_take 24 (v := ?_) rfl (by kernel_rfl) (by kernel_rfl) (by kernel_rfl) (fun _ _ _ h => h) (by rfl) (fun w hS => ?_) (by assumption) ?_; rotate_left
                    · (try dsimp only at hS); go_simp <;> with_reducible rfl
                    try simp only [Act.put, lA, lB, lC]
                    refine held_take 25 (v := ?_) rfl (by kernel_rfl) (by kernel_rfl) (by kernel_rfl) (fun _ _ _ h => h) (by rfl) (fun w hS => ?_) (by assumption) ?_; rotate_left
                    · (try dsimp only at hS); go_simp <;> with_reducible rfl
                    try simp only [Act.put, lA, lB, lC]
                    refine held_take 26 (v := ?_) rfl (by kernel_rfl) (by kernel_rfl) (by kernel_rfl) (fun _ _ _ h => h) (by rfl) (fun w hS => ?_) (by assumption) ?_; rotate_left
                    · (try dsimp only at hS); go_simp <;> with_reducible rfl
                    try simp only [Act.put, lA, lB, lC]
                    refine held_take 27 (v := ?_) rfl (by kernel_rfl) (by kernel_rfl) (by kernel_rfl) (fun _ _ _ h => h) (by rfl) (fun w hS => ?_) (by assumption) ?_; rotate_left
                    · (try dsimp only at hS); go_simp <;> with_reducible rfl
                    try simp only [Act.put, lA, lB, lC]
                    refine held_take 28 (v := ?_) rfl (by kernel_rfl) (by kernel_rfl) (by kernel_rfl) (fun _ _ _ h => h) (by rfl) (fun w hS => ?_) (by assumption) ?_; rotate_left
                    · (try dsimp only at hS); go_simp <;> with_reducible rfl
                    try simp only [Act.put, lA, lB, lC]
                    refine held_take 29 (v := ?_) rfl (by kernel_rfl) (by kernel_rfl) (by kernel_rfl) (fun _ _ _ h => h) (by rfl) (fun w hS => ?_) (by assumption) ?_; rotate_left
                    · (try dsimp only at hS); go_simp <;> with_reducible rfl
                    try simp only [Act.put, lA, lB, lC]
                    refine held_skip 30 rfl (by kernel_rfl) (by kernel_rfl) (by kernel_rfl) (fun _ _ _ h => h) (by rfl) (by assumption) ?_
                    try simp only [Act.put, lA, lB, lC]
                    refine held_skip 31 rfl (by kernel_rfl) (by kernel_rfl) (by kernel_rfl) (fun _ _ _ h => h) (by rfl) (by assumption) ?_
                    try simp only [Act.put, lA, lB, lC]
                    refine held_skip 32 rfl (by kernel_rfl) (by kernel_rfl) (by kernel_rfl) (fun _ _ _ h => h) (by rfl) (by assumption) ?_
                    try simp only [Act.put, lA, lB, lC]
                    refine held_skip 33 rfl (by kernel_rfl) (by kernel_rfl) (by kernel_rfl) (fun _ _ _ h => h) (by rfl) (by assumption) ?_
                    try simp only [Act.put, lA, lB, lC]
                    refine held_skip 34 rfl (by kernel_rfl) (by kernel_rfl) (by kernel_rfl) (fun _ _ _ h => h) (by rfl) (by assumption) ?_
                    try simp only [Act.put, lA, lB, lC]
                    refine held_skip 35 rfl (by kernel_rfl) (by kernel_rfl) (by kernel_rfl) (fun _ _ _ h => h) (by rfl) (by assumption) ?_
                    try simp only [Act.put, lA, lB, lC]
                    refine held_skip 36 rfl (by kernel_rfl) (by kernel_rfl) (by kernel_rfl) (fun _ _ _ h => h) (by rfl) (by assumption) ?_
                    try simp only [Act.put, lA, lB, lC]
                    refine held_skip 37 rfl (by kernel_rfl) (by kernel_rfl) (by kernel_rfl) (fun _ _ _ h => h) (by rfl) (by assumption) ?_
                    try simp only [Act.put, lA, lB, lC]
                    refine held_skip 38 rfl (by kernel_rfl) (by kernel_rfl) (by kernel_rfl) (fun _ _ _ h => h) (by rfl) (by assumption) ?_
                    try simp only [Act.put, lA, lB, lC]
                    refine held_skip 39 rfl (by kernel_rfl) (by kernel_rfl) (by kernel_rfl) (fun _ _ _ h => h) (by rfl) (by assumption) ?_
                    try simp only [Act.put, lA, lB, lC]
                    refine held_skip 40 rfl (by kernel_rfl) (by kernel_rfl) (by kernel_rfl) (fun _ _ _ h => h) (by rfl) (by assumption) ?_
                    try simp only [Act.put, lA, lB, lC]
                    refine held_skip 41 rfl (by kernel_rfl) (by kernel_rfl) (by kernel_rfl) (fun _ _ _ h => h) (by rfl) (by assumption) ?_
                    try simp only [Act.put, lA, lB, lC]
                    refine held_skip 42 rfl (by kernel_rfl) (by kernel_rfl) (by kernel_rfl) (fun _ _ _ h => h) (by rfl) (by assumption) ?_
                    try simp only [Act.put, lA, lB, lC]
                    refine held_skip 43 rfl (by kernel_rfl) (by kernel_rfl) (by kernel_rfl) (fun _ _ _ h => h) (by rfl) (by assumption) ?_
                    try simp only [Act.put, lA, lB, lC]
                    refine held_skip 44 rfl (by kernel_rfl) (by kernel_rfl) (by kernel_rfl) (fun _ _ _ h => h) (by rfl) (by assumption) ?_
                    try simp only [Act.put, lA, lB, lC]
                    refine held_skip 45 rfl (by kernel_rfl) (by kernel_rfl) (by kernel_rfl) (fun _ _ _ h => h) (by rfl) (by assumption) ?_
                    try simp only [Act.put, lA, lB, lC]
                    refine held_skip 46 rfl (by kernel_rfl) (by kernel_rfl) (by kernel_rfl) (fun _ _ _ h => h) (by rfl) (by assumption) ?_
                    try simp only [Act.put, lA, lB, lC]
                    refine held_skip 47 rfl (by kernel_rfl) (by kernel_rfl) (by kernel_rfl) (fun _ _ _ h => h) (by rfl) (by assumption) ?_
                    try simp only [Act.put, lA, lB, lC]
                    refine held_skip 48 rfl (by kernel_rfl) (by kernel_rfl) (by kernel_rfl) (fun _ _ _ h => h) (by rfl) (by assumption) ?_
                    try simp only [Act.put, lA, lB, lC]
                    refine held_skip 49 rfl (by kernel_rfl) (by kernel_rfl) (by kernel_rfl) (fun _ _ _ h => h) (by rfl) (by assumption) ?_
                    try simp only [Act.put, lA, lB, lC]
                    refine held_skip 50 rfl (by kernel_rfl) (by kernel_rfl) (by kernel_rfl) (fun _ _ _ h => h) (by rfl) (by assumption) ?_
                    try simp only [Act.put, lA, lB, lC]
                    refine held_skip 51 rfl (by kernel_rfl) (by kernel_rfl) (by kernel_rfl) (fun _ _ _ h => h) (by rfl) (by assumption) ?_
                    try simp only [Act.put, lA, lB, lC]
                    refine held_skip 52 rfl (by kernel_rfl) (by kernel_rfl) (by kernel_rfl) (fun _ _ _ h => h) (by rfl) (by assumption) ?_
                    try simp only [Act.put, lA, lB, lC]
                    refine held_skip 53 rfl (by kernel_rfl) (by kernel_rfl) (by kernel_rfl) (fun _ _ _ h => h) (by rfl) (by assumption) ?_
                    try simp only [Act.put, lA, lB, lC]
                    refine held_take 54 (v := ?_) rfl (by kernel_rfl) (by kernel_rfl) (by kernel_rfl) (fun _ _ _ h => h) (by rfl) (fun w hS => ?_) (by assumption) ?_; rotate_left
                    · (try dsimp only at hS); go_simp <;> with_reducible rfl
                    try simp only [Act.put, lA, lB, lC]
                    refine held_take 55 (v := ?_) rfl (by kernel_rfl) (by kernel_rfl) (by kernel_rfl) (fun _ _ _ h => h) (by rfl) (fun w hS => ?_) (by assumption) ?_; rotate_left
                    · (try dsimp only at hS); go_simp <;> with_reducible rfl
                    try simp only [Act.put, lA, lB, lC]
                    refine held_done (by kernel_rfl) ?_
                    go_wp2
                    go_roundw
                    case rel => exact ⟨k + 1, (k : Int), _, by omega, by go_num, rfl, rfl, HP2, HM2, by omega, by omega, Lib.hid (HB.out.trans (hbA.mono hbo))⟩
                    case measure => simp [intOf]; omega
                  · cases he : (zw == y.worn) with
                    | false =>
                      have HP2 := Lib.hid (pick_keep hbest hj hy HX.out (by have : ¬ zw = y.worn := (by simpa using he); simp [aheadO, hw, this]))
                      clear hbest hy hem
                      refine wp_region_held_drew (S := (fun w' => Below wo.heap.size wo w')) (by kernel_rfl) (hbD) (fun hHeld => ?_)
                      refine held_take 0 (v := ?_) rfl (by kernel_rfl) (by kernel_rfl) (by kernel_rfl) (fun _ _ _ h => h) (by rfl) (fun w hS => ?_) (by assumption) ?_; rotate_left
                      · (try dsimp only at hS); go_simp <;> with_reducible rfl
                      try simp only [Act.put, lA, lB, lC]
                      refine held_take 1 (v := ?_) rfl (by kernel_rfl) (by kernel_rfl) (by kernel_rfl) (fun _ _ _ h => h) (by rfl) (fun w hS => ?_) (by assumption) ?_; rotate_left
                      · (try dsimp only at hS); go_simp <;> with_reducible rfl
                      try simp only [Act.put, lA, lB, lC]
                      refine held_take 2 (v := ?_) rfl (by kernel_rfl) (by kernel_rfl) (by kernel_rfl) (fun _ _ _ h => h) (by rfl) (fun w hS => ?_) (by assumption) ?_; rotate_left
                      · (try dsimp only at hS); go_simp <;> with_reducible rfl
                      try simp only [Act.put, lA, lB, lC]
                      refine held_take 3 (v := ?_) rfl (by kernel_rfl) (by kernel_rfl) (by kernel_rfl) (fun _ _ _ h => h) (by rfl) (fun w hS => ?_) (by assumption) ?_; rotate_left
                      · (try dsimp only at hS); go_simp <;> with_reducible rfl
                      try simp only [Act.put, lA, lB, lC]
                      refine held_one 4 rfl (by kernel_rfl) (fun K hK => ?_)
                      go_simp
                      refine Calls.mono (rmay7_lit _ _ _ _ _ _ _ _ hok) ?_
                      rintro e wa ⟨rfl, hb⟩
                      have hbA : Below wo.heap.size wo wa := hbD.trans (hb.mono hbD.size)
                      refine hK.out _ _ (fun w' => Below wo.heap.size wo w') (fun _ h => h) hbA (fun hHeld => ?_)
                      clear hK K
                      try simp only [Act.put, lA, lB, lC]
                      refine held_take 5 (v := ?_) rfl (by kernel_rfl) (by kernel_rfl) (by kernel_rfl) (fun _ _ _ h => h) (by rfl) (fun w hS => ?_) (by assumption) ?_; rotate_left
                      · (try dsimp only at hS); go_simp <;> with_reducible rfl
                      try simp only [Act.put, lA, lB, lC]
                      refine held_take 6 (v := ?_) rfl (by kernel_rfl) (by kernel_rfl) (by kernel_rfl) (fun _ _ _ h => h) (by rfl) (fun w hS => ?_) (by assumption) ?_; rotate_left
                      · (try dsimp only at hS); go_simp <;> with_reducible rfl
                      try simp only [Act.put, lA, lB, lC]
                      refine held_take 7 (v := ?_) rfl (by kernel_rfl) (by kernel_rfl) (by kernel_rfl) (fun _ _ _ h => h) (by rfl) (fun w hS => ?_) (by assumption) ?_; rotate_left
                      · (try dsimp only at hS); go_simp <;> with_reducible rfl
                      try simp only [Act.put, lA, lB, lC]
                      refine held_take 8 (v := ?_) rfl (by kernel_rfl) (by kernel_rfl) (by kernel_rfl) (fun _ _ _ h => h) (by rfl) (fun w hS => ?_) (by assumption) ?_; rotate_left
                      · (try dsimp only at hS); go_simp <;> with_reducible rfl
                      try simp only [Act.put, lA, lB, lC]
                      refine held_take 9 (v := ?_) rfl (by kernel_rfl) (by kernel_rfl) (by kernel_rfl) (fun _ _ _ h => h) (by rfl) (fun w hS => ?_) (by assumption) ?_; rotate_left
                      · (try dsimp only at hS); go_simp <;> with_reducible rfl
                      try simp only [Act.put, lA, lB, lC]
                      refine held_take 10 (v := ?_) rfl (by kernel_rfl) (by kernel_rfl) (by kernel_rfl) (fun _ _ _ h => h) (by rfl) (fun w hS => ?_) (by assumption) ?_; rotate_left
                      · (try dsimp only at hS); go_simp <;> with_reducible rfl
                      try simp only [Act.put, lA, lB, lC]
                      refine held_take 11 (v := ?_) rfl (by kernel_rfl) (by kernel_rfl) (by kernel_rfl) (fun _ _ _ h => h) (by rfl) (fun w hS => ?_) (by assumption) ?_; rotate_left
                      · (try dsimp only at hS); go_simp <;> with_reducible rfl
                      try simp only [Act.put, lA, lB, lC]
                      refine held_take 12 (v := ?_) rfl (by kernel_rfl) (by kernel_rfl) (by kernel_rfl) (fun _ _ _ h => h) (by rfl) (fun w hS => ?_) (by assumption) ?_; rotate_left
                      · (try dsimp only at hS); go_simp <;> with_reducible rfl
                      try simp only [Act.put, lA, lB, lC]
                      refine held_take 13 (v := ?_) rfl (by kernel_rfl) (by kernel_rfl) (by kernel_rfl) (fun _ _ _ h => h) (by rfl) (fun w hS => ?_) (by assumption) ?_; rotate_left
                      · (try dsimp only at hS); go_simp <;> with_reducible rfl
                      try simp only [Act.put, lA, lB, lC]
                      refine held_take 14 (v := ?_) rfl (by kernel_rfl) (by kernel_rfl) (by kernel_rfl) (fun _ _ _ h => h) (by rfl) (fun w hS => ?_) (by assumption) ?_; rotate_left
                      · (try dsimp only at hS); go_simp <;> with_reducible rfl
                      try simp only [Act.put, lA, lB, lC]
                      refine held_take 15 (v := ?_) rfl (by kernel_rfl) (by kernel_rfl) (by kernel_rfl) (fun _ _ _ h => h) (by rfl) (fun w hS => ?_) (by assumption) ?_; rotate_left
                      · (try dsimp only at hS); go_simp <;> with_reducible rfl
                      try simp only [Act.put, lA, lB, lC]
                      refine held_take 16 (v := ?_) rfl (by kernel_rfl) (by kernel_rfl) (by kernel_rfl) (fun _ _ _ h => h) (by rfl) (fun w hS => ?_) (by assumption) ?_; rotate_left
                      · (try dsimp only at hS); go_simp <;> with_reducible rfl
                      try simp only [Act.put, lA, lB, lC]
                      refine held_take 17 (v := ?_) rfl (by kernel_rfl) (by kernel_rfl) (by kernel_rfl) (fun _ _ _ h => h) (by rfl) (fun w hS => ?_) (by assumption) ?_; rotate_left
                      · (try dsimp only at hS); go_simp <;> with_reducible rfl
                      try simp only [Act.put, lA, lB, lC]
                      refine held_take 18 (v := ?_) rfl (by kernel_rfl) (by kernel_rfl) (by kernel_rfl) (fun _ _ _ h => h) (by rfl) (fun w hS => ?_) (by assumption) ?_; rotate_left
                      · (try dsimp only at hS); go_simp <;> with_reducible rfl
                      try simp only [Act.put, lA, lB, lC]
                      refine held_take 19 (v := ?_) rfl (by kernel_rfl) (by kernel_rfl) (by kernel_rfl) (fun _ _ _ h => h) (by rfl) (fun w hS => ?_) (by assumption) ?_; rotate_left
                      · (try dsimp only at hS); go_simp <;> with_reducible rfl
                      try simp only [Act.put, lA, lB, lC]
                      refine held_take 20 (v := ?_) rfl (by kernel_rfl) (by kernel_rfl) (by kernel_rfl) (fun _ _ _ h => h) (by rfl) (fun w hS => ?_) (by assumption) ?_; rotate_left
                      · (try dsimp only at hS); go_simp <;> with_reducible rfl
                      try simp only [Act.put, lA, lB, lC]
                      refine held_take 21 (v := ?_) rfl (by kernel_rfl) (by kernel_rfl) (by kernel_rfl) (fun _ _ _ h => h) (by rfl) (fun w hS => ?_) (by assumption) ?_; rotate_left
                      · (try dsimp only at hS); go_simp <;> with_reducible rfl
                      try simp only [Act.put, lA, lB, lC]
                      refine held_take 22 (v := ?_) rfl (by kernel_rfl) (by kernel_rfl) (by kernel_rfl) (fun _ _ _ h => h) (by rfl) (fun w hS => ?_) (by assumption) ?_; rotate_left
                      · (try dsimp only at hS); go_simp <;> with_reducible rfl
                      try simp only [Act.put, lA, lB, lC]
                      refine held_take 23 (v := ?_) rfl (by kernel_rfl) (by kernel_rfl) (by kernel_rfl) (fun _ _ _ h => h) (by rfl) (fun w hS => ?_) (by assumption) ?_; rotate_left
                      · (try dsimp only at hS); go_simp <;> with_reducible rfl
                      try simp only [Act.put, lA, lB, lC]
                      refine held_take 24 (v := ?_) rfl (by kernel_rfl) (by kernel_rfl) (by kernel_rfl) (fun _ _ _ h => h) (by rfl) (fun w hS => ?_) (by assumption) ?_; rotate_left
                      · (try dsimp only at hS); go_simp <;> with_reducible rfl
                      try simp only [Act.put, lA, lB, lC]
                      refine held_take 25 (v := ?_) rfl (by kernel_rfl) (by kernel_rfl) (by kernel_rfl) (fun _ _ _ h => h) (by rfl) (fun w hS => ?_) (by assumption) ?_; rotate_left
                      · (try dsimp only at hS); go_simp <;> with_reducible rfl
                      try simp only [Act.put, lA, lB, lC]
                      refine held_take 26 (v := ?_) rfl (by kernel_rfl) (by kernel_rfl) (by kernel_rfl) (fun _ _ _ h => h) (by rfl) (fun w hS => ?_) (by assumption) ?_; rotate_left
                      · (try dsimp only at hS); go_simp <;> with_reducible rfl
                      try simp only [Act.put, lA, lB, lC]
                      refine held_take 27 (v := ?_) rfl (by kernel_rfl) (by kernel_rfl) (by kernel_rfl) (fun _ _ _ h => h) (by rfl) (fun w hS => ?_) (by assumption) ?_; rotate_left
                      · (try dsimp only at hS); go_simp <;> with_reducible rfl
                      try simp only [Act.put, lA, lB, lC]
                      refine held_take 28 (v := ?_) rfl (by kernel_rfl) (by kernel_rfl) (by kernel_rfl) (fun _ _ _ h => h) (by rfl) (fun w hS => ?_) (by assumption) ?_; rotate_left
                      · (try dsimp only at hS); go_simp <;> with_reducible rfl
                      try simp only [Act.put, lA, lB, lC]
                      refine held_take 29 (v := ?_) rfl (by kernel_rfl) (by kernel_rfl) (by kernel_rfl) (fun _ _ _ h => h) (by rfl) (fun w hS => ?_) (by assumption) ?_; rotate_left
                      · (try dsimp only at hS); go_simp <;> with_reducible rfl
                      try simp only [Act.put, lA, lB, lC]
                      refine held_take 30 (v := ?_) rfl (by kernel_rfl) (by kernel_rfl) (by kernel_rfl) (fun _ _ _ h => h) (by rfl) (fun w hS => ?_) (by assumption) ?_; rotate_left
                      · (try dsimp only at hS); go_simp <;> with_reducible rfl
                      try simp only [Act.put, lA, lB, lC]
                      refine held_take 31 (v := ?_) rfl (by kernel_rfl) (by kernel_rfl) (by kernel_rfl) (fun _ _ _ h => h) (by rfl) (fun w hS => ?_) (by assumption) ?_; rotate_left
                      · (try dsimp only at hS); go_simp <;> with_reducible rfl
                      try simp only [Act.put, lA, lB, lC]
                      refine held_take 32 (v := ?_) rfl (by kernel_rfl) (by kernel_rfl) (by kernel_rfl) (fun _ _ _ h => h) (by rfl) (fun w hS => ?_) (by assumption) ?_; rotate_left
                      · (try dsimp only at hS); go_simp <;> with_reducible rfl
                      try simp only [Act.put, lA, lB, lC]
                      refine held_take 33 (v := ?_) rfl (by kernel_rfl) (by kernel_rfl) (by kernel_rfl) (fun _ _ _ h => h) (by rfl) (fun w hS => ?_) (by assumption) ?_; rotate_left
                      · (try dsimp only at hS); go_simp <;> with_reducible rfl
                      try simp only [Act.put, lA, lB, lC]
                      refine held_take 34 (v := ?_) rfl (by kernel_rfl) (by kernel_rfl) (by kernel_rfl) (fun _ _ _ h => h) (by rfl) (fun w hS => ?_) (by assumption) ?_; rotate_left
                      · (try dsimp only at hS); go_simp <;> with_reducible rfl
                      try simp only [Act.put, lA, lB, lC]
                      refine held_take 35 (v := ?_) rfl (by kernel_rfl) (by kernel_rfl) (by kernel_rfl) (fun _ _ _ h => h) (by rfl) (fun w hS => ?_) (by assumption) ?_; rotate_left
                      · (try dsimp only at hS); go_simp <;> with_reducible rfl
                      try simp only [Act.put, lA, lB, lC]
                      refine held_take 36 (v := ?_) rfl (by kernel_rfl) (by kernel_rfl) (by kernel_rfl) (fun _ _ _ h => h) (by rfl) (fun w hS => ?_) (by assumption) ?_; rotate_left
                      · (try dsimp only at hS); go_simp <;> with_reducible rfl
                      try simp only [Act.put, lA, lB, lC]
                      refine held_take 37 (v := ?_) rfl (by kernel_rfl) (by kernel_rfl) (by kernel_rfl) (fun _ _ _ h => h) (by rfl) (fun w hS => ?_) (by assumption) ?_; rotate_left
                      · (try dsimp only at hS); go_simp <;> with_reducible rfl
                      try simp only [Act.put, lA, lB, lC]
                      refine held_take 38 (v := ?_) rfl (by kernel_rfl) (by kernel_rfl) (by kernel_rfl) (fun _ _ _ h => h) (by rfl) (fun w hS => ?_) (by assumption) ?_; rotate_left
                      · (try dsimp only at hS); go_simp <;> with_reducible rfl
                      try simp only [Act.put, lA, lB, lC]
                      refine held_take 39 (v := ?_) rfl (by kernel_rfl) (by kernel_rfl) (by kernel_rfl) (fun _ _ _ h => h) (by rfl) (fun w hS => ?_) (by assumption) ?_; rotate_left
                      · (try dsimp only at hS); go_simp <;> with_reducible rfl
                      try simp only [Act.put, lA, lB, lC]
                      refine held_take 40 (v := ?_) rfl (by kernel_rfl) (by kernel_rfl) (by kernel_rfl) (fun _ _ _ h => h) (by rfl) (fun w hS => ?_) (by assumption) ?_; rotate_left
                      · (try dsimp only at hS); go_simp <;> with_reducible rfl
                      try simp only [Act.put, lA, lB, lC]
                      refine held_take 41 (v := ?_) rfl (by kernel_rfl) (by kernel_rfl) (by kernel_rfl) (fun _ _ _ h => h) (by rfl) (fun w hS => ?_) (by assumption) ?_; rotate_left
                      · (try dsimp only at hS); go_simp <;> with_reducible rfl
                      try simp only [Act.put, lA, lB, lC]
                      refine held_skip 42 rfl (by kernel_rfl) (by kernel_rfl) (by kernel_rfl) (fun _ _ _ h => h) (by rfl) (by assumption) ?_
                      try simp only [Act.put, lA, lB, lC]
                      refine held_skip 43 rfl (by kernel_rfl) (by kernel_rfl) (by kernel_rfl) (fun _ _ _ h => h) (by rfl) (by assumption) ?_
                      try simp only [Act.put, lA, lB, lC]
                      refine held_skip 44 rfl (by kernel_rfl) (by kernel_rfl) (by kernel_rfl) (fun _ _ _ h => h) (by rfl) (by assumption) ?_
                      try simp only [Act.put, lA, lB, lC]
                      refine held_skip 45 rfl (by kernel_rfl) (by kernel_rfl) (by kernel_rfl) (fun _ _ _ h => h) (by rfl) (by assumption) ?_
                      try simp only [Act.put, lA, lB, lC]
                      refine held_skip 46 rfl (by kernel_rfl) (by kernel_rfl) (by kernel_rfl) (fun _ _ _ h => h) (by rfl) (by assumption) ?_
                      try simp only [Act.put, lA, lB, lC]
                      refine held_skip 47 rfl (by kernel_rfl) (by kernel_rfl) (by kernel_rfl) (fun _ _ _ h => h) (by rfl) (by assumption) ?_
                      try simp only [Act.put, lA, lB, lC]
                      refine held_skip 48 rfl (by kernel_rfl) (by kernel_rfl) (by kernel_rfl) (fun _ _ _ h => h) (by rfl) (by assumption) ?_
                      try simp only [Act.put, lA, lB, lC]
                      refine held_skip 49 rfl (by kernel_rfl) (by kernel_rfl) (by kernel_rfl) (fun _ _ _ h => h) (by rfl) (by assumption) ?_
                      try simp only [Act.put, lA, lB, lC]
                      refine held_skip 50 rfl (by kernel_rfl) (by kernel_rfl) (by kernel_rfl) (fun _ _ _ h => h) (by rfl) (by assumption) ?_
                      try simp only [Act.put, lA, lB, lC]
                      refine held_skip 51 rfl (by kernel_rfl) (by kernel_rfl) (by kernel_rfl) (fun _ _ _ h => h) (by rfl) (by assumption) ?_
                      try simp only [Act.put, lA, lB, lC]
                      refine held_skip 52 rfl (by kernel_rfl) (by kernel_rfl) (by kernel_rfl) (fun _ _ _ h => h) (by rfl) (by assumption) ?_
                      try simp only [Act.put, lA, lB, lC]
                      refine held_take 53 (v := ?_) rfl (by kernel_rfl) (by kernel_rfl) (by kernel_rfl) (fun _ _ _ h => h) (by rfl) (fun w hS => ?_) (by assumption) ?_; rotate_left
                      · (try dsimp only at hS); go_simp <;> with_reducible rfl
                      try simp only [Act.put, lA, lB, lC]
                      refine held_take 54 (v := ?_) rfl (by kernel_rfl) (by kernel_rfl) (by kernel_rfl) (fun _ _ _ h => h) (by rfl) (fun w hS => ?_) (by assumption) ?_; rotate_left
                      · (try dsimp only at hS); go_simp <;> with_reducible rfl
                      try simp only [Act.put, lA, lB, lC]
                      refine held_take 55 (v := ?_) rfl (by kernel_rfl) (by kernel_rfl) (by kernel_rfl) (fun _ _ _ h => h) (by rfl) (fun w hS => ?_) (by assumption) ?_; rotate_left
                      · (try dsimp only at hS); go_simp <;> with_reducible rfl
                      try simp only [Act.put, lA, lB, lC]
                      refine held_done (by kernel_rfl) ?_
                      go_wp2
                      go_roundw
                      case rel => exact ⟨k + 1, (j : Int), _, by omega, by go_num, rfl, rfl, HP2, HM2, by omega, by omega, Lib.hid (HB.out.trans (hbA.mono hbo))⟩
                      case measure => simp [intOf]; omega
                    | true =>
                      by_cases hn : zn < y.n
                      · have HP2 := Lib.hid (pick_better hbest HX.out hem (by have : zw = y.worn := (by simpa using he); simp [aheadO, this, hn]))
                        clear hbest hy hem
                        refine wp_region_held_drew (S := (fun w' => Below wo.heap.size wo w')) (by kernel_rfl) (hbD) (fun hHeld => ?_)
                        refine held_take 0 (v := ?_) rfl (by kernel_rfl) (by kernel_rfl) (by kernel_rfl) (fun _ _ _ h => h) (by rfl) (fun w hS => ?_) (by assumption) ?_; rotate_left
                        · (try dsimp only at hS); go_simp <;> with_reducible rfl
                        try simp only [Act.put, lA, lB, lC]
                        refine held_take 1 (v := ?_) rfl (by kernel_rfl) (by kernel_rfl) (by kernel_rfl) (fun _ _ _ h => h) (by rfl) (fun w hS => ?_) (by assumption) ?_; rotate_left
                        · (try dsimp only at hS); go_simp <;> with_reducible rfl
                        try simp only [Act.put, lA, lB, lC]
                        refine held_take 2 (v := ?_) rfl (by kernel_rfl) (by kernel_rfl) (by kernel_rfl) (fun _ _ _ h => h) (by rfl) (fun w hS => ?_) (by assumption) ?_; rotate_left
                        · (try dsimp only at hS); go_simp <;> with_reducible rfl
                        try simp only [Act.put, lA, lB, lC]
                        refine held_take 3 (v := ?_) rfl (by kernel_rfl) (by kernel_rfl) (by kernel_rfl) (fun _ _ _ h => h) (by rfl) (fun w hS => ?_) (by assumption) ?_; rotate_left
                        · (try dsimp only at hS); go_simp <;> with_reducible rfl
                        try simp only [Act.put, lA, lB, lC]
                        refine held_one 4 rfl (by kernel_rfl) (fun K hK => ?_)
                        go_simp
                        refine Calls.mono (rmay7_lit _ _ _ _ _ _ _ _ hok) ?_
                        rintro e wa ⟨rfl, hb⟩
                        have hbA : Below wo.heap.size wo wa := hbD.trans (hb.mono hbD.size)
                        refine hK.out _ _ (fun w' => Below wo.heap.size wo w') (fun _ h => h) hbA (fun hHeld => ?_)
                        clear hK K
                        try simp only [Act.put, lA, lB, lC]
                        refine held_take 5 (v := ?_) rfl (by kernel_rfl) (by kernel_rfl) (by kernel_rfl) (fun _ _ _ h => h) (by rfl) (fun w hS => ?_) (by assumption) ?_; rotate_left
                        · (try dsimp only at hS); go_simp <;> with_reducible rfl
                        try simp only [Act.put, lA, lB, lC]
                        refine held_take 6 (v := ?_) rfl (by kernel_rfl) (by kernel_rfl) (by kernel_rfl) (fun _ _ _ h => h) (by rfl) (fun w hS => ?_) (by assumption) ?_; rotate_left
                        · (try dsimp only at hS); go_simp <;> with_reducible rfl
                        try simp only [Act.put, lA, lB, lC]
                        refine held_take 7 (v := ?_) rfl (by kernel_rfl) (by kernel_rfl) (by kernel_rfl) (fun _ _ _ h => h) (by rfl) (fun w hS => ?_) (by assumption) ?_; rotate_left
                        · (try dsimp only at hS); go_simp <;> with_reducible rfl
                        try simp only [Act.put, lA, lB, lC]
                        refine held_take 8 (v := ?_) rfl (by kernel_rfl) (by kernel_rfl) (by kernel_rfl) (fun _ _ _ h => h) (by rfl) (fun w hS => ?_) (by assumption) ?_; rotate_left
                        · (try dsimp only at hS); go_simp <;> with_reducible rfl
                        try simp only [Act.put, lA, lB, lC]
                        refine held_take 9 (v := ?_) rfl (by kernel_rfl) (by kernel_rfl) (by kernel_rfl) (fun _ _ _ h => h) (by rfl) (fun w hS => ?_) (by assumption) ?_; rotate_left
                        · (try dsimp only at hS); go_simp <;> with_reducible rfl
                        try simp only [Act.put, lA, lB, lC]
                        refine held_take 10 (v := ?_) rfl (by kernel_rfl) (by kernel_rfl) (by kernel_rfl) (fun _ _ _ h => h) (by rfl) (fun w hS => ?_) (by assumption) ?_; rotate_left
                        · (try dsimp only at hS); go_simp <;> with_reducible rfl
                        try simp only [Act.put, lA, lB, lC]
                        refine held_take 11 (v := ?_) rfl (by kernel_rfl) (by kernel_rfl) (by kernel_rfl) (fun _ _ _ h => h) (by rfl) (fun w hS => ?_) (by assumption) ?_; rotate_left
                        · (try dsimp only at hS); go_simp <;> with_reducible rfl
                        try simp only [Act.put, lA, lB, lC]
                        refine held_take 12 (v := ?_) rfl (by kernel_rfl) (by kernel_rfl) (by kernel_rfl) (fun _ _ _ h => h) (by rfl) (fun w hS => ?_) (by assumption) ?_; rotate_left
                        · (try dsimp only at hS); go_simp <;> with_reducible rfl
                        try simp only [Act.put, lA, lB, lC]
                        refine held_take 13 (v := ?_) rfl (by kernel_rfl) (by kernel_rfl) (by kernel_rfl) (fun _ _ _ h => h) (by rfl) (fun w hS => ?_) (by assumption) ?_; rotate_left
                        · (try dsimp only at hS); go_simp <;> with_reducible rfl
                        try simp only [Act.put, lA, lB, lC]
                        refine held_take 14 (v := ?_) rfl (by kernel_rfl) (by kernel_rfl) (by kernel_rfl) (fun _ _ _ h => h) (by rfl) (fun w hS => ?_) (by assumption) ?_; rotate_left
                        · (try dsimp only at hS); go_simp <;> with_reducible rfl
                        try simp only [Act.put, lA, lB, lC]
                        refine held_take 15 (v := ?_) rfl (by kernel_rfl) (by kernel_rfl) (by kernel_rfl) (fun _ _ _ h => h) (by rfl) (fun w hS => ?_) (by assumption) ?_; rotate_left
                        · (try dsimp only at hS); go_simp <;> with_reducible rfl
                        try simp only [Act.put, lA, lB, lC]
                        refine held_take 16 (v := ?_) rfl (by kernel_rfl) (by kernel_rfl) (by kernel_rfl) (fun _ _ _ h => h) (by rfl) (fun w hS => ?_) (by assumption) ?_; rotate_left
                        · (try dsimp only at hS); go_simp <;> with_reducible rfl
                        try simp only [Act.put, lA, lB, lC]
                        refine held_take 17 (v := ?_) rfl (by kernel_rfl) (by kernel_rfl) (by kernel_rfl) (fun _ _ _ h => h) (by rfl) (fun w hS => ?_) (by assumption) ?_; rotate_left
                        · (try dsimp only at hS); go_simp <;> with_reducible rfl
                        try simp only [Act.put, lA, lB, lC]
                        refine held_take 18 (v := ?_) rfl (by kernel_rfl) (by kernel_rfl) (by kernel_rfl) (fun _ _ _ h => h) (by rfl) (fun w hS => ?_) (by assumption) ?_; rotate_left
                        · (try dsimp only at hS); go_simp <;> with_reducible rfl
                        try simp only [Act.put, lA, lB, lC]
                        refine held_take 19 (v := ?_) rfl (by kernel_rfl) (by kernel_rfl) (by kernel_rfl) (fun _ _ _ h => h) (by rfl) (fun w hS => ?_) (by assumption) ?_; rotate_left
                        · (try dsimp only at hS); go_simp <;> with_reducible rfl
                        try simp only [Act.put, lA, lB, lC]
                        refine held_take 20 (v := ?_) rfl (by kernel_rfl) (by kernel_rfl) (by kernel_rfl) (fun _ _ _ h => h) (by rfl) (fun w hS => ?_) (by assumption) ?_; rotate_left
                        · (try dsimp only at hS); go_simp <;> with_reducible rfl
                        try simp only [Act.put, lA, lB, lC]
                        refine held_take 21 (v := ?_) rfl (by kernel_rfl) (by kernel_rfl) (by kernel_rfl) (fun _ _ _ h => h) (by rfl) (fun w hS => ?_) (by assumption) ?_; rotate_left
                        · (try dsimp only at hS); go_simp <;> with_reducible rfl
                        try simp only [Act.put, lA, lB, lC]
                        refine held_take 22 (v := ?_) rfl (by kernel_rfl) (by kernel_rfl) (by kernel_rfl) (fun _ _ _ h => h) (by rfl) (fun w hS => ?_) (by assumption) ?_; rotate_left
                        · (try dsimp only at hS); go_simp <;> with_reducible rfl
                        try simp only [Act.put, lA, lB, lC]
                        refine held_take 23 (v := ?_) rfl (by kernel_rfl) (by kernel_rfl) (by kernel_rfl) (fun _ _ _ h => h) (by rfl) (fun w hS => ?_) (by assumption) ?_; rotate_left
                        · (try dsimp only at hS); go_simp <;> with_reducible rfl
                        try simp only [Act.put, lA, lB, lC]
                        refine held_take 24 (v := ?_) rfl (by kernel_rfl) (by kernel_rfl) (by kernel_rfl) (fun _ _ _ h => h) (by rfl) (fun w hS => ?_) (by assumption) ?_; rotate_left
                        · (try dsimp only at hS); go_simp <;> with_reducible rfl
                        try simp only [Act.put, lA, lB, lC]
                        refine held_take 25 (v := ?_) rfl (by kernel_rfl) (by kernel_rfl) (by kernel_rfl) (fun _ _ _ h => h) (by rfl) (fun w hS => ?_) (by assumption) ?_; rotate_left
                        · (try dsimp only at hS); go_simp <;> with_reducible rfl
                        try simp only [Act.put, lA, lB, lC]
                        refine held_take 26 (v := ?_) rfl (by kernel_rfl) (by kernel_rfl) (by kernel_rfl) (fun _ _ _ h => h) (by rfl) (fun w hS => ?_) (by assumption) ?_; rotate_left
                        · (try dsimp only at hS); go_simp <;> with_reducible rfl
                        try simp only [Act.put, lA, lB, lC]
                        refine held_take 27 (v := ?_) rfl (by kernel_rfl) (by kernel_rfl) (by kernel_rfl) (fun _ _ _ h => h) (by rfl) (fun w hS => ?_) (by assumption) ?_; rotate_left
                        · (try dsimp only at hS); go_simp <;> with_reducible rfl
                        try simp only [Act.put, lA, lB, lC]
                        refine held_take 28 (v := ?_) rfl (by kernel_rfl) (by kernel_rfl) (by kernel_rfl) (fun _ _ _ h => h) (by rfl) (fun w hS => ?_) (by assumption) ?_; rotate_left
                        · (try dsimp only at hS); go_simp <;> with_reducible rfl
                        try simp only [Act.put, lA, lB, lC]
                        refine held_take 29 (v := ?_) rfl (by kernel_rfl) (by kernel_rfl) (by kernel_rfl) (fun _ _ _ h => h) (by rfl) (fun w hS => ?_) (by assumption) ?_; rotate_left
                        · (try dsimp only at hS); go_simp <;> with_reducible rfl
                        try simp only [Act.put, lA, lB, lC]
                        refine held_take 30 (v := ?_) rfl (by kernel_rfl) (by kernel_rfl) (by kernel_rfl) (fun _ _ _ h => h) (by rfl) (fun w hS => ?_) (by assumption) ?_; rotate_left
                        · (try dsimp only at hS); go_simp <;> with_reducible rfl
                        try simp only [Act.put, lA, lB, lC]
                        refine held_take 31 (v := ?_) rfl (by kernel_rfl) (by kernel_rfl) (by kernel_rfl) (fun _ _ _ h => h) (by rfl) (fun w hS => ?_) (by assumption) ?_; rotate_left
                        · (try dsimp only at hS); go_simp <;> with_reducible rfl
                        try simp only [Act.put, lA, lB, lC]
                        refine held_take 32 (v := ?_) rfl (by kernel_rfl) (by kernel_rfl) (by kernel_rfl) (fun _ _ _ h => h) (by rfl) (fun w hS => ?_) (by assumption) ?_; rotate_left
                        · (try dsimp only at hS); go_simp <;> with_reducible rfl
                        try simp only [Act.put, lA, lB, lC]
                        refine held_take 33 (v := ?_) rfl (by kernel_rfl) (by kernel_rfl) (by kernel_rfl) (fun _ _ _ h => h) (by rfl) (fun w hS => ?_) (by assumption) ?_; rotate_left
                        · (try dsimp only at hS); go_simp <;> with_reducible rfl
                        try simp only [Act.put, lA, lB, lC]
                        refine held_take 34 (v := ?_) rfl (by kernel_rfl) (by kernel_rfl) (by kernel_rfl) (fun _ _ _ h => h) (by rfl) (fun w hS => ?_) (by assumption) ?_; rotate_left
                        · (try dsimp only at hS); go_simp <;> with_reducible rfl
                        try simp only [Act.put, lA, lB, lC]
                        refine held_take 35 (v := ?_) rfl (by kernel_rfl) (by kernel_rfl) (by kernel_rfl) (fun _ _ _ h => h) (by rfl) (fun w hS => ?_) (by assumption) ?_; rotate_left
                        · (try dsimp only at hS); go_simp <;> with_reducible rfl
                        try simp only [Act.put, lA, lB, lC]
                        refine held_take 36 (v := ?_) rfl (by kernel_rfl) (by kernel_rfl) (by kernel_rfl) (fun _ _ _ h => h) (by rfl) (fun w hS => ?_) (by assumption) ?_; rotate_left
                        · (try dsimp only at hS); go_simp <;> with_reducible rfl
                        try simp only [Act.put, lA, lB, lC]
                        refine held_take 37 (v := ?_) rfl (by kernel_rfl) (by kernel_rfl) (by kernel_rfl) (fun _ _ _ h => h) (by rfl) (fun w hS => ?_) (by assumption) ?_; rotate_left
                        · (try dsimp only at hS); go_simp <;> with_reducible rfl
                        try simp only [Act.put, lA, lB, lC]
                        refine held_take 38 (v := ?_) rfl (by kernel_rfl) (by kernel_rfl) (by kernel_rfl) (fun _ _ _ h => h) (by rfl) (fun w hS => ?_) (by assumption) ?_; rotate_left
                        · (try dsimp only at hS); go_simp <;> with_reducible rfl
                        try simp only [Act.put, lA, lB, lC]
                        refine held_take 39 (v := ?_) rfl (by kernel_rfl) (by kernel_rfl) (by kernel_rfl) (fun _ _ _ h => h) (by rfl) (fun w hS => ?_) (by assumption) ?_; rotate_left
                        · (try dsimp only at hS); go_simp <;> with_reducible rfl
                        try simp only [Act.put, lA, lB, lC]
                        refine held_take 40 (v := ?_) rfl (by kernel_rfl) (by kernel_rfl) (by kernel_rfl) (fun _ _ _ h => h) (by rfl) (fun w hS => ?_) (by assumption) ?_; rotate_left
                        · (try dsimp only at hS); go_simp <;> with_reducible rfl
                        try simp only [Act.put, lA, lB, lC]
                        refine held_take 41 (v := ?_) rfl (by kernel_rfl) (by kernel_rfl) (by kernel_rfl) (fun _ _ _ h => h) (by rfl) (fun w hS => ?_) (by assumption) ?_; rotate_left
                        · (try dsimp only at hS); go_simp <;> with_reducible rfl
                        try simp only [Act.put, lA, lB, lC]
                        refine held_take 42 (v := ?_) rfl (by kernel_rfl) (by kernel_rfl) (by kernel_rfl) (fun _ _ _ h => h) (by rfl) (fun w hS => ?_) (by assumption) ?_; rotate_left
                        · (try dsimp only at hS); go_simp <;> with_reducible rfl
                        try simp only [Act.put, lA, lB, lC]
                        refine held_take 43 (v := ?_) rfl (by kernel_rfl) (by kernel_rfl) (by kernel_rfl) (fun _ _ _ h => h) (by rfl) (fun w hS => ?_) (by assumption) ?_; rotate_left
                        · (try dsimp only at hS); go_simp <;> with_reducible rfl
                        try simp only [Act.put, lA, lB, lC]
                        refine held_take 44 (v := ?_) rfl (by kernel_rfl) (by kernel_rfl) (by kernel_rfl) (fun _ _ _ h => h) (by rfl) (fun w hS => ?_) (by assumption) ?_; rotate_left
                        · (try dsimp only at hS); go_simp <;> with_reducible rfl
                        try simp only [Act.put, lA, lB, lC]
                        refine held_take 45 (v := ?_) rfl (by kernel_rfl) (by kernel_rfl) (by kernel_rfl) (fun _ _ _ h => h) (by rfl) (fun w hS => ?_) (by assumption) ?_; rotate_left
                        · (try dsimp only at hS); go_simp <;> with_reducible rfl
                        try simp only [Act.put, lA, lB, lC]
                        refine held_take 46 (v := ?_) rfl (by kernel_rfl) (by kernel_rfl) (by kernel_rfl) (fun _ _ _ h => h) (by rfl) (fun w hS => ?_) (by assumption) ?_; rotate_left
                        · (try dsimp only at hS); go_simp <;> with_reducible rfl
                        try simp only [Act.put, lA, lB, lC]
                        refine held_take 47 (v := ?_) rfl (by kernel_rfl) (by kernel_rfl) (by kernel_rfl) (fun _ _ _ h => h) (by rfl) (fun w hS => ?_) (by assumption) ?_; rotate_left
                        · (try dsimp only at hS); go_simp <;> with_reducible rfl
                        try simp only [Act.put, lA, lB, lC]
                        refine held_take 48 (v := ?_) rfl (by kernel_rfl) (by kernel_rfl) (by kernel_rfl) (fun _ _ _ h => h) (by rfl) (fun w hS => ?_) (by assumption) ?_; rotate_left
                        · (try dsimp only at hS); go_simp <;> with_reducible rfl
                        try simp only [Act.put, lA, lB, lC]
                        refine held_take 49 (v := ?_) rfl (by kernel_rfl) (by kernel_rfl) (by kernel_rfl) (fun _ _ _ h => h) (by rfl) (fun w hS => ?_) (by assumption) ?_; rotate_left
                        · (try dsimp only at hS); go_simp <;> with_reducible rfl
                        try simp only [Act.put, lA, lB, lC]
                        refine held_take 50 (v := ?_) rfl (by kernel_rfl) (by kernel_rfl) (by kernel_rfl) (fun _ _ _ h => h) (by rfl) (fun w hS => ?_) (by assumption) ?_; rotate_left
                        · (try dsimp only at hS); go_simp <;> with_reducible rfl
                        try simp only [Act.put, lA, lB, lC]
                        refine held_take 51 (v := ?_) rfl (by kernel_rfl) (by kernel_rfl) (by kernel_rfl) (fun _ _ _ h => h) (by rfl) (fun w hS => ?_) (by assumption) ?_; rotate_left
                        · (try dsimp only at hS); go_simp <;> with_reducible rfl
                        try simp only [Act.put, lA, lB, lC]
                        refine held_take 52 (v := ?_) rfl (by kernel_rfl) (by kernel_rfl) (by kernel_rfl) (fun _ _ _ h => h) (by rfl) (fun w hS => ?_) (by assumption) ?_; rotate_left
                        · (try dsimp only at hS); go_simp <;> with_reducible rfl
                        try simp only [Act.put, lA, lB, lC]
                        refine held_take 53 (v := ?_) rfl (by kernel_rfl) (by kernel_rfl) (by kernel_rfl) (fun _ _ _ h => h) (by rfl) (fun w hS => ?_) (by assumption) ?_; rotate_left
                        · (try dsimp only at hS); go_simp <;> with_reducible rfl
                        try simp only [Act.put, lA, lB, lC]
                        refine held_take 54 (v := ?_) rfl (by kernel_rfl) (by kernel_rfl) (by kernel_rfl) (fun _ _ _ h => h) (by rfl) (fun w hS => ?_) (by assumption) ?_; rotate_left
                        · (try dsimp only at hS); go_simp <;> with_reducible rfl
                        try simp only [Act.put, lA, lB, lC]
                        refine held_take 55 (v := ?_) rfl (by kernel_rfl) (by kernel_rfl) (by kernel_rfl) (fun _ _ _ h => h) (by rfl) (fun w hS => ?_) (by assumption) ?_; rotate_left
                        · (try dsimp only at hS); go_simp <;> with_reducible rfl
                        try simp only [Act.put, lA, lB, lC]
                        refine held_done (by kernel_rfl) ?_
                        go_wp2
                        go_roundw
                        case rel => exact ⟨k + 1, (k : Int), _, by omega, by go_num, rfl, rfl, HP2, HM2, by omega, by omega, Lib.hid (HB.out.trans (hbA.mono hbo))⟩
                        case measure => simp [intOf]; omega
                      · have HP2 := Lib.hid (pick_keep hbest hj hy HX.out (by have : zw = y.worn := (by simpa using he); simp [aheadO, this, hn]))
                        clear hbest hy hem
                        refine wp_region_held_drew (S := (fun w' => Below wo.heap.size wo w')) (by kernel_rfl) (hbD) (fun hHeld => ?_)
                        refine held_take 0 (v := ?_) rfl (by kernel_rfl) (by kernel_rfl) (by kernel_rfl) (fun _ _ _ h => h) (by rfl) (fun w hS => ?_) (by assumption) ?_; rotate_left
                        · (try dsimp only at hS); go_simp <;> with_reducible rfl
                        try simp only [Act.put, lA, lB, lC]
                        refine held_take 1 (v := ?_) rfl (by kernel_rfl) (by kernel_rfl) (by kernel_rfl) (fun _ _ _ h => h) (by rfl) (fun w hS => ?_) (by assumption) ?_; rotate_left
                        · (try dsimp only at hS); go_simp <;> with_reducible rfl
                        try simp only [Act.put, lA, lB, lC]
                        refine held_take 2 (v := ?_) rfl (by kernel_rfl) (by kernel_rfl) (by kernel_rfl) (fun _ _ _ h => h) (by rfl) (fun w hS => ?_) (by assumption) ?_; rotate_left
                        · (try dsimp only at hS); go_simp <;> with_reducible rfl
                        try simp only [Act.put, lA, lB, lC]
                        refine held_take 3 (v := ?_) rfl (by kernel_rfl) (by kernel_rfl) (by kernel_rfl) (fun _ _ _ h => h) (by rfl) (fun w hS => ?_) (by assumption) ?_; rotate_left
                        · (try dsimp only at hS); go_simp <;> with_reducible rfl
                        try simp only [Act.put, lA, lB, lC]
                        refine held_one 4 rfl (by kernel_rfl) (fun K hK => ?_)
                        go_simp
                        refine Calls.mono (rmay7_lit _ _ _ _ _ _ _ _ hok) ?_
                        rintro e wa ⟨rfl, hb⟩
                        have hbA : Below wo.heap.size wo wa := hbD.trans (hb.mono hbD.size)
                        refine hK.out _ _ (fun w' => Below wo.heap.size wo w') (fun _ h => h) hbA (fun hHeld => ?_)
                        clear hK K
                        try simp only [Act.put, lA, lB, lC]
                        refine held_take 5 (v := ?_) rfl (by kernel_rfl) (by kernel_rfl) (by kernel_rfl) (fun _ _ _ h => h) (by rfl) (fun w hS => ?_) (by assumption) ?_; rotate_left
                        · (try dsimp only at hS); go_simp <;> with_reducible rfl
                        try simp only [Act.put, lA, lB, lC]
                        refine held_take 6 (v := ?_) rfl (by kernel_rfl) (by kernel_rfl) (by kernel_rfl) (fun _ _ _ h => h) (by rfl) (fun w hS => ?_) (by assumption) ?_; rotate_left
                        · (try dsimp only at hS); go_simp <;> with_reducible rfl
                        try simp only [Act.put, lA, lB, lC]
                        refine held_take 7 (v := ?_) rfl (by kernel_rfl) (by kernel_rfl) (by kernel_rfl) (fun _ _ _ h => h) (by rfl) (fun w hS => ?_) (by assumption) ?_; rotate_left
                        · (try dsimp only at hS); go_simp <;> with_reducible rfl
                        try simp only [Act.put, lA, lB, lC]
                        refine held_take 8 (v := ?_) rfl (by kernel_rfl) (by kernel_rfl) (by kernel_rfl) (fun _ _ _ h => h) (by rfl) (fun w hS => ?_) (by assumption) ?_; rotate_left
                        · (try dsimp only at hS); go_simp <;> with_reducible rfl
                        try simp only [Act.put, lA, lB, lC]
                        refine held_take 9 (v := ?_) rfl (by kernel_rfl) (by kernel_rfl) (by kernel_rfl) (fun _ _ _ h => h) (by rfl) (fun w hS => ?_) (by assumption) ?_; rotate_left
                        · (try dsimp only at hS); go_simp <;> with_reducible rfl
                        try simp only [Act.put, lA, lB, lC]
                        refine held_take 10 (v := ?_) rfl (by kernel_rfl) (by kernel_rfl) (by kernel_rfl) (fun _ _ _ h => h) (by rfl) (fun w hS => ?_) (by assumption) ?_; rotate_left
                        · (try dsimp only at hS); go_simp <;> with_reducible rfl
                        try simp only [Act.put, lA, lB, lC]
                        refine held_take 11 (v := ?_) rfl (by kernel_rfl) (by kernel_rfl) (by kernel_rfl) (fun _ _ _ h => h) (by rfl) (fun w hS => ?_) (by assumption) ?_; rotate_left
                        · (try dsimp only at hS); go_simp <;> with_reducible rfl
                        try simp only [Act.put, lA, lB, lC]
                        refine held_take 12 (v := ?_) rfl (by kernel_rfl) (by kernel_rfl) (by kernel_rfl) (fun _ _ _ h => h) (by rfl) (fun w hS => ?_) (by assumption) ?_; rotate_left
                        · (try dsimp only at hS); go_simp <;> with_reducible rfl
                        try simp only [Act.put, lA, lB, lC]
                        refine held_take 13 (v := ?_) rfl (by kernel_rfl) (by kernel_rfl) (by kernel_rfl) (fun _ _ _ h => h) (by rfl) (fun w hS => ?_) (by assumption) ?_; rotate_left
                        · (try dsimp only at hS); go_simp <;> with_reducible rfl
                        try simp only [Act.put, lA, lB, lC]
                        refine held_take 14 (v := ?_) rfl (by kernel_rfl) (by kernel_rfl) (by kernel_rfl) (fun _ _ _ h => h) (by rfl) (fun w hS => ?_) (by assumption) ?_; rotate_left
                        · (try dsimp only at hS); go_simp <;> with_reducible rfl
                        try simp only [Act.put, lA, lB, lC]
                        refine held_take 15 (v := ?_) rfl (by kernel_rfl) (by kernel_rfl) (by kernel_rfl) (fun _ _ _ h => h) (by rfl) (fun w hS => ?_) (by assumption) ?_; rotate_left
                        · (try dsimp only at hS); go_simp <;> with_reducible rfl
                        try simp only [Act.put, lA, lB, lC]
                        refine held_take 16 (v := ?_) rfl (by kernel_rfl) (by kernel_rfl) (by kernel_rfl) (fun _ _ _ h => h) (by rfl) (fun w hS => ?_) (by assumption) ?_; rotate_left
                        · (try dsimp only at hS); go_simp <;> with_reducible rfl
                        try simp only [Act.put, lA, lB, lC]
                        refine held_take 17 (v := ?_) rfl (by kernel_rfl) (by kernel_rfl) (by kernel_rfl) (fun _ _ _ h => h) (by rfl) (fun w hS => ?_) (by assumption) ?_; rotate_left
                        · (try dsimp only at hS); go_simp <;> with_reducible rfl
                        try simp only [Act.put, lA, lB, lC]
                        refine held_take 18 (v := ?_) rfl (by kernel_rfl) (by kernel_rfl) (by kernel_rfl) (fun _ _ _ h => h) (by rfl) (fun w hS => ?_) (by assumption) ?_; rotate_left
                        · (try dsimp only at hS); go_simp <;> with_reducible rfl
                        try simp only [Act.put, lA, lB, lC]
                        refine held_take 19 (v := ?_) rfl (by kernel_rfl) (by kernel_rfl) (by kernel_rfl) (fun _ _ _ h => h) (by rfl) (fun w hS => ?_) (by assumption) ?_; rotate_left
                        · (try dsimp only at hS); go_simp <;> with_reducible rfl
                        try simp only [Act.put, lA, lB, lC]
                        refine held_take 20 (v := ?_) rfl (by kernel_rfl) (by kernel_rfl) (by kernel_rfl) (fun _ _ _ h => h) (by rfl) (fun w hS => ?_) (by assumption) ?_; rotate_left
                        · (try dsimp only at hS); go_simp <;> with_reducible rfl
                        try simp only [Act.put, lA, lB, lC]
                        refine held_take 21 (v := ?_) rfl (by kernel_rfl) (by kernel_rfl) (by kernel_rfl) (fun _ _ _ h => h) (by rfl) (fun w hS => ?_) (by assumption) ?_; rotate_left
                        · (try dsimp only at hS); go_simp <;> with_reducible rfl
                        try simp only [Act.put, lA, lB, lC]
                        refine held_take 22 (v := ?_) rfl (by kernel_rfl) (by kernel_rfl) (by kernel_rfl) (fun _ _ _ h => h) (by rfl) (fun w hS => ?_) (by assumption) ?_; rotate_left
                        · (try dsimp only at hS); go_simp <;> with_reducible rfl
                        try simp only [Act.put, lA, lB, lC]
                        refine held_take 23 (v := ?_) rfl (by kernel_rfl) (by kernel_rfl) (by kernel_rfl) (fun _ _ _ h => h) (by rfl) (fun w hS => ?_) (by assumption) ?_; rotate_left
                        · (try dsimp only at hS); go_simp <;> with_reducible rfl
                        try simp only [Act.put, lA, lB, lC]
                        refine held_take 24 (v := ?_) rfl (by kernel_rfl) (by kernel_rfl) (by kernel_rfl) (fun _ _ _ h => h) (by rfl) (fun w hS => ?_) (by assumption) ?_; rotate_left
                        · (try dsimp only at hS); go_simp <;> with_reducible rfl
                        try simp only [Act.put, lA, lB, lC]
                        refine held_take 25 (v := ?_) rfl (by kernel_rfl) (by kernel_rfl) (by kernel_rfl) (fun _ _ _ h => h) (by rfl) (fun w hS => ?_) (by assumption) ?_; rotate_left
                        · (try dsimp only at hS); go_simp <;> with_reducible rfl
                        try simp only [Act.put, lA, lB, lC]
                        refine held_take 26 (v := ?_) rfl (by kernel_rfl) (by kernel_rfl) (by kernel_rfl) (fun _ _ _ h => h) (by rfl) (fun w hS => ?_) (by assumption) ?_; rotate_left
                        · (try dsimp only at hS); go_simp <;> with_reducible rfl
                        try simp only [Act.put, lA, lB, lC]
                        refine held_take 27 (v := ?_) rfl (by kernel_rfl) (by kernel_rfl) (by kernel_rfl) (fun _ _ _ h => h) (by rfl) (fun w hS => ?_) (by assumption) ?_; rotate_left
                        · (try dsimp only at hS); go_simp <;> with_reducible rfl
                        try simp only [Act.put, lA, lB, lC]
                        refine held_take 28 (v := ?_) rfl (by kernel_rfl) (by kernel_rfl) (by kernel_rfl) (fun _ _ _ h => h) (by rfl) (fun w hS => ?_) (by assumption) ?_; rotate_left
                        · (try dsimp only at hS); go_simp <;> with_reducible rfl
                        try simp only [Act.put, lA, lB, lC]
                        refine held_take 29 (v := ?_) rfl (by kernel_rfl) (by kernel_rfl) (by kernel_rfl) (fun _ _ _ h => h) (by rfl) (fun w hS => ?_) (by assumption) ?_; rotate_left
                        · (try dsimp only at hS); go_simp <;> with_reducible rfl
                        try simp only [Act.put, lA, lB, lC]
                        refine held_take 30 (v := ?_) rfl (by kernel_rfl) (by kernel_rfl) (by kernel_rfl) (fun _ _ _ h => h) (by rfl) (fun w hS => ?_) (by assumption) ?_; rotate_left
                        · (try dsimp only at hS); go_simp <;> with_reducible rfl
                        try simp only [Act.put, lA, lB, lC]
                        refine held_take 31 (v := ?_) rfl (by kernel_rfl) (by kernel_rfl) (by kernel_rfl) (fun _ _ _ h => h) (by rfl) (fun w hS => ?_) (by assumption) ?_; rotate_left
                        · (try dsimp only at hS); go_simp <;> with_reducible rfl
                        try simp only [Act.put, lA, lB, lC]
                        refine held_take 32 (v := ?_) rfl (by kernel_rfl) (by kernel_rfl) (by kernel_rfl) (fun _ _ _ h => h) (by rfl) (fun w hS => ?_) (by assumption) ?_; rotate_left
                        · (try dsimp only at hS); go_simp <;> with_reducible rfl
                        try simp only [Act.put, lA, lB, lC]
                        refine held_take 33 (v := ?_) rfl (by kernel_rfl) (by kernel_rfl) (by kernel_rfl) (fun _ _ _ h => h) (by rfl) (fun w hS => ?_) (by assumption) ?_; rotate_left
                        · (try dsimp only at hS); go_simp <;> with_reducible rfl
                        try simp only [Act.put, lA, lB, lC]
                        refine held_take 34 (v := ?_) rfl (by kernel_rfl) (by kernel_rfl) (by kernel_rfl) (fun _ _ _ h => h) (by rfl) (fun w hS => ?_) (by assumption) ?_; rotate_left
                        · (try dsimp only at hS); go_simp <;> with_reducible rfl
                        try simp only [Act.put, lA, lB, lC]
                        refine held_take 35 (v := ?_) rfl (by kernel_rfl) (by kernel_rfl) (by kernel_rfl) (fun _ _ _ h => h) (by rfl) (fun w hS => ?_) (by assumption) ?_; rotate_left
                        · (try dsimp only at hS); go_simp <;> with_reducible rfl
                        try simp only [Act.put, lA, lB, lC]
                        refine held_take 36 (v := ?_) rfl (by kernel_rfl) (by kernel_rfl) (by kernel_rfl) (fun _ _ _ h => h) (by rfl) (fun w hS => ?_) (by assumption) ?_; rotate_left
                        · (try dsimp only at hS); go_simp <;> with_reducible rfl
                        try simp only [Act.put, lA, lB, lC]
                        refine held_take 37 (v := ?_) rfl (by kernel_rfl) (by kernel_rfl) (by kernel_rfl) (fun _ _ _ h => h) (by rfl) (fun w hS => ?_) (by assumption) ?_; rotate_left
                        · (try dsimp only at hS); go_simp <;> with_reducible rfl
                        try simp only [Act.put, lA, lB, lC]
                        refine held_take 38 (v := ?_) rfl (by kernel_rfl) (by kernel_rfl) (by kernel_rfl) (fun _ _ _ h => h) (by rfl) (fun w hS => ?_) (by assumption) ?_; rotate_left
                        · (try dsimp only at hS); go_simp <;> with_reducible rfl
                        try simp only [Act.put, lA, lB, lC]
                        refine held_take 39 (v := ?_) rfl (by kernel_rfl) (by kernel_rfl) (by kernel_rfl) (fun _ _ _ h => h) (by rfl) (fun w hS => ?_) (by assumption) ?_; rotate_left
                        · (try dsimp only at hS); go_simp <;> with_reducible rfl
                        try simp only [Act.put, lA, lB, lC]
                        refine held_take 40 (v := ?_) rfl (by kernel_rfl) (by kernel_rfl) (by kernel_rfl) (fun _ _ _ h => h) (by rfl) (fun w hS => ?_) (by assumption) ?_; rotate_left
                        · (try dsimp only at hS); go_simp <;> with_reducible rfl
                        try simp only [Act.put, lA, lB, lC]
                        refine held_take 41 (v := ?_) rfl (by kernel_rfl) (by kernel_rfl) (by kernel_rfl) (fun _ _ _ h => h) (by rfl) (fun w hS => ?_) (by assumption) ?_; rotate_left
                        · (try dsimp only at hS); go_simp <;> with_reducible rfl
                        try simp only [Act.put, lA, lB, lC]
                        refine held_take 42 (v := ?_) rfl (by kernel_rfl) (by kernel_rfl) (by kernel_rfl) (fun _ _ _ h => h) (by rfl) (fun w hS => ?_) (by assumption) ?_; rotate_left
                        · (try dsimp only at hS); go_simp <;> with_reducible rfl
                        try simp only [Act.put, lA, lB, lC]
                        refine held_take 43 (v := ?_) rfl (by kernel_rfl) (by kernel_rfl) (by kernel_rfl) (fun _ _ _ h => h) (by rfl) (fun w hS => ?_) (by assumption) ?_; rotate_left
                        · (try dsimp only at hS); go_simp <;> with_reducible rfl
                        try simp only [Act.put, lA, lB, lC]
                        refine held_take 44 (v := ?_) rfl (by kernel_rfl) (by kernel_rfl) (by kernel_rfl) (fun _ _ _ h => h) (by rfl) (fun w hS => ?_) (by assumption) ?_; rotate_left
                        · (try dsimp only at hS); go_simp <;> with_reducible rfl
                        try simp only [Act.put, lA, lB, lC]
                        refine held_take 45 (v := ?_) rfl (by kernel_rfl) (by kernel_rfl) (by kernel_rfl) (fun _ _ _ h => h) (by rfl) (fun w hS => ?_) (by assumption) ?_; rotate_left
                        · (try dsimp only at hS); go_simp <;> with_reducible rfl
                        try simp only [Act.put, lA, lB, lC]
                        refine held_take 46 (v := ?_) rfl (by kernel_rfl) (by kernel_rfl) (by kernel_rfl) (fun _ _ _ h => h) (by rfl) (fun w hS => ?_) (by assumption) ?_; rotate_left
                        · (try dsimp only at hS); go_simp <;> with_reducible rfl
                        try simp only [Act.put, lA, lB, lC]
                        refine held_take 47 (v := ?_) rfl (by kernel_rfl) (by kernel_rfl) (by kernel_rfl) (fun _ _ _ h => h) (by rfl) (fun w hS => ?_) (by assumption) ?_; rotate_left
                        · (try dsimp only at hS); go_simp <;> with_reducible rfl
                        try simp only [Act.put, lA, lB, lC]
                        refine held_take 48 (v := ?_) rfl (by kernel_rfl) (by kernel_rfl) (by kernel_rfl) (fun _ _ _ h => h) (by rfl) (fun w hS => ?_) (by assumption) ?_; rotate_left
                        · (try dsimp only at hS); go_simp <;> with_reducible rfl
                        try simp only [Act.put, lA, lB, lC]
                        refine held_take 49 (v := ?_) rfl (by kernel_rfl) (by kernel_rfl) (by kernel_rfl) (fun _ _ _ h => h) (by rfl) (fun w hS => ?_) (by assumption) ?_; rotate_left
                        · (try dsimp only at hS); go_simp <;> with_reducible rfl
                        try simp only [Act.put, lA, lB, lC]
                        refine held_take 50 (v := ?_) rfl (by kernel_rfl) (by kernel_rfl) (by kernel_rfl) (fun _ _ _ h => h) (by rfl) (fun w hS => ?_) (by assumption) ?_; rotate_left
                        · (try dsimp only at hS); go_simp <;> with_reducible rfl
                        try simp only [Act.put, lA, lB, lC]
                        refine held_take 51 (v := ?_) rfl (by kernel_rfl) (by kernel_rfl) (by kernel_rfl) (fun _ _ _ h => h) (by rfl) (fun w hS => ?_) (by assumption) ?_; rotate_left
                        · (try dsimp only at hS); go_simp <;> with_reducible rfl
                        try simp only [Act.put, lA, lB, lC]
                        refine held_take 52 (v := ?_) rfl (by kernel_rfl) (by kernel_rfl) (by kernel_rfl) (fun _ _ _ h => h) (by rfl) (fun w hS => ?_) (by assumption) ?_; rotate_left
                        · (try dsimp only at hS); go_simp <;> with_reducible rfl
                        try simp only [Act.put, lA, lB, lC]
                        refine held_take 53 (v := ?_) rfl (by kernel_rfl) (by kernel_rfl) (by kernel_rfl) (fun _ _ _ h => h) (by rfl) (fun w hS => ?_) (by assumption) ?_; rotate_left
                        · (try dsimp only at hS); go_simp <;> with_reducible rfl
                        try simp only [Act.put, lA, lB, lC]
                        refine held_take 54 (v := ?_) rfl (by kernel_rfl) (by kernel_rfl) (by kernel_rfl) (fun _ _ _ h => h) (by rfl) (fun w hS => ?_) (by assumption) ?_; rotate_left
                        · (try dsimp only at hS); go_simp <;> with_reducible rfl
                        try simp only [Act.put, lA, lB, lC]
                        refine held_take 55 (v := ?_) rfl (by kernel_rfl) (by kernel_rfl) (by kernel_rfl) (fun _ _ _ h => h) (by rfl) (fun w hS => ?_) (by assumption) ?_; rotate_left
                        · (try dsimp only at hS); go_simp <;> with_reducible rfl
                        try simp only [Act.put, lA, lB, lC]
                        refine held_done (by kernel_rfl) ?_
                        go_wp2
                        go_roundw
                        case rel => exact ⟨k + 1, (j : Int), _, by omega, by go_num, rfl, rfl, HP2, HM2, by omega, by omega, Lib.hid (HB.out.trans (hbA.mono hbo))⟩
                        case measure => simp [intOf]; omega
              · have HP2 := Lib.hid (pick_skip HP.out HX.out (by unfold restB; rw [show decide (0 < zl) = false by simpa using hlv]; simp))
                refine wp_region_held_drew (S := (fun w' => Below wo.heap.size wo w')) (by kernel_rfl) (hbD) (fun hHeld => ?_)
                refine held_take 0 (v := ?_) rfl (by kernel_rfl) (by kernel_rfl) (by kernel_rfl) (fun _ _ _ h => h) (by rfl) (fun w hS => ?_) (by assumption) ?_; rotate_left
                · (try dsimp only at hS); go_simp <;> with_reducible rfl
                try simp only [Act.put, lA, lB, lC]
                refine held_take 1 (v := ?_) rfl (by kernel_rfl) (by kernel_rfl) (by kernel_rfl) (fun _ _ _ h => h) (by rfl) (fun w hS => ?_) (by assumption) ?_; rotate_left
                · (try dsimp only at hS); go_simp <;> with_reducible rfl
                try simp only [Act.put, lA, lB, lC]
                refine held_take 2 (v := ?_) rfl (by kernel_rfl) (by kernel_rfl) (by kernel_rfl) (fun _ _ _ h => h) (by rfl) (fun w hS => ?_) (by assumption) ?_; rotate_left
                · (try dsimp only at hS); go_simp <;> with_reducible rfl
                try simp only [Act.put, lA, lB, lC]
                refine held_take 3 (v := ?_) rfl (by kernel_rfl) (by kernel_rfl) (by kernel_rfl) (fun _ _ _ h => h) (by rfl) (fun w hS => ?_) (by assumption) ?_; rotate_left
                · (try dsimp only at hS); go_simp <;> with_reducible rfl
                try simp only [Act.put, lA, lB, lC]
                refine held_one 4 rfl (by kernel_rfl) (fun K hK => ?_)
                go_simp
                refine Calls.mono (rmay7_lit _ _ _ _ _ _ _ _ hok) ?_
                rintro e wa ⟨rfl, hb⟩
                have hbA : Below wo.heap.size wo wa := hbD.trans (hb.mono hbD.size)
                refine hK.out _ _ (fun w' => Below wo.heap.size wo w') (fun _ h => h) hbA (fun hHeld => ?_)
                clear hK K
                try simp only [Act.put, lA, lB, lC]
                refine held_take 5 (v := ?_) rfl (by kernel_rfl) (by kernel_rfl) (by kernel_rfl) (fun _ _ _ h => h) (by rfl) (fun w hS => ?_) (by assumption) ?_; rotate_left
                · (try dsimp only at hS); go_simp <;> with_reducible rfl
                try simp only [Act.put, lA, lB, lC]
                refine held_take 6 (v := ?_) rfl (by kernel_rfl) (by kernel_rfl) (by kernel_rfl) (fun _ _ _ h => h) (by rfl) (fun w hS => ?_) (by assumption) ?_; rotate_left
                · (try dsimp only at hS); go_simp <;> with_reducible rfl
                try simp only [Act.put, lA, lB, lC]
                refine held_take 7 (v := ?_) rfl (by kernel_rfl) (by kernel_rfl) (by kernel_rfl) (fun _ _ _ h => h) (by rfl) (fun w hS => ?_) (by assumption) ?_; rotate_left
                · (try dsimp only at hS); go_simp <;> with_reducible rfl
                try simp only [Act.put, lA, lB, lC]
                refine held_take 8 (v := ?_) rfl (by kernel_rfl) (by kernel_rfl) (by kernel_rfl) (fun _ _ _ h => h) (by rfl) (fun w hS => ?_) (by assumption) ?_; rotate_left
                · (try dsimp only at hS); go_simp <;> with_reducible rfl
                try simp only [Act.put, lA, lB, lC]
                refine held_take 9 (v := ?_) rfl (by kernel_rfl) (by kernel_rfl) (by kernel_rfl) (fun _ _ _ h => h) (by rfl) (fun w hS => ?_) (by assumption) ?_; rotate_left
                · (try dsimp only at hS); go_simp <;> with_reducible rfl
                try simp only [Act.put, lA, lB, lC]
                refine held_take 10 (v := ?_) rfl (by kernel_rfl) (by kernel_rfl) (by kernel_rfl) (fun _ _ _ h => h) (by rfl) (fun w hS => ?_) (by assumption) ?_; rotate_left
                · (try dsimp only at hS); go_simp <;> with_reducible rfl
                try simp only [Act.put, lA, lB, lC]
                refine held_take 11 (v := ?_) rfl (by kernel_rfl) (by kernel_rfl) (by kernel_rfl) (fun _ _ _ h => h) (by rfl) (fun w hS => ?_) (by assumption) ?_; rotate_left
                · (try dsimp only at hS); go_simp <;> with_reducible rfl
                try simp only [Act.put, lA, lB, lC]
                refine held_take 12 (v := ?_) rfl (by kernel_rfl) (by kernel_rfl) (by kernel_rfl) (fun _ _ _ h => h) (by rfl) (fun w hS => ?_) (by assumption) ?_; rotate_left
                · (try dsimp only at hS); go_simp <;> with_reducible rfl
                try simp only [Act.put, lA, lB, lC]
                refine held_take 13 (v := ?_) rfl (by kernel_rfl) (by kernel_rfl) (by kernel_rfl) (fun _ _ _ h => h) (by rfl) (fun w hS => ?_) (by assumption) ?_; rotate_left
                · (try dsimp only at hS); go_simp <;> with_reducible rfl
                try simp only [Act.put, lA, lB, lC]
                refine held_skip 14 rfl (by kernel_rfl) (by kernel_rfl) (by kernel_rfl) (fun _ _ _ h => h) (by rfl) (by assumption) ?_
                try simp only [Act.put, lA, lB, lC]
                refine held_skip 15 rfl (by kernel_rfl) (by kernel_rfl) (by kernel_rfl) (fun _ _ _ h => h) (by rfl) (by assumption) ?_
                try simp only [Act.put, lA, lB, lC]
                refine held_skip 16 rfl (by kernel_rfl) (by kernel_rfl) (by kernel_rfl) (fun _ _ _ h => h) (by rfl) (by assumption) ?_
                try simp only [Act.put, lA, lB, lC]
                refine held_skip 17 rfl (by kernel_rfl) (by kernel_rfl) (by kernel_rfl) (fun _ _ _ h => h) (by rfl) (by assumption) ?_
                try simp only [Act.put, lA, lB, lC]
                refine held_skip 18 rfl (by kernel_rfl) (by kernel_rfl) (by kernel_rfl) (fun _ _ _ h => h) (by rfl) (by assumption) ?_
                try simp only [Act.put, lA, lB, lC]
                refine held_skip 19 rfl (by kernel_rfl) (by kernel_rfl) (by kernel_rfl) (fun _ _ _ h => h) (by rfl) (by assumption) ?_
                try simp only [Act.put, lA, lB, lC]
                refine held_skip 20 rfl (by kernel_rfl) (by kernel_rfl) (by kernel_rfl) (fun _ _ _ h => h) (by rfl) (by assumption) ?_
                try simp only [Act.put, lA, lB, lC]
                refine held_skip 21 rfl (by kernel_rfl) (by kernel_rfl) (by kernel_rfl) (fun _ _ _ h => h) (by rfl) (by assumption) ?_
                try simp only [Act.put, lA, lB, lC]
                refine held_skip 22 rfl (by kernel_rfl) (by kernel_rfl) (by kernel_rfl) (fun _ _ _ h => h) (by rfl) (by assumption) ?_
                try simp only [Act.put, lA, lB, lC]
                refine held_skip 23 rfl (by kernel_rfl) (by kernel_rfl) (by kernel_rfl) (fun _ _ _ h => h) (by rfl) (by assumption) ?_
                try simp only [Act.put, lA, lB, lC]
                refine held_skip 24 rfl (by kernel_rfl) (by kernel_rfl) (by kernel_rfl) (fun _ _ _ h => h) (by rfl) (by assumption) ?_
                try simp only [Act.put, lA, lB, lC]
                refine held_skip 25 rfl (by kernel_rfl) (by kernel_rfl) (by kernel_rfl) (fun _ _ _ h => h) (by rfl) (by assumption) ?_
                try simp only [Act.put, lA, lB, lC]
                refine held_skip 26 rfl (by kernel_rfl) (by kernel_rfl) (by kernel_rfl) (fun _ _ _ h => h) (by rfl) (by assumption) ?_
                try simp only [Act.put, lA, lB, lC]
                refine held_skip 27 rfl (by kernel_rfl) (by kernel_rfl) (by kernel_rfl) (fun _ _ _ h => h) (by rfl) (by assumption) ?_
                try simp only [Act.put, lA, lB, lC]
                refine held_skip 28 rfl (by kernel_rfl) (by kernel_rfl) (by kernel_rfl) (fun _ _ _ h => h) (by rfl) (by assumption) ?_
                try simp only [Act.put, lA, lB, lC]
                refine held_skip 29 rfl (by kernel_rfl) (by kernel_rfl) (by kernel_rfl) (fun _ _ _ h => h) (by rfl) (by assumption) ?_
                try simp only [Act.put, lA, lB, lC]
                refine held_skip 30 rfl (by kernel_rfl) (by kernel_rfl) (by kernel_rfl) (fun _ _ _ h => h) (by rfl) (by assumption) ?_
                try simp only [Act.put, lA, lB, lC]
                refine held_skip 31 rfl (by kernel_rfl) (by kernel_rfl) (by kernel_rfl) (fun _ _ _ h => h) (by rfl) (by assumption) ?_
                try simp only [Act.put, lA, lB, lC]
                refine held_skip 32 rfl (by kernel_rfl) (by kernel_rfl) (by kernel_rfl) (fun _ _ _ h => h) (by rfl) (by assumption) ?_
                try simp only [Act.put, lA, lB, lC]
                refine held_skip 33 rfl (by kernel_rfl) (by kernel_rfl) (by kernel_rfl) (fun _ _ _ h => h) (by rfl) (by assumption) ?_
                try simp only [Act.put, lA, lB, lC]
                refine held_skip 34 rfl (by kernel_rfl) (by kernel_rfl) (by kernel_rfl) (fun _ _ _ h => h) (by rfl) (by assumption) ?_
                try simp only [Act.put, lA, lB, lC]
                refine held_skip 35 rfl (by kernel_rfl) (by kernel_rfl) (by kernel_rfl) (fun _ _ _ h => h) (by rfl) (by assumption) ?_
                try simp only [Act.put, lA, lB, lC]
                refine held_skip 36 rfl (by kernel_rfl) (by kernel_rfl) (by kernel_rfl) (fun _ _ _ h => h) (by rfl) (by assumption) ?_
                try simp only [Act.put, lA, lB, lC]
                refine held_skip 37 rfl (by kernel_rfl) (by kernel_rfl) (by kernel_rfl) (fun _ _ _ h => h) (by rfl) (by assumption) ?_
                try simp only [Act.put, lA, lB, lC]
                refine held_skip 38 rfl (by kernel_rfl) (by kernel_rfl) (by kernel_rfl) (fun _ _ _ h => h) (by rfl) (by assumption) ?_
                try simp only [Act.put, lA, lB, lC]
                refine held_skip 39 rfl (by kernel_rfl) (by kernel_rfl) (by kernel_rfl) (fun _ _ _ h => h) (by rfl) (by assumption) ?_
                try simp only [Act.put, lA, lB, lC]
                refine held_skip 40 rfl (by kernel_rfl) (by kernel_rfl) (by kernel_rfl) (fun _ _ _ h => h) (by rfl) (by assumption) ?_
                try simp only [Act.put, lA, lB, lC]
                refine held_skip 41 rfl (by kernel_rfl) (by kernel_rfl) (by kernel_rfl) (fun _ _ _ h => h) (by rfl) (by assumption) ?_
                try simp only [Act.put, lA, lB, lC]
                refine held_skip 42 rfl (by kernel_rfl) (by kernel_rfl) (by kernel_rfl) (fun _ _ _ h => h) (by rfl) (by assumption) ?_
                try simp only [Act.put, lA, lB, lC]
                refine held_skip 43 rfl (by kernel_rfl) (by kernel_rfl) (by kernel_rfl) (fun _ _ _ h => h) (by rfl) (by assumption) ?_
                try simp only [Act.put, lA, lB, lC]
                refine held_skip 44 rfl (by kernel_rfl) (by kernel_rfl) (by kernel_rfl) (fun _ _ _ h => h) (by rfl) (by assumption) ?_
                try simp only [Act.put, lA, lB, lC]
                refine held_skip 45 rfl (by kernel_rfl) (by kernel_rfl) (by kernel_rfl) (fun _ _ _ h => h) (by rfl) (by assumption) ?_
                try simp only [Act.put, lA, lB, lC]
                refine held_skip 46 rfl (by kernel_rfl) (by kernel_rfl) (by kernel_rfl) (fun _ _ _ h => h) (by rfl) (by assumption) ?_
                try simp only [Act.put, lA, lB, lC]
                refine held_skip 47 rfl (by kernel_rfl) (by kernel_rfl) (by kernel_rfl) (fun _ _ _ h => h) (by rfl) (by assumption) ?_
                try simp only [Act.put, lA, lB, lC]
                refine held_skip 48 rfl (by kernel_rfl) (by kernel_rfl) (by kernel_rfl) (fun _ _ _ h => h) (by rfl) (by assumption) ?_
                try simp only [Act.put, lA, lB, lC]
                refine held_skip 49 rfl (by kernel_rfl) (by kernel_rfl) (by kernel_rfl) (fun _ _ _ h => h) (by rfl) (by assumption) ?_
                try simp only [Act.put, lA, lB, lC]
                refine held_skip 50 rfl (by kernel_rfl) (by kernel_rfl) (by kernel_rfl) (fun _ _ _ h => h) (by rfl) (by assumption) ?_
                try simp only [Act.put, lA, lB, lC]
                refine held_skip 51 rfl (by kernel_rfl) (by kernel_rfl) (by kernel_rfl) (fun _ _ _ h => h) (by rfl) (by assumption) ?_
                try simp only [Act.put, lA, lB, lC]
                refine held_skip 52 rfl (by kernel_rfl) (by kernel_rfl) (by kernel_rfl) (fun _ _ _ h => h) (by rfl) (by assumption) ?_
                try simp only [Act.put, lA, lB, lC]
                refine held_skip 53 rfl (by kernel_rfl) (by kernel_rfl) (by kernel_rfl) (fun _ _ _ h => h) (by rfl) (by assumption) ?_
                try simp only [Act.put, lA, lB, lC]
                refine held_skip 54 rfl (by kernel_rfl) (by kernel_rfl) (by kernel_rfl) (fun _ _ _ h => h) (by rfl) (by assumption) ?_
                try simp only [Act.put, lA, lB, lC]
                refine held_take 55 (v := ?_) rfl (by kernel_rfl) (by kernel_rfl) (by kernel_rfl) (fun _ _ _ h => h) (by rfl) (fun w hS => ?_) (by assumption) ?_; rotate_left
                · (try dsimp only at hS); go_simp <;> with_reducible rfl
                try simp only [Act.put, lA, lB, lC]
                refine held_done (by kernel_rfl) ?_
                go_wp2
                go_roundw
                case rel => exact ⟨k + 1, zz, _, by omega, by go_num, rfl, rfl, HP2, HM2, by omega, by omega, Lib.hid (HB.out.trans (hbA.mono hbo))⟩
                case measure => simp [intOf]; omega
    · obtain rfl : k = len := by omega
      rcases HP.out with ⟨h1, rfl⟩ | ⟨j, y, rfl, hj, hy, hbest⟩
      · rw [List.take_of_length_le (show l.length ≤ k by omega)] at h1
        have hfin : POST (.returned (.tuple #[.int .i64 0, .bool false])) wo := by
          rw [HPOST.out]
          refine ⟨?_, HB.out⟩
          unfold oldOf
          rw [h1]
          rfl
        have HFin := Lib.hid hfin
        clear hfin h1 hlo
        go_wp2
        first | exact HFin.out | (go_ret2; exact HFin.out)
      · rw [List.take_of_length_le (show l.length ≤ k by omega)] at hbest
        obtain ⟨bb, off, rfl, hlt2, hc⟩ := hlo.2 (by omega)
        obtain ⟨hd0, hd1, hd2, hd3, hd4, hd5, hd6⟩ := Blk.sevenAll hlo hj hy
        have t4 : (j : Int) < (k : Int) := by omega
        have t5 : (0 : Int) ≤ (j : Int) := by omega
        have t6 : ((j : Int)).toNat = j := by omega
        obtain ⟨b1, b2, b3, b4, b5, b6, b7⟩ := rightB_bd (bestOf_right hbest).1
        have hmm : mostTo l l.length = M := by rw [HM.out, hll]
        have hn := hd0 wo (Below.refl _ _)
        have hn3 := hd3 wo (Below.refl _ _)
        by_cases hg : M - y.worn ≤ gap
        · have hfin : POST (.returned (.tuple #[.int .i64 0, .bool false])) wo := by
            rw [HPOST.out]
            refine ⟨?_, HB.out⟩
            unfold oldOf
            rw [hbest]
            simp only [hmm, hg, if_true]
            rfl
          have HFin := Lib.hid hfin
          clear hfin hbest hlo hy hc hd0 hd1 hd2 hd3 hd4 hd5 hd6 hmm
          go_wp2
          first | exact HFin.out | (go_ret2; exact HFin.out)
        · have hfin : POST (.returned (.tuple #[.int .i64 y.n, .bool true])) wo := by
            rw [HPOST.out]
            refine ⟨?_, HB.out⟩
            unfold oldOf
            rw [hbest]
            simp only [hmm, hg, if_false]
            rfl
          have HFin := Lib.hid hfin
          clear hfin hbest hlo hy hc hd0 hd1 hd2 hd3 hd4 hd5 hd6 hmm
          go_wp2
          first | exact HFin.out | (go_ret2; exact HFin.out)

end Go.Proofs.Ytjadkfgkidejbaa
