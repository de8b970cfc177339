/- Total, both; wear.Old. -/
import Derived.Test.YtjadkfgkidejbaaWearN
namespace Go.Proofs.Ytjadkfgkidejbaa
open Go.RowKit
set_option linter.unusedVariables false

theorem right7_lit {r : Bool} (n l p o : Int) (x y z : Bool) (w : World) (h : rightB ⟨n, l, p, o, x, y, z⟩ = r) : Calls Try.prog 37 #[.agg #[.int .i64 n, .int .i64 l, .int .i64 p, .int .i64 o, .bool x, .bool y, .bool z]] w fun e w' => e = .returned (.bool r) ∧ Below w.heap.size w w' := by
  subst h; exact right7_any n l p o x y z w

/-- Live pages, and all. -/
def totStep (s : Int × Int) (b : Blk) : Int × Int := if rightB b then (s.1 + b.live, s.2 + b.pages) else s
def totTo (l : List Blk) (k : Nat) : Int × Int := (l.take k).foldl totStep (0, 0)
theorem totTo_snoc (l : List Blk) (k : Nat) (z : Blk) (h : l[k]? = some z) : totTo l (k + 1) = totStep (totTo l k) z := by
  have hk : k < l.length := (List.getElem?_eq_some_iff.1 h).1
  unfold totTo
  rw [List.take_succ_eq_append_getElem hk, (List.getElem?_eq_some_iff.1 h).2]
  simp [List.foldl_append]
theorem totTo_bd (l : List Blk) : ∀ k, k ≤ l.length → 0 ≤ (totTo l k).1 ∧ (totTo l k).1 ≤ 256 * k ∧ 0 ≤ (totTo l k).2 ∧ (totTo l k).2 ≤ 256 * k
  | 0, _ => by simp [totTo]
  | k + 1, h => by
    have hx : l[k]? = some l[k] := List.getElem?_eq_getElem (by omega)
    obtain ⟨a, b, c, d⟩ := totTo_bd l k (by omega)
    rw [totTo_snoc l k _ hx]
    unfold totStep
    split
    · rename_i hr
      have := rightB_bd hr
      simp only
      omega
    · omega

set_option maxRecDepth 100000 in
set_option maxHeartbeats 8000000 in
theorem rtotal_any (a : Option Addr) (len cap : Nat) (l : List Blk) (W : World) (hm : len ≤ 1000000) (hl : Rws 7 Blk.cells W a len l) :
    Calls Try.prog 36 #[.slice a len cap] W fun e w' => e = .returned (.tuple #[.int .i64 (totTo l l.length).1, .int .i64 (totTo l l.length).2]) ∧ Below W.heap.size W w' := by
  have hll := hl.1
  have HL := Lib.hid hl
  clear hl
  go_enter Try.func36, Try.ntmps36
  go_wp2_with fail
  go_loopw [4, 5, 6] (fun x y i wr => ∃ (k : Nat) (p q : Int), k ≤ len ∧ i = .int .i64 (k : Int) ∧ x = .int .i64 p ∧ y = .int .i64 q ∧ Hid (totTo l k = (p, q)) ∧ Hid (Below W.heap.size W wr)) (fun _ _ i _ => len - (intOf i).toNat)
  case atStart => exact ⟨0, 0, 0, Nat.zero_le _, rfl, rfl, rfl, Lib.hid (by simp [totTo]), Lib.hid (Below.refl _ _)⟩
  case round =>
    obtain ⟨k, p, q, hk, rfl, rfl, rfl, HT, HB⟩ := hrel
    obtain ⟨wo, rfl⟩ : ∃ wo : World, wo = wr := ⟨_, rfl⟩
    have hlo := HL.out.below HB.out
    have hbds := totTo_bd l k (by omega)
    rw [HT.out] at hbds
    obtain ⟨p0, p1, q0, q1⟩ := hbds
    dsimp only at p0 p1 q0 q1
    by_cases hlt : k < len
    · obtain ⟨bb, off, rfl, hlt2, hc⟩ := hlo.2 (by omega)
      obtain ⟨zn, zl, zp, zw, zo, zi, zb, hx⟩ : ∃ zn zl zp zw zo zi zb, l[k]? = some ⟨zn, zl, zp, zw, zo, zi, zb⟩ := ⟨_, _, _, _, _, _, _, List.getElem?_eq_getElem (by omega)⟩
      obtain ⟨hc0, hc1, hc2, hc3, hc4, hc5, hc6⟩ := Blk.sevenAll hlo hlt hx
      dsimp only at hc0 hc1 hc2 hc3 hc4 hc5 hc6
      have t1 : (k : Int) < (len : Int) := by omega
      have t2 : (0 : Int) ≤ (k : Int) := by omega
      have t3 : ((k : Int)).toNat = k := by omega
      have hd : Below wo.heap.size wo wo := Below.refl _ _
      have hbo := HB.out.size
      have hts := totTo_snoc l k _ hx
      rw [HT.out] at hts
      unfold totStep at hts
      clear hc hlo hx
      cases hrz : rightB ⟨zn, zl, zp, zw, zo, zi, zb⟩ with
      | false =>
        rw [hrz] at hts
        have HT2 := Lib.hid hts
        clear hts
        go_wp2_with (go_at_call 38; refine (rright_lit _ _ _ _ _ _ _ _ hrz).mono ?_; rintro e w1 ⟨rfl, hb1⟩)
        go_roundw
        case rel => exact ⟨k + 1, p, q, by omega, by go_num, rfl, rfl, HT2, Lib.hid (HB.out.trans (hb1.mono hbo))⟩
        case measure => simp [intOf]; omega
      | true =>
        rw [hrz] at hts
        have HT2 := Lib.hid hts
        obtain ⟨b1, b2, b3, b4, b5, b6, b7⟩ := rightB_bd hrz
        dsimp only at b1 b2 b3 b4 b5 b6 b7
        clear hts
        go_wp2_with (go_at_call 38; refine (rright_lit _ _ _ _ _ _ _ _ hrz).mono ?_; rintro e w1 ⟨rfl, hb1⟩)
        go_roundw
        case rel => exact ⟨k + 1, p + zl, q + zp, by omega, by go_num, by go_num, by go_num, HT2, Lib.hid (HB.out.trans (hb1.mono hbo))⟩
        case measure => simp [intOf]; omega
    · obtain rfl : k = len := by omega
      have HT2 : Hid (totTo l l.length = (p, q)) := Lib.hid (by rw [hll]; exact HT.out)
      clear hlo
      go_wp2
      go_ret2
      exact ⟨by rw [HT2.out]; rfl, HB.out⟩

set_option maxRecDepth 100000 in
set_option maxHeartbeats 8000000 in
theorem total_any (a : Option Addr) (len cap : Nat) (l : List Blk) (W : World) (hm : len ≤ 1000000) (hl : Rws 7 Blk.cells W a len l) :
    Calls Try.prog 35 #[.slice a len cap] W fun e w' => e = .returned (.tuple #[.int .i64 (totTo l l.length).1, .int .i64 (totTo l l.length).2]) ∧ Below W.heap.size W w' := by
  have hll := hl.1
  have HL := Lib.hid hl
  clear hl
  go_enter Try.func35, Try.ntmps35
  go_wp2_with fail
  go_loopw [2, 3, 8] (fun x y i wr => ∃ (k : Nat) (p q : Int), k ≤ len ∧ i = .int .i64 (k : Int) ∧ x = .int .i64 p ∧ y = .int .i64 q ∧ Hid (totTo l k = (p, q)) ∧ Hid (Below W.heap.size W wr)) (fun _ _ i _ => len - (intOf i).toNat)
  case atStart => exact ⟨0, 0, 0, Nat.zero_le _, rfl, rfl, rfl, Lib.hid (by simp [totTo]), Lib.hid (Below.refl _ _)⟩
  case round =>
    obtain ⟨k, p, q, hk, rfl, rfl, rfl, HT, HB⟩ := hrel
    obtain ⟨wo, rfl⟩ : ∃ wo : World, wo = wr := ⟨_, rfl⟩
    have hlo := HL.out.below HB.out
    have hbds := totTo_bd l k (by omega)
    rw [HT.out] at hbds
    obtain ⟨p0, p1, q0, q1⟩ := hbds
    dsimp only at p0 p1 q0 q1
    by_cases hlt : k < len
    · obtain ⟨bb, off, rfl, hlt2, hc⟩ := hlo.2 (by omega)
      obtain ⟨zn, zl, zp, zw, zo, zi, zb, hx⟩ : ∃ zn zl zp zw zo zi zb, l[k]? = some ⟨zn, zl, zp, zw, zo, zi, zb⟩ := ⟨_, _, _, _, _, _, _, List.getElem?_eq_getElem (by omega)⟩
      obtain ⟨hc0, hc1, hc2, hc3, hc4, hc5, hc6⟩ := Blk.sevenAll hlo hlt hx
      dsimp only at hc0 hc1 hc2 hc3 hc4 hc5 hc6
      have t1 : (k : Int) < (len : Int) := by omega
      have t2 : (0 : Int) ≤ (k : Int) := by omega
      have t3 : ((k : Int)).toNat = k := by omega
      have hd : Below wo.heap.size wo wo := Below.refl _ _
      have hbo := HB.out.size
      have hts := totTo_snoc l k _ hx
      rw [HT.out] at hts
      unfold totStep at hts
      clear hc hlo hx
      have hba : Below wo.heap.size wo (wo.alloc (.cells #[.int .i64 zn, .int .i64 zl, .int .i64 zp, .int .i64 zw, .bool zo, .bool zi, .bool zb] 57)) := (Below.refl _ _).alloc (Nat.le_refl _) _
      have HBA := Lib.hid hba
      clear hba
      cases hrz : rightB ⟨zn, zl, zp, zw, zo, zi, zb⟩ with
      | false =>
        rw [hrz] at hts
        have HT2 := Lib.hid hts
        clear hts
        go_wp2_with (go_at_call 37; refine (right7_lit _ _ _ _ _ _ _ _ hrz).mono ?_; rintro e w1 ⟨rfl, hb1⟩)
        go_roundw
        case rel => exact ⟨k + 1, p, q, by omega, by go_num, rfl, rfl, HT2, Lib.hid (HB.out.trans ((HBA.out.trans (hb1.mono (by simp))).mono hbo))⟩
        case measure => simp [intOf]; omega
      | true =>
        rw [hrz] at hts
        have HT2 := Lib.hid hts
        obtain ⟨b1, b2, b3, b4, b5, b6, b7⟩ := rightB_bd hrz
        dsimp only at b1 b2 b3 b4 b5 b6 b7
        clear hts
        go_wp2_with (go_at_call 37; refine (right7_lit _ _ _ _ _ _ _ _ hrz).mono ?_; rintro e w1 ⟨rfl, hb1⟩; have c1 := hb1.cell (p := ⟨wo.heap.size, 1, none⟩) (by simp); have c2 := hb1.cell (p := ⟨wo.heap.size, 2, none⟩) (by simp); simp at c1 c2)
        go_quiet (fail)
        all_goals
          go_wp2
          go_roundw
          case rel => exact ⟨k + 1, p + zl, q + zp, by omega, by go_num, by go_num, by go_num, HT2, Lib.hid (HB.out.trans (below_drewN' ((HBA.out.trans (hb1.mono (by simp))).mono hbo) _))⟩
          case measure => simp [intOf]; omega
    · obtain rfl : k = len := by omega
      have HT2 : Hid (totTo l l.length = (p, q)) := Lib.hid (by rw [hll]; exact HT.out)
      clear hlo
      go_wp2
      go_ret2
      exact ⟨by rw [HT2.out]; rfl, HB.out⟩

end Go.Proofs.Ytjadkfgkidejbaa
