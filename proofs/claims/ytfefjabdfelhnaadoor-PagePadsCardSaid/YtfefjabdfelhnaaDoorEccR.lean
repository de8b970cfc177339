/- ecc: the walks of the reference. -/
import Derived.Test.YtfefjabdfelhnaaDoorEccC
namespace Go.Proofs.YtfefjabdfelhnaaDoor
open Go.RowKit
set_option linter.unusedVariables false

def gat (want c : Nat) : List Nat := (List.range c).filter fun x => decide (Ecc.pops x = want)
def baseOf : Nat → List Nat
  | 0 => []
  | 1 => gat 3 256
  | _ => Ecc.colsL
def endOf : Nat → Nat
  | 0 => 256
  | _ => 88
theorem gat_succ (want c : Nat) : gat want (c + 1) = gat want c ++ (if Ecc.pops c = want then [c] else []) := by
  unfold gat
  rw [List.range_succ, List.filter_append]
  by_cases h : Ecc.pops c = want <;> simp [h]
theorem base_next : ∀ st, st < 2 → baseOf st ++ gat (3 + 2 * st) (endOf st) = baseOf (st + 1) := by decide +kernel
theorem base_len : ∀ st, st < 2 → ∀ c, c < endOf st → (baseOf st ++ gat (3 + 2 * st) c).length < 64 := by decide +kernel
theorem end_le : ∀ st, endOf st ≤ 256 := by intro st; unfold endOf; split <;> omega

theorem pops_half (x : Nat) (h : x < 256) : Ecc.pops x = x % 2 + Ecc.pops (x / 2) := by unfold Ecc.pops; omega

theorem rones_any (x0 : Nat) (hx0 : x0 < 256) (w : World) :
    Calls Tryd.prog 40 #[.int .i64 x0] w fun e w' => e = .returned (.int .i64 (Ecc.pops x0)) ∧ w = w' := by
  go_enter Tryd.func40, Tryd.ntmps40
  go_wp2
  go_loop [0, 3] (fun v c => ∃ x k : Nat, x < 256 ∧ v = .int .i64 x ∧ c = .int .i64 k ∧ k ≤ 8 ∧ Hid (k + Ecc.pops x = Ecc.pops x0)) (fun v _ => (intOf v).toNat)
  case atStart => exact ⟨x0, 0, hx0, rfl, rfl, by omega, Nat.zero_add _⟩
  case round =>
    obtain ⟨x, k, hx, rfl, rfl, hk8, HK⟩ := hrel
    by_cases h0 : 0 < x
    · have hp := pops_half x hx
      have hle := pops_le x0
      have HE : Hid (k + x % 2 + Ecc.pops (x / 2) = Ecc.pops x0) := by unfold Hid; have := HK.out; omega
      have hk2 : k + x % 2 ≤ 8 := by have := HE.out; omega
      clear hp
      go_wp2
      go_round
      case rel => exact ⟨x / 2, k + x % 2, by omega, by go_num, by go_num, hk2, HE⟩
      case measure => simp [intOf]; omega
    · obtain rfl : x = 0 := by omega
      have hz : Ecc.pops 0 = 0 := by decide
      have h1 : k = Ecc.pops x0 := by have := HK.out; omega
      subst h1
      go_wp2
      go_ret
      exact ⟨rfl, rfl⟩

theorem Tryd.infoU8 : (Tryd.prog.info? 5).map (fun i => (i.zero, i.size, i.bytes)) = some (some (.int .u8 0), 1, 1) := by kernel_rfl

/-- What the columns' slice is. -/
def ColsAt (B : Nat) (w : World) (v : Value) : Prop := ∃ g cap, v = .slice (some ⟨g, 0, none⟩) 64 cap ∧ B ≤ g ∧ g < w.heap.size ∧ ∀ i, i < 64 → w.cell? ⟨g, i, none⟩ = some (.int .u8 (Ecc.col i))

set_option maxRecDepth 100000 in
set_option maxHeartbeats 4000000 in
theorem rcolumns_any (w : World) :
    Calls Tryd.prog 32 #[] w fun e w' => (∃ v, e = .returned v ∧ ColsAt w.heap.size w' v) ∧ Below w.heap.size w w' := by
  obtain ⟨POST, hPOST⟩ : ∃ Q : Ending → World → Prop, Q = fun e w' => (∃ v, e = .returned v ∧ ColsAt w.heap.size w' v) ∧ Below w.heap.size w w' := ⟨_, rfl⟩
  rw [← hPOST]
  have HPOST := Lib.hid hPOST
  clear hPOST
  go_enter Tryd.func32, Tryd.ntmps32
  go_wp2
  go_loopw [1, 2, 3] (fun v want _c wr => ∃ st wn : Nat, st ≤ 2 ∧ Hid (wn = 3 + 2 * st) ∧ want = .int .i64 (wn : Int) ∧ wr.ownsRow w.heap.size 5 1 v (baseOf st).length (u8s (baseOf st)) ∧ Below w.heap.size w wr) (fun _ want _ _ => 8 - (intOf want).toNat)
  case atStart => exact ⟨0, 3, by omega, rfl, rfl, World.ownsRow_nil w w.heap.size 5 1, Below.refl _ _⟩
  case round =>
    obtain ⟨st, wn, hst, HW, rfl, hown, hb⟩ := hrel
    by_cases h2 : st < 2
    · have hw5 : wn ≤ 5 := by have := HW.out; omega
      have hw5b : decide ((wn : Int) ≤ 5) = true := by simp; omega
      go_wp2
      obtain ⟨wo, rfl⟩ : ∃ wo : World, wo = wr := ⟨_, rfl⟩
      go_loopw [1, 3] (fun v c wr => ∃ c0 : Nat, c0 ≤ endOf st ∧ c = .int .i64 c0 ∧ wr.ownsRow w.heap.size 5 1 v (baseOf st ++ gat wn c0).length (u8s (baseOf st ++ gat wn c0)) ∧ Below w.heap.size w wr) (fun _ c _ => 256 - (intOf c).toNat)
      case atStart => exact ⟨0, by omega, rfl, by simpa [gat] using hown, hb⟩
      case round =>
        clear hown hb
        obtain ⟨c0, hc0, rfl, hown, hb⟩ := hrel
        obtain ⟨a, cap, rfl⟩ := own_form hown
        have hel := end_le st
        have hsz := hb.size
        obtain ⟨L, hL⟩ : ∃ L, L = baseOf st ++ gat wn c0 := ⟨_, rfl⟩
        rw [← hL] at hown ⊢
        have HL := Lib.hid hL
        clear hL
        by_cases hlt : c0 < endOf st
        · have hlen : L.length < 64 := by have := base_len st h2 c0 hlt; rw [← HW.out, ← HL.out] at this; exact this
          have hsu := gat_succ wn c0
          have hpl := pops_le c0
          by_cases hp : Ecc.pops c0 = wn
          · have hp1 : ((Ecc.pops c0 : Int) == (wn : Int)) = true := by simp [hp]
            rw [if_pos hp] at hsu
            have HS := Lib.hid hsu
            have HO := Lib.hid hown
            have HBL := Lib.hid hb
            clear hsu hp hown hb
            go_wp2_with (first | (go_at_call 40; refine (rones_any c0 (by omega) _).mono ?_; rintro e w' ⟨rfl, rfl⟩) | (at_builtin; refine Stop.mk ?_))
            refine Stop.go ?_
            refine wpList_app_u8 rfl _ _ 22 rfl w.heap.size 5 Tryd.underlying22 Tryd.infoU8 (.slice a L.length cap) L.length L rfl (HO.out.alloc _) _ 1 1 [c0] rfl (bytes_lit1 (by omega)) (fun h => by simp at h) (by omega) (by simp; omega) ?_
            intro v2 w2 hown2 hgrow2
            have HO2 := Lib.hid hown2
            have HB2 := Lib.hid ((HBL.out.alloc hsz _).grown hgrow2 (by simp; omega) (fun k hk => (HO.out.lt k hk).1))
            clear hown2 hgrow2
            go_wp2
            go_roundw
            case rel => exact ⟨c0 + 1, by omega, by go_num, by rw [HS.out, ← List.append_assoc, ← HL.out, List.length_append]; exact HO2.out, HB2.out⟩
            case measure => simp [intOf]; omega
          · have hp1 : ((Ecc.pops c0 : Int) == (wn : Int)) = false := by simp; omega
            rw [if_neg hp, List.append_nil] at hsu
            have HS := Lib.hid hsu
            have HO := Lib.hid hown
            have HBL := Lib.hid hb
            clear hsu hp hown hb
            go_wp2_with (first | (go_at_call 40; refine (rones_any c0 (by omega) _).mono ?_; rintro e w' ⟨rfl, rfl⟩) | (at_builtin; refine Stop.mk ?_))
            go_roundw
            case rel => exact ⟨c0 + 1, by omega, by go_num, by rw [HS.out, ← HL.out]; exact HO.out, HBL.out⟩
            case measure => simp [intOf]; omega
        · have hce : c0 = endOf st := by omega
          have hbn : L = baseOf (st + 1) := by rw [HL.out, HW.out, hce]; exact base_next st h2
          have HBN := Lib.hid hbn
          have HO := Lib.hid hown
          have HBL := Lib.hid hb
          clear hbn hown hb
          have h01 : (st = 0 ∧ c0 = 256) ∨ (st = 1 ∧ c0 = 88) := by
            rcases (show st = 0 ∨ st = 1 by omega) with h | h
            · exact .inl ⟨h, by rw [hce, h]; rfl⟩
            · exact .inr ⟨h, by rw [hce, h]; rfl⟩
          rcases h01 with ⟨hs0, hc1⟩ | ⟨hs0, hc1⟩
          · have h256 : ¬ c0 < 256 := by omega
            clear hce hs0 hc1
            go_wp2
            go_roundw
            case rel => exact ⟨st + 1, wn + 2, by omega, by unfold Hid; have := HW.out; omega, by go_num, by rw [← HBN.out]; exact HO.out, HBL.out⟩
            case measure => simp [intOf]; omega
          · have h256 : c0 < 256 := by omega
            have hL64 : ¬ L.length < 64 := by rw [HBN.out, hs0]; decide
            clear hce hs0 hc1
            go_wp2
            go_roundw
            case rel => exact ⟨st + 1, wn + 2, by omega, by unfold Hid; have := HW.out; omega, by go_num, by rw [← HBN.out]; exact HO.out, HBL.out⟩
            case measure => simp [intOf]; omega
    · obtain rfl : st = 2 := by omega
      have hw5 : ¬ wn ≤ 5 := by have := HW.out; omega
      have hw5b : decide ((wn : Int) ≤ 5) = false := by simp; omega
      obtain ⟨g, cap, hv⟩ := own_shape hown (by decide)
      rw [hv] at hown ⊢
      have hC : ColsAt w.heap.size wr (.slice (some ⟨g, 0, none⟩) 64 cap) := by
        have hlt := hown.lt g rfl
        have hlen : (baseOf 2).length = 64 := rfl
        refine ⟨g, cap, rfl, hlt.1, hlt.2, fun i hi => ?_⟩
        rw [hown.cellAt i (by rw [hlen]; omega)]
        have hi2 : i < Ecc.colsL.length := hi
        show (u8s Ecc.colsL)[i]? = _
        simp only [u8s, List.getElem?_map, List.getElem?_eq_getElem hi2, Option.map_some, Ecc.col, List.getD, Option.getD_some]
      have HC := Lib.hid hC
      clear hC hown hv
      go_wp2
      rw [HPOST.out]
      exact ⟨⟨_, rfl, HC.out⟩, hb⟩

theorem shr_bit (x i : Nat) (hx : x < 18446744073709551616) : bits .and .u64 ((x : Int) / 2 ^ i) 1 = if x.testBit i then 1 else 0 := by
  have e : ((x : Int) / 2 ^ i) = ((x / 2 ^ i : Nat) : Int) := by simp
  rw [e, show (1 : Int) = ((1 : Nat) : Int) by rfl, u64_and_nat _ 1 (Nat.lt_of_le_of_lt (Nat.div_le_self _ _) hx) (by omega), nat_mask1]
  have h : x.testBit i = (x / 2 ^ i % 2 == 1) := by simp [Nat.testBit, Nat.shiftRight_eq_div_pow]
  rw [h]
  by_cases h1 : x / 2 ^ i % 2 = 1
  · rw [h1]; rfl
  · have h0 : x / 2 ^ i % 2 = 0 := by omega
    rw [h0]; rfl

/-- The columns' slice, as its cells. -/
structure Cols (w : World) (a : Option Addr) (cap : Nat) : Prop where
  at_ : ∃ g, a = some ⟨g, 0, none⟩ ∧ g < w.heap.size ∧ ∀ i, i < 64 → w.cell? ⟨g, i, none⟩ = some (.int .u8 (Ecc.col i))

set_option maxHeartbeats 1000000 in
theorem rcheck_any (a : Option Addr) (cap : Nat) (x : Nat) (hx : x < 18446744073709551616) (w : World) (hC : Cols w a cap) :
    Calls Tryd.prog 35 #[.slice a 64 cap, .int .u64 x] w fun e w' => e = .returned (.int .u8 (Ecc.chk x)) ∧ w = w' := by
  obtain ⟨g, rfl, hg, hc⟩ := hC.at_
  clear hC
  go_enter Tryd.func35, Tryd.ntmps35
  go_wp2
  go_loop [5, 6] (fun c i => ∃ n : Nat, n ≤ 64 ∧ i = .int .i64 n ∧ c = .int .u8 (Ecc.chkTo n x : Nat)) (fun _ i => 64 - (intOf i).toNat)
  case atStart => exact ⟨0, by omega, rfl, rfl⟩
  case round =>
    obtain ⟨n, hn, rfl, rfl⟩ := hrel
    by_cases hlt : n < 64
    · have hcell := hc n hlt
      have hb := shr_bit x n hx
      have hl := Ecc.chkTo_lt n x
      have hcl := Ecc.col_lt n
      by_cases ht : x.testBit n = true
      · rw [if_pos ht] at hb
        have HS : Hid (Ecc.chkTo (n + 1) x = Ecc.chkTo n x ^^^ Ecc.col n) := by unfold Hid; rw [Ecc.chkTo, if_pos ht]
        clear ht
        go_wp2
        go_round
        case rel => exact ⟨n + 1, by omega, by go_num, by rw [HS.out, ← u8_xor_nat _ _ hl hcl]⟩
        case measure => simp [intOf]; omega
      · rw [if_neg ht] at hb
        have HS : Hid (Ecc.chkTo (n + 1) x = Ecc.chkTo n x) := by unfold Hid; rw [Ecc.chkTo, if_neg ht, Nat.xor_zero]
        clear ht
        go_wp2
        go_round
        case rel => exact ⟨n + 1, by omega, by go_num, by rw [HS.out]⟩
        case measure => simp [intOf]; omega
    · obtain rfl : n = 64 := by omega
      go_wp2
      go_ret
      exact ⟨rfl, rfl⟩

set_option maxHeartbeats 1000000 in
theorem rmend_any (a : Option Addr) (cap : Nat) (x c : Nat) (hx : x < 18446744073709551616) (hc : c < 256) (w : World) (hC : Cols w a cap) :
    Calls Tryd.prog 33 #[.slice a 64 cap, .int .u64 x, .int .u8 c] w fun e w' => e = .returned (mendV x c) ∧ w = w' := by
  obtain ⟨s, hs⟩ : ∃ s, s = Ecc.chk x ^^^ c := ⟨_, rfl⟩
  have hsl : s < 256 := by rw [hs]; exact Nat.xor_lt_two_pow (n := 8) (Ecc.chk_lt x) hc
  have HX : Hid (bits .xor .u8 (Ecc.chk x : Nat) (c : Int) = (s : Int)) := by unfold Hid; rw [u8_xor_nat _ _ (Ecc.chk_lt x) hc, hs]
  have hck := rcheck_any a cap x hx w hC
  obtain ⟨g, rfl, hg, hcc⟩ := hC.at_
  have HCK := Lib.hid hck
  clear hck hC
  by_cases h0 : s = 0
  · have HV : Hid (mendV x c = .tuple #[.int .u64 x, .int .u8 c, .int .i64 0]) := by unfold Hid mendV Ecc.mendW; rw [← hs, if_pos h0]; rfl
    clear hs
    have h1 : ((s : Int) == 0) = true := by simp [h0]
    clear h0
    have hX := HX.out
    go_enter Tryd.func33, Tryd.ntmps33
    go_wp2_with (go_at_call 35; refine HCK.out.mono ?_; rintro e w' ⟨rfl, rfl⟩)
    go_ret3
    exact ⟨by rw [HV.out]; rfl, rfl⟩
  · have hV1 : ∀ n, n < 64 → Ecc.findCol s = n → mendV x c = .tuple #[.int .u64 ((x ^^^ 2 ^ n : Nat) : Int), .int .u8 c, .int .i64 1] := by
      intro n hn hf; unfold mendV Ecc.mendW; rw [← hs, if_neg h0, hf, if_pos hn]; rfl
    have hV2 : Ecc.findCol s = 64 → Ecc.pops s = 1 → mendV x c = .tuple #[.int .u64 x, .int .u8 ((c ^^^ s : Nat) : Int), .int .i64 1] := by
      intro hf hp; unfold mendV Ecc.mendW; rw [← hs, if_neg h0, hf, if_neg (by omega), if_pos hp]; rfl
    have hV3 : Ecc.findCol s = 64 → ¬ Ecc.pops s = 1 → mendV x c = .tuple #[.int .u64 x, .int .u8 c, .int .i64 2] := by
      intro hf hp; unfold mendV Ecc.mendW; rw [← hs, if_neg h0, hf, if_neg (by omega), if_neg hp]; rfl
    have HV1 := Lib.hid hV1
    have HV2 := Lib.hid hV2
    have HV3 := Lib.hid hV3
    clear hs hV1 hV2 hV3
    have h1 : ((s : Int) == 0) = false := by simp; omega
    have hX := HX.out
    go_enter Tryd.func33, Tryd.ntmps33
    go_wp2_with (go_at_call 35; refine HCK.out.mono ?_; rintro e w' ⟨rfl, rfl⟩)
    clear hX
    go_loop [10] (fun i => ∃ n : Nat, n ≤ 64 ∧ i = .int .i64 n ∧ Hid (∀ j, j < n → Ecc.col j ≠ s)) (fun i => 64 - (intOf i).toNat)
    case atStart => exact ⟨0, by omega, rfl, fun j hj => by omega⟩
    case round =>
      obtain ⟨n, hn, rfl, HJ⟩ := hrel
      by_cases hlt : n < 64
      · have hp := pow64_lt n hlt
        have hcell := hcc n hlt
        by_cases hq2 : Ecc.col n = s
        · have hq : ((Ecc.col n : Int) == (s : Int)) = true := by simp; omega
          have HQ := Lib.hid hq2
          clear hq2
          go_wp2
          go_ret3
          refine ⟨?_, rfl⟩
          rw [HV1.out n hlt (Ecc.findCol_at s n hlt HQ.out HJ.out)]
          show Ending.returned (.tuple #[.int .u64 (bits .xor .u64 (x : Int) (IntKind.u64.wrap (2 ^ n))), _, _]) = _
          rw [wrap_pow n hlt, u64_xor_nat _ _ hx hp]; rfl
        · have hq : ((Ecc.col n : Int) == (s : Int)) = false := by simp; omega
          have HQ := Lib.hid hq2
          clear hq2
          go_wp2
          go_round
          case rel => exact ⟨n + 1, by omega, by go_num, fun j hj => by
                        by_cases e : j = n
                        · rw [e]; exact HQ.out
                        · exact HJ.out j (by omega)⟩
          case measure => simp [intOf]; omega
      · obtain rfl : n = 64 := by omega
        have HF : Hid (Ecc.findCol s = 64) := Ecc.findCol_none s HJ.out
        by_cases hp : Ecc.pops s = 1
        · have hp1 : ((Ecc.pops s : Int) == 1) = true := by simp; omega
          have HP := Lib.hid hp
          clear hp
          go_wp2_with (go_at_call 40; refine (rones_any s hsl _).mono ?_; rintro e w' ⟨rfl, rfl⟩)
          go_ret3
          refine ⟨?_, rfl⟩
          rw [HV2.out HF.out HP.out]
          show Ending.returned (.tuple #[_, .int .u8 (bits .xor .u8 (c : Int) (s : Int)), _]) = _
          rw [u8_xor_nat _ _ hc hsl]; rfl
        · have hp1 : ((Ecc.pops s : Int) == 1) = false := by simp; omega
          have HP := Lib.hid hp
          clear hp
          go_wp2_with (go_at_call 40; refine (rones_any s hsl _).mono ?_; rintro e w' ⟨rfl, rfl⟩)
          go_ret3
          exact ⟨by rw [HV3.out HF.out HP.out]; rfl, rfl⟩

end Go.Proofs.YtfefjabdfelhnaaDoor
