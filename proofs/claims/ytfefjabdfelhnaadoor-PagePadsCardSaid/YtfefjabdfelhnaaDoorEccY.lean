/- ecc: the reference's word and Words. -/
import Derived.Test.YtfefjabdfelhnaaDoorEccX
namespace Go.Proofs.YtfefjabdfelhnaaDoor
open Go Go.RowKit
set_option linter.unusedVariables false

theorem or_low (x c : Nat) (hx : x < 72057594037927936) (hc : c < 256) : bits .or .u64 ((x * 256 : Nat) : Int) (c : Int) = ((x * 256 + c : Nat) : Int) := by
  rw [u64_or_nat _ _ (by omega) (by omega)]
  have h := Nat.shiftLeft_add_eq_or_of_lt (i := 8) (b := c) (by omega) x
  rw [Nat.shiftLeft_eq] at h
  rw [show x * 256 = x * 2 ^ 8 by rfl, ← h]

set_option maxRecDepth 100000 in
set_option maxHeartbeats 4000000 in
theorem rword_any (b off len cap : Nat) (l : List Nat) (i : Nat) (w : World) (hi : Bytes w (some ⟨b, off, none⟩) len l) (hl : len ≤ 100000) (hk : 8 * i < len) :
    Calls Tryd.prog 34 #[.slice (some ⟨b, off, none⟩) len cap, .int .i64 (i : Int)] w fun e w' => e = .returned (.int .u64 ((wordAt l i : Nat) : Int)) ∧ w = w' := by
  have hcell : ∀ i, i < len → w.cell? ⟨b, off + i, none⟩ = some (.int .u8 (l.getD i 0 : Nat)) := by
    intro i h
    obtain ⟨b', o', he, _, hc⟩ := hi.2.2 (by omega)
    simp at he
    obtain ⟨rfl, rfl⟩ := he
    exact hc i h
  have HCell := Lib.hid hcell
  have H256 := Lib.hid hi.2.1
  have hll := hi.1
  obtain ⟨q, hq⟩ : ∃ q, q = 8 * i := ⟨_, rfl⟩
  have hqi : (8 : Int) * (i : Int) = (q : Int) := by omega
  have HW : Hid (wordAt l i = le (l.drop q) 8) := Lib.hid (by rw [hq]; rfl)
  have hql : q < len := by omega
  clear hcell hi hq hk
  go_enter Tryd.func34, Tryd.ntmps34
  go_wp2_with fail
  go_loop [5, 6] (fun v t => ∃ r x : Nat, r ≤ 8 ∧ t = .int .i64 (7 - (r : Int)) ∧ v = .int .u64 (x : Int) ∧ Hid (x = le (l.drop (q + 8 - r)) r)) (fun _ t => (intOf t + 1).toNat)
  case atStart => exact ⟨0, 0, by omega, rfl, rfl, Lib.hid rfl⟩
  case round =>
    obtain ⟨r, x, hr, rfl, rfl, HX⟩ := hrel
    by_cases hlt : r < 8
    · have t1 : (7 : Int) - (r : Int) ≥ 0 := by omega
      obtain ⟨t, ht⟩ : ∃ t : Nat, (7 : Int) - (r : Int) = (t : Int) := ⟨7 - r, by omega⟩
      rw [ht]
      have hxl : x < 72057594037927936 := by
        rw [HX.out]
        have h1 := le_lt (l := l.drop (q + 8 - r)) (fun c hc => H256.out c (List.mem_of_mem_drop hc)) r
        have h2 : 256 ^ r ≤ 256 ^ 7 := Nat.pow_le_pow_right (by omega) (by omega)
        omega
      have hsplit : le (l.drop (q + t)) (r + 1) = l.getD (q + t) 0 + 256 * x := by
        rw [le_cons, List.drop_drop, HX.out, show q + t + 1 = q + 8 - r by omega]
        simp [List.getD]
      have HS := Lib.hid hsplit
      have hxe : x * 256 < 18446744073709551616 := by omega
      obtain ⟨x2, hx2⟩ : ∃ x2, x2 = x * 256 := ⟨_, rfl⟩
      have hsh : IntKind.u64.wrap ((x : Int) * 256) = (x2 : Int) := by rw [IntKind.wrap_u64]; omega
      have t2 : (t : Int) ≥ 0 := by omega
      by_cases hin : q + t < len
      · have hcl := HCell.out (q + t) hin
        have hc8 : l.getD (q + t) 0 < 256 := by
          have : l.getD (q + t) 0 ∈ l := by rw [List.getD, List.getElem?_eq_getElem (by omega)]; exact List.getElem_mem _
          exact H256.out _ this
        obtain ⟨c, hc⟩ : ∃ c, c = l.getD (q + t) 0 := ⟨_, rfl⟩
        rw [← hc] at hcl hc8
        have hor := or_low x c hxl hc8
        rw [← hx2] at hor
        have t3 : (q : Int) + (t : Int) < (len : Int) := by omega
        have hrel2 : x2 + c = le (l.drop (q + 8 - (r + 1))) (r + 1) := by
          rw [show q + 8 - (r + 1) = q + t by omega, HS.out, hc, hx2]; omega
        have HR := Lib.hid hrel2
        clear hc hx2 hrel2
        go_wp2
        go_round
        case rel => exact ⟨r + 1, x2 + c, by omega, by go_num, rfl, HR⟩
        case measure => first | (simp [intOf]; done) | (simp [intOf]; omega)
      · have t3 : ¬ ((q : Int) + (t : Int) < (len : Int)) := by omega
        have hrel2 : x2 = le (l.drop (q + 8 - (r + 1))) (r + 1) := by
          have h0 : l.getD (q + t) 0 = 0 := by rw [List.getD, List.getElem?_eq_none (by omega)]; rfl
          rw [show q + 8 - (r + 1) = q + t by omega, HS.out, h0, hx2]; omega
        have HR := Lib.hid hrel2
        clear hx2 hrel2
        go_wp2
        go_round
        case rel => exact ⟨r + 1, x2, by omega, by go_num, rfl, HR⟩
        case measure => first | (simp [intOf]; done) | (simp [intOf]; omega)
    · obtain rfl : r = 8 := by omega
      have hfin : (.int .u64 (x : Int) : Value) = .int .u64 ((wordAt l i : Nat) : Int) := by rw [HW.out, HX.out]; congr 4
      have HFin := Lib.hid hfin
      clear hfin
      go_wp2
      go_ret
      exact ⟨by rw [HFin.out]; rfl, rfl⟩

theorem Cols.below {w w' : World} {a : Option Addr} {cap : Nat} (h : Cols w a cap) {B : Nat} (hb : Below B w w') (hB : w.heap.size ≤ B) : Cols w' a cap := by
  obtain ⟨g, rfl, hg, hc⟩ := h
  refine ⟨g, rfl, by have := hb.size; omega, fun i hi => ?_⟩
  rw [← hc i hi]
  exact hb.cell (p := ⟨g, i, none⟩) (Nat.lt_of_lt_of_le hg hB)

theorem FreshB.mono {B B' : Nat} {w : World} {v : Value} {l : List Nat} (h : FreshB B w v l) (hB : B' ≤ B) : FreshB B' w v l := by
  obtain ⟨a, cap, h1, h2, h3, h4, h5, h6⟩ := h
  exact ⟨a, cap, h1, h2, h3, h4, h5, fun h0 ad e => Nat.le_trans hB (h6 h0 ad e)⟩

set_option maxRecDepth 100000 in
set_option maxHeartbeats 4000000 in
theorem rwordsB_any (a : Option Addr) (len cap : Nat) (l : List Nat) (w : World) (hi : Bytes w a len l) (hl : len ≤ 100000) (hc : len ≤ cap) :
    Calls Tryd.prog 13 #[.slice a len cap] w fun e w' => (∃ v, e = .returned v ∧ FreshB w.heap.size w' v (wordsOf l)) ∧ Below w.heap.size w w' := by
  have HIn := Lib.hid hi
  have hll := hi.1
  clear hi
  obtain ⟨POST, hPOST⟩ : ∃ Q : Ending → World → Prop, Q = fun e w' => (∃ v, e = .returned v ∧ FreshB w.heap.size w' v (wordsOf l)) ∧ Below w.heap.size w w' := ⟨_, rfl⟩
  rw [← hPOST]
  have HPOST := Lib.hid hPOST
  clear hPOST
  obtain ⟨M, hM⟩ : ∃ M, M = (len + 7) / 8 := ⟨_, rfl⟩
  have HW : Hid (wordsTo l M = wordsOf l) := Lib.hid (by unfold wordsOf; rw [hll, hM])
  have hM1 : 8 * M ≤ len + 7 := by omega
  have hM2 : len ≤ 8 * M := by omega
  clear hM
  go_enter Tryd.func13, Tryd.ntmps13
  go_wp2_with fail
  refine (rcolumns_any _).mono ?_
  rintro e w1 ⟨⟨v, he, hC⟩, hb⟩
  obtain ⟨ca, ccap, hv, hC2⟩ := hC.cols
  rw [hv] at he
  subst he
  have HC2 := Lib.hid hC2
  have HB1 := Lib.hid hb
  have hsz1 := hb.size
  clear hC hv hC2 hb
  go_wp2_with fail
  go_loopw [4, 5] (fun v i wr => ∃ k : Nat, k ≤ M ∧ i = .int .i64 (k : Int) ∧ Hid (wr.ownsRow w1.heap.size 5 1 v k (u8s (wordsTo l k))) ∧ Hid (Below w1.heap.size w1 wr)) (fun _ i _ => M - (intOf i).toNat)
  case atStart => exact ⟨0, by omega, rfl, Lib.hid ⟨rfl, .inl ⟨rfl, rfl⟩⟩, Lib.hid (Below.refl _ _)⟩
  case round =>
    obtain ⟨k, hk, rfl, HO, HB⟩ := hrel
    obtain ⟨wo, rfl⟩ : ∃ wo : World, wo = wr := ⟨_, rfl⟩
    by_cases hlt : 8 * k < len
    · have hx := (HIn.out.below (HB1.out.trans (HB.out.mono hsz1)) (Nat.le_refl _))
      obtain ⟨b, off, rfl, hbl, hcell⟩ := hx.2.2 (by omega)
      clear hcell
      have HD := Lib.hid hx
      have hX := wordAt_lt HIn.out.2.1 k
      obtain ⟨X, hXe⟩ : ∃ X, X = wordAt l k := ⟨_, rfl⟩
      have HX : Hid (X = wordAt l k) := Lib.hid hXe
      rw [← hXe] at hX
      have hS := wordsTo_succ l k
      rw [← hXe] at hS
      have HS := Lib.hid hS
      have HCk := Ecc.chk_lt X
      have hC3 := HC2.out.below HB.out (Nat.le_refl _)
      have HC3 := Lib.hid hC3
      have hsz := HB.out.size
      have t3 : (8 : Int) * (k : Int) < (len : Int) := by omega
      clear hx hXe hS hC3
      go_wp2_with (first | (go_at_call 34; refine (rword_any b off len cap l k _ HD.out hl hlt).mono ?_; rintro e w2 ⟨rfl, rfl⟩; rw [← HX.out]) | (go_at_call 35; refine (rcheck_any ca ccap X hX _ HC3.out).mono ?_; rintro e w2 ⟨rfl, rfl⟩) | (at_builtin; refine Stop.mk ?_))
      refine Stop.go ?_
      refine wpList_app_u8 rfl _ _ 22 rfl w1.heap.size 5 Tryd.underlying22 Tryd.infoU8 u4 k (wordsTo l k) rfl (HO.out.alloc _) _ 1 1 [Ecc.chk X] rfl (bytes_lit1 HCk) (fun h => by simp at h) (by omega) (by simp; omega) ?_
      intro v2 w2 hown2 hgrow2
      rw [← HS.out] at hown2
      have HO2 := Lib.hid hown2
      have HB2 := Lib.hid ((HB.out.alloc hsz _).grown hgrow2 (by simp; omega) (fun j hj => (HO.out.lt j hj).1))
      clear hown2 hgrow2
      go_wp2
      go_roundw
      case rel => exact ⟨k + 1, by omega, by go_num, HO2, HB2⟩
      case measure => simp [intOf]; omega
    · obtain rfl : k = M := by omega
      have hfin : POST (.returned u4) wo := by
        rw [HPOST.out]
        refine ⟨⟨u4, rfl, ?_⟩, HB1.out.trans (HB.out.mono hsz1)⟩
        rw [← HW.out]
        exact (FreshB.of_own HO.out (wordsTo_lt l k)).mono hsz1
      have HFin := Lib.hid hfin
      obtain ⟨q, hq⟩ : ∃ q, q = 8 * k := ⟨_, rfl⟩
      have hqi : (8 : Int) * (k : Int) = (q : Int) := by omega
      have hend : ¬ ((q : Int) < (len : Int)) := by omega
      have hqb : (q : Int) ≤ 200000 := by omega
      have hqa : (0 : Int) ≤ (q : Int) := by omega
      clear hfin hM1 hM2 hlt hq
      go_wp2
      exact HFin.out

end Go.Proofs.YtfefjabdfelhnaaDoor
