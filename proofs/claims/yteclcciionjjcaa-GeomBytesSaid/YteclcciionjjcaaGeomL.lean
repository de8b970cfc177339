/- the reference's Decode of a shape: the walk. -/
import Derived.Test.YteclcciionjjcaaGeomK
import Derived.Test.YteclcciionjjcaaAreasS
namespace Go.Proofs.Yteclcciionjjcaa
open Go Go.RowKit
set_option linter.unusedVariables false

def RDecI (w wr : World) (l : List Nat) (k : Nat) : Prop := HasB wr w.heap.size #[.int .i64 0, .int .i64 0, .int .i64 0, .int .i64 0, .int .i64 0, .int .i64 0, .int .i64 0, .int .i64 0, .int .i64 0] 23 ∧ HasB wr (w.heap.size + 1) (decV l k).toArray 47 ∧ Below w.heap.size w wr
theorem RDecI.next {w wr : World} {l : List Nat} {k : Nat} (h : RDecI w wr l k) (hk : k < 9) {v : Nat} (hv : numB l k = v) : RDecI w (wr.setCell ⟨w.heap.size + 1, k, none⟩ (.int .i64 (v : Int))) l (k + 1) :=
  ⟨h.1.set_other (by simp) _, by rw [← decV_set l k hk, hv]; exact h.2.1.set k _, h.2.2.setCell (by simp) _⟩
theorem RDecI.drew {w wr : World} {l : List Nat} {k : Nat} (h : RDecI w wr l k) : RDecI w wr.drew l k := ⟨h.1.drew, h.2.1.drew, h.2.2.drew⟩

set_option maxRecDepth 100000 in
set_option maxHeartbeats 8000000 in
theorem rgdec_any (a : Option Addr) (len cap : Nat) (l : List Nat) (w : World) (hi : Bytes w a len l) (hl : len ≤ 1000000) :
    Calls Try.prog 7 #[.slice a len cap] w fun x w' => x = decE l ∧ Below w.heap.size w w' := by
  have hll := hi.1
  obtain ⟨POST, hPOST⟩ : ∃ POST : Ending → World → Prop, POST = fun x w' => x = decE l ∧ Below w.heap.size w w' := ⟨_, rfl⟩
  rw [← hPOST]
  have HPost := Lib.hid hPOST
  clear hPOST
  have HI1 : Hid (HasB (w.alloc (.cells #[.int .i64 0, .int .i64 0, .int .i64 0, .int .i64 0, .int .i64 0, .int .i64 0, .int .i64 0, .int .i64 0, .int .i64 0] 23)) w.heap.size #[.int .i64 0, .int .i64 0, .int .i64 0, .int .i64 0, .int .i64 0, .int .i64 0, .int .i64 0, .int .i64 0, .int .i64 0] 23 ∧ Below w.heap.size w (w.alloc (.cells #[.int .i64 0, .int .i64 0, .int .i64 0, .int .i64 0, .int .i64 0, .int .i64 0, .int .i64 0, .int .i64 0, .int .i64 0] 23)) ∧ (w.alloc (.cells #[.int .i64 0, .int .i64 0, .int .i64 0, .int .i64 0, .int .i64 0, .int .i64 0, .int .i64 0, .int .i64 0, .int .i64 0] 23)).heap.size = w.heap.size + 1) := Lib.hid ⟨HasB.new w _ _, (Below.refl _ _).alloc (Nat.le_refl _) _, by simp⟩
  by_cases h36 : len = 36
  · subst h36
    obtain ⟨bk, off, rfl, hbk, hcell⟩ := hi.2.2 (by omega)
    have HCell : Hid (∀ i : Nat, i < 36 → w.cell? ⟨bk, off + i, none⟩ = some (.int .u8 (l.getD i 0 : Nat))) := Lib.hid hcell
    have H8 : Hid (∀ c ∈ l, c < 256) := Lib.hid hi.2.1
    have HLen : Hid (l.length = 36) := Lib.hid hll
    clear hi hcell hll
    go_enter Try.func7, Try.ntmps7
    go_wp2_with fail
    have HI2 : Hid (RDecI w ((w.alloc (.cells #[.int .i64 0, .int .i64 0, .int .i64 0, .int .i64 0, .int .i64 0, .int .i64 0, .int .i64 0, .int .i64 0, .int .i64 0] 23)).alloc (.cells #[.int .i64 0, .int .i64 0, .int .i64 0, .int .i64 0, .int .i64 0, .int .i64 0, .int .i64 0, .int .i64 0, .int .i64 0] 47)) l 0) := Lib.hid ⟨HI1.out.1.alloc _, by rw [decV0]; exact HasB.new' (by simp) _ _, HI1.out.2.1.alloc (by simp) _⟩
    generalize ((w.alloc (.cells #[.int .i64 0, .int .i64 0, .int .i64 0, .int .i64 0, .int .i64 0, .int .i64 0, .int .i64 0, .int .i64 0, .int .i64 0] 23)).alloc (.cells #[.int .i64 0, .int .i64 0, .int .i64 0, .int .i64 0, .int .i64 0, .int .i64 0, .int .i64 0, .int .i64 0, .int .i64 0] 47)) = w1 at HI2 ⊢
    clear HI1
    go_loopw [5] (fun i wr => ∃ k : Nat, k ≤ 9 ∧ i = .int .i64 (k : Int) ∧ Hid (RDecI w wr l k)) (fun i _ => 9 - (intOf i).toNat)
    case atStart => exact ⟨0, by omega, rfl, HI2⟩
    case round =>
      clear HI2
      obtain ⟨k, hk, rfl, HR⟩ := hrel
      obtain ⟨wo, rfl⟩ : ∃ wo : World, wo = wr := ⟨_, rfl⟩
      by_cases hlt : k < 9
      · have t1 : (k : Int) < 9 := by omega
        obtain ⟨q, hq⟩ : ∃ q, q = 4 * k := ⟨_, rfl⟩
        obtain ⟨q1, hq1⟩ : ∃ q1, q1 = q + 1 := ⟨_, rfl⟩
        obtain ⟨q2, hq2⟩ : ∃ q2, q2 = q + 2 := ⟨_, rfl⟩
        obtain ⟨q3, hq3⟩ : ∃ q3, q3 = q + 3 := ⟨_, rfl⟩
        have hb := HR.out.2.2
        have d0 : wo.cell? ⟨bk, off + q, none⟩ = some (.int .u8 (l.getD q 0 : Nat)) := (hb.cell (p := ⟨bk, _, none⟩) hbk).trans (HCell.out q (by omega))
        have l0 := getD_lt256 l H8.out q
        have d1 : wo.cell? ⟨bk, off + q1, none⟩ = some (.int .u8 (l.getD q1 0 : Nat)) := (hb.cell (p := ⟨bk, _, none⟩) hbk).trans (HCell.out q1 (by omega))
        have l1 := getD_lt256 l H8.out q1
        have d2 : wo.cell? ⟨bk, off + q2, none⟩ = some (.int .u8 (l.getD q2 0 : Nat)) := (hb.cell (p := ⟨bk, _, none⟩) hbk).trans (HCell.out q2 (by omega))
        have l2 := getD_lt256 l H8.out q2
        have d3 : wo.cell? ⟨bk, off + q3, none⟩ = some (.int .u8 (l.getD q3 0 : Nat)) := (hb.cell (p := ⟨bk, _, none⟩) hbk).trans (HCell.out q3 (by omega))
        have l3 := getD_lt256 l H8.out q3
        have HNum : Hid (numB l k = l.getD q 0 + 256 * l.getD q1 0 + 65536 * l.getD q2 0 + 16777216 * l.getD q3 0) := Lib.hid (by rw [hq1, hq2, hq3, hq]; rfl)
        generalize l.getD q 0 = z0 at d0 l0 HNum
        generalize l.getD q1 0 = z1 at d1 l1 HNum
        generalize l.getD q2 0 = z2 at d2 l2 HNum
        generalize l.getD q3 0 = z3 at d3 l3 HNum
        have i0 : IntKind.i64.wrap ((4 : Int) * (k : Int)) = (q : Int) := by rw [wr64 _ (by omega) (by omega)]; omega
        have i1 : IntKind.i64.wrap ((q : Int) + 1) = (q1 : Int) := by rw [wr64 _ (by omega) (by omega)]; omega
        have i2 : IntKind.i64.wrap ((q : Int) + 2) = (q2 : Int) := by rw [wr64 _ (by omega) (by omega)]; omega
        have i3 : IntKind.i64.wrap ((q : Int) + 3) = (q3 : Int) := by rw [wr64 _ (by omega) (by omega)]; omega
        have j0 : (0 : Int) ≤ (q : Int) ∧ (q : Int) < 36 := by omega
        have u0 : IntKind.i64.wrap (z0 : Int) = (z0 : Int) := wr64 _ (by omega) (by omega)
        have j1 : (0 : Int) ≤ (q1 : Int) ∧ (q1 : Int) < 36 := by omega
        have u1 : IntKind.i64.wrap (z1 : Int) = (z1 : Int) := wr64 _ (by omega) (by omega)
        have j2 : (0 : Int) ≤ (q2 : Int) ∧ (q2 : Int) < 36 := by omega
        have u2 : IntKind.i64.wrap (z2 : Int) = (z2 : Int) := wr64 _ (by omega) (by omega)
        have j3 : (0 : Int) ≤ (q3 : Int) ∧ (q3 : Int) < 36 := by omega
        have u3 : IntKind.i64.wrap (z3 : Int) = (z3 : Int) := wr64 _ (by omega) (by omega)
        obtain ⟨s1, hs1⟩ : ∃ s1, s1 = z0 + z1 * 256 := ⟨_, rfl⟩
        obtain ⟨s2, hs2⟩ : ∃ s2, s2 = s1 + z2 * 65536 := ⟨_, rfl⟩
        obtain ⟨s3, hs3⟩ : ∃ s3, s3 = s2 + z3 * 16777216 := ⟨_, rfl⟩
        have v1 : IntKind.i64.wrap ((z1 : Int) * 256) = (z1 : Int) * 256 := wr64 _ (by omega) (by omega)
        have v2 : IntKind.i64.wrap ((z2 : Int) * 65536) = (z2 : Int) * 65536 := wr64 _ (by omega) (by omega)
        have v3 : IntKind.i64.wrap ((z3 : Int) * 16777216) = (z3 : Int) * 16777216 := wr64 _ (by omega) (by omega)
        have o1 : IntKind.i64.wrap ((z0 : Int) + (z1 : Int) * 256) = (s1 : Int) := by rw [wr64 _ (by omega) (by omega)]; omega
        have o2 : IntKind.i64.wrap ((s1 : Int) + (z2 : Int) * 65536) = (s2 : Int) := by rw [wr64 _ (by omega) (by omega)]; omega
        have o3 : IntKind.i64.wrap ((s2 : Int) + (z3 : Int) * 16777216) = (s3 : Int) := by rw [wr64 _ (by omega) (by omega)]; omega
        have hNum3 : numB l k = s3 := by rw [HNum.out]; omega
        have t2 : (0 : Int) ≤ (k : Int) ∧ (k : Int) < 9 := by omega
        have hfz := HR.out.2.1.free k
        obtain ⟨v0, hv0⟩ : ∃ v0, wo.cell? ⟨w.heap.size + 1, k, none⟩ = some v0 := by rw [HR.out.2.1.at k]; exact ⟨_, Array.getElem?_eq_getElem (by rw [decV_size]; exact hlt)⟩
        have HNx : Hid (RDecI w (wo.drew.setCell ⟨w.heap.size + 1, k, none⟩ (.int .i64 (s3 : Int))) l (k + 1)) := Lib.hid (HR.out.drew.next hlt hNum3)
        clear HNum hs1 hs2 hs3 hb hq hq1 hq2 hq3 hNum3 HR
        go_wp2_with fail
        go_still_tail 35, (by kernel_rfl)
        change wpList _ _ _ _ _ wo.drew
        go_wp2_with fail
        go_roundw
        case rel => exact ⟨k + 1, by omega, by go_num, HNx⟩
        case measure => simp [intOf]; omega
      · obtain rfl : k = 9 := by omega
        obtain ⟨CC, hCC⟩ : ∃ CC, CC = (decV l 9).toArray := ⟨_, rfl⟩
        have HIc : Hid ((Try.prog.info? 23).map (·.size) = some CC.size) := Lib.hid (by rw [hCC]; exact info_cfg)
        have HOc : Hid (Z9.size = CC.size) := Lib.hid (by rw [hCC]; rfl)
        have HEc : Hid (CC.all (·.oneCell') = true) := Lib.hid (by rw [hCC]; exact decV_one l 9)
        have HCk : Hid (∀ w, Calls Try.prog 17 #[.agg CC] w fun x w' => x = .returned (.int .i64 (checkOf (cfgB l))) ∧ Below w.heap.size w w') := Lib.hid (by
          intro w
          rw [hCC, decV9_cfg]
          exact rcheck_any (cfgB l) w)
        have HNo : Hid (checkOf (cfgB l) ≠ 0 → decE l = .returned (.tuple #[.agg Z9, .int .i64 24])) := Lib.hid (fun h => decE_bad (by unfold decErr; rw [if_pos (.inr h)]))
        have HYes : Hid (checkOf (cfgB l) = 0 → decE l = .returned (.tuple #[.agg CC, .int .i64 0])) := Lib.hid (fun h => by
          rw [decE_ok (by unfold decErr; rw [if_neg (by have := HLen.out; omega)]), hCC, decV9_cfg])
        have hR2 := HR.out.2.1
        rw [decV9] at hR2
        obtain ⟨-, s0, s1, s2, s3, s4, s5, s6, s7, s8⟩ := hR2.nine
        have hCe : #[Value.int .i64 (numB l 0 : Nat), Value.int .i64 (numB l 1 : Nat), Value.int .i64 (numB l 2 : Nat), Value.int .i64 (numB l 3 : Nat), Value.int .i64 (numB l 4 : Nat), Value.int .i64 (numB l 5 : Nat), Value.int .i64 (numB l 6 : Nat), Value.int .i64 (numB l 7 : Nat), Value.int .i64 (numB l 8 : Nat)] = CC := by rw [hCC, decV9]
        have HR1 : Hid (HasB (wo.alloc (.cells CC 23)) wo.heap.size CC 23 ∧ HasB (wo.alloc (.cells CC 23)) w.heap.size Z9 23 ∧ Below w.heap.size w (wo.alloc (.cells CC 23))) := Lib.hid ⟨HasB.new _ _ _, HR.out.1.alloc _, HR.out.2.2.alloc HR.out.2.2.size _⟩
        clear hR2 HR hCC
        have HOz : Hid ((#[.int .i64 0, .int .i64 0, .int .i64 0, .int .i64 0, .int .i64 0, .int .i64 0, .int .i64 0, .int .i64 0, .int .i64 0] : Array Value).size = CC.size) := HOc
        go_wp2_with (with_reducible refine stop_store 6 _ _ rfl ?_)
        refine Stop.go ?_
        refine wpList_store_row rfl 23 (.tmp 6) (.tmp 68) rfl wo.heap.size CC rfl rfl 23 _ (heap_new wo _) HIc.out HOz.out HEc.out ?_
        rw [World.setRow_alloc_new]
        have HQc : Hid ((wo.alloc (.cells CC 23)).heap[wo.heap.size]? = some (.cells CC 23 (0, 0))) := Lib.hid HR1.out.1
        clear s0 s1 s2 s3 s4 s5 s6 s7 s8 hCe
        go_wp2_with (with_reducible refine wpList_load_row rfl 23 (.tmp 6) rfl wo.heap.size rfl 23 CC (0, 0) _ HQc.out Try.underlying23 rfl HIc.out ?_)
        refine (HCk.out _).mono ?_
        rintro e w5 ⟨rfl, hb5⟩
        have HR2 : Hid (w5.heap[wo.heap.size]? = some (.cells CC 23 (0, 0)) ∧ w5.heap[w.heap.size]? = some (.cells Z9 23 (0, 0)) ∧ Below w.heap.size w w5) := Lib.hid ⟨HasB.below HR1.out.1 hb5 (HasB.lt HR1.out.1), HasB.below HR1.out.2.1 hb5 (HasB.lt HR1.out.2.1), HR1.out.2.2.trans (hb5.mono HR1.out.2.2.size)⟩
        have HQd : Hid (w5.heap[wo.heap.size]? = some (.cells CC 23 (0, 0))) := Lib.hid HR2.out.1
        have HQy : Hid (w5.heap[w.heap.size]? = some (.cells Z9 23 (0, 0))) := Lib.hid HR2.out.2.1
        clear hb5 HR1 HQc
        rcases checkOf_two (cfgB l) with hc | hc
        · have HE := Lib.hid (HYes.out hc)
          have HSet : Hid ((w5.setRow w.heap.size CC).heap[w.heap.size]? = some (.cells CC 23 (0, 0)) ∧ Below w.heap.size w (w5.setRow w.heap.size CC)) := Lib.hid ⟨setRow_heap _ _ _ _ 23 (0, 0) HQy.out, below_setRow HR2.out.2.2 (Nat.le_refl _) _⟩
          rw [hc]
          clear hc
          go_wp2_with (first | (with_reducible refine wpList_load_row rfl 23 (.tmp 6) rfl wo.heap.size rfl 23 CC (0, 0) _ HQd.out Try.underlying23 rfl HIc.out ?_) | (with_reducible refine wpList_store_row rfl 23 (.tmp 2) (.tmp 73) rfl w.heap.size CC rfl rfl 23 _ HQy.out HIc.out HOc.out HEc.out ?_))
          rw [HPost.out]
          exact bodyPost_ret (results_row_tmp (p := 2) (u := 3) (by kernel_rfl) _ _ w.heap.size 23 _ (0, 0) _ _ rfl HSet.out.1 rfl Try.underlying23 HIc.out rfl) rfl ⟨HE.out.symm, HSet.out.2⟩
        · have HE := Lib.hid (HNo.out (by rw [hc]; decide))
          have HSet : Hid ((w5.setRow w.heap.size Z9).heap[w.heap.size]? = some (.cells Z9 23 (0, 0)) ∧ Below w.heap.size w (w5.setRow w.heap.size Z9)) := Lib.hid ⟨setRow_heap _ _ _ _ 23 (0, 0) HQy.out, below_setRow HR2.out.2.2 (Nat.le_refl _) _⟩
          rw [hc]
          clear hc
          go_wp2_with (with_reducible refine stop_store 2 _ _ rfl ?_)
          refine Stop.go ?_
          rw [show (#[.int .i64 0, .int .i64 0, .int .i64 0, .int .i64 0, .int .i64 0, .int .i64 0, .int .i64 0, .int .i64 0, .int .i64 0] : Array Value) = Z9 from rfl]
          go_wp2_with (with_reducible refine wpList_store_row rfl 23 (.tmp 2) (.tmp 72) rfl w.heap.size Z9 rfl rfl 23 _ HQy.out z9_info rfl z9_one ?_)
          rw [HPost.out]
          exact bodyPost_ret (results_row_tmp (p := 2) (u := 3) (by kernel_rfl) _ _ w.heap.size 23 _ (0, 0) _ _ rfl HSet.out.1 rfl Try.underlying23 z9_info rfl) rfl ⟨HE.out.symm, HSet.out.2⟩
  · have hE := decE_bad (b := l) (by unfold decErr; rw [if_pos (.inl (by omega))])
    have t36 : ¬ ((len : Int) = 36) := by omega
    have HE := Lib.hid hE
    have HQ : Hid ((w.alloc (.cells Z9 23)).heap[w.heap.size]? = some (.cells Z9 23 (0, 0))) := Lib.hid HI1.out.1
    have HSet : Hid (((w.alloc (.cells Z9 23)).setRow w.heap.size Z9).heap[w.heap.size]? = some (.cells Z9 23 (0, 0)) ∧ Below w.heap.size w ((w.alloc (.cells Z9 23)).setRow w.heap.size Z9)) := Lib.hid ⟨setRow_heap _ _ _ _ 23 (0, 0) HQ.out, below_setRow HI1.out.2.1 (Nat.le_refl _) _⟩
    clear hE hi HI1
    go_enter Try.func7, Try.ntmps7
    go_wp2_with (with_reducible refine stop_store 2 _ _ rfl ?_)
    refine Stop.go ?_
    rw [show (#[.int .i64 0, .int .i64 0, .int .i64 0, .int .i64 0, .int .i64 0, .int .i64 0, .int .i64 0, .int .i64 0, .int .i64 0] : Array Value) = Z9 from rfl]
    go_wp2_with (with_reducible refine wpList_store_row rfl 23 (.tmp 2) (.tmp 10) rfl w.heap.size Z9 rfl rfl 23 _ HQ.out z9_info rfl z9_one ?_)
    rw [HPost.out]
    exact bodyPost_ret (results_row_tmp (p := 2) (u := 3) (by kernel_rfl) _ _ w.heap.size 23 _ (0, 0) _ _ rfl HSet.out.1 rfl Try.underlying23 z9_info rfl) rfl ⟨HE.out.symm, HSet.out.2⟩
end Go.Proofs.Yteclcciionjjcaa
