/- crc: New; CrcSums. -/
import Derived.Test.YtogpdmpefdafnaaCrcU
import Derived.Test.YtogpdmpefdafnaaRowsD
namespace Go.Proofs.Ytogpdmpefdafnaa
open Go Go.RowKit
set_option linter.unusedVariables false

set_option maxRecDepth 100000 in
set_option maxHeartbeats 4000000 in
theorem cnew_any (w : World) :
    Calls Try.prog 26 #[] w fun e w' => e = .returned (.pointer (some ⟨w.heap.size, 0, none⟩)) ∧ SumsU w' w.heap.size 0 ∧ Below w.heap.size w w' := by
  go_enter Try.func26, Try.ntmps26
  go_wp2
  go_ret
  exact ⟨rfl, .inl ⟨_, HasB.new _ _ _, by kernel_rfl, by kernel_rfl, by kernel_rfl, by kernel_rfl, fun i hi => by omega, fun i hi => by omega⟩, (Below.refl _ _).alloc (Nat.le_refl _) _⟩

set_option maxRecDepth 100000 in
set_option maxHeartbeats 40000000 in
theorem csums_any (a : Option Addr) (len cap : Nat) (ls : List (List Nat)) (w : World) (hR : RowsR w a ls) (hl : ls.length = len) (hb : ∀ x ∈ ls, ∀ c ∈ x, c < 256) (hm : sumLen ls len + len ≤ 1048576) (hc : len ≤ cap) (hcm : cap ≤ maxLen) :
    Calls Try.prog 7 #[.slice a len cap] w fun e w' => e = .returned (.bool true) ∧ Below w.heap.size w w' := by
  have HR := Lib.hid hR
  have HB := Lib.hid hb
  have HMx := Lib.hid hm
  unfold maxLen at hcm
  clear hR hb hm
  go_enter Try.func7, Try.ntmps7
  go_wp2_with fail
  refine (known_any _).mono ?_
  rintro e w1 ⟨rfl, hb1⟩
  have HB1 := Lib.hid hb1
  clear hb1
  go_wp2_with fail
  go_loop [3, 4] (fun n i => ∃ (k : Nat), k ≤ len ∧ i = .int .i64 (k : Int) ∧ n = .int .i64 (sumLen ls k : Nat)) (fun _ i => len - (intOf i).toNat)
  case atStart => exact ⟨0, by omega, rfl, rfl⟩
  case round =>
    obtain ⟨k, hk, rfl, rfl⟩ := hrel
    have hsk : sumLen ls k ≤ 1048576 := by
      have h1 := sumLen_mono ls k (len - k)
      rw [show k + (len - k) = len by omega] at h1
      have h2 := HMx.out
      omega
    by_cases hlt : k < len
    · obtain ⟨x, hx⟩ : ∃ x, ls[k]? = some x := ⟨_, List.getElem?_eq_getElem (by omega)⟩
      obtain ⟨g, off, b, cp, rfl, hg, hcl, hby, _⟩ := (HR.out.below HB1.out) k x hx
      obtain ⟨m, hm⟩ : ∃ m, m = x.length := ⟨_, rfl⟩
      rw [← hm] at hcl
      have hxm : m ≤ 1048576 := by
        have h1 := sumLen_one (ls := ls) hlt
        simp [List.getD, hx] at h1
        have h2 := HMx.out
        omega
      have HZ : Hid ((sumLen ls (k + 1) : Int) = (sumLen ls k : Int) + (m : Int)) := Lib.hid (by rw [sumLen, hm]; simp [List.getD, hx])
      obtain ⟨z, hze⟩ : ∃ z, z = sumLen ls k := ⟨_, rfl⟩
      rw [← hze] at hsk HZ ⊢
      have t1 : (k : Int) < (len : Int) := by omega
      have t2 : (0 : Int) ≤ (k : Int) := by omega
      clear hby hx hm hze
      go_wp2_with fail
      go_round
      case rel => exact ⟨k + 1, by omega, by go_num, by rw [HZ.out]⟩
      case measure => simp [intOf]; omega
    · obtain rfl : k = len := by omega
      obtain ⟨z, hze⟩ : ∃ z, z = sumLen ls k := ⟨_, rfl⟩
      rw [← hze] at hsk ⊢
      by_cases h1 : 4096 < z
      · have t2 : 4096 < (z : Int) := by omega
        clear hze
        go_wp2_with fail
        go_ret
        exact ⟨rfl, HB1.out⟩
      have t5' : ¬ (4096 < (z : Int)) := by omega
      have hS : sumLen ls k ≤ 4096 := by omega
      have HSm := Lib.hid hS
      clear hze hS
      by_cases h2 : 200 < k
      · have t2 : 200 < (k : Int) := by omega
        go_wp2_with fail
        go_ret
        exact ⟨rfl, HB1.out⟩
      have t3 : (k : Int) ≤ 200 := by omega
      have t4 : ¬ (200 < (k : Int)) := by omega
      go_wp2_with fail
      refine (cnew_any _).mono ?_
      rintro e w2 ⟨rfl, hU2, hb2⟩
      have HG : Hid (w.heap.size ≤ w1.heap.size) := Lib.hid HB1.out.size
      have HU2 := Lib.hid hU2
      have HB2 := Lib.hid (HB1.out.trans (hb2.mono HG.out))
      obtain ⟨g, hg⟩ : ∃ g, g = w1.heap.size := ⟨_, rfl⟩
      have hgw : w.heap.size ≤ g := by rw [hg]; exact HG.out
      rw [← hg] at HU2 ⊢
      clear hU2 hb2 hg HG
      go_wp2_with fail
      go_loopw [6] (fun i wr => ∃ j : Nat, j ≤ k ∧ i = .int .i64 (j : Int) ∧ Hid (SumsU wr g (2 * (j : Int))) ∧ Hid (Below w.heap.size w wr)) (fun i _ => k - (intOf i).toNat)
      case atStart => exact ⟨0, by omega, rfl, HU2, HB2⟩
      case round =>
        clear HU2 HB2
        obtain ⟨j, hj, rfl, HU, HBo⟩ := hrel
        obtain ⟨wo, rfl⟩ : ∃ wo : World, wo = wr := ⟨_, rfl⟩
        by_cases hjl : j < k
        · obtain ⟨x, hx⟩ : ∃ x, ls[j]? = some x := ⟨_, List.getElem?_eq_getElem (by omega)⟩
          obtain ⟨b0, off, b, cp, rfl, hg0, hcl0, hby0, _, hlecp, hcpm⟩ := HR.out j x hx
          have hxs : x.length ≤ 4096 := by
            have := sumLen_one (ls := ls) hjl
            simp [List.getD, hx] at this
            have := HSm.out
            omega
          have hx8 := HB.out x (by rw [List.mem_iff_getElem?]; exact ⟨j, hx⟩)
          obtain ⟨m, hm⟩ : ∃ m, m = x.length := ⟨_, rfl⟩
          rw [← hm] at hcl0 hby0 hxs
          have HBy := Lib.hid hby0
          have HCl : Hid (∀ w', Below w.heap.size w w' → w'.cell? ⟨b0, off + j, none⟩ = some (.slice b m cp)) := Lib.hid (fun w' h => (h.cell (p := ⟨b0, off + j, none⟩) hg0).trans hcl0)
          have hOwn : 0 < m → ∀ ad, b = some ad → ad.block ≠ g := fun h0 ad he => by
            obtain ⟨bb, oo, he2, hlt2, _⟩ := hby0.2.2 h0
            rw [he] at he2
            cases he2
            intro q
            have q' : bb = g := q
            omega
          have HO := Lib.hid hOwn
          have hcl := HCl.out _ HBo.out
          have hS7 := sum7_lt x hx8
          have hS16 := Crc.sum16_lt x hx8
          obtain ⟨s7, hs7⟩ : ∃ s, s = Crc.sum7 x := ⟨_, rfl⟩
          obtain ⟨s16, hs16⟩ : ∃ s, s = Crc.sum16 x := ⟨_, rfl⟩
          have H7 := Lib.hid hs7
          have H16 := Lib.hid hs16
          rw [← hs7] at hS7
          rw [← hs16] at hS16
          have t5 : (j : Int) < (k : Int) := by omega
          have t6 : (0 : Int) ≤ (j : Int) := by omega
          clear hs7 hs16 hx hby0 hcl0 hx8 hm hOwn
          go_wp2_with fail
          refine (ref7_any b m cp x _ (HBy.out.below HBo.out (Nat.le_refl _)) (by omega)).mono ?_
          rintro e w4 ⟨rfl, rfl⟩
          rw [← H7.out]
          go_wp2_with fail
          refine (ref16_any b m cp x _ (HBy.out.below HBo.out (Nat.le_refl _)) (by omega)).mono ?_
          rintro e w4 ⟨rfl, rfl⟩
          rw [← H16.out]
          go_wp2_with fail
          refine (seven_any b m cp x _ (HBy.out.below HBo.out (Nat.le_refl _)) (by omega)).mono ?_
          rintro e w4 ⟨rfl, rfl⟩
          rw [← H7.out]
          go_wp2_with fail
          refine (sixteen_any b m cp x _ (HBy.out.below HBo.out (Nat.le_refl _)) (by omega)).mono ?_
          rintro e w4 ⟨rfl, rfl⟩
          rw [← H16.out]
          go_wp2_with fail
          refine (sseven_any g (2 * (j : Int)) b m cp x _ HU.out (by omega) (by omega) (HBy.out.below HBo.out (Nat.le_refl _)) (by omega) HO.out).mono ?_
          rintro e w5 ⟨rfl, hU5, hG5⟩
          rw [← H7.out]
          have HU5 := Lib.hid hU5
          have HB5 := Lib.hid (below_gb HBo.out hG5 HBo.out.size hgw)
          have hcl5 := HCl.out _ HB5.out
          clear hU5 hG5
          go_wp2_with fail
          refine (ssixteen_any g (2 * (j : Int) + 1) b m cp x _ HU5.out (by omega) (by omega) (HBy.out.below HB5.out (Nat.le_refl _)) (by omega) HO.out).mono ?_
          rintro e w6 ⟨rfl, hU6, hG6⟩
          rw [← H16.out]
          have HU6 := Lib.hid hU6
          have HB6 := Lib.hid (below_gb HB5.out hG6 HB5.out.size hgw)
          clear hU6 hG6
          go_wp2_with fail
          refine (uses_any g _ _ HU6.out).mono ?_
          rintro e w7 ⟨rfl, rfl⟩
          have e2 : (2 : Int) * (j : Int) + 1 + 1 = 2 * (j : Int) + 2 := by omega
          rw [e2]
          have HU7 : Hid (SumsU w7 g (2 * ((j + 1 : Nat) : Int))) := Lib.hid (by
            have := HU6.out
            rw [e2] at this
            rw [show (2 * ((j + 1 : Nat) : Int)) = 2 * (j : Int) + 2 by omega]
            exact this)
          go_wp2_with fail
          go_roundw
          case rel => exact ⟨j + 1, by omega, by go_num, HU7, HB6⟩
          case measure => simp [intOf]; omega
        · obtain rfl : j = k := by omega
          go_wp2_with fail
          go_ret
          exact ⟨rfl, HBo.out⟩

end Go.Proofs.Ytogpdmpefdafnaa
