/- sha: the reference's block, the walk. -/
import Derived.Test.YtkdjimcpdbpemaaShaB
namespace Go.Proofs.Ytkdjimcpdbpemaa
open Go Go.RowKit
set_option linter.unusedVariables false

set_option maxRecDepth 100000 in
set_option maxHeartbeats 40000000 in
theorem rblock_any (s : St) (K : List Int) (a : Option Addr) (cap : Nat) (l : List Nat) (w : World) (hs : s.ok) (hK : K.length = 64) (hKU : AllU K) (hi : Bytes w a 64 l) :
    Calls Try.prog 39 #[.agg s.cells.toArray, .agg (K.map (Value.int .u32)).toArray, .slice a 64 cap] w fun e w' => e = .returned (.agg (blkS K s l).cells.toArray) ∧ Below w.heap.size w w' := by
  have HI := Lib.hid hi
  have HKU := Lib.hid hKU
  have HSo := Lib.hid hs
  have hKl := hK
  have HR0 : Hid (∀ Z8 Z64 : Array Value, Z8.size = 8 → Z64.size = 64 → RefAt w ((((w.alloc (.cells s.cells.toArray 100)).alloc (.cells (K.map (Value.int .u32)).toArray 101)).alloc (.cells Z8 100)).alloc (.cells Z64 101)) s K [] 4) := Lib.hid (fun Z8 Z64 h8 h64 => refAt_start w s K hK Z8 Z64 h8 h64)
  obtain ⟨ks, hks⟩ : ∃ ks, ks = (K.map (Value.int .u32)).toArray := ⟨_, rfl⟩
  obtain ⟨sc, hsc⟩ : ∃ sc, sc = s.cells.toArray := ⟨_, rfl⟩
  rw [← hks, ← hsc] at HR0 ⊢
  clear hi hKU hs hks hsc
  go_enter Try.func39, Try.ntmps39
  go_wp2_with fail
  go_loopw [8] (fun i wr => ∃ k : Nat, k ≤ 16 ∧ i = .int .i64 (k : Int) ∧ Hid (RefAt w wr s K (wFirst l k) 4)) (fun i _ => 16 - (intOf i).toNat)
  case atStart => exact ⟨0, by omega, rfl, Lib.hid (HR0.out _ _ (by kernel_rfl) (by kernel_rfl))⟩
  case round =>
    obtain ⟨k, hk, rfl, HR⟩ := hrel
    obtain ⟨wo, rfl⟩ : ∃ wo : World, wo = wr := ⟨_, rfl⟩
    by_cases hlt : k < 16
    · have t1 : (k : Int) < 16 := by omega
      have hby := HI.out.below HR.out.2.2.2.2.2 (Nat.le_refl _)
      obtain ⟨b, off, rfl, _, hc⟩ := hby.2.2 (by omega)
      obtain ⟨p0, hp0⟩ : ∃ p, p = 4 * k := ⟨_, rfl⟩
      have c0 := hc p0 (by omega)
      have c1 := hc (p0 + 1) (by omega)
      have c2 := hc (p0 + 2) (by omega)
      have c3 := hc (p0 + 3) (by omega)
      have q0 := byte_at hby.2.1 p0
      have q1 := byte_at hby.2.1 (p0 + 1)
      have q2 := byte_at hby.2.1 (p0 + 2)
      have q3 := byte_at hby.2.1 (p0 + 3)
      have HW : Hid (wFirst l (k + 1) = wFirst l k ++ [bits .or .u32 (bits .or .u32 (bits .or .u32 ((l.getD p0 0 : Nat) * 16777216) ((l.getD (p0 + 1) 0 : Nat) * 65536)) ((l.getD (p0 + 2) 0 : Nat) * 256)) (l.getD (p0 + 3) 0 : Nat)]) := Lib.hid (by rw [wFirst, wordI, ← hp0])
      obtain ⟨z0, hz0⟩ : ∃ z, z = l.getD p0 0 := ⟨_, rfl⟩
      obtain ⟨z1, hz1⟩ : ∃ z, z = l.getD (p0 + 1) 0 := ⟨_, rfl⟩
      obtain ⟨z2, hz2⟩ : ∃ z, z = l.getD (p0 + 2) 0 := ⟨_, rfl⟩
      obtain ⟨z3, hz3⟩ : ∃ z, z = l.getD (p0 + 3) 0 := ⟨_, rfl⟩
      rw [← hz0] at c0 q0 HW
      rw [← hz1] at c1 q1 HW
      rw [← hz2] at c2 q2 HW
      rw [← hz3] at c3 q3 HW
      obtain ⟨v0, hv0⟩ := HR.out.2.2.2.1.any k (by omega)
      have hf0 := HR.out.2.2.2.1.free k
      have HN := Lib.hid (HR.out.word k (wFirst_len l k).symm (by omega) (bits .or .u32 (bits .or .u32 (bits .or .u32 ((z0 : Int) * 16777216) ((z1 : Int) * 65536)) ((z2 : Int) * 256)) (z3 : Int)))
      have i0 : IntKind.i64.wrap (4 * (k : Int)) = (p0 : Int) := by rw [wrapS _ (by omega) (by omega)]; omega
      have i1 : IntKind.i64.wrap ((p0 : Int) + 1) = ((p0 + 1 : Nat) : Int) := by rw [wrapS _ (by omega) (by omega)]; omega
      have i2 : IntKind.i64.wrap ((p0 : Int) + 2) = ((p0 + 2 : Nat) : Int) := by rw [wrapS _ (by omega) (by omega)]; omega
      have i3 : IntKind.i64.wrap ((p0 : Int) + 3) = ((p0 + 3 : Nat) : Int) := by rw [wrapS _ (by omega) (by omega)]; omega
      obtain ⟨p1, hp1⟩ : ∃ p, p = p0 + 1 := ⟨_, rfl⟩
      obtain ⟨p2, hp2⟩ : ∃ p, p = p0 + 2 := ⟨_, rfl⟩
      obtain ⟨p3, hp3⟩ : ∃ p, p = p0 + 3 := ⟨_, rfl⟩
      rw [← hp1] at c1 i1
      rw [← hp2] at c2 i2
      rw [← hp3] at c3 i3
      have j0 : (0 : Int) ≤ (p0 : Int) ∧ (p0 : Int) < 64 := by omega
      have j1 : (0 : Int) ≤ (p1 : Int) ∧ (p1 : Int) < 64 := by omega
      have j2 : (0 : Int) ≤ (p2 : Int) ∧ (p2 : Int) < 64 := by omega
      have j3 : (0 : Int) ≤ (p3 : Int) ∧ (p3 : Int) < 64 := by omega
      have jk : (0 : Int) ≤ (k : Int) ∧ (k : Int) < 64 := by omega
      have u0 := wrapW (z0 : Int) (by omega) (by omega)
      have u1 := wrapW (z1 : Int) (by omega) (by omega)
      have u2 := wrapW (z2 : Int) (by omega) (by omega)
      have u3 := wrapW (z3 : Int) (by omega) (by omega)
      have s0 := wrapW ((z0 : Int) * 16777216) (by omega) (by omega)
      have s1 := wrapW ((z1 : Int) * 65536) (by omega) (by omega)
      have s2 := wrapW ((z2 : Int) * 256) (by omega) (by omega)
      clear hz0 hz1 hz2 hz3 hp0 hp1 hp2 hp3 hc hby
      go_wp2_with fail
      go_still_tail 35, (by kernel_rfl)
      change wpList _ _ _ _ _ wo.drew
      go_wp2_with fail
      go_roundw
      case rel => exact ⟨k + 1, by omega, by go_num, by rw [HW.out]; exact HN⟩
      case measure => simp [intOf]; omega
    · have HR1 : Hid (RefAt w wo s K (wMore l 0) 4) := Lib.hid (by
        have := HR.out
        rw [show k = 16 by omega] at this
        exact this)
      have t1 : ¬ ((k : Int) < 16) := by omega
      clear HR HR0 hlt hk
      go_wp2_with fail
      go_loopw [9] (fun i wr => ∃ k : Nat, k ≤ 48 ∧ i = .int .i64 ((16 + k : Nat) : Int) ∧ Hid (RefAt w wr s K (wMore l k) 4)) (fun i _ => 64 - (intOf i).toNat)
      case atStart => exact ⟨0, by omega, rfl, HR1⟩
      case round =>
        clear HR1
        obtain ⟨k, hk, rfl, HR⟩ := hrel
        obtain ⟨wp, rfl⟩ : ∃ wp : World, wp = wr := ⟨_, rfl⟩
        by_cases hlt : k < 48
        · obtain ⟨j, hj⟩ : ∃ j, j = 16 + k := ⟨_, rfl⟩
          rw [← hj]
          have t1 : (j : Int) < 64 := by omega
          have hU := wMore_in l k
          have hlen := wMore_len l k
          have HD0 : Hid (∀ wr, RefAt w wr s K (wMore l k) 4 → wr.cell? ⟨w.heap.size + 3, k, none⟩ = some (.int .u32 ((wMore l k).getD k 0)) ∧ wr.cell? ⟨w.heap.size + 3, k + 9, none⟩ = some (.int .u32 ((wMore l k).getD (k + 9) 0)) ∧ wr.cell? ⟨w.heap.size + 3, k + 1, none⟩ = some (.int .u32 ((wMore l k).getD (k + 1) 0)) ∧ wr.cell? ⟨w.heap.size + 3, k + 14, none⟩ = some (.int .u32 ((wMore l k).getD (k + 14) 0)) ∧ (∃ v0, wr.cell? ⟨w.heap.size + 3, 16 + k, none⟩ = some v0) ∧ wr.frozen? ⟨w.heap.size + 3, 16 + k, none⟩ = false) := Lib.hid (fun wr h => ⟨h.2.2.2.1.at k (by omega), h.2.2.2.1.at (k + 9) (by omega), h.2.2.2.1.at (k + 1) (by omega), h.2.2.2.1.at (k + 14) (by omega), h.2.2.2.1.any _ (by omega), h.2.2.2.1.free _⟩)
          have r0 := hU.at k
          have r1 := hU.at (k + 9)
          have r2 := hU.at (k + 1)
          have r3 := hU.at (k + 14)
          have HW : Hid (wMore l (k + 1) = wMore l k ++ [wnx ((wMore l k).getD k 0) ((wMore l k).getD (k + 9) 0) ((wMore l k).getD (k + 1) 0) ((wMore l k).getD (k + 14) 0)]) := Lib.hid rfl
          obtain ⟨x0, hx0⟩ : ∃ x, x = (wMore l k).getD k 0 := ⟨_, rfl⟩
          obtain ⟨x1, hx1⟩ : ∃ x, x = (wMore l k).getD (k + 9) 0 := ⟨_, rfl⟩
          obtain ⟨x2, hx2⟩ : ∃ x, x = (wMore l k).getD (k + 1) 0 := ⟨_, rfl⟩
          obtain ⟨x3, hx3⟩ : ∃ x, x = (wMore l k).getD (k + 14) 0 := ⟨_, rfl⟩
          rw [← hx0] at r0 HW HD0
          rw [← hx1] at r1 HW HD0
          rw [← hx2] at r2 HW HD0
          rw [← hx3] at r3 HW HD0
          rw [← hj] at HD0
          have HN : Hid (∀ wr, RefAt w wr s K (wMore l k) 4 → RefAt w (wr.setCell ⟨w.heap.size + 3, j, none⟩ (.int .u32 (wnx x0 x1 x2 x3))).drew s K (wMore l (k + 1)) 4) := Lib.hid (fun wr h => by rw [HW.out]; exact h.word j (by omega) (by omega) _)
          obtain ⟨a1, ha1⟩ : ∃ p, p = k + 9 := ⟨_, rfl⟩
          obtain ⟨a2, ha2⟩ : ∃ p, p = k + 1 := ⟨_, rfl⟩
          obtain ⟨a3, ha3⟩ : ∃ p, p = k + 14 := ⟨_, rfl⟩
          rw [← ha1, ← ha2, ← ha3] at HD0
          obtain ⟨d0, d1, d2, d3, _⟩ := HD0.out _ HR.out
          have i0 : IntKind.i64.wrap ((j : Int) - 16) = (k : Int) := by rw [wrapS _ (by omega) (by omega)]; omega
          have i1 : IntKind.i64.wrap ((j : Int) - 7) = (a1 : Int) := by rw [wrapS _ (by omega) (by omega)]; omega
          have i2 : IntKind.i64.wrap ((j : Int) - 15) = (a2 : Int) := by rw [wrapS _ (by omega) (by omega)]; omega
          have i3 : IntKind.i64.wrap ((j : Int) - 2) = (a3 : Int) := by rw [wrapS _ (by omega) (by omega)]; omega
          have j0 : (0 : Int) ≤ (k : Int) ∧ (k : Int) < 64 := by omega
          have j1 : (0 : Int) ≤ (a1 : Int) ∧ (a1 : Int) < 64 := by omega
          have j2 : (0 : Int) ≤ (a2 : Int) ∧ (a2 : Int) < 64 := by omega
          have j3 : (0 : Int) ≤ (a3 : Int) ∧ (a3 : Int) < 64 := by omega
          have jj : (0 : Int) ≤ (j : Int) ∧ (j : Int) < 64 := by omega
          have hsx : bits .xor .u32 (bits .xor .u32 (rotk x2 (-7)) (rotk x2 (-18))) (x2 / 8) = sx x2 := rfl
          have hsy : bits .xor .u32 (bits .xor .u32 (rotk x3 (-17)) (rotk x3 (-19))) (x3 / 1024) = sy x3 := rfl
          have hsxi : 0 ≤ sx x2 ∧ sx x2 < 4294967296 := u32_in _ _ _
          have hsyi : 0 ≤ sy x3 ∧ sy x3 < 4294967296 := u32_in _ _ _
          have HWN : Hid (wnx x0 x1 x2 x3 = (x0 + x1 + sx x2 + sy x3) % 4294967296) := Lib.hid rfl
          have HJ := Lib.hid hj
          clear hx0 hx1 hx2 hx3 ha1 ha2 ha3 hU hlen hj
          go_wp2_with fail
          go_quiet ((go_at_call 45; exact quietC (turned_lit _ _ (by assumption) (by omega) _)))
          have HR1 : Hid (RefAt w (wp.drewN nq) s K (wMore l k) 4) := Lib.hid (HR.out.drewN nq)
          clear d0 d1 d2 d3 HR
          generalize wp.drewN nq = wp1 at HR1 ⊢
          obtain ⟨d0, d1, d2, d3, _⟩ := HD0.out _ HR1.out
          go_wp2_with fail
          go_quiet ((go_at_call 45; exact quietC (turned_lit _ _ (by assumption) (by omega) _)))
          have HR2 : Hid (RefAt w (wp1.drewN nq) s K (wMore l k) 4) := Lib.hid (HR1.out.drewN nq)
          clear d0 d1 d2 d3 HR1
          generalize wp1.drewN nq = wp2 at HR2 ⊢
          obtain ⟨d0, d1, d2, d3, ⟨v0, hv0⟩, hf0⟩ := HD0.out _ HR2.out
          have HN2 := Lib.hid (HN.out _ HR2.out)
          go_wp2_with fail
          go_still_tail 15, (by kernel_rfl)
          change wpList _ _ _ _ _ wp2.drew
          go_wp2_with fail
          go_roundw
          case rel =>
            refine ⟨k + 1, by omega, ?_, ?_⟩
            · rw [show ((j : Int) + 1) = ((16 + (k + 1) : Nat) : Int) by have := HJ.out; omega]
            · rw [show (x0 + sx x2 + x1 + sy x3) % 4294967296 = wnx x0 x1 x2 x3 by rw [HWN.out]; congr 1; omega]
              exact HN2
          case measure => simp [intOf]; omega
        · have HR3 : Hid (RefAt w wp s K (wMore l 48) 4) := Lib.hid (by
            have := HR.out
            rw [show k = 48 by omega] at this
            exact this)
          obtain ⟨j, hj⟩ : ∃ j, j = 16 + k := ⟨_, rfl⟩
          rw [← hj]
          have t2 : ¬ ((j : Int) < 64) := by omega
          clear HR hlt hk hj
          obtain ⟨hh1, hh2⟩ := HR3.out
          have g0 := hh1.at 0
          have g1 := hh1.at 1
          have g2 := hh1.at 2
          have g3 := hh1.at 3
          have g4 := hh1.at 4
          have g5 := hh1.at 5
          have g6 := hh1.at 6
          have g7 := hh1.at 7
          simp [St.cells] at g0 g1 g2 g3 g4 g5 g6 g7
          have HV0 : Hid (RefV w (wp.alloc (.cells #[.int .u32 s.a, .int .u32 s.b, .int .u32 s.c, .int .u32 s.d, .int .u32 s.e, .int .u32 s.f, .int .u32 s.g, .int .u32 s.h] 100)) s K (wMore l 48) wp.heap.size (rnds K (wMore l 48) s 0)) := Lib.hid HR3.out.open_v
          clear hh1 hh2
          go_wp2_with fail
          go_loopw [13] (fun i wr => ∃ k : Nat, k ≤ 64 ∧ i = .int .i64 (k : Int) ∧ Hid (RefV w wr s K (wMore l 48) wp.heap.size (rnds K (wMore l 48) s k))) (fun i _ => 64 - (intOf i).toNat)
          case atStart => exact ⟨0, by omega, rfl, HV0⟩
          case round =>
            clear HV0 HR3 g0 g1 g2 g3 g4 g5 g6 g7
            obtain ⟨k, hk, rfl, HV⟩ := hrel
            obtain ⟨gv, hgv⟩ : ∃ gv, gv = wp.heap.size := ⟨_, rfl⟩
            rw [← hgv] at HV ⊢
            have HGV := Lib.hid hgv
            clear hgv
            obtain ⟨wq, rfl⟩ : ∃ wq : World, wq = wr := ⟨_, rfl⟩
            by_cases hlt : k < 64
            · obtain ⟨st, hst⟩ : ∃ st, st = rnds K (wMore l 48) s k := ⟨_, rfl⟩
              obtain ⟨kz, hkz⟩ : ∃ z, z = K.getD k 0 := ⟨_, rfl⟩
              obtain ⟨wz, hwz⟩ : ∃ z, z = (wMore l 48).getD k 0 := ⟨_, rfl⟩
              have hok : st.ok := by rw [hst]; exact rnds_ok K _ HSo.out k
              have HNx : Hid (rnds K (wMore l 48) s (k + 1) = st.step kz wz) := Lib.hid (by rw [rnds, ← hst, ← hkz, ← hwz])
              have HKW : Hid (∀ wr, RefV w wr s K (wMore l 48) gv st → wr.cell? ⟨w.heap.size + 1, k, none⟩ = some (.int .u32 kz) ∧ wr.cell? ⟨w.heap.size + 3, k, none⟩ = some (.int .u32 wz)) := Lib.hid (fun wr h => ⟨by rw [hkz]; exact h.1.2.1.at k (by rw [hKl]; exact hlt), by rw [hwz]; exact h.1.2.2.2.1.at k (by rw [wMore_len]; omega)⟩)
              have hkzU := HKU.out.at k
              have hwzU := (wMore_in l 48).at k
              rw [← hkz] at hkzU
              rw [← hwz] at hwzU
              rw [← hst] at HV
              clear hst hkz hwz
              obtain ⟨A, B, C, D, E, F, G, H⟩ := st
              obtain ⟨oA, oB, oC, oD, oE, oF, oG, oH⟩ := hok
              dsimp only at oA oB oC oD oE oF oG oH
              have HC : Hid (∀ wr, RefV w wr s K (wMore l 48) gv ⟨A, B, C, D, E, F, G, H⟩ → _) := Lib.hid (fun wr h => h.cells)
              dsimp only at HC
              have t1 : (k : Int) < 64 := by omega
              have jk : (0 : Int) ≤ (k : Int) ∧ (k : Int) < 64 := by omega
              have ebe : bits .xor .u32 (bits .xor .u32 (rotk E (-6)) (rotk E (-11))) (rotk E (-25)) = be E := rfl
              have eba : bits .xor .u32 (bits .xor .u32 (rotk A (-2)) (rotk A (-13))) (rotk A (-22)) = ba A := rfl
              have emj : bits .xor .u32 (bits .xor .u32 (bits .and .u32 A B) (bits .and .u32 A C)) (bits .and .u32 B C) = mj A B C := rfl
              have ech : bits .xor .u32 (bits .and .u32 E F) (bits .and .u32 (bits .xor .u32 IntKind.u32.max E) G) = ch E F G := rfl
              obtain ⟨d0, d1, d2, d3, d4, d5, d6, d7⟩ := HC.out _ HV.out
              go_wp2_with fail
              go_quiet ((go_at_call 45; exact quietC (turned_lit _ _ (by assumption) (by omega) _)))
              have HV1 : Hid (RefV w (wq.drewN nq) s K (wMore l 48) gv ⟨A, B, C, D, E, F, G, H⟩) := Lib.hid (HV.out.drewN nq)
              clear d0 d1 d2 d3 d4 d5 d6 d7 HV
              generalize wq.drewN nq = wq1 at HV1 ⊢
              obtain ⟨d0, d1, d2, d3, d4, d5, d6, d7⟩ := HC.out _ HV1.out
              obtain ⟨dk, dw⟩ := HKW.out _ HV1.out
              go_wp2_with fail
              go_quiet (fail)
              have HV2 : Hid (RefV w (wq1.drewN nq) s K (wMore l 48) gv ⟨A, B, C, D, E, F, G, H⟩) := Lib.hid (HV1.out.drewN nq)
              clear d0 d1 d2 d3 d4 d5 d6 d7 dk dw HV1
              generalize wq1.drewN nq = wq2 at HV2 ⊢
              obtain ⟨d0, d1, d2, d3, d4, d5, d6, d7⟩ := HC.out _ HV2.out
              go_wp2_with fail
              go_quiet ((go_at_call 45; exact quietC (turned_lit _ _ (by assumption) (by omega) _)))
              have HV3 : Hid (RefV w (wq2.drewN nq) s K (wMore l 48) gv ⟨A, B, C, D, E, F, G, H⟩) := Lib.hid (HV2.out.drewN nq)
              clear d0 d1 d2 d3 d4 d5 d6 d7 HV2
              generalize wq2.drewN nq = wq3 at HV3 ⊢
              obtain ⟨d0, d1, d2, d3, d4, d5, d6, d7⟩ := HC.out _ HV3.out
              have f0 := HV3.out.2.1.free 0
              have f1 := HV3.out.2.1.free 1
              have f2 := HV3.out.2.1.free 2
              have f3 := HV3.out.2.1.free 3
              have f4 := HV3.out.2.1.free 4
              have f5 := HV3.out.2.1.free 5
              have f6 := HV3.out.2.1.free 6
              have f7 := HV3.out.2.1.free 7
              go_wp2_with fail
              go_roundw
              case rel =>
                refine ⟨k + 1, by omega, by go_num, ?_⟩
                rw [HNx.out]
                have ea : (H + be E + ch E F G + kz + wz + (ba A + mj A B C)) % 4294967296 = (St.step ⟨A, B, C, D, E, F, G, H⟩ kz wz).a := by
                  show _ = (rS ⟨A, B, C, D, E, F, G, H⟩ kz wz + rT ⟨A, B, C, D, E, F, G, H⟩) % 4294967296
                  unfold rS rT
                  dsimp only
                  omega
                have ed : (D + (H + be E + ch E F G + kz + wz)) % 4294967296 = (St.step ⟨A, B, C, D, E, F, G, H⟩ kz wz).e := by
                  show _ = (D + rS ⟨A, B, C, D, E, F, G, H⟩ kz wz) % 4294967296
                  unfold rS
                  dsimp only
                  omega
                rw [ea, ed]
                exact Lib.hid (HV3.out.put (St.step ⟨A, B, C, D, E, F, G, H⟩ kz wz))
              case measure => simp [intOf]; omega
            · obtain ⟨t, ht⟩ : ∃ t, t = rnds K (wMore l 48) s 64 := ⟨_, rfl⟩
              have HF0 : Hid (RefH w wq s t gv 0) := Lib.hid (by
                have := HV.out
                rw [show k = 64 by omega, ← ht] at this
                exact this.toH)
              have hres : blkS K s l = s.plus t := by unfold blkS; rw [ht]
              have htU := St.list_in (s := t) (by rw [ht]; exact rnds_ok K _ HSo.out 64)
              have hsU := St.list_in HSo.out
              have HtU := Lib.hid htU
              have HsU := Lib.hid hsU
              have HRes := Lib.hid hres
              have t1 : ¬ ((k : Int) < 64) := by omega
              clear HV hlt hk htU hsU hres ht
              go_wp2_with fail
              go_loopw [20] (fun i wr => ∃ k : Nat, k ≤ 8 ∧ i = .int .i64 (k : Int) ∧ Hid (RefH w wr s t gv k)) (fun i _ => 8 - (intOf i).toNat)
              case atStart => exact ⟨0, by omega, rfl, HF0⟩
              case round =>
                clear HF0
                obtain ⟨m, hm, rfl, HF⟩ := hrel
                obtain ⟨wx, rfl⟩ : ∃ wx : World, wx = wr := ⟨_, rfl⟩
                by_cases hlt : m < 8
                · have t2 : (m : Int) < 8 := by omega
                  have jm : (0 : Int) ≤ (m : Int) ∧ (m : Int) < 8 := by omega
                  have d0 := HF.out.1.at m (by rw [mixTo_len _ _ _ (by omega)]; exact hlt)
                  rw [mixTo_at s t m hlt] at d0
                  have d1 := HF.out.2.1.at m hlt
                  have f0 := HF.out.1.free m
                  have HN := Lib.hid (HF.out.put hlt)
                  have r0 := HsU.out.at m
                  have r1 := HtU.out.at m
                  obtain ⟨x0, hx0⟩ : ∃ x, x = s.list.getD m 0 := ⟨_, rfl⟩
                  obtain ⟨x1, hx1⟩ : ∃ x, x = t.list.getD m 0 := ⟨_, rfl⟩
                  rw [← hx0] at d0 r0 HN
                  rw [← hx1] at d1 r1 HN
                  clear hx0 hx1
                  go_wp2_with fail
                  go_still_tail 9, (by kernel_rfl)
                  change wpList _ _ _ _ _ wx.drew
                  go_wp2_with fail
                  go_roundw
                  case rel => exact ⟨m + 1, by omega, by go_num, HN⟩
                  case measure => simp [intOf]; omega
                · have t2 : ¬ ((m : Int) < 8) := by omega
                  have HF8 : Hid (RefH w wx s t gv 8) := Lib.hid (by
                    have := HF.out
                    rw [show m = 8 by omega] at this
                    exact this)
                  obtain ⟨q1, q2, q3, q4, q5⟩ := HF8.out
                  have HB8 := Lib.hid q5
                  obtain ⟨u, hu⟩ : ∃ u, u = s.plus t := ⟨_, rfl⟩
                  have q1' : ArrU wx w.heap.size 100 8 u.list := by rw [hu]; exact q1
                  have g0 : wx.cell? ⟨w.heap.size, 0, none⟩ = some (.int .u32 u.a) := q1'.at 0 (show (0 : Nat) < 8 by decide)
                  have g1 : wx.cell? ⟨w.heap.size, 1, none⟩ = some (.int .u32 u.b) := q1'.at 1 (show (1 : Nat) < 8 by decide)
                  have g2 : wx.cell? ⟨w.heap.size, 2, none⟩ = some (.int .u32 u.c) := q1'.at 2 (show (2 : Nat) < 8 by decide)
                  have g3 : wx.cell? ⟨w.heap.size, 3, none⟩ = some (.int .u32 u.d) := q1'.at 3 (show (3 : Nat) < 8 by decide)
                  have g4 : wx.cell? ⟨w.heap.size, 4, none⟩ = some (.int .u32 u.e) := q1'.at 4 (show (4 : Nat) < 8 by decide)
                  have g5 : wx.cell? ⟨w.heap.size, 5, none⟩ = some (.int .u32 u.f) := q1'.at 5 (show (5 : Nat) < 8 by decide)
                  have g6 : wx.cell? ⟨w.heap.size, 6, none⟩ = some (.int .u32 u.g) := q1'.at 6 (show (6 : Nat) < 8 by decide)
                  have g7 : wx.cell? ⟨w.heap.size, 7, none⟩ = some (.int .u32 u.h) := q1'.at 7 (show (7 : Nat) < 8 by decide)
                  obtain ⟨⟨Cl⟩, hC, hC8⟩ := q3
                  obtain ⟨c0, c1, c2, c3, c4, c5, c6, c7, rfl⟩ := list8 (show Cl.length = 8 by simpa using hC8)
                  have f0 := hC.free 0
                  have f1 := hC.free 1
                  have f2 := hC.free 2
                  have f3 := hC.free 3
                  have f4 := hC.free 4
                  have f5 := hC.free 5
                  have f6 := hC.free 6
                  have f7 := hC.free 7
                  have z0 : wx.cell? ⟨w.heap.size + 2, 0, none⟩ = some c0 := hC.at 0
                  have z1 : wx.cell? ⟨w.heap.size + 2, 1, none⟩ = some c1 := hC.at 1
                  have z2 : wx.cell? ⟨w.heap.size + 2, 2, none⟩ = some c2 := hC.at 2
                  have z3 : wx.cell? ⟨w.heap.size + 2, 3, none⟩ = some c3 := hC.at 3
                  have z4 : wx.cell? ⟨w.heap.size + 2, 4, none⟩ = some c4 := hC.at 4
                  have z5 : wx.cell? ⟨w.heap.size + 2, 5, none⟩ = some c5 := hC.at 5
                  have z6 : wx.cell? ⟨w.heap.size + 2, 6, none⟩ = some c6 := hC.at 6
                  have z7 : wx.cell? ⟨w.heap.size + 2, 7, none⟩ = some c7 := hC.at 7
                  have HRu : Hid (blkS K s l = u) := Lib.hid (by rw [HRes.out, hu])
                  have HSet : Hid (HasB (set8 wx (w.heap.size + 1 + 1) (.int .u32 u.a) (.int .u32 u.b) (.int .u32 u.c) (.int .u32 u.d) (.int .u32 u.e) (.int .u32 u.f) (.int .u32 u.g) (.int .u32 u.h)) (w.heap.size + 1 + 1) u.cells.toArray 100 ∧ Below w.heap.size w (set8 wx (w.heap.size + 1 + 1) (.int .u32 u.a) (.int .u32 u.b) (.int .u32 u.c) (.int .u32 u.d) (.int .u32 u.e) (.int .u32 u.f) (.int .u32 u.g) (.int .u32 u.h))) := Lib.hid ⟨hC.set8 rfl _ _ _ _ _ _ _ _, below_set8 q5 (show w.heap.size ≤ w.heap.size + 1 + 1 by omega) _ _ _ _ _ _ _ _⟩
                  clear HF hlt hm q1 q1' q2 q4 q5 HF8 hu hC hC8
                  go_wp2_with fail
                  rw [HRu.out]
                  exact bodyPost_ret (results_cell_row (p := 6) (by kernel_rfl) _ _ (w.heap.size + 1 + 1) 100 u.cells.toArray (0, 0) _ rfl HSet.out.1 Try.underlying100 rfl info_h8) rfl ⟨rfl, HSet.out.2⟩

end Go.Proofs.Ytkdjimcpdbpemaa
