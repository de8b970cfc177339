/- sha: the reference's Sum. -/
import Derived.Test.YtkdjimcpdbpemaaShaCC
namespace Go.Proofs.Ytkdjimcpdbpemaa
open Go Go.RowKit
set_option linter.unusedVariables false

theorem info_n64 : (Try.prog.info? 101).map (·.size) = some 64 := by kernel_rfl
theorem fill0 (w w1 : World) (hb : Below w.heap.size w w1) (hq : ArrB w1 w.heap.size 22 (List.replicate 32 0)) (Z8 Z64 : Array Value) (h8 : Z8 = (cellsU (toL H0.list 0)).toArray) (h64 : Z64 = (cellsU (toL KL 0)).toArray) : FillW w ((w1.alloc (.cells Z8 100)).alloc (.cells Z64 101)) w1.heap.size 0 0 := by
  subst h8 h64
  refine ⟨HasB.alloc (HasB.new _ _ _) _, ?_, ?_, HasB.lt hq, HasB.alloc (HasB.alloc hq _) _⟩
  · have := HasB.new (w1.alloc (.cells (cellsU (toL H0.list 0)).toArray 100)) (cellsU (toL KL 0)).toArray 101
    unfold ArrN
    simpa using this
  · exact (hb.alloc hb.size _).alloc (by have := hb.size; simp; omega) _

set_option maxRecDepth 100000 in
set_option maxHeartbeats 4000000 in
theorem rsum_any (a : Option Addr) (len cap : Nat) (l : List Nat) (w : World) (hi : Bytes w a len l) (hl8 : ∀ c ∈ l, c < 256) (hnil : a = none → cap = 0) (hn : len ≤ 900000) :
    Calls Try.prog 34 #[.slice a len cap] w fun e w' => e = .returned (.agg (u8s (shaL l)).toArray) ∧ Below w.heap.size w w' := by
  have HI := Lib.hid hi
  have HLen := Lib.hid hi.1
  clear hi
  go_enter Try.func34, Try.ntmps34
  go_wp2_with fail
  obtain ⟨wa, hwa⟩ : ∃ wa, wa = w.alloc (.cells (u8s (List.replicate 32 0)).toArray 22) := ⟨_, rfl⟩
  have e0 : w.alloc (.cells #[.int .u8 0, .int .u8 0, .int .u8 0, .int .u8 0, .int .u8 0, .int .u8 0, .int .u8 0, .int .u8 0, .int .u8 0, .int .u8 0, .int .u8 0, .int .u8 0, .int .u8 0, .int .u8 0, .int .u8 0, .int .u8 0, .int .u8 0, .int .u8 0, .int .u8 0, .int .u8 0, .int .u8 0, .int .u8 0, .int .u8 0, .int .u8 0, .int .u8 0, .int .u8 0, .int .u8 0, .int .u8 0, .int .u8 0, .int .u8 0, .int .u8 0, .int .u8 0] 22) = wa := by rw [hwa]; rfl
  rw [e0]
  have HQ : Hid (ArrB wa w.heap.size 22 (List.replicate 32 0)) := Lib.hid (by rw [hwa]; exact HasB.new _ _ _)
  have HBa : Hid (Below w.heap.size w wa) := Lib.hid (by rw [hwa]; exact (Below.refl _ _).alloc (Nat.le_refl _) _)
  have HSz : Hid (wa.heap.size = w.heap.size + 1) := Lib.hid (by rw [hwa]; simp)
  clear e0 hwa
  go_wp2_with fail
  refine (rprimes_any _).mono ?_
  rintro e w1 ⟨⟨g, c, rfl, hO⟩, hb⟩
  have HO : Hid (w1.ownsRow wa.heap.size 103 1 (.slice (some ⟨g, 0, none⟩) 64 c) 64 (u64s P64)) := Lib.hid hO
  have HB1 : Hid (Below wa.heap.size wa w1) := Lib.hid hb
  clear hO hb
  have HB2 : Hid (Below w.heap.size w w1) := Lib.hid (HBa.out.trans (HB1.out.mono (by have := HSz.out; omega)))
  go_wp2_with fail
  go_loopw [6] (fun i wr => ∃ j : Nat, j ≤ 64 ∧ i = .int .i64 (j : Int) ∧ Hid (FillW w wr w1.heap.size j j) ∧ Hid (wr.ownsRow wa.heap.size 103 1 (.slice (some ⟨g, 0, none⟩) 64 c) 64 (u64s P64))) (fun i _ => 64 - (intOf i).toNat)
  case atStart => exact ⟨0, by omega, rfl, Lib.hid (fill0 w w1 HB2.out (HasB.below HQ.out HB1.out (HasB.lt HQ.out)) _ _ (by kernel_rfl) (by kernel_rfl)), Lib.hid (own_below HO.out (((Below.refl _ _).alloc (Nat.le_refl _) _).alloc (by simp) _) (Nat.le_refl _))⟩
  case round =>
    obtain ⟨j, hj, rfl, HF, HP⟩ := hrel
    by_cases hlt : j < 64
    · by_cases h8 : j < 8
      · have t1 : (j : Int) < 64 := by omega
        have t2 : (j : Int) < 8 := by omega
        have t3 : (0 : Int) ≤ (j : Int) := by omega
        have hcl := own64_at HP.out j hlt
        go_wp2_with fail
        refine (rroot_any (P64.getD j 0) 2 _ (by have := p_lt j; omega) (by omega)).mono ?_
        rintro e w2 ⟨rfl, hb2⟩
        have HF2 := Lib.hid (HF.out.later hb2)
        have HP2 := Lib.hid (own_below HP.out hb2 (Nat.le_refl _))
        rw [h_at j h8]
        have hfr := HasB.free HF2.out.1 j
        have hcl2 := HF2.out.1.at j (by rw [toL_len]; exact h8)
        have HF3 := Lib.hid (HF2.out.h h8)
        have HP3 := Lib.hid (HP2.out.kept (gb_set (gb_refl w2 (some w1.heap.size)) j (.int .u32 (H0.list.getD j 0))) (.inr (own_ne HP2.out HF2.out.1 (by decide))))
        obtain ⟨zh, hzh⟩ : ∃ z, z = H0.list.getD j 0 := ⟨_, rfl⟩
        rw [← hzh] at HF3 HP3 ⊢
        obtain ⟨w3, hw3⟩ : ∃ w3, w2.setCell ⟨w1.heap.size, j, none⟩ (.int .u32 zh) = w3 := ⟨_, rfl⟩
        rw [hw3] at HF3 HP3
        have hcl3 := own64_at HP3.out j hlt
        clear hzh hcl HP HF
        go_wp2_with fail
        refine (rroot_any (P64.getD j 0) 3 _ (by have := p_lt j; omega) (by omega)).mono ?_
        rintro e w4 ⟨rfl, hb4⟩
        have HF4 := Lib.hid (HF3.out.later hb4)
        have HP4 := Lib.hid (own_below HP3.out hb4 (Nat.le_refl _))
        clear hcl2 hfr hcl3 hw3 HF3 HP3 HF2 HP2 hb2 hb4
        rw [k_at j hlt]
        have hfr := HasB.free HF4.out.2.1 j
        have hcl2 := HF4.out.2.1.at j (by rw [toL_len]; exact hlt)
        have HF5 := Lib.hid (HF4.out.k hlt)
        have HP5 := Lib.hid (HP4.out.kept (gb_set (gb_refl w4 (some (w1.heap.size + 1))) j (.int .u32 (KL.getD j 0))) (.inr (own_ne HP4.out HF4.out.2.1 (by decide))))
        obtain ⟨zk, hzk⟩ : ∃ z, z = KL.getD j 0 := ⟨_, rfl⟩
        rw [← hzk] at HF5 HP5 ⊢
        obtain ⟨w5, hw5⟩ : ∃ w5, w4.setCell ⟨w1.heap.size + 1, j, none⟩ (.int .u32 zk) = w5 := ⟨_, rfl⟩
        rw [hw5] at HF5 HP5
        clear hzk HF4 HP4
        go_wp2_with fail
        go_roundw
        case rel => exact ⟨j + 1, by omega, by go_num, HF5, HP5⟩
        case measure => simp [intOf]; omega
      · have t1 : (j : Int) < 64 := by omega
        have t2 : ¬ ((j : Int) < 8) := by omega
        have t3 : (0 : Int) ≤ (j : Int) := by omega
        have hcl := own64_at HP.out j hlt
        go_wp2_with fail
        refine (rroot_any (P64.getD j 0) 3 _ (by have := p_lt j; omega) (by omega)).mono ?_
        rintro e w4 ⟨rfl, hb4⟩
        have HF4 := Lib.hid ((HF.out.later hb4).skip (by omega))
        have HP4 := Lib.hid (own_below HP.out hb4 (Nat.le_refl _))
        clear hcl hb4 HF HP
        rw [k_at j hlt]
        have hfr := HasB.free HF4.out.2.1 j
        have hcl2 := HF4.out.2.1.at j (by rw [toL_len]; exact hlt)
        have HF5 := Lib.hid (HF4.out.k hlt)
        have HP5 := Lib.hid (HP4.out.kept (gb_set (gb_refl w4 (some (w1.heap.size + 1))) j (.int .u32 (KL.getD j 0))) (.inr (own_ne HP4.out HF4.out.2.1 (by decide))))
        obtain ⟨zk, hzk⟩ : ∃ z, z = KL.getD j 0 := ⟨_, rfl⟩
        rw [← hzk] at HF5 HP5 ⊢
        obtain ⟨w5, hw5⟩ : ∃ w5, w4.setCell ⟨w1.heap.size + 1, j, none⟩ (.int .u32 zk) = w5 := ⟨_, rfl⟩
        rw [hw5] at HF5 HP5
        clear hzk HF4 HP4
        go_wp2_with fail
        go_roundw
        case rel => exact ⟨j + 1, by omega, by go_num, HF5, HP5⟩
        case measure => simp [intOf]; omega
    · have t1 : ¬ ((j : Int) < 64) := by omega
      have HR : Hid (RunW w wr w1.heap.size H0) := Lib.hid (HF.out.run (by omega) (by omega))
      obtain ⟨wo, rfl⟩ : ∃ wo : World, wo = wr := ⟨_, rfl⟩
      obtain ⟨G, hG⟩ : ∃ G, G = w1.heap.size := ⟨_, rfl⟩
      rw [← hG] at HR ⊢
      clear HF HP hlt hj HO HB1 HB2 HQ HBa HSz hG
      go_wp2_with (at_builtin; refine Stop.mk ?_)
      refine Stop.go ?_
      refine wpList_app_u8 rfl _ _ 50 rfl wo.heap.size 5 Try.underlying50 (by kernel_rfl) (.slice (some ⟨wo.heap.size, 0, none⟩) 0 0) 0 [] rfl (own_empty (Nat.le_refl _)) a len cap l rfl ((HI.out.below HR.out.2.2.1 (Nat.le_refl _)).alloc _) hnil (by omega) (by simp) ?_
      intro v2 w2 hown2 hgrow2
      have hb2 : Below wo.heap.size wo w2 := ((Below.refl _ _).alloc (Nat.le_refl _) _).grown hgrow2 (by simp) (fun k hk => by simp [Value.ownBlock] at hk; omega)
      have HP2 : Hid (w2.ownsRow wo.heap.size 5 1 v2 len (u8s l)) := Lib.hid (by simpa using hown2)
      have HB2 := Lib.hid hb2
      obtain ⟨a2, cp2, rfl⟩ := own_form HP2.out
      have hs2 : wo.heap.size ≤ w2.heap.size := hb2.size
      clear hown2 hgrow2 hb2
      go_wp2_with (at_builtin; refine Stop.mk ?_)
      refine Stop.go ?_
      refine wpList_app_u8 rfl _ _ 50 rfl wo.heap.size 5 Try.underlying50 (by kernel_rfl) (.slice a2 len cp2) len l rfl (own_below HP2.out ((Below.refl _ _).alloc (Nat.le_refl _) _) (Nat.le_refl _)) (some ⟨w2.heap.size, 0, none⟩) 1 1 [128] rfl (bytes_lit1 (by decide)) (by simp) (by omega) (by simp; omega) ?_
      intro v3 w3 hown3 hgrow3
      have HB3 : Hid (Below wo.heap.size wo w3) := Lib.hid ((HB2.out.alloc hs2 _).grown hgrow3 (by simp; omega) (fun q hq => (HP2.out.lt q hq).1))
      have HP3 : Hid (w3.ownsRow wo.heap.size 5 1 v3 (len + 1 + 0) (u8s (l ++ 128 :: List.replicate 0 0))) := Lib.hid hown3
      obtain ⟨a3, cp3, rfl⟩ := own_form hown3
      clear hown3 hgrow3 HB2 HP2 hs2
      obtain ⟨Z, hZ⟩ : ∃ Z, Z = (119 - len % 64) % 64 := ⟨_, rfl⟩
      have HZ := Lib.hid hZ
      have hZl : Z < 64 := by omega
      clear hZ t1
      go_wp2_with fail
      go_loopw [7] (fun x wr => ∃ (z : Nat) (v : Value), z ≤ Z ∧ x = v ∧ Hid (wr.ownsRow wo.heap.size 5 1 v (len + 1 + z) (u8s (l ++ 128 :: List.replicate z 0))) ∧ Hid (Below wo.heap.size wo wr)) (fun x _ => 1000000 - lenOf x)
      case atStart => exact ⟨0, _, by omega, rfl, HP3, HB3⟩
      case round =>
        clear HP3 HB3
        obtain ⟨z, v, hz, rfl, HP, HB⟩ := hrel
        obtain ⟨wp, rfl⟩ : ∃ wp : World, wp = wr := ⟨_, rfl⟩
        obtain ⟨a4, cp4, rfl⟩ := own_form HP.out
        have hst := pad_steps len z (by rw [← HZ.out]; exact hz)
        rw [← HZ.out] at hst
        obtain ⟨N, hN⟩ : ∃ N, N = len + 1 + z := ⟨_, rfl⟩
        rw [← hN] at HP hst ⊢
        obtain ⟨r, hr⟩ : ∃ r, r = N % 64 := ⟨_, rfl⟩
        rw [← hr] at hst
        have tm1 : (N : Int) % 64 = (r : Int) := by omega
        have tm2 : (N : Int).tmod 64 = (r : Int) := by rw [Int.tmod_eq_emod_of_nonneg (by omega)]; omega
        have hNl : N ≤ 900065 := by omega
        by_cases hgo : ¬ r = 56
        · have hzl : z < Z := by omega
          have t1 : ¬ ((r : Int) = 56) := by omega
          have hsz : wo.heap.size ≤ wp.heap.size := HB.out.size
          have HN := Lib.hid hN
          have HPk := Lib.hid HP.out
          clear hst hgo hN hr HP
          go_wp2_with (at_builtin; refine Stop.mk ?_)
          refine Stop.go ?_
          refine wpList_app_u8 rfl _ _ 50 rfl wo.heap.size 5 Try.underlying50 (by kernel_rfl) (.slice a4 N cp4) N _ rfl (own_below HPk.out ((Below.refl _ _).alloc (Nat.le_refl _) _) (Nat.le_refl _)) (some ⟨wp.heap.size, 0, none⟩) 1 1 [0] rfl (bytes_lit1 (by decide)) (by simp) (by omega) (by simp; omega) ?_
          intro v5 w5 hown5 hgrow5
          have HB5 : Hid (Below wo.heap.size wo w5) := Lib.hid ((HB.out.alloc hsz _).grown hgrow5 (by simp; omega) (fun q hq => (HPk.out.lt q hq).1))
          have HP5 : Hid (w5.ownsRow wo.heap.size 5 1 v5 (len + 1 + (z + 1)) (u8s (l ++ 128 :: List.replicate (z + 1) 0))) := Lib.hid (by
            have e : l ++ 128 :: List.replicate (z + 1) 0 = (l ++ 128 :: List.replicate z 0) ++ [0] := by rw [List.replicate_succ']; simp
            rw [e, show len + 1 + (z + 1) = N + 1 by rw [HN.out]; omega]; exact hown5)
          obtain ⟨a5, cp5, rfl⟩ := own_form hown5
          clear hown5 hgrow5 HB HPk
          go_wp2_with fail
          go_roundw
          case rel => exact ⟨z + 1, _, by omega, rfl, by rw [HN.out] at HP5 ⊢; exact HP5, HB5⟩
          case measure => simp [lenOf]; omega
        · have hlt : r = 56 := by omega
          obtain rfl : z = Z := hst.1 hlt
          clear hgo
          have t1 : (r : Int) = 56 := by omega
          have hN56 : N % 64 = 56 := by omega
          have HRp : Hid (RunW w wp G H0) := Lib.hid (HR.out.later HB.out)
          have HP0 : Hid (wp.ownsRow wo.heap.size 5 1 (.slice a4 N cp4) (N + 0) (u8s ((l ++ 128 :: List.replicate z 0) ++ be8 len 0))) := Lib.hid (by simpa [be8] using HP.out)
          obtain ⟨M, hM⟩ : ∃ M, M = l ++ 128 :: List.replicate z 0 := ⟨_, rfl⟩
          have HM := Lib.hid hM
          have HN := Lib.hid hN
          have HBs : Hid (wo.heap.size ≤ wp.heap.size) := Lib.hid HB.out.size
          obtain ⟨B, hB⟩ : ∃ B, B = wo.heap.size := ⟨_, rfl⟩
          have HG : Hid (G + 1 < B) := Lib.hid (by rw [hB]; exact HR.out.lt)
          rw [← hM, ← hB] at HP0
          rw [← hB] at HBs
          have HBr : Hid (Below B wp wp) := Lib.hid (Below.refl _ _)
          have tn : (len : Int) ≤ 900000 := by omega
          clear hst hlt hN hr HP HB HR hM hB
          go_wp2_with fail
          go_loopw [7, 9] (fun x i wr => ∃ (k : Nat) (v : Value), k ≤ 8 ∧ i = .int .i64 (7 - (k : Int)) ∧ x = v ∧ Hid (wr.ownsRow B 5 1 v (N + k) (u8s (M ++ be8 len k))) ∧ Hid (Below B wp wr)) (fun _ i _ => (intOf i + 1).toNat)
          case atStart => exact ⟨0, _, by omega, rfl, rfl, HP0, HBr⟩
          case round =>
            clear HP0 HBr
            obtain ⟨k, v, hk, rfl, rfl, HP, HB⟩ := hrel
            obtain ⟨wq, rfl⟩ : ∃ wq : World, wq = wr := ⟨_, rfl⟩
            obtain ⟨a6, cp6, rfl⟩ := own_form HP.out
            by_cases hlt : k < 8
            · obtain ⟨sh, hsh⟩ : ∃ sh, sh = 56 - 8 * k := ⟨_, rfl⟩
              have t3 : (0 : Int) ≤ 7 - (k : Int) := by omega
              have t4 : (8 : Int) * (7 - (k : Int)) = (sh : Int) := by omega
              have t5 : sh ≤ 56 := by omega
              have hv : ((len : Int) * 8) / 2 ^ sh % 256 = ((byteAt len k : Nat) : Int) := by
                unfold byteAt
                rw [← hsh, show (len : Int) * 8 = ((8 * len : Nat) : Int) by omega]
                simp
              have hbl : byteAt len k < 256 := Nat.mod_lt _ (by omega)
              obtain ⟨z1, hz1⟩ : ∃ z, z = byteAt len k := ⟨_, rfl⟩
              have HE : Hid (M ++ be8 len (k + 1) = (M ++ be8 len k) ++ [z1]) := Lib.hid (by rw [be8, ← hz1]; simp)
              rw [← hz1] at hv hbl
              have HPk := Lib.hid HP.out
              have hsz : B ≤ wq.heap.size := by have := HBs.out; have := HB.out.size; omega
              clear hsh hz1 HP
              go_wp2_with (at_builtin; refine Stop.mk ?_)
              refine Stop.go ?_
              refine wpList_app_u8 rfl _ _ 50 rfl B 5 Try.underlying50 (by kernel_rfl) (.slice a6 (N + k) cp6) (N + k) _ rfl (own_below HPk.out ((Below.refl _ _).alloc (Nat.le_refl _) _) (Nat.le_refl _)) (some ⟨wq.heap.size, 0, none⟩) 1 1 [z1] rfl (bytes_lit1 hbl) (by simp) (by omega) (by simp; omega) ?_
              intro v7 w7 hown7 hgrow7
              have HB7 : Hid (Below B wp w7) := Lib.hid ((HB.out.alloc hsz _).grown hgrow7 (by have := HBs.out; simp; omega) (fun q hq => (HPk.out.lt q hq).1))
              have HP7 : Hid (w7.ownsRow B 5 1 v7 (N + (k + 1)) (u8s (M ++ be8 len (k + 1)))) := Lib.hid (by rw [HE.out]; exact hown7)
              obtain ⟨a7, cp7, rfl⟩ := own_form hown7
              clear hown7 hgrow7 HB HPk HE
              go_wp2_with fail
              go_roundw
              case rel => exact ⟨k + 1, _, by omega, by go_num, rfl, HP7, HB7⟩
              case measure => simp [intOf]; omega
            · obtain rfl : k = 8 := by omega
              obtain ⟨T, hT⟩ : ∃ T, T = N + 8 := ⟨_, rfl⟩
              have hT64 : T % 64 = 0 := by omega
              have HPl : Hid (M ++ be8 len 8 = refPad l) := Lib.hid (by
                unfold refPad padS
                rw [HLen.out, HM.out, HZ.out]; simp)
              have HRq : Hid (RunW w wq G H0) := Lib.hid (HRp.out.grown HB.out HG.out HBs.out)
              rw [HPl.out, ← hT] at HP
              rw [← hT]
              have h8P : ∀ c ∈ refPad l, c < 256 := by
                intro c hc
                rcases List.mem_append.1 hc with q | q
                · exact hl8 c q
                · unfold padS at q
                  rcases List.mem_append.1 q with q | q
                  · rcases List.mem_cons.1 q with q | q
                    · omega
                    · have := List.eq_of_mem_replicate q; omega
                  · exact be8_lt _ 8 c q
              obtain ⟨g6, c6, hsh⟩ := own_shape HP.out (by omega)
              have hcp : T ≤ cp6 := by
                rcases HP.out.2 with ⟨h, h0⟩ | ⟨g', cap', cur, h, _, _, h3, h4, _⟩
                · omega
                · simp at h; obtain ⟨_, rfl⟩ := h; exact h3
              simp at hsh
              obtain ⟨rfl, rfl⟩ := hsh
              obtain ⟨L, hL⟩ : ∃ L, L = refPad l := ⟨_, rfl⟩
              have HL := Lib.hid hL
              rw [← hL] at HP h8P
              have HTL : Hid (L.length = T) := Lib.hid (bytes_of_own HP.out h8P).1
              have H8P := Lib.hid h8P
              have HRun : Hid (RunW w wq G (blocksS H0 L 0)) := Lib.hid HRq.out
              have hTb : T ≤ 900100 := by omega
              have t2 : ¬ ((0 : Int) ≤ 7 - ((8 : Nat) : Int)) := by decide
              have hBq : B ≤ wq.heap.size := by have := HBs.out; have := HB.out.size; omega
              have HBq := Lib.hid hBq
              clear hBq hT hlt hk tm1 tm2 t1 hN56 HRp HM HN HB HPl hL h8P HRq hZl hz HZ hNl HBs
              go_wp2_with fail
              go_loopw [10] (fun i wr => ∃ m q : Nat, q = 64 * m ∧ q ≤ T ∧ i = .int .i64 (q : Int) ∧ Hid (RunW w wr G (blocksS H0 L m)) ∧ Hid (wr.ownsRow B 5 1 (.slice (some ⟨g6, 0, none⟩) T cp6) T (u8s L)) ∧ Hid (B ≤ wr.heap.size)) (fun i _ => T - (intOf i).toNat)
              case atStart => exact ⟨0, 0, rfl, by omega, rfl, HRun, HP, HBq⟩
              case round =>
                clear HRun HP HBq
                obtain ⟨m, q, hq, hqT, rfl, HR, HP, HBq⟩ := hrel
                obtain ⟨wo, rfl⟩ : ∃ wo : World, wo = wr := ⟨_, rfl⟩
                by_cases hgo : q < T
                · have hq64 : q + 64 ≤ T := by omega
                  obtain ⟨e, he⟩ : ∃ e, e = q + 64 := ⟨_, rfl⟩
                  have t3 : (q : Int) < (T : Int) := by omega
                  have t4 : (q : Int) + 64 = (e : Int) := by omega
                  have t4' : IntKind.i64.wrap (e : Int) = (e : Int) := wrapS _ (by omega) (by omega)
                  have t5 : e ≤ cp6 := by omega
                  have t6 : q ≤ e := by omega
                  have t7 : ¬ (cp6 = q) := by omega
                  have t8 : e - q = 64 := by omega
                  have hs8 : wo.heap[G]? = some (.cells (blocksS H0 L m).cells.toArray 100 (0, 0)) := HR.out.1
                  have hs64 : wo.heap[G + 1]? = some (.cells (KL.map (Value.int .u32)).toArray 101 (0, 0)) := HR.out.2.1
                  have HS8 := Lib.hid hs8
                  have HS64 := Lib.hid hs64
                  have HQ := Lib.hid hq
                  have HE := Lib.hid he
                  clear hs8 hs64 hq he hgo
                  go_wp2_with fail
                  go_still_tail 7, (by kernel_rfl)
                  refine wpStill_load_row rfl 100 (.tmp 4) rfl G rfl 100 (blocksS H0 L m).cells.toArray (0, 0) _ HS8.out Try.underlying100 rfl info_h8 ?_
                  refine wpStill_load_row rfl 101 (.tmp 5) rfl (G + 1) rfl 101 (KL.map (Value.int .u32)).toArray (0, 0) _ HS64.out Try.underlying101 rfl info_n64 ?_
                  repeat still_step
                  refine wpStill_nil ?_
                  change wpList _ _ _ _ _ wo.drew
                  go_wp2_with fail
                  have hby : Bytes wo.drew (some ⟨g6, q, none⟩) 64 (chunk64 L m) := by
                    have := ((bytes_of_own HP.out H8P.out).dropAt q (by omega)).take (n := 64) (by omega)
                    rw [HQ.out] at this ⊢
                    unfold chunk64
                    simpa using this.drew
                  refine (rblock_any (blocksS H0 L m) KL _ _ (chunk64 L m) wo.drew (blocksS_ok H0_ok L m) (show KL.length = 64 from rfl) KL_in hby).mono ?_
                  rintro e9 w9 ⟨rfl, hb9⟩
                  have hb9' : Below wo.heap.size wo w9 := (Below.refl _ _).drew.trans hb9
                  have HR9 : Hid (RunW w w9 G (blocksS H0 L m)) := Lib.hid (HR.out.later hb9')
                  have HP9 := Lib.hid (own_below HP.out hb9' (Nat.le_refl _))
                  have HB9 : Hid (B ≤ w9.heap.size) := Lib.hid (Nat.le_trans HBq.out hb9'.size)
                  clear hby hb9 hb9'
                  obtain ⟨s9, hs9⟩ : ∃ s9, s9 = blkS KL (blocksS H0 L m) (chunk64 L m) := ⟨_, rfl⟩
                  rw [← hs9]
                  have HS9 : Hid (s9 = blocksS H0 L (m + 1)) := Lib.hid (by rw [hs9]; rfl)
                  have HO9 : Hid (w9.heap[G]? = some (.cells (blocksS H0 L m).cells.toArray 100 (0, 0))) := Lib.hid HR9.out.1
                  have HI8 : Hid ((Try.prog.info? 100).map (·.size) = some s9.cells.toArray.size) := Lib.hid info_h8
                  have HOld : Hid ((blocksS H0 L m).cells.toArray.size = s9.cells.toArray.size) := Lib.hid rfl
                  have HOne : Hid (s9.cells.toArray.all (·.oneCell') = true) := Lib.hid (by simp [St.cells, Value.oneCell'])
                  have HR10 : Hid (RunW w (w9.setRow G s9.cells.toArray) G s9) := Lib.hid (HR9.out.put s9)
                  have HP10 := Lib.hid (HP9.out.kept (gb_setRow w9 G s9.cells.toArray) (.inr (own_ne HP9.out HR9.out.1 (by decide))))
                  have HB10 : Hid (B ≤ (w9.setRow G s9.cells.toArray).heap.size) := Lib.hid (by simpa using HB9.out)
                  obtain ⟨sc, hsc⟩ : ∃ sc, sc = s9.cells.toArray := ⟨_, rfl⟩
                  rw [← hsc] at HI8 HOld HOne HR10 HP10 HB10
                  rw [← hsc]
                  clear hs9 hsc HR9 HP9 HB9 HR HP HS8 HS64 HBq
                  go_wp2_with (with_reducible refine wpList_store_row rfl 100 (.tmp 4) (.tmp 77) rfl G sc rfl rfl 100 _ HO9.out HI8.out HOld.out HOne.out ?_)
                  go_roundw
                  case rel => exact ⟨m + 1, e, by rw [HE.out, HQ.out]; omega, by have := HE.out; omega, by go_num, by rw [← HS9.out]; exact HR10, HP10, HB10⟩
                  case measure => have := HE.out; simp [intOf]; omega
                · have t3 : ¬ ((q : Int) < (T : Int)) := by omega
                  have hm : m = L.length / 64 := by rw [HTL.out]; omega
                  have HU : Hid (RunW w wo G (runB H0 L)) := Lib.hid (by rw [hm] at HR; exact HR.out)
                  clear HR HP HBq hgo hm
                  have HO0 : Hid (∀ Z : Array Value, Z = (u8s (outTo (runB H0 L) 0)).toArray → OutR w (wo.alloc (.cells Z 22)) G wo.heap.size (runB H0 L) 0) := Lib.hid (fun Z hZ => outR_start HU.out Z hZ)
                  have HZ0 : Hid (u8s (outTo (runB H0 L) 0) = u8s (List.replicate 32 0)) := Lib.hid (by simp [outTo])
                  have HUU := Lib.hid (St.list_in (s := runB H0 L) (runB_ok H0_ok L))
                  obtain ⟨u, hu⟩ : ∃ u, u = runB H0 L := ⟨_, rfl⟩
                  rw [← hu] at HO0 HZ0 HUU
                  have HUe := Lib.hid hu
                  clear hu HU
                  go_wp2_with fail
                  obtain ⟨gb, hgb⟩ : ∃ gb, gb = wo.heap.size := ⟨_, rfl⟩
                  have HOut0 : Hid (OutR w (wo.alloc (.cells #[.int .u8 0, .int .u8 0, .int .u8 0, .int .u8 0, .int .u8 0, .int .u8 0, .int .u8 0, .int .u8 0, .int .u8 0, .int .u8 0, .int .u8 0, .int .u8 0, .int .u8 0, .int .u8 0, .int .u8 0, .int .u8 0, .int .u8 0, .int .u8 0, .int .u8 0, .int .u8 0, .int .u8 0, .int .u8 0, .int .u8 0, .int .u8 0, .int .u8 0, .int .u8 0, .int .u8 0, .int .u8 0, .int .u8 0, .int .u8 0, .int .u8 0, .int .u8 0] 22)) G gb u 0) := Lib.hid (by rw [hgb]; exact HO0.out _ (by rw [HZ0.out]; rfl))
                  rw [← hgb]
                  clear hgb HO0 HZ0
                  go_loopw [12] (fun i wr => ∃ m : Nat, m ≤ 32 ∧ i = .int .i64 (m : Int) ∧ Hid (OutR w wr G gb u m)) (fun i _ => 32 - (intOf i).toNat)
                  case atStart => exact ⟨0, by omega, rfl, HOut0⟩
                  case round =>
                    clear HOut0
                    obtain ⟨m, hm, rfl, HO⟩ := hrel
                    obtain ⟨wx, rfl⟩ : ∃ wx : World, wx = wr := ⟨_, rfl⟩
                    by_cases hlt : m < 32
                    · obtain ⟨m4, hm4⟩ : ∃ m4, m4 = m / 4 := ⟨_, rfl⟩
                      obtain ⟨r4, hr4⟩ : ∃ r4, r4 = m % 4 := ⟨_, rfl⟩
                      obtain ⟨sh, hsh⟩ : ∃ sh, sh = 24 - 8 * r4 := ⟨_, rfl⟩
                      have t4 : (m : Int) < 32 := by omega
                      have t5 : (m : Int) / 4 = (m4 : Int) := by omega
                      have t5' : (m : Int).tdiv 4 = (m4 : Int) := by rw [Int.tdiv_eq_ediv_of_nonneg (by omega)]; omega
                      have t6 : (m : Int) % 4 = (r4 : Int) := by omega
                      have t6' : (m : Int).tmod 4 = (r4 : Int) := by rw [Int.tmod_eq_emod_of_nonneg (by omega)]; omega
                      have t7 : (24 : Int) - 8 * (r4 : Int) = (sh : Int) := by omega
                      have t8 : sh ≤ 24 := by omega
                      have t9 : m4 < 8 := by omega
                      have t10 : (0 : Int) ≤ (m4 : Int) ∧ (m4 : Int) < 8 := by omega
                      have t11 : r4 < 4 := by omega
                      obtain ⟨zi, hzi⟩ : ∃ z, z = u.list.getD m4 0 := ⟨_, rfl⟩
                      have hziU := HUU.out.at m4
                      have hci := HO.out.1.1.at m4 (by rw [show u.list.length = 8 from rfl]; exact t9)
                      rw [← hzi] at hziU hci
                      obtain ⟨z, hz⟩ : ∃ z, z = outB u m := ⟨_, rfl⟩
                      have hzv : zi / 2 ^ sh % 256 = (z : Int) := by
                        rw [hz, outB, ← hm4, ← hr4, ← hzi, ← hsh]
                        have : 0 ≤ zi / 2 ^ sh % 256 := by omega
                        omega
                      have hzl : z < 256 := by omega
                      have hcl := HO.out.2.1.at m (by rw [outTo_len _ _ (by omega)]; omega)
                      have hfr := HasB.free HO.out.2.1 m
                      have HN := Lib.hid (HO.out.put hlt)
                      rw [← hz] at HN
                      clear hm4 hr4 hsh hz hzi
                      go_wp2_with fail
                      go_roundw
                      case rel => exact ⟨m + 1, by omega, by go_num, HN⟩
                      case measure => simp [intOf]; omega
                    · have t4 : ¬ ((m : Int) < 32) := by omega
                      obtain ⟨qR, q2, q3⟩ := HO.out
                      obtain ⟨-, -, q5, -, q6⟩ := qR
                      rw [show m = 32 by omega, outTo_all] at q2
                      obtain ⟨Cw, hC⟩ : ∃ Cw, Cw = (u8s (outS u)).toArray := ⟨_, rfl⟩
                      have hCs : Cw.size = 32 := by rw [hC]; simp [u8s_len, outS_len]
                      have hone : Cw.all (·.oneCell') = true := by
                        rw [hC]
                        simp only [List.all_toArray, List.all_eq_true]
                        exact u8s_one _
                      unfold ArrB at q2 q6
                      rw [← hC] at q2
                      have HCw : Hid (Cw = (u8s (shaL l)).toArray) := Lib.hid (by rw [hC, HUe.out, HL.out, ref_sha])
                      have HQ1 : Hid (wx.heap[w.heap.size]? = some (.cells (u8s (List.replicate 32 0)).toArray 22 (0, 0))) := Lib.hid q6
                      have HQ2 : Hid (wx.heap[gb]? = some (.cells Cw 22 (0, 0))) := Lib.hid q2
                      have HI32 : Hid ((Try.prog.info? 22).map (·.size) = some Cw.size) := Lib.hid (by rw [hCs]; exact info_o32)
                      have HOne := Lib.hid hone
                      have HOld : Hid ((u8s (List.replicate 32 0)).toArray.size = Cw.size) := Lib.hid (by rw [hCs]; rfl)
                      have HSet : Hid ((wx.setRow w.heap.size Cw).heap[w.heap.size]? = some (.cells Cw 22 (0, 0)) ∧ Below w.heap.size w (wx.setRow w.heap.size Cw)) := Lib.hid ⟨setRow_heap wx w.heap.size _ Cw 22 (0, 0) q6, below_setRow q5 (Nat.le_refl _) Cw⟩
                      clear q2 q3 q5 q6 hC hCs hone HO hlt hm HUU HUe
                      go_wp2_with (first | (with_reducible refine wpList_load_row rfl 22 (.tmp 11) rfl gb rfl 22 Cw (0, 0) _ HQ2.out Try.underlying22 rfl HI32.out ?_) | (with_reducible refine wpList_store_row rfl 22 (.tmp 2) (.tmp 95) rfl w.heap.size Cw rfl rfl 22 _ HQ1.out HI32.out HOld.out HOne.out ?_))
                      rw [← HCw.out]
                      exact bodyPost_ret (results_cell_row (p := 2) (by kernel_rfl) _ _ w.heap.size 22 Cw (0, 0) _ rfl HSet.out.1 Try.underlying22 rfl HI32.out) rfl ⟨rfl, HSet.out.2⟩
end Go.Proofs.Ytkdjimcpdbpemaa
