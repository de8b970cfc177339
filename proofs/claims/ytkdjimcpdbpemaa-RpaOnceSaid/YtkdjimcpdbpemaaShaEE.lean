/- sha: the reference's Mac. -/
import Derived.Test.YtkdjimcpdbpemaaShaDD
import Derived.Test.YtkdjimcpdbpemaaShaN
import Derived.Test.YtkdjimcpdbpemaaAppW
import Derived.Deep.CutBlock
import Derived.Deep.DeepCutAuto
namespace Go.Proofs.Ytkdjimcpdbpemaa
open Go Go.RowKit
set_option linter.unusedVariables false

theorem macS_eq (key m : List Nat) : macS key m = shaL (xorK (kOf key) 92 ++ shaL (xorK (kOf key) 54 ++ m)) := rfl
theorem xorK_take (K : List Nat) (c k : Nat) (h : k < K.length) : (xorK K c).take (k + 1) = (xorK K c).take k ++ [K.getD k 0 ^^^ c] := by
  rw [take_snoc _ _ (by rw [xorK_len]; exact h)]
  simp [xorK, List.getD, h]
/-- The key's row: what was copied, filled up. -/
def KeyRow (B : Nat) (w : World) (v : Value) (n : Nat) (K0 key : List Nat) : Prop := w.ownsRow B 5 1 v n (u8s K0) ∧ n ≤ 64 ∧ padK K0 = kOf key ∧ K0.length = n ∧ ∀ c ∈ K0, c < 256

set_option maxRecDepth 100000 in
set_option maxHeartbeats 4000000 in
theorem rmac_any (a : Option Addr) (len cap : Nat) (key : List Nat) (a2 : Option Addr) (n cap2 : Nat) (m : List Nat) (w : World) (hi : Bytes w a len key) (hnil : a = none → cap = 0) (hi2 : Bytes w a2 n m) (hnil2 : a2 = none → cap2 = 0) (hl : len ≤ 800000) (hn : n ≤ 800000) :
    Calls Try.prog 28 #[.slice a len cap, .slice a2 n cap2] w fun e w' => e = .returned (.agg (u8s (macS key m)).toArray) ∧ Below w.heap.size w w' := by
  have HI := Lib.hid hi
  have HI2 := Lib.hid hi2
  have HK := Lib.hid (kOf_ok hi.2.1)
  have HM8 := Lib.hid hi2.2.1
  have HL := Lib.hid hi.1
  obtain ⟨C, hC⟩ : ∃ C, C = (u8s (macS key m)).toArray := ⟨_, rfl⟩
  have hCs : C.size = 32 := by rw [hC]; simp [u8s_len, macS_len]
  have HI32 : Hid ((Try.prog.info? 22).map (·.size) = some C.size) := Lib.hid (by rw [hCs]; exact info_o32)
  have HOne : Hid (C.all (·.oneCell') = true) := Lib.hid (by
    rw [hC]
    simp only [List.all_toArray, List.all_eq_true]
    exact u8s_one _)
  have HOld : Hid ((u8s (List.replicate 32 0)).toArray.size = C.size) := Lib.hid (by rw [hCs]; rfl)
  have HC := Lib.hid hC
  rw [← hC]
  have h8 := hi.2.1
  clear hi hi2 hC hCs
  go_enter Try.func28, Try.ntmps28
  go_wp2_with (at_builtin; refine Stop.mk ?_)
  refine Stop.go ?_
  obtain ⟨wa, hwa⟩ : ∃ wa, wa = w.alloc (.cells (u8s (List.replicate 32 0)).toArray 22) := ⟨_, rfl⟩
  have e0 : w.alloc (.cells #[.int .u8 0, .int .u8 0, .int .u8 0, .int .u8 0, .int .u8 0, .int .u8 0, .int .u8 0, .int .u8 0, .int .u8 0, .int .u8 0, .int .u8 0, .int .u8 0, .int .u8 0, .int .u8 0, .int .u8 0, .int .u8 0, .int .u8 0, .int .u8 0, .int .u8 0, .int .u8 0, .int .u8 0, .int .u8 0, .int .u8 0, .int .u8 0, .int .u8 0, .int .u8 0, .int .u8 0, .int .u8 0, .int .u8 0, .int .u8 0, .int .u8 0, .int .u8 0] 22) = wa := by rw [hwa]; rfl
  rw [e0]
  have HQ : Hid (HasB wa w.heap.size (u8s (List.replicate 32 0)).toArray 22) := Lib.hid (by rw [hwa]; exact HasB.new _ _ _)
  have HBa : Hid (Below w.heap.size w wa) := Lib.hid (by rw [hwa]; exact (Below.refl _ _).alloc (Nat.le_refl _) _)
  have hsz : wa.heap.size = w.heap.size + 1 := by rw [hwa]; simp
  obtain ⟨B, hB⟩ : ∃ B, B = wa.heap.size := ⟨_, rfl⟩
  have HBs : Hid (B = wa.heap.size ∧ B = w.heap.size + 1) := Lib.hid ⟨hB, by omega⟩
  have HE : Hid ((wa.alloc (.cells #[] 5)).ownsRow B 5 1 (.slice (some ⟨w.heap.size + 1, 0, none⟩) 0 0) 0 (u8s [])) := Lib.hid (by
    have q := own_empty (w := wa) (base := B) (e := 5) (by omega)
    rw [hsz] at q
    exact q)
  clear e0 hwa hsz
  refine wpList_app_u8 rfl _ _ 50 rfl B 5 Try.underlying50 (by kernel_rfl) (.slice (some ⟨w.heap.size + 1, 0, none⟩) 0 0) 0 [] rfl HE.out a len cap key rfl ((HI.out.below HBa.out (Nat.le_refl _)).alloc _) hnil (by omega) (by simp; omega) ?_
  intro v2 w2 hown2 hgrow2
  have hb2 : Below B wa w2 := ((Below.refl _ _).alloc (by omega) _).grown hgrow2 (by simp; omega) (fun k hk => by simp [Value.ownBlock] at hk; have := HBs.out.2; omega)
  have HP2 : Hid (w2.ownsRow B 5 1 v2 len (u8s key)) := Lib.hid (by simpa using hown2)
  have HB2 := Lib.hid hb2
  have H8 := Lib.hid h8
  obtain ⟨a3, cp3, rfl⟩ := own_form HP2.out
  clear hown2 hgrow2 hb2 hB h8 HE
  go_upto_if 16 with fail
  go_cut [5] (fun v wx => ∃ (v5 : Value) (n0 : Nat) (K0 : List Nat), v = v5 ∧ Hid (KeyRow B wx v5 n0 K0 key) ∧ Hid (Below B wa wx))
  case first =>
    by_cases h64 : 64 < len
    · have t1 : 64 < (len : Int) := by omega
      obtain ⟨g3, c3, hsh⟩ := own_shape HP2.out (by omega)
      simp at hsh
      obtain ⟨rfl, rfl⟩ := hsh
      obtain ⟨C2, hC2⟩ : ∃ C2, C2 = (u8s (shaL key)).toArray := ⟨_, rfl⟩
      have hCs2 : C2.size = 32 := by rw [hC2]; simp [u8s_len, shaL_len]
      have HI2' : Hid ((Try.prog.info? 22).map (·.size) = some C2.size) := Lib.hid (by rw [hCs2]; exact info_o32)
      have HOne2 : Hid (C2.all (·.oneCell') = true) := Lib.hid (by
        rw [hC2]
        simp only [List.all_toArray, List.all_eq_true]
        exact u8s_one _)
      have HOld2 : Hid ((u8s (List.replicate 32 0)).toArray.size = C2.size) := Lib.hid (by rw [hCs2]; rfl)
      have HC2 := Lib.hid hC2
      go_wp2_with fail
      refine (rsum_any (some ⟨g3, 0, none⟩) len cp3 key w2 (bytes_of_own HP2.out H8.out) H8.out (by simp) (by omega)).mono ?_
      rintro e w4 ⟨rfl, hb4⟩
      rw [← hC2]
      have HB4 : Hid (Below B wa w4) := Lib.hid (HB2.out.trans (hb4.mono (by have := HB2.out.size; have := HBs.out.1; omega)))
      have hs4 : B ≤ w4.heap.size := by have := HB4.out.size; have := HBs.out.1; omega
      have HE4 : Hid (((w4.alloc (.cells C2 22)).alloc (.cells #[] 5)).ownsRow B 5 1 (.slice (some ⟨w4.heap.size + 1, 0, none⟩) 0 0) 0 (u8s [])) := Lib.hid (by
        have q := own_empty (w := w4.alloc (.cells C2 22)) (base := B) (e := 5) (by simp; omega)
        simpa using q)
      have HY4 : Hid (Bytes ((w4.alloc (.cells C2 22)).alloc (.cells #[] 5)) (some ⟨w4.heap.size, 0, none⟩) 32 (shaL key)) := Lib.hid (by
        have q := bytes_of_row (w := w4.alloc (.cells C2 22)) (g := w4.heap.size) (l := shaL key) (t := 22) (fr := (0, 0)) (by rw [HC2.out]; exact heap_new _ _) (shaL_lt key)
        rw [shaL_len] at q
        exact q.alloc _)
      clear hb4 hC2 hCs2
      go_wp2_with (first | (with_reducible refine wpList_store_row rfl 22 (.tmp 6) (.tmp 18) rfl w4.heap.size C2 rfl rfl 22 (u8s (List.replicate 32 0)).toArray (heap_new w4 _) HI2'.out HOld2.out HOne2.out ?_; rw [World.setRow_alloc_new]) | (at_builtin; refine Stop.mk ?_))
      refine Stop.go ?_
      refine wpList_app_u8 rfl _ _ 50 rfl B 5 Try.underlying50 (by kernel_rfl) (.slice (some ⟨w4.heap.size + 1, 0, none⟩) 0 0) 0 [] rfl HE4.out (some ⟨w4.heap.size, 0, none⟩) 32 32 (shaL key) rfl HY4.out (by simp) (by omega) (by simp; omega) ?_
      intro v5 w5 hown5 hgrow5
      have HKR : Hid (KeyRow B w5 v5 32 (shaL key) key) := Lib.hid ⟨by simpa using hown5, by omega, by unfold kOf; rw [if_pos (by rw [HL.out]; exact h64)], shaL_len key, shaL_lt key⟩
      have HB5 : Hid (Below B wa w5) := Lib.hid (((HB4.out.alloc hs4 _).alloc (by simp; omega) _).grown hgrow5 (by simp; omega) (fun k hk => by simp [Value.ownBlock] at hk; omega))
      clear hown5 hgrow5
      go_wp2
      go_meet
      case rel => exact ⟨_, _, _, rfl, HKR, HB5⟩
    · have t1 : ¬ (64 < (len : Int)) := by omega
      have HKR : Hid (KeyRow B w2 (.slice a3 len cp3) len key key) := Lib.hid ⟨HP2.out, by omega, by unfold kOf; rw [if_neg (by rw [HL.out]; exact h64)], HL.out, H8.out⟩
      go_wp2
      go_meet
      case rel => exact ⟨_, _, _, rfl, HKR, HB2⟩
  case rest =>
    obtain ⟨v5, n0, K0, rfl, HKR, HBj⟩ := hcut
    obtain ⟨wj, rfl⟩ : ∃ wj : World, wj = wc := ⟨_, rfl⟩
    obtain ⟨a5, cp5, rfl⟩ := own_form HKR.out.1
    clear HP2 HB2 H8
    have hn64 := HKR.out.2.1
    have HPad := Lib.hid HKR.out.2.2.1
    have HK0 := Lib.hid HKR.out.2.2.2
    have HP0 : Hid (wj.ownsRow B 5 1 (.slice a5 n0 cp5) (n0 + 0) (u8s (K0 ++ List.replicate 0 0))) := Lib.hid (by simpa using HKR.out.1)
    clear HKR
    go_wp2_with fail
    go_loopw [5] (fun x wr => ∃ (z : Nat) (v : Value), z ≤ 64 - n0 ∧ x = v ∧ Hid (wr.ownsRow B 5 1 v (n0 + z) (u8s (K0 ++ List.replicate z 0))) ∧ Hid (Below B wa wr)) (fun x _ => 1000 - lenOf x)
    case atStart => exact ⟨0, _, by omega, rfl, HP0, HBj⟩
    case round =>
      clear HP0 HBj
      obtain ⟨z, v, hz, rfl, HP, HB⟩ := hrel
      obtain ⟨wp, rfl⟩ : ∃ wp : World, wp = wr := ⟨_, rfl⟩
      obtain ⟨a6, cp6, rfl⟩ := own_form HP.out
      obtain ⟨N, hN⟩ : ∃ N, N = n0 + z := ⟨_, rfl⟩
      rw [← hN] at HP ⊢
      have hsz : B ≤ wp.heap.size := by have := HB.out.size; have := HBs.out.1; omega
      by_cases hlt : N < 64
      · have t1 : (N : Int) < 64 := by omega
        have HN := Lib.hid hN
        clear hN
        go_wp2_with (at_builtin; refine Stop.mk ?_)
        refine Stop.go ?_
        refine wpList_app_u8 rfl _ _ 50 rfl B 5 Try.underlying50 (by kernel_rfl) (.slice a6 N cp6) N _ rfl (own_below HP.out ((Below.refl _ _).alloc (Nat.le_refl _) _) (Nat.le_refl _)) (some ⟨wp.heap.size, 0, none⟩) 1 1 [0] rfl (bytes_lit1 (by decide)) (by simp) (by omega) (by simp; omega) ?_
        intro v7 w7 hown7 hgrow7
        have HB7 : Hid (Below B wa w7) := Lib.hid ((HB.out.alloc hsz _).grown hgrow7 (by simp; omega) (fun q hq => (HP.out.lt q hq).1))
        have HP7 : Hid (w7.ownsRow B 5 1 v7 (n0 + (z + 1)) (u8s (K0 ++ List.replicate (z + 1) 0))) := Lib.hid (by
          have e : K0 ++ List.replicate (z + 1) 0 = (K0 ++ List.replicate z 0) ++ [0] := by rw [List.replicate_succ']; simp
          rw [e, show n0 + (z + 1) = N + 1 by rw [HN.out]; omega]; exact hown7)
        obtain ⟨a7, cp7, rfl⟩ := own_form hown7
        clear hown7 hgrow7 HB HP
        go_wp2_with fail
        go_roundw
        case rel => exact ⟨z + 1, _, by have := HN.out; omega, rfl, by rw [HN.out] at HP7 ⊢; exact HP7, HB7⟩
        case measure => simp [lenOf]; omega
      · obtain rfl : N = 64 := by omega
        obtain ⟨K, hK⟩ : ∃ K, K = kOf key := ⟨_, rfl⟩
        have hKe : K0 ++ List.replicate z 0 = K := by
          rw [hK, ← HPad.out]
          unfold padK
          rw [HK0.out.1, show 64 - n0 = z by omega]
        have HKE := Lib.hid hK
        have hKl : K.length = 64 := by rw [hK]; exact HK.out.1
        have hK8 : ∀ c ∈ K, c < 256 := by rw [hK]; exact HK.out.2
        rw [hKe] at HP
        obtain ⟨g6, c6, hsh⟩ := own_shape HP.out (by omega)
        simp at hsh
        obtain ⟨rfl, rfl⟩ := hsh
        have HY : Hid (Bytes wp (some ⟨g6, 0, none⟩) 64 K) := Lib.hid (bytes_of_own HP.out hK8)
        have HKL := Lib.hid hKl
        have HK8 := Lib.hid hK8
        obtain ⟨B2, hB2⟩ : ∃ B2, B2 = wp.heap.size := ⟨_, rfl⟩
        have HB2 : Hid (B2 = wp.heap.size ∧ B ≤ B2) := Lib.hid ⟨hB2, by omega⟩
        have H7 : Hid (wp.ownsRow B2 5 1 (.slice none 0 0) 0 (u8s ((xorK K 54).take 0))) := Lib.hid (World.ownsRow_nil wp B2 5 1)
        have H8 : Hid (wp.ownsRow B2 5 1 (.slice none 0 0) 0 (u8s ((xorK K 92).take 0))) := Lib.hid (World.ownsRow_nil wp B2 5 1)
        have HAp : Hid (Apart (.slice none 0 0) (.slice none 0 0)) := Lib.hid (apart_none _)
        have HBw : Hid (Below B2 wp wp) := Lib.hid (Below.refl _ _)
        clear hlt hK hKe hKl hK8 HP hz hN hsz hB2 HPad HK0 hn64
        go_wp2_with fail
        go_loopw [7, 8, 9] (fun x y i wr => ∃ (k : Nat) (v7 v8 : Value), k ≤ 64 ∧ i = .int .i64 (k : Int) ∧ x = v7 ∧ y = v8 ∧ Hid (wr.ownsRow B2 5 1 v7 k (u8s ((xorK K 54).take k))) ∧ Hid (wr.ownsRow B2 5 1 v8 k (u8s ((xorK K 92).take k))) ∧ Hid (Apart v7 v8) ∧ Hid (Below B2 wp wr)) (fun _ _ i _ => 64 - (intOf i).toNat)
        case atStart => exact ⟨0, _, _, by omega, rfl, rfl, rfl, H7, H8, HAp, HBw⟩
        case round =>
          clear H7 H8 HAp HBw
          obtain ⟨k, v7, v8, hk, rfl, rfl, rfl, H7, H8, HAp, HBr⟩ := hrel
          obtain ⟨wq, rfl⟩ : ∃ wq : World, wq = wr := ⟨_, rfl⟩
          obtain ⟨a7, cp7, rfl⟩ := own_form H7.out
          obtain ⟨a8, cp8, rfl⟩ := own_form H8.out
          have hsq : B2 ≤ wq.heap.size := by have := HBr.out.size; have := HB2.out.1; omega
          by_cases hlt : k < 64
          · have t2 : (k : Int) < 64 := by omega
            have t3 : (0 : Int) ≤ (k : Int) := by omega
            obtain ⟨y, hy⟩ : ∃ y, y = K.getD k 0 := ⟨_, rfl⟩
            have hyl : y < 256 := by rw [hy]; exact byte_at HK8.out k
            have hX1 : bits .xor .u8 (y : Int) (54 : Int) = ((y ^^^ 54 : Nat) : Int) := u8_xor_nat _ _ hyl (by decide)
            have hX2 : bits .xor .u8 (y : Int) (92 : Int) = ((y ^^^ 92 : Nat) : Int) := u8_xor_nat _ _ hyl (by decide)
            have hx1l : y ^^^ 54 < 256 := Nat.xor_lt_two_pow (n := 8) hyl (by decide)
            have hx2l : y ^^^ 92 < 256 := Nat.xor_lt_two_pow (n := 8) hyl (by decide)
            have HE1 : Hid ((xorK K 54).take (k + 1) = (xorK K 54).take k ++ [y ^^^ 54]) := Lib.hid (by rw [hy]; exact xorK_take K 54 k (by rw [HKL.out]; exact hlt))
            have HE2 : Hid ((xorK K 92).take (k + 1) = (xorK K 92).take k ++ [y ^^^ 92]) := Lib.hid (by rw [hy]; exact xorK_take K 92 k (by rw [HKL.out]; exact hlt))
            have HCl : Hid (∀ w', Below B2 wp w' → w'.cell? ⟨g6, k, none⟩ = some (.int .u8 (y : Int))) := Lib.hid (fun w' hb => by
              obtain ⟨b, off, he, hlt', hc⟩ := HY.out.2.2 (by omega)
              simp at he
              obtain ⟨rfl, rfl⟩ := he
              have h1 := hc k hlt
              rw [Nat.zero_add] at h1
              rw [hb.cell (p := ⟨g6, k, none⟩) (by rw [HB2.out.1]; exact hlt'), h1, hy])
            have c1 := HCl.out wq HBr.out
            obtain ⟨x1, hx1⟩ : ∃ x1, x1 = y ^^^ 54 := ⟨_, rfl⟩
            obtain ⟨x2, hx2⟩ : ∃ x2, x2 = y ^^^ 92 := ⟨_, rfl⟩
            rw [← hx1] at hX1 hx1l HE1
            rw [← hx2] at hX2 hx2l HE2
            clear hy hx1 hx2
            go_wp2_with (at_builtin; refine Stop.mk ?_)
            refine Stop.go ?_
            refine wpList_appW rfl _ _ 50 rfl B2 5 Try.underlying50 (by kernel_rfl) (.slice a7 k cp7) k _ rfl (own_below H7.out ((Below.refl _ _).alloc (Nat.le_refl _) _) (Nat.le_refl _)) (some ⟨wq.heap.size, 0, none⟩) 1 1 [x1] rfl (bytes_lit1 hx1l) (by simp) (by omega) (by simp; omega) ?_
            intro v9 w9 hown9 hgrow9 hpl9
            obtain ⟨h8', hap'⟩ := apart_app (own_below H8.out ((Below.refl wq.heap.size wq).alloc (Nat.le_refl _) (.cells #[.int .u8 (x1 : Int)] 5)) (Nat.le_refl _)) HAp.out hgrow9 hpl9
            have HB9 : Hid (Below B2 wp w9) := Lib.hid ((HBr.out.alloc hsq _).grown hgrow9 (by simp; omega) (fun q hq => (H7.out.lt q hq).1))
            have H79 : Hid (w9.ownsRow B2 5 1 v9 (k + 1) (u8s ((xorK K 54).take (k + 1)))) := Lib.hid (by rw [HE1.out]; exact hown9)
            have H89 := Lib.hid h8'
            have HA9 := Lib.hid hap'
            obtain ⟨a9, cp9, rfl⟩ := own_form hown9
            have c2 := HCl.out w9 HB9.out
            have hs9 : B2 ≤ w9.heap.size := by have := HB9.out.size; have := HB2.out.1; omega
            clear hown9 hgrow9 hpl9 h8' hap' c1 H7 H8 HAp HBr HE1
            go_wp2_with (at_builtin; refine Stop.mk ?_)
            refine Stop.go ?_
            refine wpList_appW rfl _ _ 50 rfl B2 5 Try.underlying50 (by kernel_rfl) (.slice a8 k cp8) k _ rfl (own_below H89.out ((Below.refl _ _).alloc (Nat.le_refl _) _) (Nat.le_refl _)) (some ⟨w9.heap.size, 0, none⟩) 1 1 [x2] rfl (bytes_lit1 hx2l) (by simp) (by omega) (by simp; omega) ?_
            intro v10 w10 hown10 hgrow10 hpl10
            obtain ⟨h7', hap'⟩ := apart_app (own_below H79.out ((Below.refl w9.heap.size w9).alloc (Nat.le_refl _) (.cells #[.int .u8 (x2 : Int)] 5)) (Nat.le_refl _)) HA9.out.symm hgrow10 hpl10
            have HB10 : Hid (Below B2 wp w10) := Lib.hid ((HB9.out.alloc hs9 _).grown hgrow10 (by simp; omega) (fun q hq => (H89.out.lt q hq).1))
            have H810 : Hid (w10.ownsRow B2 5 1 v10 (k + 1) (u8s ((xorK K 92).take (k + 1)))) := Lib.hid (by rw [HE2.out]; exact hown10)
            have H710 := Lib.hid h7'
            have HA10 := Lib.hid hap'.symm
            obtain ⟨a10, cp10, rfl⟩ := own_form hown10
            clear hown10 hgrow10 hpl10 h7' hap' c2 H79 H89 HA9 HB9 HE2
            go_wp2_with fail
            go_roundw
            case rel => exact ⟨k + 1, _, _, by omega, by go_num, rfl, rfl, H710, H810, HA10, HB10⟩
            case measure => simp [intOf]; omega
          · obtain rfl : k = 64 := by omega
            have t2 : ¬ (((64 : Nat) : Int) < 64) := by omega
            obtain ⟨X1, hX1⟩ : ∃ X1, X1 = xorK K 54 := ⟨_, rfl⟩
            obtain ⟨X2, hX2⟩ : ∃ X2, X2 = xorK K 92 := ⟨_, rfl⟩
            have hX1l : X1.length = 64 := by rw [hX1, xorK_len, HKL.out]
            have hX2l : X2.length = 64 := by rw [hX2, xorK_len, HKL.out]
            rw [← hX1, List.take_of_length_le (by omega)] at H7
            rw [← hX2, List.take_of_length_le (by omega)] at H8
            have hX18 : ∀ c ∈ X1, c < 256 := by rw [hX1]; exact xorK_lt HK8.out (by decide)
            have hX28 : ∀ c ∈ X2, c < 256 := by rw [hX2]; exact xorK_lt HK8.out (by decide)
            have HCe : Hid (C = (u8s (shaL (X2 ++ shaL (X1 ++ m)))).toArray) := Lib.hid (by rw [HC.out, macS_eq, hX1, hX2, HKE.out])
            have HX18 := Lib.hid hX18
            have HX28 := Lib.hid hX28
            obtain ⟨g7, c7, hsh⟩ := own_shape H7.out (by omega)
            simp at hsh
            obtain ⟨rfl, rfl⟩ := hsh
            obtain ⟨g8, c8, hsh⟩ := own_shape H8.out (by omega)
            simp at hsh
            obtain ⟨rfl, rfl⟩ := hsh
            have HBq : Hid (Below B wa wq) := Lib.hid (HB.out.trans (HBr.out.mono HB2.out.2))
            have HBq' : Hid (Below w.heap.size w wq) := Lib.hid (HBa.out.trans (HBq.out.mono (by have := HBs.out.2; omega)))
            clear hlt hk hX1 hX2 hX1l hX2l hX18 hX28 HBr HB HKE HKL HK8 HY
            have hBq : B2 ≤ wq.heap.size := hsq
            go_wp2_with (at_builtin; refine Stop.mk ?_)
            refine Stop.go ?_
            refine wpList_appW rfl _ _ 50 rfl B2 5 Try.underlying50 (by kernel_rfl) (.slice (some ⟨g7, 0, none⟩) 64 cp7) 64 X1 rfl H7.out a2 n cap2 m rfl (HI2.out.below HBq'.out (Nat.le_refl _)) hnil2 (by omega) hBq ?_
            intro v9 w9 hown9 hgrow9 hpl9
            obtain ⟨h8', -⟩ := apart_app H8.out HAp.out hgrow9 hpl9
            have HB9 : Hid (Below B wa w9) := Lib.hid (HBq.out.grown hgrow9 (by have := HB2.out.2; omega) (fun q hq => by have := (H7.out.lt q hq).1; have := HB2.out.2; omega))
            have H79 := Lib.hid hown9
            have H89 := Lib.hid h8'
            obtain ⟨a9, cp9, rfl⟩ := own_form hown9
            have hXm : ∀ c ∈ X1 ++ m, c < 256 := by
              intro c hc
              rcases List.mem_append.1 hc with q | q
              · exact HX18.out c q
              · exact HM8.out c q
            have hby9 : Bytes w9 a9 (64 + n) (X1 ++ m) := by
              obtain ⟨a', c', he, hb'⟩ := bytes_of_own' hown9 hXm
              simp at he
              obtain ⟨rfl, rfl⟩ := he
              exact hb'
            have hnil9 : a9 = none → cp9 = 0 := by
              intro q
              obtain ⟨g', c', he⟩ := own_shape hown9 (by omega)
              simp at he
              rw [he.1] at q; cases q
            have HXm := Lib.hid hXm
            have HY9 := Lib.hid hby9
            have HN9 := Lib.hid hnil9
            have hs9 : B2 ≤ w9.heap.size := Nat.le_trans hBq hgrow9.size
            clear hown9 hgrow9 hpl9 h8' hXm hby9 hnil9 H7 H8 HAp HBq HBq'
            go_wp2_with fail
            refine (rsum_any a9 (64 + n) cp9 (X1 ++ m) w9 HY9.out HXm.out HN9.out (by omega)).mono ?_
            rintro e w10 ⟨rfl, hb10⟩
            obtain ⟨C1, hC1⟩ : ∃ C1, C1 = (u8s (shaL (X1 ++ m))).toArray := ⟨_, rfl⟩
            have hC1s : C1.size = 32 := by rw [hC1]; simp [u8s_len, shaL_len]
            rw [← hC1]
            have HI1 : Hid ((Try.prog.info? 22).map (·.size) = some C1.size) := Lib.hid (by rw [hC1s]; exact info_o32)
            have HOne1 : Hid (C1.all (·.oneCell') = true) := Lib.hid (by
              rw [hC1]
              simp only [List.all_toArray, List.all_eq_true]
              exact u8s_one _)
            have HOld1 : Hid ((u8s (List.replicate 32 0)).toArray.size = C1.size) := Lib.hid (by rw [hC1s]; rfl)
            have HB10 : Hid (Below B wa w10) := Lib.hid (HB9.out.trans (hb10.mono (by have := HB2.out.2; omega)))
            have H810 := Lib.hid (own_below H89.out hb10 (Nat.le_refl _))
            have HY10 : Hid (Bytes (w10.alloc (.cells C1 22)) (some ⟨w10.heap.size, 0, none⟩) 32 (shaL (X1 ++ m))) := Lib.hid (by
              have q := bytes_of_row (w := w10.alloc (.cells C1 22)) (g := w10.heap.size) (l := shaL (X1 ++ m)) (t := 22) (fr := (0, 0)) (by rw [hC1]; exact heap_new _ _) (shaL_lt _)
              rw [shaL_len] at q
              exact q)
            have hs10 : B2 ≤ w10.heap.size := Nat.le_trans hs9 hb10.size
            clear hb10 hC1 hC1s HY9 HN9 H79 H89 HB9 hs9
            go_wp2_with (first | (with_reducible refine wpList_store_row rfl 22 (.tmp 10) (.tmp 51) rfl w10.heap.size C1 rfl rfl 22 (u8s (List.replicate 32 0)).toArray (heap_new w10 _) HI1.out HOld1.out HOne1.out ?_; rw [World.setRow_alloc_new]) | (at_builtin; refine Stop.mk ?_))
            refine Stop.go ?_
            refine wpList_appW rfl _ _ 50 rfl B2 5 Try.underlying50 (by kernel_rfl) (.slice (some ⟨g8, 0, none⟩) 64 cp8) 64 X2 rfl (own_below H810.out ((Below.refl _ _).alloc (Nat.le_refl _) _) (Nat.le_refl _)) (some ⟨w10.heap.size, 0, none⟩) 32 32 (shaL (X1 ++ m)) rfl HY10.out (by simp) (by omega) (by simp; omega) ?_
            intro v11 w11 hown11 hgrow11 hpl11
            have HB11 : Hid (Below B wa w11) := Lib.hid ((HB10.out.alloc (by have := HB2.out.2; omega) _).grown hgrow11 (by have := HB2.out.2; simp; omega) (fun q hq => by have := (H810.out.lt q hq).1; have := HB2.out.2; omega))
            obtain ⟨a11, cp11, rfl⟩ := own_form hown11
            have hXs : ∀ c ∈ X2 ++ shaL (X1 ++ m), c < 256 := by
              intro c hc
              rcases List.mem_append.1 hc with q | q
              · exact HX28.out c q
              · exact shaL_lt _ c q
            have hby11 : Bytes w11 a11 (64 + 32) (X2 ++ shaL (X1 ++ m)) := by
              obtain ⟨a', c', he, hb'⟩ := bytes_of_own' hown11 hXs
              simp at he
              obtain ⟨rfl, rfl⟩ := he
              exact hb'
            have hnil11 : a11 = none → cp11 = 0 := by
              intro q
              obtain ⟨g', c', he⟩ := own_shape hown11 (by omega)
              simp at he
              rw [he.1] at q; cases q
            have HXs := Lib.hid hXs
            have HY11 := Lib.hid hby11
            have HN11 := Lib.hid hnil11
            clear hown11 hgrow11 hpl11 hXs hby11 hnil11
            go_wp2_with fail
            refine (rsum_any a11 (64 + 32) cp11 (X2 ++ shaL (X1 ++ m)) w11 HY11.out HXs.out HN11.out (by omega)).mono ?_
            rintro e w12 ⟨rfl, hb12⟩
            rw [← HCe.out]
            have HB12 : Hid (Below B wa w12) := Lib.hid (HB11.out.trans (hb12.mono (by have := HB11.out.size; have := HBs.out.1; omega)))
            have HQ12 : Hid (w12.heap[w.heap.size]? = some (.cells (u8s (List.replicate 32 0)).toArray 22 (0, 0))) := Lib.hid (HasB.below HQ.out HB12.out (by have := HBs.out.2; omega))
            have HSet : Hid ((w12.setRow w.heap.size C).heap[w.heap.size]? = some (.cells C 22 (0, 0)) ∧ Below w.heap.size w (w12.setRow w.heap.size C)) := Lib.hid ⟨setRow_heap _ w.heap.size _ C 22 (0, 0) HQ12.out, below_setRow (HBa.out.trans (HB12.out.mono (by have := HBs.out.2; omega))) (Nat.le_refl _) C⟩
            clear hb12
            go_wp2_with (with_reducible refine wpList_store_row rfl 22 (.tmp 4) (.tmp 55) rfl w.heap.size C rfl rfl 22 _ HQ12.out HI32.out HOld.out HOne.out ?_)
            exact bodyPost_ret (results_cell_row (p := 4) (by kernel_rfl) _ _ w.heap.size 22 C (0, 0) _ rfl HSet.out.1 Try.underlying22 rfl HI32.out) rfl ⟨rfl, HSet.out.2⟩
end Go.Proofs.Ytkdjimcpdbpemaa
