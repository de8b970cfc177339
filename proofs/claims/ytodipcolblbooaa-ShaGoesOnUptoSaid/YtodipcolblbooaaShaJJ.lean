/- sha: ShaGoesOn: the walk. -/
import Derived.Test.YtodipcolblbooaaShaII
import Derived.Test.YtodipcolblbooaaHeld
import Derived.Deep.CutBlock
import Derived.Deep.DeepCutAuto
namespace Go.Proofs.Ytodipcolblbooaa
open Go Go.RowKit
set_option linter.unusedVariables false

set_option maxRecDepth 100000 in
set_option maxHeartbeats 4000000 in
theorem shagoes_any (a : Option Addr) (len cap : Nat) (key : List Nat) (kd : Bool) (a2 : Option Addr) (n cap2 : Nat) (ls : List (List Nat)) (a3 : Option Addr) (n3 cap3 : Nat) (rs : List Bool) (w : World) (hi : Bytes w a len key) (hnil : a = none → cap = 0) (hlc : len ≤ cap) (hcm : cap ≤ maxLen) (hR : RowsR w a2 ls) (hl : ls.length = n) (hb : ∀ x ∈ ls, ∀ c ∈ x, c < 256) (hT : sumLen ls n + n ≤ 1048576) (hrs : Bools w a3 n3 rs) (hn3 : n3 ≤ maxLen) :
    Calls Try.prog 4 #[.slice a len cap, .bool kd, .slice a2 n cap2, .slice a3 n3 cap3] w fun e w' => e = .returned (.bool true) ∧ Below w.heap.size w w' := by
  have HI := Lib.hid hi
  have HR := Lib.hid hR
  have HBt := Lib.hid hb
  have HLn := Lib.hid hl
  have HNil := Lib.hid hnil
  have HCm := Lib.hid hcm
  have HRs := Lib.hid hrs
  have HK := Lib.hid (KK_ok kd hi.2.1)
  unfold maxLen at hcm hn3
  clear hi hR hb hl hnil hrs
  go_enter Try.func4, Try.ntmps4
  go_wp2_with fail
  refine (sknown_any _).mono ?_
  rintro e w1 ⟨rfl, hb1⟩
  have HB1 := Lib.hid hb1
  clear hb1
  go_wp2_with fail
  refine (joined_any a2 n cap2 ls w1 (HR.out.below HB1.out) HLn.out HBt.out hT).mono ?_
  rintro e w2 ⟨⟨v, ok, rfl, hok⟩, hb2⟩
  have HB2 : Hid (Below w.heap.size w w2) := Lib.hid (HB1.out.trans (hb2.mono HB1.out.size))
  clear hb2 HB1
  cases ok with
  | false =>
    clear hok
    go_wp2_with fail
    go_ret
    exact ⟨rfl, HB2.out⟩
  | true =>
    obtain ⟨_, hS, _, hx4⟩ := hok rfl
    have HX4 := Lib.hid hx4
    clear hok hx4
    by_cases h4 : len ≤ 4096
    case neg =>
      have t1 : 4096 < (len : Int) := by omega
      go_wp2_with fail
      go_ret
      exact ⟨rfl, HB2.out⟩
    by_cases h5 : n ≤ 40
    case neg =>
      have t1 : ¬ (4096 < (len : Int)) := by omega
      have t2 : 40 < (n : Int) := by omega
      go_wp2_with fail
      go_ret
      exact ⟨rfl, HB2.out⟩
    have t1 : ¬ (4096 < (len : Int)) := by omega
    have t2 : ¬ (40 < (n : Int)) := by omega
    go_wp2_with fail
    refine (snew_any w2).mono ?_
    rintro e w3 ⟨rfl, hD3, hb3⟩
    have HB3 : Hid (Below w.heap.size w w3) := Lib.hid (HB2.out.trans (hb3.mono HB2.out.size))
    have HD3 := Lib.hid hD3
    have HG3 : Hid (w.heap.size ≤ w2.heap.size) := Lib.hid HB2.out.size
    clear hD3 hb3
    go_upto_if 37 with fail
    go_cut [11] (fun v wx => ∃ (g : Nat), v = .pointer (some ⟨g, 0, none⟩) ∧ Hid (GoesW w wx g kd key [] (.slice none 0 0)))
    case first =>
      cases kd with
      | false =>
        go_wp2
        go_meet
        case rel => exact ⟨_, rfl, Lib.hid ⟨HD3.out, World.ownsRow_nil _ _ _ _, restAt_none, HB3.out, HG3.out, by simp⟩⟩
      | true =>
        go_wp2_with fail
        refine (keyed_any a len cap key w3 (HI.out.below HB3.out (Nat.le_refl _)) HNil.out hlc HCm.out (by omega)).mono ?_
        rintro e w4 ⟨rfl, hD4, hb4⟩
        have HW4 : Hid (GoesW w w4 w3.heap.size true key [] (.slice none 0 0)) := Lib.hid ⟨by rw [List.append_nil]; exact hD4, World.ownsRow_nil _ _ _ _, restAt_none, HB3.out.trans (hb4.mono HB3.out.size), HB3.out.size, by simp⟩
        clear hD4 hb4
        go_wp2
        go_meet
        case rel => exact ⟨_, rfl, HW4⟩
    case rest =>
      obtain ⟨g, rfl, HW0⟩ := hcut
      obtain ⟨wj, rfl⟩ : ∃ wj : World, wj = wc := ⟨_, rfl⟩
      clear HB2 HB3 HD3 HG3 t1 t2
      go_wp2_with fail
      go_loopw [12, 13] (fun x i wr => ∃ (k : Nat) (u : Value) (L : List Nat), k ≤ n ∧ i = .int .i64 (k : Int) ∧ x = u ∧ L.length ≤ sumLen ls k ∧ Hid (GoesW w wr g kd key L u)) (fun _ i _ => n - (intOf i).toNat)
      case atStart => exact ⟨0, _, [], by omega, rfl, rfl, by simp, HW0⟩
      case round =>
        clear HW0
        obtain ⟨k, u, L, hk, rfl, rfl, hLl, HW⟩ := hrel
        obtain ⟨wo, rfl⟩ : ∃ wo : World, wo = wr := ⟨_, rfl⟩
        by_cases hlt : k < n
        · obtain ⟨x, hx⟩ : ∃ x, ls[k]? = some x := ⟨_, List.getElem?_eq_getElem (by have := HLn.out; omega)⟩
          obtain ⟨gp, off, b, cp, rfl, hgl, hc, hy, hbn, hxc, hcm2⟩ := HR.out k x hx
          have hgx : (ls.getD k []).length = x.length := by simp [List.getD, hx]
          have hxm : x ∈ ls := by rw [List.mem_iff_getElem?]; exact ⟨k, hx⟩
          have hx4 := HX4.out x hxm
          have hxs : sumLen ls (k + 1) = sumLen ls k + x.length := by rw [sumLen, hgx]
          have hsm : sumLen ls (k + 1) ≤ sumLen ls n := by
            have := sumLen_mono ls (k + 1) (n - (k + 1))
            rw [show k + 1 + (n - (k + 1)) = n by omega] at this; exact this
          have HX8 := Lib.hid (HBt.out x hxm)
          obtain ⟨X, hX⟩ : ∃ X, X = x.length := ⟨_, rfl⟩
          rw [← hX] at hx4 hxs hc hy hxc
          have HCell : Hid (∀ w', Below w.heap.size w w' → w'.cell? ⟨gp, off + k, none⟩ = some (.slice b X cp)) := Lib.hid (fun w' hb => by rw [hb.cell (p := ⟨gp, off + k, none⟩) hgl]; exact hc)
          have HBy : Hid (∀ w', Below w.heap.size w w' → Bytes w' b X x) := Lib.hid (fun w' hb => hy.below hb (Nat.le_refl _))
          have HBlk : Hid (∀ g', w.heap.size ≤ g' → 0 < X → ∀ ad, b = some ad → ad.block ≠ g') := Lib.hid (fun g' hg h0 ad he => by
            obtain ⟨bb, oo, he2, hlt2, _⟩ := hy.2.2 h0
            rw [he] at he2
            cases he2
            show bb ≠ g'
            omega)
          have HBn := Lib.hid hbn
          have HXs := Lib.hid hxs
          have HXe := Lib.hid hX
          have t1 : (k : Int) < (n : Int) := by omega
          have t0 : (0 : Int) ≤ (k : Int) := by omega
          have hLb : L.length + X ≤ 4096 := by omega
          clear hx hgx hxm hc hy hbn hX hxs hsm
          go_upto_region 15 with fail
          go_cut [57] (fun c wx => ∃ bb : Bool, c = .bool bb ∧ Hid (GoesW w wx g kd key L u12))
          case first =>
            by_cases h3 : k < n3
            · have t2 : (k : Int) < (n3 : Int) := by omega
              obtain ⟨gr, offr, rfl, hcr⟩ := (HRs.out.below HW.out.2.2.2.1).at k h3
              go_wp2
              go_meet
              case rel => exact ⟨_, rfl, HW⟩
            · have t2 : ¬ ((k : Int) < (n3 : Int)) := by omega
              go_wp2
              go_meet
              case rel => exact ⟨_, rfl, HW⟩
          case rest =>
            obtain ⟨bb, rfl, HWc⟩ := hcut
            clear HW
            go_upto_if 57 with fail
            go_cut [12] (fun v wx => ∃ (u2 : Value) (L2 : List Nat), v = u2 ∧ Hid (L2.length ≤ L.length) ∧ Hid (GoesW w wx g kd key L2 u2))
            case first =>
              cases bb with
              | false =>
                go_wp2
                go_meet
                case rel => exact ⟨_, _, rfl, Lib.hid (Nat.le_refl _), HWc⟩
              | true =>
                go_wp2_with fail
                refine (reset_any g g kd (KK kd key) _ (HWc.out.1.z) HK.out (Nat.le_refl _) (Nat.le_of_lt HWc.out.1.lt)).mono ?_
                rintro e w4 ⟨rfl, hD4, hb4⟩
                have HW4 : Hid (GoesW w w4 g kd key [] (.slice none 0 0)) := Lib.hid ⟨by simpa using hD4, World.ownsRow_nil _ _ _ _, restAt_none, HWc.out.2.2.2.1.trans (hb4.mono HWc.out.2.2.2.2.1), HWc.out.2.2.2.2.1, by simp⟩
                clear hD4 hb4
                go_wp2
                go_meet
                case rel => exact ⟨_, [], rfl, Lib.hid (by simp), HW4⟩
            case rest =>
              obtain ⟨u2, L2, rfl, hL2, HW2⟩ := hcut
              clear HWc
              have hL2l := hL2.out
              obtain ⟨wp, rfl⟩ : ∃ wp : World, wp = wc := ⟨_, rfl⟩
              obtain ⟨a12, cp12, rfl⟩ := own_form HW2.out.2.1
              obtain ⟨N2, hN2⟩ : ∃ N2, N2 = L2.length := ⟨_, rfl⟩
              have HD2 : Hid (DigL wp g g kd (KK kd key) (preS kd (KK kd key) ++ L2)) := Lib.hid HW2.out.1
              have HO2 : Hid (wp.ownsRow w.heap.size 5 1 (.slice a12 N2 cp12) N2 (u8s L2)) := Lib.hid (by rw [hN2]; exact HW2.out.2.1)
              have HA2 : Hid (RestAt wp g (.slice a12 N2 cp12)) := Lib.hid (by rw [hN2]; exact HW2.out.2.2.1)
              have HB2 : Hid (Below w.heap.size w wp) := Lib.hid HW2.out.2.2.2.1
              have HGw : Hid (w.heap.size ≤ g) := Lib.hid HW2.out.2.2.2.2.1
              have HL28 : Hid (∀ c ∈ L2, c < 256) := Lib.hid HW2.out.2.2.2.2.2
              have HP8 : Hid (∀ c ∈ preS kd (KK kd key) ++ L2, c < 256) := Lib.hid (fun c hc => by
                rcases List.mem_append.1 hc with q | q
                · exact preS_lt HK.out.2 c q
                · exact HL28.out c q)
              have hPl : (preS kd (KK kd key) ++ L2).length ≤ 100000000 := by
                have := preS_len kd (KK kd key)
                rw [HK.out.1] at this
                rw [List.length_append]; omega
              rw [← hN2] at hL2l ⊢
              have HN2 := Lib.hid hN2
              have HPl := Lib.hid hPl
              have hcl := HCell.out wp HB2.out
              clear HW2 hL2 hN2 hPl
              go_wp2_with fail
              refine (swrite_any g g kd (KK kd key) (preS kd (KK kd key) ++ L2) b X cp x wp HD2.out (Nat.le_refl _) (Nat.le_of_lt HD2.out.lt) HP8.out (HBy.out wp HB2.out) HBn.out (HBlk.out g HGw.out) (by omega) HPl.out).mono ?_
              rintro e w3 ⟨rfl, hD3, hb3, hk3, hr3⟩
              obtain ⟨hO3, hA3⟩ := hr3 w.heap.size _ _ _ HO2.out HA2.out
              have HD3 : Hid (DigL w3 g g kd (KK kd key) (preS kd (KK kd key) ++ (L2 ++ x))) := Lib.hid (by rw [← List.append_assoc]; exact hD3)
              have HO3 := Lib.hid hO3
              have HA3 := Lib.hid hA3
              have HB3 : Hid (Below w.heap.size w w3) := Lib.hid (HB2.out.trans (hb3.mono HGw.out))
              have hcl3 := HCell.out w3 HB3.out
              clear hD3 hb3 hk3 hr3 hO3 hA3 HD2 HO2 HA2 HB2 hcl
              go_wp2_with (at_builtin; refine Stop.mk ?_)
              refine Stop.go ?_
              refine wpList_appW rfl _ _ 22 rfl w.heap.size 5 Try.underlying22 (by kernel_rfl) (.slice a12 N2 cp12) N2 L2 rfl HO3.out b X cp x rfl (HBy.out w3 HB3.out) HBn.out (by omega) HB3.out.size ?_
              intro v5 w5 hown5 hgrow5 hpl5
              obtain ⟨hD5, hA5⟩ := DigL.app HD3.out HO3.out HA3.out hgrow5 hpl5
              obtain ⟨L5, hL5⟩ : ∃ L5, L5 = L2 ++ x := ⟨_, rfl⟩
              rw [← hL5] at hown5 hD5
              have hL5l : L5.length = N2 + X := by rw [hL5, List.length_append, ← HN2.out, ← HXe.out]
              have hL58 : ∀ c ∈ L5, c < 256 := by
                intro c hc
                rw [hL5] at hc
                rcases List.mem_append.1 hc with q | q
                · exact HL28.out c q
                · exact HX8.out c q
              have HW5 : Hid (GoesW w w5 g kd key L5 v5) := Lib.hid ⟨hD5, by rw [hL5l]; exact hown5, hA5, HB3.out.grown hgrow5 HB3.out.size (fun q hq => (HO3.out.lt q hq).1), HGw.out, hL58⟩
              obtain ⟨a5, cp5, rfl⟩ := own_form hown5
              have hby5 : Bytes w5 a5 (N2 + X) L5 := by
                obtain ⟨a', c', he, hb'⟩ := bytes_of_own' hown5 hL58
                simp at he
                obtain ⟨rfl, rfl⟩ := he
                exact hb'
              have hnil5 : a5 = none → cp5 = 0 := by
                intro q
                rcases hown5.2 with ⟨h, _⟩ | ⟨g', cap', cur, h, _⟩
                · simp at h; exact h.2.2
                · simp at h; rw [h.1] at q; cases q
              obtain ⟨N5, hN5⟩ : ∃ N5, N5 = N2 + X := ⟨_, rfl⟩
              rw [← hN5] at hL5l hby5 HW5 ⊢
              have hN5b : N5 ≤ 4096 := by omega
              have HL5l := Lib.hid hL5l
              have HN5 : Hid (L5.length ≤ sumLen ls (k + 1)) := Lib.hid (by rw [hL5l, HXs.out]; omega)
              have HY5 := Lib.hid hby5
              have HNil5 := Lib.hid hnil5
              have HL58 := Lib.hid hL58
              clear hown5 hgrow5 hpl5 hD5 hA5 hL5 hL5l hL58 hby5 hnil5 hN5 HD3 HO3 HA3 HB3 hcl3
              go_wp2_with fail
              refine (rsum_any a5 N5 cp5 L5 w5 HY5.out HL58.out HNil5.out (by omega)).mono ?_
              rintro e w6 ⟨rfl, hb6⟩
              have HW6 := Lib.hid (HW5.out.later hb6)
              have HY6 : Hid (Bytes w6 a5 N5 L5) := Lib.hid (HY5.out.below hb6 (Nat.le_refl _))
              obtain ⟨C1, hC1⟩ : ∃ C1, C1 = (u8s (shaL L5)).toArray := ⟨_, rfl⟩
              have hC1s : C1.size = 32 := by rw [hC1]; simp [u8s_len, shaL_len]
              rw [← hC1]
              have HI1 : Hid ((Try.prog.info? 27).map (·.size) = some C1.size) := Lib.hid (by rw [hC1s]; exact info_o32)
              have HOne1 : Hid (C1.all (·.oneCell') = true) := Lib.hid (by
                rw [hC1]
                simp only [List.all_toArray, List.all_eq_true]
                exact u8s_one _)
              have HOld1 : Hid ((u8s (List.replicate 32 0)).toArray.size = C1.size) := Lib.hid (by rw [hC1s]; rfl)
              have HC1 := Lib.hid hC1
              have HS1 := Lib.hid hC1s
              have HG6 : Hid (HasB (w6.alloc (.cells C1 27)) w6.heap.size C1 27) := Lib.hid (HasB.new _ _ _)
              have HB6 : Hid (Below w6.heap.size w6 (w6.alloc (.cells C1 27))) := Lib.hid ((Below.refl _ _).alloc (Nat.le_refl _) _)
              clear hb6 hC1 hC1s HW5 HY5
              go_upto_if 77 with (with_reducible refine wpList_store_row rfl 27 (.tmp 16) (.tmp 76) rfl w6.heap.size C1 rfl rfl 27 (u8s (List.replicate 32 0)).toArray (heap_new w6 _) HI1.out HOld1.out HOne1.out ?_; rw [World.setRow_alloc_new])
              go_cut [] (fun wx => Hid (HasB wx w6.heap.size (u8s (wantS kd key L5)).toArray 27) ∧ Hid (Below w6.heap.size w6 wx))
              case first =>
                cases kd with
                | false =>
                  go_wp2
                  go_meet
                  case rel => exact ⟨Lib.hid (by rw [want_no, ← HC1.out]; exact HG6.out), HB6⟩
                | true =>
                  have HYm : Hid (Bytes (w6.alloc (.cells C1 27)) a5 N5 L5) := Lib.hid (HY6.out.alloc _)
                  have HBm : Hid (Below w.heap.size w (w6.alloc (.cells C1 27))) := Lib.hid (HW6.out.2.2.2.1.trans (HB6.out.mono HW6.out.2.2.2.1.size))
                  obtain ⟨wy, hwy⟩ : ∃ wy, wy = w6.alloc (.cells C1 27) := ⟨_, rfl⟩
                  rw [← hwy] at HYm HBm HG6 HB6 ⊢
                  clear hwy
                  go_wp2_with fail
                  refine (rmac_any a len cap key a5 N5 cp5 L5 wy (HI.out.below HBm.out (Nat.le_refl _)) HNil.out HYm.out HNil5.out (by omega) (by omega)).mono ?_
                  rintro e w7 ⟨rfl, hb7⟩
                  obtain ⟨C2, hC2⟩ : ∃ C2, C2 = (u8s (macS key L5)).toArray := ⟨_, rfl⟩
                  have hC2s : C2.size = 32 := by rw [hC2]; simp [u8s_len, macS_len]
                  rw [← hC2]
                  have HI2 : Hid ((Try.prog.info? 27).map (·.size) = some C2.size) := Lib.hid (by rw [hC2s]; exact info_o32)
                  have HOne2 : Hid (C2.all (·.oneCell') = true) := Lib.hid (by
                    rw [hC2]
                    simp only [List.all_toArray, List.all_eq_true]
                    exact u8s_one _)
                  have HOld2 : Hid (C1.size = C2.size) := Lib.hid (by rw [HS1.out, hC2s])
                  have HG7 : Hid (w7.heap[w6.heap.size]? = some (.cells C1 27 (0, 0))) := Lib.hid (HasB.below HG6.out hb7 (HasB.lt HG6.out))
                  have HB7 : Hid (Below w6.heap.size w6 w7) := Lib.hid (HB6.out.trans (hb7.mono HB6.out.size))
                  have HF : Hid (Hid (HasB (w7.setRow w6.heap.size C2) w6.heap.size (u8s (wantS true key L5)).toArray 27) ∧ Hid (Below w6.heap.size w6 (w7.setRow w6.heap.size C2))) := Lib.hid ⟨Lib.hid (by rw [want_yes, ← hC2]; exact setRow_heap _ _ _ _ _ _ HG7.out), Lib.hid (below_setRow HB7.out (Nat.le_refl _) C2)⟩
                  clear hb7 hC2 hC2s
                  go_wp2_with (with_reducible refine wpList_store_row rfl 27 (.tmp 16) (.tmp 80) rfl w6.heap.size C2 rfl rfl 27 C1 HG7.out HI2.out HOld2.out HOne2.out ?_)
                  go_meet
                  case rel => exact HF.out
              case rest =>
                obtain ⟨HGz, HBz⟩ := hcut
                obtain ⟨wz, rfl⟩ : ∃ wz : World, wz = wc := ⟨_, rfl⟩
                have HWz : Hid (GoesW w wz g kd key L5 (.slice a5 N5 cp5)) := Lib.hid (HW6.out.later HBz.out)
                obtain ⟨C, hC⟩ : ∃ C, C = (u8s (wantS kd key L5)).toArray := ⟨_, rfl⟩
                have hCs : C.size = 32 := by rw [hC]; simp [u8s_len, want_len]
                have hneq : ∀ w, (binOp .neq 27 (.agg C) (.agg C)).run Try.prog w = .ok (.bool false) w := by
                  rw [hC]; exact fun w => neq_o32 (want_lt _ _ _) (want_len _ _ _) w
                rw [← hC] at HGz
                have HIC : Hid ((Try.prog.info? 27).map (·.size) = some C.size) := Lib.hid (by rw [hCs]; exact info_o32)
                have HLz : Hid (∀ w', Below wz.heap.size wz w' → w'.heap[w6.heap.size]? = some (.cells C 27 (0, 0))) := Lib.hid (fun w' hb => HasB.below HGz.out hb (HasB.lt HGz.out))
                have hclz : ∀ w', Below wz.heap.size wz w' → w'.cell? ⟨gp, off + k, none⟩ = some (.slice b X cp) := fun w' hb => HCell.out w' (HWz.out.2.2.2.1.trans (hb.mono HWz.out.2.2.2.1.size))
                have HP8z : Hid (∀ c ∈ preS kd (KK kd key) ++ L5, c < 256) := Lib.hid (fun c hc => by
                  rcases List.mem_append.1 hc with q | q
                  · exact preS_lt HK.out.2 c q
                  · exact HL58.out c q)
                have HPlz : Hid ((preS kd (KK kd key) ++ L5).length ≤ 100000000) := Lib.hid (by
                  have := preS_len kd (KK kd key)
                  rw [HK.out.1] at this
                  rw [List.length_append, HL5l.out]; omega)
                have HSum : Hid (∀ w', Below wz.heap.size wz w' → Calls Try.prog 16 #[.pointer (some ⟨g, 0, none⟩)] w' fun e w'' => e = .returned (.agg C) ∧ Below w'.heap.size w' w'') := Lib.hid (fun w' hb => by
                  rw [hC]
                  exact sum_any kd g g (KK kd key) (preS kd (KK kd key) ++ L5) w' HK.out (HWz.out.1.below hb) HP8z.out HPlz.out)
                clear hC hCs HC1 HG6 HB6 HI1 HOne1 HOld1 HY6 HW6
                go_wp2_with fail
                refine wp_region_held_drew (S := (fun w' => Below wz.heap.size wz w')) (by kernel_rfl) ((Below.refl _ _).drew) (fun hHeld => ?_)
                refine held_take 0 (v := ?_) rfl (by kernel_rfl) (by kernel_rfl) (by kernel_rfl) (fun _ _ _ h => h) (by rfl) (fun w hS => ?_) (by assumption) ?_
                rotate_left
                · try dsimp only at hS
                  go_simp <;> with_reducible rfl
                try simp only [Act.put, List.setIfInBounds_toArray, List.set_cons_zero, List.set_cons_succ]
                refine held_take 1 (v := ?_) rfl (by kernel_rfl) (by kernel_rfl) (by kernel_rfl) (fun _ _ _ h => h) (by rfl) (fun w hS => ?_) (by assumption) ?_
                rotate_left
                · try dsimp only at hS
                  go_simp <;> with_reducible rfl
                try simp only [Act.put, List.setIfInBounds_toArray, List.set_cons_zero, List.set_cons_succ]
                refine held_take 2 (v := ?_) rfl (by kernel_rfl) (by kernel_rfl) (by kernel_rfl) (fun _ _ _ h => h) (by rfl) (fun w hS => ?_) (by assumption) ?_
                rotate_left
                · try dsimp only at hS
                  go_simp <;> with_reducible rfl
                try simp only [Act.put, List.setIfInBounds_toArray, List.set_cons_zero, List.set_cons_succ]
                refine held_take 3 (v := ?_) rfl (by kernel_rfl) (by kernel_rfl) (by kernel_rfl) (fun _ _ _ h => h) (by rfl) (fun w hS => ?_) (by assumption) ?_
                rotate_left
                · try dsimp only at hS
                  go_simp <;> with_reducible rfl
                try simp only [Act.put, List.setIfInBounds_toArray, List.set_cons_zero, List.set_cons_succ]
                refine held_take 4 (v := ?_) rfl (by kernel_rfl) (by kernel_rfl) (by kernel_rfl) (fun _ _ _ h => h) (by rfl) (fun w hS => ?_) (by assumption) ?_
                rotate_left
                · try dsimp only at hS
                  go_simp <;> with_reducible rfl
                try simp only [Act.put, List.setIfInBounds_toArray, List.set_cons_zero, List.set_cons_succ]
                refine held_take 5 (v := ?_) rfl (by kernel_rfl) (by kernel_rfl) (by kernel_rfl) (fun _ _ _ h => h) (by rfl) (fun w hS => ?_) (by assumption) ?_
                rotate_left
                · try dsimp only at hS
                  go_simp <;> with_reducible rfl
                try simp only [Act.put, List.setIfInBounds_toArray, List.set_cons_zero, List.set_cons_succ]
                refine held_take 6 (v := ?_) rfl (by kernel_rfl) (by kernel_rfl) (by kernel_rfl) (fun _ _ _ h => h) (by rfl) (fun w hS => ?_) (by assumption) ?_
                rotate_left
                · try dsimp only at hS
                  go_simp <;> with_reducible rfl
                try simp only [Act.put, List.setIfInBounds_toArray, List.set_cons_zero, List.set_cons_succ]
                refine held_take 7 (v := ?_) rfl (by kernel_rfl) (by kernel_rfl) (by kernel_rfl) (fun _ _ _ h => h) (by rfl) (fun w hS => ?_) (by assumption) ?_
                rotate_left
                · try dsimp only at hS
                  go_simp <;> with_reducible rfl
                try simp only [Act.put, List.setIfInBounds_toArray, List.set_cons_zero, List.set_cons_succ]
                refine held_take 8 (v := ?_) rfl (by kernel_rfl) (by kernel_rfl) (by kernel_rfl) (fun _ _ _ h => h) (by rfl) (fun w hS => ?_) (by assumption) ?_
                rotate_left
                · try dsimp only at hS
                  go_simp <;> with_reducible rfl
                try simp only [Act.put, List.setIfInBounds_toArray, List.set_cons_zero, List.set_cons_succ]
                refine held_take 9 (v := ?_) rfl (by kernel_rfl) (by kernel_rfl) (by kernel_rfl) (fun _ _ _ h => h) (by rfl) (fun w hS => ?_) (by assumption) ?_
                rotate_left
                · try dsimp only at hS
                  go_simp <;> with_reducible rfl
                try simp only [Act.put, List.setIfInBounds_toArray, List.set_cons_zero, List.set_cons_succ]
                refine held_take 10 (v := ?_) rfl (by kernel_rfl) (by kernel_rfl) (by kernel_rfl) (fun _ _ _ h => h) (by rfl) (fun w hS => ?_) (by assumption) ?_
                rotate_left
                · try dsimp only at hS
                  go_simp <;> with_reducible rfl
                try simp only [Act.put, List.setIfInBounds_toArray, List.set_cons_zero, List.set_cons_succ]
                refine held_take 11 (v := ?_) rfl (by kernel_rfl) (by kernel_rfl) (by kernel_rfl) (fun _ _ _ h => h) (by rfl) (fun w hS => ?_) (by assumption) ?_
                rotate_left
                · try dsimp only at hS
                  go_simp <;> with_reducible rfl
                try simp only [Act.put, List.setIfInBounds_toArray, List.set_cons_zero, List.set_cons_succ]
                refine held_take 12 (v := ?_) rfl (by kernel_rfl) (by kernel_rfl) (by kernel_rfl) (fun _ _ _ h => h) (by rfl) (fun w hS => ?_) (by assumption) ?_
                rotate_left
                · try dsimp only at hS
                  go_simp <;> with_reducible rfl
                try simp only [Act.put, List.setIfInBounds_toArray, List.set_cons_zero, List.set_cons_succ]
                refine held_take 14 (v := .agg C) rfl (by kernel_rfl) (by kernel_rfl) (by kernel_rfl) (fun _ _ _ h => h) (by rfl) (fun w hS => ?_) (by assumption) ?_
                · exact yield_load_row _ _ _ _ (by rfl) w6.heap.size (by rfl) 27 C (0, 0) _ (HLz.out _ hS) Try.underlying27 (by rfl) HIC.out
                try simp only [Act.put, List.setIfInBounds_toArray, List.set_cons_zero, List.set_cons_succ]
                refine held_one 13 rfl (by kernel_rfl) (fun K hK => ?_)
                go_simp
                refine Calls.mono (HSum.out _ (Below.refl _ _).drew) ?_
                rintro e wm ⟨rfl, hbm⟩
                have hbm' : Below wz.heap.size wz wm := (Below.refl wz.heap.size wz).drew.trans (hbm.mono (Nat.le_refl _))
                have HBm := Lib.hid hbm'
                clear hbm
                refine hK.out _ _ (fun w' => Below wz.heap.size wz w') (fun _ h => h) hbm' (fun hHeld => ?_)
                clear hK K
                try simp only [Act.put, List.setIfInBounds_toArray, List.set_cons_zero, List.set_cons_succ]
                refine held_take 15 (v := ?_) rfl (by kernel_rfl) (by kernel_rfl) (by kernel_rfl) (fun _ _ _ h => h) (by rfl) (fun w hS => ?_) (by assumption) ?_
                rotate_left
                · try dsimp only at hS
                  go_simp <;> with_reducible rfl
                try simp only [Act.put, List.setIfInBounds_toArray, List.set_cons_zero, List.set_cons_succ]
                refine held_take 16 (v := ?_) rfl (by kernel_rfl) (by kernel_rfl) (by kernel_rfl) (fun _ _ _ h => h) (by rfl) (fun w hS => ?_) (by assumption) ?_
                rotate_left
                · try dsimp only at hS
                  go_simp <;> with_reducible rfl
                try simp only [Act.put, List.setIfInBounds_toArray, List.set_cons_zero, List.set_cons_succ]
                refine held_take 17 (v := ?_) rfl (by kernel_rfl) (by kernel_rfl) (by kernel_rfl) (fun _ _ _ h => h) (by rfl) (fun w hS => ?_) (by assumption) ?_
                rotate_left
                · try dsimp only at hS
                  go_simp <;> with_reducible rfl
                try simp only [Act.put, List.setIfInBounds_toArray, List.set_cons_zero, List.set_cons_succ]
                refine held_take 18 (v := ?_) rfl (by kernel_rfl) (by kernel_rfl) (by kernel_rfl) (fun _ _ _ h => h) (by rfl) (fun w hS => ?_) (by assumption) ?_
                rotate_left
                · try dsimp only at hS
                  go_simp <;> with_reducible rfl
                try simp only [Act.put, List.setIfInBounds_toArray, List.set_cons_zero, List.set_cons_succ]
                refine held_take 20 (v := .agg C) rfl (by kernel_rfl) (by kernel_rfl) (by kernel_rfl) (fun _ _ _ h => h) (by rfl) (fun w hS => ?_) (by assumption) ?_
                · exact yield_load_row _ _ _ _ (by rfl) w6.heap.size (by rfl) 27 C (0, 0) _ (HLz.out _ hS) Try.underlying27 (by rfl) HIC.out
                try simp only [Act.put, List.setIfInBounds_toArray, List.set_cons_zero, List.set_cons_succ]
                refine held_one 19 rfl (by kernel_rfl) (fun K hK => ?_)
                go_simp
                refine Calls.mono (HSum.out _ HBm.out) ?_
                rintro e wq ⟨rfl, hbq⟩
                have hbq' : Below wz.heap.size wz wq := HBm.out.trans (hbq.mono HBm.out.size)
                have HBq := Lib.hid hbq'
                clear hbq
                refine hK.out _ _ (fun w' => Below wz.heap.size wz w') (fun _ h => h) hbq' (fun hHeld => ?_)
                clear hK K
                try simp only [Act.put, List.setIfInBounds_toArray, List.set_cons_zero, List.set_cons_succ]
                refine held_take 21 (v := ?_) rfl (by kernel_rfl) (by kernel_rfl) (by kernel_rfl) (fun _ _ _ h => h) (by rfl) (fun w hS => ?_) (by assumption) ?_
                rotate_left
                · try dsimp only at hS
                  go_simp <;> with_reducible rfl
                try simp only [Act.put, List.setIfInBounds_toArray, List.set_cons_zero, List.set_cons_succ]
                refine held_take 22 (v := ?_) rfl (by kernel_rfl) (by kernel_rfl) (by kernel_rfl) (fun _ _ _ h => h) (by rfl) (fun w hS => ?_) (by assumption) ?_
                rotate_left
                · try dsimp only at hS
                  go_simp <;> with_reducible rfl
                try simp only [Act.put, List.setIfInBounds_toArray, List.set_cons_zero, List.set_cons_succ]
                refine held_done (by kernel_rfl) ?_
                have HWq : Hid (GoesW w wq g kd key L5 (.slice a5 N5 cp5)) := Lib.hid (HWz.out.later HBq.out)
                clear hbm' hbq' hclz hneq
                go_wp2_with fail
                go_roundw
                case rel => exact ⟨k + 1, _, L5, by omega, by go_num, rfl, HN5.out, HWq⟩
                case measure => simp [intOf]; omega
        · have t1 : ¬ ((k : Int) < (n : Int)) := by omega
          go_wp2_with fail
          go_ret
          exact ⟨rfl, HW.out.2.2.2.1⟩
end Go.Proofs.Ytodipcolblbooaa
