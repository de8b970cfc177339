/- nand: NandCuts. -/
import Derived.Test.YtbbhniohliklhaaNandR
import Derived.Deep.CutBlock
import Derived.Deep.DeepCutAuto
namespace Go.Proofs.Ytbbhniohliklhaa
open Go Go.RowKit
set_option linter.unusedVariables false

set_option maxRecDepth 100000 in
set_option maxHeartbeats 4000000 in
theorem ncuts_go (ch m : Nat) (a : Option Addr) (len cap : Nat) (l : List Nat) (n r : Int) (second : Bool) (w : World) (hi : Bytes w a len l) (h1 : 1 ≤ ch) (h2 : ch ≤ 8) (h3 : len ≤ 584) (hr : n.tmod (ch : Int) = r) (hm : (r < 0 ∧ r + (ch : Int) = (m : Int)) ∨ (¬ r < 0 ∧ r = (m : Int))) (hmc : m < ch) (hn : I64 n) :
    Calls Try.prog 4 #[.int .i64 (ch : Int), .slice a len cap, .int .i64 n, .bool second] w fun e w' => e = .returned (.bool true) ∧ Below w.heap.size w w' := by
  obtain ⟨POST, hPOST⟩ : ∃ Q : Ending → World → Prop, Q = fun e w' => e = .returned (.bool true) ∧ Below w.heap.size w w' := ⟨_, rfl⟩
  rw [← hPOST]
  have HPOST := Lib.hid hPOST
  clear hPOST
  have HI := Lib.hid hi
  have hlen := hi.1
  obtain ⟨N, hN⟩ : ∃ N, N = ch * 73 := ⟨_, rfl⟩
  have i1 : (ch : Int) * 73 = (N : Int) := by omega
  have hN1 : 73 ≤ N := by omega
  have hN2 : N ≤ 584 := by omega
  obtain ⟨X, hX⟩ : ∃ X, X = overlay (List.replicate N 0) l := ⟨_, rfl⟩
  have HXl : Hid (X.length = N) := Lib.hid (by rw [hX, overlay_len]; simp)
  have HXc : Hid (∀ c ∈ X, c < 256) := Lib.hid (by rw [hX]; exact overlay_lt (fun x hx => by have := List.eq_of_mem_replicate hx; omega) hi.2.1)
  have HXE := Lib.hid hX
  have HN := Lib.hid hN
  have t1 : ¬ ((ch : Int) < 1) := by omega
  have t2 : ¬ ((8 : Int) < (ch : Int)) := by omega
  have t3 : ¬ ((584 : Int) < (len : Int)) := by omega
  have hnew := fun w => fnew_any 1 2 ch w (by omega) (by omega) (by omega) (by omega) (by omega) (by omega) (by omega)
  have HNew := Lib.hid hnew
  have HHr := Lib.hid hr
  unfold I64 at hn
  clear hi hlen hX hN hnew hr
  go_enter Try.func4, Try.ntmps4
  go_wp2_with fail
  refine (nknown_any _).mono ?_
  rintro e w1 ⟨rfl, hb⟩
  have HB := Lib.hid hb
  clear hb
  go_wp2_with (at_make; refine Stop.mk ?_)
  refine Stop.go ?_
  refine wpList_make_u8 rfl _ _ 29 rfl w1.heap.size 5 Try.underlying29 Try.infoU8 N rfl rfl (by omega) (Nat.le_refl _) ?_
  intro w2 hown hg2
  have hb2 : Below w1.heap.size w1 w2 := (Below.refl _ _).grown hg2 (Nat.le_refl _) (fun k hk => by simp at hk)
  have hrow2 := own_full hown
  have HB2 : Hid (Below w.heap.size w w2) := Lib.hid (HB.out.trans (hb2.mono HB.out.size))
  have HI2 := Lib.hid (HI.out.below HB2.out (Nat.le_refl _))
  have HRow2 := Lib.hid hrow2
  have HSz : Hid (w.heap.size ≤ w1.heap.size ∧ w1.heap.size < w2.heap.size) := Lib.hid ⟨HB.out.size, (hown.lt _ rfl).2⟩
  have HRep : Hid (N = (List.replicate N 0).length) := Lib.hid (by simp)
  clear hown hg2 hb2 hrow2
  go_wp2_with (with_reducible refine wpList_copy_u8 rfl (.tmp 34) (.tmp 35) 29 29 rfl 5 Try.underlying29 u8size a N N len cap w1.heap.size rfl rfl (List.replicate N 0) 5 HRow2.out HRep.out l HI2.out w1.heap.size w2 (Below.refl _ _) (Nat.le_refl _) (fun w3 HRow3 hb3 => Stop.mk ?_))
  refine Stop.go ?_
  have hrow3 := HRow3.out
  rw [← HXE.out] at hrow3
  have HB3 : Hid (Below w.heap.size w w3) := Lib.hid (HB2.out.trans (hb3.mono HSz.out.1))
  have hown3 : w3.ownsRow w1.heap.size 5 1 (.slice (some ⟨w1.heap.size, 0, none⟩) N N) N (u8s X) := by
    refine ⟨by simp [u8s, HXl.out], .inr ⟨w1.heap.size, N, _, rfl, Nat.le_refl _, hrow3, Nat.le_refl _, by unfold maxLen; omega, by simp [u8s, HXl.out], by simp [u8s]; exact List.take_of_length_le (by simp [HXl.out])⟩⟩
  have HXb := Lib.hid (bytes_of_own hown3 HXc.out)
  obtain ⟨gx, hgx⟩ : ∃ gx, gx = w1.heap.size := ⟨_, rfl⟩
  have HGx : Hid (gx < w3.heap.size) := Lib.hid (by have := HSz.out.2; have := hb3.size; omega)
  rw [← hgx] at HXb ⊢
  clear hgx hrow3 hown3 hb3 HRow3 HRow2 HRep HI2 HI HB2 HB HSz
  go_wp2_with fail
  refine (HNew.out _).mono ?_
  rintro e w4 ⟨⟨g, rfl, hg⟩, hb4⟩
  have hL := Law.first HB3.out hg hb4
  have hxo : BytesO (fun k => w3.heap.size ≤ k ∧ k < w4.heap.size) w4 (some ⟨gx, 0, none⟩) N X := ⟨HXb.out.below hb4 (Nat.le_refl _), fun ad e => by
    cases e
    have := HGx.out
    have := hb4.size
    refine ⟨fun q => ?_, ?_⟩
    · dsimp only at q; omega
    · dsimp only; omega⟩
  have HC : Hid (CutI w.heap.size w g (some ⟨gx, 0, none⟩) (some ⟨gx, 0, none⟩) N X X ch (List.replicate (ch * 73) 255) 0 false false 0 w4) := Lib.hid ⟨_, _, hL, cutp_new ch, hxo, hxo⟩
  clear hg hb4 hL hxo HXb HGx HNew HB3
  go_upto_if 52 with fail
  go_cut [2] (fun v wx => v = .int .i64 (m : Int) ∧ Hid (CutI w.heap.size w g (some ⟨gx, 0, none⟩) (some ⟨gx, 0, none⟩) N X X ch (List.replicate (ch * 73) 255) 0 false false 0 wx))
  case first =>
    have hr := HHr.out
    have r1 : r ≤ 8 ∧ -8 ≤ r := by omega
    rcases hm with ⟨hm1, hm2⟩ | ⟨hm1, hm2⟩
    · go_wp2
      go_meet
      case rel => exact ⟨rfl, HC⟩
    · obtain rfl := hm2
      go_wp2
      go_meet
      case rel => exact ⟨by rw [hr], HC⟩
  case rest =>
    obtain ⟨rfl, HC⟩ := hcut
    obtain ⟨wj, rfl⟩ : ∃ wj : World, wj = wc := ⟨_, rfl⟩
    clear hm hn HHr
    have hm8 : (m : Int) ≤ 8 := by omega
    have hm0 : (0 : Int) ≤ (m : Int) := by omega
    obtain ⟨FF, hFF⟩ : ∃ FF, FF = List.replicate (ch * 73) 255 := ⟨_, rfl⟩
    obtain ⟨C, hC⟩ : ∃ C, C = chunkTo X FF m := ⟨_, rfl⟩
    obtain ⟨mm, hmm⟩ : ∃ mm, mm = m * 73 := ⟨_, rfl⟩
    have i2 : (m : Int) * 73 = (mm : Int) := by omega
    have i3 : IntKind.i64.wrap ((m : Int) * 73) = (mm : Int) := by rw [wr64' _ (by omega) (by omega)]; omega
    have hmN : mm ≤ N := by have := HN.out; omega
    have HCl : Hid (C.length = N) := Lib.hid (by rw [hC, chunkTo_len (N := N) HXl.out (by rw [hFF, HN.out]; simp) (by omega)])
    have HCt : Hid (C.take mm = X.take mm) := Lib.hid (by
      have : (X.take mm).length = mm := by rw [List.length_take, HXl.out]; omega
      rw [hC, hmm]; unfold chunkTo
      rw [hmm] at this
      rw [List.take_append_of_le_length (by omega), List.take_take, Nat.min_self])
    have HCd : Hid (∀ j, mm ≤ j → j < N → C.getD j 0 = 255) := Lib.hid (fun j h1 h2 => by
      have : (X.take mm).length = mm := by rw [List.length_take, HXl.out]; omega
      rw [hC]
      unfold chunkTo
      rw [hmm] at this h1
      rw [List.getD, List.getElem?_append_right (by omega), this, List.getElem?_drop, hFF, List.getElem?_replicate, if_pos (by have := HN.out; omega)]
      rfl)
    have HCe := Lib.hid (show C = chunkTo X (List.replicate (ch * 73) 255) m by rw [hC, hFF])
    clear hFF hC hmm
    go_wp2_with fail
    refine (cutI_arm HC.out ((m : Int) + 1) (by omega) (by omega)).mono ?_
    rintro e w5 ⟨rfl, hC5⟩
    have HC5 := Lib.hid hC5
    clear hC5 HC
    go_wp2_with fail
    refine (cutI_prog HC5.out hmc HN.out h2 (Nat.le_refl _)).mono ?_
    rintro e w6 ⟨rfl, hC6⟩
    rw [← HCe.out] at hC6
    have HC6 := Lib.hid hC6
    clear hC6 HC5
    go_wp2_with fail
    refine (cutI_off HC6.out).mono ?_
    rintro e w7 ⟨rfl, rfl⟩
    go_wp2_with fail
    refine (cutI_on HC6.out).mono ?_
    rintro e w7 ⟨rfl, hC7⟩
    have HC7 := Lib.hid hC7
    clear hC7 HC6
    go_wp2_with fail
    refine (cutI_read HC7.out HCl.out (by omega)).mono ?_
    rintro e w8 ⟨b, cap8, rfl, hcap8, hby8, -, hC8⟩
    have HC8 := Lib.hid hC8
    have HBy8 := Lib.hid hby8
    clear hC8 HC7 hby8
    obtain ⟨kk, hkk⟩ : ∃ kk : Nat, kk = if m = 0 then 0 else 1 := ⟨_, rfl⟩
    rw [← hkk] at HC8
    have HKk := Lib.hid hkk
    clear hkk
    have hstr1 := fun nq => run_str (P := Try.prog) ((HBy8.out.take hmN).drewN nq) 29 5 9 Try.underlying29 Try.underlying5 Try.underlying9 cap8
    have hstr2 := fun nq => run_str (P := Try.prog) ((HC8.out.bx.1.take hmN).drewN nq) 29 5 9 Try.underlying29 Try.underlying5 Try.underlying9 N
    rw [HCt.out] at hstr1
    have j1 : (0 : Int) ≤ (mm : Int) ∧ (mm : Int) ≤ (cap8 : Int) := by omega
    have j2 : (0 : Int) ≤ (mm : Int) ∧ (mm : Int) ≤ (N : Int) := by omega
    go_wp2_with fail
    go_quiet (fail)
    have HC9 := Lib.hid (HC8.out.below (below_drewN' (Below.refl _ w8) nq))
    have HBy9 : Hid (Bytes (w8.drewN nq) (some b) N C) := Lib.hid (HBy8.out.drewN nq)
    generalize w8.drewN nq = w9 at HC9 HBy9 ⊢
    clear hstr1 hstr2 HC8 HBy8
    obtain ⟨bb, off, hbe, hbl, hcc⟩ := HBy9.out.at0 (by omega)
    obtain rfl : b = ⟨bb, off, none⟩ := Option.some.inj hbe
    have HCc := Lib.hid hcc
    clear hbe hbl hcc
    go_wp2_with fail
    go_loop [14] (fun i => ∃ k : Nat, mm ≤ k ∧ k ≤ N ∧ i = .int .i64 (k : Int)) (fun i => N - (intOf i).toNat)
    case atStart => exact ⟨mm, Nat.le_refl _, hmN, rfl⟩
    case round =>
      obtain ⟨k, hk1, hk2, rfl⟩ := hrel
      by_cases hlt : k < N
      · have hlt' : (k : Int) < (N : Int) := by omega
        have hb0 : (0 : Int) ≤ (k : Int) ∧ (k : Int) < (N : Int) := by omega
        have hck := HCc.out k hlt
        rw [HCd.out k hk1 hlt] at hck
        go_wp2_with fail
        go_round
        case rel => exact ⟨k + 1, by omega, by omega, by simp⟩
        case measure => simp [intOf]; omega
      · have hlt' : ¬ ((k : Int) < (N : Int)) := by omega
        clear HCc
        go_upto_if 118 with fail
        go_cut [15] (fun v wx => v = .int .i64 (kk : Int) ∧ Hid (CutI w.heap.size w g (some ⟨gx, 0, none⟩) (some ⟨bb, off, none⟩) N X C ch C kk false false 0 wx))
        case first =>
          by_cases e : m = 0
          · have hk0 : kk = 0 := by rw [HKk.out, if_pos e]
            have HK0 := Lib.hid hk0
            clear hk0
            have e1 : ¬ ((m : Int) > 0) := by omega
            clear e
            go_wp2
            go_meet
            case rel => exact ⟨by rw [HK0.out]; rfl, HC9⟩
          · have hk0 : kk = 1 := by rw [HKk.out, if_neg e]
            have HK0 := Lib.hid hk0
            clear hk0
            have e1 : (m : Int) > 0 := by omega
            go_wp2
            go_meet
            case rel => exact ⟨by rw [HK0.out]; rfl, HC9⟩
        case rest =>
          obtain ⟨rfl, HCa⟩ := hcut
          obtain ⟨wa, rfl⟩ : ∃ wa : World, wa = wc := ⟨_, rfl⟩
          have hk1' : (kk : Int) ≤ 1 ∧ (0 : Int) ≤ (kk : Int) := by
            have := HKk.out
            split at this <;> omega
          clear HC9 HBy9
          go_wp2_with fail
          refine (cutI_next HCa.out).mono ?_
          rintro e wb ⟨rfl, rfl⟩
          go_wp2_with fail
          refine (cutI_arm HCa.out 1 (by omega) (by omega)).mono ?_
          rintro e wb ⟨rfl, hCb⟩
          have HCb := Lib.hid hCb
          clear hCb HCa
          cases second with
          | true =>
            go_wp2_with fail
            refine (cutI_arm HCb.out 2 (by omega) (by omega)).mono ?_
            rintro e wd ⟨rfl, hCd⟩
            have HCd' := Lib.hid hCd
            clear hCd HCb
            go_wp2_with fail
            refine (cutI_er2 HCd'.out).mono ?_
            rintro e we ⟨rfl, hCe⟩
            have HCe' := Lib.hid hCe
            clear hCe HCd'
            go_wp2_with fail
            refine (cutI_on HCe'.out).mono ?_
            rintro e wf ⟨rfl, hCf⟩
            have HCf := Lib.hid hCf
            clear hCf HCe'
            go_wp2_with fail
            refine (cutI_bad HCf.out).mono ?_
            rintro e wg ⟨⟨v, rfl⟩, hCg⟩
            have HCg := Lib.hid hCg
            clear hCg HCf
            go_wp2_with fail
            refine (cutI_next HCg.out).mono ?_
            rintro e wh ⟨rfl, rfl⟩
            go_wp2_with fail
            refine (cutI_er0 HCg.out).mono ?_
            rintro e wi ⟨rfl, hCi⟩
            have HCi := Lib.hid hCi
            clear hCi HCg
            go_wp2_with fail
            refine (cutI_next HCi.out).mono ?_
            rintro e wj2 ⟨rfl, rfl⟩
            go_wp2_with fail
            rw [HPOST.out]
            exact ⟨rfl, HCi.out.be⟩
          | false =>
            go_wp2_with fail
            refine (cutI_er1 HCb.out).mono ?_
            rintro e we ⟨rfl, hCe⟩
            have HCe' := Lib.hid hCe
            clear hCe HCb
            go_wp2_with fail
            refine (cutI_on HCe'.out).mono ?_
            rintro e wf ⟨rfl, hCf⟩
            have HCf := Lib.hid hCf
            clear hCf HCe'
            go_wp2_with fail
            refine (cutI_read HCf.out HCl.out (by omega)).mono ?_
            rintro e wg ⟨b2, cap2, rfl, hcap2, hby2, hCg, -⟩
            have HCg := Lib.hid hCg
            have hs1 := run_str (P := Try.prog) hby2 29 5 9 Try.underlying29 Try.underlying5 Try.underlying9 cap2
            have hs2 := run_str (P := Try.prog) HCg.out.bx.2 29 5 9 Try.underlying29 Try.underlying5 Try.underlying9 cap8
            clear hCg HCf hby2
            go_wp2_with fail
            refine (cutI_next HCg.out).mono ?_
            rintro e wh ⟨rfl, rfl⟩
            go_wp2_with fail
            rw [HPOST.out]
            exact ⟨rfl, HCg.out.be⟩

set_option maxRecDepth 100000 in
theorem ncuts_any (c : Int) (a : Option Addr) (len cap : Nat) (l : List Nat) (n : Int) (second : Bool) (w : World) (hi : Bytes w a len l) (hn : I64 n) :
    Calls Try.prog 4 #[.int .i64 c, .slice a len cap, .int .i64 n, .bool second] w fun e w' => e = .returned (.bool true) ∧ Below w.heap.size w w' := by
  by_cases t1 : c < 1
  · obtain ⟨POST, hPOST⟩ : ∃ Q : Ending → World → Prop, Q = fun e w' => e = .returned (.bool true) ∧ Below w.heap.size w w' := ⟨_, rfl⟩
    rw [← hPOST]
    have HPOST := Lib.hid hPOST
    clear hPOST hi hn
    go_enter Try.func4, Try.ntmps4
    go_wp2_with fail
    refine (nknown_any _).mono ?_
    rintro e w1 ⟨rfl, hb⟩
    have HB := Lib.hid hb
    clear hb
    go_wp2_with fail
    rw [HPOST.out]
    exact ⟨rfl, HB.out⟩
  by_cases t2 : 8 < c
  · obtain ⟨POST, hPOST⟩ : ∃ Q : Ending → World → Prop, Q = fun e w' => e = .returned (.bool true) ∧ Below w.heap.size w w' := ⟨_, rfl⟩
    rw [← hPOST]
    have HPOST := Lib.hid hPOST
    clear hPOST hi hn
    go_enter Try.func4, Try.ntmps4
    go_wp2_with fail
    refine (nknown_any _).mono ?_
    rintro e w1 ⟨rfl, hb⟩
    have HB := Lib.hid hb
    clear hb
    go_wp2_with fail
    rw [HPOST.out]
    exact ⟨rfl, HB.out⟩
  by_cases t3 : 584 < len
  · have t3' : (584 : Int) < (len : Int) := by omega
    obtain ⟨POST, hPOST⟩ : ∃ Q : Ending → World → Prop, Q = fun e w' => e = .returned (.bool true) ∧ Below w.heap.size w w' := ⟨_, rfl⟩
    rw [← hPOST]
    have HPOST := Lib.hid hPOST
    clear hPOST hi hn
    go_enter Try.func4, Try.ntmps4
    go_wp2_with fail
    refine (nknown_any _).mono ?_
    rintro e w1 ⟨rfl, hb⟩
    have HB := Lib.hid hb
    clear hb
    go_wp2_with fail
    rw [HPOST.out]
    exact ⟨rfl, HB.out⟩
  obtain ⟨ch, rfl⟩ : ∃ q : Nat, c = q := ⟨c.toNat, by omega⟩
  have hc0 : (ch : Int) ≠ 0 := by omega
  have e1 := Int.tmod_add_mul_tdiv n (ch : Int)
  have e2 : n.tmod (ch : Int) < ch ∧ -(ch : Int) < n.tmod (ch : Int) := by
    have h1 := Int.natAbs_tmod n (ch : Int)
    have h2 : n.natAbs % ch < ch := Nat.mod_lt _ (by omega)
    simp only [Int.natAbs_natCast] at h1
    omega
  by_cases hr : n.tmod (ch : Int) < 0
  · exact ncuts_go ch (n.tmod (ch : Int) + ch).toNat a len cap l n _ second w hi (by omega) (by omega) (by omega) rfl (.inl ⟨hr, by omega⟩) (by omega) hn
  · exact ncuts_go ch (n.tmod (ch : Int)).toNat a len cap l n _ second w hi (by omega) (by omega) (by omega) rfl (.inr ⟨hr, by omega⟩) (by omega) hn
end Go.Proofs.Ytbbhniohliklhaa
