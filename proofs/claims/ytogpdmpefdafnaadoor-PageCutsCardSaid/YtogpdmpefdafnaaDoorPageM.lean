/- page: PageCuts. -/
import Derived.Test.YtogpdmpefdafnaaDoorPageL
namespace Go.Proofs.YtogpdmpefdafnaaDoor
open Go Go.RowKit
set_option linter.unusedVariables false

/-- Which mark stands where the first chunks alone were written. -/
def baseM (cut j : Nat) : Nat := if j < cut then 0 else 255
/-- From the cut to a place the bytes are FF. -/
def CutTo (c cut i : Nat) (raw : List Nat) : Prop :=
  raw.length = 73 * c ∧ (∀ v ∈ raw, v < 256) ∧ ∀ j, j < c → (j < cut → raw.getD (73 * j + 72) 0 = 0) ∧ (cut ≤ j → 73 * j + 72 < i → raw.getD (73 * j + 72) 0 = 255)
/-- The marks, the first m of them perhaps with a bit turned. -/
def MarksAt (c cut m : Nat) (raw : List Nat) : Prop :=
  raw.length = 73 * c ∧ (∀ v ∈ raw, v < 256) ∧ ∀ j, j < c → raw.getD (73 * j + 72) 0 = baseM cut j ∨ (j < m ∧ ∃ t, t < 8 ∧ raw.getD (73 * j + 72) 0 = baseM cut j ^^^ 2 ^ t)

theorem cutTo_start {P : List Nat} (h : ∀ v ∈ P, v < 256) (c cut : Nat) (hP : P.length = 64 * c) : CutTo c cut (73 * cut) (layTo P c) := by
  refine ⟨layTo_len P c (by omega), layTo_lt h c, fun j hj => ?_⟩
  obtain ⟨a, b, d⟩ := raw_parts P c j (by omega) hj
  exact ⟨fun _ => d, fun h1 h2 => by omega⟩
theorem cutTo_step {c cut i : Nat} {raw : List Nat} (h : CutTo c cut i raw) (hi : 73 * cut ≤ i) (hc : i < 73 * c) : CutTo c cut (i + 1) (raw.set i 255) := by
  obtain ⟨h1, h2, h3⟩ := h
  refine ⟨by simpa using h1, set_lt h2 _ _ (by omega), fun j hj => ?_⟩
  obtain ⟨q1, q2⟩ := h3 j hj
  refine ⟨fun q => ?_, fun q q' => ?_⟩
  · rw [getD_set_ne (by omega)]; exact q1 q
  · by_cases he : i = 73 * j + 72
    · rw [getD_set, if_pos (by omega)]
    · rw [getD_set_ne (by omega)]; exact q2 q (by omega)
theorem cutTo_marks {c cut : Nat} {raw : List Nat} (h : CutTo c cut (73 * c) raw) : MarksAt c cut 0 raw := by
  obtain ⟨h1, h2, h3⟩ := h
  refine ⟨h1, h2, fun j hj => .inl ?_⟩
  obtain ⟨q1, q2⟩ := h3 j hj
  unfold baseM
  split
  · exact q1 (by assumption)
  · exact q2 (by omega) (by omega)
theorem marksAt_skip {c cut m : Nat} {raw : List Nat} (h : MarksAt c cut m raw) : MarksAt c cut (m + 1) raw :=
  ⟨h.1, h.2.1, fun j hj => (h.2.2 j hj).imp id fun ⟨a, b⟩ => ⟨by omega, b⟩⟩
theorem marksAt_turn {c cut m t : Nat} {raw : List Nat} (h : MarksAt c cut m raw) (hm : m < c) (ht : t < 8) : MarksAt c cut (m + 1) (raw.set (73 * m + 72) (raw.getD (73 * m + 72) 0 ^^^ 2 ^ t)) := by
  obtain ⟨h1, h2, h3⟩ := h
  refine ⟨by simpa using h1, set_lt h2 _ _ (bit_lt (getD_byte h2 _) ht), fun j hj => ?_⟩
  by_cases he : j = m
  · subst he
    have h0 : raw.getD (73 * j + 72) 0 = baseM cut j := by
      rcases h3 j hj with q | ⟨q, _⟩
      · exact q
      · omega
    rw [getD_set, if_pos ⟨rfl, by omega⟩, h0]
    exact .inr ⟨by omega, t, ht, rfl⟩
  · rw [getD_set_ne (by omega)]
    exact (h3 j hj).imp id fun ⟨a, b⟩ => ⟨by omega, b⟩
theorem pops_neg : ∀ t, t < 8 → markB (255 ^^^ 2 ^ t) = false := by decide
theorem pops_pos : ∀ t, t < 8 → markB (0 ^^^ 2 ^ t) = true := by decide
theorem marksAt_count {c cut m : Nat} {raw : List Nat} (h : MarksAt c cut m raw) : ∀ k, k ≤ c → marksTo raw k = min k cut
  | 0, _ => by simp [marksTo]
  | k + 1, hk => by
    have hm : markB (raw.getD (73 * k + 72) 0) = decide (k < cut) := by
      by_cases hkc : k < cut
      · rw [decide_eq_true hkc]
        rcases h.2.2 k (by omega) with q | ⟨_, t, ht, q⟩
        · rw [q]; unfold baseM; rw [if_pos hkc]; decide
        · rw [q]; unfold baseM; rw [if_pos hkc]; exact pops_pos t ht
      · rw [decide_eq_false hkc]
        rcases h.2.2 k (by omega) with q | ⟨_, t, ht, q⟩
        · rw [q]; unfold baseM; rw [if_neg hkc]; decide
        · rw [q]; unfold baseM; rw [if_neg hkc]; exact pops_neg t ht
    rw [marksTo, marksAt_count h k (by omega), hm]
    by_cases hkc : k < cut
    · rw [decide_eq_true hkc, if_pos rfl]; omega
    · rw [decide_eq_false hkc, if_neg (by decide)]; omega
theorem marksAt_state {c cut m : Nat} {raw : List Nat} (h : MarksAt c cut m raw) (h8 : c ≤ 8) (hc : cut < c) : stateP raw = (if cut = 0 then 0 else 1) := by
  have hl := h.1
  have hd : raw.length / 73 = c := by omega
  unfold stateP rightP
  rw [hd, marksAt_count h c (Nat.le_refl _), hl]
  rw [if_pos (by simp only [Bool.and_eq_true, decide_eq_true_eq]; omega), show min c cut = cut by omega]
  by_cases h0 : cut = 0
  · rw [if_pos h0, if_pos h0]
  · rw [if_neg h0, if_neg (by omega), if_neg h0]
theorem marksAt_read {c cut m : Nat} {raw : List Nat} (h : MarksAt c cut m raw) (h8 : c ≤ 8) (hc : cut < c) : readL5 raw 1 = [] ∧ readN5 raw 1 = 0 ∧ readS5 raw 1 = stateP raw := by
  have hs := marksAt_state h h8 hc
  have hne : ¬ stateP raw = 2 := by rw [hs]; split <;> decide
  have hok : readOk raw 1 = none := by unfold readOk; rw [if_neg hne]
  unfold readL5 readN5 readS5
  rw [hok, if_neg hne]
  exact ⟨rfl, rfl, rfl⟩

set_option maxRecDepth 100000 in
set_option maxHeartbeats 40000000 in
theorem pcuts_walk (a : Option Addr) (len cap : Nat) (l : List Nat) (c cut : Nat) (a2 : Option Addr) (bl cap2 : Nat) (zs : List Int) (w : World) (hi : Bytes w a len l) (hj : IntsK .i64 w a2 bl zs) (hz : ∀ z ∈ zs, I64 z) (h1 : 1 ≤ c) (h8 : c ≤ 8) (hlc : len ≤ 64 * c) (hcut : cut < c) (hc2 : bl ≤ cap2) (hcm2 : cap2 ≤ maxLen) (hT : Deb w) :
    Calls Tryd.prog 4 #[.slice a len cap, .int .i64 (c : Int), .int .i64 (cut : Int), .slice a2 bl cap2] w fun e w' => e = .returned (.bool true) ∧ Below w.heap.size w w' := by
  unfold maxLen at hcm2
  have HI := Lib.hid hi
  have HJ := Lib.hid hj.ints
  have HZ := Lib.hid hz
  have HT := Lib.hid hT
  have hll := hi.1
  have hzl := hj.1
  obtain ⟨P, hP⟩ : ∃ P, P = padTo l (64 * c) := ⟨_, rfl⟩
  have HP8 : Hid (∀ v ∈ P, v < 256) := Lib.hid (by rw [hP]; exact padTo_lt hi.2.1 _)
  have HPl : Hid (P.length = 64 * c) := Lib.hid (by rw [hP, padTo_len l _ (by omega)])
  have HRaw : Hid (layTo (padTo l (64 * c)) c = layTo P c) := Lib.hid (by rw [hP])
  obtain ⟨N, hN⟩ : ∃ N, N = 73 * c := ⟨_, rfl⟩
  obtain ⟨N64, hN64⟩ : ∃ N, N = 64 * c := ⟨_, rfl⟩
  obtain ⟨C73, hC73⟩ : ∃ C73, C73 = 73 * cut := ⟨_, rfl⟩
  have t1 : (64 : Int) * (c : Int) = (N64 : Int) := by omega
  have t2 : (73 : Int) * (cut : Int) = (C73 : Int) := by omega
  have t3 : ¬ ((c : Int) < 1) := by omega
  have t4 : (N : Int) ≤ 584 := by omega
  have t5 : ¬ (8 < (c : Int)) := by omega
  have t6 : ¬ ((N64 : Int) < (len : Int)) := by omega
  have t6' : (len : Int) ≤ (N64 : Int) := by omega
  have t6'' : ¬ (N64 < len) := by omega
  have t7 : ¬ ((cut : Int) < 0) := by omega
  have t8 : ¬ ((c : Int) ≤ (cut : Int)) := by omega
  have t9 : (cut : Int) < (c : Int) := by omega
  have t9' : ¬ (c ≤ cut) := by omega
  have t10 : (N64 : Int) ≤ 512 := by omega
  have hCN : C73 ≤ N := by omega
  have HNc := Lib.hid hN
  have HCc := Lib.hid hC73
  have HLC := Lib.hid hlc
  have HCU := Lib.hid hcut
  clear hi hj hz hT hP hN hN64 hC73 hlc
  go_enter Tryd.func4, Tryd.ntmps4
  go_wp2_with fail
  refine (pknown_any _ HT.out).mono ?_
  rintro e w1 ⟨rfl, hb1⟩
  have HB1 := Lib.hid hb1
  clear hb1
  go_wp2_with fail
  refine (lay_ok a len cap l c _ (HI.out.below HB1.out (Nat.le_refl _)) h1 h8 HLC.out (Deb.below HT.out HB1.out (Nat.le_refl _))).mono ?_
  rintro e w2 ⟨⟨v2, he, hown2⟩, hb2⟩
  rw [HRaw.out, layTo_len P c (by rw [HPl.out]; exact Nat.le_refl _), ← HNc.out] at hown2
  have hszB := HB1.out.size
  obtain ⟨g, cr, rfl⟩ := own_shape hown2 (by have := HNc.out; omega)
  have hcr : N ≤ cr ∧ cr ≤ maxLen := by
    rcases hown2.2 with ⟨h, _⟩ | ⟨g', cap', cur, h, _, _, h3, h4, _⟩
    · simp at h
    · simp at h; obtain ⟨rfl, rfl⟩ := h; exact ⟨h3, h4⟩
  subst he
  have HO2 := Lib.hid (own_mono hown2 hszB)
  have HB2 := Lib.hid (HB1.out.trans (hb2.mono HB1.out.size))
  have HS : Hid (CutTo c cut C73 (layTo P c)) := Lib.hid (by rw [HCc.out]; exact cutTo_start HP8.out c cut HPl.out)
  clear hown2 hb2 HB1 hszB
  go_wp2_with fail
  go_loopw [11] (fun i wr => ∃ (k : Nat) (raw : List Nat), C73 ≤ k ∧ k ≤ N ∧ i = .int .i64 (k : Int) ∧ Hid (CutTo c cut k raw) ∧ Hid (wr.ownsRow w.heap.size 5 1 (.slice (some ⟨g, 0, none⟩) N cr) N (u8s raw)) ∧ Hid (Below w.heap.size w wr)) (fun i _ => N - (intOf i).toNat)
  case atStart => exact ⟨C73, layTo P c, Nat.le_refl _, hCN, rfl, HS, HO2, HB2⟩
  case round =>
    obtain ⟨k, raw, hCk, hk, rfl, HCu, HOw, HB⟩ := hrel
    obtain ⟨wo, rfl⟩ : ∃ wo : World, wo = wr := ⟨_, rfl⟩
    by_cases hlt : k < N
    · have hfr := HOw.out.frozenAt k
      have hcl := own_at HOw.out k (by omega)
      have HSt := Lib.hid (own_store HOw.out HB.out k 255)
      have HC2 : Hid (CutTo c cut (k + 1) (raw.set k 255)) := Lib.hid (cutTo_step HCu.out (by have := HCc.out; omega) (by have := HNc.out; omega))
      have t20 : (k : Int) < (N : Int) := by omega
      have t21 : (0 : Int) ≤ (k : Int) := by omega
      go_wp2
      go_roundw
      case rel => exact ⟨k + 1, raw.set k 255, by omega, by omega, by go_num, HC2, Lib.hid HSt.out.1, Lib.hid HSt.out.2⟩
      case measure => simp [intOf]; omega
    · obtain rfl : k = N := by omega
      have HM0 : Hid (MarksAt c cut 0 raw) := Lib.hid (cutTo_marks (by rw [← HNc.out]; exact HCu.out))
      clear HCu HO2 HB2 HS
      go_wp2_with fail
      go_loopw [12] (fun i wr => ∃ (m : Nat) (raw : List Nat), m ≤ c ∧ i = .int .i64 (m : Int) ∧ Hid (MarksAt c cut m raw) ∧ Hid (wr.ownsRow w.heap.size 5 1 (.slice (some ⟨g, 0, none⟩) k cr) k (u8s raw)) ∧ Hid (Below w.heap.size w wr)) (fun i _ => c - (intOf i).toNat)
      case atStart => exact ⟨0, raw, by omega, rfl, HM0, HOw, HB⟩
      case round =>
        clear HM0 HOw HB
        obtain ⟨m, raw2, hm, rfl, HMa, HOw2, HB'⟩ := hrel
        obtain ⟨wp, rfl⟩ : ∃ wp : World, wp = wr := ⟨_, rfl⟩
        by_cases hlt2 : m < c ∧ m < bl
        · obtain ⟨hmc, hmb⟩ := hlt2
          obtain ⟨b2, o2, rfl, hb2l, hcell⟩ := HJ.out.2 (by omega)
          have hck : wp.cell? ⟨b2, o2 + m, none⟩ = some (.int .i64 (zs.getD m 0)) := (HB'.out.cell (p := ⟨b2, o2 + m, none⟩) hb2l).trans (hcell m hmb)
          obtain ⟨z, hze⟩ : ∃ z, z = zs.getD m 0 := ⟨_, rfl⟩
          have hz64 : I64 z := by
            rw [hze]
            have : zs.getD m 0 ∈ zs := by simp [List.getD, show m < zs.length by omega]
            exact HZ.out _ this
          rw [← hze] at hck
          have t20 : (m : Int) < (c : Int) := by omega
          have t21 : (m : Int) < (bl : Int) := by omega
          have t22 : (0 : Int) ≤ (m : Int) := by omega
          unfold I64 at hz64
          by_cases hz0 : z < 0
          · have HM2 := Lib.hid (marksAt_skip HMa.out)
            clear hcell hze
            have t23 : ¬ (0 ≤ z) := by omega
            go_wp2
            go_roundw
            case rel => exact ⟨m + 1, raw2, by omega, by go_num, HM2, HOw2, HB'⟩
            case measure => simp [intOf]; omega
          · obtain ⟨zn, hzn⟩ : ∃ zn : Nat, z = zn := ⟨z.toNat, by omega⟩
            subst hzn
            obtain ⟨r, hr⟩ : ∃ r, r = zn % 8 := ⟨_, rfl⟩
            obtain ⟨Q, hQ⟩ : ∃ Q, Q = 73 * m + 72 := ⟨_, rfl⟩
            have hNc := HNc.out
            have hraw8 := HMa.out.2.1
            have hcl := own_at HOw2.out Q (by omega)
            have hfr := HOw2.out.frozenAt Q
            obtain ⟨V, hV⟩ : ∃ V, V = raw2.getD Q 0 := ⟨_, rfl⟩
            obtain ⟨hX, hR2⟩ := byte_bit V r (by rw [hV]; exact getD_byte hraw8 Q) (by omega)
            obtain ⟨Y, hY⟩ : ∃ Y, Y = V ^^^ 2 ^ r := ⟨_, rfl⟩
            have HM : Hid (MarksAt c cut (m + 1) (raw2.set Q Y)) := Lib.hid (by
              have q := marksAt_turn (t := r) HMa.out hmc (by omega)
              rw [← hQ, ← hV, ← hY] at q
              exact q)
            have HSt := Lib.hid (own_store HOw2.out HB'.out Q Y)
            obtain ⟨R, hR⟩ : ∃ R, R = 2 ^ r := ⟨_, rfl⟩
            rw [← hY, ← hR] at hX
            rw [← hR] at hR2
            rw [← hV] at hcl
            have hV8 : V < 256 := by rw [hV]; exact getD_byte hraw8 Q
            have hY8 : Y < 256 := by rw [hY]; exact bit_lt hV8 (by omega)
            have hR8 : R < 256 := by omega
            have t26 : (zn : Int) % 8 = (r : Int) := by omega
            have t27 : (73 : Int) * (m : Int) + 72 = (Q : Int) := by omega
            have t28 : (Q : Int) < (k : Int) := by omega
            have t29 : (0 : Int) ≤ (Q : Int) := by omega
            have t30 : r < 8 := by omega
            have t30m : min r 8 = r := by omega
            have t27w : IntKind.i64.wrap (IntKind.i64.wrap (73 * (m : Int)) + 72) = (Q : Int) := by
              rw [wrapI (73 * (m : Int)) (by omega) (by omega), wrapI _ (by omega) (by omega)]; omega
            have t27x : (0 : Int) ≤ (Q : Int) ∧ (Q : Int) < (k : Int) := by omega
            have t27y : (0 : Int) ≤ (m : Int) ∧ (m : Int) < (bl : Int) := by omega
            have t27z : (zn : Int).tmod 8 = (r : Int) := by rw [Int.tmod_eq_emod_of_nonneg (by omega)]; omega
            have t31 : Q < k := by omega
            have t32 : (m : Int) ≤ 8 := by omega
            have t33 : (0 : Int) ≤ (zn : Int) := by omega
            clear hcell hze hV hY hR hQ hr hraw8 hNc
            go_wp2_with fail
            go_still_tail 19, (by kernel_rfl)
            change wpList _ _ _ _ _ wp.drew
            go_wp2
            go_roundw
            case rel => exact ⟨m + 1, raw2.set Q Y, by omega, by go_num, HM, Lib.hid (own_drew HSt.out.1), Lib.hid HSt.out.2.drew⟩
            case measure => simp [intOf]; omega
        · have hex : (¬ ((m : Int) < (c : Int))) ∨ ((m : Int) < (c : Int) ∧ ¬ ((m : Int) < (bl : Int))) := by omega
          have hR := marksAt_read HMa.out h8 HCU.out
          have hSt := marksAt_state HMa.out h8 HCU.out
          have HR := Lib.hid hR
          have HSt := Lib.hid hSt
          have HY := Lib.hid (bytes_of_own HOw2.out HMa.out.2.1)
          have HTo := Lib.hid (Deb.below HT.out HB'.out (Nat.le_refl _))
          have hN8 : k ≤ 584 := by omega
          clear hR hSt
          have hc0 : (((cut : Int) == 0) = true ∧ (if cut = 0 then (0 : Int) else 1) = 0) ∨ (((cut : Int) == 0) = false ∧ (if cut = 0 then (0 : Int) else 1) = 1) := by
            by_cases h : cut = 0
            · exact .inl ⟨by simp [h], by rw [if_pos h]⟩
            · exact .inr ⟨by simp [h], by rw [if_neg h]⟩
          rcases hc0 with ⟨t40, t41⟩ | ⟨t40, t41⟩ <;> rcases hex with t30 | ⟨t30, t31⟩
          all_goals
            rw [t41] at HSt
            clear t41
            go_wp2_with fail
            refine (read_page _ k cr raw2 1 _ HY.out (by omega) hcr.1 hcr.2 (by unfold I64; omega) HTo.out).mono ?_
            rintro e w3 ⟨⟨a3, c3, he, hy3, hn3, hle3⟩, hb3⟩
            rw [HR.out.1, HR.out.2.1, HR.out.2.2, HSt.out] at he
            subst he
            have HB3 := Lib.hid (HB'.out.trans (hb3.mono HB'.out.size))
            have HY3 := Lib.hid (HY.out.below hb3 (Nat.le_refl _))
            have HT3 := Lib.hid (Deb.below HT.out HB3.out (Nat.le_refl _))
            clear hy3 hb3 hn3 hle3
            go_wp2_with fail
            refine (state_any _ k cr raw2 _ HY3.out (by omega)).mono ?_
            rintro e w4 ⟨rfl, rfl⟩
            rw [HSt.out]
            go_wp2_with fail
            go_ret
            exact ⟨rfl, HB3.out⟩

set_option maxRecDepth 100000 in
theorem pcuts_any (a : Option Addr) (len cap : Nat) (l : List Nat) (c cut : Int) (a2 : Option Addr) (bl cap2 : Nat) (zs : List Int) (w : World) (hi : Bytes w a len l) (hj : IntsK .i64 w a2 bl zs) (hz : ∀ z ∈ zs, I64 z) (hc : len ≤ cap) (hcm : cap ≤ maxLen) (hc2 : bl ≤ cap2) (hcm2 : cap2 ≤ maxLen) (hc6 : I64 c) (hcu6 : I64 cut) (hT : Deb w) :
    Calls Tryd.prog 4 #[.slice a len cap, .int .i64 c, .int .i64 cut, .slice a2 bl cap2] w fun e w' => e = .returned (.bool true) ∧ Below w.heap.size w w' := by
  by_cases h : 1 ≤ c ∧ c ≤ 8 ∧ (len : Int) ≤ 64 * c ∧ 0 ≤ cut ∧ cut < c
  · obtain ⟨h1, h2, h3, h4, h5⟩ := h
    obtain ⟨n, rfl⟩ : ∃ n : Nat, c = n := ⟨c.toNat, by omega⟩
    obtain ⟨m, rfl⟩ : ∃ m : Nat, cut = m := ⟨cut.toNat, by omega⟩
    exact pcuts_walk a len cap l n m a2 bl cap2 zs w hi hj hz (by omega) (by omega) (by omega) (by omega) hc2 hcm2 hT
  · unfold maxLen at hcm hcm2
    unfold I64 at hc6 hcu6
    have HT := Lib.hid hT
    have hcs : c < 1 ∨ (¬ c < 1 ∧ 8 < c) ∨ (¬ c < 1 ∧ c ≤ 8 ∧ 64 * c < (len : Int)) ∨ (¬ c < 1 ∧ c ≤ 8 ∧ (len : Int) ≤ 64 * c ∧ cut < 0) ∨ (¬ c < 1 ∧ c ≤ 8 ∧ (len : Int) ≤ 64 * c ∧ ¬ cut < 0 ∧ c ≤ cut) := by omega
    clear hi hj hz hT h
    rcases hcs with h | ⟨h, h2⟩ | ⟨h, h2, h3⟩ | ⟨h, h2, h3, h4⟩ | ⟨h, h2, h3, h4, h5⟩
    all_goals
      go_enter Tryd.func4, Tryd.ntmps4
      go_wp2_with (go_at_call 5; refine (pknown_any _ HT.out).mono ?_; rintro e w1 ⟨rfl, hb⟩)
      go_ret
      exact ⟨rfl, hb⟩

end Go.Proofs.YtogpdmpefdafnaaDoor
