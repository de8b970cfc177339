/- page: PageMends. -/
import Derived.Test.YtogpdmpefdafnaaDoorPageK
namespace Go.Proofs.YtogpdmpefdafnaaDoor
open Go Go.RowKit
set_option linter.unusedVariables false

theorem wrapI (n : Int) (h1 : -9223372036854775808 ≤ n) (h2 : n ≤ 9223372036854775807) : IntKind.i64.wrap n = n := by rw [IntKind.wrap_i64]; omega
theorem cntW_skip {zs : List Int} {w : Nat} (h : w % 9 = 8 ∨ turnOf zs w = none) : cntW zs (w + 1) = cntW zs w := by
  rw [cntW, if_neg (by rcases h with q | q <;> simp [q]), Nat.add_zero]
theorem cntW_word {zs : List Int} {w k : Nat} (h : w % 9 ≠ 8) (ht : turnOf zs w = some k) : cntW zs (w + 1) = cntW zs w + 1 := by
  rw [cntW, if_pos ⟨h, by rw [ht]; rfl⟩]
theorem cntW_le (zs : List Int) : ∀ w, cntW zs w ≤ w
  | 0 => Nat.le_refl _
  | w + 1 => by
    have := cntW_le zs w
    rw [cntW]
    split <;> omega

/-- One byte of a row of the call's own is written. -/
theorem own_store {B : Nat} {w0 w : World} {g n cap : Nat} {l : List Nat} (h : w.ownsRow B 5 1 (.slice (some ⟨g, 0, none⟩) n cap) n (u8s l)) (hb : Below B w0 w) (Q Y : Nat) : (w.setCell ⟨g, Q, none⟩ (.int .u8 (Y : Int))).ownsRow B 5 1 (.slice (some ⟨g, 0, none⟩) n cap) n (u8s (l.set Q Y)) ∧ Below B w0 (w.setCell ⟨g, Q, none⟩ (.int .u8 (Y : Int))) := by
  have hst := h.stored Q (.int .u8 (Y : Int))
  rw [u8s_set] at hst
  exact ⟨hst.1, hb.setCell (by have := h.lt g rfl; exact this.1) _⟩

theorem own_drew {B : Nat} {w : World} {e : TypeId} {sz : Nat} {v : Value} {n : Nat} {xs : List Value} (h : w.ownsRow B e sz v n xs) : w.drew.ownsRow B e sz v n xs := h
theorem byte_bit (V r : Nat) (hV : V < 256) (hr : r < 8) : bits .xor .u8 (V : Int) ((2 ^ r : Nat) : Int) = ((V ^^^ 2 ^ r : Nat) : Int) ∧ (2 : Int) ^ r % 256 = ((2 ^ r : Nat) : Int) := by
  have hp : 2 ^ r < 256 := Nat.pow_lt_pow_right (show 1 < 2 by omega) (show r < 8 by omega)
  refine ⟨u8_xor_nat _ _ hV hp, ?_⟩
  rw [show (2 : Int) ^ r = ((2 ^ r : Nat) : Int) by simp]
  obtain ⟨R, hR⟩ : ∃ R, R = 2 ^ r := ⟨_, rfl⟩
  rw [← hR] at hp ⊢
  omega

theorem rawAt_readOk {P : List Nat} (hP8 : ∀ v ∈ P, v < 256) {c : Nat} (hP : P.length = 64 * c) (h1 : 1 ≤ c) (h8 : c ≤ 8) {zs : List Int} {w : Nat} {raw : List Nat} (h : RawAt P c zs w raw) (hw : 9 * c ≤ w ∨ zs.length ≤ w) (hwc : w ≤ 9 * c) (B : Nat) (hB : B ≤ 64 * c) : readL5 raw B = P.take B ∧ readN5 raw B = cntW zs w ∧ readS5 raw B = 2 := by
  obtain ⟨hx, hcn⟩ : RawAt P c zs (9 * c) raw ∧ cntW zs (9 * c) = cntW zs w := by
    by_cases he : w = 9 * c
    · subst he; exact ⟨h, rfl⟩
    · have := rawAt_past (9 * c - w) w (by omega) h
      rwa [show w + (9 * c - w) = 9 * c by omega] at this
  have hs := rawAt_state hx h1 h8
  have hd : raw.length / 73 = c := by have := hx.1; omega
  have hok : readOk raw B = some (P, cntW zs w) := by
    unfold readOk
    rw [if_pos hs, hd, if_pos (by omega), rawAt_read hP8 hP hx (Nat.le_refl _) c (Nat.le_refl _), List.take_of_length_le (by omega), hcn]
  unfold readL5 readN5 readS5
  rw [hok, if_pos hs]
  exact ⟨rfl, rfl, rfl⟩

set_option maxRecDepth 100000 in
set_option maxHeartbeats 40000000 in
theorem pmends_walk (a : Option Addr) (len cap : Nat) (l : List Nat) (a2 : Option Addr) (bl cap2 : Nat) (zs : List Int) (w : World) (hi : Bytes w a len l) (hj : IntsK .i64 w a2 bl zs) (hz : ∀ z ∈ zs, I64 z) (h0 : 1 ≤ len) (h512 : len ≤ 512) (hbl : bl ≤ 100) (hT : Deb w) :
    Calls Tryd.prog 3 #[.slice a len cap, .slice a2 bl cap2] w fun e w' => e = .returned (.bool true) ∧ Below w.heap.size w w' := by
  have HI := Lib.hid hi
  have HJ := Lib.hid hj.ints
  have HZ := Lib.hid hz
  have HT := Lib.hid hT
  have hll := hi.1
  have hzl := hj.1
  obtain ⟨c, hc⟩ : ∃ c, c = (len - 1) / 64 + 1 := ⟨_, rfl⟩
  have h1 : 1 ≤ c := by omega
  have h8 : c ≤ 8 := by omega
  have hlc : len ≤ 64 * c := by omega
  have HCh : Hid (chunksP (len : Int) = (c : Int)) := Lib.hid (by unfold chunksP; split <;> omega)
  obtain ⟨P, hP⟩ : ∃ P, P = padTo l (64 * c) := ⟨_, rfl⟩
  have HP8 : Hid (∀ v ∈ P, v < 256) := Lib.hid (by rw [hP]; exact padTo_lt hi.2.1 _)
  have HPl : Hid (P.length = 64 * c) := Lib.hid (by rw [hP, padTo_len l _ (by omega)])
  have HRaw : Hid (layTo (padTo l (64 * c)) c = layTo P c) := Lib.hid (by rw [hP])
  have HTake : Hid (P.take len = l) := Lib.hid (by rw [hP]; unfold padTo; rw [List.take_left' hll])
  obtain ⟨N, hN⟩ : ∃ N, N = 73 * c := ⟨_, rfl⟩
  obtain ⟨W9, hW9⟩ : ∃ W9, W9 = 9 * c := ⟨_, rfl⟩
  have t1 : (73 : Int) * (c : Int) = (N : Int) := by omega
  have t2 : (9 : Int) * (c : Int) = (W9 : Int) := by omega
  have t3 : (W9 : Int) ≤ 72 := by omega
  have t4 : (N : Int) ≤ 584 := by omega
  have t5 : (len : Int) ≤ 512 := by omega
  have t6 : ((len : Int) == 0) = false := by simp; omega
  have t7 : (bl : Int) ≤ 100 := by omega
  have HNc := Lib.hid hN
  have HWc := Lib.hid hW9
  clear hi hj hz hT hP hN hW9 hc
  go_enter Tryd.func3, Tryd.ntmps3
  go_wp2_with fail
  refine (pknown_any _ HT.out).mono ?_
  rintro e w1 ⟨rfl, hb1⟩
  have HB1 := Lib.hid hb1
  clear hb1
  go_wp2_with fail
  refine (chunks_any _ (by unfold I64; omega) _).mono ?_
  rintro e w1' ⟨rfl, rfl⟩
  rw [HCh.out]
  go_wp2_with fail
  refine (lay_ok a len cap l c _ (HI.out.below HB1.out (Nat.le_refl _)) h1 h8 hlc (Deb.below HT.out HB1.out (Nat.le_refl _))).mono ?_
  rintro e w2 ⟨⟨v2, he, hown2⟩, hb2⟩
  rw [HRaw.out, layTo_len P c (by rw [HPl.out]; exact Nat.le_refl _), ← HNc.out] at hown2
  have hszB := HB1.out.size
  obtain ⟨g, cr, rfl⟩ := own_shape hown2 (by omega)
  have hcr : N ≤ cr ∧ cr ≤ maxLen := by
    rcases hown2.2 with ⟨h, _⟩ | ⟨g', cap', cur, h, _, _, h3, h4, _⟩
    · simp at h
    · simp at h; obtain ⟨rfl, rfl⟩ := h; exact ⟨h3, h4⟩
  subst he
  have HO2 := Lib.hid (own_mono hown2 hszB)
  have HB2 := Lib.hid (HB1.out.trans (hb2.mono HB1.out.size))
  have HS : Hid (RawAt P c zs 0 (layTo P c)) := Lib.hid (rawAt_start HP8.out c HPl.out zs)
  clear hown2 hb2 HB1 hszB
  go_wp2_with fail
  go_loopw [8, 9] (fun n i wr => ∃ (k : Nat) (raw : List Nat), k ≤ W9 ∧ i = .int .i64 (k : Int) ∧ n = .int .i64 (cntW zs k : Nat) ∧ Hid (RawAt P c zs k raw) ∧ Hid (wr.ownsRow w.heap.size 5 1 (.slice (some ⟨g, 0, none⟩) N cr) N (u8s raw)) ∧ Hid (Below w.heap.size w wr)) (fun _ i _ => W9 - (intOf i).toNat)
  case atStart => exact ⟨0, layTo P c, by omega, rfl, rfl, HS, HO2, HB2⟩
  case round =>
    obtain ⟨k, raw, hk, rfl, rfl, HRa, HOw, HB⟩ := hrel
    obtain ⟨wo, rfl⟩ : ∃ wo : World, wo = wr := ⟨_, rfl⟩
    have hcnt := cntW_le zs k
    by_cases hlt : k < W9 ∧ k < bl
    · obtain ⟨hkM, hkb⟩ := hlt
      obtain ⟨b2, o2, rfl, hb2l, hcell⟩ := HJ.out.2 (by omega)
      have hck : wo.cell? ⟨b2, o2 + k, none⟩ = some (.int .i64 (zs.getD k 0)) := (HB.out.cell (p := ⟨b2, o2 + k, none⟩) hb2l).trans (hcell k hkb)
      obtain ⟨z, hze⟩ : ∃ z, z = zs.getD k 0 := ⟨_, rfl⟩
      have hz64 : I64 z := by
        rw [hze]
        have : zs.getD k 0 ∈ zs := by simp [List.getD, show k < zs.length by omega]
        exact HZ.out _ this
      rw [← hze] at hck
      have t20 : (k : Int) < (W9 : Int) := by omega
      have t21 : (k : Int) < (bl : Int) := by omega
      have t22 : (0 : Int) ≤ (k : Int) := by omega
      unfold I64 at hz64
      by_cases hz0 : z < 0
      · have htn : turnOf zs k = none := by unfold turnOf; rw [if_neg (by rw [← hze]; omega)]
        have HT2 := Lib.hid (rawAt_skip HRa.out (.inr htn))
        have HC2 := Lib.hid (cntW_skip (zs := zs) (w := k) (.inr htn))
        clear hcell hze htn
        go_wp2
        go_roundw
        case rel => exact ⟨k + 1, raw, by omega, by go_num, by rw [HC2.out], HT2, HOw, HB⟩
        case measure => simp [intOf]; omega
      · obtain ⟨zn, hzn⟩ : ∃ zn : Nat, z = zn := ⟨z.toNat, by omega⟩
        have htn : turnOf zs k = some (zn % 72) := by unfold turnOf; rw [if_pos (by rw [← hze]; omega), ← hze, hzn]; rfl
        subst hzn
        obtain ⟨j, hj⟩ : ∃ j, j = k / 9 := ⟨_, rfl⟩
        obtain ⟨t, ht⟩ : ∃ t, t = k % 9 := ⟨_, rfl⟩
        have hkjt : k = 9 * j + t := by omega
        have hjc : j < c := by have := HWc.out; omega
        have t23 : (k : Int) / 9 = (j : Int) := by omega
        have t24 : (k : Int) % 9 = (t : Int) := by omega
        have hraw8 := HRa.out.2.1
        have hNc := HNc.out
        by_cases ht8 : t = 8
        · obtain ⟨r, hr⟩ : ∃ r, r = zn % 8 := ⟨_, rfl⟩
          obtain ⟨Q, hQ⟩ : ∃ Q, Q = 73 * j + 72 := ⟨_, rfl⟩
          have hcl := own_at HOw.out Q (by omega)
          have hfr := HOw.out.frozenAt Q
          obtain ⟨V, hV⟩ : ∃ V, V = raw.getD Q 0 := ⟨_, rfl⟩
          obtain ⟨hX, hR2⟩ := byte_bit V r (by rw [hV]; exact getD_byte hraw8 Q) (by omega)
          obtain ⟨Y, hY⟩ : ∃ Y, Y = V ^^^ 2 ^ r := ⟨_, rfl⟩
          have HM : Hid (RawAt P c zs (k + 1) (raw.set Q Y)) := Lib.hid (by
            have q := rawAt_mark (P := P) (c := c) (zs := zs) (j := j) (t := r) (raw := raw) (by rw [show 9 * j + 8 = k by omega]; exact HRa.out) hjc (by omega)
            rw [← hQ, ← hV, ← hY, show 9 * j + 9 = k + 1 by omega] at q
            exact q)
          have HC2 := Lib.hid (cntW_skip (zs := zs) (w := k) (.inl (by omega)))
          have HSt := Lib.hid (own_store HOw.out HB.out Q Y)
          obtain ⟨R, hR⟩ : ∃ R, R = 2 ^ r := ⟨_, rfl⟩
          rw [← hY, ← hR] at hX
          rw [← hR] at hR2
          rw [← hV] at hcl
          have hV8 : V < 256 := by rw [hV]; exact getD_byte hraw8 Q
          have hY8 : Y < 256 := by rw [hY]; exact bit_lt hV8 (by omega)
          have hR8 : R < 256 := by omega
          have t25 : (t : Int) = 8 := by omega
          have t26 : (zn : Int) % 8 = (r : Int) := by omega
          have t27 : (73 : Int) * (j : Int) + 72 = (Q : Int) := by omega
          have t27w : IntKind.i64.wrap (IntKind.i64.wrap (73 * (j : Int)) + 72) = (Q : Int) := by
            rw [wrapI (73 * (j : Int)) (by omega) (by omega), wrapI _ (by omega) (by omega)]; omega
          have t27x : (0 : Int) ≤ (Q : Int) ∧ (Q : Int) < (N : Int) := by omega
          have t27y : (0 : Int) ≤ (k : Int) ∧ (k : Int) < (bl : Int) := by omega
          have t27z : (zn : Int).tmod 8 = (r : Int) := by rw [Int.tmod_eq_emod_of_nonneg (by omega)]; omega
          have t28 : (Q : Int) < (N : Int) := by omega
          have t29 : (0 : Int) ≤ (Q : Int) := by omega
          have t30 : r < 8 := by omega
          have t30m : min r 8 = r := by omega
          have t31 : Q < N := by omega
          have t32 : (j : Int) ≤ 8 := by omega
          have hkm : k < W9 := hkM
          clear hcell hze htn hV hY hR hQ hr hkjt hj ht hraw8 hNc ht8
          go_wp2_with fail
          go_still_tail 19, (by kernel_rfl)
          change wpList _ _ _ _ _ wo.drew
          go_wp2
          go_roundw
          case rel => exact ⟨k + 1, raw.set Q Y, by omega, by go_num, by rw [HC2.out], HM, Lib.hid (own_drew HSt.out.1), Lib.hid HSt.out.2.drew⟩
          case measure => simp [intOf]; omega
        · obtain ⟨b, hb⟩ : ∃ b, b = zn % 72 := ⟨_, rfl⟩
          have HM0 : Hid (RawAt P c zs (k + 1) (turnRaw raw j t b)) := Lib.hid (by
            have q := rawAt_word (P := P) (c := c) (zs := zs) (j := j) (t := t) (k := b) (raw := raw) (by rw [← hkjt]; exact HRa.out) hjc (by omega) (by rw [← hkjt, hb]; exact htn)
            rw [← hkjt] at q
            exact q)
          have HC2 := Lib.hid (cntW_word (zs := zs) (w := k) (by omega) htn)
          have t25 : ¬ ((t : Int) = 8) := by omega
          have t25' : ((t : Int) == 8) = false := by simp; omega
          have t26 : (zn : Int) % 72 = (b : Int) := by omega
          by_cases hb6 : b < 64
          · obtain ⟨r, hr⟩ : ∃ r, r = b % 8 := ⟨_, rfl⟩
            obtain ⟨q, hq⟩ : ∃ q, q = b / 8 := ⟨_, rfl⟩
            obtain ⟨Q, hQ⟩ : ∃ Q, Q = 73 * j + 8 * t + q := ⟨_, rfl⟩
            have hcl := own_at HOw.out Q (by omega)
            have hfr := HOw.out.frozenAt Q
            obtain ⟨V, hV⟩ : ∃ V, V = raw.getD Q 0 := ⟨_, rfl⟩
            obtain ⟨hX, hR2⟩ := byte_bit V r (by rw [hV]; exact getD_byte hraw8 Q) (by omega)
            obtain ⟨Y, hY⟩ : ∃ Y, Y = V ^^^ 2 ^ r := ⟨_, rfl⟩
            have HM : Hid (RawAt P c zs (k + 1) (raw.set Q Y)) := Lib.hid (by
              have e : turnRaw raw j t b = raw.set Q Y := by unfold turnRaw; rw [if_pos hb6, hY, hV, hQ, hq, hr]
              rw [← e]
              exact HM0.out)
            have HSt := Lib.hid (own_store HOw.out HB.out Q Y)
            obtain ⟨R, hR⟩ : ∃ R, R = 2 ^ r := ⟨_, rfl⟩
            rw [← hY, ← hR] at hX
            rw [← hR] at hR2
            rw [← hV] at hcl
            have hV8 : V < 256 := by rw [hV]; exact getD_byte hraw8 Q
            have hY8 : Y < 256 := by rw [hY]; exact bit_lt hV8 (by omega)
            have hR8 : R < 256 := by omega
            have t27 : (b : Int) < 64 := by omega
            have t28 : (Q : Int) < (N : Int) := by omega
            have t29 : (0 : Int) ≤ (Q : Int) := by omega
            have t30 : r < 8 := by omega
            have t31 : Q < N := by omega
            have t32 : (j : Int) ≤ 8 := by omega
            have t33 : (b : Int) / 8 = (q : Int) := by omega
            have t34 : (b : Int) % 8 = (r : Int) := by omega
            have t35 : (73 : Int) * (j : Int) + (8 : Int) * (t : Int) + (q : Int) = (Q : Int) := by omega
            have t36 : (t : Int) ≤ 8 := by omega
            clear hcell hze htn hV hY hR hQ hr hq hkjt hj ht hraw8 hNc ht8 hb HM0 hb6
            go_wp2
            go_roundw
            case rel => exact ⟨k + 1, raw.set Q Y, by omega, by go_num, by rw [HC2.out]; go_num, HM, Lib.hid HSt.out.1, Lib.hid HSt.out.2⟩
            case measure => simp [intOf]; omega
          · obtain ⟨r, hr⟩ : ∃ r, b = r + 64 := ⟨b - 64, by omega⟩
            obtain ⟨Q, hQ⟩ : ∃ Q, Q = 73 * j + 64 + t := ⟨_, rfl⟩
            have hcl := own_at HOw.out Q (by omega)
            have hfr := HOw.out.frozenAt Q
            obtain ⟨V, hV⟩ : ∃ V, V = raw.getD Q 0 := ⟨_, rfl⟩
            obtain ⟨hX, hR2⟩ := byte_bit V r (by rw [hV]; exact getD_byte hraw8 Q) (by omega)
            obtain ⟨Y, hY⟩ : ∃ Y, Y = V ^^^ 2 ^ r := ⟨_, rfl⟩
            have HM : Hid (RawAt P c zs (k + 1) (raw.set Q Y)) := Lib.hid (by
              have e : turnRaw raw j t b = raw.set Q Y := by unfold turnRaw; rw [if_neg hb6, hY, hV, hQ, show b - 64 = r by omega]
              rw [← e]
              exact HM0.out)
            have HSt := Lib.hid (own_store HOw.out HB.out Q Y)
            obtain ⟨R, hR⟩ : ∃ R, R = 2 ^ r := ⟨_, rfl⟩
            rw [← hY, ← hR] at hX
            rw [← hR] at hR2
            rw [← hV] at hcl
            have hV8 : V < 256 := by rw [hV]; exact getD_byte hraw8 Q
            have hY8 : Y < 256 := by rw [hY]; exact bit_lt hV8 (by omega)
            have hR8 : R < 256 := by omega
            have t27 : ¬ ((b : Int) < 64) := by omega
            have t28 : (Q : Int) < (N : Int) := by omega
            have t29 : (0 : Int) ≤ (Q : Int) := by omega
            have t30 : r < 8 := by omega
            have t31 : Q < N := by omega
            have t32 : (j : Int) ≤ 8 := by omega
            have t34 : (b : Int) - 64 = (r : Int) := by omega
            have t35 : (73 : Int) * (j : Int) + 64 + (t : Int) = (Q : Int) := by omega
            have t36 : (t : Int) ≤ 8 := by omega
            clear hcell hze htn hV hY hR hQ hr hkjt hj ht hraw8 hNc ht8 hb HM0 hb6
            go_wp2
            go_roundw
            case rel => exact ⟨k + 1, raw.set Q Y, by omega, by go_num, by rw [HC2.out]; go_num, HM, Lib.hid HSt.out.1, Lib.hid HSt.out.2⟩
            case measure => simp [intOf]; omega
    · have hex : (¬ ((k : Int) < (W9 : Int))) ∨ ((k : Int) < (W9 : Int) ∧ ¬ ((k : Int) < (bl : Int))) := by omega
      have hR := rawAt_readOk HP8.out HPl.out h1 h8 HRa.out (by have := HWc.out; omega) (by have := HWc.out; omega) len hlc
      rw [HTake.out] at hR
      have HR := Lib.hid hR
      have HY := Lib.hid (bytes_of_own HOw.out HRa.out.2.1)
      have HTo := Lib.hid (Deb.below HT.out HB.out (Nat.le_refl _))
      obtain ⟨n, hn⟩ : ∃ n, n = cntW zs k := ⟨_, rfl⟩
      rw [← hn] at HR hcnt ⊢
      clear hR hn
      rcases hex with t30 | ⟨t30, t31⟩
      all_goals
        go_wp2_with fail
        refine (read_page _ N cr raw (len : Int) _ HY.out (by omega) hcr.1 hcr.2 (by unfold I64; omega) HTo.out).mono ?_
        rintro e w3 ⟨⟨a3, c3, he, hy3, hn3, hle3⟩, hb3⟩
        rw [HR.out.1, HR.out.2.1, HR.out.2.2] at he
        rw [HR.out.1] at hy3
        rw [hll] at he hy3
        subst he
        have s1 := str_below hy3 c3 w3 (Below.refl _ _)
        have HB3 := Lib.hid (HB.out.trans (hb3.mono HB.out.size))
        have s2 := str_below (HI.out.below HB3.out (Nat.le_refl _)) cap w3 (Below.refl _ _)
        clear hy3 hb3 hn3 hle3
        go_wp2_with fail
        go_ret
        exact ⟨rfl, HB3.out⟩

set_option maxRecDepth 100000 in
theorem pmends_any (a : Option Addr) (len cap : Nat) (l : List Nat) (a2 : Option Addr) (bl cap2 : Nat) (zs : List Int) (w : World) (hi : Bytes w a len l) (hj : IntsK .i64 w a2 bl zs) (hz : ∀ z ∈ zs, I64 z) (hc : len ≤ cap) (hcm : cap ≤ maxLen) (hc2 : bl ≤ cap2) (hcm2 : cap2 ≤ maxLen) (hT : Deb w) :
    Calls Tryd.prog 3 #[.slice a len cap, .slice a2 bl cap2] w fun e w' => e = .returned (.bool true) ∧ Below w.heap.size w w' := by
  by_cases h : 1 ≤ len ∧ len ≤ 512 ∧ bl ≤ 100
  · exact pmends_walk a len cap l a2 bl cap2 zs w hi hj hz h.1 h.2.1 h.2.2 hT
  · unfold maxLen at hcm hcm2
    have HT := Lib.hid hT
    have hcs : (512 < (len : Int)) ∨ (¬ 512 < (len : Int) ∧ len = 0) ∨ (¬ 512 < (len : Int) ∧ ((len : Int) == 0) = false ∧ 100 < (bl : Int)) := by
      by_cases h1 : 512 < len
      · exact .inl (by omega)
      · by_cases h2 : len = 0
        · exact .inr (.inl ⟨by omega, h2⟩)
        · exact .inr (.inr ⟨by omega, by simp; omega, by omega⟩)
    clear hi hj hz hT h
    rcases hcs with h | ⟨h, rfl⟩ | ⟨h, h2, h3⟩
    all_goals
      go_enter Tryd.func3, Tryd.ntmps3
      go_wp2_with (go_at_call 5; refine (pknown_any _ HT.out).mono ?_; rintro e w1 ⟨rfl, hb⟩)
      go_ret
      exact ⟨rfl, hb⟩

end Go.Proofs.YtogpdmpefdafnaaDoor
