/- ecc: the reference's MendAll. -/
import Derived.Test.YtfefjabdfelhnaaDoorEccY
namespace Go.Proofs.YtfefjabdfelhnaaDoor
open Go Go.RowKit
set_option linter.unusedVariables false

theorem Cols.drewN {w : World} {a : Option Addr} {cap : Nat} (h : Cols w a cap) (n : Nat) : Cols (w.drewN n) a cap := by
  obtain ⟨g, rfl, hg, hc⟩ := h
  exact ⟨g, rfl, by simpa using hg, fun i hi => by simpa using hc i hi⟩

theorem below_of_noughts {p m : Nat} (hm : m ≤ 8) (hp : p < 18446744073709551616) (h : ∀ t, m ≤ t → t < 8 → byteN p t = 0) : p < 256 ^ m := by
  have h0 := digits_zero (8 - m) (p / 256 ^ m) (by rw [Nat.div_lt_iff_lt_mul (Nat.pos_of_ne_zero (by simp)), ← Nat.pow_add, show 8 - m + m = 8 by omega]; exact hp) (fun j hj => by
    have := h (m + j) (by omega) (by omega)
    unfold byteN at this ⊢
    rwa [Nat.div_div_eq_div_mul, ← Nat.pow_add])
  rcases Nat.lt_or_ge p (256 ^ m) with q | q
  · exact q
  · have := Nat.div_pos q (Nat.pos_of_ne_zero (by simp)); omega

/-- What stands in the reference's output: the bytes so far, and noughts behind them. -/
def padded (o : List Nat) (len : Nat) : List Nat := o ++ List.replicate (len - o.length) 0
theorem padded_full (o : List Nat) (len : Nat) (h : o.length = len) : padded o len = o := by simp [padded, h]
theorem padded_len (o : List Nat) (len : Nat) (h : o.length ≤ len) : (padded o len).length = len := by simp [padded]; omega
theorem padded_nil (len : Nat) : padded [] len = List.replicate len 0 := by simp [padded]
theorem padded_set (o : List Nat) (len x : Nat) (h : o.length < len) : (padded o len).set o.length x = padded (o ++ [x]) len := by
  unfold padded
  obtain ⟨m, hm⟩ : ∃ m, len - o.length = m + 1 := ⟨len - o.length - 1, by omega⟩
  rw [hm, List.replicate_succ, List.set_append_right _ _ (Nat.le_refl _), Nat.sub_self]
  simp [show len - (o.length + 1) = m by omega]

theorem padded_at (o : List Nat) (len : Nat) (h : o.length < len) : (u8s (padded o len))[o.length]? = some (.int .u8 ((0 : Nat) : Int)) := by
  obtain ⟨m, hm⟩ : ∃ m, len - o.length = m + 1 := ⟨len - o.length - 1, by omega⟩
  unfold padded
  rw [hm, List.replicate_succ, u8s_append, List.getElem?_append_right (by rw [u8s_len]; exact Nat.le_refl _), u8s_len, Nat.sub_self]
  rfl

set_option maxRecDepth 100000 in
set_option maxHeartbeats 4000000 in
theorem rmendAllB_any (a : Option Addr) (len cap : Nat) (l : List Nat) (a2 : Option Addr) (cl cap2 : Nat) (c : List Nat) (w : World) (hi : Bytes w a len l) (hj : Bytes w a2 cl c) (hl : len ≤ 100000) (hcl : cl ≤ 100000) (hc : len ≤ cap) (hc2 : cl ≤ cap2) :
    Calls Tryd.prog 11 #[.slice a len cap, .slice a2 cl cap2] w fun e w' => MendV w.heap.size w' (mendAllS l c) e ∧ Below w.heap.size w w' := by
  have HIn := Lib.hid hi
  have HIc := Lib.hid hj
  have hll := hi.1
  have hcc := hj.1
  clear hi hj
  obtain ⟨POST, hPOST⟩ : ∃ Q : Ending → World → Prop, Q = fun e w' => MendV w.heap.size w' (mendAllS l c) e ∧ Below w.heap.size w w' := ⟨_, rfl⟩
  rw [← hPOST]
  have HPOST := Lib.hid hPOST
  clear hPOST
  by_cases hlen : cl = (len + 7) / 8
  · have HAll : Hid (mendAllS l c = mendTo l c cl) := Lib.hid (by unfold mendAllS; rw [hcc, hll, if_pos hlen])
    have t1 : ((cl : Int) == ((len : Int) + 7) / 8) = true := by simp; omega
    have hcl1 : 8 * cl ≤ len + 7 := by omega
    have hcl2 : len ≤ 8 * cl := by omega
    clear hlen
    go_enter Tryd.func11, Tryd.ntmps11
    go_wp2_with fail
    refine (rcolumns_any _).mono ?_
    rintro e w1 ⟨⟨v, he, hC⟩, hb⟩
    obtain ⟨ca, ccap, hv, hC2⟩ := hC.cols
    rw [hv] at he
    subst he
    have HC2 := Lib.hid hC2
    have HB1 := Lib.hid hb
    have hsz1 := hb.size
    clear hC hv hC2 hb
    go_wp2_with (at_make; refine wpList_make_u8 rfl _ _ 22 rfl w1.heap.size 5 Tryd.underlying22 Tryd.infoU8 len rfl rfl (by omega) (Nat.le_refl _) ?_; rw [← padded_nil]; intro w2 hown hgrow; have HO2 := Lib.hid hown; have HB2 : Hid (Below w1.heap.size w1 w2) := Lib.hid ((Below.refl _ _).grown hgrow (Nat.le_refl _) (fun k hk => by simp at hk)); clear hown hgrow)
    go_loopw [9, 10] (fun m i wr => ∃ (k n : Nat) (o : List Nat), k ≤ cl ∧ i = .int .i64 (k : Int) ∧ m = .int .i64 (n : Int) ∧ n ≤ k ∧ Hid (mendTo l c k = some (o, n)) ∧ Hid (wr.ownsRow w1.heap.size 5 1 (.slice (some ⟨w1.heap.size, 0, none⟩) len len) len (u8s (padded o len))) ∧ Hid (Below w1.heap.size w1 wr)) (fun _ i _ => cl - (intOf i).toNat)
    case atStart => exact ⟨0, 0, [], by omega, rfl, rfl, by omega, Lib.hid (mendTo_zero l c), HO2, HB2⟩
    case round =>
      obtain ⟨k, n, o, hk, rfl, rfl, hn, HM, HO, HB⟩ := hrel
      obtain ⟨wo, rfl⟩ : ∃ wo : World, wo = wr := ⟨_, rfl⟩
      by_cases hlt : 8 * k < len
      · have hx := HIn.out.below (HB1.out.trans (HB.out.mono hsz1)) (Nat.le_refl _)
        have hy := HIc.out.below (HB1.out.trans (HB.out.mono hsz1)) (Nat.le_refl _)
        obtain ⟨b, off, rfl, hbl, hcell⟩ := hx.2.2 (by omega)
        clear hcell
        obtain ⟨b2, off2, rfl, hbl2, hcell2⟩ := hy.2.2 (by omega)
        have hck := hcell2 k (by omega)
        have HD := Lib.hid hx
        have hX := wordAt_lt HIn.out.2.1 k
        have hlast := mendTo_succ l c k
        rw [HM.out, hll] at hlast
        obtain ⟨X, hXe⟩ : ∃ X, X = wordAt l k := ⟨_, rfl⟩
        have HX : Hid (X = wordAt l k) := Lib.hid hXe
        rw [← hXe] at hX hlast
        have hy8 : c.getD k 0 < 256 := by
          have : c.getD k 0 ∈ c := by
            rw [List.getD, List.getElem?_eq_getElem (by omega)]; exact List.getElem_mem _
          exact HIc.out.2.1 _ this
        obtain ⟨Y, hY⟩ : ∃ Y, Y = c.getD k 0 := ⟨_, rfl⟩
        rw [← hY] at hck hy8 hlast
        obtain ⟨p, q, h, em⟩ : ∃ p q h, Ecc.mendW X Y = (p, q, h) := ⟨_, _, _, rfl⟩
        obtain ⟨hp, hh2⟩ := mendW_lt em hX
        have HEm := Lib.hid em
        have hC3 := HC2.out.below HB.out (Nat.le_refl _)
        have HC3 := Lib.hid hC3
        have HLast := Lib.hid hlast
        have hsz := HB.out.size
        have t6 : (k : Int) < (cl : Int) := by omega
        have t7 : (8 : Int) * (k : Int) < (len : Int) := by omega
        have hmv : mendV X Y = .tuple #[.int .u64 p, .int .u8 q, .int .i64 h] := by unfold mendV; rw [em]
        have HMv := Lib.hid hmv
        clear hx hy hXe hY hcell2 em hlast hC3 hmv
        have HWd : ∀ m, Calls Tryd.prog 34 #[.slice (some ⟨b, off, none⟩) len cap, .int .i64 (k : Int)] (wo.drewN m) fun e w' => e = .returned (.int .u64 (X : Int)) ∧ wo.drewN m = w' := fun m => by rw [HX.out]; exact rword_any b off len cap l k _ (Bytes.drewN HD.out m) hl hlt
        have HMd : ∀ m, Calls Tryd.prog 33 #[.slice ca 64 ccap, .int .u64 (X : Int), .int .u8 (Y : Int)] (wo.drewN m) fun e w' => e = .returned (.tuple #[.int .u64 p, .int .u8 q, .int .i64 h]) ∧ wo.drewN m = w' := fun m => by rw [← HMv.out]; exact rmend_any ca ccap X Y hX hy8 _ (HC3.out.drewN m)
        have HWd2 := Lib.hid HWd
        have HMd2 := Lib.hid HMd
        clear HWd HMd
        go_wp2_with fail
        go_quiet ((first | (go_at_call 34; exact quietC (HWd2.out _)) | (go_at_call 33; exact quietC (HMd2.out _))))
        have HB3 : Hid (Below w1.heap.size w1 (wo.drewN nq)) := Lib.hid (below_drewN' HB.out nq)
        have HO3 : Hid ((wo.drewN nq).ownsRow w1.heap.size 5 1 (.slice (some ⟨w1.heap.size, 0, none⟩) len len) len (u8s (padded o len))) := Lib.hid HO.out
        obtain ⟨wd, hwd⟩ : ∃ wd, wd = wo.drewN nq := ⟨_, rfl⟩
        rw [← hwd] at HB3 HO3 ⊢
        obtain ⟨m, hm⟩ : ∃ m, m = min 8 (len - 8 * k) := ⟨_, rfl⟩
        have hlast := HLast.out
        rw [← hm] at hlast
        have HLast2 := Lib.hid hlast
        have hend : mendTo l c (k + 1) = none → mendTo l c cl = none := fun h0 => by
          have := mendTo_none h0 (cl - (k + 1)); rwa [show k + 1 + (cl - (k + 1)) = cl by omega] at this
        have hfail : mendOne X Y m = none → ∀ wz, Below w1.heap.size w1 wz → POST (.returned (.tuple #[.slice none 0 0, .int .i64 0, .bool false])) wz := by
          intro h1 wz hz
          rw [HPOST.out]
          refine ⟨?_, HB1.out.trans (hz.mono hsz1)⟩
          rw [HAll.out, hend (by rw [hlast, h1, addOn_none'])]
          rfl
        have HFail := Lib.hid hfail
        have hol := (mendTo_len k o n HM.out).1
        rw [hll] at hol
        clear hlast hend hfail hwd
        by_cases h2 : h = 2
        · have t8 : ((h : Int) == 2) = true := by simp [h2]
          have HFin := Lib.hid (HFail.out (mendOne_none2 (p := p) (q := q) (by rw [← h2]; exact HEm.out)) _ HB3.out)
          clear h2
          go_wp2
          go_ret3
          exact HFin.out
        · have t8 : ((h : Int) == 2) = false := by simp; omega
          obtain ⟨d, hd⟩ : ∃ d, d = if h = 1 then 1 else 0 := ⟨_, rfl⟩
          have hok : p < 256 ^ m → mendTo l c (k + 1) = some (o ++ bytesN p m, n + d) := fun hr => by
            rw [HLast2.out, mendOne_ok HEm.out h2 hr, ← hd]; rfl
          have HOk := Lib.hid hok
          have hcs2 : (h = 1 ∧ d = 1) ∨ (¬ h = 1 ∧ d = 0) := by rw [hd]; by_cases q : h = 1 <;> simp [q]
          clear hok hd
          have hm8 : m ≤ 8 := by omega
          have hst : (wd.ownsRow w1.heap.size 5 1 (.slice (some ⟨w1.heap.size, 0, none⟩) len len) len (u8s (padded (o ++ bytesN p (min 0 m)) len))) := by
            rw [show min 0 m = 0 by omega]; simpa [bytesN] using HO3.out
          have HSt := Lib.hid hst
          clear hst
          rcases hcs2 with ⟨c1, rfl⟩ | ⟨c1, rfl⟩
          · have t12 : ((h : Int) == 1) = true := by simp; omega
            clear c1
            go_wp2_with fail
            go_loopw [14] (fun i wr => ∃ j : Nat, j ≤ 8 ∧ i = .int .i64 (j : Int) ∧ Hid (wr.ownsRow w1.heap.size 5 1 (.slice (some ⟨w1.heap.size, 0, none⟩) len len) len (u8s (padded (o ++ bytesN p (min j m)) len))) ∧ Hid (Below w1.heap.size w1 wr) ∧ Hid (∀ t, m ≤ t → t < j → byteN p t = 0)) (fun i _ => 8 - (intOf i).toNat)
            case atStart => exact ⟨0, by omega, rfl, HSt, HB3, Lib.hid (fun t _ h => by omega)⟩
            case round =>
              obtain ⟨j, hj, rfl, HI, HJ, HN⟩ := hrel
              obtain ⟨wi, rfl⟩ : ∃ wi : World, wi = wr := ⟨_, rfl⟩
              by_cases hj8 : j < 8
              · have t20 : (j : Int) < 8 := by omega
                by_cases hin : 8 * k + j < len
                · have hjm : j < m := by omega
                  have t21 : (8 : Int) * (k : Int) + (j : Int) < (len : Int) := by omega
                  have hB := byteN_int p j
                  obtain ⟨B, hBe⟩ : ∃ B, B = byteN p j := ⟨_, rfl⟩
                  have hB8 : B < 256 := by rw [hBe]; exact byteN_lt p j
                  rw [← hBe] at hB
                  obtain ⟨Q, hQ⟩ : ∃ Q, Q = 8 * k + j := ⟨_, rfl⟩
                  have hst := HI.out.stored Q (.int .u8 (B : Int))
                  have hfr := HI.out.frozenAt Q
                  have hol2 : o.length = 8 * k := by omega
                  have hlj : (o ++ bytesN p (min j m)).length = Q := by rw [List.length_append, bytesN_len]; omega
                  have hcell : wi.cell? ⟨w1.heap.size, Q, none⟩ = some (.int .u8 ((0 : Nat) : Int)) := by
                    rw [HI.out.cellAt Q (by omega)]
                    rw [← hlj]
                    exact padded_at _ len (by omega)
                  have hset : (padded (o ++ bytesN p (min j m)) len).set Q B = padded (o ++ bytesN p (min (j + 1) m)) len := by
                    rw [← hlj, padded_set _ _ _ (by omega), List.append_assoc, show min j m = j by omega, show min (j + 1) m = j + 1 by omega, hBe]
                    congr 2
                    unfold bytesN
                    rw [List.range_succ, List.map_append]
                    rfl
                  rw [u8s_set, hset] at hst
                  have HSt2 := Lib.hid hst.1
                  have HN2 : Hid (∀ t, m ≤ t → t < j + 1 → byteN p t = 0) := Lib.hid (fun t a b => by omega)
                  have HBS := Lib.hid (HJ.out.setCell (p := ⟨w1.heap.size, Q, none⟩) (Nat.le_refl _) (.int .u8 (B : Int)))
                  have hQi : (8 : Int) * (k : Int) + (j : Int) = (Q : Int) := by omega
                  have t23 : (Q : Int) < (len : Int) := by omega
                  have t24 : (0 : Int) ≤ (Q : Int) := by omega
                  clear hst hset hBe hlj HI HJ HN hol2 hQ
                  have hjs : j = 0 ∨ j = 1 ∨ j = 2 ∨ j = 3 ∨ j = 4 ∨ j = 5 ∨ j = 6 ∨ j = 7 := by omega
                  rcases hjs with rfl | rfl | rfl | rfl | rfl | rfl | rfl | rfl
                  · have hB2 : (p : Int) % 256 = (B : Int) := by rw [hB]; simp
                    have hQ2 : (8 : Int) * (k : Int) = (Q : Int) := by omega
                    clear hB
                    go_wp2
                    go_roundw
                    case rel => exact ⟨1, by omega, rfl, HSt2, HBS, HN2⟩
                    case measure => first | (simp [intOf]; done) | (simp [intOf]; omega)
                  · have hB2 : (p : Int) / 256 % 256 = (B : Int) := by rw [hB]; simp
                    have hQ2 : (8 : Int) * (k : Int) + 1 = (Q : Int) := by omega
                    clear hB
                    go_wp2
                    go_roundw
                    case rel => exact ⟨2, by omega, rfl, HSt2, HBS, HN2⟩
                    case measure => first | (simp [intOf]; done) | (simp [intOf]; omega)
                  · have hB2 : (p : Int) / 65536 % 256 = (B : Int) := by rw [hB]; simp
                    have hQ2 : (8 : Int) * (k : Int) + 2 = (Q : Int) := by omega
                    clear hB
                    go_wp2
                    go_roundw
                    case rel => exact ⟨3, by omega, rfl, HSt2, HBS, HN2⟩
                    case measure => first | (simp [intOf]; done) | (simp [intOf]; omega)
                  · have hB2 : (p : Int) / 16777216 % 256 = (B : Int) := by rw [hB]; simp
                    have hQ2 : (8 : Int) * (k : Int) + 3 = (Q : Int) := by omega
                    clear hB
                    go_wp2
                    go_roundw
                    case rel => exact ⟨4, by omega, rfl, HSt2, HBS, HN2⟩
                    case measure => first | (simp [intOf]; done) | (simp [intOf]; omega)
                  · have hB2 : (p : Int) / 4294967296 % 256 = (B : Int) := by rw [hB]; simp
                    have hQ2 : (8 : Int) * (k : Int) + 4 = (Q : Int) := by omega
                    clear hB
                    go_wp2
                    go_roundw
                    case rel => exact ⟨5, by omega, rfl, HSt2, HBS, HN2⟩
                    case measure => first | (simp [intOf]; done) | (simp [intOf]; omega)
                  · have hB2 : (p : Int) / 1099511627776 % 256 = (B : Int) := by rw [hB]; simp
                    have hQ2 : (8 : Int) * (k : Int) + 5 = (Q : Int) := by omega
                    clear hB
                    go_wp2
                    go_roundw
                    case rel => exact ⟨6, by omega, rfl, HSt2, HBS, HN2⟩
                    case measure => first | (simp [intOf]; done) | (simp [intOf]; omega)
                  · have hB2 : (p : Int) / 281474976710656 % 256 = (B : Int) := by rw [hB]; simp
                    have hQ2 : (8 : Int) * (k : Int) + 6 = (Q : Int) := by omega
                    clear hB
                    go_wp2
                    go_roundw
                    case rel => exact ⟨7, by omega, rfl, HSt2, HBS, HN2⟩
                    case measure => first | (simp [intOf]; done) | (simp [intOf]; omega)
                  · have hB2 : (p : Int) / 72057594037927936 % 256 = (B : Int) := by rw [hB]; simp
                    have hB3 : (p : Int) / 72057594037927936 = (B : Int) := by omega
                    have hQ2 : (8 : Int) * (k : Int) + 7 = (Q : Int) := by omega
                    clear hB
                    go_wp2
                    go_roundw
                    case rel => exact ⟨8, by omega, rfl, HSt2, HBS, HN2⟩
                    case measure => first | (simp [intOf]; done) | (simp [intOf]; omega)
                · have hB := byteN_int p j
                  obtain ⟨B, hBe⟩ : ∃ B, B = byteN p j := ⟨_, rfl⟩
                  have hB8 : B < 256 := by rw [hBe]; exact byteN_lt p j
                  rw [← hBe] at hB
                  obtain ⟨Q, hQ⟩ : ∃ Q, Q = 8 * k + j := ⟨_, rfl⟩
                  have hQi : (8 : Int) * (k : Int) + (j : Int) = (Q : Int) := by omega
                  have t23 : ¬ ((Q : Int) < (len : Int)) := by omega
                  have t24 : (0 : Int) ≤ (Q : Int) := by omega
                  have t25 : (Q : Int) ≤ 200000 := by omega
                  have hmj : m ≤ j := by omega
                  have hjs : j = 0 ∨ j = 1 ∨ j = 2 ∨ j = 3 ∨ j = 4 ∨ j = 5 ∨ j = 6 ∨ j = 7 := by omega
                  by_cases hz : B = 0
                  · have HSt2 : Hid (wi.ownsRow w1.heap.size 5 1 (.slice (some ⟨w1.heap.size, 0, none⟩) len len) len (u8s (padded (o ++ bytesN p (min (j + 1) m)) len))) := Lib.hid (by rw [show min (j + 1) m = min j m by omega]; exact HI.out)
                    have HN2 : Hid (∀ t, m ≤ t → t < j + 1 → byteN p t = 0) := Lib.hid (fun t a b => by
                      by_cases e : t = j
                      · rw [e, ← hBe, hz]
                      · exact HN.out t a (by omega))
                    have hb0 : ((B : Int) == 0) = true := by simp [hz]
                    clear hBe HI HN hQ hz
                    rcases hjs with rfl | rfl | rfl | rfl | rfl | rfl | rfl | rfl
                    · exfalso; omega
                    · have hB2 : (p : Int) / 256 % 256 = (B : Int) := by rw [hB]; simp
                      have hQ2 : (8 : Int) * (k : Int) + 1 = (Q : Int) := by omega
                      clear hB
                      go_wp2
                      go_roundw
                      case rel => exact ⟨2, by omega, rfl, HSt2, HJ, HN2⟩
                      case measure => first | (simp [intOf]; done) | (simp [intOf]; omega)
                    · have hB2 : (p : Int) / 65536 % 256 = (B : Int) := by rw [hB]; simp
                      have hQ2 : (8 : Int) * (k : Int) + 2 = (Q : Int) := by omega
                      clear hB
                      go_wp2
                      go_roundw
                      case rel => exact ⟨3, by omega, rfl, HSt2, HJ, HN2⟩
                      case measure => first | (simp [intOf]; done) | (simp [intOf]; omega)
                    · have hB2 : (p : Int) / 16777216 % 256 = (B : Int) := by rw [hB]; simp
                      have hQ2 : (8 : Int) * (k : Int) + 3 = (Q : Int) := by omega
                      clear hB
                      go_wp2
                      go_roundw
                      case rel => exact ⟨4, by omega, rfl, HSt2, HJ, HN2⟩
                      case measure => first | (simp [intOf]; done) | (simp [intOf]; omega)
                    · have hB2 : (p : Int) / 4294967296 % 256 = (B : Int) := by rw [hB]; simp
                      have hQ2 : (8 : Int) * (k : Int) + 4 = (Q : Int) := by omega
                      clear hB
                      go_wp2
                      go_roundw
                      case rel => exact ⟨5, by omega, rfl, HSt2, HJ, HN2⟩
                      case measure => first | (simp [intOf]; done) | (simp [intOf]; omega)
                    · have hB2 : (p : Int) / 1099511627776 % 256 = (B : Int) := by rw [hB]; simp
                      have hQ2 : (8 : Int) * (k : Int) + 5 = (Q : Int) := by omega
                      clear hB
                      go_wp2
                      go_roundw
                      case rel => exact ⟨6, by omega, rfl, HSt2, HJ, HN2⟩
                      case measure => first | (simp [intOf]; done) | (simp [intOf]; omega)
                    · have hB2 : (p : Int) / 281474976710656 % 256 = (B : Int) := by rw [hB]; simp
                      have hQ2 : (8 : Int) * (k : Int) + 6 = (Q : Int) := by omega
                      clear hB
                      go_wp2
                      go_roundw
                      case rel => exact ⟨7, by omega, rfl, HSt2, HJ, HN2⟩
                      case measure => first | (simp [intOf]; done) | (simp [intOf]; omega)
                    · have hB2 : (p : Int) / 72057594037927936 % 256 = (B : Int) := by rw [hB]; simp
                      have hB3 : (p : Int) / 72057594037927936 = (B : Int) := by omega
                      have hQ2 : (8 : Int) * (k : Int) + 7 = (Q : Int) := by omega
                      clear hB
                      go_wp2
                      go_roundw
                      case rel => exact ⟨8, by omega, rfl, HSt2, HJ, HN2⟩
                      case measure => first | (simp [intOf]; done) | (simp [intOf]; omega)
                  · have hbig : ¬ p < 256 ^ m := by
                      intro hp2
                      have h1 : 256 ^ m ≤ 256 ^ j := Nat.pow_le_pow_right (by omega) hmj
                      refine hz ?_
                      rw [hBe]
                      unfold byteN
                      rw [Nat.div_eq_of_lt (Nat.lt_of_lt_of_le hp2 h1)]
                    have HFin := Lib.hid (HFail.out (mendOne_big HEm.out hbig) _ HJ.out)
                    have hb0 : ((B : Int) == 0) = false := by simp; omega
                    clear hBe HI HN hQ hbig
                    rcases hjs with rfl | rfl | rfl | rfl | rfl | rfl | rfl | rfl
                    · exfalso; omega
                    · have hB2 : (p : Int) / 256 % 256 = (B : Int) := by rw [hB]; simp
                      have hQ2 : (8 : Int) * (k : Int) + 1 = (Q : Int) := by omega
                      clear hB
                      go_wp2
                      go_ret3
                      exact HFin.out
                    · have hB2 : (p : Int) / 65536 % 256 = (B : Int) := by rw [hB]; simp
                      have hQ2 : (8 : Int) * (k : Int) + 2 = (Q : Int) := by omega
                      clear hB
                      go_wp2
                      go_ret3
                      exact HFin.out
                    · have hB2 : (p : Int) / 16777216 % 256 = (B : Int) := by rw [hB]; simp
                      have hQ2 : (8 : Int) * (k : Int) + 3 = (Q : Int) := by omega
                      clear hB
                      go_wp2
                      go_ret3
                      exact HFin.out
                    · have hB2 : (p : Int) / 4294967296 % 256 = (B : Int) := by rw [hB]; simp
                      have hQ2 : (8 : Int) * (k : Int) + 4 = (Q : Int) := by omega
                      clear hB
                      go_wp2
                      go_ret3
                      exact HFin.out
                    · have hB2 : (p : Int) / 1099511627776 % 256 = (B : Int) := by rw [hB]; simp
                      have hQ2 : (8 : Int) * (k : Int) + 5 = (Q : Int) := by omega
                      clear hB
                      go_wp2
                      go_ret3
                      exact HFin.out
                    · have hB2 : (p : Int) / 281474976710656 % 256 = (B : Int) := by rw [hB]; simp
                      have hQ2 : (8 : Int) * (k : Int) + 6 = (Q : Int) := by omega
                      clear hB
                      go_wp2
                      go_ret3
                      exact HFin.out
                    · have hB2 : (p : Int) / 72057594037927936 % 256 = (B : Int) := by rw [hB]; simp
                      have hB3 : (p : Int) / 72057594037927936 = (B : Int) := by omega
                      have hQ2 : (8 : Int) * (k : Int) + 7 = (Q : Int) := by omega
                      clear hB
                      go_wp2
                      go_ret3
                      exact HFin.out
              · obtain rfl : j = 8 := by omega
                have hpm : p < 256 ^ m := below_of_noughts hm8 hp HN.out
                have hnx := HOk.out hpm
                have HNx := Lib.hid hnx
                have HI2 : Hid (wi.ownsRow w1.heap.size 5 1 (.slice (some ⟨w1.heap.size, 0, none⟩) len len) len (u8s (padded (o ++ bytesN p m) len))) := Lib.hid (by have h0 := HI.out; rwa [show min 8 m = m by omega] at h0)
                clear hnx hpm HI HN
                go_wp2
                go_roundw
                case rel => exact ⟨k + 1, n + 1, o ++ bytesN p m, by omega, by go_num, by go_num, by omega, HNx, HI2, HJ⟩
                case measure => first | (simp [intOf]; done) | (simp [intOf]; omega)
          · have t12 : ((h : Int) == 1) = false := by simp; omega
            clear c1
            go_wp2_with fail
            go_loopw [14] (fun i wr => ∃ j : Nat, j ≤ 8 ∧ i = .int .i64 (j : Int) ∧ Hid (wr.ownsRow w1.heap.size 5 1 (.slice (some ⟨w1.heap.size, 0, none⟩) len len) len (u8s (padded (o ++ bytesN p (min j m)) len))) ∧ Hid (Below w1.heap.size w1 wr) ∧ Hid (∀ t, m ≤ t → t < j → byteN p t = 0)) (fun i _ => 8 - (intOf i).toNat)
            case atStart => exact ⟨0, by omega, rfl, HSt, HB3, Lib.hid (fun t _ h => by omega)⟩
            case round =>
              obtain ⟨j, hj, rfl, HI, HJ, HN⟩ := hrel
              obtain ⟨wi, rfl⟩ : ∃ wi : World, wi = wr := ⟨_, rfl⟩
              by_cases hj8 : j < 8
              · have t20 : (j : Int) < 8 := by omega
                by_cases hin : 8 * k + j < len
                · have hjm : j < m := by omega
                  have t21 : (8 : Int) * (k : Int) + (j : Int) < (len : Int) := by omega
                  have hB := byteN_int p j
                  obtain ⟨B, hBe⟩ : ∃ B, B = byteN p j := ⟨_, rfl⟩
                  have hB8 : B < 256 := by rw [hBe]; exact byteN_lt p j
                  rw [← hBe] at hB
                  obtain ⟨Q, hQ⟩ : ∃ Q, Q = 8 * k + j := ⟨_, rfl⟩
                  have hst := HI.out.stored Q (.int .u8 (B : Int))
                  have hfr := HI.out.frozenAt Q
                  have hol2 : o.length = 8 * k := by omega
                  have hlj : (o ++ bytesN p (min j m)).length = Q := by rw [List.length_append, bytesN_len]; omega
                  have hcell : wi.cell? ⟨w1.heap.size, Q, none⟩ = some (.int .u8 ((0 : Nat) : Int)) := by
                    rw [HI.out.cellAt Q (by omega)]
                    rw [← hlj]
                    exact padded_at _ len (by omega)
                  have hset : (padded (o ++ bytesN p (min j m)) len).set Q B = padded (o ++ bytesN p (min (j + 1) m)) len := by
                    rw [← hlj, padded_set _ _ _ (by omega), List.append_assoc, show min j m = j by omega, show min (j + 1) m = j + 1 by omega, hBe]
                    congr 2
                    unfold bytesN
                    rw [List.range_succ, List.map_append]
                    rfl
                  rw [u8s_set, hset] at hst
                  have HSt2 := Lib.hid hst.1
                  have HN2 : Hid (∀ t, m ≤ t → t < j + 1 → byteN p t = 0) := Lib.hid (fun t a b => by omega)
                  have HBS := Lib.hid (HJ.out.setCell (p := ⟨w1.heap.size, Q, none⟩) (Nat.le_refl _) (.int .u8 (B : Int)))
                  have hQi : (8 : Int) * (k : Int) + (j : Int) = (Q : Int) := by omega
                  have t23 : (Q : Int) < (len : Int) := by omega
                  have t24 : (0 : Int) ≤ (Q : Int) := by omega
                  clear hst hset hBe hlj HI HJ HN hol2 hQ
                  have hjs : j = 0 ∨ j = 1 ∨ j = 2 ∨ j = 3 ∨ j = 4 ∨ j = 5 ∨ j = 6 ∨ j = 7 := by omega
                  rcases hjs with rfl | rfl | rfl | rfl | rfl | rfl | rfl | rfl
                  · have hB2 : (p : Int) % 256 = (B : Int) := by rw [hB]; simp
                    have hQ2 : (8 : Int) * (k : Int) = (Q : Int) := by omega
                    clear hB
                    go_wp2
                    go_roundw
                    case rel => exact ⟨1, by omega, rfl, HSt2, HBS, HN2⟩
                    case measure => first | (simp [intOf]; done) | (simp [intOf]; omega)
                  · have hB2 : (p : Int) / 256 % 256 = (B : Int) := by rw [hB]; simp
                    have hQ2 : (8 : Int) * (k : Int) + 1 = (Q : Int) := by omega
                    clear hB
                    go_wp2
                    go_roundw
                    case rel => exact ⟨2, by omega, rfl, HSt2, HBS, HN2⟩
                    case measure => first | (simp [intOf]; done) | (simp [intOf]; omega)
                  · have hB2 : (p : Int) / 65536 % 256 = (B : Int) := by rw [hB]; simp
                    have hQ2 : (8 : Int) * (k : Int) + 2 = (Q : Int) := by omega
                    clear hB
                    go_wp2
                    go_roundw
                    case rel => exact ⟨3, by omega, rfl, HSt2, HBS, HN2⟩
                    case measure => first | (simp [intOf]; done) | (simp [intOf]; omega)
                  · have hB2 : (p : Int) / 16777216 % 256 = (B : Int) := by rw [hB]; simp
                    have hQ2 : (8 : Int) * (k : Int) + 3 = (Q : Int) := by omega
                    clear hB
                    go_wp2
                    go_roundw
                    case rel => exact ⟨4, by omega, rfl, HSt2, HBS, HN2⟩
                    case measure => first | (simp [intOf]; done) | (simp [intOf]; omega)
                  · have hB2 : (p : Int) / 4294967296 % 256 = (B : Int) := by rw [hB]; simp
                    have hQ2 : (8 : Int) * (k : Int) + 4 = (Q : Int) := by omega
                    clear hB
                    go_wp2
                    go_roundw
                    case rel => exact ⟨5, by omega, rfl, HSt2, HBS, HN2⟩
                    case measure => first | (simp [intOf]; done) | (simp [intOf]; omega)
                  · have hB2 : (p : Int) / 1099511627776 % 256 = (B : Int) := by rw [hB]; simp
                    have hQ2 : (8 : Int) * (k : Int) + 5 = (Q : Int) := by omega
                    clear hB
                    go_wp2
                    go_roundw
                    case rel => exact ⟨6, by omega, rfl, HSt2, HBS, HN2⟩
                    case measure => first | (simp [intOf]; done) | (simp [intOf]; omega)
                  · have hB2 : (p : Int) / 281474976710656 % 256 = (B : Int) := by rw [hB]; simp
                    have hQ2 : (8 : Int) * (k : Int) + 6 = (Q : Int) := by omega
                    clear hB
                    go_wp2
                    go_roundw
                    case rel => exact ⟨7, by omega, rfl, HSt2, HBS, HN2⟩
                    case measure => first | (simp [intOf]; done) | (simp [intOf]; omega)
                  · have hB2 : (p : Int) / 72057594037927936 % 256 = (B : Int) := by rw [hB]; simp
                    have hB3 : (p : Int) / 72057594037927936 = (B : Int) := by omega
                    have hQ2 : (8 : Int) * (k : Int) + 7 = (Q : Int) := by omega
                    clear hB
                    go_wp2
                    go_roundw
                    case rel => exact ⟨8, by omega, rfl, HSt2, HBS, HN2⟩
                    case measure => first | (simp [intOf]; done) | (simp [intOf]; omega)
                · have hB := byteN_int p j
                  obtain ⟨B, hBe⟩ : ∃ B, B = byteN p j := ⟨_, rfl⟩
                  have hB8 : B < 256 := by rw [hBe]; exact byteN_lt p j
                  rw [← hBe] at hB
                  obtain ⟨Q, hQ⟩ : ∃ Q, Q = 8 * k + j := ⟨_, rfl⟩
                  have hQi : (8 : Int) * (k : Int) + (j : Int) = (Q : Int) := by omega
                  have t23 : ¬ ((Q : Int) < (len : Int)) := by omega
                  have t24 : (0 : Int) ≤ (Q : Int) := by omega
                  have t25 : (Q : Int) ≤ 200000 := by omega
                  have hmj : m ≤ j := by omega
                  have hjs : j = 0 ∨ j = 1 ∨ j = 2 ∨ j = 3 ∨ j = 4 ∨ j = 5 ∨ j = 6 ∨ j = 7 := by omega
                  by_cases hz : B = 0
                  · have HSt2 : Hid (wi.ownsRow w1.heap.size 5 1 (.slice (some ⟨w1.heap.size, 0, none⟩) len len) len (u8s (padded (o ++ bytesN p (min (j + 1) m)) len))) := Lib.hid (by rw [show min (j + 1) m = min j m by omega]; exact HI.out)
                    have HN2 : Hid (∀ t, m ≤ t → t < j + 1 → byteN p t = 0) := Lib.hid (fun t a b => by
                      by_cases e : t = j
                      · rw [e, ← hBe, hz]
                      · exact HN.out t a (by omega))
                    have hb0 : ((B : Int) == 0) = true := by simp [hz]
                    clear hBe HI HN hQ hz
                    rcases hjs with rfl | rfl | rfl | rfl | rfl | rfl | rfl | rfl
                    · exfalso; omega
                    · have hB2 : (p : Int) / 256 % 256 = (B : Int) := by rw [hB]; simp
                      have hQ2 : (8 : Int) * (k : Int) + 1 = (Q : Int) := by omega
                      clear hB
                      go_wp2
                      go_roundw
                      case rel => exact ⟨2, by omega, rfl, HSt2, HJ, HN2⟩
                      case measure => first | (simp [intOf]; done) | (simp [intOf]; omega)
                    · have hB2 : (p : Int) / 65536 % 256 = (B : Int) := by rw [hB]; simp
                      have hQ2 : (8 : Int) * (k : Int) + 2 = (Q : Int) := by omega
                      clear hB
                      go_wp2
                      go_roundw
                      case rel => exact ⟨3, by omega, rfl, HSt2, HJ, HN2⟩
                      case measure => first | (simp [intOf]; done) | (simp [intOf]; omega)
                    · have hB2 : (p : Int) / 16777216 % 256 = (B : Int) := by rw [hB]; simp
                      have hQ2 : (8 : Int) * (k : Int) + 3 = (Q : Int) := by omega
                      clear hB
                      go_wp2
                      go_roundw
                      case rel => exact ⟨4, by omega, rfl, HSt2, HJ, HN2⟩
                      case measure => first | (simp [intOf]; done) | (simp [intOf]; omega)
                    · have hB2 : (p : Int) / 4294967296 % 256 = (B : Int) := by rw [hB]; simp
                      have hQ2 : (8 : Int) * (k : Int) + 4 = (Q : Int) := by omega
                      clear hB
                      go_wp2
                      go_roundw
                      case rel => exact ⟨5, by omega, rfl, HSt2, HJ, HN2⟩
                      case measure => first | (simp [intOf]; done) | (simp [intOf]; omega)
                    · have hB2 : (p : Int) / 1099511627776 % 256 = (B : Int) := by rw [hB]; simp
                      have hQ2 : (8 : Int) * (k : Int) + 5 = (Q : Int) := by omega
                      clear hB
                      go_wp2
                      go_roundw
                      case rel => exact ⟨6, by omega, rfl, HSt2, HJ, HN2⟩
                      case measure => first | (simp [intOf]; done) | (simp [intOf]; omega)
                    · have hB2 : (p : Int) / 281474976710656 % 256 = (B : Int) := by rw [hB]; simp
                      have hQ2 : (8 : Int) * (k : Int) + 6 = (Q : Int) := by omega
                      clear hB
                      go_wp2
                      go_roundw
                      case rel => exact ⟨7, by omega, rfl, HSt2, HJ, HN2⟩
                      case measure => first | (simp [intOf]; done) | (simp [intOf]; omega)
                    · have hB2 : (p : Int) / 72057594037927936 % 256 = (B : Int) := by rw [hB]; simp
                      have hB3 : (p : Int) / 72057594037927936 = (B : Int) := by omega
                      have hQ2 : (8 : Int) * (k : Int) + 7 = (Q : Int) := by omega
                      clear hB
                      go_wp2
                      go_roundw
                      case rel => exact ⟨8, by omega, rfl, HSt2, HJ, HN2⟩
                      case measure => first | (simp [intOf]; done) | (simp [intOf]; omega)
                  · have hbig : ¬ p < 256 ^ m := by
                      intro hp2
                      have h1 : 256 ^ m ≤ 256 ^ j := Nat.pow_le_pow_right (by omega) hmj
                      refine hz ?_
                      rw [hBe]
                      unfold byteN
                      rw [Nat.div_eq_of_lt (Nat.lt_of_lt_of_le hp2 h1)]
                    have HFin := Lib.hid (HFail.out (mendOne_big HEm.out hbig) _ HJ.out)
                    have hb0 : ((B : Int) == 0) = false := by simp; omega
                    clear hBe HI HN hQ hbig
                    rcases hjs with rfl | rfl | rfl | rfl | rfl | rfl | rfl | rfl
                    · exfalso; omega
                    · have hB2 : (p : Int) / 256 % 256 = (B : Int) := by rw [hB]; simp
                      have hQ2 : (8 : Int) * (k : Int) + 1 = (Q : Int) := by omega
                      clear hB
                      go_wp2
                      go_ret3
                      exact HFin.out
                    · have hB2 : (p : Int) / 65536 % 256 = (B : Int) := by rw [hB]; simp
                      have hQ2 : (8 : Int) * (k : Int) + 2 = (Q : Int) := by omega
                      clear hB
                      go_wp2
                      go_ret3
                      exact HFin.out
                    · have hB2 : (p : Int) / 16777216 % 256 = (B : Int) := by rw [hB]; simp
                      have hQ2 : (8 : Int) * (k : Int) + 3 = (Q : Int) := by omega
                      clear hB
                      go_wp2
                      go_ret3
                      exact HFin.out
                    · have hB2 : (p : Int) / 4294967296 % 256 = (B : Int) := by rw [hB]; simp
                      have hQ2 : (8 : Int) * (k : Int) + 4 = (Q : Int) := by omega
                      clear hB
                      go_wp2
                      go_ret3
                      exact HFin.out
                    · have hB2 : (p : Int) / 1099511627776 % 256 = (B : Int) := by rw [hB]; simp
                      have hQ2 : (8 : Int) * (k : Int) + 5 = (Q : Int) := by omega
                      clear hB
                      go_wp2
                      go_ret3
                      exact HFin.out
                    · have hB2 : (p : Int) / 281474976710656 % 256 = (B : Int) := by rw [hB]; simp
                      have hQ2 : (8 : Int) * (k : Int) + 6 = (Q : Int) := by omega
                      clear hB
                      go_wp2
                      go_ret3
                      exact HFin.out
                    · have hB2 : (p : Int) / 72057594037927936 % 256 = (B : Int) := by rw [hB]; simp
                      have hB3 : (p : Int) / 72057594037927936 = (B : Int) := by omega
                      have hQ2 : (8 : Int) * (k : Int) + 7 = (Q : Int) := by omega
                      clear hB
                      go_wp2
                      go_ret3
                      exact HFin.out
              · obtain rfl : j = 8 := by omega
                have hpm : p < 256 ^ m := below_of_noughts hm8 hp HN.out
                have hnx := HOk.out hpm
                have HNx := Lib.hid hnx
                have HI2 : Hid (wi.ownsRow w1.heap.size 5 1 (.slice (some ⟨w1.heap.size, 0, none⟩) len len) len (u8s (padded (o ++ bytesN p m) len))) := Lib.hid (by have h0 := HI.out; rwa [show min 8 m = m by omega] at h0)
                clear hnx hpm HI HN
                go_wp2
                go_roundw
                case rel => exact ⟨k + 1, n + 0, o ++ bytesN p m, by omega, by go_num, by go_num, by omega, HNx, HI2, HJ⟩
                case measure => first | (simp [intOf]; done) | (simp [intOf]; omega)
      · obtain rfl : k = cl := by omega
        have hol := (mendTo_len k o n HM.out).1
        have hfin : POST (.returned (.tuple #[.slice (some ⟨w1.heap.size, 0, none⟩) len len, .int .i64 (n : Int), .bool true])) wo := by
          rw [HPOST.out]
          have hbb : Below w.heap.size w wo := HB1.out.trans (HB.out.mono (by omega))
          refine ⟨?_, hbb⟩
          rw [HAll.out, HM.out]
          have h0 := HO.out
          rw [padded_full o len (by omega)] at h0
          exact ⟨_, rfl, (FreshB.of_own h0 (mendTo_len k o n HM.out).2.2).mono (by omega)⟩
        have HFin := Lib.hid hfin
        obtain ⟨q, hq⟩ : ∃ q, q = 8 * k := ⟨_, rfl⟩
        have hqi : (8 : Int) * (k : Int) = (q : Int) := by omega
        have hend : ¬ ((q : Int) < (len : Int)) := by omega
        have hqb : (q : Int) ≤ 200000 := by omega
        have hqa : (0 : Int) ≤ (q : Int) := by omega
        clear hfin hcl1 hcl2 hlt hq hol
        go_wp2
        go_ret3
        exact HFin.out
  · have t1 : ((cl : Int) == ((len : Int) + 7) / 8) = false := by simp; omega
    have hfin : ∀ wz, Below w.heap.size w wz → POST (.returned (.tuple #[.slice none 0 0, .int .i64 0, .bool false])) wz := by
      intro wz hz
      rw [HPOST.out]
      refine ⟨?_, hz⟩
      unfold mendAllS
      rw [hcc, hll, if_neg hlen]
      rfl
    have HFin := Lib.hid hfin
    clear hfin hlen
    go_enter Tryd.func11, Tryd.ntmps11
    go_wp2_with fail
    refine (rcolumns_any _).mono ?_
    rintro e w1 ⟨⟨v, he, hC⟩, hb⟩
    obtain ⟨ca, ccap, hv, hC2⟩ := hC.cols
    rw [hv] at he
    subst he
    have HB1 := Lib.hid hb
    clear hC hv hC2 hb
    go_wp2_with fail
    go_ret3
    exact HFin.out _ HB1.out

end Go.Proofs.YtfefjabdfelhnaaDoor
