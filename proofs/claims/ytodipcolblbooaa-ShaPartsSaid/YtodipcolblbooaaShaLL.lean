/- sha: ShaParts: the walk. -/
import Derived.Test.YtodipcolblbooaaShaKK
import Derived.Deep.CutBlock
import Derived.Deep.DeepCutAuto
namespace Go.Proofs.Ytodipcolblbooaa
open Go Go.RowKit
set_option linter.unusedVariables false

/-- How often the loop goes on at most. -/
def leftP (n3 len : Nat) (p i : Value) : Nat := (n3 - (intOf i).toNat) + min 1 (len - (intOf p).toNat)
/-- The parts so far. -/
def PartsOk (ls : List (List Nat)) (j : Nat) (L : List Nat) : Prop := flatTo ls j = L ∧ ls.length = j ∧ (∀ x ∈ ls, ∀ c ∈ x, c < 256) ∧ ∀ x ∈ ls, x.length ≤ 4096
theorem PartsOk.snoc {ls : List (List Nat)} {j : Nat} {L x : List Nat} (h : PartsOk ls j L) (h8 : ∀ c ∈ x, c < 256) (hl : x.length ≤ 4096) : PartsOk (ls ++ [x]) (j + 1) (L ++ x) := by
  obtain ⟨h1, h2, h3, h4⟩ := h
  refine ⟨?_, by simp [h2], ?_, ?_⟩
  · rw [flatTo_step (x := x) (by rw [List.getElem?_append_right (by omega), h2]; simp)]
    have : flatTo (ls ++ [x]) j = flatTo ls j := by unfold flatTo; rw [List.take_append_of_le_length (by omega)]
    rw [this, h1]
  · intro y hy
    rcases List.mem_append.1 hy with q | q
    · exact h3 y q
    · simp at q; subst q; exact h8
  · intro y hy
    rcases List.mem_append.1 hy with q | q
    · exact h4 y q
    · simp at q; subst q; exact hl
theorem take_part (b : List Nat) (q m : Nat) : b.take q ++ (b.drop q).take m = b.take (q + m) := by rw [List.take_add]

set_option maxRecDepth 100000 in
set_option maxHeartbeats 4000000 in
theorem shaparts_go (a : Option Addr) (len cap : Nat) (key : List Nat) (a2 : Option Addr) (len2 cap2 : Nat) (b : List Nat) (a3 : Option Addr) (n3 cap3 : Nat) (zs : List Int) (w : World) (hi : Bytes w a len key) (hnil : a = none → cap = 0) (hlc : len ≤ cap) (hcm : cap ≤ maxLen) (hi2 : Bytes w a2 len2 b) (hnil2 : a2 = none → cap2 = 0) (hlc2 : len2 ≤ cap2) (hcm2 : cap2 ≤ maxLen) (hz : Ints .i64 w a3 n3 zs) (hzw : ∀ x ∈ zs, (Lit.int .i64 x).wf = true) (h1 : len ≤ 300) (h2 : len2 ≤ 4096) (h3 : n3 ≤ 60) :
    Calls Try.prog 5 #[.slice a len cap, .slice a2 len2 cap2, .slice a3 n3 cap3] w fun e w' => e = .returned (.bool true) ∧ Below w.heap.size w w' := by
  have HI := Lib.hid hi
  have HNil := Lib.hid hnil
  have HCm := Lib.hid hcm
  have HI2 := Lib.hid hi2
  have HNil2 := Lib.hid hnil2
  have HCm2 := Lib.hid hcm2
  have HZ := Lib.hid hz
  have HZw := Lib.hid hzw
  have HK := Lib.hid (kOf_ok hi.2.1)
  have HB8 := Lib.hid hi2.2.1
  have HBl := Lib.hid hi2.1
  have t1 : ¬ (300 < (len : Int)) := by omega
  have t2 : ¬ (4096 < (len2 : Int)) := by omega
  have t3 : ¬ (60 < (n3 : Int)) := by omega
  unfold maxLen at hcm hcm2
  clear hi hnil hi2 hnil2 hz hzw
  go_enter Try.func5, Try.ntmps5
  go_wp2_with fail
  refine (sknown_any _).mono ?_
  rintro e w1 ⟨rfl, hb1⟩
  have HB1 := Lib.hid hb1
  clear hb1
  go_wp2_with fail
  refine (snew_any w1).mono ?_
  rintro e w3 ⟨rfl, hD3, hb3⟩
  have HB3 : Hid (Below w.heap.size w w3) := Lib.hid (HB1.out.trans (hb3.mono HB1.out.size))
  have HD3 := Lib.hid hD3
  obtain ⟨g1, hg1⟩ : ∃ g1, g1 = w1.heap.size := ⟨_, rfl⟩
  rw [← hg1] at HD3 ⊢
  have HG1 : Hid (w.heap.size ≤ g1) := Lib.hid (by rw [hg1]; exact HB1.out.size)
  clear hD3 hb3 hg1 HB1
  go_wp2_with fail
  refine (keyed_any a len cap key w3 (HI.out.below HB3.out (Nat.le_refl _)) HNil.out hlc HCm.out (by omega)).mono ?_
  rintro e w4 ⟨rfl, hD4, hb4⟩
  obtain ⟨g2, hg2⟩ : ∃ g2, g2 = w3.heap.size := ⟨_, rfl⟩
  rw [← hg2] at hD4 ⊢
  have HS4 : Hid (PartsS w w4 g1 g2 key (b.take 0) (b.take 0) (.slice none 0 0) []) := Lib.hid (parts_start HD3.out HG1.out HB3.out (by omega) hD4 hb4)
  have HO4 : Hid (PartsOk [] 0 (b.take 0)) := Lib.hid ⟨rfl, rfl, by simp, by simp⟩
  clear hD4 hb4 hg2 HD3 HB3 HG1 t1 t2 t3
  go_wp2_with fail
  go_loopw [7, 10, 11] (fun p at_ i wr => ∃ (q j : Nat) (v : Value) (ls : List (List Nat)), q ≤ len2 ∧ j ≤ n3 + 1 ∧ (q < len2 → j ≤ n3) ∧ at_ = .int .i64 (q : Int) ∧ i = .int .i64 (j : Int) ∧ p = v ∧ Hid (PartsOk ls j (b.take q)) ∧ Hid (PartsS w wr g1 g2 key (b.take q) (b.take q) v ls)) (fun _ at_ i _ => leftP n3 len2 at_ i)
  case atStart => exact ⟨0, 0, _, [], by omega, by omega, by omega, rfl, rfl, rfl, HO4, HS4⟩
  case round =>
    clear HO4 HS4
    obtain ⟨q, j, v, ls, hq, hj, hqj, rfl, rfl, rfl, HO, HS⟩ := hrel
    obtain ⟨wo, rfl⟩ : ∃ wo : World, wo = wr := ⟨_, rfl⟩
    obtain ⟨a7, cp7, hv7⟩ := HS.out.2.2.2.2.2.1.form
    rw [HO.out.2.1] at hv7
    subst hv7
    by_cases hlt : q < len2
    · have hjn := hqj hlt
      obtain ⟨bb, offb, rfl, _, _⟩ := HI2.out.2.2 (by omega)
      obtain ⟨N, hN⟩ : ∃ N, N = len2 - q := ⟨_, rfl⟩
      have t1 : (q : Int) < (len2 : Int) := by omega
      have t2 : (len2 : Int) - (q : Int) = (N : Int) := by omega
      have hN1 : 1 ≤ N := by omega
      have hN2 : N ≤ 4096 := by omega
      have HN := Lib.hid hN
      clear hN hqj
      go_upto_if 50 with fail
      go_cut [12] (fun v wx => ∃ m : Nat, v = .int .i64 (m : Int) ∧ m ≤ N ∧ (n3 ≤ j → m = N) ∧ Hid (PartsS w wx g1 g2 key (b.take q) (b.take q) (.slice a7 j cp7) ls))
      case first =>
        by_cases hjl : j < n3
        · have t3 : (j : Int) < (n3 : Int) := by omega
          have t3' : (0 : Int) ≤ (j : Int) := by omega
          obtain ⟨gz, offz, rfl, hgz, hcz⟩ := HZ.out.2 (by omega)
          have hcl := hcz j hjl
          rw [← HS.out.2.2.2.2.2.2.cell (p := ⟨gz, offz + j, none⟩) hgz] at hcl
          have hzb : I64 (zs.getD j 0) := by
            have hm : zs.getD j 0 ∈ zs := by simp [List.getD, show j < zs.length by rw [HZ.out.1]; exact hjl]
            exact i64_of_wf (HZw.out _ hm)
          obtain ⟨z, hz⟩ : ∃ z, z = zs.getD j 0 := ⟨_, rfl⟩
          rw [← hz] at hcl hzb
          have H3 : (∃ c : Nat, c ≤ N ∧ 0 ≤ z ∧ z % ((N : Int) + 1) = (c : Int)) ∨ (∃ c : Nat, c ≤ N ∧ z < 0 ∧ 0 < c ∧ z.tmod ((N : Int) + 1) = -(c : Int)) ∨ (z < 0 ∧ z.tmod ((N : Int) + 1) = 0) := by
            have hlt := Int.emod_lt_of_pos z (show 0 < (N : Int) + 1 by omega)
            have hge := Int.emod_nonneg z (show (N : Int) + 1 ≠ 0 by omega)
            have hlt2 := Int.emod_lt_of_pos (-z) (show 0 < (N : Int) + 1 by omega)
            have hge2 := Int.emod_nonneg (-z) (show (N : Int) + 1 ≠ 0 by omega)
            by_cases hat : 0 ≤ z
            · exact .inl ⟨(z % ((N : Int) + 1)).toNat, by omega, hat, by omega⟩
            · have e : z.tmod ((N : Int) + 1) = -((-z) % ((N : Int) + 1)) := by
                rw [← Int.tmod_eq_emod_of_nonneg (show 0 ≤ -z by omega), Int.neg_tmod, Int.neg_neg]
              by_cases h0 : (-z) % ((N : Int) + 1) = 0
              · exact .inr (.inr ⟨by omega, by rw [e, h0]; rfl⟩)
              · exact .inr (.inl ⟨((-z) % ((N : Int) + 1)).toNat, by omega, by omega, by omega, by rw [e]; omega⟩)
          unfold I64 at hzb
          clear hz hcz hgz
          rcases H3 with ⟨c, hc, hz0, hq⟩ | ⟨c, hc, hz0, hc0, hq⟩ | ⟨hz0, hq⟩
          · go_wp2
            go_meet
            case rel => exact ⟨c, by go_num, hc, by omega, HS⟩
          · go_wp2
            go_meet
            case rel => exact ⟨c, by go_num, hc, by omega, HS⟩
          · go_wp2
            go_meet
            case rel => exact ⟨0, by go_num, by omega, by omega, HS⟩
        · have t3 : ¬ ((j : Int) < (n3 : Int)) := by omega
          go_wp2
          go_meet
          case rel => exact ⟨N, rfl, by omega, fun _ => rfl, HS⟩
      case rest =>
        obtain ⟨m, rfl, hm, hmN, HSc⟩ := hcut
        obtain ⟨wp, rfl⟩ : ∃ wp : World, wp = wc := ⟨_, rfl⟩
        clear HS
        obtain ⟨x, hx⟩ : ∃ x, x = (b.drop q).take m := ⟨_, rfl⟩
        obtain ⟨e, he⟩ : ∃ e, e = q + m := ⟨_, rfl⟩
        have hNe := HN.out
        have hxl : x.length = m := by rw [hx, List.length_take, List.length_drop, HBl.out]; omega
        have hxe : b.take q ++ x = b.take e := by rw [hx, he, take_part]
        have hx8 : ∀ c ∈ x, c < 256 := fun c hc => HB8.out c (by rw [hx] at hc; exact List.mem_of_mem_drop (List.mem_of_mem_take hc))
        have hyx : Bytes w (some ⟨bb, offb + q, none⟩) m x := by
          have := (HI2.out.dropAt q (by omega)).take (n := m) (by omega)
          rw [← hx] at this
          exact this
        have t3 : (q : Int) + (m : Int) = (e : Int) := by omega
        have t4 : IntKind.i64.wrap (e : Int) = (e : Int) := wrapS _ (by omega) (by omega)
        have t5 : e ≤ cap2 := by omega
        have t6 : q ≤ e := by omega
        have t7 : ¬ (cap2 = q) := by omega
        have t8 : e - q = m := by omega
        have t9 : (0 : Int) ≤ (q : Int) ∧ (q : Int) ≤ (e : Int) ∧ (e : Int) ≤ (cap2 : Int) := by omega
        have HX := Lib.hid hyx
        have HX8 := Lib.hid hx8
        have HXe := Lib.hid hxe
        have HXl := Lib.hid hxl
        have HE := Lib.hid he
        clear hx hxl hxe hx8 hyx hNe he
        go_wp2_with (at_builtin; refine Stop.mk ?_)
        refine Stop.go ?_
        have hba : Below wp.heap.size wp (wp.alloc (.cells #[.slice (some ⟨bb, offb + q, none⟩) m (cap2 - q)] 22)) := (Below.refl _ _).alloc (Nat.le_refl _) _
        have hSa := HSc.out.later hba
        have hcx : (wp.alloc (.cells #[.slice (some ⟨bb, offb + q, none⟩) m (cap2 - q)] 22)).cell? ⟨wp.heap.size, 0, none⟩ = some (.slice (some ⟨bb, offb + q, none⟩) x.length (cap2 - q)) := by
          rw [HXl.out]
          exact HasB.at (HasB.new wp _ _) 0
        have HSa := Lib.hid hSa
        have HCx := Lib.hid hcx
        clear hba hSa hcx
        refine wpList_app_parts rfl _ _ 23 22 rfl Try.underlying23 (by kernel_rfl) w (.slice a7 j cp7) ls rfl HSa.out.2.2.2.2.2.1 wp.heap.size rfl x (some ⟨bb, offb + q, none⟩) (cap2 - q) HCx.out (by rw [HXl.out]; exact HX.out) (by simp) (by rw [HXl.out]; omega) (by have := HCm2.out; omega) (by have := HO.out.2.1; omega) HSa.out.2.2.2.2.2.2.size ?_
        intro v5 w5 hp5 hgrow5
        have HS5 := Lib.hid (HSa.out.app hp5 hgrow5)
        obtain ⟨a8, cp8, hv8⟩ := hp5.form
        have hl8 : (ls ++ [x]).length = j + 1 := by simp [HO.out.2.1]
        rw [hl8] at hv8
        subst hv8
        have HO5 : Hid (PartsOk (ls ++ [x]) (j + 1) (b.take e)) := Lib.hid (by rw [← HXe.out]; exact HO.out.snoc HX8.out (by rw [HXl.out]; omega))
        have HBlk : Hid (∀ g', w.heap.size ≤ g' → 0 < m → ∀ ad, (some ⟨bb, offb + q, none⟩ : Option Addr) = some ad → ad.block ≠ g') := Lib.hid (fun g' hg h0 ad hea => by
          obtain ⟨bb', oo, he2, hlt2, _⟩ := HX.out.2.2 h0
          cases he2
          cases hea
          show bb ≠ g'
          omega)
        have HT8 : Hid (∀ c ∈ b.take q, c < 256) := Lib.hid (fun c hc => HB8.out c (List.mem_of_mem_take hc))
        have HTl : Hid ((b.take q).length ≤ 4096) := Lib.hid (by rw [List.length_take]; omega)
        clear hp5 hgrow5 hl8 HSa HCx HSc
        go_wp2_with fail
        refine (swrite_any g1 g1 false zeros64 (b.take q) (some ⟨bb, offb + q, none⟩) m (cap2 - q) x w5 HS5.out.1 (Nat.le_refl _) (Nat.le_of_lt HS5.out.1.lt) HT8.out (HX.out.below HS5.out.2.2.2.2.2.2 (Nat.le_refl _)) (by simp) (HBlk.out g1 HS5.out.2.2.2.2.1) (by omega) (by have := HTl.out; omega)).mono ?_
        rintro e6 w6 ⟨rfl, hD6, hb6, hk6, hr6⟩
        rw [HXe.out] at hD6
        have HS6 := Lib.hid (HS5.out.one hD6 hb6 hk6 hr6)
        have hP8 : ∀ c ∈ preS true (kOf key) ++ b.take q, c < 256 := by
          intro c hc
          rcases List.mem_append.1 hc with q' | q'
          · exact preS_lt HK.out.2 c q'
          · exact HT8.out c q'
        have hPl : (preS true (kOf key) ++ b.take q).length ≤ 100000000 := by
          have := preS_len true (kOf key)
          rw [HK.out.1] at this
          have := HTl.out
          rw [List.length_append]; omega
        have HP8 := Lib.hid hP8
        have HPl := Lib.hid hPl
        clear hD6 hb6 hk6 hr6 hP8 hPl HS5
        go_wp2_with fail
        refine (swrite_any g2 g2 true (kOf key) (preS true (kOf key) ++ b.take q) (some ⟨bb, offb + q, none⟩) m (cap2 - q) x w6 HS6.out.2.1 (Nat.le_refl _) (Nat.le_of_lt HS6.out.2.1.lt) HP8.out (HX.out.below HS6.out.2.2.2.2.2.2 (Nat.le_refl _)) (by simp) (HBlk.out g2 (by have := HS6.out.2.2.2.2.1; have := HS6.out.2.2.2.1; omega)) (by omega) HPl.out).mono ?_
        rintro e7 w7 ⟨rfl, hD7, hb7, hk7, hr7⟩
        rw [List.append_assoc, HXe.out] at hD7
        have HS7 := Lib.hid (HS6.out.two hD7 hb7 hk7 hr7)
        have HJ : Hid (e < len2 → j + 1 ≤ n3) := Lib.hid (fun hlt2 => by
          have := HE.out
          by_cases hj3 : n3 ≤ j
          · have := hmN hj3; omega
          · omega)
        have HME : Hid (leftP n3 len2 (.int .i64 (e : Int)) (.int .i64 ((j : Int) + 1)) < leftP n3 len2 (.int .i64 (q : Int)) (.int .i64 (j : Int))) := Lib.hid (by
          have h8 := HJ.out
          have h9 := HE.out
          have e1 : ((j : Int) + 1).toNat = j + 1 := by omega
          simp only [leftP, intOf, Int.toNat_natCast, e1]
          by_cases hl2 : e < len2
          · have := h8 hl2; omega
          · omega)
        clear hD7 hb7 hk7 hr7 HS6
        go_wp2_with fail
        go_roundw
        case rel => exact ⟨e, j + 1, _, ls ++ [x], by have := HE.out; omega, by omega, HJ.out, by go_num, by go_num, rfl, HO5, HS7⟩
        case measure => first | exact HME.out | simpa using HME.out
    · obtain rfl : q = len2 := by omega
      have t1 : ¬ ((q : Int) < (q : Int)) := by omega
      have htk : b.take q = b := List.take_of_length_le (by rw [HBl.out]; omega)
      rw [htk] at HO HS
      have HRow : Hid (∀ wi, Below w.heap.size w wi → RowsR (wi.alloc (.cells #[.slice a2 q cap2] 22)) (some ⟨wi.heap.size, 0, none⟩) [b]) := Lib.hid (fun wi hb => by
        have := rows_one (T := 22) (x := b) (bx := a2) (cx := cap2) (w := wi) (by rw [HBl.out]; exact HI2.out.below hb (Nat.le_refl _)) HNil2.out (by rw [HBl.out]; exact hlc2) HCm2.out
        rw [HBl.out] at this
        exact this)
      obtain ⟨Cs, hCs⟩ : ∃ Cs, Cs = (u8s (shaL b)).toArray := ⟨_, rfl⟩
      obtain ⟨Cm, hCm⟩ : ∃ Cm, Cm = (u8s (macS key b)).toArray := ⟨_, rfl⟩
      have q1 : ∀ w, (binOp .eql 28 (.agg Cs) (.agg Cs)).run Try.prog w = .ok (.bool true) w := fun w => by
        have := eql_sum (shaL_lt b) (shaL_lt b) (shaL_len b) (shaL_len b) w
        rw [← hCs] at this
        simpa using this
      have q2 : ∀ w, (binOp .eql 28 (.agg Cm) (.agg Cm)).run Try.prog w = .ok (.bool true) w := fun w => by
        have := eql_sum (macS_lt key b) (macS_lt key b) (macS_len key b) (macS_len key b) w
        rw [← hCm] at this
        simpa using this
      have HOne : Hid ((∀ x ∈ [b], ∀ c ∈ x, c < 256) ∧ (∀ x ∈ [b], x.length ≤ 100000) ∧ sumLen [b] 1 ≤ 90000000) := Lib.hid ⟨fun x hx => by simp at hx; subst hx; exact HB8.out, fun x hx => by simp at hx; subst hx; rw [HBl.out]; omega, by simp [sumLen, HBl.out]; omega⟩
      have HSl : Hid (sumLen ls j = q) := Lib.hid (by rw [← flatTo_len, HO.out.1, HBl.out])
      have HOfB : Hid (∀ wi, Below w.heap.size w wi → Calls Try.prog 8 #[.slice (some ⟨wi.heap.size, 0, none⟩) 1 1] (wi.alloc (.cells #[.slice a2 q cap2] 22)) fun e w' => e = .returned (.agg Cs) ∧ Below wi.heap.size wi w') := Lib.hid (fun wi hb => by
        refine (of_any (some ⟨wi.heap.size, 0, none⟩) 1 1 [b] _ (HRow.out wi hb) rfl HOne.out.1 HOne.out.2.1 (by have := HOne.out.2.2; omega) (by omega)).mono ?_
        rintro e w' ⟨rfl, hb'⟩
        refine ⟨by rw [hCs]; simp [flatTo], ((Below.refl _ _).alloc (Nat.le_refl _) _).trans (hb'.mono (by simp))⟩)
      have HMacB : Hid (∀ wi, Below w.heap.size w wi → Calls Try.prog 10 #[.slice a len cap, .slice (some ⟨wi.heap.size, 0, none⟩) 1 1] (wi.alloc (.cells #[.slice a2 q cap2] 22)) fun e w' => e = .returned (.agg Cm) ∧ Below wi.heap.size wi w') := Lib.hid (fun wi hb => by
        refine (mac_any a len cap key (some ⟨wi.heap.size, 0, none⟩) 1 1 [b] _ ((HI.out.below hb (Nat.le_refl _)).alloc _) HNil.out hlc HCm.out (by omega) (HRow.out wi hb) rfl HOne.out.1 HOne.out.2.1 HOne.out.2.2 (by omega)).mono ?_
        rintro e w' ⟨rfl, hb'⟩
        refine ⟨by rw [hCm]; simp [flatTo], ((Below.refl _ _).alloc (Nat.le_refl _) _).trans (hb'.mono (by simp))⟩)
      have HOfP : Hid (∀ wi, PartsS w wi g1 g2 key b b (.slice a7 j cp7) ls → Calls Try.prog 8 #[.slice a7 j cp7] wi fun e w' => e = .returned (.agg Cs) ∧ Below wi.heap.size wi w') := Lib.hid (fun wi hs => by
        refine (of_any a7 j cp7 ls wi (hs.2.2.2.2.2.1.reads hs.2.2.2.2.2.2) HO.out.2.1 HO.out.2.2.1 (fun x hx => by have := HO.out.2.2.2 x hx; omega) (by rw [HSl.out]; omega) (by omega)).mono ?_
        rintro e w' ⟨rfl, hb'⟩
        exact ⟨by rw [hCs, HO.out.1], hb'⟩)
      have HMacP : Hid (∀ wi, PartsS w wi g1 g2 key b b (.slice a7 j cp7) ls → Calls Try.prog 10 #[.slice a len cap, .slice a7 j cp7] wi fun e w' => e = .returned (.agg Cm) ∧ Below wi.heap.size wi w') := Lib.hid (fun wi hs => by
        refine (mac_any a len cap key a7 j cp7 ls wi (HI.out.below hs.2.2.2.2.2.2 (Nat.le_refl _)) HNil.out hlc HCm.out (by omega) (hs.2.2.2.2.2.1.reads hs.2.2.2.2.2.2) HO.out.2.1 HO.out.2.2.1 (fun x hx => by have := HO.out.2.2.2 x hx; omega) (by rw [HSl.out]; omega) (by omega)).mono ?_
        rintro e w' ⟨rfl, hb'⟩
        exact ⟨by rw [hCm, HO.out.1], hb'⟩)
      have HSum1 : Hid (∀ wi, PartsS w wi g1 g2 key b b (.slice a7 j cp7) ls → Calls Try.prog 16 #[.pointer (some ⟨g1, 0, none⟩)] wi fun e w' => e = .returned (.agg Cs) ∧ Below wi.heap.size wi w') := Lib.hid (fun wi hs => by
        rw [hCs]
        exact sum0_any g1 g1 zeros64 b wi hs.1 HB8.out (by rw [HBl.out]; omega))
      have HSum2 : Hid (∀ wi, PartsS w wi g1 g2 key b b (.slice a7 j cp7) ls → Calls Try.prog 16 #[.pointer (some ⟨g2, 0, none⟩)] wi fun e w' => e = .returned (.agg Cm) ∧ Below wi.heap.size wi w') := Lib.hid (fun wi hs => by
        rw [hCm]
        refine sum_any true g2 g2 (kOf key) (preS true (kOf key) ++ b) wi HK.out hs.2.1 ?_ ?_
        · intro c hc
          rcases List.mem_append.1 hc with q' | q'
          · exact preS_lt HK.out.2 c q'
          · exact HB8.out c q'
        · have := preS_len true (kOf key)
          rw [HK.out.1] at this
          rw [List.length_append, HBl.out]; omega)
      clear hCs hCm htk hq hj hqj hlt HRow HOne HSl HO HI HI2 HNil HNil2 HCm HCm2 HZ HZw HK HB8 HBl
      go_wp2_with fail
      refine (HOfP.out wo HS.out).mono ?_
      rintro e1 v1 ⟨rfl, hb⟩
      have HS1 := Lib.hid (HS.out.later hb)
      clear hb HS
      go_wp2_with fail
      refine (HOfB.out v1 HS1.out.2.2.2.2.2.2).mono ?_
      rintro e2 v2 ⟨rfl, hb⟩
      have HS2 := Lib.hid (HS1.out.later hb)
      clear hb HS1
      go_wp2_with fail
      refine (HSum1.out v2 HS2.out).mono ?_
      rintro e3 v3 ⟨rfl, hb⟩
      have HS3 := Lib.hid (HS2.out.later hb)
      clear hb HS2
      go_wp2_with fail
      refine (HOfB.out v3 HS3.out.2.2.2.2.2.2).mono ?_
      rintro e4 v4 ⟨rfl, hb⟩
      have HS4 := Lib.hid (HS3.out.later hb)
      clear hb HS3
      go_wp2_with fail
      refine (HSum2.out v4 HS4.out).mono ?_
      rintro e5 v5 ⟨rfl, hb⟩
      have HS5 := Lib.hid (HS4.out.later hb)
      clear hb HS4
      go_wp2_with fail
      refine (HMacB.out v5 HS5.out.2.2.2.2.2.2).mono ?_
      rintro e6 v6 ⟨rfl, hb⟩
      have HS6 := Lib.hid (HS5.out.later hb)
      clear hb HS5
      go_wp2_with fail
      refine (HMacP.out v6 HS6.out).mono ?_
      rintro e7 v7 ⟨rfl, hb⟩
      have HS7 := Lib.hid (HS6.out.later hb)
      clear hb HS6
      go_wp2_with fail
      refine (HMacB.out v7 HS7.out.2.2.2.2.2.2).mono ?_
      rintro e8 v8 ⟨rfl, hb⟩
      have HS8 := Lib.hid (HS7.out.later hb)
      clear hb HS7
      go_wp2_with fail
      go_ret
      exact ⟨rfl, HS8.out.2.2.2.2.2.2⟩

set_option maxRecDepth 100000 in
set_option maxHeartbeats 4000000 in
theorem shaparts_any (a : Option Addr) (len cap : Nat) (key : List Nat) (a2 : Option Addr) (len2 cap2 : Nat) (b : List Nat) (a3 : Option Addr) (n3 cap3 : Nat) (zs : List Int) (w : World) (hi : Bytes w a len key) (hnil : a = none → cap = 0) (hlc : len ≤ cap) (hcm : cap ≤ maxLen) (hi2 : Bytes w a2 len2 b) (hnil2 : a2 = none → cap2 = 0) (hlc2 : len2 ≤ cap2) (hcm2 : cap2 ≤ maxLen) (hz : Ints .i64 w a3 n3 zs) (hzw : ∀ x ∈ zs, (Lit.int .i64 x).wf = true) (hc3 : n3 ≤ maxLen) :
    Calls Try.prog 5 #[.slice a len cap, .slice a2 len2 cap2, .slice a3 n3 cap3] w fun e w' => e = .returned (.bool true) ∧ Below w.heap.size w w' := by
  by_cases h : len ≤ 300 ∧ len2 ≤ 4096 ∧ n3 ≤ 60
  · exact shaparts_go a len cap key a2 len2 cap2 b a3 n3 cap3 zs w hi hnil hlc hcm hi2 hnil2 hlc2 hcm2 hz hzw h.1 h.2.1 h.2.2
  · unfold maxLen at hcm hcm2 hc3
    have hcs : (300 < (len : Int)) ∨ (¬ 300 < (len : Int) ∧ 4096 < (len2 : Int)) ∨ (¬ 300 < (len : Int) ∧ ¬ 4096 < (len2 : Int) ∧ 60 < (n3 : Int)) := by omega
    clear hi hi2 hz hzw h
    rcases hcs with h | ⟨h, h2⟩ | ⟨h, h2, h3⟩
    all_goals
      go_enter Try.func5, Try.ntmps5
      go_wp2_with (go_at_call 6; refine (sknown_any _).mono ?_; rintro e w1 ⟨rfl, hb⟩)
      go_ret
      exact ⟨rfl, hb⟩
end Go.Proofs.Ytodipcolblbooaa
