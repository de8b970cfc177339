/- regs: the reference's Write, Next, Lasting. -/
import Derived.Test.YtjjeopanffcbiaaRegsI
namespace Go.Proofs.Ytjjeopanffcbiaa
open Go Go.RowKit
set_option linter.unusedVariables false

set_option maxRecDepth 100000 in
set_option maxHeartbeats 2000000 in
theorem qwrite_any (g : Nat) (vs : List Int) (n v : Int) (w : World) (hf : QFile w g vs) (hok : OkF vs) (h0 : 0 ≤ v) (h1 : v < 256) :
    Calls Try.prog 75 #[.pointer (some ⟨g, 0, none⟩), .int .i64 n, .int .u8 v] w fun e w' => (e = .returned (.int .i64 (writeS vs n v).1) ∧ QFile w' g (writeS vs n v).2) ∧ w.grownBy w' (some g) := by
  have HF := Lib.hid hf
  have HMay := Lib.hid (fun w => qmay_any n v h0 h1 w)
  have o1 := hok.2.1
  have o2 := (hok.1 13).1
  clear hf hok h0 h1
  cases hw : writesS n
  · have hr : writeS vs n v = (2, vs) := by unfold writeS; rw [if_pos hw]
    rw [hr]
    have hk : kindS n = 0 ∨ kindS n = 4 := by
      rcases kindS_five n with h | h | h | h | h <;> simp [writesS, h] at hw ⊢
    clear hr hw o1 o2
    rcases hk with h | h
    · have HK := Lib.hid h
      clear h
      go_enter Try.func75, Try.ntmps75
      go_wp2_with (go_at_call 132; refine (qkind_any _ _).mono ?_; rintro e w' ⟨rfl, rfl⟩; rw [HK.out])
      go_ret
      exact ⟨⟨rfl, HF.out⟩, gb_refl _ _⟩
    · have HK := Lib.hid h
      clear h
      go_enter Try.func75, Try.ntmps75
      go_wp2_with (go_at_call 132; refine (qkind_any _ _).mono ?_; rintro e w' ⟨rfl, rfl⟩; rw [HK.out])
      go_ret
      exact ⟨⟨rfl, HF.out⟩, gb_refl _ _⟩
  · have hk : kindS n = 1 ∨ kindS n = 2 ∨ kindS n = 3 := by
      rcases kindS_five n with h | h | h | h | h <;> simp [writesS, h] at hw ⊢
    cases hmay : mayS n v
    · have hr : writeS vs n v = (1, vs) := by unfold writeS; rw [if_neg (by simp [hw]), if_pos hmay]
      rw [hr]
      have HM := Lib.hid hmay
      clear hr hw hmay o1 o2
      rcases hk with h | h | h <;>
        (have HK := Lib.hid h
         clear h
         go_enter Try.func75, Try.ntmps75
         go_wp2_with (first | (go_at_call 132; refine (qkind_any _ _).mono ?_; rintro e w' ⟨rfl, rfl⟩; rw [HK.out]) | (go_at_call 128; refine (HMay.out _).mono ?_; rintro e w' ⟨rfl, rfl⟩; rw [HM.out]))
         go_ret
         exact ⟨⟨rfl, HF.out⟩, gb_refl _ _⟩)
    · have hrg := kindS_range (n := n) (by omega)
      obtain ⟨m, rfl⟩ : ∃ m : Nat, n = m := ⟨n.toNat, by omega⟩
      have hm64 : m < 64 := by omega
      have t1 : (0 : Int) ≤ (m : Int) := by omega
      have t2 : (m : Int) < 64 := by omega
      have HM := Lib.hid hmay
      have hc := HF.out.cell m hm64
      have hfr := HF.out.free m
      have hd := HF.out.cell 13 (by omega)
      obtain ⟨x, hx⟩ : ∃ x, x = vs.getD m 0 := ⟨_, rfl⟩
      obtain ⟨y, hy⟩ : ∃ y, y = vs.getD 13 0 := ⟨_, rfl⟩
      rw [← hx] at hc
      rw [← hy] at hd o1 o2
      have HSet := Lib.hid (HF.out.set m v)
      clear hrg
      have base : writeS vs m v = if kindS (m : Int) = 2 then (0, vs) else if kindS (m : Int) = 3 then (if (m : Int) = 6 ∨ (m : Int) = 13 then (if bits .andNot .u8 x v ≠ 0 then (22, vs) else (0, vs.set m v)) else if y ≠ 0 then (22, vs) else (0, vs.set m v)) else (0, vs.set m v) := by
        unfold writeS; rw [if_neg (by simp [hw]), if_neg (by simp [hmay]), Int.toNat_natCast, hx, hy]
      clear hx hy hw hmay
      by_cases h613 : (m : Int) = 6 ∨ (m : Int) = 13
      · have hk3 : kindS (m : Int) = 3 := by rcases h613 with e | e <;> rw [e] <;> rfl
        rw [if_neg (by omega), if_pos hk3, if_pos h613] at base
        have HK := Lib.hid hk3
        have hm2 : m = 6 ∨ m = 13 := by omega
        clear hk hk3 h613
        by_cases ha : bits .andNot .u8 x v ≠ 0
        · rw [if_pos ha] at base
          rw [base]
          have hb : (bits BinOp.andNot .u8 x v != 0) = true := by simpa using ha
          clear ha base
          rcases hm2 with e6 | e13
          · have b6 : ((m : Int) == 6) = true := by simp; omega
            clear hd e6
            go_enter Try.func75, Try.ntmps75
            go_wp2_with (first | (go_at_call 132; refine (qkind_any _ _).mono ?_; rintro e w' ⟨rfl, rfl⟩; rw [HK.out]) | (go_at_call 128; refine (HMay.out _).mono ?_; rintro e w' ⟨rfl, rfl⟩; rw [HM.out]))
            go_ret
            exact ⟨⟨rfl, HF.out⟩, gb_refl _ _⟩
          · have b6 : ((m : Int) == 6) = false := by simp; omega
            have b13 : ((m : Int) == 13) = true := by simp; omega
            clear hd e13
            go_enter Try.func75, Try.ntmps75
            go_wp2_with (first | (go_at_call 132; refine (qkind_any _ _).mono ?_; rintro e w' ⟨rfl, rfl⟩; rw [HK.out]) | (go_at_call 128; refine (HMay.out _).mono ?_; rintro e w' ⟨rfl, rfl⟩; rw [HM.out]))
            go_ret
            exact ⟨⟨rfl, HF.out⟩, gb_refl _ _⟩
        · rw [if_neg ha] at base
          rw [base]
          have hb : (bits BinOp.andNot .u8 x v != 0) = false := by simpa using ha
          clear ha base
          rcases hm2 with e6 | e13
          · have b6 : ((m : Int) == 6) = true := by simp; omega
            clear hd e6
            go_enter Try.func75, Try.ntmps75
            go_wp2_with (first | (go_at_call 132; refine (qkind_any _ _).mono ?_; rintro e w' ⟨rfl, rfl⟩; rw [HK.out]) | (go_at_call 128; refine (HMay.out _).mono ?_; rintro e w' ⟨rfl, rfl⟩; rw [HM.out]))
            go_ret
            exact ⟨⟨rfl, HSet.out⟩, gb_set (gb_refl _ _) _ _⟩
          · have b6 : ((m : Int) == 6) = false := by simp; omega
            have b13 : ((m : Int) == 13) = true := by simp; omega
            clear hd e13
            go_enter Try.func75, Try.ntmps75
            go_wp2_with (first | (go_at_call 132; refine (qkind_any _ _).mono ?_; rintro e w' ⟨rfl, rfl⟩; rw [HK.out]) | (go_at_call 128; refine (HMay.out _).mono ?_; rintro e w' ⟨rfl, rfl⟩; rw [HM.out]))
            go_ret
            exact ⟨⟨rfl, HSet.out⟩, gb_set (gb_refl _ _) _ _⟩
      · have b6 : ((m : Int) == 6) = false := by simp; omega
        have b13 : ((m : Int) == 13) = false := by simp; omega
        rcases hk with h | h | h
        · rw [if_neg (by omega), if_neg (by omega)] at base
          rw [base]
          have HK := Lib.hid h
          clear h h613 base hd o1 o2
          go_enter Try.func75, Try.ntmps75
          go_wp2_with (first | (go_at_call 132; refine (qkind_any _ _).mono ?_; rintro e w' ⟨rfl, rfl⟩; rw [HK.out]) | (go_at_call 128; refine (HMay.out _).mono ?_; rintro e w' ⟨rfl, rfl⟩; rw [HM.out]))
          go_ret
          exact ⟨⟨rfl, HSet.out⟩, gb_set (gb_refl _ _) _ _⟩
        · rw [if_pos h] at base
          rw [base]
          have HK := Lib.hid h
          clear h h613 base hd o1 o2
          go_enter Try.func75, Try.ntmps75
          go_wp2_with (first | (go_at_call 132; refine (qkind_any _ _).mono ?_; rintro e w' ⟨rfl, rfl⟩; rw [HK.out]) | (go_at_call 128; refine (HMay.out _).mono ?_; rintro e w' ⟨rfl, rfl⟩; rw [HM.out]))
          go_ret
          exact ⟨⟨rfl, HF.out⟩, gb_refl _ _⟩
        · rw [if_neg (by omega), if_pos h, if_neg h613] at base
          have HK := Lib.hid h
          have hy01 : y = 0 ∨ y = 1 := by omega
          clear h h613 o1 o2
          rcases hy01 with rfl | rfl
          · simp at base
            rw [base]
            clear base
            go_enter Try.func75, Try.ntmps75
            go_wp2_with (first | (go_at_call 132; refine (qkind_any _ _).mono ?_; rintro e w' ⟨rfl, rfl⟩; rw [HK.out]) | (go_at_call 128; refine (HMay.out _).mono ?_; rintro e w' ⟨rfl, rfl⟩; rw [HM.out]))
            go_ret
            exact ⟨⟨rfl, HSet.out⟩, gb_set (gb_refl _ _) _ _⟩
          · simp at base
            rw [base]
            clear base
            go_enter Try.func75, Try.ntmps75
            go_wp2_with (first | (go_at_call 132; refine (qkind_any _ _).mono ?_; rintro e w' ⟨rfl, rfl⟩; rw [HK.out]) | (go_at_call 128; refine (HMay.out _).mono ?_; rintro e w' ⟨rfl, rfl⟩; rw [HM.out]))
            go_ret
            exact ⟨⟨rfl, HF.out⟩, gb_refl _ _⟩

set_option maxHeartbeats 1000000 in
theorem qnext_any (g : Nat) (vs : List Int) (a : Int) (w : World) (hf : QFile w g vs) (hok : OkF vs) (h0 : 0 ≤ a) (h1 : a < 4294967296) :
    Calls Try.prog 76 #[.pointer (some ⟨g, 0, none⟩), .int .u32 a] w fun e w' => e = .returned (.tuple #[.int .i64 (nextR vs a).1, .int .u8 (nextR vs a).2.1, .int .i64 (nextR vs a).2.2]) ∧ w = w' := by
  obtain ⟨R, hR⟩ : ∃ R, R = nextR vs a := ⟨_, rfl⟩
  rw [← hR]
  unfold nextR at hR
  have HF := Lib.hid hf
  have HOK := Lib.hid hok
  clear hf hok
  obtain ⟨N, hN⟩ : ∃ N, numOf' a = N := ⟨_, rfl⟩
  obtain ⟨H, hH⟩ : ∃ H, howOf a = H := ⟨_, rfl⟩
  rw [hN, hH] at hR
  unfold numOf' at hN
  unfold howOf at hH
  obtain ⟨n0, n1⟩ := u32_in .and (a / 65536) 255
  rw [hN] at n0 n1
  by_cases hw : H = 0
  · rw [if_pos hw] at hR
    subst hR
    subst hw
    go_enter Try.func76, Try.ntmps76
    go_wp2
    go_ret3
    exact ⟨rfl, rfl⟩
  · rw [if_neg hw] at hR
    have b0 : (H == 0) = false := by simpa using hw
    have hkk : (writesS N = false ∧ (kindS N = 0 ∨ kindS N = 4)) ∨ (writesS N = true ∧ (kindS N == 0) = false ∧ (kindS N == 4) = false) := by
      rcases kindS_five N with h | h | h | h | h <;> simp [writesS, h]
    clear hw
    rcases hkk with ⟨hwr, hk⟩ | ⟨hwr, k0, k4⟩
    · rw [if_pos hwr] at hR
      subst hR
      rcases hk with hk | hk <;>
        (have HK := Lib.hid hk
         clear hk hwr
         go_enter Try.func76, Try.ntmps76
         go_wp2_with (go_at_call 132; refine (qkind_any _ _).mono ?_; rintro e w' ⟨rfl, rfl⟩; rw [HK.out])
         go_ret3
         exact ⟨rfl, rfl⟩)
    · rw [if_neg (by simp [hwr])] at hR
      clear hwr
      obtain ⟨x, hx⟩ : ∃ x, x = getS vs N := ⟨_, rfl⟩
      rw [← hx] at hR
      have HX := Lib.hid hx
      clear hx
      by_cases h1 : H = 1
      · rw [if_pos h1] at hR
        subst h1
        subst hR
        go_enter Try.func76, Try.ntmps76
        go_wp2_with (first | (go_at_call 132; refine (qkind_any _ _).mono ?_; rintro e w' ⟨rfl, rfl⟩) | (go_at_call 129; refine (qget_any g vs N _ HF.out HOK.out).mono ?_; rintro e w' ⟨rfl, rfl⟩; rw [← HX.out]))
        go_ret3
        exact ⟨rfl, rfl⟩
      · rw [if_neg h1] at hR
        have b1 : (H == 1) = false := by simpa using h1
        clear h1
        by_cases h2 : H = 2
        · rw [if_pos h2] at hR
          subst h2
          subst hR
          go_enter Try.func76, Try.ntmps76
          go_wp2_with (first | (go_at_call 132; refine (qkind_any _ _).mono ?_; rintro e w' ⟨rfl, rfl⟩) | (go_at_call 129; refine (qget_any g vs N _ HF.out HOK.out).mono ?_; rintro e w' ⟨rfl, rfl⟩; rw [← HX.out]))
          go_ret3
          exact ⟨rfl, rfl⟩
        · rw [if_neg h2] at hR
          subst hR
          have b2 : (H == 2) = false := by simpa using h2
          clear h2
          go_enter Try.func76, Try.ntmps76
          go_wp2_with (go_at_call 132; refine (qkind_any _ _).mono ?_; rintro e w' ⟨rfl, rfl⟩)
          go_ret3
          exact ⟨rfl, rfl⟩

theorem qlasting_any (w : World) :
    Calls Try.prog 127 #[] w fun e w' => e = .returned (.slice (some ⟨w.heap.size, 0, none⟩) 7 7) ∧ w' = w.alloc (.cells lastV 3) := by
  go_enter Try.func127, Try.ntmps127
  go_wp2
  go_ret
  exact ⟨rfl, rfl⟩

set_option maxRecDepth 100000 in
set_option maxHeartbeats 2000000 in
theorem qlastingB_any (g : Nat) (vs : List Int) (w : World) (hf : QFile w g vs) (hb : Byt vs) :
    Calls Try.prog 79 #[.pointer (some ⟨g, 0, none⟩)] w fun e w' => (∃ q cap, e = .returned (.slice (some ⟨q, 0, none⟩) 7 cap) ∧ w.heap.size ≤ q ∧ 7 ≤ cap ∧ Bytes w' (some ⟨q, 0, none⟩) 7 (lastL vs)) ∧ Below w.heap.size w w' := by
  have HF := Lib.hid hf
  have HBy := Lib.hid hb
  have hglt := hf.lt
  clear hf hb
  go_enter Try.func79, Try.ntmps79
  go_wp2_with fail
  refine (qlasting_any _).mono ?_
  rintro e w1 ⟨rfl, rfl⟩
  have HI := Lib.hid (HasB.new w lastV 3)
  have HB := Lib.hid ((Below.refl w.heap.size w).alloc (Nat.le_refl _) (.cells lastV 3))
  go_wp2_with fail
  go_loopw [3, 5] (fun v i wr => ∃ (k : Nat), k ≤ 7 ∧ i = .int .i64 k ∧ Hid (wr.ownsRow (w.heap.size + 1) 5 1 v k (u8s ((lastL vs).take k))) ∧ Hid (HasB wr w.heap.size lastV 3) ∧ Hid (Below w.heap.size w wr)) (fun _ i _ => 7 - (intOf i).toNat)
  case atStart => exact ⟨0, by omega, rfl, Lib.hid ⟨rfl, .inl ⟨rfl, rfl⟩⟩, HI, HB⟩
  case round =>
    obtain ⟨k, hk, rfl, HO, HI, HB⟩ := hrel
    obtain ⟨wo, rfl⟩ : ∃ wo : World, wo = wr := ⟨_, rfl⟩
    by_cases hlt : k < 7
    · obtain ⟨n, hn⟩ : ∃ n, n = lastN.getD k 0 := ⟨_, rfl⟩
      have hn64 := lastN_lt k hlt
      rw [← hn] at hn64
      have hci : wo.cell? ⟨w.heap.size, k, none⟩ = some (.int .i64 (n : Int)) := by
        rw [hn]; exact (HI.out.at k).trans (lastV_at k hlt)
      have hval := HBy.out n
      obtain ⟨c, hc⟩ : ∃ c : Nat, vs.getD n 0 = c := ⟨(vs.getD n 0).toNat, by omega⟩
      have hcf : wo.cell? ⟨g, n, none⟩ = some (.int .u8 (c : Int)) := by
        rw [← hc]; exact (HF.out.below HB.out).cell n hn64
      rw [hc] at hval
      have hlast : (lastL vs).getD k 0 = c := by rw [lastL_get vs k hlt, ← hn, hc]; rfl
      have HLast := Lib.hid hlast
      have hc256 : c < 256 := by omega
      have t1 : (0 : Int) ≤ (n : Int) := by omega
      have t2 : (n : Int) < 64 := by omega
      have t3 : (0 : Int) ≤ (k : Int) := by omega
      have t4 : (k : Int) < 7 := by omega
      have hwo := HB.out.size
      have hlt2 := HI.out.lt
      have HOa := Lib.hid (HO.out.drew.alloc (.cells #[.int .u8 (c : Int)] 5))
      have hBy1 := Lib.hid (bytes_lit1 (w := wo.drew) (e := 5) hc256)
      clear hn hc hval hlast
      go_wp2_with fail
      go_region_law (refine step_app_u8 rfl _ _ 22 rfl (w.heap.size + 1) 5 Try.underlying22 (by kernel_rfl) u3 k ((lastL vs).take k) rfl HOa.out _ 1 1 [c] rfl hBy1.out (by simp) (by omega) (by simp; omega) ?_; intro v' w2 hown hgrow; have HOwn := Lib.hid hown; have HGrow := Lib.hid hgrow; clear hown hgrow)
      all_goals
        have htk : (lastL vs).take k ++ [c] = (lastL vs).take (k + 1) := by
          rw [take_snoc _ _ (by rw [lastL_len]; exact hlt), HLast.out]
        have hown := HOwn.out
        rw [htk] at hown
        have HO2 := Lib.hid hown
        have hrow : ∀ j, u3.ownBlock = some j → w.heap.size + 1 ≤ j := fun j hj => (HO.out.lt j hj).1
        have HI2 := Lib.hid ((HI.out.drew.alloc (.cells #[.int .u8 (c : Int)] 5)).kept HGrow.out (fun e => by have := hrow _ e.symm; omega))
        have HB2 := Lib.hid ((HB.out.drew.alloc hwo (.cells #[.int .u8 (c : Int)] 5)).grown HGrow.out (by simp; omega) (fun j hj => by have := hrow j hj; omega))
        clear hown HGrow HOwn htk hBy1 HOa hrow hci hcf
        go_wp2
        go_roundw
        case rel => exact ⟨k + 1, by omega, by go_num, HO2, HI2, HB2⟩
        case measure => simp [intOf]; omega
    · obtain rfl : k = 7 := by omega
      obtain ⟨q, cap, rfl⟩ := own_shape HO.out (by omega)
      have hq := (HO.out.lt q rfl).1
      have hcap := HO.out.2
      have hbb := bytes_of_own HO.out (fun c hc => lastL_lt HBy.out c (List.mem_of_mem_take hc))
      rw [List.take_of_length_le (by rw [lastL_len]; exact Nat.le_refl _)] at hbb
      have HBB := Lib.hid hbb
      have hcp : 7 ≤ cap := by
        rcases hcap with ⟨h, _⟩ | ⟨g', cap', cur, hv, _, _, hr⟩
        · cases h
        · simp at hv
          obtain ⟨_, rfl⟩ := hv
          exact hr.1
      clear hbb hcap
      go_wp2
      go_ret
      exact ⟨⟨q, cap, rfl, by omega, hcp, HBB.out⟩, HB.out⟩

end Go.Proofs.Ytjjeopanffcbiaa
