/- PhaseIdle. -/
import Derived.Test.YtjjeopanffcbiaaPhaseI
namespace Go.Proofs.Ytjjeopanffcbiaa
open Go Go.RowKit Go.Maps
set_option linter.unusedVariables false

theorem idle_next {s : Int} {own : Bool} (h : s ∈ statesL) : nextS s 0 own = (0, true) := by unfold nextS; rw [if_pos h, if_pos rfl]
theorem idle_go {s a l : Int} (h : OkM s a l) : goS s a l 0 0 = (0, a, 0, false, true) := by
  unfold goS
  rw [idle_next h.1]
  by_cases e : s = 0
  · have := h.2.2.2.2 (by rw [e]; omega)
    simp [e, this]
  · simp [e]
theorem idle_legal (i : Int) (own : Bool) : (nextS 0 i own).2 = ((i == 0) || (i == 1)) := by
  by_cases h0 : i = 0
  · subst h0; rfl
  · by_cases h1 : i = 1
    · subst h1; cases own <;> rfl
    · have : look 0 i = none := by simp [look, waysL, waysA]; omega
      unfold nextS
      rw [if_pos (by decide), if_neg h0, this]
      simp [h0, h1]

theorem flip_up (n : Nat) (h : n < 65536) : bits .xor .u32 ((n : Int) * 65536) 65536 = ((n * 65536 ^^^ 65536 : Nat) : Int) := by
  rw [show ((n : Int) * 65536) = ((n * 65536 : Nat) : Int) by omega]
  exact u32_xor_nat (n * 65536) 65536 (by omega) (by omega)
theorem flip_ne (n : Nat) (h : n < 65536) : (n * 65536 ^^^ 65536) / 65536 ≠ n ∧ n * 65536 ^^^ 65536 < 4294967296 := by
  have h1 : (n * 65536 ^^^ 65536) / 2 ^ 16 = n * 65536 / 2 ^ 16 ^^^ 65536 / 2 ^ 16 := Nat.xor_div_two_pow
  have h2 : n * 65536 ^^^ 65536 < 2 ^ 32 := Nat.xor_lt_two_pow (by omega) (by omega)
  refine ⟨fun e => ?_, by omega⟩
  rw [show (65536 : Nat) = 2 ^ 16 by rfl] at e
  rw [show (65536 : Nat) = 2 ^ 16 by rfl] at h1
  rw [h1, Nat.mul_div_cancel _ (by decide), Nat.div_self (by decide)] at e
  have := congrArg (· ^^^ n) e
  simp [Nat.xor_comm n 1, Nat.xor_assoc] at this
theorem tran_mine (own : Bool) : (nextS 4 13 own).2 = own := by cases own <;> rfl

theorem idle_1 (a x : Int) : goS 0 a 0 1 x = (1, a, 0, true, true) := by unfold goS; cases ownB a x <;> rfl
theorem idle_2 (a x : Int) : goS 1 a 0 2 x = (2, a, 0, true, true) := by unfold goS; cases ownB a x <;> rfl
theorem idle_3 (a x : Int) : goS 2 a 0 3 x = (3, x / 65536, 0, true, true) := by unfold goS; cases ownB a x <;> rfl
theorem idle_4 (a x : Int) (h : ownB a x = true) : goS 3 a 0 7 x = (4, a, 0, true, true) := by unfold goS; rw [h]; rfl

set_option maxRecDepth 100000 in
set_option maxHeartbeats 8000000 in
theorem idle_walk (a : Option Addr) (len cap : Nat) (l : List PAct) (ad : Int) (W : World) (hm : len ≤ 400) (hl : Rws 5 PAct.cells W a len l) (hwf : ∀ x ∈ l, x.wf) (ha0 : 0 ≤ ad) (ha1 : ad < 65536) :
    Calls Try.prog 7 #[.slice a len cap, .int .u16 ad] W fun e w' => e = .returned (.bool true) ∧ Below W.heap.size W w' := by
  have hll := hl.1
  have HL := Lib.hid hl
  have HWf := Lib.hid hwf
  clear hwf hl
  have hmf : decide (400 < (len : Int)) = false := by simp; omega
  go_enter Try.func7, Try.ntmps7
  go_wp2_with fail
  refine (pknown_any _).mono ?_
  rintro e w1 ⟨rfl, hb1⟩
  have hs1 := hb1.size
  have HB1 := Lib.hid hb1
  clear hb1
  go_wp2_with fail
  refine (new_any _).mono ?_
  rintro e w2 ⟨⟨rfl, hM2⟩, hb2⟩
  obtain ⟨g, hg⟩ : ∃ g, g = w1.heap.size := ⟨_, rfl⟩
  have HB2 := Lib.hid (HB1.out.trans (hb2.mono hs1))
  rw [← hg] at hM2 ⊢
  have hgW : W.heap.size ≤ g := by omega
  have HM2 := Lib.hid hM2
  clear hM2 hb2 hs1 HB1 hg
  go_wp2_with fail
  go_loopw [6] (fun i wr => ∃ (k : Nat) (s a l : Int), k ≤ len ∧ i = .int .i64 k ∧ Hid (Mach wr g s a l) ∧ Hid (OkM s a l) ∧ Hid (Below W.heap.size W wr)) (fun i _ => len - (intOf i).toNat)
  case atStart => exact ⟨0, 0, 0, 0, by omega, rfl, HM2, Lib.hid OkM.start, HB2⟩
  case round =>
    obtain ⟨k, s, am, lm, hk, rfl, HM, HOK, HB⟩ := hrel
    obtain ⟨wo, rfl⟩ : ∃ wo : World, wo = wr := ⟨_, rfl⟩
    by_cases hlt : k < len
    · have hx : l[k]? = some l[k] := List.getElem?_eq_getElem (by omega)
      obtain ⟨z, HZ⟩ : ∃ z, Hid (z = l[k]) := ⟨_, Lib.hid rfl⟩
      rw [← HZ.out] at hx
      obtain ⟨b, off, rfl, hbb, hc⟩ := HL.out.2 (by omega)
      clear hc
      obtain ⟨hlt3, hc0, hc1, hc2, hc3, hc4⟩ := PAct.fiveAt HL.out HB.out hlt hx
      have hzw := HWf.out z (List.mem_of_getElem? hx)
      obtain ⟨z1, z2, ⟨z3, z4⟩, z5⟩ := hzw
      have hmlt := HM.out.lt
      by_cases hop : z.op = 1
      · have hop' : (z.op == 1) = true := by simpa using hop
        have hK1 : ∀ w', Below W.heap.size W w' → w'.cell? ⟨b, off + k * 5 + 1, none⟩ = some (.int .i64 z.ix) := fun w' h => (PAct.fiveAt HL.out h hlt hx).2.2.1
        have hK2 : ∀ w', Below W.heap.size W w' → w'.cell? ⟨b, off + k * 5 + 2, none⟩ = some (.int .u32 z.arg) := fun w' h => (PAct.fiveAt HL.out h hlt hx).2.2.2.1
        have t1 : (0 : Int) ≤ (k : Int) := by omega
        have t2 : (k : Int) < (len : Int) := by omega
        clear hop hx
        go_wp2_with fail
        refine wp_region_held_drew (S := (fun w' => Below W.heap.size W w')) (by kernel_rfl) (HB.out.drew) (fun hHeld => ?_)
        refine held_take 0 (v := ?_) rfl (by kernel_rfl) (by kernel_rfl) (by kernel_rfl) (fun _ _ _ h => h) (by rfl) (fun w hS => ?_) (by assumption) ?_
        rotate_left
        · try dsimp only at hS
          go_simp <;> with_reducible rfl
        try simp only [Act.put, List.setIfInBounds_toArray, List.set_cons_zero, List.set_cons_succ]
        refine held_take 1 (v := ?_) rfl (by kernel_rfl) (by kernel_rfl) (by kernel_rfl) (fun _ _ _ h => h) (by rfl) (fun w hS => ?_) (by assumption) ?_
        rotate_left
        · try dsimp only at hS
          go_simp <;> with_reducible rfl
        try simp only [Act.put, List.setIfInBounds_toArray, List.set_cons_zero, List.set_cons_succ]
        refine held_take 2 (v := ?_) rfl (by kernel_rfl) (by kernel_rfl) (by kernel_rfl) (fun _ _ _ h => h) (by rfl) (fun w hS => ?_) (by assumption) ?_
        rotate_left
        · try dsimp only at hS
          go_simp <;> with_reducible rfl
        try simp only [Act.put, List.setIfInBounds_toArray, List.set_cons_zero, List.set_cons_succ]
        refine held_take 3 (v := ?_) rfl (by kernel_rfl) (by kernel_rfl) (by kernel_rfl) (fun _ _ _ h => h) (by rfl) (fun w hS => ?_) (by assumption) ?_
        rotate_left
        · try dsimp only at hS
          go_simp <;> with_reducible rfl
        try simp only [Act.put, List.setIfInBounds_toArray, List.set_cons_zero, List.set_cons_succ]
        refine held_take 4 (v := ?_) rfl (by kernel_rfl) (by kernel_rfl) (by kernel_rfl) (fun _ _ _ h => h) (by rfl) (fun w hS => ?_) (by assumption) ?_
        rotate_left
        · try dsimp only at hS
          go_simp <;> with_reducible rfl
        try simp only [Act.put, List.setIfInBounds_toArray, List.set_cons_zero, List.set_cons_succ]
        refine held_take 5 (v := ?_) rfl (by kernel_rfl) (by kernel_rfl) (by kernel_rfl) (fun _ _ _ h => h) (by rfl) (fun w hS => ?_) (by assumption) ?_
        rotate_left
        · try dsimp only at hS
          go_simp <;> with_reducible rfl
        try simp only [Act.put, List.setIfInBounds_toArray, List.set_cons_zero, List.set_cons_succ]
        refine held_take 6 (v := ?_) rfl (by kernel_rfl) (by kernel_rfl) (by kernel_rfl) (fun _ _ _ h => h) (by rfl) (fun w hS => ?_) (by assumption) ?_
        rotate_left
        · try dsimp only at hS
          go_simp <;> with_reducible rfl
        try simp only [Act.put, List.setIfInBounds_toArray, List.set_cons_zero, List.set_cons_succ]
        refine held_take 7 (v := ?_) rfl (by kernel_rfl) (by kernel_rfl) (by kernel_rfl) (fun _ _ _ h => h) (by rfl) (fun w hS => ?_) (by assumption) ?_
        rotate_left
        · try dsimp only at hS
          go_simp <;> with_reducible rfl
        try simp only [Act.put, List.setIfInBounds_toArray, List.set_cons_zero, List.set_cons_succ]
        refine held_take 8 (v := ?_) rfl (by kernel_rfl) (by kernel_rfl) (by kernel_rfl) (fun _ _ _ h => h) (by rfl) (fun w hS => ?_) (by assumption) ?_
        rotate_left
        · try dsimp only at hS
          go_simp <;> with_reducible rfl
        try simp only [Act.put, List.setIfInBounds_toArray, List.set_cons_zero, List.set_cons_succ]
        refine held_take 9 (v := ?_) rfl (by kernel_rfl) (by kernel_rfl) (by kernel_rfl) (fun _ _ _ h => h) (by rfl) (fun w hS => ?_) (by assumption) ?_
        rotate_left
        · try dsimp only at hS
          go_simp <;> with_reducible rfl
        try simp only [Act.put, List.setIfInBounds_toArray, List.set_cons_zero, List.set_cons_succ]
        refine held_take 10 (v := ?_) rfl (by kernel_rfl) (by kernel_rfl) (by kernel_rfl) (fun _ _ _ h => h) (by rfl) (fun w hS => ?_) (by assumption) ?_
        rotate_left
        · try dsimp only at hS
          go_simp <;> with_reducible rfl
        try simp only [Act.put, List.setIfInBounds_toArray, List.set_cons_zero, List.set_cons_succ]
        refine held_one 11 rfl (by kernel_rfl) (fun K hK => ?_)
        go_simp
        refine (go_any g s am lm z.ix z.arg _ HM.out.drew HOK.out.i64 z2 z3 z4).mono ?_
        rintro e wn ⟨⟨rfl, hMn⟩, hgn⟩
        have hbn : Below W.heap.size W wn := below_gb HB.out.drew hgn HB.out.size hgW
        have HMn := Lib.hid hMn
        have HBn := Lib.hid hbn
        clear hMn hgn hK1 hK2 hc0 hc1 hc2 hc3 hc4
        refine hK.out _ _ (fun w' => Below W.heap.size W w') (fun _ h => h) hbn (fun hHeld => ?_)
        clear hK K
        try simp only [Act.put, List.setIfInBounds_toArray, List.set_cons_zero, List.set_cons_succ]
        refine held_done (by kernel_rfl) ?_
        go_wp2
        go_roundw
        case rel => exact ⟨k + 1, _, _, _, by omega, by go_num, HMn, Lib.hid (HOK.out.go z3 z4), HBn⟩
        case measure => simp [intOf]; omega
      · have hop' : (z.op == 1) = false := by simpa using hop
        clear hop hx
        go_wp2
        go_roundw
        case rel => exact ⟨k + 1, s, am, lm, by omega, by go_num, HM, HOK, HB⟩
        case measure => simp [intOf]; omega
    · obtain rfl : k = len := by omega
      have hok := HOK.out
      have hgo := idle_go hok
      have HGo := Lib.hid hgo
      obtain ⟨q1, q2, q3, q4, q5⟩ := hok
      clear hgo q1 q4 q5
      go_wp2_with fail
      refine (go_lit HGo.out g _ HM.out HOK.out.i64 (by unfold I64; omega) (by omega) (by omega)).mono ?_
      rintro e w3 ⟨⟨rfl, hM3⟩, hg3⟩
      have HB3 := Lib.hid (below_gb HB.out hg3 HB.out.size hgW)
      have HM3 : Hid (Mach w3 g 0 am 0) := Lib.hid hM3
      clear hM3 hg3 HM HB HM2 HB2 HOK HGo
      go_wp2_with (first | (go_at_call 40; refine (state_any g 0 am 0 _ HM3.out).mono ?_; rintro e w6 ⟨rfl, rfl⟩) | (go_at_call 41; refine (left_any g 0 am 0 _ HM3.out).mono ?_; rintro e w6 ⟨rfl, rfl⟩) | fail)
      go_loopw [9] (fun i wr => ∃ (k : Nat), k ≤ 64 ∧ i = .int .i64 k ∧ Hid (Mach wr g 0 am 0) ∧ Hid (Below W.heap.size W wr)) (fun i _ => 64 - (intOf i).toNat)
      case atStart => exact ⟨0, by omega, rfl, HM3, HB3⟩
      case round =>
        obtain ⟨j, hj, rfl, HM, HB⟩ := hrel
        obtain ⟨wi, rfl⟩ : ∃ wi : World, wi = wr := ⟨_, rfl⟩
        have hmlt := HM.out.lt
        by_cases hlt : j < 64
        · have hd : decide ((j : Int) < 64) = true := by simp; omega
          have hleg := idle_legal (j : Int) (ownB am 0)
          obtain ⟨x, hx⟩ : ∃ x, x = (((j : Int) == 0) || ((j : Int) == 1)) := ⟨_, rfl⟩
          rw [← hx] at hleg
          have HLeg := Lib.hid hleg
          have hI : I64 (j : Int) := by unfold I64; omega
          clear hleg
          have hcs : ((j : Int) == 0) = true ∨ (((j : Int) == 0) = false ∧ ((j : Int) == 1) = true) ∨ (((j : Int) == 0) = false ∧ ((j : Int) == 1) = false) := by
            cases ((j : Int) == 0) <;> cases ((j : Int) == 1) <;> simp
          rcases hcs with h1 | ⟨h1, h2⟩ | ⟨h1, h2⟩
          · rw [h1] at hx
            simp at hx
            subst hx
            go_wp2_with (go_at_call 42; refine (legal_lit HLeg.out g _ HM.out (by unfold I64; omega) hI (by omega) (by omega)).mono ?_; rintro e w5 ⟨rfl, hb5⟩; have HM5 := Lib.hid (HM.out.below hb5 HM.out.lt); have HB5 := Lib.hid (HB.out.trans (hb5.mono HB.out.size)); clear hb5)
            go_roundw
            case rel => exact ⟨j + 1, by omega, by go_num, HM5, HB5⟩
            case measure => simp [intOf]; omega
          · rw [h1, h2] at hx
            simp at hx
            subst hx
            go_wp2_with (go_at_call 42; refine (legal_lit HLeg.out g _ HM.out (by unfold I64; omega) hI (by omega) (by omega)).mono ?_; rintro e w5 ⟨rfl, hb5⟩; have HM5 := Lib.hid (HM.out.below hb5 HM.out.lt); have HB5 := Lib.hid (HB.out.trans (hb5.mono HB.out.size)); clear hb5)
            go_roundw
            case rel => exact ⟨j + 1, by omega, by go_num, HM5, HB5⟩
            case measure => simp [intOf]; omega
          · rw [h1, h2] at hx
            simp at hx
            subst hx
            go_wp2_with (go_at_call 42; refine (legal_lit HLeg.out g _ HM.out (by unfold I64; omega) hI (by omega) (by omega)).mono ?_; rintro e w5 ⟨rfl, hb5⟩; have HM5 := Lib.hid (HM.out.below hb5 HM.out.lt); have HB5 := Lib.hid (HB.out.trans (hb5.mono HB.out.size)); clear hb5)
            go_roundw
            case rel => exact ⟨j + 1, by omega, by go_num, HM5, HB5⟩
            case measure => simp [intOf]; omega
        · obtain rfl : j = 64 := by omega
          go_wp2_with fail
          have hB0 := HasB.new wi #[.int .i64 1, .int .i64 2, .int .i64 3, .int .i64 7] 3
          have hM0 := HM.out.alloc (.cells #[.int .i64 1, .int .i64 2, .int .i64 3, .int .i64 7] 3)
          have hW0 := HB.out.alloc HB.out.size (.cells #[.int .i64 1, .int .i64 2, .int .i64 3, .int .i64 7] 3)
          have hne : some wi.heap.size ≠ some g := fun e => by
            have := Option.some.inj e
            omega
          have HNE := Lib.hid hne
          have HB0 := Lib.hid hB0
          have HM0 := Lib.hid hM0
          have HW0 := Lib.hid hW0
          have hx : ad * 65536 / 65536 = ad := by omega
          have HX := Lib.hid hx
          have hx0 : 0 ≤ ad * 65536 := by omega
          have hx1 : ad * 65536 < 4294967296 := by omega
          have HOwn : Hid (ownB ad (ad * 65536) = true) := Lib.hid (by unfold ownB; rw [hx]; simp)
          clear hB0 hM0 hW0 hne HM HB HB3 HM3 hx
          refine wp_loop_rounds 5 ?_
          rw [rounds_succ]
          go_wp2_with fail
          refine (go_lit (idle_1 am _) g _ HM0.out (by unfold I64; omega) (by unfold I64; omega) hx0 hx1).mono ?_
          rintro e v1 ⟨⟨rfl, hMn⟩, hgn⟩
          have HM1 := Lib.hid hMn
          have HB1 := Lib.hid (HB0.out.kept hgn HNE.out)
          have HW1 := Lib.hid (below_gb HW0.out hgn HW0.out.size hgW)
          clear hMn hgn HM0 HB0 HW0
          have hc : v1.cell? ⟨wi.heap.size, 1, none⟩ = some (.int .i64 2) := HB1.out.at 1
          go_wp2_with fail
          rw [rounds_succ]
          go_wp2_with fail
          clear hc
          refine (go_lit (idle_2 am _) g _ HM1.out (by unfold I64; omega) (by unfold I64; omega) hx0 hx1).mono ?_
          rintro e v2 ⟨⟨rfl, hMn⟩, hgn⟩
          have HM2 := Lib.hid hMn
          have HB2 := Lib.hid (HB1.out.kept hgn HNE.out)
          have HW2 := Lib.hid (below_gb HW1.out hgn HW1.out.size hgW)
          clear hMn hgn HM1 HB1 HW1
          have hc : v2.cell? ⟨wi.heap.size, 2, none⟩ = some (.int .i64 3) := HB2.out.at 2
          go_wp2_with fail
          rw [rounds_succ]
          go_wp2_with fail
          clear hc
          refine (go_lit (idle_3 am _) g _ HM2.out (by unfold I64; omega) (by unfold I64; omega) hx0 hx1).mono ?_
          rintro e v3 ⟨⟨rfl, hMn⟩, hgn⟩
          have hMn : Mach v3 g 3 ad 0 := by
            have h := hMn
            simp only [HX.out] at h
            exact h
          have HM3 := Lib.hid hMn
          have HB3 := Lib.hid (HB2.out.kept hgn HNE.out)
          have HW3 := Lib.hid (below_gb HW2.out hgn HW2.out.size hgW)
          clear hMn hgn HM2 HB2 HW2
          have hc : v3.cell? ⟨wi.heap.size, 3, none⟩ = some (.int .i64 7) := HB3.out.at 3
          go_wp2_with fail
          rw [rounds_succ]
          go_wp2_with fail
          clear hc
          refine (go_lit (idle_4 ad _ HOwn.out) g _ HM3.out (by unfold I64; omega) (by unfold I64; omega) hx0 hx1).mono ?_
          rintro e v4 ⟨⟨rfl, hMn⟩, hgn⟩
          have HM4 := Lib.hid hMn
          have HB4 := Lib.hid (HB3.out.kept hgn HNE.out)
          have HW4 := Lib.hid (below_gb HW3.out hgn HW3.out.size hgW)
          clear hMn hgn HM3 HB3 HW3
          go_wp2_with fail
          rw [rounds_succ]
          go_wp2_with (first | (go_at_call 40; refine (state_any g 4 ad 0 _ HM4.out).mono ?_; rintro e w6 ⟨rfl, rfl⟩) | (go_at_call 43; refine (addr_any g 4 ad 0 _ HM4.out).mono ?_; rintro e w6 ⟨rfl, rfl⟩) | fail)
          obtain ⟨y, HY⟩ : ∃ y, Hid (y = bits BinOp.xor IntKind.u32 (ad * 65536) 65536) := ⟨_, Lib.hid rfl⟩
          rw [← HY.out]
          have hyy : 0 ≤ y ∧ y < 4294967296 ∧ ownB ad y = false := by
            obtain ⟨n, rfl⟩ : ∃ n : Nat, ad = n := ⟨ad.toNat, by omega⟩
            obtain ⟨h1, h2⟩ := flip_ne n (by omega)
            rw [HY.out, flip_up n (by omega)]
            refine ⟨by omega, by omega, ?_⟩
            unfold ownB
            simp
            omega
          obtain ⟨y0, y1, y2⟩ := hyy
          have HYO := Lib.hid y2
          clear y2
          refine (legal_lit (r := false) (by rw [HYO.out]; exact tran_mine false) g _ HM4.out (by unfold I64; omega) (by unfold I64; omega) y0 y1).mono ?_
          rintro e v5 ⟨rfl, hb5⟩
          have HM5 := Lib.hid (HM4.out.below hb5 HM4.out.lt)
          have HW5 := Lib.hid (HW4.out.trans (hb5.mono HW4.out.size))
          clear hb5 HM4 HW4 HB4
          go_wp2_with fail
          refine (legal_lit (r := true) (by rw [HOwn.out]; exact tran_mine true) g _ HM5.out (by unfold I64; omega) (by unfold I64; omega) hx0 hx1).mono ?_
          rintro e v6 ⟨rfl, hb6⟩
          have HW6 := Lib.hid (HW5.out.trans (hb6.mono HW5.out.size))
          clear hb6 HM5 HW5
          go_wp2
          go_ret
          exact ⟨rfl, HW6.out⟩

theorem idle_any (a : Option Addr) (len cap : Nat) (l : List PAct) (ad : Int) (W : World) (hm : len ≤ 9223372036854775807) (hl : Rws 5 PAct.cells W a len l) (hwf : ∀ x ∈ l, x.wf) (ha0 : 0 ≤ ad) (ha1 : ad < 65536) :
    Calls Try.prog 7 #[.slice a len cap, .int .u16 ad] W fun e w' => e = .returned (.bool true) ∧ Below W.heap.size W w' := by
  by_cases h : len ≤ 400
  · exact idle_walk a len cap l ad W h hl hwf ha0 ha1
  · go_enter Try.func7, Try.ntmps7
    go_wp2_with fail
    refine (pknown_any _).mono ?_
    rintro e w1 ⟨rfl, hb1⟩
    go_wp2_with fail
    go_ret
    exact ⟨rfl, hb1⟩

end Go.Proofs.Ytjjeopanffcbiaa
