/- RegsBits. -/
import Derived.Test.YtjjeopanffcbiaaRegsD
import Derived.Test.YtjjeopanffcbiaaHeld
namespace Go.Proofs.Ytjjeopanffcbiaa
open Go Go.RowKit
set_option linter.unusedVariables false

theorem nextR_0 {vs : List Int} {a : Int} (h : howOf a = 0) : nextR vs a = (0, 0, 1) := by unfold nextR; rw [if_pos h]
theorem nextR_n {vs : List Int} {a n v k : Int} (h : howOf a = k) (hn : numOf' a = n) (hv : valOf a = v) (hk : k ≠ 0) (hw : writesS n = true) :
    nextR vs a = (n, if k = 1 then bits .or .u8 (getS vs n) v else if k = 2 then bits .andNot .u8 (getS vs n) v else v, 0) := by
  unfold nextR
  rw [h, hn, hv, if_neg hk, if_neg (by simp [hw])]

set_option maxRecDepth 100000 in
set_option maxHeartbeats 8000000 in
theorem bits_walk (a : Option Addr) (len cap : Nat) (l : List RAct) (N V : Nat) (W : World) (hm : len ≤ 300) (hl : Rws 4 RAct.cells W a len l) (hwf : ∀ x ∈ l, x.wf) (hN : N < 64) (hV : V < 256) (hw : writesS (N : Int) = true) :
    Calls Try.prog 6 #[.slice a len cap, .int .i64 (N : Int), .int .u8 (V : Int)] W fun e w' => e = .returned (.bool true) ∧ Below W.heap.size W w' := by
  have hll := hl.1
  have HL := Lib.hid hl
  have HWf := Lib.hid hwf
  obtain ⟨p1, p2, p3⟩ := arg_parts 1 N V (by omega) hN hV
  obtain ⟨q1, q2, q3⟩ := arg_parts 2 N V (by omega) hN hV
  obtain ⟨r1, r2, r3⟩ := arg_parts 3 N V (by omega) hN hV
  obtain ⟨s1, s2, s3⟩ := arg_parts 0 N V (by omega) hN hV
  obtain ⟨o0, o1⟩ := arg_or 1 N V (by omega) hN hV
  have o2 := (arg_or 2 N V (by omega) hN hV).2
  have o3 := (arg_or 3 N V (by omega) hN hV).2
  rw [show 0 * 16777216 + N * 65536 + V * 256 = N * 65536 + V * 256 by omega] at s1 s2 s3
  obtain ⟨AT, hAT⟩ : ∃ AT : Int, ((N * 65536 + V * 256 : Nat) : Int) = AT := ⟨_, rfl⟩
  obtain ⟨A1, hA1⟩ : ∃ A1 : Int, ((1 * 16777216 + N * 65536 + V * 256 : Nat) : Int) = A1 := ⟨_, rfl⟩
  obtain ⟨A2, hA2⟩ : ∃ A2 : Int, ((2 * 16777216 + N * 65536 + V * 256 : Nat) : Int) = A2 := ⟨_, rfl⟩
  obtain ⟨A3, hA3⟩ : ∃ A3 : Int, ((3 * 16777216 + N * 65536 + V * 256 : Nat) : Int) = A3 := ⟨_, rfl⟩
  rw [hAT] at s1 s2 s3 o0 o1 o2 o3
  rw [hA1] at p1 p2 p3 o1
  rw [hA2] at q1 q2 q3 o2
  rw [hA3] at r1 r2 r3 o3
  have o1' : bits BinOp.or .u32 16777216 AT = A1 := o1
  have o2' : bits BinOp.or .u32 33554432 AT = A2 := o2
  have o3' : bits BinOp.or .u32 50331648 AT = A3 := o3
  have g0 : 0 ≤ AT ∧ AT < 4294967296 := by omega
  have g1 : 0 ≤ A1 ∧ A1 < 4294967296 := by omega
  have g2 : 0 ≤ A2 ∧ A2 < 4294967296 := by omega
  have g3 : 0 ≤ A3 ∧ A3 < 4294967296 := by omega
  have HN0 := Lib.hid (fun vs => nextR_0 (vs := vs) s1)
  have HN1 := Lib.hid (fun vs => nextR_n (vs := vs) p1 p2 p3 (by omega) hw)
  have HN2 := Lib.hid (fun vs => nextR_n (vs := vs) q1 q2 q3 (by omega) hw)
  have HN3 := Lib.hid (fun vs => nextR_n (vs := vs) r1 r2 r3 (by omega) hw)
  have hk0 : (kindS (N : Int) == 0) = false := by simp [writesS] at hw; simpa using hw.1
  have hk4 : (kindS (N : Int) == 4) = false := by simp [writesS] at hw; simpa using hw.2
  have HAll := Lib.hid (And.intro o0 (And.intro o1' (And.intro o2' o3')))
  have hmf : decide (300 < (len : Int)) = false := by simp; omega
  have hnf : decide (63 < (N : Int)) = false := by simp; omega
  have hng : decide ((N : Int) < 0) = false := by simp
  clear hwf hl hw p1 p2 p3 q1 q2 q3 r1 r2 r3 s1 s2 s3 o0 o1 o2 o3 o1' o2' o3' hAT hA1 hA2 hA3
  go_enter Try.func6, Try.ntmps6
  go_wp2_with fail
  refine (rknown_any _).mono ?_
  rintro e w1 ⟨rfl, hb1⟩
  have hs1 := hb1.size
  have HB1 := Lib.hid hb1
  clear hb1
  go_wp2_with (first | (go_at_call 33; refine (kind_any _ _).mono ?_; rintro e w' ⟨rfl, rfl⟩) | fail)
  refine (rnew_any _).mono ?_
  rintro e w2 ⟨⟨rfl, hM2⟩, hb2⟩
  obtain ⟨g, hg⟩ : ∃ g, g = w1.heap.size := ⟨_, rfl⟩
  have HB2 := Lib.hid (HB1.out.trans (hb2.mono hs1))
  rw [← hg] at hM2 ⊢
  have hgW : W.heap.size ≤ g := by omega
  have HM2 := Lib.hid hM2
  clear hM2 hb2 hs1 HB1 hg hk0 hk4 hnf hng
  go_wp2_with fail
  go_loopw [8] (fun i wr => ∃ (k : Nat) (vs : List Int), k ≤ len ∧ i = .int .i64 k ∧ Hid (RFile wr g vs) ∧ Hid (Below W.heap.size W wr)) (fun i _ => len - (intOf i).toNat)
  case atStart => exact ⟨0, _, by omega, rfl, HM2, HB2⟩
  case round =>
    obtain ⟨k, vs, hk, rfl, HF, HB⟩ := hrel
    obtain ⟨wo, rfl⟩ : ∃ wo : World, wo = wr := ⟨_, rfl⟩
    by_cases hlt : k < len
    · have hx : l[k]? = some l[k] := List.getElem?_eq_getElem (by omega)
      obtain ⟨z, HZ⟩ : ∃ z, Hid (z = l[k]) := ⟨_, Lib.hid rfl⟩
      rw [← HZ.out] at hx
      clear HZ
      obtain ⟨zo, zn, zv, za⟩ := z
      obtain ⟨b, off, rfl, hbb, hc⟩ := HL.out.2 (by omega)
      clear hc
      have hflt := HF.out.lt
      have hK1 : ∀ w', Below W.heap.size W w' → w'.cell? ⟨b, off + k * 4 + 1, none⟩ = some (.int .i64 zn) := fun w' h => (RAct.fourAt HL.out h hlt hx).2.2.1
      have hK2 : ∀ w', Below W.heap.size W w' → w'.cell? ⟨b, off + k * 4 + 2, none⟩ = some (.int .u8 zv) := fun w' h => (RAct.fourAt HL.out h hlt hx).2.2.2.1
      have t1 : (0 : Int) ≤ (k : Int) := by omega
      have t2 : (k : Int) < (len : Int) := by omega
      clear hx
      go_wp2_with fail
      refine wp_region_held_drew (S := (fun w' => Below W.heap.size W w')) (by kernel_rfl) (HB.out.drew) (fun hHeld => ?_)
      refine held_take 0 (v := ?_) rfl (by kernel_rfl) (by kernel_rfl) (by kernel_rfl) (fun _ _ _ h => h) (by rfl) (fun w hS => ?_) (by assumption) ?_
      rotate_left
      · try dsimp only at hS
        go_simp <;> with_reducible rfl
      try simp only [Act.put, List.setIfInBounds_toArray, List.set_cons_zero, List.set_cons_succ]
      refine held_take 1 (v := ?_) rfl (by kernel_rfl) (by kernel_rfl) (by kernel_rfl) (fun _ _ _ h => h) (by rfl) (fun w hS => ?_) (by assumption) ?_
      rotate_left
      · try dsimp only at hS
        go_simp <;> with_reducible rfl
      try simp only [Act.put, List.setIfInBounds_toArray, List.set_cons_zero, List.set_cons_succ]
      refine held_take 2 (v := ?_) rfl (by kernel_rfl) (by kernel_rfl) (by kernel_rfl) (fun _ _ _ h => h) (by rfl) (fun w hS => ?_) (by assumption) ?_
      rotate_left
      · try dsimp only at hS
        go_simp <;> with_reducible rfl
      try simp only [Act.put, List.setIfInBounds_toArray, List.set_cons_zero, List.set_cons_succ]
      refine held_take 3 (v := ?_) rfl (by kernel_rfl) (by kernel_rfl) (by kernel_rfl) (fun _ _ _ h => h) (by rfl) (fun w hS => ?_) (by assumption) ?_
      rotate_left
      · try dsimp only at hS
        go_simp <;> with_reducible rfl
      try simp only [Act.put, List.setIfInBounds_toArray, List.set_cons_zero, List.set_cons_succ]
      refine held_take 4 (v := ?_) rfl (by kernel_rfl) (by kernel_rfl) (by kernel_rfl) (fun _ _ _ h => h) (by rfl) (fun w hS => ?_) (by assumption) ?_
      rotate_left
      · try dsimp only at hS
        go_simp <;> with_reducible rfl
      try simp only [Act.put, List.setIfInBounds_toArray, List.set_cons_zero, List.set_cons_succ]
      refine held_take 5 (v := ?_) rfl (by kernel_rfl) (by kernel_rfl) (by kernel_rfl) (fun _ _ _ h => h) (by rfl) (fun w hS => ?_) (by assumption) ?_
      rotate_left
      · try dsimp only at hS
        go_simp <;> with_reducible rfl
      try simp only [Act.put, List.setIfInBounds_toArray, List.set_cons_zero, List.set_cons_succ]
      refine held_take 6 (v := ?_) rfl (by kernel_rfl) (by kernel_rfl) (by kernel_rfl) (fun _ _ _ h => h) (by rfl) (fun w hS => ?_) (by assumption) ?_
      rotate_left
      · try dsimp only at hS
        go_simp <;> with_reducible rfl
      try simp only [Act.put, List.setIfInBounds_toArray, List.set_cons_zero, List.set_cons_succ]
      refine held_take 7 (v := ?_) rfl (by kernel_rfl) (by kernel_rfl) (by kernel_rfl) (fun _ _ _ h => h) (by rfl) (fun w hS => ?_) (by assumption) ?_
      rotate_left
      · try dsimp only at hS
        go_simp <;> with_reducible rfl
      try simp only [Act.put, List.setIfInBounds_toArray, List.set_cons_zero, List.set_cons_succ]
      refine held_take 8 (v := ?_) rfl (by kernel_rfl) (by kernel_rfl) (by kernel_rfl) (fun _ _ _ h => h) (by rfl) (fun w hS => ?_) (by assumption) ?_
      rotate_left
      · try dsimp only at hS
        go_simp <;> with_reducible rfl
      try simp only [Act.put, List.setIfInBounds_toArray, List.set_cons_zero, List.set_cons_succ]
      refine held_take 9 (v := ?_) rfl (by kernel_rfl) (by kernel_rfl) (by kernel_rfl) (fun _ _ _ h => h) (by rfl) (fun w hS => ?_) (by assumption) ?_
      rotate_left
      · try dsimp only at hS
        go_simp <;> with_reducible rfl
      try simp only [Act.put, List.setIfInBounds_toArray, List.set_cons_zero, List.set_cons_succ]
      refine held_take 10 (v := ?_) rfl (by kernel_rfl) (by kernel_rfl) (by kernel_rfl) (fun _ _ _ h => h) (by rfl) (fun w hS => ?_) (by assumption) ?_
      rotate_left
      · try dsimp only at hS
        go_simp <;> with_reducible rfl
      try simp only [Act.put, List.setIfInBounds_toArray, List.set_cons_zero, List.set_cons_succ]
      refine held_one 11 rfl (by kernel_rfl) (fun K hK => ?_)
      go_simp
      refine (write_any g vs zn zv _ HF.out.drew).mono ?_
      rintro e wn ⟨⟨rfl, hFn⟩, hgn⟩
      have hbn : Below W.heap.size W wn := below_gb HB.out.drew hgn HB.out.size hgW
      have HFn := Lib.hid hFn
      have HBn := Lib.hid hbn
      clear hFn hgn hK1 hK2
      refine hK.out _ _ (fun w' => Below W.heap.size W w') (fun _ h => h) hbn (fun hHeld => ?_)
      clear hK K
      try simp only [Act.put, List.setIfInBounds_toArray, List.set_cons_zero, List.set_cons_succ]
      refine held_done (by kernel_rfl) ?_
      go_wp2
      go_roundw
      case rel => exact ⟨k + 1, _, by omega, by go_num, HFn, HBn⟩
      case measure => simp [intOf]; omega
    · obtain rfl : k = len := by omega
      obtain ⟨x, hx⟩ : ∃ x, x = getS vs (N : Int) := ⟨_, rfl⟩
      have HX := Lib.hid hx
      have hn1 := HN1.out vs
      have hn2 := HN2.out vs
      have hn3 := HN3.out vs
      rw [← hx] at hn1 hn2 hn3
      simp at hn1 hn2 hn3
      have HN1' := Lib.hid hn1
      have HN2' := Lib.hid hn2
      have HN3' := Lib.hid hn3
      obtain ⟨b0, b1, b2, b3⟩ := HAll.out
      clear hx hn1 hn2 hn3
      go_wp2_with (first | (go_at_call 36; refine (get_any g vs N _ HF.out).mono ?_; rintro e w' ⟨rfl, rfl⟩; rw [← HX.out]) | fail)
      refine (rnext_lit HN1'.out g _ HF.out g1.1 g1.2).mono ?_
      rintro e w3 ⟨rfl, hb3⟩
      have HF3 := Lib.hid (HF.out.below hb3)
      have HB3 := Lib.hid (HB.out.trans (hb3.mono HB.out.size))
      clear hb3
      go_wp2_with fail
      refine (rnext_lit HN2'.out g _ HF3.out g2.1 g2.2).mono ?_
      rintro e w4 ⟨rfl, hb4⟩
      have HF4 := Lib.hid (HF3.out.below hb4)
      have HB4 := Lib.hid (HB3.out.trans (hb4.mono HB3.out.size))
      clear hb4
      go_wp2_with fail
      refine (rnext_lit HN3'.out g _ HF4.out g3.1 g3.2).mono ?_
      rintro e w5 ⟨rfl, hb5⟩
      have HF5 := Lib.hid (HF4.out.below hb5)
      have HB5 := Lib.hid (HB4.out.trans (hb5.mono HB4.out.size))
      clear hb5
      go_wp2_with fail
      refine (rnext_lit (HN0.out vs) g _ HF5.out g0.1 g0.2).mono ?_
      rintro e w6 ⟨rfl, hb6⟩
      have HF6 := Lib.hid (HF5.out.below hb6)
      have HB6 := Lib.hid (HB5.out.trans (hb6.mono HB5.out.size))
      clear hb6
      go_wp2_with (go_at_call 36; refine (get_any g vs N _ HF6.out).mono ?_; rintro e w' ⟨rfl, rfl⟩; rw [← HX.out])
      go_ret
      exact ⟨rfl, HB6.out⟩

set_option maxRecDepth 100000 in
set_option maxHeartbeats 2000000 in
theorem bits_any (a : Option Addr) (len cap : Nat) (l : List RAct) (n v : Int) (W : World) (hm : len ≤ 9223372036854775807) (hl : Rws 4 RAct.cells W a len l) (hwf : ∀ x ∈ l, x.wf) (hv0 : 0 ≤ v) (hv1 : v < 256) :
    Calls Try.prog 6 #[.slice a len cap, .int .i64 n, .int .u8 v] W fun e w' => e = .returned (.bool true) ∧ Below W.heap.size W w' := by
  by_cases h1 : 300 < len
  · go_enter Try.func6, Try.ntmps6
    go_wp2_with fail
    refine (rknown_any _).mono ?_
    rintro e w1 ⟨rfl, hb1⟩
    go_wp2_with fail
    go_ret
    exact ⟨rfl, hb1⟩
  · have d1 : decide (300 < (len : Int)) = false := by simp; omega
    by_cases h2 : n < 0
    · go_enter Try.func6, Try.ntmps6
      go_wp2_with fail
      refine (rknown_any _).mono ?_
      rintro e w1 ⟨rfl, hb1⟩
      go_wp2_with fail
      go_ret
      exact ⟨rfl, hb1⟩
    · by_cases h3 : 63 < n
      · go_enter Try.func6, Try.ntmps6
        go_wp2_with fail
        refine (rknown_any _).mono ?_
        rintro e w1 ⟨rfl, hb1⟩
        go_wp2_with fail
        go_ret
        exact ⟨rfl, hb1⟩
      · cases hw : writesS n
        · have hk : kindS n = 0 ∨ kindS n = 4 := by
            rcases kindS_five n with h | h | h | h | h <;> simp [writesS, h] at hw ⊢
          have HK := Lib.hid hk
          rcases hk with hk | hk
          · have HK := Lib.hid hk
            clear hk hw
            go_enter Try.func6, Try.ntmps6
            go_wp2_with fail
            refine (rknown_any _).mono ?_
            rintro e w1 ⟨rfl, hb1⟩
            go_wp2_with (go_at_call 33; refine (kind_any _ _).mono ?_; rintro e w' ⟨rfl, rfl⟩; rw [HK.out])
            go_ret
            exact ⟨rfl, hb1⟩
          · have HK := Lib.hid hk
            clear hk hw
            go_enter Try.func6, Try.ntmps6
            go_wp2_with fail
            refine (rknown_any _).mono ?_
            rintro e w1 ⟨rfl, hb1⟩
            go_wp2_with (go_at_call 33; refine (kind_any _ _).mono ?_; rintro e w' ⟨rfl, rfl⟩; rw [HK.out])
            go_ret
            exact ⟨rfl, hb1⟩
        · obtain ⟨N, rfl⟩ : ∃ N : Nat, n = N := ⟨n.toNat, by omega⟩
          obtain ⟨V, rfl⟩ : ∃ V : Nat, v = V := ⟨v.toNat, by omega⟩
          exact bits_walk a len cap l N V W (by omega) hl hwf (by omega) (by omega) hw

end Go.Proofs.Ytjjeopanffcbiaa
