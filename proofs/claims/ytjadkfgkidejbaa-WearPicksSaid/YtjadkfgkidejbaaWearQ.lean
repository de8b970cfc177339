/- WearPicks. -/
import Derived.Test.YtjadkfgkidejbaaWearP
import Derived.Test.YtjadkfgkidejbaaWearH
namespace Go.Proofs.Ytjadkfgkidejbaa
open Go.RowKit
set_option linter.unusedVariables false

set_option maxRecDepth 100000 in
set_option maxHeartbeats 40000000 in
theorem picks_walk (one : Bool) (gap : Int) (a : Option Addr) (len cap : Nat) (l : List Blk) (W : World) (hm : len ≤ 200) (hl : Rws 7 Blk.cells W a len l) :
    Calls Try.prog 5 #[.slice a len cap, .bool one, .int .i64 gap] W fun e w' => e = .returned (.bool true) ∧ Below W.heap.size W w' := by
  have hll := hl.1
  have HL := Lib.hid hl
  obtain ⟨x1, hx1⟩ : ∃ x, x = numOf (victimOf l) := ⟨_, rfl⟩
  obtain ⟨y1, hy1⟩ : ∃ x, x = (victimOf l).isSome := ⟨_, rfl⟩
  obtain ⟨x2, hx2⟩ : ∃ x, x = numOf (freshOf one l) := ⟨_, rfl⟩
  obtain ⟨y2, hy2⟩ : ∃ x, x = (freshOf one l).isSome := ⟨_, rfl⟩
  obtain ⟨x3, hx3⟩ : ∃ x, x = numOf (oldOf gap l) := ⟨_, rfl⟩
  obtain ⟨y3, hy3⟩ : ∃ x, x = (oldOf gap l).isSome := ⟨_, rfl⟩
  obtain ⟨x4, hx4⟩ : ∃ x, x = (totTo l l.length).1 := ⟨_, rfl⟩
  obtain ⟨y4, hy4⟩ : ∃ x, x = (totTo l l.length).2 := ⟨_, rfl⟩
  have X1 := Lib.hid hx1
  have Y1 := Lib.hid hy1
  have X2 := Lib.hid hx2
  have Y2 := Lib.hid hy2
  have X3 := Lib.hid hx3
  have Y3 := Lib.hid hy3
  have X4 := Lib.hid hx4
  have Y4 := Lib.hid hy4
  clear hx1 hy1 hx2 hy2 hx3 hy3 hx4 hy4 hl
  go_enter Try.func5, Try.ntmps5
  go_wp2_with fail
  refine (known_any _).mono ?_
  rintro e w1 ⟨rfl, hb1⟩
  have HB1 := Lib.hid hb1
  have HL1 := Lib.hid (HL.out.below hb1)
  clear hb1
  go_wp2_with fail
  refine (of_any a len cap l _ hm HL1.out).mono ?_
  rintro e w2 ⟨⟨ra, rc, rfl, hr2⟩, hb2⟩
  have HB2 := Lib.hid (HB1.out.trans (hb2.mono HB1.out.size))
  have HR2 := Lib.hid hr2
  clear hb2 hr2
  go_wp2_with fail
  refine (victim_any a len cap l _ (by omega) (HL.out.below HB2.out)).mono ?_
  rintro e w3 ⟨rfl, hb3⟩
  rw [← X1.out, ← Y1.out]
  have HR3 := Lib.hid (HR2.out.below hb3)
  have HB3 := Lib.hid (HB2.out.trans (hb3.mono HB2.out.size))
  clear hb3
  go_wp2_with fail
  refine (rvictim_any ra len rc l _ (by omega) HR3.out).mono ?_
  rintro e w4 ⟨rfl, hb4⟩
  rw [← X1.out, ← Y1.out]
  have HR4 := Lib.hid (HR3.out.below hb4)
  have HB4 := Lib.hid (HB3.out.trans (hb4.mono HB3.out.size))
  clear hb4
  go_wp2_with fail
  refine (fresh_any one a len cap l _ (by omega) (HL.out.below HB4.out)).mono ?_
  rintro e w5 ⟨rfl, hb5⟩
  rw [← X2.out, ← Y2.out]
  have HR5 := Lib.hid (HR4.out.below hb5)
  have HB5 := Lib.hid (HB4.out.trans (hb5.mono HB4.out.size))
  clear hb5
  go_wp2_with fail
  refine (rfresh_any one ra len rc l _ (by omega) HR5.out).mono ?_
  rintro e w6 ⟨rfl, hb6⟩
  rw [← X2.out, ← Y2.out]
  have HR6 := Lib.hid (HR5.out.below hb6)
  have HB6 := Lib.hid (HB5.out.trans (hb6.mono HB5.out.size))
  clear hb6
  go_wp2_with fail
  refine (old_any gap a len cap l _ (by omega) (HL.out.below HB6.out)).mono ?_
  rintro e w7 ⟨he, hb7⟩
  unfold oldPost at he
  subst he
  rw [← X3.out, ← Y3.out]
  have HR7 := Lib.hid (HR6.out.below hb7)
  have HB7 := Lib.hid (HB6.out.trans (hb7.mono HB6.out.size))
  clear hb7
  go_wp2_with fail
  refine (rold_any gap ra len rc l _ (by omega) HR7.out).mono ?_
  rintro e w8 ⟨rfl, hb8⟩
  rw [← X3.out, ← Y3.out]
  have HR8 := Lib.hid (HR7.out.below hb8)
  have HB8 := Lib.hid (HB7.out.trans (hb8.mono HB7.out.size))
  clear hb8
  go_wp2_with fail
  refine (total_any a len cap l _ (by omega) (HL.out.below HB8.out)).mono ?_
  rintro e w9 ⟨rfl, hb9⟩
  rw [← X4.out, ← Y4.out]
  have HR9 := Lib.hid (HR8.out.below hb9)
  have HB9 := Lib.hid (HB8.out.trans (hb9.mono HB8.out.size))
  clear hb9
  go_wp2_with fail
  refine (rtotal_any ra len rc l _ (by omega) HR9.out).mono ?_
  rintro e wt ⟨rfl, hbt⟩
  rw [← X4.out, ← Y4.out]
  have HRt := Lib.hid (HR9.out.below hbt)
  have HBt := Lib.hid (HB9.out.trans (hbt.mono HB9.out.size))
  clear hbt
  go_wp2_with fail
  go_loopw [24] (fun i wr => ∃ k : Nat, k ≤ len ∧ i = .int .i64 (k : Int) ∧ Hid (Below wt.heap.size wt wr)) (fun i _ => len - (intOf i).toNat)
  case atStart => exact ⟨0, by omega, rfl, Lib.hid (Below.refl _ _)⟩
  case round =>
    obtain ⟨k, hk, rfl, HB⟩ := hrel
    obtain ⟨wo, rfl⟩ : ∃ wo : World, wo = wr := ⟨_, rfl⟩
    have hbw : Below W.heap.size W wo := HBt.out.trans (HB.out.mono HBt.out.size)
    have HBW := Lib.hid hbw
    by_cases hlt : k < len
    · have hlo := HL.out.below hbw
      have hro := HRt.out.below HB.out
      obtain ⟨bb, off, rfl, hlt2, hc⟩ := hlo.2 (by omega)
      obtain ⟨bb2, off2, rfl, hlt22, hcr⟩ := hro.2 (by omega)
      obtain ⟨zn, zl, zp, zw, zo, zi, zb, hx⟩ : ∃ zn zl zp zw zo zi zb, l[k]? = some ⟨zn, zl, zp, zw, zo, zi, zb⟩ := ⟨_, _, _, _, _, _, _, List.getElem?_eq_getElem (by omega)⟩
      obtain ⟨hc0, hc1, hc2, hc3, hc4, hc5, hc6⟩ := Blk.sevenAll hlo hlt hx
      obtain ⟨he0, he1, he2, he3, he4, he5, he6⟩ := Blk.sevenAll hro hlt hx
      dsimp only at hc0 hc1 hc2 hc3 hc4 hc5 hc6 he0 he1 he2 he3 he4 he5 he6
      have t1 : (k : Int) < (len : Int) := by omega
      have t2 : (0 : Int) ≤ (k : Int) := by omega
      have t3 : ((k : Int)).toNat = k := by omega
      have hd : Below wo.heap.size wo wo.drew := (Below.refl _ _).drew
      have hbo := HB.out.size
      clear hc hcr hlo hro hx hbw
      cases hrz : rightB ⟨zn, zl, zp, zw, zo, zi, zb⟩ with
      | false =>
        go_wp2_with fail
        refine wp_region_held_drew (S := (fun w' => Below wo.heap.size wo w')) (by kernel_rfl) (hd) (fun hHeld => ?_)
        refine held_take 0 (v := ?_) rfl (by kernel_rfl) (by kernel_rfl) (by kernel_rfl) (fun _ _ _ h => h) (by rfl) (fun w hS => ?_) (by assumption) ?_
        rotate_left
        · try dsimp only at hS
          go_simp <;> with_reducible rfl
        try simp only [Act.put, List.setIfInBounds_toArray, List.set_cons_zero, List.set_cons_succ]
        refine held_take 1 (v := ?_) rfl (by kernel_rfl) (by kernel_rfl) (by kernel_rfl) (fun _ _ _ h => h) (by rfl) (fun w hS => ?_) (by assumption) ?_
        rotate_left
        · try dsimp only at hS
          go_simp <;> with_reducible rfl
        try simp only [Act.put, List.setIfInBounds_toArray, List.set_cons_zero, List.set_cons_succ]
        refine held_take 2 (v := ?_) rfl (by kernel_rfl) (by kernel_rfl) (by kernel_rfl) (fun _ _ _ h => h) (by rfl) (fun w hS => ?_) (by assumption) ?_
        rotate_left
        · try dsimp only at hS
          go_simp <;> with_reducible rfl
        try simp only [Act.put, List.setIfInBounds_toArray, List.set_cons_zero, List.set_cons_succ]
        refine held_take 3 (v := ?_) rfl (by kernel_rfl) (by kernel_rfl) (by kernel_rfl) (fun _ _ _ h => h) (by rfl) (fun w hS => ?_) (by assumption) ?_
        rotate_left
        · try dsimp only at hS
          go_simp <;> with_reducible rfl
        try simp only [Act.put, List.setIfInBounds_toArray, List.set_cons_zero, List.set_cons_succ]
        refine held_take 5 (v := ?_) rfl (by kernel_rfl) (by kernel_rfl) (by kernel_rfl) (fun _ _ _ h => h) (by rfl) (fun w hS => ?_) (by assumption) ?_
        rotate_left
        · try dsimp only at hS
          go_simp <;> with_reducible rfl
        try simp only [Act.put, List.setIfInBounds_toArray, List.set_cons_zero, List.set_cons_succ]
        refine held_take 6 (v := ?_) rfl (by kernel_rfl) (by kernel_rfl) (by kernel_rfl) (fun _ _ _ h => h) (by rfl) (fun w hS => ?_) (by assumption) ?_
        rotate_left
        · try dsimp only at hS
          go_simp <;> with_reducible rfl
        try simp only [Act.put, List.setIfInBounds_toArray, List.set_cons_zero, List.set_cons_succ]
        refine held_take 7 (v := ?_) rfl (by kernel_rfl) (by kernel_rfl) (by kernel_rfl) (fun _ _ _ h => h) (by rfl) (fun w hS => ?_) (by assumption) ?_
        rotate_left
        · try dsimp only at hS
          go_simp <;> with_reducible rfl
        try simp only [Act.put, List.setIfInBounds_toArray, List.set_cons_zero, List.set_cons_succ]
        refine held_take 8 (v := ?_) rfl (by kernel_rfl) (by kernel_rfl) (by kernel_rfl) (fun _ _ _ h => h) (by rfl) (fun w hS => ?_) (by assumption) ?_
        rotate_left
        · try dsimp only at hS
          go_simp <;> with_reducible rfl
        try simp only [Act.put, List.setIfInBounds_toArray, List.set_cons_zero, List.set_cons_succ]
        refine held_one 4 rfl (by kernel_rfl) (fun K hK => ?_)
        go_simp
        refine Calls.mono (right7_lit _ _ _ _ _ _ _ _ hrz) ?_
        rintro e wa ⟨rfl, hb⟩
        have hbA : Below wo.heap.size wo wa := hd.trans (hb.mono hd.size)
        refine hK.out _ _ (fun w' => Below wo.heap.size wo w') (fun _ h => h) hbA (fun hHeld => ?_)
        clear hK K
        try simp only [Act.put, List.setIfInBounds_toArray, List.set_cons_zero, List.set_cons_succ]
        refine held_one 9 rfl (by kernel_rfl) (fun K hK => ?_)
        go_simp
        refine Calls.mono (rright_lit _ _ _ _ _ _ _ _ hrz) ?_
        rintro e wb ⟨rfl, hb2⟩
        have hbB : Below wo.heap.size wo wb := hbA.trans (hb2.mono hbA.size)
        refine hK.out _ _ (fun w' => Below wo.heap.size wo w') (fun _ h => h) hbB (fun hHeld => ?_)
        clear hK K
        try simp only [Act.put, List.setIfInBounds_toArray, List.set_cons_zero, List.set_cons_succ]
        refine held_take 10 (v := ?_) rfl (by kernel_rfl) (by kernel_rfl) (by kernel_rfl) (fun _ _ _ h => h) (by rfl) (fun w hS => ?_) (by assumption) ?_
        rotate_left
        · try dsimp only at hS
          go_simp <;> with_reducible rfl
        try simp only [Act.put, List.setIfInBounds_toArray, List.set_cons_zero, List.set_cons_succ]
        refine held_done (by kernel_rfl) ?_
        go_wp2
        go_roundw
        case rel => exact ⟨k + 1, by omega, by go_num, Lib.hid (HB.out.trans (hbB.mono hbo))⟩
        case measure => simp [intOf]; omega
      | true =>
        go_wp2_with fail
        refine wp_region_held_drew (S := (fun w' => Below wo.heap.size wo w')) (by kernel_rfl) (hd) (fun hHeld => ?_)
        refine held_take 0 (v := ?_) rfl (by kernel_rfl) (by kernel_rfl) (by kernel_rfl) (fun _ _ _ h => h) (by rfl) (fun w hS => ?_) (by assumption) ?_
        rotate_left
        · try dsimp only at hS
          go_simp <;> with_reducible rfl
        try simp only [Act.put, List.setIfInBounds_toArray, List.set_cons_zero, List.set_cons_succ]
        refine held_take 1 (v := ?_) rfl (by kernel_rfl) (by kernel_rfl) (by kernel_rfl) (fun _ _ _ h => h) (by rfl) (fun w hS => ?_) (by assumption) ?_
        rotate_left
        · try dsimp only at hS
          go_simp <;> with_reducible rfl
        try simp only [Act.put, List.setIfInBounds_toArray, List.set_cons_zero, List.set_cons_succ]
        refine held_take 2 (v := ?_) rfl (by kernel_rfl) (by kernel_rfl) (by kernel_rfl) (fun _ _ _ h => h) (by rfl) (fun w hS => ?_) (by assumption) ?_
        rotate_left
        · try dsimp only at hS
          go_simp <;> with_reducible rfl
        try simp only [Act.put, List.setIfInBounds_toArray, List.set_cons_zero, List.set_cons_succ]
        refine held_take 3 (v := ?_) rfl (by kernel_rfl) (by kernel_rfl) (by kernel_rfl) (fun _ _ _ h => h) (by rfl) (fun w hS => ?_) (by assumption) ?_
        rotate_left
        · try dsimp only at hS
          go_simp <;> with_reducible rfl
        try simp only [Act.put, List.setIfInBounds_toArray, List.set_cons_zero, List.set_cons_succ]
        refine held_take 5 (v := ?_) rfl (by kernel_rfl) (by kernel_rfl) (by kernel_rfl) (fun _ _ _ h => h) (by rfl) (fun w hS => ?_) (by assumption) ?_
        rotate_left
        · try dsimp only at hS
          go_simp <;> with_reducible rfl
        try simp only [Act.put, List.setIfInBounds_toArray, List.set_cons_zero, List.set_cons_succ]
        refine held_take 6 (v := ?_) rfl (by kernel_rfl) (by kernel_rfl) (by kernel_rfl) (fun _ _ _ h => h) (by rfl) (fun w hS => ?_) (by assumption) ?_
        rotate_left
        · try dsimp only at hS
          go_simp <;> with_reducible rfl
        try simp only [Act.put, List.setIfInBounds_toArray, List.set_cons_zero, List.set_cons_succ]
        refine held_take 7 (v := ?_) rfl (by kernel_rfl) (by kernel_rfl) (by kernel_rfl) (fun _ _ _ h => h) (by rfl) (fun w hS => ?_) (by assumption) ?_
        rotate_left
        · try dsimp only at hS
          go_simp <;> with_reducible rfl
        try simp only [Act.put, List.setIfInBounds_toArray, List.set_cons_zero, List.set_cons_succ]
        refine held_take 8 (v := ?_) rfl (by kernel_rfl) (by kernel_rfl) (by kernel_rfl) (fun _ _ _ h => h) (by rfl) (fun w hS => ?_) (by assumption) ?_
        rotate_left
        · try dsimp only at hS
          go_simp <;> with_reducible rfl
        try simp only [Act.put, List.setIfInBounds_toArray, List.set_cons_zero, List.set_cons_succ]
        refine held_one 4 rfl (by kernel_rfl) (fun K hK => ?_)
        go_simp
        refine Calls.mono (right7_lit _ _ _ _ _ _ _ _ hrz) ?_
        rintro e wa ⟨rfl, hb⟩
        have hbA : Below wo.heap.size wo wa := hd.trans (hb.mono hd.size)
        refine hK.out _ _ (fun w' => Below wo.heap.size wo w') (fun _ h => h) hbA (fun hHeld => ?_)
        clear hK K
        try simp only [Act.put, List.setIfInBounds_toArray, List.set_cons_zero, List.set_cons_succ]
        refine held_one 9 rfl (by kernel_rfl) (fun K hK => ?_)
        go_simp
        refine Calls.mono (rright_lit _ _ _ _ _ _ _ _ hrz) ?_
        rintro e wb ⟨rfl, hb2⟩
        have hbB : Below wo.heap.size wo wb := hbA.trans (hb2.mono hbA.size)
        refine hK.out _ _ (fun w' => Below wo.heap.size wo w') (fun _ h => h) hbB (fun hHeld => ?_)
        clear hK K
        try simp only [Act.put, List.setIfInBounds_toArray, List.set_cons_zero, List.set_cons_succ]
        refine held_take 10 (v := ?_) rfl (by kernel_rfl) (by kernel_rfl) (by kernel_rfl) (fun _ _ _ h => h) (by rfl) (fun w hS => ?_) (by assumption) ?_
        rotate_left
        · try dsimp only at hS
          go_simp <;> with_reducible rfl
        try simp only [Act.put, List.setIfInBounds_toArray, List.set_cons_zero, List.set_cons_succ]
        refine held_done (by kernel_rfl) ?_
        go_wp2
        go_roundw
        case rel => exact ⟨k + 1, by omega, by go_num, Lib.hid (HB.out.trans (hbB.mono hbo))⟩
        case measure => simp [intOf]; omega
    · obtain rfl : k = len := by omega
      go_wp2
      go_ret
      exact ⟨rfl, HBW.out⟩

theorem picks_any (one : Bool) (gap : Int) (a : Option Addr) (len cap : Nat) (l : List Blk) (W : World) (hm : len ≤ maxLen) (hl : Rws 7 Blk.cells W a len l) :
    Calls Try.prog 5 #[.slice a len cap, .bool one, .int .i64 gap] W fun e w' => e = .returned (.bool true) ∧ Below W.heap.size W w' := by
  unfold maxLen at hm
  by_cases h : len ≤ 200
  · exact picks_walk one gap a len cap l W h hl
  · clear hl
    go_enter Try.func5, Try.ntmps5
    go_wp2_with (go_at_call 27; refine (known_any _).mono ?_; rintro e w1 ⟨rfl, hb⟩)
    go_ret
    exact ⟨rfl, hb⟩

end Go.Proofs.Ytjadkfgkidejbaa
