/- RegsOnce: the walk. -/
import Derived.Test.YtjjeopanffcbiaaRegsG
import Derived.Test.YtjjeopanffcbiaaTokF
namespace Go.Proofs.Ytjjeopanffcbiaa
open Go Go.RowKit
set_option linter.unusedVariables false

theorem Bytes.at {w : World} {q n : Nat} {l : List Nat} (h : Bytes w (some ⟨q, 0, none⟩) n l) (i : Nat) (hi : i < n) : w.cell? ⟨q, i, none⟩ = some (.int .u8 (l.getD i 0 : Nat)) := by
  obtain ⟨b, off, he, hlt, hc⟩ := h.2.2 (by omega)
  simp at he
  obtain ⟨rfl, rfl⟩ := he
  have := hc i hi
  rwa [Nat.zero_add] at this

set_option maxRecDepth 100000 in
set_option maxHeartbeats 8000000 in
theorem once_walk (a : Option Addr) (len cap : Nat) (l : List RAct) (a2 : Option Addr) (len2 cap2 : Nat) (l2 : List RAct) (W : World) (hm : len ≤ 300) (hm2 : len2 ≤ 300) (hl : Rws 4 RAct.cells W a len l) (hl2 : Rws 4 RAct.cells W a2 len2 l2) (hwf : ∀ x ∈ l, x.wf) (hwf2 : ∀ x ∈ l2, x.wf) :
    Calls Try.prog 12 #[.slice a len cap, .slice a2 len2 cap2] W fun e w' => e = .returned (.bool true) ∧ Below W.heap.size W w' := by
  have hll := hl.1
  have hll2 := hl2.1
  have HL := Lib.hid hl
  have HWf := Lib.hid hwf
  have HL2 := Lib.hid hl2
  have HWf2 := Lib.hid hwf2
  have hmf : decide (300 < (len : Int)) = false := by simp; omega
  have hmf2 : decide (300 < (len2 : Int)) = false := by simp; omega
  clear hwf hl hwf2 hl2
  go_enter Try.func12, Try.ntmps12
  go_wp2_with fail
  refine (rknown_any _).mono ?_
  rintro e w1 ⟨rfl, hb1⟩
  have hs1 := hb1.size
  have HB1 := Lib.hid hb1
  clear hb1
  go_wp2_with fail
  refine (rnew_any _).mono ?_
  rintro e w2 ⟨⟨rfl, hM2⟩, hb2⟩
  obtain ⟨g, hg⟩ : ∃ g, g = w1.heap.size := ⟨_, rfl⟩
  have HB2 := Lib.hid (HB1.out.trans (hb2.mono hs1))
  rw [← hg] at hM2 ⊢
  have hgW : W.heap.size ≤ g := by omega
  have HM2 := Lib.hid hM2
  clear hM2 hb2 hs1 HB1 hg
  go_wp2_with fail
  go_loopw [6] (fun i wr => ∃ (k : Nat) (vs : List Int), k ≤ len ∧ i = .int .i64 k ∧ Hid (RFile wr g vs) ∧ Hid (OnceA vs) ∧ Hid (Below W.heap.size W wr)) (fun i _ => len - (intOf i).toNat)
  case atStart => exact ⟨0, _, by omega, rfl, HM2, Lib.hid OnceA.zeros, HB2⟩
  case round =>
    obtain ⟨k, vs, hk, rfl, HF, HQ, HB⟩ := hrel
    obtain ⟨wo, rfl⟩ : ∃ wo : World, wo = wr := ⟨_, rfl⟩
    by_cases hlt : k < len
    · have hx : l[k]? = some l[k] := List.getElem?_eq_getElem (by omega)
      obtain ⟨z, HZ⟩ : ∃ z, Hid (z = l[k]) := ⟨_, Lib.hid rfl⟩
      rw [← HZ.out] at hx
      clear HZ
      have hzw := HWf.out z (List.mem_of_getElem? hx)
      obtain ⟨z1, z2, ⟨z3, z4⟩, z5⟩ := hzw
      obtain ⟨zo, zn, zv, za⟩ := z
      dsimp only at z3 z4
      obtain ⟨b, off, rfl, hbb, hc⟩ := HL.out.2 (by omega)
      clear hc z1 z2 z5
      have hflt := HF.out.lt
      have hK1 : ∀ w', Below W.heap.size W w' → w'.cell? ⟨b, off + k * 4 + 1, none⟩ = some (.int .i64 zn) := fun w' h => (RAct.fourAt HL.out h hlt hx).2.2.1
      have hK2 : ∀ w', Below W.heap.size W w' → w'.cell? ⟨b, off + k * 4 + 2, none⟩ = some (.int .u8 zv) := fun w' h => (RAct.fourAt HL.out h hlt hx).2.2.2.1
      have t1 : (0 : Int) ≤ (k : Int) := by omega
      have t2 : (k : Int) < (len : Int) := by omega
      clear hx
      go_wp2_with fail
      refine wp_region_held_drew (S := (fun w' => Below W.heap.size W w')) (by kernel_rfl) (HB.out.drew) (fun hHeld => ?_)
      refine held_take 0 (v := ?_) rfl (by kernel_rfl) (by kernel_rfl) (by kernel_rfl) (fun _ _ _ h => h) (by rfl) (fun w hS => ?_) (by assumption) ?_
      rotate_left
      · try dsimp only at hS
        go_simp <;> with_reducible rfl
      try simp only [Act.put, List.setIfInBounds_toArray, List.set_cons_zero, List.set_cons_succ]
      refine held_take 1 (v := ?_) rfl (by kernel_rfl) (by kernel_rfl) (by kernel_rfl) (fun _ _ _ h => h) (by rfl) (fun w hS => ?_) (by assumption) ?_
      rotate_left
      · try dsimp only at hS
        go_simp <;> with_reducible rfl
      try simp only [Act.put, List.setIfInBounds_toArray, List.set_cons_zero, List.set_cons_succ]
      refine held_take 2 (v := ?_) rfl (by kernel_rfl) (by kernel_rfl) (by kernel_rfl) (fun _ _ _ h => h) (by rfl) (fun w hS => ?_) (by assumption) ?_
      rotate_left
      · try dsimp only at hS
        go_simp <;> with_reducible rfl
      try simp only [Act.put, List.setIfInBounds_toArray, List.set_cons_zero, List.set_cons_succ]
      refine held_take 3 (v := ?_) rfl (by kernel_rfl) (by kernel_rfl) (by kernel_rfl) (fun _ _ _ h => h) (by rfl) (fun w hS => ?_) (by assumption) ?_
      rotate_left
      · try dsimp only at hS
        go_simp <;> with_reducible rfl
      try simp only [Act.put, List.setIfInBounds_toArray, List.set_cons_zero, List.set_cons_succ]
      refine held_take 4 (v := ?_) rfl (by kernel_rfl) (by kernel_rfl) (by kernel_rfl) (fun _ _ _ h => h) (by rfl) (fun w hS => ?_) (by assumption) ?_
      rotate_left
      · try dsimp only at hS
        go_simp <;> with_reducible rfl
      try simp only [Act.put, List.setIfInBounds_toArray, List.set_cons_zero, List.set_cons_succ]
      refine held_take 5 (v := ?_) rfl (by kernel_rfl) (by kernel_rfl) (by kernel_rfl) (fun _ _ _ h => h) (by rfl) (fun w hS => ?_) (by assumption) ?_
      rotate_left
      · try dsimp only at hS
        go_simp <;> with_reducible rfl
      try simp only [Act.put, List.setIfInBounds_toArray, List.set_cons_zero, List.set_cons_succ]
      refine held_take 6 (v := ?_) rfl (by kernel_rfl) (by kernel_rfl) (by kernel_rfl) (fun _ _ _ h => h) (by rfl) (fun w hS => ?_) (by assumption) ?_
      rotate_left
      · try dsimp only at hS
        go_simp <;> with_reducible rfl
      try simp only [Act.put, List.setIfInBounds_toArray, List.set_cons_zero, List.set_cons_succ]
      refine held_take 7 (v := ?_) rfl (by kernel_rfl) (by kernel_rfl) (by kernel_rfl) (fun _ _ _ h => h) (by rfl) (fun w hS => ?_) (by assumption) ?_
      rotate_left
      · try dsimp only at hS
        go_simp <;> with_reducible rfl
      try simp only [Act.put, List.setIfInBounds_toArray, List.set_cons_zero, List.set_cons_succ]
      refine held_take 8 (v := ?_) rfl (by kernel_rfl) (by kernel_rfl) (by kernel_rfl) (fun _ _ _ h => h) (by rfl) (fun w hS => ?_) (by assumption) ?_
      rotate_left
      · try dsimp only at hS
        go_simp <;> with_reducible rfl
      try simp only [Act.put, List.setIfInBounds_toArray, List.set_cons_zero, List.set_cons_succ]
      refine held_take 9 (v := ?_) rfl (by kernel_rfl) (by kernel_rfl) (by kernel_rfl) (fun _ _ _ h => h) (by rfl) (fun w hS => ?_) (by assumption) ?_
      rotate_left
      · try dsimp only at hS
        go_simp <;> with_reducible rfl
      try simp only [Act.put, List.setIfInBounds_toArray, List.set_cons_zero, List.set_cons_succ]
      refine held_take 10 (v := ?_) rfl (by kernel_rfl) (by kernel_rfl) (by kernel_rfl) (fun _ _ _ h => h) (by rfl) (fun w hS => ?_) (by assumption) ?_
      rotate_left
      · try dsimp only at hS
        go_simp <;> with_reducible rfl
      try simp only [Act.put, List.setIfInBounds_toArray, List.set_cons_zero, List.set_cons_succ]
      refine held_one 11 rfl (by kernel_rfl) (fun K hK => ?_)
      go_simp
      refine (write_any g vs zn zv _ HF.out.drew).mono ?_
      rintro e wn ⟨⟨rfl, hFn⟩, hgn⟩
      have hbn : Below W.heap.size W wn := below_gb HB.out.drew hgn HB.out.size hgW
      have HFn := Lib.hid hFn
      have HBn := Lib.hid hbn
      clear hFn hgn hK1 hK2
      refine hK.out _ _ (fun w' => Below W.heap.size W w') (fun _ h => h) hbn (fun hHeld => ?_)
      clear hK K
      try simp only [Act.put, List.setIfInBounds_toArray, List.set_cons_zero, List.set_cons_succ]
      refine held_done (by kernel_rfl) ?_
      go_wp2
      go_roundw
      case rel => exact ⟨k + 1, _, by omega, by go_num, HFn, Lib.hid (HQ.out.write zn z3 z4), HBn⟩
      case measure => simp [intOf]; omega
    · obtain rfl : k = len := by omega
      have hw13 := last13 HQ.out HF.out.2
      have hst := OnceB.start HQ.out HF.out.2
      obtain ⟨v0, hv0⟩ : ∃ v0, v0 = vs.set 13 1 := ⟨_, rfl⟩
      rw [← hv0] at hw13 hst
      have HW13 := Lib.hid hw13
      have HSt := Lib.hid hst
      clear hw13 hst hv0 HM2 HB2
      go_wp2_with fail
      refine (write_lit HW13.out g _ HF.out).mono ?_
      rintro e w3 ⟨⟨rfl, hF3⟩, hg3⟩
      have HF3 : Hid (RFile w3 g v0) := Lib.hid hF3
      have HB3 := Lib.hid (below_gb HB.out hg3 HB.out.size hgW)
      clear hF3 hg3 HF HB HW13 HQ
      go_wp2_with fail
      refine (lastingB_any g v0 _ HF3.out HSt.out.1).mono ?_
      rintro e w4 ⟨⟨q, cq, rfl, hq, hcq, hY4⟩, hb4⟩
      have HF4 := Lib.hid (HF3.out.below hb4)
      have HB4 := Lib.hid (HB3.out.trans (hb4.mono HB3.out.size))
      have hglt := HF3.out.lt
      have NQ : Hid (q ≠ g) := Lib.hid (by omega)
      have h6 := hY4.at 6 (by omega)
      have h61 : ((lastL v0).getD 6 0 : Nat) = 1 := by
        rw [lastL_get v0 6 (by omega)]
        have := HSt.out.2.1
        simp only [lastN, List.getD, List.getElem?_cons_succ, List.getElem?_cons_zero, Option.getD_some] at this ⊢
        rw [this]; rfl
      rw [h61] at h6
      have HY4 := Lib.hid hY4
      clear hY4 hb4 HF3 HB3 h61 hq hglt
      go_wp2_with fail
      clear h6
      go_loopw [8] (fun i wr => ∃ (k : Nat) (vs : List Int), k ≤ len2 ∧ i = .int .i64 k ∧ Hid (RFile wr g vs) ∧ Hid (OnceB v0 vs) ∧ Hid (Bytes wr (some ⟨q, 0, none⟩) 7 (lastL v0)) ∧ Hid (Below W.heap.size W wr)) (fun i _ => len2 - (intOf i).toNat)
      case atStart => exact ⟨0, _, by omega, rfl, HF4, HSt, HY4, HB4⟩
      case round =>
        obtain ⟨j, vs, hj, rfl, HF, HQ, HY, HB⟩ := hrel
        obtain ⟨wo, rfl⟩ : ∃ wo : World, wo = wr := ⟨_, rfl⟩
        by_cases hlt2 : j < len2
        · have hx : l2[j]? = some l2[j] := List.getElem?_eq_getElem (by omega)
          obtain ⟨z, HZ⟩ : ∃ z, Hid (z = l2[j]) := ⟨_, Lib.hid rfl⟩
          rw [← HZ.out] at hx
          clear HZ
          have hzw := HWf2.out z (List.mem_of_getElem? hx)
          obtain ⟨z1, z2, ⟨z3, z4⟩, z5⟩ := hzw
          obtain ⟨zo, zn, zv, za⟩ := z
          dsimp only at z3 z4
          obtain ⟨b, off, rfl, hbb, hc⟩ := HL2.out.2 (by omega)
          clear hc z1 z2 z5
          have hflt := HF.out.lt
          have hK1 : ∀ w', Below W.heap.size W w' → w'.cell? ⟨b, off + j * 4 + 1, none⟩ = some (.int .i64 zn) := fun w' h => (RAct.fourAt HL2.out h hlt2 hx).2.2.1
          have hK2 : ∀ w', Below W.heap.size W w' → w'.cell? ⟨b, off + j * 4 + 2, none⟩ = some (.int .u8 zv) := fun w' h => (RAct.fourAt HL2.out h hlt2 hx).2.2.2.1
          have hK0 : ∀ w', Below W.heap.size W w' → w'.cell? ⟨b, off + j * 4, none⟩ = some (.int .i64 zo) := fun w' h => (RAct.fourAt HL2.out h hlt2 hx).2.1
          have HK0 := Lib.hid hK0
          have t1 : (0 : Int) ≤ (j : Int) := by omega
          have t2 : (j : Int) < (len2 : Int) := by omega
          clear hx hK0
          go_wp2_with fail
          refine wp_region_held_drew (S := (fun w' => Below W.heap.size W w')) (by kernel_rfl) (HB.out.drew) (fun hHeld => ?_)
          refine held_take 0 (v := ?_) rfl (by kernel_rfl) (by kernel_rfl) (by kernel_rfl) (fun _ _ _ h => h) (by rfl) (fun w hS => ?_) (by assumption) ?_
          rotate_left
          · try dsimp only at hS
            go_simp <;> with_reducible rfl
          try simp only [Act.put, List.setIfInBounds_toArray, List.set_cons_zero, List.set_cons_succ]
          refine held_take 1 (v := ?_) rfl (by kernel_rfl) (by kernel_rfl) (by kernel_rfl) (fun _ _ _ h => h) (by rfl) (fun w hS => ?_) (by assumption) ?_
          rotate_left
          · try dsimp only at hS
            go_simp <;> with_reducible rfl
          try simp only [Act.put, List.setIfInBounds_toArray, List.set_cons_zero, List.set_cons_succ]
          refine held_take 2 (v := ?_) rfl (by kernel_rfl) (by kernel_rfl) (by kernel_rfl) (fun _ _ _ h => h) (by rfl) (fun w hS => ?_) (by assumption) ?_
          rotate_left
          · try dsimp only at hS
            go_simp <;> with_reducible rfl
          try simp only [Act.put, List.setIfInBounds_toArray, List.set_cons_zero, List.set_cons_succ]
          refine held_take 3 (v := ?_) rfl (by kernel_rfl) (by kernel_rfl) (by kernel_rfl) (fun _ _ _ h => h) (by rfl) (fun w hS => ?_) (by assumption) ?_
          rotate_left
          · try dsimp only at hS
            go_simp <;> with_reducible rfl
          try simp only [Act.put, List.setIfInBounds_toArray, List.set_cons_zero, List.set_cons_succ]
          refine held_take 4 (v := ?_) rfl (by kernel_rfl) (by kernel_rfl) (by kernel_rfl) (fun _ _ _ h => h) (by rfl) (fun w hS => ?_) (by assumption) ?_
          rotate_left
          · try dsimp only at hS
            go_simp <;> with_reducible rfl
          try simp only [Act.put, List.setIfInBounds_toArray, List.set_cons_zero, List.set_cons_succ]
          refine held_take 5 (v := ?_) rfl (by kernel_rfl) (by kernel_rfl) (by kernel_rfl) (fun _ _ _ h => h) (by rfl) (fun w hS => ?_) (by assumption) ?_
          rotate_left
          · try dsimp only at hS
            go_simp <;> with_reducible rfl
          try simp only [Act.put, List.setIfInBounds_toArray, List.set_cons_zero, List.set_cons_succ]
          refine held_take 6 (v := ?_) rfl (by kernel_rfl) (by kernel_rfl) (by kernel_rfl) (fun _ _ _ h => h) (by rfl) (fun w hS => ?_) (by assumption) ?_
          rotate_left
          · try dsimp only at hS
            go_simp <;> with_reducible rfl
          try simp only [Act.put, List.setIfInBounds_toArray, List.set_cons_zero, List.set_cons_succ]
          refine held_take 7 (v := ?_) rfl (by kernel_rfl) (by kernel_rfl) (by kernel_rfl) (fun _ _ _ h => h) (by rfl) (fun w hS => ?_) (by assumption) ?_
          rotate_left
          · try dsimp only at hS
            go_simp <;> with_reducible rfl
          try simp only [Act.put, List.setIfInBounds_toArray, List.set_cons_zero, List.set_cons_succ]
          refine held_take 8 (v := ?_) rfl (by kernel_rfl) (by kernel_rfl) (by kernel_rfl) (fun _ _ _ h => h) (by rfl) (fun w hS => ?_) (by assumption) ?_
          rotate_left
          · try dsimp only at hS
            go_simp <;> with_reducible rfl
          try simp only [Act.put, List.setIfInBounds_toArray, List.set_cons_zero, List.set_cons_succ]
          refine held_take 9 (v := ?_) rfl (by kernel_rfl) (by kernel_rfl) (by kernel_rfl) (fun _ _ _ h => h) (by rfl) (fun w hS => ?_) (by assumption) ?_
          rotate_left
          · try dsimp only at hS
            go_simp <;> with_reducible rfl
          try simp only [Act.put, List.setIfInBounds_toArray, List.set_cons_zero, List.set_cons_succ]
          refine held_take 10 (v := ?_) rfl (by kernel_rfl) (by kernel_rfl) (by kernel_rfl) (fun _ _ _ h => h) (by rfl) (fun w hS => ?_) (by assumption) ?_
          rotate_left
          · try dsimp only at hS
            go_simp <;> with_reducible rfl
          try simp only [Act.put, List.setIfInBounds_toArray, List.set_cons_zero, List.set_cons_succ]
          refine held_one 11 rfl (by kernel_rfl) (fun K hK => ?_)
          go_simp
          refine (write_any g vs zn zv _ HF.out.drew).mono ?_
          rintro e wn ⟨⟨rfl, hFn⟩, hgn⟩
          have hbn : Below W.heap.size W wn := below_gb HB.out.drew hgn HB.out.size hgW
          have HYn := Lib.hid (HY.out.drew.grown hgn (fun _ ad h => by cases h; exact fun e => NQ.out (Option.some.inj e)))
          have HFn := Lib.hid hFn
          have HBn := Lib.hid hbn
          clear hFn hgn
          refine hK.out _ _ (fun w' => Below W.heap.size W w') (fun _ h => h) hbn (fun hHeld => ?_)
          clear hK K
          try simp only [Act.put, List.setIfInBounds_toArray, List.set_cons_zero, List.set_cons_succ]
          refine held_done (by kernel_rfl) ?_
          go_wp2_with fail
          refine wp_region_held_drew (S := (fun w' => Below W.heap.size W w')) (by kernel_rfl) (HBn.out.drew) (fun hHeld => ?_)
          refine held_take 0 (v := ?_) rfl (by kernel_rfl) (by kernel_rfl) (by kernel_rfl) (fun _ _ _ h => h) (by rfl) (fun w hS => ?_) (by assumption) ?_
          rotate_left
          · try dsimp only at hS
            go_simp <;> with_reducible rfl
          try simp only [Act.put, List.setIfInBounds_toArray, List.set_cons_zero, List.set_cons_succ]
          refine held_take 1 (v := ?_) rfl (by kernel_rfl) (by kernel_rfl) (by kernel_rfl) (fun _ _ _ h => h) (by rfl) (fun w hS => ?_) (by assumption) ?_
          rotate_left
          · try dsimp only at hS
            go_simp <;> with_reducible rfl
          try simp only [Act.put, List.setIfInBounds_toArray, List.set_cons_zero, List.set_cons_succ]
          refine held_take 2 (v := ?_) rfl (by kernel_rfl) (by kernel_rfl) (by kernel_rfl) (fun _ _ _ h => h) (by rfl) (fun w hS => ?_) (by assumption) ?_
          rotate_left
          · try dsimp only at hS
            go_simp <;> with_reducible rfl
          try simp only [Act.put, List.setIfInBounds_toArray, List.set_cons_zero, List.set_cons_succ]
          refine held_take 3 (v := ?_) rfl (by kernel_rfl) (by kernel_rfl) (by kernel_rfl) (fun _ _ _ h => h) (by rfl) (fun w hS => ?_) (by assumption) ?_
          rotate_left
          · try dsimp only at hS
            go_simp <;> with_reducible rfl
          try simp only [Act.put, List.setIfInBounds_toArray, List.set_cons_zero, List.set_cons_succ]
          refine held_take 4 (v := ?_) rfl (by kernel_rfl) (by kernel_rfl) (by kernel_rfl) (fun _ _ _ h => h) (by rfl) (fun w hS => ?_) (by assumption) ?_
          rotate_left
          · try dsimp only at hS
            go_simp <;> with_reducible rfl
          try simp only [Act.put, List.setIfInBounds_toArray, List.set_cons_zero, List.set_cons_succ]
          refine held_take 5 (v := ?_) rfl (by kernel_rfl) (by kernel_rfl) (by kernel_rfl) (fun _ _ _ h => h) (by rfl) (fun w hS => ?_) (by assumption) ?_
          rotate_left
          · try dsimp only at hS
            go_simp <;> with_reducible rfl
          try simp only [Act.put, List.setIfInBounds_toArray, List.set_cons_zero, List.set_cons_succ]
          refine held_take 6 (v := ?_) rfl (by kernel_rfl) (by kernel_rfl) (by kernel_rfl) (fun _ _ _ h => h) (by rfl) (fun w hS => ?_) (by assumption) ?_
          rotate_left
          · try dsimp only at hS
            go_simp <;> with_reducible rfl
          try simp only [Act.put, List.setIfInBounds_toArray, List.set_cons_zero, List.set_cons_succ]
          refine held_take 7 (v := ?_) rfl (by kernel_rfl) (by kernel_rfl) (by kernel_rfl) (fun _ _ _ h => h) (by rfl) (fun w hS => ?_) (by assumption) ?_
          rotate_left
          · try dsimp only at hS
            go_simp <;> with_reducible rfl
          try simp only [Act.put, List.setIfInBounds_toArray, List.set_cons_zero, List.set_cons_succ]
          refine held_take 8 (v := ?_) rfl (by kernel_rfl) (by kernel_rfl) (by kernel_rfl) (fun _ _ _ h => h) (by rfl) (fun w hS => ?_) (by assumption) ?_
          rotate_left
          · try dsimp only at hS
            go_simp <;> with_reducible rfl
          try simp only [Act.put, List.setIfInBounds_toArray, List.set_cons_zero, List.set_cons_succ]
          refine held_take 9 (v := ?_) rfl (by kernel_rfl) (by kernel_rfl) (by kernel_rfl) (fun _ _ _ h => h) (by rfl) (fun w hS => ?_) (by assumption) ?_
          rotate_left
          · try dsimp only at hS
            go_simp <;> with_reducible rfl
          try simp only [Act.put, List.setIfInBounds_toArray, List.set_cons_zero, List.set_cons_succ]
          refine held_take 10 (v := ?_) rfl (by kernel_rfl) (by kernel_rfl) (by kernel_rfl) (fun _ _ _ h => h) (by rfl) (fun w hS => ?_) (by assumption) ?_
          rotate_left
          · try dsimp only at hS
            go_simp <;> with_reducible rfl
          try simp only [Act.put, List.setIfInBounds_toArray, List.set_cons_zero, List.set_cons_succ]
          refine held_one 11 rfl (by kernel_rfl) (fun K hK => ?_)
          go_simp
          refine (show_any g _ zn zv _ HFn.out.drew).mono ?_
          rintro e wm ⟨⟨rfl, hFm⟩, hgm⟩
          have hbm : Below W.heap.size W wm := below_gb HBn.out.drew hgm HBn.out.size hgW
          have HYm := Lib.hid (HYn.out.drew.grown hgm (fun _ ad h => by cases h; exact fun e => NQ.out (Option.some.inj e)))
          have HFm := Lib.hid hFm
          have HBm := Lib.hid hbm
          clear hFm hgm
          refine hK.out _ _ (fun w' => Below W.heap.size W w') (fun _ h => h) hbm (fun hHeld => ?_)
          clear hK K
          try simp only [Act.put, List.setIfInBounds_toArray, List.set_cons_zero, List.set_cons_succ]
          refine held_done (by kernel_rfl) ?_
          have hc0 := HK0.out _ HBm.out
          clear hK1 hK2 hHeld
          have HQm := Lib.hid ((HQ.out.write HSt.out.1 zn z3 z4).show zn z3 z4)
          by_cases h4 : zo = 4
          · subst h4
            go_wp2_with (go_at_call 71; refine (powerUp_any g _ _ HFm.out).mono ?_; rintro e w7 ⟨⟨rfl, hF7⟩, hg7⟩; have HF7 := Lib.hid hF7; have HY7 := Lib.hid (HYm.out.grown hg7 (fun _ ad h => by cases h; exact fun e => NQ.out (Option.some.inj e))); have HB7 := Lib.hid (below_gb HBm.out hg7 HBm.out.size hgW); clear hF7 hg7)
            go_roundw
            case rel => exact ⟨j + 1, _, by omega, by go_num, HF7, Lib.hid HQm.out.power, HY7, HB7⟩
            case measure => simp [intOf]; omega
          · have b4 : (zo == 4) = false := by simpa using h4
            clear h4
            go_wp2_with fail
            go_roundw
            case rel => exact ⟨j + 1, _, by omega, by go_num, HFm, HQm, HYm, HBm⟩
            case measure => simp [intOf]; omega
        · obtain rfl : j = len2 := by omega
          go_wp2_with fail
          refine (lastingB_any g vs _ HF.out HQ.out.1).mono ?_
          rintro e wo ⟨⟨p, cp, rfl, hp, hcp, hY5⟩, hb5⟩
          have HB5 := Lib.hid (HB.out.trans (hb5.mono HB.out.size))
          have hYq := HY.out.below hb5 (Nat.le_refl _)
          have hdr := HQ.out.last
          have hsub := HQ.out.2.2.2
          have e0 := hYq.at 0 (by omega)
          have f0 := hY5.at 0 (by omega)
          obtain ⟨x0, hx0⟩ : ∃ x0, x0 = (lastL v0).getD 0 0 := ⟨_, rfl⟩
          obtain ⟨y0, hy0⟩ : ∃ y0, y0 = (lastL vs).getD 0 0 := ⟨_, rfl⟩
          rw [← hx0] at e0
          rw [← hy0] at f0
          have hand : bits BinOp.andNot .u8 (x0 : Int) (y0 : Int) = 0 := by
            rw [lastL_get v0 0 (by omega)] at hx0
            rw [lastL_get vs 0 (by omega)] at hy0
            have h1 := HSt.out.1 6
            have h2 := HQ.out.1 6
            have e1 : (x0 : Int) = v0.getD 6 0 := by rw [hx0]; exact Int.toNat_of_nonneg h1.1
            have e2 : (y0 : Int) = vs.getD 6 0 := by rw [hy0]; exact Int.toNat_of_nonneg h2.1
            rw [e1, e2]; exact hsub
          have d1 := hYq.drop 1 (by omega)
          have d2 := hY5.drop 1 (by omega)
          rw [hdr] at d2
          rw [Nat.zero_add] at d1 d2
          obtain ⟨D, hD⟩ : ∃ D, D = (lastL v0).drop 1 := ⟨_, rfl⟩
          rw [← hD] at d1 d2
          have s1 : ∀ (w' : World) (c : Nat), Below wo.heap.size wo w' → (convert 22 9 (.slice (some ⟨q, 1, none⟩) 6 c)).run Try.prog w' = .ok (.string (strB D)) w' := fun w' c h => run_str (P := Try.prog) (d1.below h (Nat.le_refl _)) 22 5 9 Try.underlying22 Try.underlying5 Try.underlying9 c
          have s2 : ∀ (w' : World) (c : Nat), Below wo.heap.size wo w' → (convert 22 9 (.slice (some ⟨p, 1, none⟩) 6 c)).run Try.prog w' = .ok (.string (strB D)) w' := fun w' c h => run_str (P := Try.prog) (d2.below h (Nat.le_refl _)) 22 5 9 Try.underlying22 Try.underlying5 Try.underlying9 c
          have c1 : ∀ w', Below wo.heap.size wo w' → w'.cell? ⟨q, 0, none⟩ = some (.int .u8 (x0 : Int)) := fun w' h => by
            have := (hYq.below h (Nat.le_refl _)).at 0 (by omega)
            rwa [← hx0] at this
          have c2 : ∀ w', Below wo.heap.size wo w' → w'.cell? ⟨p, 0, none⟩ = some (.int .u8 (y0 : Int)) := fun w' h => by
            have := (hY5.below h (Nat.le_refl _)).at 0 (by omega)
            rwa [← hy0] at this
          have u1 : (7 : Int) ≤ (cq : Int) := by omega
          have u2 : (7 : Int) ≤ (cp : Int) := by omega
          have n1 : ¬ cq = 1 := by omega
          have n2 : ¬ cp = 1 := by omega
          obtain ⟨sD, hsD⟩ : ∃ sD, sD = strB D := ⟨_, rfl⟩
          rw [← hsD] at s1 s2
          clear hYq hY5 hb5 hdr hsub e0 f0 hx0 hy0 d1 d2 hD hsD HY HF HQ HB HSt HF4 HY4 HB4 hp
          go_wp2_with fail
          refine wp_region_held_drew (S := (fun w' => Below wo.heap.size wo w')) (by kernel_rfl) ((Below.refl _ _).drew) (fun hHeld => ?_)
          refine held_take 0 (v := ?_) rfl (by kernel_rfl) (by kernel_rfl) (by kernel_rfl) (fun _ _ _ h => h) (by rfl) (fun w hS => ?_) (by assumption) ?_
          rotate_left
          · try dsimp only at hS
            go_simp <;> with_reducible rfl
          try simp only [Act.put, List.setIfInBounds_toArray, List.set_cons_zero, List.set_cons_succ]
          refine held_take 1 (v := ?_) rfl (by kernel_rfl) (by kernel_rfl) (by kernel_rfl) (fun _ _ _ h => h) (by rfl) (fun w hS => ?_) (by assumption) ?_
          rotate_left
          · try dsimp only at hS
            go_simp <;> with_reducible rfl
          try simp only [Act.put, List.setIfInBounds_toArray, List.set_cons_zero, List.set_cons_succ]
          refine held_take 2 (v := ?_) rfl (by kernel_rfl) (by kernel_rfl) (by kernel_rfl) (fun _ _ _ h => h) (by rfl) (fun w hS => ?_) (by assumption) ?_
          rotate_left
          · try dsimp only at hS
            go_simp <;> with_reducible rfl
          try simp only [Act.put, List.setIfInBounds_toArray, List.set_cons_zero, List.set_cons_succ]
          refine held_take 3 (v := ?_) rfl (by kernel_rfl) (by kernel_rfl) (by kernel_rfl) (fun _ _ _ h => h) (by rfl) (fun w hS => ?_) (by assumption) ?_
          rotate_left
          · try dsimp only at hS
            go_simp <;> with_reducible rfl
          try simp only [Act.put, List.setIfInBounds_toArray, List.set_cons_zero, List.set_cons_succ]
          refine held_take 4 (v := ?_) rfl (by kernel_rfl) (by kernel_rfl) (by kernel_rfl) (fun _ _ _ h => h) (by rfl) (fun w hS => ?_) (by assumption) ?_
          rotate_left
          · try dsimp only at hS
            go_simp <;> with_reducible rfl
          try simp only [Act.put, List.setIfInBounds_toArray, List.set_cons_zero, List.set_cons_succ]
          refine held_take 5 (v := ?_) rfl (by kernel_rfl) (by kernel_rfl) (by kernel_rfl) (fun _ _ _ h => h) (by rfl) (fun w hS => ?_) (by assumption) ?_
          rotate_left
          · try dsimp only at hS
            go_simp <;> with_reducible rfl
          try simp only [Act.put, List.setIfInBounds_toArray, List.set_cons_zero, List.set_cons_succ]
          refine held_take 6 (v := ?_) rfl (by kernel_rfl) (by kernel_rfl) (by kernel_rfl) (fun _ _ _ h => h) (by rfl) (fun w hS => ?_) (by assumption) ?_
          rotate_left
          · try dsimp only at hS
            go_simp <;> with_reducible rfl
          try simp only [Act.put, List.setIfInBounds_toArray, List.set_cons_zero, List.set_cons_succ]
          refine held_take 7 (v := ?_) rfl (by kernel_rfl) (by kernel_rfl) (by kernel_rfl) (fun _ _ _ h => h) (by rfl) (fun w hS => ?_) (by assumption) ?_
          rotate_left
          · try dsimp only at hS
            go_simp <;> with_reducible rfl
          try simp only [Act.put, List.setIfInBounds_toArray, List.set_cons_zero, List.set_cons_succ]
          refine held_take 8 (v := ?_) rfl (by kernel_rfl) (by kernel_rfl) (by kernel_rfl) (fun _ _ _ h => h) (by rfl) (fun w hS => ?_) (by assumption) ?_
          rotate_left
          · try dsimp only at hS
            go_simp <;> with_reducible rfl
          try simp only [Act.put, List.setIfInBounds_toArray, List.set_cons_zero, List.set_cons_succ]
          refine held_take 9 (v := ?_) rfl (by kernel_rfl) (by kernel_rfl) (by kernel_rfl) (fun _ _ _ h => h) (by rfl) (fun w hS => ?_) (by assumption) ?_
          rotate_left
          · try dsimp only at hS
            go_simp <;> with_reducible rfl
          try simp only [Act.put, List.setIfInBounds_toArray, List.set_cons_zero, List.set_cons_succ]
          refine held_take 10 (v := ?_) rfl (by kernel_rfl) (by kernel_rfl) (by kernel_rfl) (fun _ _ _ h => h) (by rfl) (fun w hS => ?_) (by assumption) ?_
          rotate_left
          · try dsimp only at hS
            go_simp <;> with_reducible rfl
          try simp only [Act.put, List.setIfInBounds_toArray, List.set_cons_zero, List.set_cons_succ]
          refine held_take 11 (v := ?_) rfl (by kernel_rfl) (by kernel_rfl) (by kernel_rfl) (fun _ _ _ h => h) (by rfl) (fun w hS => ?_) (by assumption) ?_
          rotate_left
          · try dsimp only at hS
            go_simp <;> with_reducible rfl
          try simp only [Act.put, List.setIfInBounds_toArray, List.set_cons_zero, List.set_cons_succ]
          refine held_take 12 (v := ?_) rfl (by kernel_rfl) (by kernel_rfl) (by kernel_rfl) (fun _ _ _ h => h) (by rfl) (fun w hS => ?_) (by assumption) ?_
          rotate_left
          · try dsimp only at hS
            go_simp <;> with_reducible rfl
          try simp only [Act.put, List.setIfInBounds_toArray, List.set_cons_zero, List.set_cons_succ]
          refine held_take 13 (v := ?_) rfl (by kernel_rfl) (by kernel_rfl) (by kernel_rfl) (fun _ _ _ h => h) (by rfl) (fun w hS => ?_) (by assumption) ?_
          rotate_left
          · try dsimp only at hS
            go_simp <;> with_reducible rfl
          try simp only [Act.put, List.setIfInBounds_toArray, List.set_cons_zero, List.set_cons_succ]
          refine held_take 14 (v := ?_) rfl (by kernel_rfl) (by kernel_rfl) (by kernel_rfl) (fun _ _ _ h => h) (by rfl) (fun w hS => ?_) (by assumption) ?_
          rotate_left
          · try dsimp only at hS
            go_simp <;> with_reducible rfl
          try simp only [Act.put, List.setIfInBounds_toArray, List.set_cons_zero, List.set_cons_succ]
          refine held_take 15 (v := ?_) rfl (by kernel_rfl) (by kernel_rfl) (by kernel_rfl) (fun _ _ _ h => h) (by rfl) (fun w hS => ?_) (by assumption) ?_
          rotate_left
          · try dsimp only at hS
            go_simp <;> with_reducible rfl
          try simp only [Act.put, List.setIfInBounds_toArray, List.set_cons_zero, List.set_cons_succ]
          refine held_take 16 (v := ?_) rfl (by kernel_rfl) (by kernel_rfl) (by kernel_rfl) (fun _ _ _ h => h) (by rfl) (fun w hS => ?_) (by assumption) ?_
          rotate_left
          · try dsimp only at hS
            go_simp <;> with_reducible rfl
          try simp only [Act.put, List.setIfInBounds_toArray, List.set_cons_zero, List.set_cons_succ]
          refine held_take 17 (v := ?_) rfl (by kernel_rfl) (by kernel_rfl) (by kernel_rfl) (fun _ _ _ h => h) (by rfl) (fun w hS => ?_) (by assumption) ?_
          rotate_left
          · try dsimp only at hS
            go_simp <;> with_reducible rfl
          try simp only [Act.put, List.setIfInBounds_toArray, List.set_cons_zero, List.set_cons_succ]
          refine held_done (by kernel_rfl) ?_
          go_wp2
          go_ret
          exact ⟨rfl, HB5.out.drew⟩

set_option maxRecDepth 100000 in
set_option maxHeartbeats 2000000 in
theorem once_all (a : Option Addr) (len cap : Nat) (l : List RAct) (a2 : Option Addr) (len2 cap2 : Nat) (l2 : List RAct) (W : World) (hm : len ≤ 9223372036854775807) (hm2 : len2 ≤ 9223372036854775807) (hl : Rws 4 RAct.cells W a len l) (hl2 : Rws 4 RAct.cells W a2 len2 l2) (hwf : ∀ x ∈ l, x.wf) (hwf2 : ∀ x ∈ l2, x.wf) :
    Calls Try.prog 12 #[.slice a len cap, .slice a2 len2 cap2] W fun e w' => e = .returned (.bool true) ∧ Below W.heap.size W w' := by
  by_cases h : len ≤ 300
  · by_cases h2 : len2 ≤ 300
    · exact once_walk a len cap l a2 len2 cap2 l2 W h h2 hl hl2 hwf hwf2
    · go_enter Try.func12, Try.ntmps12
      go_wp2_with fail
      refine (rknown_any _).mono ?_
      rintro e w1 ⟨rfl, hb1⟩
      go_wp2_with fail
      go_ret
      exact ⟨rfl, hb1⟩
  · go_enter Try.func12, Try.ntmps12
    go_wp2_with fail
    refine (rknown_any _).mono ?_
    rintro e w1 ⟨rfl, hb1⟩
    go_wp2_with fail
    go_ret
    exact ⟨rfl, hb1⟩

end Go.Proofs.Ytjjeopanffcbiaa
