/- RegsPlays. -/
import Derived.Test.YtjjeopanffcbiaaRegsN
import Derived.Deep.DeepCutAuto
import Derived.Deep.CutBlock
namespace Go.Proofs.Ytjjeopanffcbiaa
open Go Go.RowKit
set_option linter.unusedVariables false

/-- What holds of a file in a play: also what lasts may be. -/
def OkP (vs : List Int) : Prop := OkF vs ∧ ∀ i, i < 7 → mayS ((lastN.getD i 0 : Nat) : Int) (vs.getD (lastN.getD i 0) 0) = true
theorem OkP.zeros : OkP zeros64 := ⟨OkF.zeros, fun i hi => by
  rw [zeros_get]
  match i, hi with
  | 0, _ => decide
  | 1, _ => decide
  | 2, _ => decide
  | 3, _ => decide
  | 4, _ => decide
  | 5, _ => decide
  | 6, _ => decide⟩
theorem lastN_k3 (i : Nat) (h : i < 7) : kindS ((lastN.getD i 0 : Nat) : Int) = 3 := by
  match i, h with
  | 0, _ => decide
  | 1, _ => decide
  | 2, _ => decide
  | 3, _ => decide
  | 4, _ => decide
  | 5, _ => decide
  | 6, _ => decide
theorem OkP.write {vs : List Int} (h : OkP vs) (n : Int) {v : Int} (h0 : 0 ≤ v) (h1 : v < 256) : OkP (writeS vs n v).2 := by
  refine ⟨h.1.write n h0 h1, fun i hi => ?_⟩
  rcases writeS_cases vs n v with e | ⟨e, hm, hw, _⟩
  · rw [e]; exact h.2 i hi
  · rw [e, set_getD]
    split
    · rename_i hh
      have hr := kindS_range (n := n) (by simp [writesS] at hw; exact hw.1)
      rw [← hh.1, show ((n.toNat : Nat) : Int) = n by omega]
      exact hm
    · exact h.2 i hi
theorem OkP.show {vs : List Int} (h : OkP vs) (n : Int) {v : Int} (h0 : 0 ≤ v) (h1 : v < 256) : OkP (showS vs n v) := by
  refine ⟨h.1.show n h0 h1, fun i hi => ?_⟩
  unfold showS
  split
  · rename_i hk
    rw [set_getD, if_neg]
    · exact h.2 i hi
    · rintro ⟨e, _⟩
      have hr := kindS_range (n := n) (by omega)
      have h3 := lastN_k3 i hi
      rw [← e, show ((n.toNat : Nat) : Int) = n by omega] at h3
      omega
  · exact h.2 i hi
theorem OkP.power {vs : List Int} (h : OkP vs) : OkP (((vs.set 0 0).set 1 0).set 5 0) := by
  refine ⟨h.1.power, fun i hi => ?_⟩
  have hne : lastN.getD i 0 ≠ 0 ∧ lastN.getD i 0 ≠ 1 ∧ lastN.getD i 0 ≠ 5 := by
    match i, hi with
    | 0, _ => decide
    | 1, _ => decide
    | 2, _ => decide
    | 3, _ => decide
    | 4, _ => decide
    | 5, _ => decide
    | 6, _ => decide
  rw [set_getD, if_neg (by omega), set_getD, if_neg (by omega), set_getD, if_neg (by omega)]
  exact h.2 i hi
theorem OkP.may {vs : List Int} (h : OkP vs) : ∀ i, i < 7 → mayAt (lastL vs) i = true := by
  intro i hi
  unfold mayAt
  rw [lastL_get vs i hi, Int.toNat_of_nonneg (h.1.1 _).1]
  exact h.2 i hi
theorem OkP.loadOk {vs : List Int} (h : OkP vs) : loadOk (lastL vs) = true := loadOk_yes (lastL_len vs) h.may
theorem OkP.load {vs : List Int} (h : OkP vs) : OkP (loadTo (lastL vs) 7) := by
  have hl := lastL_lt h.1.1
  refine ⟨loadTo_ok hl 7 (by omega) h.may, fun i hi => ?_⟩
  have hm := h.may i hi
  unfold mayAt at hm
  have e : ((lastL vs).getD i 0 : Int) = (loadTo (lastL vs) 7).getD (lastN.getD i 0) 0 := by
    have h1 := lastL_get (loadTo (lastL vs) 7) i hi
    rw [loadTo_last (lastL_len vs)] at h1
    rw [h1]
    exact Int.toNat_of_nonneg ((loadTo_ok hl 7 (by omega) h.may).1 _).1
  rw [← e]; exact hm

/-- At each round's head: both files are alike. -/
def RBoth (W wr : World) (g g2 : Nat) (vs : List Int) : Prop := RFile wr g vs ∧ QFile wr g2 vs ∧ g ≠ g2 ∧ W.heap.size ≤ g ∧ W.heap.size ≤ g2 ∧ OkP vs ∧ Below W.heap.size W wr
abbrev ActAt (w : World) (gA : Nat) (zo zn zv za : Int) : Prop := HasB w gA #[.int .i64 zo, .int .i64 zn, .int .u8 zv, .int .u32 za] 55
def RIn (W wx : World) (gA g g2 : Nat) (zo zn zv za : Int) (vs : List Int) : Prop := ActAt wx gA zo zn zv za ∧ RBoth W wx g g2 vs ∧ gA ≠ g ∧ gA ≠ g2 ∧ W.heap.size ≤ gA
theorem u8_in (op : BinOp) (a b : Int) : 0 ≤ bits op .u8 a b ∧ bits op .u8 a b < 256 := by
  have h := bits_within op .u8 a b
  simp [IntKind.min, IntKind.max, IntKind.signed, IntKind.bits] at h
  omega
theorem nextR_val (vs : List Int) (a : Int) : 0 ≤ (nextR vs a).2.1 ∧ (nextR vs a).2.1 < 256 := by
  unfold nextR
  split
  · simp
  · split
    · simp
    · simp only
      split
      · exact u8_in _ _ _
      · split
        · exact u8_in _ _ _
        · unfold valOf; omega

set_option maxRecDepth 100000 in
set_option maxHeartbeats 8000000 in
theorem rplays_walk (a : Option Addr) (len cap : Nat) (l : List RAct) (W : World) (hm : len ≤ 300) (hl : Rws 4 RAct.cells W a len l) (hwf : ∀ x ∈ l, x.wf) :
    Calls Try.prog 14 #[.slice a len cap] W fun e w' => e = .returned (.bool true) ∧ Below W.heap.size W w' := by
  have hll := hl.1
  have HL := Lib.hid hl
  have HWf := Lib.hid hwf
  clear hwf hl
  have hmf : decide (300 < (len : Int)) = false := by simp; omega
  go_enter Try.func14, Try.ntmps14
  go_wp2_with fail
  refine (rknown_any _).mono ?_
  rintro e w1 ⟨rfl, hb1⟩
  have hs1 := hb1.size
  have HB1 := Lib.hid hb1
  clear hb1
  go_wp2_with fail
  refine (rnew_any _).mono ?_
  rintro e w2 ⟨⟨rfl, hM2⟩, hb2⟩
  obtain ⟨g, hg⟩ : ∃ g, g = w1.heap.size := ⟨_, rfl⟩
  have HB2 := Lib.hid (HB1.out.trans (hb2.mono hs1))
  rw [← hg] at hM2 ⊢
  have hgW : W.heap.size ≤ g := by omega
  have HM2 := Lib.hid hM2
  have hglt := hM2.lt
  clear hM2 hb2 hs1 HB1 hg
  go_wp2_with fail
  go_loopw [3, 4, 5] (fun f r i wr => ∃ (k g g2 : Nat) (vs : List Int), k ≤ len ∧ i = .int .i64 k ∧ f = .pointer (some ⟨g, 0, none⟩) ∧ r = .pointer (some ⟨g2, 0, none⟩) ∧ Hid (RBoth W wr g g2 vs)) (fun _ _ i _ => len - (intOf i).toNat)
  case atStart => exact ⟨0, g, w2.heap.size, zeros64, by omega, rfl, rfl, rfl, Lib.hid ⟨⟨HM2.out.1.alloc _, HM2.out.2⟩, ⟨HasB.new w2 _ _, by simp [zeros64]⟩, by omega, hgW, HB2.out.size, OkP.zeros, HB2.out.alloc HB2.out.size _⟩⟩
  case round =>
    clear HM2 hglt hgW HB2
    obtain ⟨k, g, g2, vs, hk, rfl, rfl, rfl, HBo⟩ := hrel
    obtain ⟨wo, rfl⟩ : ∃ wo : World, wo = wr := ⟨_, rfl⟩
    by_cases hlt : k < len
    · have hx : l[k]? = some l[k] := List.getElem?_eq_getElem (by omega)
      obtain ⟨z, HZ⟩ : ∃ z, Hid (z = l[k]) := ⟨_, Lib.hid rfl⟩
      rw [← HZ.out] at hx
      clear HZ
      obtain ⟨b, off, rfl, hbb, hc⟩ := HL.out.2 (by omega)
      clear hc
      obtain ⟨hF, hQ, hne, hgW, hgW2, hOK, hB⟩ := HBo.out
      obtain ⟨hlt3, hc0, hc1, hc2, hc3⟩ := RAct.fourAt HL.out hB hlt hx
      have hzw := HWf.out z (List.mem_of_getElem? hx)
      obtain ⟨z1, z2, ⟨z3, z4⟩, ⟨z5, z6⟩⟩ := hzw
      clear hx
      obtain ⟨zo, zn, zv, za⟩ := z
      dsimp only at hc0 hc1 hc2 hc3 z1 z2 z3 z4 z5 z6
      have hflt := hF.lt
      have hqlt := hQ.lt
      have hA := HasB.new wo #[.int .i64 zo, .int .i64 zn, .int .u8 zv, .int .u32 za] 55
      have HIn : Hid (RIn W (wo.alloc (.cells #[.int .i64 zo, .int .i64 zn, .int .u8 zv, .int .u32 za] 55)) wo.heap.size g g2 zo zn zv za vs) :=
        Lib.hid ⟨hA, ⟨⟨hF.1.alloc _, hF.2⟩, ⟨hQ.1.alloc _, hQ.2⟩, hne, hgW, hgW2, hOK, hB.alloc hB.size _⟩, Nat.ne_of_gt hflt, Nat.ne_of_gt hqlt, hB.size⟩
      clear hA hF hQ hOK hB HBo
      go_upto_block 2 with fail
      clear hc0 hc1 hc2 hc3
      obtain ⟨gA, hgA⟩ : ∃ gA, gA = wo.heap.size := ⟨_, rfl⟩
      rw [← hgA] at HIn ⊢
      clear hgA
      obtain ⟨wB, hwB⟩ : ∃ wB, wB = wo.alloc (.cells #[.int .i64 zo, .int .i64 zn, .int .u8 zv, .int .u32 za] 55) := ⟨_, rfl⟩
      rw [← hwB] at HIn ⊢
      clear hwB hflt hqlt
      go_cut [3, 4, 7, 8, 9, 10, 11, 12, 13, 14, 15, 16] (fun f r v7 v8 v9 v10 v11 v12 v13 v14 v15 v16 wx => ∃ (g g2 : Nat) (vs : List Int), f = .pointer (some ⟨g, 0, none⟩) ∧ r = .pointer (some ⟨g2, 0, none⟩) ∧ Hid (RIn W wx gA g g2 zo zn zv za vs))
      case first =>
        obtain ⟨hA, ⟨hF, hQ, _, _, _, hOK, hB⟩, hn1, hn2, hgAW⟩ := HIn.out
        have HA := Lib.hid hA
        have HF := Lib.hid hF
        have HQ := Lib.hid hQ
        have HB := Lib.hid hB
        have HOK := Lib.hid hOK
        have a1 : wB.cell? ⟨gA, 1, none⟩ = some (.int .i64 zn) := hA.at 1
        have a2 : wB.cell? ⟨gA, 2, none⟩ = some (.int .u8 zv) := hA.at 2
        have a3 : wB.cell? ⟨gA, 3, none⟩ = some (.int .u32 za) := hA.at 3
        have nA : some gA ≠ some g := fun e => hn1 (Option.some.inj e)
        have nA2 : some gA ≠ some g2 := fun e => hn2 (Option.some.inj e)
        have n12 : some g ≠ some g2 := fun e => hne (Option.some.inj e)
        have n21 : some g2 ≠ some g := fun e => hne (Option.some.inj e).symm
        have NA := Lib.hid nA
        have NA2 := Lib.hid nA2
        have N12 := Lib.hid n12
        have N21 := Lib.hid n21
        clear nA nA2 n12 n21 hA hF hQ hB hOK
        by_cases o1 : zo = 1
        · subst o1
          obtain ⟨R, hR⟩ : ∃ R, R = (writeS vs zn zv).1 := ⟨_, rfl⟩
          have HR := Lib.hid hR
          have K1 : ∀ w', ActAt w' gA 1 zn zv za → w'.cell? ⟨gA, 1, none⟩ = some (.int .i64 zn) := fun w' h => h.at 1
          have K2 : ∀ w', ActAt w' gA 1 zn zv za → w'.cell? ⟨gA, 2, none⟩ = some (.int .u8 zv) := fun w' h => h.at 2
          clear hR a1 a2 a3
          go_upto_region 15 with fail
          refine wp_region_held_drew (S := (fun w' => ActAt w' gA 1 zn zv za)) (by kernel_rfl) (HA.out.drew) (fun hHeld => ?_)
          refine held_take 0 (v := ?_) rfl (by kernel_rfl) (by kernel_rfl) (by kernel_rfl) (fun _ _ _ h => h) (by rfl) (fun w hS => ?_) (by assumption) ?_
          rotate_left
          · try dsimp only at hS
            go_simp <;> with_reducible rfl
          try simp only [Act.put, List.setIfInBounds_toArray, List.set_cons_zero, List.set_cons_succ]
          refine held_take 1 (v := ?_) rfl (by kernel_rfl) (by kernel_rfl) (by kernel_rfl) (fun _ _ _ h => h) (by rfl) (fun w hS => ?_) (by assumption) ?_
          rotate_left
          · try dsimp only at hS
            go_simp <;> with_reducible rfl
          try simp only [Act.put, List.setIfInBounds_toArray, List.set_cons_zero, List.set_cons_succ]
          refine held_take 2 (v := ?_) rfl (by kernel_rfl) (by kernel_rfl) (by kernel_rfl) (fun _ _ _ h => h) (by rfl) (fun w hS => ?_) (by assumption) ?_
          rotate_left
          · try dsimp only at hS
            go_simp <;> with_reducible rfl
          try simp only [Act.put, List.setIfInBounds_toArray, List.set_cons_zero, List.set_cons_succ]
          refine held_take 3 (v := ?_) rfl (by kernel_rfl) (by kernel_rfl) (by kernel_rfl) (fun _ _ _ h => h) (by rfl) (fun w hS => ?_) (by assumption) ?_
          rotate_left
          · try dsimp only at hS
            go_simp <;> with_reducible rfl
          try simp only [Act.put, List.setIfInBounds_toArray, List.set_cons_zero, List.set_cons_succ]
          refine held_take 4 (v := ?_) rfl (by kernel_rfl) (by kernel_rfl) (by kernel_rfl) (fun _ _ _ h => h) (by rfl) (fun w hS => ?_) (by assumption) ?_
          rotate_left
          · try dsimp only at hS
            go_simp <;> with_reducible rfl
          try simp only [Act.put, List.setIfInBounds_toArray, List.set_cons_zero, List.set_cons_succ]
          refine held_take 6 (v := ?_) rfl (by kernel_rfl) (by kernel_rfl) (by kernel_rfl) (fun _ _ _ h => h) (by rfl) (fun w hS => ?_) (by assumption) ?_
          rotate_left
          · try dsimp only at hS
            go_simp <;> with_reducible rfl
          try simp only [Act.put, List.setIfInBounds_toArray, List.set_cons_zero, List.set_cons_succ]
          refine held_take 7 (v := ?_) rfl (by kernel_rfl) (by kernel_rfl) (by kernel_rfl) (fun _ _ _ h => h) (by rfl) (fun w hS => ?_) (by assumption) ?_
          rotate_left
          · try dsimp only at hS
            go_simp <;> with_reducible rfl
          try simp only [Act.put, List.setIfInBounds_toArray, List.set_cons_zero, List.set_cons_succ]
          refine held_take 8 (v := ?_) rfl (by kernel_rfl) (by kernel_rfl) (by kernel_rfl) (fun _ _ _ h => h) (by rfl) (fun w hS => ?_) (by assumption) ?_
          rotate_left
          · try dsimp only at hS
            go_simp <;> with_reducible rfl
          try simp only [Act.put, List.setIfInBounds_toArray, List.set_cons_zero, List.set_cons_succ]
          refine held_take 9 (v := ?_) rfl (by kernel_rfl) (by kernel_rfl) (by kernel_rfl) (fun _ _ _ h => h) (by rfl) (fun w hS => ?_) (by assumption) ?_
          rotate_left
          · try dsimp only at hS
            go_simp <;> with_reducible rfl
          try simp only [Act.put, List.setIfInBounds_toArray, List.set_cons_zero, List.set_cons_succ]
          refine held_take 10 (v := ?_) rfl (by kernel_rfl) (by kernel_rfl) (by kernel_rfl) (fun _ _ _ h => h) (by rfl) (fun w hS => ?_) (by assumption) ?_
          rotate_left
          · try dsimp only at hS
            go_simp <;> with_reducible rfl
          try simp only [Act.put, List.setIfInBounds_toArray, List.set_cons_zero, List.set_cons_succ]
          refine held_one 5 rfl (by kernel_rfl) (fun K hK => ?_)
          go_simp
          refine (write_any g vs zn zv _ HF.out.drew).mono ?_
          rintro e w5 ⟨⟨rfl, hF5⟩, hg5⟩
          have HA5 : Hid (ActAt w5 gA 1 zn zv za) := Lib.hid (HA.out.drew.kept hg5 NA.out)
          have HF5 := Lib.hid hF5
          have HQ5 := Lib.hid (HQ.out.drew.kept hg5 N21.out)
          have HB5 := Lib.hid (below_gb HB.out.drew hg5 HB.out.size hgW)
          rw [← HR.out]
          clear hF5 hg5
          refine hK.out _ _ (fun w' => ActAt w' gA 1 zn zv za) (fun _ h => h) HA5.out (fun hHeld => ?_)
          clear hK K
          try simp only [Act.put, List.setIfInBounds_toArray, List.set_cons_zero, List.set_cons_succ]
          refine held_one 11 rfl (by kernel_rfl) (fun K hK => ?_)
          go_simp
          refine (qwrite_any g2 vs zn zv _ HQ5.out HOK.out.1 z3 z4).mono ?_
          rintro e w6 ⟨⟨rfl, hQ6⟩, hg6⟩
          have HA6 : Hid (ActAt w6 gA 1 zn zv za) := Lib.hid (HA5.out.kept hg6 NA2.out)
          have HIn6 : Hid (RIn W w6 gA g g2 1 zn zv za (writeS vs zn zv).2) := Lib.hid ⟨HA6.out, ⟨HF5.out.kept hg6 N12.out, hQ6, hne, hgW, hgW2, HOK.out.write zn z3 z4, below_gb HB5.out hg6 HB5.out.size hgW2⟩, hn1, hn2, hgAW⟩
          rw [← HR.out]
          clear hQ6 hg6
          refine hK.out _ _ (fun w' => ActAt w' gA 1 zn zv za) (fun _ h => h) HA6.out (fun hHeld => ?_)
          clear hK K
          try simp only [Act.put, List.setIfInBounds_toArray, List.set_cons_zero, List.set_cons_succ]
          refine held_take 12 (v := ?_) rfl (by kernel_rfl) (by kernel_rfl) (by kernel_rfl) (fun _ _ _ h => h) (by rfl) (fun w hS => ?_) (by assumption) ?_
          rotate_left
          · try dsimp only at hS
            go_simp <;> with_reducible rfl
          try simp only [Act.put, List.setIfInBounds_toArray, List.set_cons_zero, List.set_cons_succ]
          refine held_done (by kernel_rfl) ?_
          clear K1 K2 hHeld
          go_wp2
          go_meet
          case rel => exact ⟨g, g2, _, rfl, rfl, HIn6⟩
        · have b1 : (zo == 1) = false := by simpa using o1
          by_cases o2 : zo = 2
          · subst o2
            clear b1 o1
            obtain ⟨rn, hrn⟩ : ∃ rn, rn = (nextR vs za).1 := ⟨_, rfl⟩
            obtain ⟨rv, hrv⟩ : ∃ rv, rv = (nextR vs za).2.1 := ⟨_, rfl⟩
            obtain ⟨re, hre⟩ : ∃ re, re = (nextR vs za).2.2 := ⟨_, rfl⟩
            have HRn := Lib.hid hrn
            have HRv := Lib.hid hrv
            have HRe := Lib.hid hre
            obtain ⟨v0, v1⟩ := nextR_val vs za
            rw [← hrv] at v0 v1
            clear hrn hrv hre
            go_wp2_with fail
            refine (rnext_file g vs za _ HF.out z5 z6).mono ?_
            rintro e w4 ⟨rfl, hb4⟩
            rw [← HRn.out, ← HRv.out, ← HRe.out]
            have HA4 := Lib.hid (HA.out.below hb4 HA.out.lt)
            have HF4 := Lib.hid (HF.out.below hb4)
            have HQ4 := Lib.hid (HQ.out.below hb4)
            have HB4 := Lib.hid (HB.out.trans (hb4.mono HB.out.size))
            have a34 : w4.cell? ⟨gA, 3, none⟩ = some (.int .u32 za) := HA4.out.at 3
            clear hb4 a1 a2 a3
            go_wp2_with fail
            refine (qnext_any g2 vs za _ HQ4.out HOK.out.1 z5 z6).mono ?_
            rintro e w5 ⟨rfl, rfl⟩
            rw [← HRn.out, ← HRv.out, ← HRe.out]
            clear a34
            by_cases hre0 : re = 0
            · subst hre0
              obtain ⟨R, hR⟩ : ∃ R, R = (writeS vs rn rv).1 := ⟨_, rfl⟩
              have HR := Lib.hid hR
              clear hR
              go_wp2_with fail
              refine (write_any g vs rn rv _ HF4.out).mono ?_
              rintro e w6 ⟨⟨rfl, hF6⟩, hg6⟩
              rw [← HR.out]
              have HA6 := Lib.hid (HA4.out.kept hg6 NA.out)
              have HF6 := Lib.hid hF6
              have HQ6 := Lib.hid (HQ4.out.kept hg6 N21.out)
              have HB6 := Lib.hid (below_gb HB4.out hg6 HB4.out.size hgW)
              clear hF6 hg6
              go_wp2_with fail
              refine (qwrite_any g2 vs rn rv _ HQ6.out HOK.out.1 v0 v1).mono ?_
              rintro e w7 ⟨⟨rfl, hQ7⟩, hg7⟩
              rw [← HR.out]
              have HIn7 : Hid (RIn W w7 gA g g2 2 zn zv za (writeS vs rn rv).2) := Lib.hid ⟨HA6.out.kept hg7 NA2.out, ⟨HF6.out.kept hg7 N12.out, hQ7, hne, hgW, hgW2, HOK.out.write rn v0 v1, below_gb HB6.out hg7 HB6.out.size hgW2⟩, hn1, hn2, hgAW⟩
              clear hQ7 hg7
              go_wp2
              go_meet
              case rel => exact ⟨g, g2, _, rfl, rfl, HIn7⟩
            · have bre : (re == 0) = false := by simpa using hre0
              have HIn7 : Hid (RIn W w4 gA g g2 2 zn zv za vs) := Lib.hid ⟨HA4.out, ⟨HF4.out, HQ4.out, hne, hgW, hgW2, HOK.out, HB4.out⟩, hn1, hn2, hgAW⟩
              clear hre0
              go_wp2
              go_meet
              case rel => exact ⟨g, g2, _, rfl, rfl, HIn7⟩
          · have b2 : (zo == 2) = false := by simpa using o2
            by_cases o3 : zo = 3
            · subst o3
              clear b1 b2 o1 o2
              go_wp2_with fail
              refine (show_any g vs zn zv _ HF.out).mono ?_
              rintro e w6 ⟨⟨rfl, hF6⟩, hg6⟩
              have HA6 := Lib.hid (HA.out.kept hg6 NA.out)
              have HF6 := Lib.hid hF6
              have HQ6 := Lib.hid (HQ.out.kept hg6 N21.out)
              have HB6 := Lib.hid (below_gb HB.out hg6 HB.out.size hgW)
              have a16 : w6.cell? ⟨gA, 1, none⟩ = some (.int .i64 zn) := HA6.out.at 1
              have a26 : w6.cell? ⟨gA, 2, none⟩ = some (.int .u8 zv) := HA6.out.at 2
              clear hF6 hg6 a1 a2 a3
              go_wp2_with fail
              refine (qshow_any g2 vs zn zv _ HQ6.out).mono ?_
              rintro e w7 ⟨⟨rfl, hQ7⟩, hg7⟩
              have HIn7 : Hid (RIn W w7 gA g g2 3 zn zv za (showS vs zn zv)) := Lib.hid ⟨HA6.out.kept hg7 NA2.out, ⟨HF6.out.kept hg7 N12.out, hQ7, hne, hgW, hgW2, HOK.out.show zn z3 z4, below_gb HB6.out hg7 HB6.out.size hgW2⟩, hn1, hn2, hgAW⟩
              clear hQ7 hg7 a16 a26
              go_wp2
              go_meet
              case rel => exact ⟨g, g2, _, rfl, rfl, HIn7⟩
            · have b3 : (zo == 3) = false := by simpa using o3
              by_cases o4 : zo = 4
              · subst o4
                clear b1 b2 b3 o1 o2 o3 a1 a2 a3
                go_wp2_with fail
                refine (powerUp_any g vs _ HF.out).mono ?_
                rintro e w6 ⟨⟨rfl, hF6⟩, hg6⟩
                have HA6 := Lib.hid (HA.out.kept hg6 NA.out)
                have HF6 := Lib.hid hF6
                have HQ6 := Lib.hid (HQ.out.kept hg6 N21.out)
                have HB6 := Lib.hid (below_gb HB.out hg6 HB.out.size hgW)
                clear hF6 hg6
                go_wp2_with fail
                refine (qpowerUp_any g2 vs _ HQ6.out).mono ?_
                rintro e w7 ⟨⟨rfl, hQ7⟩, hg7⟩
                have HIn7 : Hid (RIn W w7 gA g g2 4 zn zv za (((vs.set 0 0).set 1 0).set 5 0)) := Lib.hid ⟨HA6.out.kept hg7 NA2.out, ⟨HF6.out.kept hg7 N12.out, hQ7, hne, hgW, hgW2, HOK.out.power, below_gb HB6.out hg7 HB6.out.size hgW2⟩, hn1, hn2, hgAW⟩
                clear hQ7 hg7
                go_wp2
                go_meet
                case rel => exact ⟨g, g2, _, rfl, rfl, HIn7⟩
              · have b4 : (zo == 4) = false := by simpa using o4
                by_cases o5 : zo = 5
                · subst o5
                  clear b1 b2 b3 b4 o1 o2 o3 o4 a1 a2 a3
                  have hlo := HOK.out.loadOk
                  have HLo := Lib.hid hlo
                  clear hlo
                  go_wp2_with fail
                  refine (lastingB_any g vs _ HF.out HOK.out.1.1).mono ?_
                  rintro e w4 ⟨⟨q, cq, rfl, hq, hcq, hY⟩, hb4⟩
                  have HA4 := Lib.hid (HA.out.below hb4 HA.out.lt)
                  have HQ4 := Lib.hid (HQ.out.below hb4)
                  have HB4 := Lib.hid (HB.out.trans (hb4.mono HB.out.size))
                  have HY := Lib.hid hY
                  clear hY hb4 hq hcq
                  go_wp2_with fail
                  refine (load_any _ 7 cq _ _ HY.out (by omega)).mono ?_
                  rintro e w5 ⟨hL, hb5⟩
                  unfold LoadAt at hL
                  rw [if_pos HLo.out] at hL
                  obtain ⟨g5, rfl, hg5, hF5⟩ := hL
                  have HA5 := Lib.hid (HA4.out.below hb5 HA4.out.lt)
                  have HQ5 := Lib.hid (HQ4.out.below hb5)
                  have HB5 := Lib.hid (HB4.out.trans (hb5.mono HB4.out.size))
                  have HF5 := Lib.hid hF5
                  have m1 : gA ≠ g5 := by have := HA4.out.lt; omega
                  have m2 : W.heap.size ≤ g5 := Nat.le_trans HB4.out.size hg5
                  clear hF5 hb5 hg5 HY
                  go_wp2_with fail
                  refine (qlastingB_any g2 vs _ HQ5.out HOK.out.1.1).mono ?_
                  rintro e w6 ⟨⟨q2, cq2, rfl, hq, hcq, hY⟩, hb6⟩
                  have HA6 := Lib.hid (HA5.out.below hb6 HA5.out.lt)
                  have HF6 := Lib.hid (HF5.out.below hb6)
                  have HB6 := Lib.hid (HB5.out.trans (hb6.mono HB5.out.size))
                  have HY := Lib.hid hY
                  clear hY hb6 hq hcq
                  go_wp2_with fail
                  refine (qload_any _ 7 cq2 _ _ HY.out (by omega)).mono ?_
                  rintro e w7 ⟨hL, hb7⟩
                  unfold LoadAt at hL
                  rw [if_pos HLo.out] at hL
                  obtain ⟨g7, rfl, hg7, hQ7⟩ := hL
                  have m3 : g5 ≠ g7 := by have := HF6.out.lt; omega
                  have m4 : gA ≠ g7 := by have := HA6.out.lt; omega
                  have m5 : W.heap.size ≤ g7 := Nat.le_trans HB6.out.size hg7
                  have HIn7 : Hid (RIn W w7 gA g5 g7 5 zn zv za (loadTo (lastL vs) 7)) := Lib.hid ⟨HA6.out.below hb7 HA6.out.lt, ⟨HF6.out.below hb7, hQ7, m3, m2, m5, HOK.out.load, HB6.out.trans (hb7.mono HB6.out.size)⟩, m1, m4, hgAW⟩
                  clear hQ7 hb7 hg7 HY
                  go_wp2
                  go_meet
                  case rel => exact ⟨g5, g7, _, rfl, rfl, HIn7⟩
                · have b5 : (zo == 5) = false := by simpa using o5
                  clear o1 o2 o3 o4 o5 a1 a2 a3
                  go_wp2
                  go_meet
                  case rel => exact ⟨g, g2, _, rfl, rfl, HIn⟩
      case rest =>
        obtain ⟨g3, g4, vs', rfl, rfl, HIn3⟩ := hcut
        obtain ⟨wC, rfl⟩ : ∃ wC : World, wC = wc := ⟨_, rfl⟩
        obtain ⟨hA, ⟨hF, hQ, e1, e2, e3, hOK, hB⟩, hn1, hn2, hgAW⟩ := HIn3.out
        have a1 : wC.cell? ⟨gA, 1, none⟩ = some (.int .i64 zn) := hA.at 1
        have HF := Lib.hid hF
        have HQ := Lib.hid hQ
        have HB := Lib.hid hB
        have HOK := Lib.hid hOK
        have HE := Lib.hid (And.intro e1 (And.intro e2 e3))
        clear hA hF hQ hB hOK hn1 hn2 HIn HIn3 e1 e2 e3 hne
        go_wp2_with (go_at_call 74; refine (looks_any g3 g4 vs' zn _ HF.out HQ.out HOK.out.1).mono ?_; rintro e w8 ⟨rfl, hb8⟩; have HBo8 : Hid (RBoth W w8 g3 g4 vs') := Lib.hid ⟨HF.out.below hb8, HQ.out.below hb8, HE.out.1, HE.out.2.1, HE.out.2.2, HOK.out, HB.out.trans (hb8.mono HB.out.size)⟩; clear hb8)
        go_roundw
        case rel => exact ⟨k + 1, g3, g4, vs', by omega, by go_num, rfl, rfl, HBo8⟩
        case measure => simp [intOf]; omega
    · obtain rfl : k = len := by omega
      go_wp2
      go_ret
      exact ⟨rfl, HBo.out.2.2.2.2.2.2⟩

set_option maxRecDepth 100000 in
theorem rplays_any (a : Option Addr) (len cap : Nat) (l : List RAct) (W : World) (hm : len ≤ 9223372036854775807) (hl : Rws 4 RAct.cells W a len l) (hwf : ∀ x ∈ l, x.wf) :
    Calls Try.prog 14 #[.slice a len cap] W fun e w' => e = .returned (.bool true) ∧ Below W.heap.size W w' := by
  by_cases h : len ≤ 300
  · exact rplays_walk a len cap l W h hl hwf
  · have h2 : 300 < len := by omega
    clear h
    go_enter Try.func14, Try.ntmps14
    go_wp2_with fail
    refine (rknown_any _).mono ?_
    rintro e w1 ⟨rfl, hb1⟩
    go_wp2_with fail
    go_ret
    exact ⟨rfl, hb1⟩

end Go.Proofs.Ytjjeopanffcbiaa
