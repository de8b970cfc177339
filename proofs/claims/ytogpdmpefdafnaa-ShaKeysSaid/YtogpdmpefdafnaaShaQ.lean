/- sha: ShaKeys, no zeros (below 0). -/
import Derived.Test.YtogpdmpefdafnaaShaP
namespace Go.Proofs.Ytogpdmpefdafnaa
open Go Go.RowKit
set_option linter.unusedVariables false

set_option maxRecDepth 100000 in
set_option maxHeartbeats 40000000 in
theorem shakeys_z1 (a : Option Addr) (len cap : Nat) (key : List Nat) (a2 : Option Addr) (len2 cap2 : Nat) (b : List Nat) (z : Int) (r : List Nat) (w : World) (hi : Bytes w a len key) (hnil : a = none → cap = 0) (hlc : len ≤ cap) (hcm : cap ≤ maxLen) (hi2 : Bytes w a2 len2 b) (hnil2 : a2 = none → cap2 = 0) (hlc2 : len2 ≤ cap2) (hcm2 : cap2 ≤ maxLen) (hz : I64 z) (hr : r.length = 32) (hr8 : ∀ c ∈ r, c < 256) (hl : len ≤ 4096) (hl2 : len2 ≤ 4096) (hbig : ¬ 64 < len) (hc : z < 0) :
    Calls Try.prog 4 #[.slice a len cap, .slice a2 len2 cap2, .int .i64 z, .agg (u8s r).toArray] w fun e w' => e = .returned (.bool true) ∧ Below w.heap.size w w' := by
  have hkl := hi.1
  have hbl := hi2.1
  have HI1 := Lib.hid hi
  have HI2 := Lib.hid hi2
  obtain ⟨mL, hmL⟩ : ∃ mL, mL = macS key b := ⟨_, rfl⟩
  have hm32 : mL.length = 32 := by rw [hmL]; exact macS_len _ _
  have hm8 : ∀ c ∈ mL, c < 256 := by rw [hmL]; exact macS_lt _ _
  have HEqA : Hid (∀ w, Calls Try.prog 19 #[.agg (u8s mL).toArray, .agg (u8s mL).toArray] w fun e w' => e = .returned (.bool true) ∧ Below w.heap.size w w') := Lib.hid (fun w => by
    have := equal_any mL mL hm8 hm8 hm32 hm32 w
    rw [decide_eq_true rfl] at this
    exact this)
  have HEqB : Hid (∀ w, Calls Try.prog 19 #[.agg (u8s mL).toArray, .agg (u8s r).toArray] w fun e w' => e = .returned (.bool (decide (mL = r))) ∧ Below w.heap.size w w') := Lib.hid (fun w => equal_any mL r hm8 hr8 hm32 hr w)
  have HEqC : Hid (∀ w, (binOp .eql 28 (.agg (u8s mL).toArray) (.agg (u8s r).toArray)).run Try.prog w = .ok (.bool (decide (mL = r))) w) := Lib.hid (fun w => eql_sum hm8 hr8 hm32 hr w)
  have HNe : Hid (∀ w, (binOp .neq 28 (.agg (u8s mL).toArray) (.agg (u8s mL).toArray)).run Try.prog w = .ok (.bool false) w) := Lib.hid (fun w => by
    have := neq_sum hm8 hm8 hm32 hm32 w
    rw [decide_eq_true rfl] at this
    exact this)
  have HOneB : Hid ((∀ x ∈ [b], ∀ c ∈ x, c < 256) ∧ (∀ x ∈ [b], x.length ≤ 100000) ∧ sumLen [b] 1 ≤ 90000000) := Lib.hid ⟨fun x hx => by simp at hx; subst hx; exact hi2.2.1, fun x hx => by simp at hx; subst hx; omega, by simp [sumLen]; omega⟩
  have HOneK : Hid ((∀ x ∈ [key], ∀ c ∈ x, c < 256) ∧ (∀ x ∈ [key], x.length ≤ 100000) ∧ sumLen [key] 1 ≤ 100000000) := Lib.hid ⟨fun x hx => by simp at hx; subst hx; exact hi.2.1, fun x hx => by simp at hx; subst hx; omega, by simp [sumLen]; omega⟩
  have HMac : Hid (macS key (flatTo [b] 1) = mL) := Lib.hid (by rw [hmL]; simp [flatTo])
  have HMsha : Hid (64 < len → macS (shaL key) (flatTo [b] 1) = mL) := Lib.hid (fun h => by rw [macS_k (kOf_sha key (by omega)), hmL]; simp [flatTo])
  have HMzer : Hid (∀ zn, len + zn ≤ 64 → macS (key ++ List.replicate zn 0) (flatTo [b] 1) = mL) := Lib.hid (fun zn h => by rw [macS_k (kOf_zeros key zn (by omega)), hmL]; simp [flatTo])
  obtain ⟨M, hM⟩ : ∃ M, M = (u8s mL).toArray := ⟨_, rfl⟩
  obtain ⟨RR, hRR⟩ : ∃ M, M = (u8s r).toArray := ⟨_, rfl⟩
  have HIM : Hid ((Try.prog.info? 28).map (·.size) = some M.size) := Lib.hid (by rw [hM]; exact s32_size hm32)
  have HIR : Hid ((Try.prog.info? 28).map (·.size) = some RR.size) := Lib.hid (by rw [hRR]; exact s32_size hr)
  have HOneM : Hid (M.all (·.oneCell') = true) := Lib.hid (by rw [hM]; exact u8_oneA _)
  have HOldM : Hid ((u8s (List.replicate 32 0)).toArray.size = M.size) := Lib.hid (by rw [hM]; simp [u8s_len, hm32])
  have HMd := Lib.hid hM
  rw [← hM] at HEqA HEqB HEqC HNe
  rw [← hRR] at HEqB HEqC ⊢
  have hneq := HNe.out
  have HEq1 := HEqA
  clear hi hi2 hmL hM hRR hm32 hm8 hr hr8
  go_enter Try.func4, Try.ntmps4
  go_wp2_with fail
  obtain ⟨g7, hg7⟩ : ∃ g, g = w.heap.size := ⟨_, rfl⟩
  obtain ⟨wa, hwa⟩ : ∃ wa, wa = w.alloc (.cells RR 28) := ⟨_, rfl⟩
  have hA7 : HasB wa g7 RR 28 := by rw [hwa, hg7]; exact HasB.new _ _ _
  have HBa : Hid (Below w.heap.size w wa) := Lib.hid (by rw [hwa]; exact (Below.refl _ _).alloc (Nat.le_refl _) _)
  have HA7 := Lib.hid hA7
  rw [← hwa, ← hg7]
  have HG7 := Lib.hid hg7
  clear hwa hA7 hg7
  refine (sknown_any _).mono ?_
  rintro e w1 ⟨rfl, hb1⟩
  have HB1 := Lib.hid (HBa.out.trans (hb1.mono HBa.out.size))
  have HA7b : Hid (HasB w1 g7 RR 28) := Lib.hid (HasB.below HA7.out hb1 (HasB.lt HA7.out))
  have t1 : (len : Int) ≤ 4096 := by omega
  have t2 : (len2 : Int) ≤ 4096 := by omega
  have hRow : RowsR (w1.alloc (.cells #[.slice a2 len2 cap2] 22)) (some ⟨w1.heap.size, 0, none⟩) [b] := by
    have q := rows_one (T := 22) (x := b) (bx := a2) (cx := cap2) (w := w1) (by rw [hbl]; exact HI2.out.below HB1.out (Nat.le_refl _)) hnil2 (by omega) hcm2
    rw [hbl] at q
    exact q
  have hbr : Below w.heap.size w (w1.alloc (.cells #[.slice a2 len2 cap2] 22)) := HB1.out.alloc HB1.out.size _
  have HRow := Lib.hid hRow
  have HBr := Lib.hid hbr
  have HA7c : Hid (HasB (w1.alloc (.cells #[.slice a2 len2 cap2] 22)) g7 RR 28) := Lib.hid (HasB.alloc HA7b.out _)
  clear hb1 hRow hbr
  go_wp2_with fail
  refine (mac_any a len cap key (some ⟨w1.heap.size, 0, none⟩) 1 1 [b] _ (HI1.out.below HBr.out (Nat.le_refl _)) hnil hlc hcm (by omega) HRow.out rfl HOneB.out.1 HOneB.out.2.1 HOneB.out.2.2 (by omega)).mono ?_
  rintro e w4 ⟨rfl, hb4⟩
  rw [show (u8s (macS key (flatTo [b] 1))).toArray = M by rw [HMac.out, HMd.out]]
  obtain ⟨g9, hg9⟩ : ∃ g, g = w4.heap.size := ⟨_, rfl⟩
  obtain ⟨w5, hw5⟩ : ∃ w5, w5 = w4.alloc (.cells M 28) := ⟨_, rfl⟩
  have hA9 : HasB w5 g9 M 28 := by rw [hw5, hg9]; exact HasB.new _ _ _
  have hA7d : HasB w5 g7 RR 28 := by rw [hw5]; exact HasB.alloc (HasB.below HA7c.out hb4 (HasB.lt HA7c.out)) _
  have hB5 : Below w.heap.size w w5 := by
    rw [hw5]
    have q := HBr.out.trans (hb4.mono HBr.out.size)
    exact q.alloc q.size _
  have HA9 := Lib.hid hA9
  have HA7e := Lib.hid hA7d
  have HB5 := Lib.hid hB5
  have HW5 := Lib.hid hw5
  have HG9 := Lib.hid hg9
  clear hb4 hA9 hA7d hB5 hw5 hg9
  · have t3 : ¬ (64 < (len : Int)) := by omega
    have HL9 : Hid (∀ w', Below w5.heap.size w5 w' → w'.heap[g9]? = some (.cells M 28 (0, 0))) := Lib.hid (fun w' h => HasB.below HA9.out h (HasB.lt HA9.out))
    have HL7 : Hid (∀ w', Below w5.heap.size w5 w' → w'.heap[g7]? = some (.cells RR 28 (0, 0))) := Lib.hid (fun w' h => HasB.below HA7e.out h (HasB.lt HA7e.out))
    have HBz := HB5
    have HBe0 : Hid (Below w5.heap.size w5 (w5.drew.alloc (.cells #[] 5))) := Lib.hid ((Below.refl _ _).drew.alloc (Nat.le_refl _) _)
    have HE0 : Hid ((w5.drew.alloc (.cells #[] 5)).ownsRow w5.heap.size 5 1 (.slice (some ⟨w5.heap.size, 0, none⟩) 0 0) 0 (u8s [])) := Lib.hid (own_empty (w := w5.drew) (Nat.le_refl _))
    have HKy5 : Hid (∀ w', Below w5.heap.size w5 w' → Bytes w' a len key) := Lib.hid (fun w' h => HI1.out.below (HB5.out.trans (h.mono HB5.out.size)) (Nat.le_refl _))
    have HYall : Hid (∀ (zn : Nat) (ay : Option Addr) (cy : Nat) (wy : World) (gP : Nat), wy.ownsRow w5.heap.size 5 1 (.slice ay (len + zn) cy) (len + zn) (u8s (key ++ List.replicate zn 0)) → Below w5.heap.size w5 wy → HasB wy gP #[.slice a2 len2 cap2] 22 → Bytes wy ay (len + zn) (key ++ List.replicate zn 0) ∧ (ay = none → cy = 0) ∧ len + zn ≤ cy ∧ cy ≤ maxLen ∧ RowsR wy (some ⟨gP, 0, none⟩) [b]) := Lib.hid (fun zn ay cy wy gP ho hb hP => by
      have h8 : ∀ c ∈ key ++ List.replicate zn 0, c < 256 := fun c hc => by
        rcases List.mem_append.1 hc with q | q
        · exact HI1.out.2.1 c q
        · have := List.eq_of_mem_replicate q; omega
      obtain ⟨a', c', he, hy⟩ := bytes_of_own' ho h8
      simp at he
      obtain ⟨rfl, rfl⟩ := he
      have q := rows_at (x := b) (bx := a2) (cx := cap2) (w := wy) (g := gP) (by rw [hbl]; exact HI2.out.below (HB5.out.trans (hb.mono HB5.out.size)) (Nat.le_refl _)) hnil2 (by omega) hcm2 (by rw [hbl]; exact hP)
      refine ⟨hy, ?_, ?_, ?_, q⟩
      · intro e
        rcases ho.2 with ⟨h, _⟩ | ⟨g', cap', cur, h, _⟩
        · simp at h; exact h.2.2
        · simp at h; rw [h.1] at e; cases e
      · rcases ho.2 with ⟨h, h0⟩ | ⟨g', cap', cur, h, _, _, h3, h4, _⟩
        · simp at h; omega
        · simp at h; obtain ⟨_, rfl⟩ := h; exact h3
      · rcases ho.2 with ⟨h, h0⟩ | ⟨g', cap', cur, h, _, _, h3, h4, _⟩
        · simp at h; rw [h.2.2]; unfold maxLen; omega
        · simp at h; obtain ⟨_, rfl⟩ := h; exact h4)
    unfold I64 at hz
    · have HYf := Lib.hid (HYall.out 0)
      have HMeq2 : Hid ((u8s (macS (key ++ List.replicate 0 0) (flatTo [b] 1))).toArray = M) := Lib.hid (by rw [HMzer.out 0 (by omega), HMd.out])
      · go_wp2_with (with_reducible refine wpList_store_row rfl 28 (.tmp 9) (.tmp 24) rfl w4.heap.size M rfl rfl 28 (u8s (List.replicate 32 0)).toArray (heap_new w4 _) HIM.out HOldM.out HOneM.out ?_; rw [World.setRow_alloc_new, ← HW5.out, ← HG9.out])
        refine wp_region_held_drew (S := (fun w' => Below w5.heap.size w5 w')) (by kernel_rfl) ((Below.refl _ _).drew) (fun hHeld => ?_)
        refine held_take 0 (v := .agg M) rfl (by kernel_rfl) (by kernel_rfl) (by kernel_rfl) (fun _ _ _ h => h) (by rfl) (fun w hS => ?_) (by assumption) ?_
        · exact yield_load_row _ _ _ _ (by rfl) g9 (by rfl) 28 M (0, 0) _ (HL9.out _ hS) Try.underlying28 (by rfl) HIM.out
        try simp only [Act.put, List.setIfInBounds_toArray, List.set_cons_zero, List.set_cons_succ]
        refine held_take 2 (v := ?_) rfl (by kernel_rfl) (by kernel_rfl) (by kernel_rfl) (fun _ _ _ h => h) (by rfl) (fun w hS => ?_) (by assumption) ?_
        rotate_left
        · try dsimp only at hS
          go_simp <;> with_reducible rfl
        try simp only [Act.put, List.setIfInBounds_toArray, List.set_cons_zero, List.set_cons_succ]
        refine held_take 4 (v := ?_) rfl (by kernel_rfl) (by kernel_rfl) (by kernel_rfl) (fun _ _ _ h => h) (by rfl) (fun w hS => ?_) (by assumption) ?_
        rotate_left
        · try dsimp only at hS
          go_simp <;> with_reducible rfl
        try simp only [Act.put, List.setIfInBounds_toArray, List.set_cons_zero, List.set_cons_succ]
        refine held_take 6 (v := ?_) rfl (by kernel_rfl) (by kernel_rfl) (by kernel_rfl) (fun _ _ _ h => h) (by rfl) (fun w hS => ?_) (by assumption) ?_
        rotate_left
        · try dsimp only at hS
          go_simp <;> with_reducible rfl
        try simp only [Act.put, List.setIfInBounds_toArray, List.set_cons_zero, List.set_cons_succ]
        have HBs : Hid (Below w5.heap.size w5 w5.drew) := Lib.hid (Below.refl _ _).drew
        refine held_two 1 7 rfl rfl (by kernel_rfl) (fun K hK => ?_) (fun K hK => ?_)
        · go_simp
          have HB1 : Hid (Below w5.heap.size w5 (w5.drew.alloc (.cells #[] 5))) := Lib.hid (HBs.out.alloc HBs.out.size _)
          have HO1 : Hid ((w5.drew.alloc (.cells #[] 5)).ownsRow w5.heap.size 5 1 (.slice (some ⟨w5.heap.size, 0, none⟩) 0 0) 0 (u8s [])) := Lib.hid (by rw [show w5.heap.size = w5.drew.heap.size by simp]; exact own_empty (w := w5.drew) HBs.out.size)
          refine hK.out _ _ (fun w' => Below w5.heap.size w5 w') (fun _ h => h) HB1.out (fun hHeld => ?_)
          clear hK K
          try simp only [Act.put, List.setIfInBounds_toArray, List.set_cons_zero, List.set_cons_succ]
          refine held_two 3 7 rfl rfl (by kernel_rfl) (fun K hK => ?_) (fun K hK => ?_)
          · refine step_app_u8 rfl (.tmp 47) (.tmp 48) 22 rfl w5.heap.size 5 Try.underlying22 (by kernel_rfl) (.slice (some ⟨w5.heap.size, 0, none⟩) 0 0) 0 [] rfl HO1.out a len cap key rfl (HKy5.out _ HB1.out) hnil (by omega) HB1.out.size ?_
            intro vx2 wx2 hownx hgrowx
            rw [Nat.zero_add, List.nil_append] at hownx
            have HB2 : Hid (Below w5.heap.size w5 wx2) := Lib.hid (HB1.out.grown hgrowx HB1.out.size (fun k hk => (HO1.out.lt k hk).1))
            have HO2 := Lib.hid hownx
            clear hownx hgrowx
            refine hK.out _ _ (fun w' => Below w5.heap.size w5 w') (fun _ h => h) HB2.out (fun hHeld => ?_)
            clear hK K
            try simp only [Act.put, List.setIfInBounds_toArray, List.set_cons_zero, List.set_cons_succ]
            refine held_two 5 7 rfl rfl (by kernel_rfl) (fun K hK => ?_) (fun K hK => ?_)
            · obtain ⟨vy3, wy3, hry, howny, hgrowy⟩ := run_append_zeros_u8 (P := Try.prog) (w := wx2) w5.heap.size 22 3 22 5 .i64 Try.underlying22 Try.underlying3 (by kernel_rfl) vx2 len key HO2.out 0 (by omega) HB2.out.size
              have hry2 : (Builtin.append_ #[22, 3] 22 #[vx2, .int .i64 0]).run Try.prog wx2 = .ok vy3 wy3 := hry
              have HB3 : Hid (Below w5.heap.size w5 wy3) := Lib.hid (HB2.out.grown hgrowy HB2.out.size (fun k hk => (HO2.out.lt k hk).1))
              obtain ⟨ay3, cy3, rfl⟩ := own_form howny
              have HO3 := Lib.hid howny
              clear hry howny hgrowy
              refine (if_pos (by kernel_rfl)).mpr ?_
              refine Lib.wp_append_run _ (.tmp 49) (.tmp 50) 22 3 rfl vx2 (.int .i64 0) rfl rfl _ _ hry2 ?_
              refine hK.out _ _ (fun w' => Below w5.heap.size w5 w') (fun _ h => h) HB3.out (fun hHeld => ?_)
              clear hK K
              try simp only [Act.put, List.setIfInBounds_toArray, List.set_cons_zero, List.set_cons_succ]
              refine held_one 7 rfl (by kernel_rfl) (fun K hK => ?_)
              go_simp
              have HB4 : Hid (Below w5.heap.size w5 (wy3.alloc (.cells #[.slice a2 len2 cap2] 22))) := Lib.hid (HB3.out.alloc HB3.out.size _)
              have HP4 : Hid (HasB (wy3.alloc (.cells #[.slice a2 len2 cap2] 22)) wy3.heap.size #[.slice a2 len2 cap2] 22) := Lib.hid (HasB.new' (by simp) _ _)
              have HO4 := Lib.hid (own_below HO3.out ((Below.refl wy3.heap.size wy3).alloc (Nat.le_refl _) (.cells #[.slice a2 len2 cap2] 22)) (Nat.le_refl _))
              refine hK.out _ _ (fun w' => Below w5.heap.size w5 w') (fun _ h => h) HB4.out (fun hHeld => ?_)
              clear hK K
              try simp only [Act.put, List.setIfInBounds_toArray, List.set_cons_zero, List.set_cons_succ]
              refine held_one 8 rfl (by kernel_rfl) (fun K hK => ?_)
              go_simp
              have hYY := HYf.out ay3 cy3 (wy3.alloc (.cells #[.slice a2 len2 cap2] 22)) wy3.heap.size HO4.out HB4.out HP4.out
              refine Calls.mono (mac_any ay3 len cy3 (key ++ List.replicate 0 0) (some ⟨wy3.heap.size, 0, none⟩) 1 1 [b] _ hYY.1 hYY.2.1 hYY.2.2.1 hYY.2.2.2.1 (by omega) hYY.2.2.2.2 rfl HOneB.out.1 HOneB.out.2.1 HOneB.out.2.2 (by omega)) ?_
              rintro e wm ⟨rfl, hbm⟩
              rw [HMeq2.out]
              have HBm : Hid (Below w5.heap.size w5 wm) := Lib.hid (HB4.out.trans (hbm.mono HB4.out.size))
              clear hbm hYY
              refine hK.out _ _ (fun w' => Below w5.heap.size w5 w') (fun _ h => h) HBm.out (fun hHeld => ?_)
              clear hK K
              try simp only [Act.put, List.setIfInBounds_toArray, List.set_cons_zero, List.set_cons_succ]
              refine held_take 9 (v := ?_) rfl (by kernel_rfl) (by kernel_rfl) (by kernel_rfl) (fun _ _ _ h => h) (by rfl) (fun w hS => ?_) (by assumption) ?_
              rotate_left
              · try dsimp only at hS
                go_simp <;> with_reducible rfl
              try simp only [Act.put, List.setIfInBounds_toArray, List.set_cons_zero, List.set_cons_succ]
              refine held_done (by kernel_rfl) ?_
              go_wp2_with fail
              have HLm : Hid (∀ w', Below wm.heap.size wm w' → w'.heap[g9]? = some (.cells M 28 (0, 0))) := Lib.hid (fun w' h => HL9.out w' (HBm.out.trans (h.mono HBm.out.size)))
              have HLr : Hid (∀ w', Below wm.heap.size wm w' → w'.heap[g7]? = some (.cells RR 28 (0, 0))) := Lib.hid (fun w' h => HL7.out w' (HBm.out.trans (h.mono HBm.out.size)))
              go_wp2_with fail
              cases hd : decide (mL = r)
              · have HEq2 : Hid (∀ w, Calls Try.prog 19 #[.agg M, .agg RR] w fun e w' => e = .returned (.bool false) ∧ Below w.heap.size w w') := Lib.hid (fun w => by rw [← hd]; exact HEqB.out w)
                have heq : ∀ w, (binOp .eql 28 (.agg M) (.agg RR)).run Try.prog w = .ok (.bool false) w := fun w => by rw [← hd]; exact HEqC.out w
                clear hd
                refine wp_region_held_drew (S := (fun w' => Below wm.heap.size wm w')) (by kernel_rfl) ((Below.refl _ _).drew) (fun hHeld => ?_)
                refine held_take 0 (v := .agg M) rfl (by kernel_rfl) (by kernel_rfl) (by kernel_rfl) (fun _ _ _ h => h) (by rfl) (fun w hS => ?_) (by assumption) ?_
                · exact yield_load_row _ _ _ _ (by rfl) g9 (by rfl) 28 M (0, 0) _ (HLm.out _ hS) Try.underlying28 (by rfl) HIM.out
                try simp only [Act.put, List.setIfInBounds_toArray, List.set_cons_zero, List.set_cons_succ]
                refine held_take 1 (v := .agg M) rfl (by kernel_rfl) (by kernel_rfl) (by kernel_rfl) (fun _ _ _ h => h) (by rfl) (fun w hS => ?_) (by assumption) ?_
                · exact yield_load_row _ _ _ _ (by rfl) g9 (by rfl) 28 M (0, 0) _ (HLm.out _ hS) Try.underlying28 (by rfl) HIM.out
                try simp only [Act.put, List.setIfInBounds_toArray, List.set_cons_zero, List.set_cons_succ]
                refine held_one 2 rfl (by kernel_rfl) (fun K hK => ?_)
                go_simp
                refine Calls.mono (HEq1.out _) ?_
                rintro e we1 ⟨rfl, hbe⟩
                have hbe1 : Below wm.heap.size wm we1 := (Below.refl _ _).drew.trans hbe
                have HBe1 := Lib.hid hbe1
                refine hK.out _ _ (fun w' => Below wm.heap.size wm w') (fun _ h => h) hbe1 (fun hHeld => ?_)
                clear hK K
                try simp only [Act.put, List.setIfInBounds_toArray, List.set_cons_zero, List.set_cons_succ]
                refine held_take 3 (v := ?_) rfl (by kernel_rfl) (by kernel_rfl) (by kernel_rfl) (fun _ _ _ h => h) (by rfl) (fun w hS => ?_) (by assumption) ?_
                rotate_left
                · try dsimp only at hS
                  go_simp <;> with_reducible rfl
                try simp only [Act.put, List.setIfInBounds_toArray, List.set_cons_zero, List.set_cons_succ]
                refine held_take 4 (v := .agg M) rfl (by kernel_rfl) (by kernel_rfl) (by kernel_rfl) (fun _ _ _ h => h) (by rfl) (fun w hS => ?_) (by assumption) ?_
                · exact yield_load_row _ _ _ _ (by rfl) g9 (by rfl) 28 M (0, 0) _ (HLm.out _ hS) Try.underlying28 (by rfl) HIM.out
                try simp only [Act.put, List.setIfInBounds_toArray, List.set_cons_zero, List.set_cons_succ]
                refine held_take 5 (v := .agg RR) rfl (by kernel_rfl) (by kernel_rfl) (by kernel_rfl) (fun _ _ _ h => h) (by rfl) (fun w hS => ?_) (by assumption) ?_
                · exact yield_load_row _ _ _ _ (by rfl) g7 (by rfl) 28 RR (0, 0) _ (HLr.out _ hS) Try.underlying28 (by rfl) HIR.out
                try simp only [Act.put, List.setIfInBounds_toArray, List.set_cons_zero, List.set_cons_succ]
                refine held_take 7 (v := .agg M) rfl (by kernel_rfl) (by kernel_rfl) (by kernel_rfl) (fun _ _ _ h => h) (by rfl) (fun w hS => ?_) (by assumption) ?_
                · exact yield_load_row _ _ _ _ (by rfl) g9 (by rfl) 28 M (0, 0) _ (HLm.out _ hS) Try.underlying28 (by rfl) HIM.out
                try simp only [Act.put, List.setIfInBounds_toArray, List.set_cons_zero, List.set_cons_succ]
                refine held_take 8 (v := .agg RR) rfl (by kernel_rfl) (by kernel_rfl) (by kernel_rfl) (fun _ _ _ h => h) (by rfl) (fun w hS => ?_) (by assumption) ?_
                · exact yield_load_row _ _ _ _ (by rfl) g7 (by rfl) 28 RR (0, 0) _ (HLr.out _ hS) Try.underlying28 (by rfl) HIR.out
                try simp only [Act.put, List.setIfInBounds_toArray, List.set_cons_zero, List.set_cons_succ]
                refine held_take 9 (v := ?_) rfl (by kernel_rfl) (by kernel_rfl) (by kernel_rfl) (fun _ _ _ h => h) (by rfl) (fun w hS => ?_) (by assumption) ?_
                rotate_left
                · try dsimp only at hS
                  go_simp <;> with_reducible rfl
                try simp only [Act.put, List.setIfInBounds_toArray, List.set_cons_zero, List.set_cons_succ]
                refine held_one 6 rfl (by kernel_rfl) (fun K hK => ?_)
                go_simp
                refine Calls.mono (HEq2.out _) ?_
                rintro e we2 ⟨rfl, hbe⟩
                have hbe2 : Below wm.heap.size wm we2 := HBe1.out.trans (hbe.mono HBe1.out.size)
                have HBe2 := Lib.hid hbe2
                refine hK.out _ _ (fun w' => Below wm.heap.size wm w') (fun _ h => h) hbe2 (fun hHeld => ?_)
                clear hK K
                try simp only [Act.put, List.setIfInBounds_toArray, List.set_cons_zero, List.set_cons_succ]
                refine held_take 10 (v := ?_) rfl (by kernel_rfl) (by kernel_rfl) (by kernel_rfl) (fun _ _ _ h => h) (by rfl) (fun w hS => ?_) (by assumption) ?_
                rotate_left
                · try dsimp only at hS
                  go_simp <;> with_reducible rfl
                try simp only [Act.put, List.setIfInBounds_toArray, List.set_cons_zero, List.set_cons_succ]
                refine held_take 11 (v := ?_) rfl (by kernel_rfl) (by kernel_rfl) (by kernel_rfl) (fun _ _ _ h => h) (by rfl) (fun w hS => ?_) (by assumption) ?_
                rotate_left
                · try dsimp only at hS
                  go_simp <;> with_reducible rfl
                try simp only [Act.put, List.setIfInBounds_toArray, List.set_cons_zero, List.set_cons_succ]
                refine held_take 12 (v := ?_) rfl (by kernel_rfl) (by kernel_rfl) (by kernel_rfl) (fun _ _ _ h => h) (by rfl) (fun w hS => ?_) (by assumption) ?_
                rotate_left
                · try dsimp only at hS
                  go_simp <;> with_reducible rfl
                try simp only [Act.put, List.setIfInBounds_toArray, List.set_cons_zero, List.set_cons_succ]
                refine held_done (by kernel_rfl) ?_
                go_wp2_with fail
                go_ret
                exact ⟨rfl, HBz.out.trans ((HBm.out.trans (HBe2.out.mono HBm.out.size)).mono HBz.out.size)⟩
              · have HEq2 : Hid (∀ w, Calls Try.prog 19 #[.agg M, .agg RR] w fun e w' => e = .returned (.bool true) ∧ Below w.heap.size w w') := Lib.hid (fun w => by rw [← hd]; exact HEqB.out w)
                have heq : ∀ w, (binOp .eql 28 (.agg M) (.agg RR)).run Try.prog w = .ok (.bool true) w := fun w => by rw [← hd]; exact HEqC.out w
                clear hd
                refine wp_region_held_drew (S := (fun w' => Below wm.heap.size wm w')) (by kernel_rfl) ((Below.refl _ _).drew) (fun hHeld => ?_)
                refine held_take 0 (v := .agg M) rfl (by kernel_rfl) (by kernel_rfl) (by kernel_rfl) (fun _ _ _ h => h) (by rfl) (fun w hS => ?_) (by assumption) ?_
                · exact yield_load_row _ _ _ _ (by rfl) g9 (by rfl) 28 M (0, 0) _ (HLm.out _ hS) Try.underlying28 (by rfl) HIM.out
                try simp only [Act.put, List.setIfInBounds_toArray, List.set_cons_zero, List.set_cons_succ]
                refine held_take 1 (v := .agg M) rfl (by kernel_rfl) (by kernel_rfl) (by kernel_rfl) (fun _ _ _ h => h) (by rfl) (fun w hS => ?_) (by assumption) ?_
                · exact yield_load_row _ _ _ _ (by rfl) g9 (by rfl) 28 M (0, 0) _ (HLm.out _ hS) Try.underlying28 (by rfl) HIM.out
                try simp only [Act.put, List.setIfInBounds_toArray, List.set_cons_zero, List.set_cons_succ]
                refine held_one 2 rfl (by kernel_rfl) (fun K hK => ?_)
                go_simp
                refine Calls.mono (HEq1.out _) ?_
                rintro e we1 ⟨rfl, hbe⟩
                have hbe1 : Below wm.heap.size wm we1 := (Below.refl _ _).drew.trans hbe
                have HBe1 := Lib.hid hbe1
                refine hK.out _ _ (fun w' => Below wm.heap.size wm w') (fun _ h => h) hbe1 (fun hHeld => ?_)
                clear hK K
                try simp only [Act.put, List.setIfInBounds_toArray, List.set_cons_zero, List.set_cons_succ]
                refine held_take 3 (v := ?_) rfl (by kernel_rfl) (by kernel_rfl) (by kernel_rfl) (fun _ _ _ h => h) (by rfl) (fun w hS => ?_) (by assumption) ?_
                rotate_left
                · try dsimp only at hS
                  go_simp <;> with_reducible rfl
                try simp only [Act.put, List.setIfInBounds_toArray, List.set_cons_zero, List.set_cons_succ]
                refine held_take 4 (v := .agg M) rfl (by kernel_rfl) (by kernel_rfl) (by kernel_rfl) (fun _ _ _ h => h) (by rfl) (fun w hS => ?_) (by assumption) ?_
                · exact yield_load_row _ _ _ _ (by rfl) g9 (by rfl) 28 M (0, 0) _ (HLm.out _ hS) Try.underlying28 (by rfl) HIM.out
                try simp only [Act.put, List.setIfInBounds_toArray, List.set_cons_zero, List.set_cons_succ]
                refine held_take 5 (v := .agg RR) rfl (by kernel_rfl) (by kernel_rfl) (by kernel_rfl) (fun _ _ _ h => h) (by rfl) (fun w hS => ?_) (by assumption) ?_
                · exact yield_load_row _ _ _ _ (by rfl) g7 (by rfl) 28 RR (0, 0) _ (HLr.out _ hS) Try.underlying28 (by rfl) HIR.out
                try simp only [Act.put, List.setIfInBounds_toArray, List.set_cons_zero, List.set_cons_succ]
                refine held_take 7 (v := .agg M) rfl (by kernel_rfl) (by kernel_rfl) (by kernel_rfl) (fun _ _ _ h => h) (by rfl) (fun w hS => ?_) (by assumption) ?_
                · exact yield_load_row _ _ _ _ (by rfl) g9 (by rfl) 28 M (0, 0) _ (HLm.out _ hS) Try.underlying28 (by rfl) HIM.out
                try simp only [Act.put, List.setIfInBounds_toArray, List.set_cons_zero, List.set_cons_succ]
                refine held_take 8 (v := .agg RR) rfl (by kernel_rfl) (by kernel_rfl) (by kernel_rfl) (fun _ _ _ h => h) (by rfl) (fun w hS => ?_) (by assumption) ?_
                · exact yield_load_row _ _ _ _ (by rfl) g7 (by rfl) 28 RR (0, 0) _ (HLr.out _ hS) Try.underlying28 (by rfl) HIR.out
                try simp only [Act.put, List.setIfInBounds_toArray, List.set_cons_zero, List.set_cons_succ]
                refine held_take 9 (v := ?_) rfl (by kernel_rfl) (by kernel_rfl) (by kernel_rfl) (fun _ _ _ h => h) (by rfl) (fun w hS => ?_) (by assumption) ?_
                rotate_left
                · try dsimp only at hS
                  go_simp <;> with_reducible rfl
                try simp only [Act.put, List.setIfInBounds_toArray, List.set_cons_zero, List.set_cons_succ]
                refine held_one 6 rfl (by kernel_rfl) (fun K hK => ?_)
                go_simp
                refine Calls.mono (HEq2.out _) ?_
                rintro e we2 ⟨rfl, hbe⟩
                have hbe2 : Below wm.heap.size wm we2 := HBe1.out.trans (hbe.mono HBe1.out.size)
                have HBe2 := Lib.hid hbe2
                refine hK.out _ _ (fun w' => Below wm.heap.size wm w') (fun _ h => h) hbe2 (fun hHeld => ?_)
                clear hK K
                try simp only [Act.put, List.setIfInBounds_toArray, List.set_cons_zero, List.set_cons_succ]
                refine held_take 10 (v := ?_) rfl (by kernel_rfl) (by kernel_rfl) (by kernel_rfl) (fun _ _ _ h => h) (by rfl) (fun w hS => ?_) (by assumption) ?_
                rotate_left
                · try dsimp only at hS
                  go_simp <;> with_reducible rfl
                try simp only [Act.put, List.setIfInBounds_toArray, List.set_cons_zero, List.set_cons_succ]
                refine held_take 11 (v := ?_) rfl (by kernel_rfl) (by kernel_rfl) (by kernel_rfl) (fun _ _ _ h => h) (by rfl) (fun w hS => ?_) (by assumption) ?_
                rotate_left
                · try dsimp only at hS
                  go_simp <;> with_reducible rfl
                try simp only [Act.put, List.setIfInBounds_toArray, List.set_cons_zero, List.set_cons_succ]
                refine held_take 12 (v := ?_) rfl (by kernel_rfl) (by kernel_rfl) (by kernel_rfl) (fun _ _ _ h => h) (by rfl) (fun w hS => ?_) (by assumption) ?_
                rotate_left
                · try dsimp only at hS
                  go_simp <;> with_reducible rfl
                try simp only [Act.put, List.setIfInBounds_toArray, List.set_cons_zero, List.set_cons_succ]
                refine held_done (by kernel_rfl) ?_
                go_wp2_with fail
                go_ret
                exact ⟨rfl, HBz.out.trans ((HBm.out.trans (HBe2.out.mono HBm.out.size)).mono HBz.out.size)⟩
            · go_simp
              have HB5 : Hid (Below w5.heap.size w5 (wx2.alloc (.cells #[.slice a2 len2 cap2] 22))) := Lib.hid (HB2.out.alloc HB2.out.size _)
              have HP5 : Hid (HasB (wx2.alloc (.cells #[.slice a2 len2 cap2] 22)) wx2.heap.size #[.slice a2 len2 cap2] 22) := Lib.hid (HasB.new' (by simp) _ _)
              have HO5 := Lib.hid (own_below HO2.out ((Below.refl wx2.heap.size wx2).alloc (Nat.le_refl _) (.cells #[.slice a2 len2 cap2] 22)) (Nat.le_refl _))
              refine hK.out _ _ (fun w' => Below w5.heap.size w5 w') (fun _ h => h) HB5.out (fun hHeld => ?_)
              clear hK K
              try simp only [Act.put, List.setIfInBounds_toArray, List.set_cons_zero, List.set_cons_succ]
              refine held_one 5 rfl (by kernel_rfl) (fun K hK => ?_)
              obtain ⟨vy6, wy6, hry, howny, hgrowy⟩ := run_append_zeros_u8 (P := Try.prog) (w := (wx2.alloc (.cells #[.slice a2 len2 cap2] 22))) w5.heap.size 22 3 22 5 .i64 Try.underlying22 Try.underlying3 (by kernel_rfl) vx2 len key HO5.out 0 (by omega) HB5.out.size
              have hry2 : (Builtin.append_ #[22, 3] 22 #[vx2, .int .i64 0]).run Try.prog (wx2.alloc (.cells #[.slice a2 len2 cap2] 22)) = .ok vy6 wy6 := hry
              have HB6 : Hid (Below w5.heap.size w5 wy6) := Lib.hid (HB5.out.grown hgrowy HB5.out.size (fun k hk => (HO5.out.lt k hk).1))
              have HP6 : Hid (HasB wy6 wx2.heap.size #[.slice a2 len2 cap2] 22) := Lib.hid (HasB.kept HP5.out hgrowy (fun e => own_ne HO5.out HP5.out (by decide) e.symm))
              obtain ⟨ay6, cy6, rfl⟩ := own_form howny
              have HO6 := Lib.hid howny
              clear hry howny hgrowy
              refine (if_pos (by kernel_rfl)).mpr ?_
              refine Lib.wp_append_run _ (.tmp 49) (.tmp 50) 22 3 rfl vx2 (.int .i64 0) rfl rfl _ _ hry2 ?_
              refine hK.out _ _ (fun w' => Below w5.heap.size w5 w') (fun _ h => h) HB6.out (fun hHeld => ?_)
              clear hK K
              try simp only [Act.put, List.setIfInBounds_toArray, List.set_cons_zero, List.set_cons_succ]
              refine held_one 8 rfl (by kernel_rfl) (fun K hK => ?_)
              go_simp
              have hYY := HYf.out ay6 cy6 wy6 wx2.heap.size HO6.out HB6.out HP6.out
              refine Calls.mono (mac_any ay6 len cy6 (key ++ List.replicate 0 0) (some ⟨wx2.heap.size, 0, none⟩) 1 1 [b] _ hYY.1 hYY.2.1 hYY.2.2.1 hYY.2.2.2.1 (by omega) hYY.2.2.2.2 rfl HOneB.out.1 HOneB.out.2.1 HOneB.out.2.2 (by omega)) ?_
              rintro e wm ⟨rfl, hbm⟩
              rw [HMeq2.out]
              have HBm : Hid (Below w5.heap.size w5 wm) := Lib.hid (HB6.out.trans (hbm.mono HB6.out.size))
              clear hbm hYY
              refine hK.out _ _ (fun w' => Below w5.heap.size w5 w') (fun _ h => h) HBm.out (fun hHeld => ?_)
              clear hK K
              try simp only [Act.put, List.setIfInBounds_toArray, List.set_cons_zero, List.set_cons_succ]
              refine held_take 9 (v := ?_) rfl (by kernel_rfl) (by kernel_rfl) (by kernel_rfl) (fun _ _ _ h => h) (by rfl) (fun w hS => ?_) (by assumption) ?_
              rotate_left
              · try dsimp only at hS
                go_simp <;> with_reducible rfl
              try simp only [Act.put, List.setIfInBounds_toArray, List.set_cons_zero, List.set_cons_succ]
              refine held_done (by kernel_rfl) ?_
              go_wp2_with fail
              have HLm : Hid (∀ w', Below wm.heap.size wm w' → w'.heap[g9]? = some (.cells M 28 (0, 0))) := Lib.hid (fun w' h => HL9.out w' (HBm.out.trans (h.mono HBm.out.size)))
              have HLr : Hid (∀ w', Below wm.heap.size wm w' → w'.heap[g7]? = some (.cells RR 28 (0, 0))) := Lib.hid (fun w' h => HL7.out w' (HBm.out.trans (h.mono HBm.out.size)))
              go_wp2_with fail
              cases hd : decide (mL = r)
              · have HEq2 : Hid (∀ w, Calls Try.prog 19 #[.agg M, .agg RR] w fun e w' => e = .returned (.bool false) ∧ Below w.heap.size w w') := Lib.hid (fun w => by rw [← hd]; exact HEqB.out w)
                have heq : ∀ w, (binOp .eql 28 (.agg M) (.agg RR)).run Try.prog w = .ok (.bool false) w := fun w => by rw [← hd]; exact HEqC.out w
                clear hd
                refine wp_region_held_drew (S := (fun w' => Below wm.heap.size wm w')) (by kernel_rfl) ((Below.refl _ _).drew) (fun hHeld => ?_)
                refine held_take 0 (v := .agg M) rfl (by kernel_rfl) (by kernel_rfl) (by kernel_rfl) (fun _ _ _ h => h) (by rfl) (fun w hS => ?_) (by assumption) ?_
                · exact yield_load_row _ _ _ _ (by rfl) g9 (by rfl) 28 M (0, 0) _ (HLm.out _ hS) Try.underlying28 (by rfl) HIM.out
                try simp only [Act.put, List.setIfInBounds_toArray, List.set_cons_zero, List.set_cons_succ]
                refine held_take 1 (v := .agg M) rfl (by kernel_rfl) (by kernel_rfl) (by kernel_rfl) (fun _ _ _ h => h) (by rfl) (fun w hS => ?_) (by assumption) ?_
                · exact yield_load_row _ _ _ _ (by rfl) g9 (by rfl) 28 M (0, 0) _ (HLm.out _ hS) Try.underlying28 (by rfl) HIM.out
                try simp only [Act.put, List.setIfInBounds_toArray, List.set_cons_zero, List.set_cons_succ]
                refine held_one 2 rfl (by kernel_rfl) (fun K hK => ?_)
                go_simp
                refine Calls.mono (HEq1.out _) ?_
                rintro e we1 ⟨rfl, hbe⟩
                have hbe1 : Below wm.heap.size wm we1 := (Below.refl _ _).drew.trans hbe
                have HBe1 := Lib.hid hbe1
                refine hK.out _ _ (fun w' => Below wm.heap.size wm w') (fun _ h => h) hbe1 (fun hHeld => ?_)
                clear hK K
                try simp only [Act.put, List.setIfInBounds_toArray, List.set_cons_zero, List.set_cons_succ]
                refine held_take 3 (v := ?_) rfl (by kernel_rfl) (by kernel_rfl) (by kernel_rfl) (fun _ _ _ h => h) (by rfl) (fun w hS => ?_) (by assumption) ?_
                rotate_left
                · try dsimp only at hS
                  go_simp <;> with_reducible rfl
                try simp only [Act.put, List.setIfInBounds_toArray, List.set_cons_zero, List.set_cons_succ]
                refine held_take 4 (v := .agg M) rfl (by kernel_rfl) (by kernel_rfl) (by kernel_rfl) (fun _ _ _ h => h) (by rfl) (fun w hS => ?_) (by assumption) ?_
                · exact yield_load_row _ _ _ _ (by rfl) g9 (by rfl) 28 M (0, 0) _ (HLm.out _ hS) Try.underlying28 (by rfl) HIM.out
                try simp only [Act.put, List.setIfInBounds_toArray, List.set_cons_zero, List.set_cons_succ]
                refine held_take 5 (v := .agg RR) rfl (by kernel_rfl) (by kernel_rfl) (by kernel_rfl) (fun _ _ _ h => h) (by rfl) (fun w hS => ?_) (by assumption) ?_
                · exact yield_load_row _ _ _ _ (by rfl) g7 (by rfl) 28 RR (0, 0) _ (HLr.out _ hS) Try.underlying28 (by rfl) HIR.out
                try simp only [Act.put, List.setIfInBounds_toArray, List.set_cons_zero, List.set_cons_succ]
                refine held_take 7 (v := .agg M) rfl (by kernel_rfl) (by kernel_rfl) (by kernel_rfl) (fun _ _ _ h => h) (by rfl) (fun w hS => ?_) (by assumption) ?_
                · exact yield_load_row _ _ _ _ (by rfl) g9 (by rfl) 28 M (0, 0) _ (HLm.out _ hS) Try.underlying28 (by rfl) HIM.out
                try simp only [Act.put, List.setIfInBounds_toArray, List.set_cons_zero, List.set_cons_succ]
                refine held_take 8 (v := .agg RR) rfl (by kernel_rfl) (by kernel_rfl) (by kernel_rfl) (fun _ _ _ h => h) (by rfl) (fun w hS => ?_) (by assumption) ?_
                · exact yield_load_row _ _ _ _ (by rfl) g7 (by rfl) 28 RR (0, 0) _ (HLr.out _ hS) Try.underlying28 (by rfl) HIR.out
                try simp only [Act.put, List.setIfInBounds_toArray, List.set_cons_zero, List.set_cons_succ]
                refine held_take 9 (v := ?_) rfl (by kernel_rfl) (by kernel_rfl) (by kernel_rfl) (fun _ _ _ h => h) (by rfl) (fun w hS => ?_) (by assumption) ?_
                rotate_left
                · try dsimp only at hS
                  go_simp <;> with_reducible rfl
                try simp only [Act.put, List.setIfInBounds_toArray, List.set_cons_zero, List.set_cons_succ]
                refine held_one 6 rfl (by kernel_rfl) (fun K hK => ?_)
                go_simp
                refine Calls.mono (HEq2.out _) ?_
                rintro e we2 ⟨rfl, hbe⟩
                have hbe2 : Below wm.heap.size wm we2 := HBe1.out.trans (hbe.mono HBe1.out.size)
                have HBe2 := Lib.hid hbe2
                refine hK.out _ _ (fun w' => Below wm.heap.size wm w') (fun _ h => h) hbe2 (fun hHeld => ?_)
                clear hK K
                try simp only [Act.put, List.setIfInBounds_toArray, List.set_cons_zero, List.set_cons_succ]
                refine held_take 10 (v := ?_) rfl (by kernel_rfl) (by kernel_rfl) (by kernel_rfl) (fun _ _ _ h => h) (by rfl) (fun w hS => ?_) (by assumption) ?_
                rotate_left
                · try dsimp only at hS
                  go_simp <;> with_reducible rfl
                try simp only [Act.put, List.setIfInBounds_toArray, List.set_cons_zero, List.set_cons_succ]
                refine held_take 11 (v := ?_) rfl (by kernel_rfl) (by kernel_rfl) (by kernel_rfl) (fun _ _ _ h => h) (by rfl) (fun w hS => ?_) (by assumption) ?_
                rotate_left
                · try dsimp only at hS
                  go_simp <;> with_reducible rfl
                try simp only [Act.put, List.setIfInBounds_toArray, List.set_cons_zero, List.set_cons_succ]
                refine held_take 12 (v := ?_) rfl (by kernel_rfl) (by kernel_rfl) (by kernel_rfl) (fun _ _ _ h => h) (by rfl) (fun w hS => ?_) (by assumption) ?_
                rotate_left
                · try dsimp only at hS
                  go_simp <;> with_reducible rfl
                try simp only [Act.put, List.setIfInBounds_toArray, List.set_cons_zero, List.set_cons_succ]
                refine held_done (by kernel_rfl) ?_
                go_wp2_with fail
                go_ret
                exact ⟨rfl, HBz.out.trans ((HBm.out.trans (HBe2.out.mono HBm.out.size)).mono HBz.out.size)⟩
              · have HEq2 : Hid (∀ w, Calls Try.prog 19 #[.agg M, .agg RR] w fun e w' => e = .returned (.bool true) ∧ Below w.heap.size w w') := Lib.hid (fun w => by rw [← hd]; exact HEqB.out w)
                have heq : ∀ w, (binOp .eql 28 (.agg M) (.agg RR)).run Try.prog w = .ok (.bool true) w := fun w => by rw [← hd]; exact HEqC.out w
                clear hd
                refine wp_region_held_drew (S := (fun w' => Below wm.heap.size wm w')) (by kernel_rfl) ((Below.refl _ _).drew) (fun hHeld => ?_)
                refine held_take 0 (v := .agg M) rfl (by kernel_rfl) (by kernel_rfl) (by kernel_rfl) (fun _ _ _ h => h) (by rfl) (fun w hS => ?_) (by assumption) ?_
                · exact yield_load_row _ _ _ _ (by rfl) g9 (by rfl) 28 M (0, 0) _ (HLm.out _ hS) Try.underlying28 (by rfl) HIM.out
                try simp only [Act.put, List.setIfInBounds_toArray, List.set_cons_zero, List.set_cons_succ]
                refine held_take 1 (v := .agg M) rfl (by kernel_rfl) (by kernel_rfl) (by kernel_rfl) (fun _ _ _ h => h) (by rfl) (fun w hS => ?_) (by assumption) ?_
                · exact yield_load_row _ _ _ _ (by rfl) g9 (by rfl) 28 M (0, 0) _ (HLm.out _ hS) Try.underlying28 (by rfl) HIM.out
                try simp only [Act.put, List.setIfInBounds_toArray, List.set_cons_zero, List.set_cons_succ]
                refine held_one 2 rfl (by kernel_rfl) (fun K hK => ?_)
                go_simp
                refine Calls.mono (HEq1.out _) ?_
                rintro e we1 ⟨rfl, hbe⟩
                have hbe1 : Below wm.heap.size wm we1 := (Below.refl _ _).drew.trans hbe
                have HBe1 := Lib.hid hbe1
                refine hK.out _ _ (fun w' => Below wm.heap.size wm w') (fun _ h => h) hbe1 (fun hHeld => ?_)
                clear hK K
                try simp only [Act.put, List.setIfInBounds_toArray, List.set_cons_zero, List.set_cons_succ]
                refine held_take 3 (v := ?_) rfl (by kernel_rfl) (by kernel_rfl) (by kernel_rfl) (fun _ _ _ h => h) (by rfl) (fun w hS => ?_) (by assumption) ?_
                rotate_left
                · try dsimp only at hS
                  go_simp <;> with_reducible rfl
                try simp only [Act.put, List.setIfInBounds_toArray, List.set_cons_zero, List.set_cons_succ]
                refine held_take 4 (v := .agg M) rfl (by kernel_rfl) (by kernel_rfl) (by kernel_rfl) (fun _ _ _ h => h) (by rfl) (fun w hS => ?_) (by assumption) ?_
                · exact yield_load_row _ _ _ _ (by rfl) g9 (by rfl) 28 M (0, 0) _ (HLm.out _ hS) Try.underlying28 (by rfl) HIM.out
                try simp only [Act.put, List.setIfInBounds_toArray, List.set_cons_zero, List.set_cons_succ]
                refine held_take 5 (v := .agg RR) rfl (by kernel_rfl) (by kernel_rfl) (by kernel_rfl) (fun _ _ _ h => h) (by rfl) (fun w hS => ?_) (by assumption) ?_
                · exact yield_load_row _ _ _ _ (by rfl) g7 (by rfl) 28 RR (0, 0) _ (HLr.out _ hS) Try.underlying28 (by rfl) HIR.out
                try simp only [Act.put, List.setIfInBounds_toArray, List.set_cons_zero, List.set_cons_succ]
                refine held_take 7 (v := .agg M) rfl (by kernel_rfl) (by kernel_rfl) (by kernel_rfl) (fun _ _ _ h => h) (by rfl) (fun w hS => ?_) (by assumption) ?_
                · exact yield_load_row _ _ _ _ (by rfl) g9 (by rfl) 28 M (0, 0) _ (HLm.out _ hS) Try.underlying28 (by rfl) HIM.out
                try simp only [Act.put, List.setIfInBounds_toArray, List.set_cons_zero, List.set_cons_succ]
                refine held_take 8 (v := .agg RR) rfl (by kernel_rfl) (by kernel_rfl) (by kernel_rfl) (fun _ _ _ h => h) (by rfl) (fun w hS => ?_) (by assumption) ?_
                · exact yield_load_row _ _ _ _ (by rfl) g7 (by rfl) 28 RR (0, 0) _ (HLr.out _ hS) Try.underlying28 (by rfl) HIR.out
                try simp only [Act.put, List.setIfInBounds_toArray, List.set_cons_zero, List.set_cons_succ]
                refine held_take 9 (v := ?_) rfl (by kernel_rfl) (by kernel_rfl) (by kernel_rfl) (fun _ _ _ h => h) (by rfl) (fun w hS => ?_) (by assumption) ?_
                rotate_left
                · try dsimp only at hS
                  go_simp <;> with_reducible rfl
                try simp only [Act.put, List.setIfInBounds_toArray, List.set_cons_zero, List.set_cons_succ]
                refine held_one 6 rfl (by kernel_rfl) (fun K hK => ?_)
                go_simp
                refine Calls.mono (HEq2.out _) ?_
                rintro e we2 ⟨rfl, hbe⟩
                have hbe2 : Below wm.heap.size wm we2 := HBe1.out.trans (hbe.mono HBe1.out.size)
                have HBe2 := Lib.hid hbe2
                refine hK.out _ _ (fun w' => Below wm.heap.size wm w') (fun _ h => h) hbe2 (fun hHeld => ?_)
                clear hK K
                try simp only [Act.put, List.setIfInBounds_toArray, List.set_cons_zero, List.set_cons_succ]
                refine held_take 10 (v := ?_) rfl (by kernel_rfl) (by kernel_rfl) (by kernel_rfl) (fun _ _ _ h => h) (by rfl) (fun w hS => ?_) (by assumption) ?_
                rotate_left
                · try dsimp only at hS
                  go_simp <;> with_reducible rfl
                try simp only [Act.put, List.setIfInBounds_toArray, List.set_cons_zero, List.set_cons_succ]
                refine held_take 11 (v := ?_) rfl (by kernel_rfl) (by kernel_rfl) (by kernel_rfl) (fun _ _ _ h => h) (by rfl) (fun w hS => ?_) (by assumption) ?_
                rotate_left
                · try dsimp only at hS
                  go_simp <;> with_reducible rfl
                try simp only [Act.put, List.setIfInBounds_toArray, List.set_cons_zero, List.set_cons_succ]
                refine held_take 12 (v := ?_) rfl (by kernel_rfl) (by kernel_rfl) (by kernel_rfl) (fun _ _ _ h => h) (by rfl) (fun w hS => ?_) (by assumption) ?_
                rotate_left
                · try dsimp only at hS
                  go_simp <;> with_reducible rfl
                try simp only [Act.put, List.setIfInBounds_toArray, List.set_cons_zero, List.set_cons_succ]
                refine held_done (by kernel_rfl) ?_
                go_wp2_with fail
                go_ret
                exact ⟨rfl, HBz.out.trans ((HBm.out.trans (HBe2.out.mono HBm.out.size)).mono HBz.out.size)⟩
          · go_simp
            have HB7 : Hid (Below w5.heap.size w5 ((w5.drew.alloc (.cells #[] 5)).alloc (.cells #[.slice a2 len2 cap2] 22))) := Lib.hid (HB1.out.alloc HB1.out.size _)
            have HP7 : Hid (HasB ((w5.drew.alloc (.cells #[] 5)).alloc (.cells #[.slice a2 len2 cap2] 22)) (w5.heap.size + 1) #[.slice a2 len2 cap2] 22) := Lib.hid (HasB.new' (by simp) _ _)
            have HO7 := Lib.hid (own_below HO1.out ((Below.refl (w5.drew.alloc (.cells #[] 5)).heap.size (w5.drew.alloc (.cells #[] 5))).alloc (Nat.le_refl _) (.cells #[.slice a2 len2 cap2] 22)) (Nat.le_refl _))
            refine hK.out _ _ (fun w' => Below w5.heap.size w5 w') (fun _ h => h) HB7.out (fun hHeld => ?_)
            clear hK K
            try simp only [Act.put, List.setIfInBounds_toArray, List.set_cons_zero, List.set_cons_succ]
            refine held_one 3 rfl (by kernel_rfl) (fun K hK => ?_)
            refine step_app_u8 rfl (.tmp 47) (.tmp 48) 22 rfl w5.heap.size 5 Try.underlying22 (by kernel_rfl) (.slice (some ⟨w5.heap.size, 0, none⟩) 0 0) 0 [] rfl HO7.out a len cap key rfl (HKy5.out _ HB7.out) hnil (by omega) HB7.out.size ?_
            intro vx8 wx8 hownx hgrowx
            rw [Nat.zero_add, List.nil_append] at hownx
            have HB8 : Hid (Below w5.heap.size w5 wx8) := Lib.hid (HB7.out.grown hgrowx HB7.out.size (fun k hk => (HO7.out.lt k hk).1))
            have HO8 := Lib.hid hownx
            have HP8 : Hid (HasB wx8 (w5.heap.size + 1) #[.slice a2 len2 cap2] 22) := Lib.hid (HasB.kept HP7.out hgrowx (fun e => own_ne HO7.out HP7.out (by decide) e.symm))
            clear hownx hgrowx
            refine hK.out _ _ (fun w' => Below w5.heap.size w5 w') (fun _ h => h) HB8.out (fun hHeld => ?_)
            clear hK K
            try simp only [Act.put, List.setIfInBounds_toArray, List.set_cons_zero, List.set_cons_succ]
            refine held_one 5 rfl (by kernel_rfl) (fun K hK => ?_)
            obtain ⟨vy9, wy9, hry, howny, hgrowy⟩ := run_append_zeros_u8 (P := Try.prog) (w := wx8) w5.heap.size 22 3 22 5 .i64 Try.underlying22 Try.underlying3 (by kernel_rfl) vx8 len key HO8.out 0 (by omega) HB8.out.size
            have hry2 : (Builtin.append_ #[22, 3] 22 #[vx8, .int .i64 0]).run Try.prog wx8 = .ok vy9 wy9 := hry
            have HB9 : Hid (Below w5.heap.size w5 wy9) := Lib.hid (HB8.out.grown hgrowy HB8.out.size (fun k hk => (HO8.out.lt k hk).1))
            have HP9 : Hid (HasB wy9 (w5.heap.size + 1) #[.slice a2 len2 cap2] 22) := Lib.hid (HasB.kept HP8.out hgrowy (fun e => own_ne HO8.out HP8.out (by decide) e.symm))
            obtain ⟨ay9, cy9, rfl⟩ := own_form howny
            have HO9 := Lib.hid howny
            clear hry howny hgrowy
            refine (if_pos (by kernel_rfl)).mpr ?_
            refine Lib.wp_append_run _ (.tmp 49) (.tmp 50) 22 3 rfl vx8 (.int .i64 0) rfl rfl _ _ hry2 ?_
            refine hK.out _ _ (fun w' => Below w5.heap.size w5 w') (fun _ h => h) HB9.out (fun hHeld => ?_)
            clear hK K
            try simp only [Act.put, List.setIfInBounds_toArray, List.set_cons_zero, List.set_cons_succ]
            refine held_one 8 rfl (by kernel_rfl) (fun K hK => ?_)
            go_simp
            have hYY := HYf.out ay9 cy9 wy9 (w5.heap.size + 1) HO9.out HB9.out HP9.out
            refine Calls.mono (mac_any ay9 len cy9 (key ++ List.replicate 0 0) (some ⟨(w5.heap.size + 1), 0, none⟩) 1 1 [b] _ hYY.1 hYY.2.1 hYY.2.2.1 hYY.2.2.2.1 (by omega) hYY.2.2.2.2 rfl HOneB.out.1 HOneB.out.2.1 HOneB.out.2.2 (by omega)) ?_
            rintro e wm ⟨rfl, hbm⟩
            rw [HMeq2.out]
            have HBm : Hid (Below w5.heap.size w5 wm) := Lib.hid (HB9.out.trans (hbm.mono HB9.out.size))
            clear hbm hYY
            refine hK.out _ _ (fun w' => Below w5.heap.size w5 w') (fun _ h => h) HBm.out (fun hHeld => ?_)
            clear hK K
            try simp only [Act.put, List.setIfInBounds_toArray, List.set_cons_zero, List.set_cons_succ]
            refine held_take 9 (v := ?_) rfl (by kernel_rfl) (by kernel_rfl) (by kernel_rfl) (fun _ _ _ h => h) (by rfl) (fun w hS => ?_) (by assumption) ?_
            rotate_left
            · try dsimp only at hS
              go_simp <;> with_reducible rfl
            try simp only [Act.put, List.setIfInBounds_toArray, List.set_cons_zero, List.set_cons_succ]
            refine held_done (by kernel_rfl) ?_
            go_wp2_with fail
            have HLm : Hid (∀ w', Below wm.heap.size wm w' → w'.heap[g9]? = some (.cells M 28 (0, 0))) := Lib.hid (fun w' h => HL9.out w' (HBm.out.trans (h.mono HBm.out.size)))
            have HLr : Hid (∀ w', Below wm.heap.size wm w' → w'.heap[g7]? = some (.cells RR 28 (0, 0))) := Lib.hid (fun w' h => HL7.out w' (HBm.out.trans (h.mono HBm.out.size)))
            go_wp2_with fail
            cases hd : decide (mL = r)
            · have HEq2 : Hid (∀ w, Calls Try.prog 19 #[.agg M, .agg RR] w fun e w' => e = .returned (.bool false) ∧ Below w.heap.size w w') := Lib.hid (fun w => by rw [← hd]; exact HEqB.out w)
              have heq : ∀ w, (binOp .eql 28 (.agg M) (.agg RR)).run Try.prog w = .ok (.bool false) w := fun w => by rw [← hd]; exact HEqC.out w
              clear hd
              refine wp_region_held_drew (S := (fun w' => Below wm.heap.size wm w')) (by kernel_rfl) ((Below.refl _ _).drew) (fun hHeld => ?_)
              refine held_take 0 (v := .agg M) rfl (by kernel_rfl) (by kernel_rfl) (by kernel_rfl) (fun _ _ _ h => h) (by rfl) (fun w hS => ?_) (by assumption) ?_
              · exact yield_load_row _ _ _ _ (by rfl) g9 (by rfl) 28 M (0, 0) _ (HLm.out _ hS) Try.underlying28 (by rfl) HIM.out
              try simp only [Act.put, List.setIfInBounds_toArray, List.set_cons_zero, List.set_cons_succ]
              refine held_take 1 (v := .agg M) rfl (by kernel_rfl) (by kernel_rfl) (by kernel_rfl) (fun _ _ _ h => h) (by rfl) (fun w hS => ?_) (by assumption) ?_
              · exact yield_load_row _ _ _ _ (by rfl) g9 (by rfl) 28 M (0, 0) _ (HLm.out _ hS) Try.underlying28 (by rfl) HIM.out
              try simp only [Act.put, List.setIfInBounds_toArray, List.set_cons_zero, List.set_cons_succ]
              refine held_one 2 rfl (by kernel_rfl) (fun K hK => ?_)
              go_simp
              refine Calls.mono (HEq1.out _) ?_
              rintro e we1 ⟨rfl, hbe⟩
              have hbe1 : Below wm.heap.size wm we1 := (Below.refl _ _).drew.trans hbe
              have HBe1 := Lib.hid hbe1
              refine hK.out _ _ (fun w' => Below wm.heap.size wm w') (fun _ h => h) hbe1 (fun hHeld => ?_)
              clear hK K
              try simp only [Act.put, List.setIfInBounds_toArray, List.set_cons_zero, List.set_cons_succ]
              refine held_take 3 (v := ?_) rfl (by kernel_rfl) (by kernel_rfl) (by kernel_rfl) (fun _ _ _ h => h) (by rfl) (fun w hS => ?_) (by assumption) ?_
              rotate_left
              · try dsimp only at hS
                go_simp <;> with_reducible rfl
              try simp only [Act.put, List.setIfInBounds_toArray, List.set_cons_zero, List.set_cons_succ]
              refine held_take 4 (v := .agg M) rfl (by kernel_rfl) (by kernel_rfl) (by kernel_rfl) (fun _ _ _ h => h) (by rfl) (fun w hS => ?_) (by assumption) ?_
              · exact yield_load_row _ _ _ _ (by rfl) g9 (by rfl) 28 M (0, 0) _ (HLm.out _ hS) Try.underlying28 (by rfl) HIM.out
              try simp only [Act.put, List.setIfInBounds_toArray, List.set_cons_zero, List.set_cons_succ]
              refine held_take 5 (v := .agg RR) rfl (by kernel_rfl) (by kernel_rfl) (by kernel_rfl) (fun _ _ _ h => h) (by rfl) (fun w hS => ?_) (by assumption) ?_
              · exact yield_load_row _ _ _ _ (by rfl) g7 (by rfl) 28 RR (0, 0) _ (HLr.out _ hS) Try.underlying28 (by rfl) HIR.out
              try simp only [Act.put, List.setIfInBounds_toArray, List.set_cons_zero, List.set_cons_succ]
              refine held_take 7 (v := .agg M) rfl (by kernel_rfl) (by kernel_rfl) (by kernel_rfl) (fun _ _ _ h => h) (by rfl) (fun w hS => ?_) (by assumption) ?_
              · exact yield_load_row _ _ _ _ (by rfl) g9 (by rfl) 28 M (0, 0) _ (HLm.out _ hS) Try.underlying28 (by rfl) HIM.out
              try simp only [Act.put, List.setIfInBounds_toArray, List.set_cons_zero, List.set_cons_succ]
              refine held_take 8 (v := .agg RR) rfl (by kernel_rfl) (by kernel_rfl) (by kernel_rfl) (fun _ _ _ h => h) (by rfl) (fun w hS => ?_) (by assumption) ?_
              · exact yield_load_row _ _ _ _ (by rfl) g7 (by rfl) 28 RR (0, 0) _ (HLr.out _ hS) Try.underlying28 (by rfl) HIR.out
              try simp only [Act.put, List.setIfInBounds_toArray, List.set_cons_zero, List.set_cons_succ]
              refine held_take 9 (v := ?_) rfl (by kernel_rfl) (by kernel_rfl) (by kernel_rfl) (fun _ _ _ h => h) (by rfl) (fun w hS => ?_) (by assumption) ?_
              rotate_left
              · try dsimp only at hS
                go_simp <;> with_reducible rfl
              try simp only [Act.put, List.setIfInBounds_toArray, List.set_cons_zero, List.set_cons_succ]
              refine held_one 6 rfl (by kernel_rfl) (fun K hK => ?_)
              go_simp
              refine Calls.mono (HEq2.out _) ?_
              rintro e we2 ⟨rfl, hbe⟩
              have hbe2 : Below wm.heap.size wm we2 := HBe1.out.trans (hbe.mono HBe1.out.size)
              have HBe2 := Lib.hid hbe2
              refine hK.out _ _ (fun w' => Below wm.heap.size wm w') (fun _ h => h) hbe2 (fun hHeld => ?_)
              clear hK K
              try simp only [Act.put, List.setIfInBounds_toArray, List.set_cons_zero, List.set_cons_succ]
              refine held_take 10 (v := ?_) rfl (by kernel_rfl) (by kernel_rfl) (by kernel_rfl) (fun _ _ _ h => h) (by rfl) (fun w hS => ?_) (by assumption) ?_
              rotate_left
              · try dsimp only at hS
                go_simp <;> with_reducible rfl
              try simp only [Act.put, List.setIfInBounds_toArray, List.set_cons_zero, List.set_cons_succ]
              refine held_take 11 (v := ?_) rfl (by kernel_rfl) (by kernel_rfl) (by kernel_rfl) (fun _ _ _ h => h) (by rfl) (fun w hS => ?_) (by assumption) ?_
              rotate_left
              · try dsimp only at hS
                go_simp <;> with_reducible rfl
              try simp only [Act.put, List.setIfInBounds_toArray, List.set_cons_zero, List.set_cons_succ]
              refine held_take 12 (v := ?_) rfl (by kernel_rfl) (by kernel_rfl) (by kernel_rfl) (fun _ _ _ h => h) (by rfl) (fun w hS => ?_) (by assumption) ?_
              rotate_left
              · try dsimp only at hS
                go_simp <;> with_reducible rfl
              try simp only [Act.put, List.setIfInBounds_toArray, List.set_cons_zero, List.set_cons_succ]
              refine held_done (by kernel_rfl) ?_
              go_wp2_with fail
              go_ret
              exact ⟨rfl, HBz.out.trans ((HBm.out.trans (HBe2.out.mono HBm.out.size)).mono HBz.out.size)⟩
            · have HEq2 : Hid (∀ w, Calls Try.prog 19 #[.agg M, .agg RR] w fun e w' => e = .returned (.bool true) ∧ Below w.heap.size w w') := Lib.hid (fun w => by rw [← hd]; exact HEqB.out w)
              have heq : ∀ w, (binOp .eql 28 (.agg M) (.agg RR)).run Try.prog w = .ok (.bool true) w := fun w => by rw [← hd]; exact HEqC.out w
              clear hd
              refine wp_region_held_drew (S := (fun w' => Below wm.heap.size wm w')) (by kernel_rfl) ((Below.refl _ _).drew) (fun hHeld => ?_)
              refine held_take 0 (v := .agg M) rfl (by kernel_rfl) (by kernel_rfl) (by kernel_rfl) (fun _ _ _ h => h) (by rfl) (fun w hS => ?_) (by assumption) ?_
              · exact yield_load_row _ _ _ _ (by rfl) g9 (by rfl) 28 M (0, 0) _ (HLm.out _ hS) Try.underlying28 (by rfl) HIM.out
              try simp only [Act.put, List.setIfInBounds_toArray, List.set_cons_zero, List.set_cons_succ]
              refine held_take 1 (v := .agg M) rfl (by kernel_rfl) (by kernel_rfl) (by kernel_rfl) (fun _ _ _ h => h) (by rfl) (fun w hS => ?_) (by assumption) ?_
              · exact yield_load_row _ _ _ _ (by rfl) g9 (by rfl) 28 M (0, 0) _ (HLm.out _ hS) Try.underlying28 (by rfl) HIM.out
              try simp only [Act.put, List.setIfInBounds_toArray, List.set_cons_zero, List.set_cons_succ]
              refine held_one 2 rfl (by kernel_rfl) (fun K hK => ?_)
              go_simp
              refine Calls.mono (HEq1.out _) ?_
              rintro e we1 ⟨rfl, hbe⟩
              have hbe1 : Below wm.heap.size wm we1 := (Below.refl _ _).drew.trans hbe
              have HBe1 := Lib.hid hbe1
              refine hK.out _ _ (fun w' => Below wm.heap.size wm w') (fun _ h => h) hbe1 (fun hHeld => ?_)
              clear hK K
              try simp only [Act.put, List.setIfInBounds_toArray, List.set_cons_zero, List.set_cons_succ]
              refine held_take 3 (v := ?_) rfl (by kernel_rfl) (by kernel_rfl) (by kernel_rfl) (fun _ _ _ h => h) (by rfl) (fun w hS => ?_) (by assumption) ?_
              rotate_left
              · try dsimp only at hS
                go_simp <;> with_reducible rfl
              try simp only [Act.put, List.setIfInBounds_toArray, List.set_cons_zero, List.set_cons_succ]
              refine held_take 4 (v := .agg M) rfl (by kernel_rfl) (by kernel_rfl) (by kernel_rfl) (fun _ _ _ h => h) (by rfl) (fun w hS => ?_) (by assumption) ?_
              · exact yield_load_row _ _ _ _ (by rfl) g9 (by rfl) 28 M (0, 0) _ (HLm.out _ hS) Try.underlying28 (by rfl) HIM.out
              try simp only [Act.put, List.setIfInBounds_toArray, List.set_cons_zero, List.set_cons_succ]
              refine held_take 5 (v := .agg RR) rfl (by kernel_rfl) (by kernel_rfl) (by kernel_rfl) (fun _ _ _ h => h) (by rfl) (fun w hS => ?_) (by assumption) ?_
              · exact yield_load_row _ _ _ _ (by rfl) g7 (by rfl) 28 RR (0, 0) _ (HLr.out _ hS) Try.underlying28 (by rfl) HIR.out
              try simp only [Act.put, List.setIfInBounds_toArray, List.set_cons_zero, List.set_cons_succ]
              refine held_take 7 (v := .agg M) rfl (by kernel_rfl) (by kernel_rfl) (by kernel_rfl) (fun _ _ _ h => h) (by rfl) (fun w hS => ?_) (by assumption) ?_
              · exact yield_load_row _ _ _ _ (by rfl) g9 (by rfl) 28 M (0, 0) _ (HLm.out _ hS) Try.underlying28 (by rfl) HIM.out
              try simp only [Act.put, List.setIfInBounds_toArray, List.set_cons_zero, List.set_cons_succ]
              refine held_take 8 (v := .agg RR) rfl (by kernel_rfl) (by kernel_rfl) (by kernel_rfl) (fun _ _ _ h => h) (by rfl) (fun w hS => ?_) (by assumption) ?_
              · exact yield_load_row _ _ _ _ (by rfl) g7 (by rfl) 28 RR (0, 0) _ (HLr.out _ hS) Try.underlying28 (by rfl) HIR.out
              try simp only [Act.put, List.setIfInBounds_toArray, List.set_cons_zero, List.set_cons_succ]
              refine held_take 9 (v := ?_) rfl (by kernel_rfl) (by kernel_rfl) (by kernel_rfl) (fun _ _ _ h => h) (by rfl) (fun w hS => ?_) (by assumption) ?_
              rotate_left
              · try dsimp only at hS
                go_simp <;> with_reducible rfl
              try simp only [Act.put, List.setIfInBounds_toArray, List.set_cons_zero, List.set_cons_succ]
              refine held_one 6 rfl (by kernel_rfl) (fun K hK => ?_)
              go_simp
              refine Calls.mono (HEq2.out _) ?_
              rintro e we2 ⟨rfl, hbe⟩
              have hbe2 : Below wm.heap.size wm we2 := HBe1.out.trans (hbe.mono HBe1.out.size)
              have HBe2 := Lib.hid hbe2
              refine hK.out _ _ (fun w' => Below wm.heap.size wm w') (fun _ h => h) hbe2 (fun hHeld => ?_)
              clear hK K
              try simp only [Act.put, List.setIfInBounds_toArray, List.set_cons_zero, List.set_cons_succ]
              refine held_take 10 (v := ?_) rfl (by kernel_rfl) (by kernel_rfl) (by kernel_rfl) (fun _ _ _ h => h) (by rfl) (fun w hS => ?_) (by assumption) ?_
              rotate_left
              · try dsimp only at hS
                go_simp <;> with_reducible rfl
              try simp only [Act.put, List.setIfInBounds_toArray, List.set_cons_zero, List.set_cons_succ]
              refine held_take 11 (v := ?_) rfl (by kernel_rfl) (by kernel_rfl) (by kernel_rfl) (fun _ _ _ h => h) (by rfl) (fun w hS => ?_) (by assumption) ?_
              rotate_left
              · try dsimp only at hS
                go_simp <;> with_reducible rfl
              try simp only [Act.put, List.setIfInBounds_toArray, List.set_cons_zero, List.set_cons_succ]
              refine held_take 12 (v := ?_) rfl (by kernel_rfl) (by kernel_rfl) (by kernel_rfl) (fun _ _ _ h => h) (by rfl) (fun w hS => ?_) (by assumption) ?_
              rotate_left
              · try dsimp only at hS
                go_simp <;> with_reducible rfl
              try simp only [Act.put, List.setIfInBounds_toArray, List.set_cons_zero, List.set_cons_succ]
              refine held_done (by kernel_rfl) ?_
              go_wp2_with fail
              go_ret
              exact ⟨rfl, HBz.out.trans ((HBm.out.trans (HBe2.out.mono HBm.out.size)).mono HBz.out.size)⟩
        · go_simp
          have HB10 : Hid (Below w5.heap.size w5 (w5.drew.alloc (.cells #[.slice a2 len2 cap2] 22))) := Lib.hid (HBs.out.alloc HBs.out.size _)
          have HP10 : Hid (HasB (w5.drew.alloc (.cells #[.slice a2 len2 cap2] 22)) w5.heap.size #[.slice a2 len2 cap2] 22) := Lib.hid (HasB.new' (by simp) _ _)
          refine hK.out _ _ (fun w' => Below w5.heap.size w5 w') (fun _ h => h) HB10.out (fun hHeld => ?_)
          clear hK K
          try simp only [Act.put, List.setIfInBounds_toArray, List.set_cons_zero, List.set_cons_succ]
          refine held_one 1 rfl (by kernel_rfl) (fun K hK => ?_)
          go_simp
          have HB11 : Hid (Below w5.heap.size w5 ((w5.drew.alloc (.cells #[.slice a2 len2 cap2] 22)).alloc (.cells #[] 5))) := Lib.hid (HB10.out.alloc HB10.out.size _)
          have HO11 : Hid (((w5.drew.alloc (.cells #[.slice a2 len2 cap2] 22)).alloc (.cells #[] 5)).ownsRow w5.heap.size 5 1 (.slice (some ⟨(w5.heap.size + 1), 0, none⟩) 0 0) 0 (u8s [])) := Lib.hid (by rw [show (w5.heap.size + 1) = (w5.drew.alloc (.cells #[.slice a2 len2 cap2] 22)).heap.size by simp]; exact own_empty (w := (w5.drew.alloc (.cells #[.slice a2 len2 cap2] 22))) HB10.out.size)
          have HP11 := Lib.hid (HasB.alloc HP10.out (.cells #[] 5))
          refine hK.out _ _ (fun w' => Below w5.heap.size w5 w') (fun _ h => h) HB11.out (fun hHeld => ?_)
          clear hK K
          try simp only [Act.put, List.setIfInBounds_toArray, List.set_cons_zero, List.set_cons_succ]
          refine held_one 3 rfl (by kernel_rfl) (fun K hK => ?_)
          refine step_app_u8 rfl (.tmp 47) (.tmp 48) 22 rfl w5.heap.size 5 Try.underlying22 (by kernel_rfl) (.slice (some ⟨(w5.heap.size + 1), 0, none⟩) 0 0) 0 [] rfl HO11.out a len cap key rfl (HKy5.out _ HB11.out) hnil (by omega) HB11.out.size ?_
          intro vx12 wx12 hownx hgrowx
          rw [Nat.zero_add, List.nil_append] at hownx
          have HB12 : Hid (Below w5.heap.size w5 wx12) := Lib.hid (HB11.out.grown hgrowx HB11.out.size (fun k hk => (HO11.out.lt k hk).1))
          have HO12 := Lib.hid hownx
          have HP12 : Hid (HasB wx12 w5.heap.size #[.slice a2 len2 cap2] 22) := Lib.hid (HasB.kept HP11.out hgrowx (fun e => own_ne HO11.out HP11.out (by decide) e.symm))
          clear hownx hgrowx
          refine hK.out _ _ (fun w' => Below w5.heap.size w5 w') (fun _ h => h) HB12.out (fun hHeld => ?_)
          clear hK K
          try simp only [Act.put, List.setIfInBounds_toArray, List.set_cons_zero, List.set_cons_succ]
          refine held_one 5 rfl (by kernel_rfl) (fun K hK => ?_)
          obtain ⟨vy13, wy13, hry, howny, hgrowy⟩ := run_append_zeros_u8 (P := Try.prog) (w := wx12) w5.heap.size 22 3 22 5 .i64 Try.underlying22 Try.underlying3 (by kernel_rfl) vx12 len key HO12.out 0 (by omega) HB12.out.size
          have hry2 : (Builtin.append_ #[22, 3] 22 #[vx12, .int .i64 0]).run Try.prog wx12 = .ok vy13 wy13 := hry
          have HB13 : Hid (Below w5.heap.size w5 wy13) := Lib.hid (HB12.out.grown hgrowy HB12.out.size (fun k hk => (HO12.out.lt k hk).1))
          have HP13 : Hid (HasB wy13 w5.heap.size #[.slice a2 len2 cap2] 22) := Lib.hid (HasB.kept HP12.out hgrowy (fun e => own_ne HO12.out HP12.out (by decide) e.symm))
          obtain ⟨ay13, cy13, rfl⟩ := own_form howny
          have HO13 := Lib.hid howny
          clear hry howny hgrowy
          refine (if_pos (by kernel_rfl)).mpr ?_
          refine Lib.wp_append_run _ (.tmp 49) (.tmp 50) 22 3 rfl vx12 (.int .i64 0) rfl rfl _ _ hry2 ?_
          refine hK.out _ _ (fun w' => Below w5.heap.size w5 w') (fun _ h => h) HB13.out (fun hHeld => ?_)
          clear hK K
          try simp only [Act.put, List.setIfInBounds_toArray, List.set_cons_zero, List.set_cons_succ]
          refine held_one 8 rfl (by kernel_rfl) (fun K hK => ?_)
          go_simp
          have hYY := HYf.out ay13 cy13 wy13 w5.heap.size HO13.out HB13.out HP13.out
          refine Calls.mono (mac_any ay13 len cy13 (key ++ List.replicate 0 0) (some ⟨w5.heap.size, 0, none⟩) 1 1 [b] _ hYY.1 hYY.2.1 hYY.2.2.1 hYY.2.2.2.1 (by omega) hYY.2.2.2.2 rfl HOneB.out.1 HOneB.out.2.1 HOneB.out.2.2 (by omega)) ?_
          rintro e wm ⟨rfl, hbm⟩
          rw [HMeq2.out]
          have HBm : Hid (Below w5.heap.size w5 wm) := Lib.hid (HB13.out.trans (hbm.mono HB13.out.size))
          clear hbm hYY
          refine hK.out _ _ (fun w' => Below w5.heap.size w5 w') (fun _ h => h) HBm.out (fun hHeld => ?_)
          clear hK K
          try simp only [Act.put, List.setIfInBounds_toArray, List.set_cons_zero, List.set_cons_succ]
          refine held_take 9 (v := ?_) rfl (by kernel_rfl) (by kernel_rfl) (by kernel_rfl) (fun _ _ _ h => h) (by rfl) (fun w hS => ?_) (by assumption) ?_
          rotate_left
          · try dsimp only at hS
            go_simp <;> with_reducible rfl
          try simp only [Act.put, List.setIfInBounds_toArray, List.set_cons_zero, List.set_cons_succ]
          refine held_done (by kernel_rfl) ?_
          go_wp2_with fail
          have HLm : Hid (∀ w', Below wm.heap.size wm w' → w'.heap[g9]? = some (.cells M 28 (0, 0))) := Lib.hid (fun w' h => HL9.out w' (HBm.out.trans (h.mono HBm.out.size)))
          have HLr : Hid (∀ w', Below wm.heap.size wm w' → w'.heap[g7]? = some (.cells RR 28 (0, 0))) := Lib.hid (fun w' h => HL7.out w' (HBm.out.trans (h.mono HBm.out.size)))
          go_wp2_with fail
          cases hd : decide (mL = r)
          · have HEq2 : Hid (∀ w, Calls Try.prog 19 #[.agg M, .agg RR] w fun e w' => e = .returned (.bool false) ∧ Below w.heap.size w w') := Lib.hid (fun w => by rw [← hd]; exact HEqB.out w)
            have heq : ∀ w, (binOp .eql 28 (.agg M) (.agg RR)).run Try.prog w = .ok (.bool false) w := fun w => by rw [← hd]; exact HEqC.out w
            clear hd
            refine wp_region_held_drew (S := (fun w' => Below wm.heap.size wm w')) (by kernel_rfl) ((Below.refl _ _).drew) (fun hHeld => ?_)
            refine held_take 0 (v := .agg M) rfl (by kernel_rfl) (by kernel_rfl) (by kernel_rfl) (fun _ _ _ h => h) (by rfl) (fun w hS => ?_) (by assumption) ?_
            · exact yield_load_row _ _ _ _ (by rfl) g9 (by rfl) 28 M (0, 0) _ (HLm.out _ hS) Try.underlying28 (by rfl) HIM.out
            try simp only [Act.put, List.setIfInBounds_toArray, List.set_cons_zero, List.set_cons_succ]
            refine held_take 1 (v := .agg M) rfl (by kernel_rfl) (by kernel_rfl) (by kernel_rfl) (fun _ _ _ h => h) (by rfl) (fun w hS => ?_) (by assumption) ?_
            · exact yield_load_row _ _ _ _ (by rfl) g9 (by rfl) 28 M (0, 0) _ (HLm.out _ hS) Try.underlying28 (by rfl) HIM.out
            try simp only [Act.put, List.setIfInBounds_toArray, List.set_cons_zero, List.set_cons_succ]
            refine held_one 2 rfl (by kernel_rfl) (fun K hK => ?_)
            go_simp
            refine Calls.mono (HEq1.out _) ?_
            rintro e we1 ⟨rfl, hbe⟩
            have hbe1 : Below wm.heap.size wm we1 := (Below.refl _ _).drew.trans hbe
            have HBe1 := Lib.hid hbe1
            refine hK.out _ _ (fun w' => Below wm.heap.size wm w') (fun _ h => h) hbe1 (fun hHeld => ?_)
            clear hK K
            try simp only [Act.put, List.setIfInBounds_toArray, List.set_cons_zero, List.set_cons_succ]
            refine held_take 3 (v := ?_) rfl (by kernel_rfl) (by kernel_rfl) (by kernel_rfl) (fun _ _ _ h => h) (by rfl) (fun w hS => ?_) (by assumption) ?_
            rotate_left
            · try dsimp only at hS
              go_simp <;> with_reducible rfl
            try simp only [Act.put, List.setIfInBounds_toArray, List.set_cons_zero, List.set_cons_succ]
            refine held_take 4 (v := .agg M) rfl (by kernel_rfl) (by kernel_rfl) (by kernel_rfl) (fun _ _ _ h => h) (by rfl) (fun w hS => ?_) (by assumption) ?_
            · exact yield_load_row _ _ _ _ (by rfl) g9 (by rfl) 28 M (0, 0) _ (HLm.out _ hS) Try.underlying28 (by rfl) HIM.out
            try simp only [Act.put, List.setIfInBounds_toArray, List.set_cons_zero, List.set_cons_succ]
            refine held_take 5 (v := .agg RR) rfl (by kernel_rfl) (by kernel_rfl) (by kernel_rfl) (fun _ _ _ h => h) (by rfl) (fun w hS => ?_) (by assumption) ?_
            · exact yield_load_row _ _ _ _ (by rfl) g7 (by rfl) 28 RR (0, 0) _ (HLr.out _ hS) Try.underlying28 (by rfl) HIR.out
            try simp only [Act.put, List.setIfInBounds_toArray, List.set_cons_zero, List.set_cons_succ]
            refine held_take 7 (v := .agg M) rfl (by kernel_rfl) (by kernel_rfl) (by kernel_rfl) (fun _ _ _ h => h) (by rfl) (fun w hS => ?_) (by assumption) ?_
            · exact yield_load_row _ _ _ _ (by rfl) g9 (by rfl) 28 M (0, 0) _ (HLm.out _ hS) Try.underlying28 (by rfl) HIM.out
            try simp only [Act.put, List.setIfInBounds_toArray, List.set_cons_zero, List.set_cons_succ]
            refine held_take 8 (v := .agg RR) rfl (by kernel_rfl) (by kernel_rfl) (by kernel_rfl) (fun _ _ _ h => h) (by rfl) (fun w hS => ?_) (by assumption) ?_
            · exact yield_load_row _ _ _ _ (by rfl) g7 (by rfl) 28 RR (0, 0) _ (HLr.out _ hS) Try.underlying28 (by rfl) HIR.out
            try simp only [Act.put, List.setIfInBounds_toArray, List.set_cons_zero, List.set_cons_succ]
            refine held_take 9 (v := ?_) rfl (by kernel_rfl) (by kernel_rfl) (by kernel_rfl) (fun _ _ _ h => h) (by rfl) (fun w hS => ?_) (by assumption) ?_
            rotate_left
            · try dsimp only at hS
              go_simp <;> with_reducible rfl
            try simp only [Act.put, List.setIfInBounds_toArray, List.set_cons_zero, List.set_cons_succ]
            refine held_one 6 rfl (by kernel_rfl) (fun K hK => ?_)
            go_simp
            refine Calls.mono (HEq2.out _) ?_
            rintro e we2 ⟨rfl, hbe⟩
            have hbe2 : Below wm.heap.size wm we2 := HBe1.out.trans (hbe.mono HBe1.out.size)
            have HBe2 := Lib.hid hbe2
            refine hK.out _ _ (fun w' => Below wm.heap.size wm w') (fun _ h => h) hbe2 (fun hHeld => ?_)
            clear hK K
            try simp only [Act.put, List.setIfInBounds_toArray, List.set_cons_zero, List.set_cons_succ]
            refine held_take 10 (v := ?_) rfl (by kernel_rfl) (by kernel_rfl) (by kernel_rfl) (fun _ _ _ h => h) (by rfl) (fun w hS => ?_) (by assumption) ?_
            rotate_left
            · try dsimp only at hS
              go_simp <;> with_reducible rfl
            try simp only [Act.put, List.setIfInBounds_toArray, List.set_cons_zero, List.set_cons_succ]
            refine held_take 11 (v := ?_) rfl (by kernel_rfl) (by kernel_rfl) (by kernel_rfl) (fun _ _ _ h => h) (by rfl) (fun w hS => ?_) (by assumption) ?_
            rotate_left
            · try dsimp only at hS
              go_simp <;> with_reducible rfl
            try simp only [Act.put, List.setIfInBounds_toArray, List.set_cons_zero, List.set_cons_succ]
            refine held_take 12 (v := ?_) rfl (by kernel_rfl) (by kernel_rfl) (by kernel_rfl) (fun _ _ _ h => h) (by rfl) (fun w hS => ?_) (by assumption) ?_
            rotate_left
            · try dsimp only at hS
              go_simp <;> with_reducible rfl
            try simp only [Act.put, List.setIfInBounds_toArray, List.set_cons_zero, List.set_cons_succ]
            refine held_done (by kernel_rfl) ?_
            go_wp2_with fail
            go_ret
            exact ⟨rfl, HBz.out.trans ((HBm.out.trans (HBe2.out.mono HBm.out.size)).mono HBz.out.size)⟩
          · have HEq2 : Hid (∀ w, Calls Try.prog 19 #[.agg M, .agg RR] w fun e w' => e = .returned (.bool true) ∧ Below w.heap.size w w') := Lib.hid (fun w => by rw [← hd]; exact HEqB.out w)
            have heq : ∀ w, (binOp .eql 28 (.agg M) (.agg RR)).run Try.prog w = .ok (.bool true) w := fun w => by rw [← hd]; exact HEqC.out w
            clear hd
            refine wp_region_held_drew (S := (fun w' => Below wm.heap.size wm w')) (by kernel_rfl) ((Below.refl _ _).drew) (fun hHeld => ?_)
            refine held_take 0 (v := .agg M) rfl (by kernel_rfl) (by kernel_rfl) (by kernel_rfl) (fun _ _ _ h => h) (by rfl) (fun w hS => ?_) (by assumption) ?_
            · exact yield_load_row _ _ _ _ (by rfl) g9 (by rfl) 28 M (0, 0) _ (HLm.out _ hS) Try.underlying28 (by rfl) HIM.out
            try simp only [Act.put, List.setIfInBounds_toArray, List.set_cons_zero, List.set_cons_succ]
            refine held_take 1 (v := .agg M) rfl (by kernel_rfl) (by kernel_rfl) (by kernel_rfl) (fun _ _ _ h => h) (by rfl) (fun w hS => ?_) (by assumption) ?_
            · exact yield_load_row _ _ _ _ (by rfl) g9 (by rfl) 28 M (0, 0) _ (HLm.out _ hS) Try.underlying28 (by rfl) HIM.out
            try simp only [Act.put, List.setIfInBounds_toArray, List.set_cons_zero, List.set_cons_succ]
            refine held_one 2 rfl (by kernel_rfl) (fun K hK => ?_)
            go_simp
            refine Calls.mono (HEq1.out _) ?_
            rintro e we1 ⟨rfl, hbe⟩
            have hbe1 : Below wm.heap.size wm we1 := (Below.refl _ _).drew.trans hbe
            have HBe1 := Lib.hid hbe1
            refine hK.out _ _ (fun w' => Below wm.heap.size wm w') (fun _ h => h) hbe1 (fun hHeld => ?_)
            clear hK K
            try simp only [Act.put, List.setIfInBounds_toArray, List.set_cons_zero, List.set_cons_succ]
            refine held_take 3 (v := ?_) rfl (by kernel_rfl) (by kernel_rfl) (by kernel_rfl) (fun _ _ _ h => h) (by rfl) (fun w hS => ?_) (by assumption) ?_
            rotate_left
            · try dsimp only at hS
              go_simp <;> with_reducible rfl
            try simp only [Act.put, List.setIfInBounds_toArray, List.set_cons_zero, List.set_cons_succ]
            refine held_take 4 (v := .agg M) rfl (by kernel_rfl) (by kernel_rfl) (by kernel_rfl) (fun _ _ _ h => h) (by rfl) (fun w hS => ?_) (by assumption) ?_
            · exact yield_load_row _ _ _ _ (by rfl) g9 (by rfl) 28 M (0, 0) _ (HLm.out _ hS) Try.underlying28 (by rfl) HIM.out
            try simp only [Act.put, List.setIfInBounds_toArray, List.set_cons_zero, List.set_cons_succ]
            refine held_take 5 (v := .agg RR) rfl (by kernel_rfl) (by kernel_rfl) (by kernel_rfl) (fun _ _ _ h => h) (by rfl) (fun w hS => ?_) (by assumption) ?_
            · exact yield_load_row _ _ _ _ (by rfl) g7 (by rfl) 28 RR (0, 0) _ (HLr.out _ hS) Try.underlying28 (by rfl) HIR.out
            try simp only [Act.put, List.setIfInBounds_toArray, List.set_cons_zero, List.set_cons_succ]
            refine held_take 7 (v := .agg M) rfl (by kernel_rfl) (by kernel_rfl) (by kernel_rfl) (fun _ _ _ h => h) (by rfl) (fun w hS => ?_) (by assumption) ?_
            · exact yield_load_row _ _ _ _ (by rfl) g9 (by rfl) 28 M (0, 0) _ (HLm.out _ hS) Try.underlying28 (by rfl) HIM.out
            try simp only [Act.put, List.setIfInBounds_toArray, List.set_cons_zero, List.set_cons_succ]
            refine held_take 8 (v := .agg RR) rfl (by kernel_rfl) (by kernel_rfl) (by kernel_rfl) (fun _ _ _ h => h) (by rfl) (fun w hS => ?_) (by assumption) ?_
            · exact yield_load_row _ _ _ _ (by rfl) g7 (by rfl) 28 RR (0, 0) _ (HLr.out _ hS) Try.underlying28 (by rfl) HIR.out
            try simp only [Act.put, List.setIfInBounds_toArray, List.set_cons_zero, List.set_cons_succ]
            refine held_take 9 (v := ?_) rfl (by kernel_rfl) (by kernel_rfl) (by kernel_rfl) (fun _ _ _ h => h) (by rfl) (fun w hS => ?_) (by assumption) ?_
            rotate_left
            · try dsimp only at hS
              go_simp <;> with_reducible rfl
            try simp only [Act.put, List.setIfInBounds_toArray, List.set_cons_zero, List.set_cons_succ]
            refine held_one 6 rfl (by kernel_rfl) (fun K hK => ?_)
            go_simp
            refine Calls.mono (HEq2.out _) ?_
            rintro e we2 ⟨rfl, hbe⟩
            have hbe2 : Below wm.heap.size wm we2 := HBe1.out.trans (hbe.mono HBe1.out.size)
            have HBe2 := Lib.hid hbe2
            refine hK.out _ _ (fun w' => Below wm.heap.size wm w') (fun _ h => h) hbe2 (fun hHeld => ?_)
            clear hK K
            try simp only [Act.put, List.setIfInBounds_toArray, List.set_cons_zero, List.set_cons_succ]
            refine held_take 10 (v := ?_) rfl (by kernel_rfl) (by kernel_rfl) (by kernel_rfl) (fun _ _ _ h => h) (by rfl) (fun w hS => ?_) (by assumption) ?_
            rotate_left
            · try dsimp only at hS
              go_simp <;> with_reducible rfl
            try simp only [Act.put, List.setIfInBounds_toArray, List.set_cons_zero, List.set_cons_succ]
            refine held_take 11 (v := ?_) rfl (by kernel_rfl) (by kernel_rfl) (by kernel_rfl) (fun _ _ _ h => h) (by rfl) (fun w hS => ?_) (by assumption) ?_
            rotate_left
            · try dsimp only at hS
              go_simp <;> with_reducible rfl
            try simp only [Act.put, List.setIfInBounds_toArray, List.set_cons_zero, List.set_cons_succ]
            refine held_take 12 (v := ?_) rfl (by kernel_rfl) (by kernel_rfl) (by kernel_rfl) (fun _ _ _ h => h) (by rfl) (fun w hS => ?_) (by assumption) ?_
            rotate_left
            · try dsimp only at hS
              go_simp <;> with_reducible rfl
            try simp only [Act.put, List.setIfInBounds_toArray, List.set_cons_zero, List.set_cons_succ]
            refine held_done (by kernel_rfl) ?_
            go_wp2_with fail
            go_ret
            exact ⟨rfl, HBz.out.trans ((HBm.out.trans (HBe2.out.mono HBm.out.size)).mono HBz.out.size)⟩

end Go.Proofs.Ytogpdmpefdafnaa
