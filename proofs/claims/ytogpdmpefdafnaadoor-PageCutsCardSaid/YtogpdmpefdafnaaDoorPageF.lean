/- page: Read. -/
import Derived.Test.YtogpdmpefdafnaaDoorPageE
import Derived.Test.YtogpdmpefdafnaaDoorHeld
namespace Go.Proofs.YtogpdmpefdafnaaDoor
open Go Go.RowKit
set_option linter.unusedVariables false

/-- What Read hands back. -/
def RdP (w : World) (l : List Nat) (bytes : Int) (e : Ending) : Prop :=
  ∃ a cap, e = .returned (.tuple #[.slice a (readL5 l bytes).length cap, .int .i64 (readN5 l bytes : Nat), .int .i64 (readS5 l bytes)]) ∧ Bytes w a (readL5 l bytes).length (readL5 l bytes) ∧ (a = none → cap = 0) ∧ (readL5 l bytes).length ≤ cap
theorem rd_none {l : List Nat} {bytes : Int} (h : readOk l bytes = none) (w : World) : RdP w l bytes (.returned (.tuple #[.slice none 0 0, .int .i64 0, .int .i64 (readS5 l bytes)])) := by
  have e1 : readL5 l bytes = [] := by unfold readL5; rw [h]; simp [outL]
  have e2 : readN5 l bytes = 0 := by unfold readN5; rw [h]; rfl
  unfold RdP
  rw [e1, e2]
  exact ⟨none, 0, rfl, ⟨rfl, by simp, fun h => by simp at h⟩, fun _ => rfl, Nat.le_refl _⟩
theorem rd_some {l o : List Nat} {bytes : Int} {n B : Nat} (h : readOk l bytes = some (o, n)) (hB : bytes = (B : Int)) (hBo : B ≤ o.length) (ho : ∀ c ∈ o, c < 256) {w : World} {g cap : Nat} (hy : Bytes w (some ⟨g, 0, none⟩) o.length o) (hc : o.length ≤ cap) : RdP w l bytes (.returned (.tuple #[.slice (some ⟨g, 0, none⟩) B cap, .int .i64 (n : Nat), .int .i64 2])) := by
  have e1 : readL5 l bytes = o.take B := by unfold readL5; rw [h, hB]; rfl
  have e2 : readN5 l bytes = n := by unfold readN5; rw [h]; rfl
  have hs : stateP l = 2 := by
    unfold readOk at h
    split at h
    · assumption
    · cases h
  have e3 : readS5 l bytes = 2 := by unfold readS5; rw [if_pos hs, h]; rfl
  have e4 : (o.take B).length = B := by rw [List.length_take]; omega
  unfold RdP
  rw [e1, e2, e3, e4]
  exact ⟨some ⟨g, 0, none⟩, cap, rfl, hy.take hBo, fun h => by simp at h, by omega⟩

set_option maxRecDepth 100000 in
set_option maxHeartbeats 8000000 in
theorem read_page (a : Option Addr) (len cap : Nat) (l : List Nat) (bytes : Int) (w : World) (hi : Bytes w a len l) (hl : len ≤ 1000000) (hc : len ≤ cap) (hcm : cap ≤ maxLen) (hby : I64 bytes) (hT : Deb w) :
    Calls Tryd.prog 8 #[.slice a len cap, .int .i64 bytes] w fun e w' => RdP w' l bytes e ∧ Below w.heap.size w w' := by
  unfold maxLen at hcm
  unfold I64 at hby
  have HI := Lib.hid hi
  have hll := hi.1
  have HT := Lib.hid hT
  obtain ⟨POST, hPOST⟩ : ∃ Q : Ending → World → Prop, Q = fun e w' => RdP w' l bytes e ∧ Below w.heap.size w w' := ⟨_, rfl⟩
  rw [← hPOST]
  have HPOST := Lib.hid hPOST
  have HSt := Lib.hid (state_any a len cap l w hi hl)
  have h256 := Lib.hid hi.2.1
  clear hPOST hT
  by_cases hs : stateP l = 2
  · rw [hs] at HSt
    have hk : l.length = 73 * (l.length / 73) ∧ 1 ≤ l.length / 73 ∧ l.length / 73 ≤ 8 := by
      unfold stateP at hs
      split at hs
      · rename_i hr
        unfold rightP at hr
        simp only [Bool.and_eq_true, decide_eq_true_eq] at hr
        omega
      · omega
    obtain ⟨K, hK⟩ : ∃ K, K = l.length / 73 := ⟨_, rfl⟩
    rw [← hK] at hk
    have HK : Hid (len = 73 * K) := Lib.hid (by omega)
    have hK1 := hk.2.1
    have hK8 := hk.2.2
    have t1 : (len : Int) / 73 = (K : Int) := by omega
    have hlen : len ≤ 584 := by omega
    have hlen0 : 73 ≤ len := by omega
    by_cases hb : 0 ≤ bytes ∧ bytes ≤ 64 * (K : Int)
    · obtain ⟨B, rfl⟩ : ∃ B : Nat, bytes = B := ⟨bytes.toNat, by omega⟩
      have hBK : B ≤ 64 * K := by omega
      have hok : readOk l (B : Int) = readTo l K := by unfold readOk; rw [if_pos hs, ← hK, if_pos hb]
      have HOk := Lib.hid hok
      obtain ⟨N64, hN64⟩ : ∃ N, N = 64 * K := ⟨_, rfl⟩
      have t2 : (K : Int) * 64 = (N64 : Int) := by omega
      have t2b : (64 : Int) * (K : Int) = (N64 : Int) := by omega
      have t3 : (B : Int) ≤ (N64 : Int) := by omega
      have t4 : ¬ ((B : Int) < 0) := by omega
      have t4b : ¬ (N64 < B) := by omega
      have HN := Lib.hid hN64
      have hfail : ∀ k wz, readTo l k = none → k ≤ K → Below w.heap.size w wz → POST (.returned (.tuple #[.slice none 0 0, .int .i64 0, .int .i64 3])) wz := by
        intro k wz hn hkK hz
        rw [HPOST.out]
        have h0 : readOk l (B : Int) = none := by rw [HOk.out]; have := readTo_none hn (K - k); rwa [show k + (K - k) = K by omega] at this
        have h1 : readS5 l (B : Int) = 3 := by unfold readS5; rw [if_pos hs, h0]; rfl
        have h2 := rd_none h0 wz
        rw [h1] at h2
        exact ⟨h2, hz⟩
      have HFail := Lib.hid hfail
      have HS := Lib.hid hs
      obtain ⟨b, off, rfl, hbl, hcell⟩ := hi.2.2 (by omega)
      clear hfail hok hb hk hK hN64 hi hll hcell hs
      go_enter Tryd.func8, Tryd.ntmps8
      go_wp2_with (go_at_call 9; refine HSt.out.mono ?_; rintro e w1 ⟨rfl, rfl⟩)
      go_loopw [8, 9, 10] (fun v m i wr => ∃ (k n : Nat) (o : List Nat), k ≤ K ∧ i = .int .i64 ((73 * k : Nat) : Int) ∧ m = .int .i64 (n : Int) ∧ n ≤ 8 * k ∧ o.length ≤ 512 ∧ Hid (readTo l k = some (o, n)) ∧ Hid (wr.ownsRow w.heap.size 5 1 v o.length (u8s o)) ∧ Hid (Below w.heap.size w wr)) (fun _ _ i _ => 600 - (intOf i).toNat)
      case atStart => exact ⟨0, 0, [], by omega, rfl, rfl, by omega, by simp, Lib.hid rfl, Lib.hid ⟨rfl, .inl ⟨rfl, rfl⟩⟩, Lib.hid (Below.refl _ _)⟩
      case round =>
        obtain ⟨k, n, o, hk, rfl, rfl, hn, hol5, HRd, HO, HB⟩ := hrel
        obtain ⟨wo, rfl⟩ : ∃ wo : World, wo = wr := ⟨_, rfl⟩
        have hol := readTo_some (by have := HK.out; have := HI.out.1; omega) HRd.out
        obtain ⟨q, hq⟩ : ∃ q, q = 73 * k := ⟨_, rfl⟩
        by_cases hlt : k < K
        · have hby2 := HI.out.below HB.out (Nat.le_refl _)
          have hkl : 73 * k + 73 ≤ len := by have := HK.out; omega
          have HData : Hid (Bytes wo (some ⟨b, off + q, none⟩) 64 (rawData l k)) := Lib.hid (by have := hby2.part q 64 (by omega); unfold rawData; rw [← hq]; exact this)
          have HChk : Hid (Bytes wo (some ⟨b, off + (q + 64), none⟩) 8 (rawChecks l k)) := Lib.hid (by have := hby2.part (q + 64) 8 (by omega); unfold rawChecks; rw [← hq]; exact this)
          have HTo := Lib.hid (Deb.below HT.out HB.out (Nat.le_refl _))
          have hd : Below wo.heap.size wo wo.drew := (Below.refl _ _).drew
          have hbo := HB.out.size
          have hql : q + 73 ≤ len := by omega
          have t10 : (q : Int) < (len : Int) := by omega
          have t11 : (0 : Int) ≤ (q : Int) := by omega
          have t12 : (q : Int) + 64 ≤ (len : Int) := by omega
          have t13 : ((q : Int)).toNat = q := by omega
          have t14 : ((q : Int) + 64).toNat = q + 64 := by omega
          have t15 : ((q : Int) + 72).toNat = q + 72 := by omega
          have t16 : q + 64 - q = 64 := by omega
          have t17 : q + 72 - (q + 64) = 8 := by omega
          have t18 : (q : Int) + 72 ≤ (len : Int) := by omega
          have t19 : q + 72 ≤ cap := by omega
          have t20 : ¬ cap = q := by omega
          have t21 : ¬ cap = q + 64 := by omega
          have t22 : (q : Int) + 72 ≤ (cap : Int) := by omega
          have t23 : (q : Int) + 64 ≤ (cap : Int) := by omega
          have t24 : (n : Int) ≤ 1000 := by omega
          have t25 : (0 : Int) ≤ (q : Int) + 64 := by omega
          have t26 : IntKind.i64.wrap ((q : Int) + 72) = (q : Int) + 72 := IntWalk.i64_in _ (by omega)
          have t27 : (0 : Int) ≤ (q : Int) + 72 := by omega
          have t28 : (q : Int) + 64 ≤ (q : Int) + 72 := by omega
          have t29 : (q : Int) ≤ (q : Int) + 64 := by omega
          have t30 : max ((q : Int) + 72) 0 = (q : Int) + 72 := by omega
          have t31 : q ≤ q + 64 := by omega
          have t32 : q + 64 ≤ q + 72 := by omega
          have t33 : max ((q : Int) + 64) 0 = (q : Int) + 64 := by omega
          have HQ := Lib.hid hq
          have hnx : readTo l (k + 1) = addOn (readTo l k) (mendAllS (rawData l k) (rawChecks l k)) := rfl
          rw [HRd.out] at hnx
          rw [← hq]
          rcases hms : mendAllS (rawData l k) (rawChecks l k) with _ | ⟨o2, n2⟩
          · rw [hms] at hnx
            have HMS := Lib.hid hms
            have HF := Lib.hid (fun wz hz => HFail.out (k + 1) wz hnx (by omega) hz)
            clear hnx hms hq hby2
            go_wp2_with fail
            refine wp_region_held_drew (S := (fun w' => Below wo.heap.size wo w')) (by kernel_rfl) (hd) (fun hHeld => ?_)
            refine held_take 0 (v := ?_) rfl (by kernel_rfl) (by kernel_rfl) (by kernel_rfl) (fun _ _ _ h => h) (by rfl) (fun w hS => ?_) (by assumption) ?_
            rotate_left
            · try dsimp only at hS
              go_simp <;> with_reducible rfl
            try simp only [Act.put, List.setIfInBounds_toArray, List.set_cons_zero, List.set_cons_succ]
            refine held_take 1 (v := ?_) rfl (by kernel_rfl) (by kernel_rfl) (by kernel_rfl) (fun _ _ _ h => h) (by rfl) (fun w hS => ?_) (by assumption) ?_
            rotate_left
            · try dsimp only at hS
              go_simp <;> with_reducible rfl
            try simp only [Act.put, List.setIfInBounds_toArray, List.set_cons_zero, List.set_cons_succ]
            refine held_take 2 (v := ?_) rfl (by kernel_rfl) (by kernel_rfl) (by kernel_rfl) (fun _ _ _ h => h) (by rfl) (fun w hS => ?_) (by assumption) ?_
            rotate_left
            · try dsimp only at hS
              go_simp <;> with_reducible rfl
            try simp only [Act.put, List.setIfInBounds_toArray, List.set_cons_zero, List.set_cons_succ]
            refine held_take 3 (v := ?_) rfl (by kernel_rfl) (by kernel_rfl) (by kernel_rfl) (fun _ _ _ h => h) (by rfl) (fun w hS => ?_) (by assumption) ?_
            rotate_left
            · try dsimp only at hS
              go_simp <;> with_reducible rfl
            try simp only [Act.put, List.setIfInBounds_toArray, List.set_cons_zero, List.set_cons_succ]
            refine held_take 4 (v := ?_) rfl (by kernel_rfl) (by kernel_rfl) (by kernel_rfl) (fun _ _ _ h => h) (by rfl) (fun w hS => ?_) (by assumption) ?_
            rotate_left
            · try dsimp only at hS
              go_simp <;> with_reducible rfl
            try simp only [Act.put, List.setIfInBounds_toArray, List.set_cons_zero, List.set_cons_succ]
            refine held_take 5 (v := ?_) rfl (by kernel_rfl) (by kernel_rfl) (by kernel_rfl) (fun _ _ _ h => h) (by rfl) (fun w hS => ?_) (by assumption) ?_
            rotate_left
            · try dsimp only at hS
              go_simp <;> with_reducible rfl
            try simp only [Act.put, List.setIfInBounds_toArray, List.set_cons_zero, List.set_cons_succ]
            refine held_take 6 (v := ?_) rfl (by kernel_rfl) (by kernel_rfl) (by kernel_rfl) (fun _ _ _ h => h) (by rfl) (fun w hS => ?_) (by assumption) ?_
            rotate_left
            · try dsimp only at hS
              go_simp <;> with_reducible rfl
            try simp only [Act.put, List.setIfInBounds_toArray, List.set_cons_zero, List.set_cons_succ]
            refine held_take 7 (v := ?_) rfl (by kernel_rfl) (by kernel_rfl) (by kernel_rfl) (fun _ _ _ h => h) (by rfl) (fun w hS => ?_) (by assumption) ?_
            rotate_left
            · try dsimp only at hS
              go_simp <;> with_reducible rfl
            try simp only [Act.put, List.setIfInBounds_toArray, List.set_cons_zero, List.set_cons_succ]
            refine held_take 8 (v := ?_) rfl (by kernel_rfl) (by kernel_rfl) (by kernel_rfl) (fun _ _ _ h => h) (by rfl) (fun w hS => ?_) (by assumption) ?_
            rotate_left
            · try dsimp only at hS
              go_simp <;> with_reducible rfl
            try simp only [Act.put, List.setIfInBounds_toArray, List.set_cons_zero, List.set_cons_succ]
            refine held_take 9 (v := ?_) rfl (by kernel_rfl) (by kernel_rfl) (by kernel_rfl) (fun _ _ _ h => h) (by rfl) (fun w hS => ?_) (by assumption) ?_
            rotate_left
            · try dsimp only at hS
              go_simp <;> with_reducible rfl
            try simp only [Act.put, List.setIfInBounds_toArray, List.set_cons_zero, List.set_cons_succ]
            refine held_take 10 (v := ?_) rfl (by kernel_rfl) (by kernel_rfl) (by kernel_rfl) (fun _ _ _ h => h) (by rfl) (fun w hS => ?_) (by assumption) ?_
            rotate_left
            · try dsimp only at hS
              go_simp <;> with_reducible rfl
            try simp only [Act.put, List.setIfInBounds_toArray, List.set_cons_zero, List.set_cons_succ]
            refine held_take 11 (v := ?_) rfl (by kernel_rfl) (by kernel_rfl) (by kernel_rfl) (fun _ _ _ h => h) (by rfl) (fun w hS => ?_) (by assumption) ?_
            rotate_left
            · try dsimp only at hS
              go_simp <;> with_reducible rfl
            try simp only [Act.put, List.setIfInBounds_toArray, List.set_cons_zero, List.set_cons_succ]
            refine held_one 12 rfl (by kernel_rfl) (fun K hK => ?_)
            go_simp
            refine Calls.mono (mendAllB_any (some ⟨b, off + q, none⟩) 64 64 (rawData l k) (some ⟨b, off + (q + 64), none⟩) 8 8 (rawChecks l k) _ (HData.out.below hd (Nat.le_refl _)) (HChk.out.below hd (Nat.le_refl _)) (by omega) (by omega) (by omega) (by omega) (Deb.below HTo.out hd (Nat.le_refl _))) ?_
            rintro e wa ⟨hv, hb⟩
            rw [HMS.out] at hv
            obtain rfl := hv
            have hbA : Below wo.heap.size wo wa := hd.trans (hb.mono hd.size)
            refine hK.out _ _ (fun w' => Below wa.heap.size wa w') (fun _ h => hbA.trans (h.mono hbA.size)) (Below.refl _ _) (fun hHeld => ?_)
            clear hK K
            try simp only [Act.put, List.setIfInBounds_toArray, List.set_cons_zero, List.set_cons_succ]
            refine held_take 13 (v := ?_) rfl (by kernel_rfl) (by kernel_rfl) (by kernel_rfl) (fun _ _ _ h => h) (by rfl) (fun w hS => ?_) (by assumption) ?_
            rotate_left
            · try dsimp only at hS
              go_simp <;> with_reducible rfl
            try simp only [Act.put, List.setIfInBounds_toArray, List.set_cons_zero, List.set_cons_succ]
            refine held_take 14 (v := ?_) rfl (by kernel_rfl) (by kernel_rfl) (by kernel_rfl) (fun _ _ _ h => h) (by rfl) (fun w hS => ?_) (by assumption) ?_
            rotate_left
            · try dsimp only at hS
              go_simp <;> with_reducible rfl
            try simp only [Act.put, List.setIfInBounds_toArray, List.set_cons_zero, List.set_cons_succ]
            refine held_take 15 (v := ?_) rfl (by kernel_rfl) (by kernel_rfl) (by kernel_rfl) (fun _ _ _ h => h) (by rfl) (fun w hS => ?_) (by assumption) ?_
            rotate_left
            · try dsimp only at hS
              go_simp <;> with_reducible rfl
            try simp only [Act.put, List.setIfInBounds_toArray, List.set_cons_zero, List.set_cons_succ]
            refine held_take 16 (v := ?_) rfl (by kernel_rfl) (by kernel_rfl) (by kernel_rfl) (fun _ _ _ h => h) (by rfl) (fun w hS => ?_) (by assumption) ?_
            rotate_left
            · try dsimp only at hS
              go_simp <;> with_reducible rfl
            try simp only [Act.put, List.setIfInBounds_toArray, List.set_cons_zero, List.set_cons_succ]
            refine held_take 17 (v := ?_) rfl (by kernel_rfl) (by kernel_rfl) (by kernel_rfl) (fun _ _ _ h => h) (by rfl) (fun w hS => ?_) (by assumption) ?_
            rotate_left
            · try dsimp only at hS
              go_simp <;> with_reducible rfl
            try simp only [Act.put, List.setIfInBounds_toArray, List.set_cons_zero, List.set_cons_succ]
            refine held_take 18 (v := ?_) rfl (by kernel_rfl) (by kernel_rfl) (by kernel_rfl) (fun _ _ _ h => h) (by rfl) (fun w hS => ?_) (by assumption) ?_
            rotate_left
            · try dsimp only at hS
              go_simp <;> with_reducible rfl
            try simp only [Act.put, List.setIfInBounds_toArray, List.set_cons_zero, List.set_cons_succ]
            refine held_take 19 (v := ?_) rfl (by kernel_rfl) (by kernel_rfl) (by kernel_rfl) (fun _ _ _ h => h) (by rfl) (fun w hS => ?_) (by assumption) ?_
            rotate_left
            · try dsimp only at hS
              go_simp <;> with_reducible rfl
            try simp only [Act.put, List.setIfInBounds_toArray, List.set_cons_zero, List.set_cons_succ]
            refine held_done (by kernel_rfl) ?_
            go_wp2
            first | exact HF.out _ (HB.out.trans (hbA.mono hbo)) | (go_ret3; exact HF.out _ (HB.out.trans (hbA.mono hbo)))
          · rw [hms] at hnx
            have h2 := mendAllS_some hms
            have hl2 : o2.length = 64 := by
              rw [h2.1]; unfold rawData; rw [List.length_take, List.length_drop]; have := HI.out.1; omega
            have hn2 : n2 ≤ 8 := by
              have h3 := h2.2.1
              unfold rawChecks at h3; rw [List.length_take, List.length_drop] at h3; omega
            have HMS := Lib.hid hms
            have HNx : Hid (readTo l (k + 1) = some (o ++ o2, n + n2)) := Lib.hid hnx
            have HL2 := Lib.hid hl2
            have hl2b : o2.length ≤ 64 := by omega
            have hol4 : o.length ≤ 448 := by have := hol.1; omega
            have HLap : Hid ((o ++ o2).length ≤ 512) := Lib.hid (by rw [List.length_append]; omega)
            clear hnx hms hq hby2 h2 hl2 hol
            go_wp2_with fail
            refine wp_region_held_drew (S := (fun w' => Below wo.heap.size wo w')) (by kernel_rfl) (hd) (fun hHeld => ?_)
            refine held_take 0 (v := ?_) rfl (by kernel_rfl) (by kernel_rfl) (by kernel_rfl) (fun _ _ _ h => h) (by rfl) (fun w hS => ?_) (by assumption) ?_
            rotate_left
            · try dsimp only at hS
              go_simp <;> with_reducible rfl
            try simp only [Act.put, List.setIfInBounds_toArray, List.set_cons_zero, List.set_cons_succ]
            refine held_take 1 (v := ?_) rfl (by kernel_rfl) (by kernel_rfl) (by kernel_rfl) (fun _ _ _ h => h) (by rfl) (fun w hS => ?_) (by assumption) ?_
            rotate_left
            · try dsimp only at hS
              go_simp <;> with_reducible rfl
            try simp only [Act.put, List.setIfInBounds_toArray, List.set_cons_zero, List.set_cons_succ]
            refine held_take 2 (v := ?_) rfl (by kernel_rfl) (by kernel_rfl) (by kernel_rfl) (fun _ _ _ h => h) (by rfl) (fun w hS => ?_) (by assumption) ?_
            rotate_left
            · try dsimp only at hS
              go_simp <;> with_reducible rfl
            try simp only [Act.put, List.setIfInBounds_toArray, List.set_cons_zero, List.set_cons_succ]
            refine held_take 3 (v := ?_) rfl (by kernel_rfl) (by kernel_rfl) (by kernel_rfl) (fun _ _ _ h => h) (by rfl) (fun w hS => ?_) (by assumption) ?_
            rotate_left
            · try dsimp only at hS
              go_simp <;> with_reducible rfl
            try simp only [Act.put, List.setIfInBounds_toArray, List.set_cons_zero, List.set_cons_succ]
            refine held_take 4 (v := ?_) rfl (by kernel_rfl) (by kernel_rfl) (by kernel_rfl) (fun _ _ _ h => h) (by rfl) (fun w hS => ?_) (by assumption) ?_
            rotate_left
            · try dsimp only at hS
              go_simp <;> with_reducible rfl
            try simp only [Act.put, List.setIfInBounds_toArray, List.set_cons_zero, List.set_cons_succ]
            refine held_take 5 (v := ?_) rfl (by kernel_rfl) (by kernel_rfl) (by kernel_rfl) (fun _ _ _ h => h) (by rfl) (fun w hS => ?_) (by assumption) ?_
            rotate_left
            · try dsimp only at hS
              go_simp <;> with_reducible rfl
            try simp only [Act.put, List.setIfInBounds_toArray, List.set_cons_zero, List.set_cons_succ]
            refine held_take 6 (v := ?_) rfl (by kernel_rfl) (by kernel_rfl) (by kernel_rfl) (fun _ _ _ h => h) (by rfl) (fun w hS => ?_) (by assumption) ?_
            rotate_left
            · try dsimp only at hS
              go_simp <;> with_reducible rfl
            try simp only [Act.put, List.setIfInBounds_toArray, List.set_cons_zero, List.set_cons_succ]
            refine held_take 7 (v := ?_) rfl (by kernel_rfl) (by kernel_rfl) (by kernel_rfl) (fun _ _ _ h => h) (by rfl) (fun w hS => ?_) (by assumption) ?_
            rotate_left
            · try dsimp only at hS
              go_simp <;> with_reducible rfl
            try simp only [Act.put, List.setIfInBounds_toArray, List.set_cons_zero, List.set_cons_succ]
            refine held_take 8 (v := ?_) rfl (by kernel_rfl) (by kernel_rfl) (by kernel_rfl) (fun _ _ _ h => h) (by rfl) (fun w hS => ?_) (by assumption) ?_
            rotate_left
            · try dsimp only at hS
              go_simp <;> with_reducible rfl
            try simp only [Act.put, List.setIfInBounds_toArray, List.set_cons_zero, List.set_cons_succ]
            refine held_take 9 (v := ?_) rfl (by kernel_rfl) (by kernel_rfl) (by kernel_rfl) (fun _ _ _ h => h) (by rfl) (fun w hS => ?_) (by assumption) ?_
            rotate_left
            · try dsimp only at hS
              go_simp <;> with_reducible rfl
            try simp only [Act.put, List.setIfInBounds_toArray, List.set_cons_zero, List.set_cons_succ]
            refine held_take 10 (v := ?_) rfl (by kernel_rfl) (by kernel_rfl) (by kernel_rfl) (fun _ _ _ h => h) (by rfl) (fun w hS => ?_) (by assumption) ?_
            rotate_left
            · try dsimp only at hS
              go_simp <;> with_reducible rfl
            try simp only [Act.put, List.setIfInBounds_toArray, List.set_cons_zero, List.set_cons_succ]
            refine held_take 11 (v := ?_) rfl (by kernel_rfl) (by kernel_rfl) (by kernel_rfl) (fun _ _ _ h => h) (by rfl) (fun w hS => ?_) (by assumption) ?_
            rotate_left
            · try dsimp only at hS
              go_simp <;> with_reducible rfl
            try simp only [Act.put, List.setIfInBounds_toArray, List.set_cons_zero, List.set_cons_succ]
            refine held_one 12 rfl (by kernel_rfl) (fun K hK => ?_)
            go_simp
            refine Calls.mono (mendAllB_any (some ⟨b, off + q, none⟩) 64 64 (rawData l k) (some ⟨b, off + (q + 64), none⟩) 8 8 (rawChecks l k) _ (HData.out.below hd (Nat.le_refl _)) (HChk.out.below hd (Nat.le_refl _)) (by omega) (by omega) (by omega) (by omega) (Deb.below HTo.out hd (Nat.le_refl _))) ?_
            rintro e wa ⟨hv, hb⟩
            rw [HMS.out] at hv
            obtain ⟨v, rfl, a5, c5, rfl, hy5, hn5, _⟩ := hv
            have hbA : Below wo.heap.size wo wa := hd.trans (hb.mono hd.size)
            refine hK.out _ _ (fun w' => Below wa.heap.size wa w') (fun _ h => hbA.trans (h.mono hbA.size)) (Below.refl _ _) (fun hHeld => ?_)
            clear hK K
            try simp only [Act.put, List.setIfInBounds_toArray, List.set_cons_zero, List.set_cons_succ]
            refine held_take 13 (v := ?_) rfl (by kernel_rfl) (by kernel_rfl) (by kernel_rfl) (fun _ _ _ h => h) (by rfl) (fun w hS => ?_) (by assumption) ?_
            rotate_left
            · try dsimp only at hS
              go_simp <;> with_reducible rfl
            try simp only [Act.put, List.setIfInBounds_toArray, List.set_cons_zero, List.set_cons_succ]
            refine held_take 14 (v := ?_) rfl (by kernel_rfl) (by kernel_rfl) (by kernel_rfl) (fun _ _ _ h => h) (by rfl) (fun w hS => ?_) (by assumption) ?_
            rotate_left
            · try dsimp only at hS
              go_simp <;> with_reducible rfl
            try simp only [Act.put, List.setIfInBounds_toArray, List.set_cons_zero, List.set_cons_succ]
            refine held_take 15 (v := ?_) rfl (by kernel_rfl) (by kernel_rfl) (by kernel_rfl) (fun _ _ _ h => h) (by rfl) (fun w hS => ?_) (by assumption) ?_
            rotate_left
            · try dsimp only at hS
              go_simp <;> with_reducible rfl
            try simp only [Act.put, List.setIfInBounds_toArray, List.set_cons_zero, List.set_cons_succ]
            refine held_take 16 (v := ?_) rfl (by kernel_rfl) (by kernel_rfl) (by kernel_rfl) (fun _ _ _ h => h) (by rfl) (fun w hS => ?_) (by assumption) ?_
            rotate_left
            · try dsimp only at hS
              go_simp <;> with_reducible rfl
            try simp only [Act.put, List.setIfInBounds_toArray, List.set_cons_zero, List.set_cons_succ]
            refine held_take 17 (v := ?_) rfl (by kernel_rfl) (by kernel_rfl) (by kernel_rfl) (fun _ _ _ h => h) (by rfl) (fun w hS => ?_) (by assumption) ?_
            rotate_left
            · try dsimp only at hS
              go_simp <;> with_reducible rfl
            try simp only [Act.put, List.setIfInBounds_toArray, List.set_cons_zero, List.set_cons_succ]
            refine held_take 18 (v := ?_) rfl (by kernel_rfl) (by kernel_rfl) (by kernel_rfl) (fun _ _ _ h => h) (by rfl) (fun w hS => ?_) (by assumption) ?_
            rotate_left
            · try dsimp only at hS
              go_simp <;> with_reducible rfl
            try simp only [Act.put, List.setIfInBounds_toArray, List.set_cons_zero, List.set_cons_succ]
            refine held_take 19 (v := ?_) rfl (by kernel_rfl) (by kernel_rfl) (by kernel_rfl) (fun _ _ _ h => h) (by rfl) (fun w hS => ?_) (by assumption) ?_
            rotate_left
            · try dsimp only at hS
              go_simp <;> with_reducible rfl
            try simp only [Act.put, List.setIfInBounds_toArray, List.set_cons_zero, List.set_cons_succ]
            refine held_done (by kernel_rfl) ?_
            have HO2 := Lib.hid (own_below HO.out (hbA) (Nat.le_refl _))
            have hsA := hbA.size
            go_wp2_with (at_builtin; refine Stop.mk ?_)
            refine Stop.go ?_
            refine wpList_app_u8 rfl _ _ 22 rfl w.heap.size 5 Tryd.underlying22 Tryd.infoU8 u8 o.length o rfl HO2.out a5 o2.length c5 o2 rfl hy5 hn5 (by omega) (by omega) ?_
            intro v6 w6 hown6 hgrow6
            rw [← List.length_append] at hown6
            have HO6 := Lib.hid hown6
            have HB6 := Lib.hid ((HB.out.trans (hbA.mono hbo)).grown hgrow6 (by omega) (fun j hj => (HO2.out.lt j hj).1))
            clear hown6 hgrow6
            go_wp2
            go_roundw
            case rel => exact ⟨k + 1, n + n2, o ++ o2, by omega, by have := HQ.out; go_num, by go_num, by omega, HLap.out, HNx, HO6, HB6⟩
            case measure => have := HQ.out; simp [intOf]; omega
        · obtain rfl : k = K := by omega
          obtain ⟨g, capo, rfl⟩ := own_shape HO.out (by have := hol.1; omega)
          have hoc : o.length ≤ capo ∧ capo ≤ maxLen := by
            rcases HO.out.2 with ⟨h, _⟩ | ⟨g', c', cur, h, _, _, h1, h2, _⟩
            · simp at h
            · simp at h; omega
          have hBo : B ≤ o.length := by rw [hol.1]; omega
          unfold maxLen at hoc
          have hfin : POST (.returned (.tuple #[.slice (some ⟨g, 0, none⟩) B capo, .int .i64 (n : Int), .int .i64 2])) wo := by
            rw [HPOST.out]
            exact ⟨rd_some (by rw [HOk.out]; exact HRd.out) rfl hBo hol.2.2 (bytes_of_own HO.out hol.2.2) hoc.1, HB.out⟩
          have HFin := Lib.hid hfin
          have t10 : ¬ ((q : Int) < (len : Int)) := by have := HK.out; omega
          have t11 : (q : Int) ≤ 600 := by have := HK.out; omega
          have t12 : B ≤ capo := by omega
          have t13 : (B : Int) ≤ (capo : Int) := by omega
          rw [← hq]
          clear hfin hq hol
          go_wp2
          first | exact HFin.out | (go_ret3; exact HFin.out)
    · have hno : readOk l bytes = none := by unfold readOk; rw [if_pos hs, ← hK, if_neg hb]
      have h1 : readS5 l bytes = 3 := by unfold readS5; rw [if_pos hs, hno]; rfl
      have h2 := rd_none hno w
      rw [h1] at h2
      have HFin : Hid (POST (.returned (.tuple #[.slice none 0 0, .int .i64 0, .int .i64 3])) w) := Lib.hid (by rw [HPOST.out]; exact ⟨h2, Below.refl _ _⟩)
      obtain ⟨N64, hN64⟩ : ∃ N, N = 64 * K := ⟨_, rfl⟩
      have t2 : (K : Int) * 64 = (N64 : Int) := by omega
      have t2b : (64 : Int) * (K : Int) = (N64 : Int) := by omega
      have hN8 : N64 ≤ 512 := by omega
      have hcs : bytes < 0 ∨ (¬ bytes < 0 ∧ (N64 : Int) < bytes) := by omega
      clear h1 h2 hno hb hk hK hN64 hi
      rcases hcs with h | ⟨h, h2⟩
      · go_enter Tryd.func8, Tryd.ntmps8
        go_wp2_with (go_at_call 9; refine HSt.out.mono ?_; rintro e w1 ⟨rfl, rfl⟩)
        first | exact HFin.out | (go_ret3; exact HFin.out)
      · go_enter Tryd.func8, Tryd.ntmps8
        go_wp2_with (go_at_call 9; refine HSt.out.mono ?_; rintro e w1 ⟨rfl, rfl⟩)
        first | exact HFin.out | (go_ret3; exact HFin.out)
  · have hno : readOk l bytes = none := by unfold readOk; rw [if_neg hs]
    have h1 : readS5 l bytes = stateP l := by unfold readS5; rw [if_neg hs]
    have h2 := rd_none hno w
    rw [h1] at h2
    have HFin : Hid (POST (.returned (.tuple #[.slice none 0 0, .int .i64 0, .int .i64 (stateP l)])) w) := Lib.hid (by rw [HPOST.out]; exact ⟨h2, Below.refl _ _⟩)
    have hst : stateP l = 0 ∨ stateP l = 1 ∨ stateP l = 3 := by
      unfold stateP at hs ⊢
      split
      · split
        · exact .inl rfl
        · split
          · rename_i h3 h4 h5
            rw [if_pos h3, if_neg h4, if_pos h5] at hs
            exact (hs rfl).elim
          · exact .inr (.inl rfl)
      · exact .inr (.inr rfl)
    clear h1 h2 hno hi
    rcases hst with h | h | h
    all_goals
      rw [h] at HFin HSt
      clear h hs
      go_enter Tryd.func8, Tryd.ntmps8
      go_wp2_with (go_at_call 9; refine HSt.out.mono ?_; rintro e w1 ⟨rfl, rfl⟩)
      first | exact HFin.out | (go_ret3; exact HFin.out)

end Go.Proofs.YtogpdmpefdafnaaDoor
