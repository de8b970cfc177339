/- token: the reference's Read. -/
import Derived.Test.YtjjeopanffcbiaaTokD
namespace Go.Proofs.Ytjjeopanffcbiaa
open Go.RowKit
set_option linter.unusedVariables false

theorem layL_same (l : List Nat) (n : Nat) (h : n + 3 ≤ l.length) (hl : ∀ c ∈ l, c < 256) (h0 : l.getD 0 0 = 254) :
    (layL ((l.drop 1).take n) == l.take (n + 3)) = decide (Crc.sum16 ((l.drop 1).take n) = (256 * l.getD (1 + n) 0 ||| l.getD (2 + n) 0)) := by
  have hs := Crc.sum16_lt ((l.drop 1).take n) (fun c hc => hl c (List.mem_of_mem_drop (List.mem_of_mem_take hc)))
  have hp := Crc.getD_lt hl (1 + n)
  have hq := Crc.getD_lt hl (2 + n)
  have e : l.take (n + 3) = 254 :: ((l.drop 1).take n ++ [l.getD (1 + n) 0, l.getD (2 + n) 0]) := by
    cases l with
    | nil => simp at h
    | cons x xs =>
      have hx : x = 254 := by simpa using h0
      subst hx
      have hxs : n + 2 ≤ xs.length := by simp at h; omega
      have hY := Crc.split2 (xs.take (n + 2)) n (by simp; omega)
      simp only [List.take_succ_cons, List.drop_one, List.tail_cons]
      congr 1
      rw [hY]
      congr 1
      · rw [List.take_take]; congr 1; omega
      · rw [show 1 + n = n + 1 by omega, show 2 + n = n + 1 + 1 by omega]
        simp [List.getD]
  rw [e]
  unfold layL
  rw [← Crc.xor_or _ _ hq]
  rw [Bool.eq_iff_iff, beq_iff_eq, decide_eq_true_iff]
  generalize Crc.sum16 ((l.drop 1).take n) = s at *
  generalize l.getD (1 + n) 0 = p at *
  generalize l.getD (2 + n) 0 = q at *
  rw [Crc.xor_or _ _ hq, show (256 : Nat) = 2 ^ 8 by rfl, ← Nat.two_pow_add_eq_or_of_lt (by omega)]
  constructor
  · intro hh
    have := (List.cons.inj hh).2
    have := List.append_cancel_left this
    simp at this
    omega
  · intro hh
    have h1 : s / 2 ^ 8 = p := by omega
    have h2 : s % 2 ^ 8 = q := by omega
    rw [h1, h2]

set_option maxRecDepth 100000 in
set_option maxHeartbeats 4000000 in
theorem rread_any (a : Option Addr) (len cap : Nat) (l : List Nat) (size : Int) (w : World) (hi : Bytes w a len l) (hnil : a = none → cap = 0) (hl : len ≤ 1000000) (hc : len ≤ cap) (hcm : cap ≤ maxLen) :
    Calls Try.prog 17 #[.slice a len cap, .int .i64 size] w fun e w' => ReadAt w.heap.size w' l size e ∧ Below w.heap.size w w' := by
  have hlen := hi.1
  by_cases h0 : len = 0
  · have hE : readErr l size = 23 := by unfold readErr; rw [if_pos (by omega)]
    have hR := @ReadAt.bad w.heap.size w l size 23 hE (by omega)
    have HR := Lib.hid hR
    have h00 : ((len : Int) == 0) = true := by simp; omega
    clear hE hR hlen h0
    go_enter Try.func17, Try.ntmps17
    go_wp2
    go_ret3
    exact ⟨HR.out, Below.refl _ _⟩
  · have h00 : ((len : Int) == 0) = false := by simp; omega
    obtain ⟨b, o, rfl, hbl, hcell⟩ := hi.2.2 (by omega)
    have c0 := hcell 0 (by omega)
    rw [Nat.add_zero] at c0
    obtain ⟨z, hz⟩ : ∃ z, z = l.getD 0 0 := ⟨_, rfl⟩
    rw [← hz] at c0
    have HZ0 := Lib.hid hz
    have hE1 : (z ≠ 254 ∨ size < 0 ∨ 4096 < size) → readErr l size = 24 := by
      intro h; unfold readErr; rw [if_neg (by omega), ← hz, if_pos h]
    have hE2 : ¬ (z ≠ 254 ∨ size < 0 ∨ 4096 < size) → (l.length : Int) < size + 3 → readErr l size = 23 := by
      intro h h2; unfold readErr; rw [if_neg (by omega), ← hz, if_neg h, if_pos h2]
    have hE3 : ¬ (z ≠ 254 ∨ size < 0 ∨ 4096 < size) → ¬ (l.length : Int) < size + 3 → readErr l size = if Crc.sum16 ((l.drop 1).take size.toNat) = (256 * l.getD (1 + size.toNat) 0 ||| l.getD (2 + size.toNat) 0) then 0 else 25 := by
      intro h h2; unfold readErr; rw [if_neg (by omega), ← hz, if_neg h, if_neg h2]
    have HE1 := Lib.hid hE1
    have HE2 := Lib.hid hE2
    have HE3 := Lib.hid hE3
    have HLen := Lib.hid hlen
    clear hE1 hE2 hE3 hz hlen
    rcases (show (z ≠ 254) ∨ (z = 254 ∧ size < 0) ∨ (z = 254 ∧ 0 ≤ size ∧ 4096 < size) ∨ (z = 254 ∧ 0 ≤ size ∧ size ≤ 4096 ∧ (len : Int) < size + 3) ∨ (z = 254 ∧ 0 ≤ size ∧ size ≤ 4096 ∧ size + 3 ≤ (len : Int)) by omega) with q | ⟨q, q2⟩ | ⟨q, q2, q3⟩ | ⟨q, q2, q3, q4⟩ | ⟨q, q2, q3, q4⟩
    · have HR := Lib.hid (@ReadAt.bad w.heap.size w l size 24 (HE1.out (.inl q)) (by omega))
      have hz1 : ((z : Int) != 254) = true := by rw [bne_iff_ne]; omega
      clear q
      go_enter Try.func17, Try.ntmps17
      go_wp2
      go_ret3
      exact ⟨HR.out, Below.refl _ _⟩
    · have HR := Lib.hid (@ReadAt.bad w.heap.size w l size 24 (HE1.out (.inr (.inl q2))) (by omega))
      have hz1 : ((z : Int) != 254) = false := by simp; omega
      clear q
      go_enter Try.func17, Try.ntmps17
      go_wp2
      go_ret3
      exact ⟨HR.out, Below.refl _ _⟩
    · have HR := Lib.hid (@ReadAt.bad w.heap.size w l size 24 (HE1.out (.inr (.inr q3))) (by omega))
      have hz1 : ((z : Int) != 254) = false := by simp; omega
      clear q
      go_enter Try.func17, Try.ntmps17
      go_wp2
      go_ret3
      exact ⟨HR.out, Below.refl _ _⟩
    · have HR := Lib.hid (@ReadAt.bad w.heap.size w l size 23 (HE2.out (by omega) (by rw [HLen.out]; exact q4)) (by omega))
      have hz1 : ((z : Int) != 254) = false := by simp; omega
      clear q
      go_enter Try.func17, Try.ntmps17
      go_wp2
      go_ret3
      exact ⟨HR.out, Below.refl _ _⟩
    · have hz1 : ((z : Int) != 254) = false := by simp; omega
      have QZ := Lib.hid q
      clear q
      obtain ⟨n, rfl⟩ : ∃ n : Nat, size = n := ⟨size.toNat, by omega⟩
      have c1 := hcell (1 + n) (by omega)
      have c2 := hcell (2 + n) (by omega)
      have l1 := Crc.getD_lt hi.2.1 (1 + n)
      have l2 := Crc.getD_lt hi.2.1 (2 + n)
      have HCL := Lib.hid hcell
      clear hcell
      go_enter Try.func17, Try.ntmps17
      go_wp2_with fail
      obtain ⟨p, hp⟩ : ∃ p, p = l.getD (1 + n) 0 := ⟨_, rfl⟩
      obtain ⟨q, hq⟩ : ∃ q, q = l.getD (2 + n) 0 := ⟨_, rfl⟩
      rw [← hp] at c1 l1
      rw [← hq] at c2 l2
      have HP := Lib.hid hp
      have HQ := Lib.hid hq
      clear hp hq
      have t1 : IntKind.i64.wrap (1 + (n : Int)) = 1 + (n : Int) := IntWalk.i64_in _ (by omega)
      have t2 : (0 : Int) ≤ 1 + (n : Int) := by omega
      have t3 : (1 + (n : Int)).toNat = 1 + n := by omega
      have t4 : 1 + (n : Int) < (len : Int) := by omega
      have t5 : IntKind.i64.wrap ((n : Int) + 3) = (n : Int) + 3 := IntWalk.i64_in _ (by omega)
      have t6 : (0 : Int) ≤ (n : Int) + 3 := by omega
      have t7 : ((n : Int) + 3).toNat = n + 3 := by omega
      have t8 : (n : Int) + 3 ≤ (cap : Int) := by omega
      have t9 : n + 3 ≤ cap := by omega
      have t10 : 1 + n ≤ cap := by omega
      have hby : Bytes w (some ⟨b, o + 1, none⟩) n ((l.drop 1).take n) := by
        refine ⟨by simp [HLen.out]; omega, fun c hc => hi.2.1 c (List.mem_of_mem_drop (List.mem_of_mem_take hc)), fun _ => ⟨b, o + 1, rfl, hbl, fun i hi2 => ?_⟩⟩
        have := HCL.out (1 + i) (by omega)
        rw [show o + 1 + i = o + (1 + i) by omega]
        rw [this]
        simp [List.getD, hi2, Nat.add_comm]
      have hbt : Bytes w (some ⟨b, o, none⟩) (n + 3) (l.take (n + 3)) := hi.take (by omega)
      have hsame := layL_same l n (by rw [HLen.out]; omega) hi.2.1 (by rw [← HZ0.out]; exact QZ.out)
      rw [← HP.out, ← HQ.out] at hsame
      obtain ⟨M, hM⟩ : ∃ M, M = (l.drop 1).take n := ⟨_, rfl⟩
      rw [← hM] at hby hsame
      obtain ⟨T, hT⟩ : ∃ T, T = l.take (n + 3) := ⟨_, rfl⟩
      rw [← hT] at hbt hsame
      have HMM := Lib.hid hM
      have HML : Hid (M.length = n) := hby.1
      have hMl := hby.2.1
      have hTl := hbt.2.1
      have hcmp := strB_beq (layL_lt M hMl) hTl
      have HB1 := Lib.hid hby
      have HB2 := Lib.hid hbt
      have hs0 := run_str (P := Try.prog) hbt.drew 22 5 9 Try.underlying22 Try.underlying5 Try.underlying9 cap
      have HS0 := Lib.hid hs0
      clear hM hT hMl hTl hs0
      go_wp2_with fail
      by_cases hsum : Crc.sum16 M = (256 * p ||| q)
      · have hE : readErr l n = 0 := by
          have := HE3.out (by have := QZ.out; omega) (by rw [HLen.out]; omega)
          rw [this, Int.toNat_natCast, ← HP.out, ← HQ.out, ← HMM.out, if_pos hsum]
        have hLL : readL l n = M := by unfold readL; rw [if_pos hE, Int.toNat_natCast, ← HMM.out]
        have hNN : readN l n = (n : Int) + 3 := by unfold readN; rw [if_pos hE]
        have hc1 : ((strB (layL M)).toList == (strB T).toList) = true := by rw [hcmp, hsame]; simp [hsum]
        have hc2 : ((strB (layL M)).toList != (strB T).toList) = false := by rw [bne, hc1]; rfl
        have H1 := Lib.hid hE
        have H2 := Lib.hid hLL
        have H3 := Lib.hid hNN
        clear hsum hE hLL hNN hcmp hsame hby hbt
        have hs0 := HS0.out
        go_region_with (go_at_call 21; refine (rlay_any (some ⟨b, o + 1, none⟩) n (cap - 1) M _ (HB1.out.drew) (fun h => by simp at h) (by omega)).mono ?_; rintro e w2 ⟨⟨g, c2, rfl, hown⟩, hb2⟩; have hs2 := run_str (P := Try.prog) (HB2.out.drew.below hb2 (Nat.le_refl _)) 22 5 9 Try.underlying22 Try.underlying5 Try.underlying9 cap; have hs1 := run_str (P := Try.prog) (bytes_of_own hown (layL_lt M HB1.out.2.1)) 22 5 9 Try.underlying22 Try.underlying5 Try.underlying9 c2; have HW : Hid (Below w.heap.size w w2) := Lib.hid (((Below.refl w.heap.size w).drew).trans hb2); have HY : Hid (Bytes w2 (some ⟨b, o + 1, none⟩) n M) := Lib.hid (HB1.out.drew.below hb2 (Nat.le_refl _)); clear hown hb2)
        all_goals
          clear hs0 hs1 hs2
          have hsz2 := HW.out.size
          go_wp2_with (first | (at_builtin; refine Stop.mk ?_) | (at_make; refine Stop.mk ?_))
          refine Stop.go ?_
          refine wpList_app_u8 rfl _ _ 22 rfl w2.heap.size 5 Try.underlying22 Try.infoU8 (.slice (some ⟨w2.heap.size, 0, none⟩) 0 0) 0 [] rfl (own_empty (Nat.le_refl _)) (some ⟨b, o + 1, none⟩) n (cap - 1) M rfl (HY.out.alloc _) (fun h => by simp at h) (by omega) (by simp) ?_
          intro v w1 hown hgrow
          rw [Nat.zero_add, List.nil_append] at hown
          have hb : Below w2.heap.size w2 w1 := ((Below.refl _ _).alloc (Nat.le_refl _) _).grown hgrow (by simp) (fun k hk => by simp [Value.ownBlock] at hk; omega)
          have hR : ReadsAs w2.heap.size w1 n M v := by
            obtain ⟨a1, cap1, hv, hy⟩ := bytes_of_own' hown HB1.out.2.1
            refine ⟨a1, cap1, hv, hy, ?_, ?_, fun ad h0 => (hown.lt ad.block (by rw [hv, h0]; rfl)).1⟩
            · intro h0
              rcases hown.2 with ⟨h, _⟩ | ⟨g, cap', cur, h, _⟩
              · rw [hv] at h; simp at h; exact h.2.2
              · rw [hv] at h; simp at h; rw [h.1] at h0; simp at h0
            · rcases hown.2 with ⟨h, h2⟩ | ⟨g, cap', cur, h, _, _, h3, _⟩
              · omega
              · rw [hv] at h; simp at h; omega
          clear hown hgrow
          obtain ⟨a2, cap2, hv, hy2, hn2, hc3, hfr2⟩ := hR
          have HF2 : Hid (∀ ad, a2 = some ad → w.heap.size ≤ ad.block) := Lib.hid fun ad h => Nat.le_trans hsz2 (hfr2 ad h)
          have HV := Lib.hid hv
          have H4 := Lib.hid hy2
          have H5 := Lib.hid hn2
          subst hv
          clear hy2 hn2 HV hfr2
          go_wp2
          go_ret3
          refine ⟨⟨a2, cap2, ?_, ?_, H5.out, ?_, HF2.out⟩, HW.out.trans (hb.mono hsz2)⟩
          · rw [H1.out, H2.out, H3.out]
            rw [HML.out]; rfl
          · rw [H2.out]
            rw [HML.out]; exact H4.out
          · rw [H2.out]
            rw [HML.out]; exact hc3
      · have hE : readErr l n = 25 := by
          have := HE3.out (by have := QZ.out; omega) (by rw [HLen.out]; omega)
          rw [this, Int.toNat_natCast, ← HP.out, ← HQ.out, ← HMM.out, if_neg hsum]
        have HR := fun w' => Lib.hid (@ReadAt.bad w.heap.size w' l n 25 hE (by omega))
        have hc1 : ((strB (layL M)).toList == (strB T).toList) = false := by rw [hcmp, hsame]; simp [hsum]
        have hc2 : ((strB (layL M)).toList != (strB T).toList) = true := by rw [bne, hc1]; rfl
        clear hsum hE hcmp hsame hby hbt
        have hs0 := HS0.out
        go_region_with (go_at_call 21; refine (rlay_any (some ⟨b, o + 1, none⟩) n (cap - 1) M _ (HB1.out.drew) (fun h => by simp at h) (by omega)).mono ?_; rintro e w2 ⟨⟨g, c2, rfl, hown⟩, hb2⟩; have hs2 := run_str (P := Try.prog) (HB2.out.drew.below hb2 (Nat.le_refl _)) 22 5 9 Try.underlying22 Try.underlying5 Try.underlying9 cap; have hs1 := run_str (P := Try.prog) (bytes_of_own hown (layL_lt M HB1.out.2.1)) 22 5 9 Try.underlying22 Try.underlying5 Try.underlying9 c2; have HW : Hid (Below w.heap.size w w2) := Lib.hid (((Below.refl w.heap.size w).drew).trans hb2); have HY : Hid (Bytes w2 (some ⟨b, o + 1, none⟩) n M) := Lib.hid (HB1.out.drew.below hb2 (Nat.le_refl _)); clear hown hb2)
        all_goals
          clear hs0 hs1 hs2
          go_wp2
          go_ret3
          exact ⟨(HR _).out, HW.out⟩

end Go.Proofs.Ytjjeopanffcbiaa
