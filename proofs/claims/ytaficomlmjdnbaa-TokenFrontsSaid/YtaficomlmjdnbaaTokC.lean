/- token: TokenFronts. -/
import Derived.Test.YtaficomlmjdnbaaTokB
namespace Go.Proofs.Ytaficomlmjdnbaa
open Go.RowKit
set_option linter.unusedVariables false

theorem read_cut (l : List Nat) (h : l.length ≤ 4096) (c : Nat) (hc : c < l.length + 3) : readErr ((layL l).take c) l.length = 23 := by
  unfold readErr
  have hl : ((layL l).take c).length = c := by simp [layL_len]; omega
  by_cases h0 : c = 0
  · rw [if_pos (by rw [hl]; exact h0)]
  · have e0 : ((layL l).take c).getD 0 0 = 254 := by
      obtain ⟨k, rfl⟩ : ∃ k, c = k + 1 := ⟨c - 1, by omega⟩
      simp [layL]
    rw [if_neg (by rw [hl]; exact h0), if_neg (by rw [e0]; omega), if_pos (by rw [hl]; omega)]

theorem read_more (l m : List Nat) (h : l.length ≤ 4096) : readErr (layL l ++ m) l.length = 0 ∧ readN (layL l ++ m) l.length = (l.length : Int) + 3 ∧ readL (layL l ++ m) l.length = l := by
  have hll := layL_len l
  have p1 : ((layL l ++ m).drop 1).take l.length = l := by simp [layL, List.take_append]
  have g : ∀ i, i < l.length + 3 → (layL l ++ m).getD i 0 = (layL l).getD i 0 := by
    intro i hi
    rw [List.getD, List.getElem?_append_left (by omega), List.getD]
  obtain ⟨_, p2, p3, p4⟩ := layL_parts l
  have e : readErr (layL l ++ m) l.length = 0 := by
    unfold readErr
    rw [if_neg (by rw [List.length_append]; omega), if_neg (by rw [g 0 (by omega), p2]; omega), if_neg (by rw [List.length_append]; omega), Int.toNat_natCast, p1, g _ (by omega), p3, g _ (by omega), p4, if_pos (join_bytes _).symm]
  refine ⟨e, ?_, ?_⟩
  · unfold readN; rw [if_pos e]
  · unfold readL; rw [if_pos e, Int.toNat_natCast, p1]

theorem read_first (l : List Nat) (h : l.length ≤ 4096) (f : Nat) : readErr ((layL l).set 0 f) l.length = if f = 254 then 0 else 24 := by
  by_cases hf : f = 254
  · have e : (layL l).set 0 f = layL l := by rw [hf]; rfl
    rw [e, if_pos hf, (read_lay l h).1]
  · rw [if_neg hf]
    unfold readErr
    have hl : ((layL l).set 0 f).length = l.length + 3 := by rw [List.length_set, layL_len]
    have e0 : ((layL l).set 0 f).getD 0 0 = f := rfl
    rw [if_neg (by omega), if_pos (by rw [e0]; exact .inl hf)]

set_option maxRecDepth 100000 in
set_option maxHeartbeats 4000000 in
theorem tfronts_walk (a a2 : Option Addr) (len cap len2 cap2 : Nat) (l m : List Nat) (cut : Int) (f : Nat) (w : World) (hi : Bytes w a len l) (hnil : a = none → cap = 0) (hj : Bytes w a2 len2 m) (hnil2 : a2 = none → cap2 = 0) (hl : len ≤ 4096) (hl2 : len2 ≤ 4096) (hcut : I64 cut) (hf : f < 256) :
    Calls Try.prog 8 #[.slice a len cap, .int .i64 cut, .slice a2 len2 cap2, .int .u8 (f : Int)] w fun e w' => e = .returned (.bool true) ∧ Below w.heap.size w w' := by
  have HLen : Hid (l.length = len) := hi.1
  obtain ⟨X, hX⟩ : ∃ X, X = layL l := ⟨_, rfl⟩
  have hXl : ∀ c ∈ X, c < 256 := by rw [hX]; exact layL_lt l hi.2.1
  have hXn : Hid (X.length = len + 3) := by unfold Hid; rw [hX, layL_len, hi.1]
  have HX := Lib.hid hX
  have H3 : (∃ c : Nat, c < len + 3 ∧ 0 ≤ cut ∧ cut % ((len : Int) + 3) = (c : Int)) ∨ (∃ c : Nat, c < len + 3 ∧ cut < 0 ∧ cut.tmod ((len : Int) + 3) = (c : Int)) ∨ (∃ c : Nat, c < len + 3 ∧ cut < 0 ∧ 0 < c ∧ cut.tmod ((len : Int) + 3) = (c : Int) - ((len : Int) + 3)) := by
    have hlt := Int.emod_lt_of_pos cut (show 0 < (len : Int) + 3 by omega)
    have hge := Int.emod_nonneg cut (show (len : Int) + 3 ≠ 0 by omega)
    have hlt2 := Int.emod_lt_of_pos (-cut) (show 0 < (len : Int) + 3 by omega)
    have hge2 := Int.emod_nonneg (-cut) (show (len : Int) + 3 ≠ 0 by omega)
    by_cases hat : 0 ≤ cut
    · exact .inl ⟨(cut % ((len : Int) + 3)).toNat, by omega, hat, by omega⟩
    · have e : cut.tmod ((len : Int) + 3) = -((-cut) % ((len : Int) + 3)) := by
        rw [← Int.tmod_eq_emod_of_nonneg (show 0 ≤ -cut by omega), Int.neg_tmod, Int.neg_neg]
      by_cases h0 : (-cut) % ((len : Int) + 3) = 0
      · exact .inr (.inl ⟨0, by omega, by omega, by rw [e, h0]; rfl⟩)
      · exact .inr (.inr ⟨((len : Int) + 3 - (-cut) % ((len : Int) + 3)).toNat, by omega, by omega, by omega, by rw [e]; omega⟩)
  go_enter Try.func8, Try.ntmps8
  go_wp2_with fail
  refine (tknown_any _).mono ?_
  rintro e w1 ⟨rfl, hb⟩
  have hi1 := hi.below hb (Nat.le_refl _)
  have hsz := hb.size
  go_wp2_with fail
  refine (lay_any a len cap l _ hi1 hnil (by omega)).mono ?_
  rintro e w2 ⟨⟨gx, capx, he, hownx⟩, hb2⟩
  have hb2' : Below w.heap.size w w2 := hb.trans (hb2.mono hsz)
  have hsz2 := hb2'.size
  rw [← hX] at hownx
  have hyx := bytes_of_own hownx hXl
  have hgx := (hownx.lt gx rfl)
  have hcx : len + 3 ≤ capx ∧ capx ≤ maxLen := by
    rcases hownx.2 with ⟨h, _⟩ | ⟨g', cap', cur, h, _, _, h3, h4, _⟩
    · simp at h
    · simp at h; obtain ⟨rfl, rfl⟩ := h; exact ⟨h3, h4⟩
  have HOX := Lib.hid hownx
  subst he
  clear hb hb2 hi1 hownx hX
  rcases H3 with ⟨c, hc, hb0, hq⟩ | ⟨c, hc, hb0, hq⟩ | ⟨c, hc, hb0, hp0, hq⟩
  all_goals
    have RC : Hid (readErr (X.take c) len = 23) := by
      unfold Hid; rw [HX.out, ← HLen.out]; exact read_cut l (by rw [HLen.out]; exact hl) c (by rw [HLen.out]; exact hc)
    have RM : Hid (readErr (X ++ m) len = 0 ∧ readN (X ++ m) len = (len : Int) + 3 ∧ readL (X ++ m) len = l) := by
      unfold Hid
      have := read_more l m (by rw [HLen.out]; exact hl)
      rwa [HLen.out, ← HX.out] at this
    have RF : Hid (readErr (X.set 0 f) len = if f = 254 then 0 else 24) := by
      unfold Hid
      have := read_first l (by rw [HLen.out]; exact hl) f
      rwa [HLen.out, ← HX.out] at this
    have hcc : (c : Int) ≤ (capx : Int) := by omega
    go_wp2_with fail
    refine (read_any _ _ _ _ _ _ (hyx.take (n := c) (by omega)) (fun h => by simp at h) (by omega) (by omega) hcx.2).mono ?_
    rintro e w3 ⟨⟨a3, cap3, he, _, _, _⟩, hb3⟩
    have r2 : readN (X.take c) len = 0 := by unfold readN; rw [if_neg (by rw [RC.out]; omega)]
    have r3 : readL (X.take c) len = [] := by unfold readL; rw [if_neg (by rw [RC.out]; omega)]
    rw [RC.out, r2, r3] at he
    have hb3w := hb2'.trans (hb3.mono hsz2)
    have hyx3 := hyx.below hb3 (Nat.le_refl _)
    have hox3 := own_below HOX.out hb3 (Nat.le_refl _)
    have HOX3 := Lib.hid hox3
    have hsz3 := hb3w.size
    subst he
    clear r2 r3 hb3 hox3
    go_wp2_with (first | (at_builtin; refine Stop.mk ?_) | (at_make; refine Stop.mk ?_))
    refine Stop.go ?_
    refine wpList_app_u8 rfl _ _ 22 rfl w3.heap.size 5 Try.underlying22 Try.infoU8 (.slice (some ⟨w3.heap.size, 0, none⟩) 0 0) 0 [] rfl (own_empty (Nat.le_refl _)) (some ⟨gx, 0, none⟩) (len + 3) capx X rfl (hyx3.alloc _) (fun h => by simp at h) (by omega) (by simp) ?_
    intro v4 w4 hown4 hgrow4
    rw [Nat.zero_add, List.nil_append] at hown4
    have hb4 := ((Below.refl w3.heap.size w3).alloc (Nat.le_refl _) (.cells #[] 5)).grown hgrow4 (by simp) (fun k hk => by simp [Value.ownBlock] at hk; omega)
    have hb4w := hb3w.trans (hb4.mono hsz3)
    have hj4 := hj.below hb4w (Nat.le_refl _)
    have hsz4 := hb4.size
    have HO4 := Lib.hid hown4
    clear hown4 hgrow4
    go_wp2_with (first | (at_builtin; refine Stop.mk ?_) | (at_make; refine Stop.mk ?_))
    refine Stop.go ?_
    refine wpList_app_u8 rfl _ _ 22 rfl w3.heap.size 5 Try.underlying22 Try.infoU8 v4 (len + 3) X rfl HO4.out a2 len2 cap2 m rfl hj4 hnil2 (by omega) hsz4 ?_
    intro v5 w5 hown5 hgrow5
    have hb5 := hb4.grown hgrow5 hsz4 (fun k hk => (HO4.out.lt k hk).1)
    have hb5w := hb3w.trans (hb5.mono hsz3)
    have hxm : ∀ c ∈ X ++ m, c < 256 := by
      intro c hc
      rcases List.mem_append.1 hc with h | h
      · exact hXl c h
      · exact hj.2.1 c h
    obtain ⟨g5, cap5, hv5⟩ := own_shape hown5 (by omega)
    rw [hv5] at hown5 ⊢
    have hy5 := bytes_of_own hown5 hxm
    have hc5 : len + 3 + len2 ≤ cap5 ∧ cap5 ≤ maxLen := by
      rcases hown5.2 with ⟨h, _⟩ | ⟨g', cap', cur, h, _, _, h3, h4, _⟩
      · simp at h
      · simp at h; obtain ⟨rfl, rfl⟩ := h; exact ⟨h3, h4⟩
    have hyx5 := hyx3.below hb5 (Nat.le_refl _)
    have HOX5 := Lib.hid (own_below HOX3.out hb5 (Nat.le_refl _))
    have hsz5 := hb5w.size
    clear hown5 hgrow5 hv5 hb4 hj4 hb4w HO4 hxm
    go_wp2_with fail
    refine (read_any _ _ _ _ _ _ hy5 (fun h => by simp at h) (by omega) hc5.1 hc5.2).mono ?_
    rintro e w6 ⟨⟨a6, cap6, he, hy6, _, _⟩, hb6⟩
    obtain ⟨m1, m2, m3⟩ := RM.out
    rw [m1, m2, m3] at he
    rw [m3] at hy6
    have hb6w := hb5w.trans (hb6.mono hsz5)
    have hi6 := hi.below hb6w (Nat.le_refl _)
    have HOX6 := Lib.hid (own_below HOX5.out hb6 (Nat.le_refl _))
    have hyx6 := hyx5.below hb6 (Nat.le_refl _)
    have hlen := HLen.out
    rw [hlen] at he
    have hsl := run_str (P := Try.prog) hi6 22 5 9 Try.underlying22 Try.underlying5 Try.underlying9 cap
    have hs6 := run_str (P := Try.prog) hy6 22 5 9 Try.underlying22 Try.underlying5 Try.underlying9 cap6
    rw [hlen] at hs6
    obtain ⟨bx, ox, hex, hgx6, hcx6⟩ := hyx6.2.2 (by omega)
    obtain ⟨rfl, rfl⟩ : gx = bx ∧ 0 = ox := by simpa using hex
    have cx0 := hcx6 0 (by omega)
    rw [Nat.add_zero] at cx0
    have hfr0 := HOX6.out.frozenAt 0
    have hst := HOX6.out.stored 0 (.int .u8 (f : Int))
    rw [u8s_set] at hst
    have hset : ∀ c ∈ X.set 0 f, c < 256 := by
      intro c hc
      rcases List.mem_or_eq_of_mem_set hc with h | h
      · exact hXl c h
      · omega
    have hys := bytes_of_own hst.1 hset
    have HYS := Lib.hid hys
    have hb7 := hb6w.setCell (p := ⟨gx, 0, none⟩) (Nat.le_trans hsz hgx.1) (.int .u8 (f : Int))
    have HB7 := Lib.hid hb7
    subst he
    clear m1 m2 m3 hy6 hb6 hi6 hyx6 hex hcx6 hst hset hys hb7 hlen hy5 hyx5
    go_wp2_with fail
    refine (read_any _ _ _ _ _ _ HYS.out (fun h => by simp at h) (by omega) hcx.1 hcx.2).mono ?_
    rintro e w8 ⟨⟨a8, cap8, he, _, _, _⟩, hb8⟩
    have hb8w := HB7.out.trans (hb8.mono HB7.out.size)
    by_cases hf2 : f = 254
    · rw [RF.out, if_pos hf2] at he
      have hf3 : ((f : Int) == 254) = true := by simp [hf2]
      subst he
      clear hf2
      go_wp2
      go_ret
      exact ⟨by simp, hb8w⟩
    · rw [RF.out, if_neg hf2] at he
      have hf3 : ((f : Int) == 254) = false := by simp; omega
      subst he
      clear hf2
      go_wp2
      go_ret
      exact ⟨by simp, hb8w⟩

theorem tfronts_any (a a2 : Option Addr) (len cap len2 cap2 : Nat) (l m : List Nat) (cut : Int) (f : Nat) (w : World) (hm : len ≤ maxLen) (hm2 : len2 ≤ maxLen) (hi : Bytes w a len l) (hnil : a = none → cap = 0) (hj : Bytes w a2 len2 m) (hnil2 : a2 = none → cap2 = 0) (hcut : I64 cut) (hf : f < 256) :
    Calls Try.prog 8 #[.slice a len cap, .int .i64 cut, .slice a2 len2 cap2, .int .u8 (f : Int)] w fun e w' => e = .returned (.bool true) ∧ Below w.heap.size w w' := by
  unfold maxLen at hm hm2
  rcases (show (len ≤ 4096 ∧ len2 ≤ 4096) ∨ (4096 < len ∨ (len ≤ 4096 ∧ 4096 < len2)) by omega) with ⟨h, h2⟩ | h
  · exact tfronts_walk a a2 len cap len2 cap2 l m cut f w hi hnil hj hnil2 h h2 hcut hf
  · rcases h with h | ⟨h, h2⟩
    all_goals
      go_enter Try.func8, Try.ntmps8
      go_wp2_with (go_at_call 16; refine (tknown_any _).mono ?_; rintro e w1 ⟨rfl, hb⟩)
      go_ret
      exact ⟨rfl, hb⟩

end Go.Proofs.Ytaficomlmjdnbaa
