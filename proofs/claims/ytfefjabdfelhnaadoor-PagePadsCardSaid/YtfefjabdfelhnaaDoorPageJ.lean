/- page: PagePads. -/
import Derived.Test.YtfefjabdfelhnaaDoorPageI
namespace Go.Proofs.YtfefjabdfelhnaaDoor
open Go Go.RowKit
set_option linter.unusedVariables false

set_option maxRecDepth 100000 in
set_option maxHeartbeats 40000000 in
theorem ppads_walk (a : Option Addr) (len cap : Nat) (l : List Nat) (c B : Nat) (w : World) (hi : Bytes w a len l) (h1 : 1 ≤ c) (h8 : c ≤ 8) (hl : len ≤ 64 * c) (hB : B ≤ 64 * c) (hT : Deb w) :
    Calls Tryd.prog 8 #[.slice a len cap, .int .i64 (c : Int), .int .i64 (B : Int)] w fun e w' => e = .returned (.bool true) ∧ Below w.heap.size w w' := by
  have HI := Lib.hid hi
  have HT := Lib.hid hT
  have hll := hi.1
  obtain ⟨N, hN⟩ : ∃ N, N = 64 * c := ⟨_, rfl⟩
  have HP8 := Lib.hid (padTo_lt hi.2.1 N)
  have HPl : Hid ((padTo l N).length = 64 * c) := Lib.hid (by rw [padTo_len l N (by omega), hN])
  have HAgain : Hid (len ≤ B → padTo ((padTo l N).take B) N = padTo l N) := Lib.hid (fun h => pad_again l N B (by omega) (by omega))
  have HGet : Hid (∀ i, i < B → ((padTo l N).take B).getD i 0 = if i < len then l.getD i 0 else 0) := Lib.hid (fun i h => by rw [pad_get l N B i h (by omega), hll])
  obtain ⟨P, hP⟩ : ∃ P, P = padTo l N := ⟨_, rfl⟩
  rw [← hP] at HP8 HPl HAgain HGet
  have HRaw : Hid (layTo (padTo l (64 * c)) c = layTo P c) := Lib.hid (by rw [hP, hN])
  have hpr := page_read HP8.out c HPl.out h1 h8 B hB
  have HR := Lib.hid hpr
  have HXl : Hid ((P.take B).length = B) := Lib.hid (by rw [List.length_take, HPl.out]; omega)
  have HX8 : Hid (∀ x ∈ P.take B, x < 256) := Lib.hid (fun x hx => HP8.out x (List.mem_of_mem_take hx))
  have HNc := Lib.hid hN
  have t1 : (64 : Int) * (c : Int) = (N : Int) := by omega
  have t2 : (len : Int) ≤ (N : Int) := by omega
  have t3 : ¬ ((c : Int) < 1) := by omega
  have t4 : (c : Int) ≤ 8 := by omega
  have t5 : (N : Int) ≤ 512 := by omega
  have t6 : (B : Int) ≤ (N : Int) := by omega
  have t7 : ¬ (N < len) := by omega
  have t8 : ¬ (N < B) := by omega
  have t9 : ¬ (8 < (c : Int)) := by omega
  have hB5 : B ≤ 512 := by omega
  have HB2 := Lib.hid hB
  have HL2 := Lib.hid hl
  clear hi hT hP hpr hB hl hN
  go_enter Tryd.func8, Tryd.ntmps8
  go_wp2_with fail
  refine (pknown_any _ HT.out).mono ?_
  rintro e w1 ⟨rfl, hb1⟩
  have HB1 := Lib.hid hb1
  clear hb1
  go_wp2_with fail
  refine (lay_ok a len cap l c _ (HI.out.below HB1.out (Nat.le_refl _)) h1 h8 HL2.out (Deb.below HT.out HB1.out (Nat.le_refl _))).mono ?_
  rintro e w2 ⟨⟨v2, he, hown2⟩, hb2⟩
  rw [HRaw.out, layTo_len P c (by rw [HPl.out]; exact Nat.le_refl _)] at hown2
  obtain ⟨g, cr, rfl⟩ := own_shape hown2 (by omega)
  have hcr : 73 * c ≤ cr ∧ cr ≤ maxLen := by
    rcases hown2.2 with ⟨h, _⟩ | ⟨g', cap', cur, h, _, _, h3, h4, _⟩
    · simp at h
    · simp at h; obtain ⟨rfl, rfl⟩ := h; exact ⟨h3, h4⟩
  subst he
  have HY2 := Lib.hid (bytes_of_own hown2 (layTo_lt HP8.out c))
  have HB2' := Lib.hid (HB1.out.trans (hb2.mono HB1.out.size))
  clear hown2 hb2
  go_wp2_with fail
  refine (read_page _ (73 * c) cr (layTo P c) (B : Int) _ HY2.out (by omega) hcr.1 hcr.2 (by unfold I64; omega) (Deb.below HT.out HB2'.out (Nat.le_refl _))).mono ?_
  rintro e w3 ⟨⟨a3, c3, he, hy3, hn3, hle3⟩, hb3⟩
  rw [HR.out.1, HR.out.2.1, HR.out.2.2, HXl.out] at he
  rw [HR.out.1, HXl.out] at hy3
  rw [HR.out.1, HXl.out] at hle3
  subst he
  have HY3 := Lib.hid hy3
  have HY2' := Lib.hid (HY2.out.below hb3 (Nat.le_refl _))
  have HB3 := Lib.hid (HB2'.out.trans (hb3.mono HB2'.out.size))
  clear hy3 hb3 HY2
  go_wp2_with fail
  go_loop [12] (fun i => ∃ k : Nat, k ≤ B ∧ i = .int .i64 (k : Int)) (fun i => B - (intOf i).toNat)
  case atStart => exact ⟨0, by omega, rfl⟩
  case round =>
    obtain ⟨k, hk, rfl⟩ := hrel
    by_cases hlt : k < B
    · obtain ⟨b3, o3, rfl, _, hc3⟩ := HY3.out.2.2 (by omega)
      have hx := hc3 k hlt
      rw [HGet.out k hlt] at hx
      have t10 : (k : Int) < (B : Int) := by omega
      have t11 : (0 : Int) ≤ (k : Int) := by omega
      have t12 : ((k : Int)).toNat = k := by omega
      by_cases hkl : k < len
      · rw [if_pos hkl] at hx
        obtain ⟨b0, o0, rfl, _, hc0⟩ := (HI.out.below HB3.out (Nat.le_refl _)).2.2 (by omega)
        have hd := hc0 k hkl
        obtain ⟨V, hV⟩ : ∃ V, V = l.getD k 0 := ⟨_, rfl⟩
        rw [← hV] at hx hd
        have t13 : (k : Int) < (len : Int) := by omega
        clear hc3 hc0 hV
        go_wp2
        go_round
        case rel => exact ⟨k + 1, by omega, by go_num⟩
        case measure => simp [intOf]; omega
      · rw [if_neg hkl] at hx
        have hx' : w3.cell? ⟨b3, o3 + k, none⟩ = some (.int .u8 0) := hx
        have t13 : ¬ ((k : Int) < (len : Int)) := by omega
        clear hc3 hx
        go_wp2
        go_round
        case rel => exact ⟨k + 1, by omega, by go_num⟩
        case measure => simp [intOf]; omega
    · obtain rfl : k = B := by omega
      go_wp2_with fail
      refine (lay_ok a3 k c3 (P.take k) c _ HY3.out h1 h8 HB2.out (Deb.below HT.out HB3.out (Nat.le_refl _))).mono ?_
      rintro e w5 ⟨⟨v5, he, hown5⟩, hb5⟩
      subst he
      have HB5 := Lib.hid (HB3.out.trans (hb5.mono HB3.out.size))
      by_cases hkl : k < len
      · have t14 : (k : Int) < (len : Int) := by omega
        clear hown5 hb5
        go_wp2_with fail
        go_ret
        exact ⟨rfl, HB5.out⟩
      · have hag : layTo (padTo (P.take k) (64 * c)) c = layTo P c := by rw [← HNc.out, HAgain.out (by omega)]
        rw [hag] at hown5
        obtain ⟨a5, c5, rfl, hy5⟩ := bytes_of_own' hown5 (layTo_lt HP8.out c)
        have s5 := str_below hy5 c5 w5 (Below.refl _ _)
        have s2 := str_below (HY2'.out.below hb5 (Nat.le_refl _)) cr w5 (Below.refl _ _)
        have t14 : ¬ ((k : Int) < (len : Int)) := by omega
        clear hown5 hb5 hag hy5
        go_wp2_with fail
        go_ret
        exact ⟨rfl, HB5.out⟩

theorem ppads_any (a : Option Addr) (len cap : Nat) (l : List Nat) (c B : Int) (w : World) (hi : Bytes w a len l) (hc : len ≤ cap) (hcm : cap ≤ maxLen) (hc6 : I64 c) (hB6 : I64 B) (hT : Deb w) :
    Calls Tryd.prog 8 #[.slice a len cap, .int .i64 c, .int .i64 B] w fun e w' => e = .returned (.bool true) ∧ Below w.heap.size w w' := by
  by_cases h : 1 ≤ c ∧ c ≤ 8 ∧ (len : Int) ≤ 64 * c ∧ 0 ≤ B ∧ B ≤ 64 * c
  · obtain ⟨h1, h2, h3, h4, h5⟩ := h
    obtain ⟨n, rfl⟩ : ∃ n : Nat, c = n := ⟨c.toNat, by omega⟩
    obtain ⟨m, rfl⟩ : ∃ m : Nat, B = m := ⟨B.toNat, by omega⟩
    exact ppads_walk a len cap l n m w hi (by omega) (by omega) (by omega) (by omega) hT
  · unfold maxLen at hcm
    unfold I64 at hc6 hB6
    have HT := Lib.hid hT
    have hcs : c < 1 ∨ (¬ c < 1 ∧ 8 < c) ∨ (¬ c < 1 ∧ c ≤ 8 ∧ 64 * c < (len : Int)) ∨ (¬ c < 1 ∧ c ≤ 8 ∧ (len : Int) ≤ 64 * c ∧ B < 0) ∨ (¬ c < 1 ∧ c ≤ 8 ∧ (len : Int) ≤ 64 * c ∧ ¬ B < 0 ∧ 64 * c < B) := by omega
    clear hi hT h
    rcases hcs with h | ⟨h, h2⟩ | ⟨h, h2, h3⟩ | ⟨h, h2, h3, h4⟩ | ⟨h, h2, h3, h4, h5⟩
    all_goals
      go_enter Tryd.func8, Tryd.ntmps8
      go_wp2_with (go_at_call 15; refine (pknown_any _ HT.out).mono ?_; rintro e w1 ⟨rfl, hb⟩)
      go_ret
      exact ⟨rfl, hb⟩

end Go.Proofs.YtfefjabdfelhnaaDoor
