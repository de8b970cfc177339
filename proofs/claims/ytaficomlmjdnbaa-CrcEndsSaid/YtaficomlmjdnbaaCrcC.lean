/- crc: CrcEnds. -/
import Derived.Test.YtaficomlmjdnbaaCrcB
namespace Go.Proofs.Ytaficomlmjdnbaa
open Go.RowKit
set_option linter.unusedVariables false

theorem fits_len {P : Nat} (h : P ≤ 4096) : P ≤ 9223372036854775807 := by omega

set_option maxRecDepth 100000 in
set_option maxHeartbeats 4000000 in
theorem ends_walk (a : Option Addr) (len cap : Nat) (l : List Nat) (z : Nat) (w : World) (hi : Bytes w a len l) (hnil : a = none → cap = 0) (hl : len ≤ 4096) (hz : z ≤ 100) :
    Calls Try.prog 5 #[.slice a len cap, .int .i64 (z : Int)] w fun e w' => e = .returned (.bool true) ∧ Below w.heap.size w w' := by
  have hs := Crc.sum16_lt l hi.2.1
  have h7 := Crc.sum7_lt l hi.2.1
  obtain ⟨s, hS⟩ : ∃ s, s = Crc.sum16 l := ⟨_, rfl⟩
  obtain ⟨t, hT⟩ : ∃ t, t = Crc.sum7 l := ⟨_, rfl⟩
  rw [← hS] at hs
  rw [← hT] at h7
  have HS := Lib.hid hS
  have HT := Lib.hid hT
  clear hS hT
  go_enter Try.func5, Try.ntmps5
  go_wp2_with fail
  refine (known_any _).mono ?_
  rintro e w1 ⟨rfl, hb⟩
  have hi1 := hi.below hb (Nat.le_refl _)
  have hsz := hb.size
  go_wp2_with fail
  refine (sixteen_any a len cap l _ hi1 (by omega)).mono ?_
  rintro e w2 ⟨rfl, rfl⟩
  rw [← HS.out]
  go_wp2_with (first | (at_builtin; refine Stop.mk ?_) | (at_make; refine Stop.mk ?_))
  refine Stop.go ?_
  refine wpList_app_u8 rfl _ _ 22 rfl w.heap.size 5 Try.underlying22 Try.infoU8 (.slice (some ⟨w1.heap.size, 0, none⟩) 0 0) 0 [] rfl (own_empty hsz) a len cap l rfl (hi1.alloc _) hnil (by omega) (by simp; omega) ?_
  intro v2 w2 hown2 hgrow2
  have hb2 : Below w.heap.size w w2 := (hb.alloc hsz _).grown hgrow2 (by simp; omega) (fun k hk => by simp [Value.ownBlock] at hk; omega)
  have hi2 := hi.below hb2 (Nat.le_refl _)
  have hsz2 := hb2.size
  rw [Nat.zero_add, List.nil_append] at hown2
  have HO2 := Lib.hid hown2
  clear hown2 hgrow2
  go_wp2_with (first | (at_builtin; refine Stop.mk ?_) | (at_make; refine Stop.mk ?_))
  refine Stop.go ?_
  have e1 : (s : Int) / 256 = ((s / 256 : Nat) : Int) := by omega
  have e2 : (s : Int) % 256 = ((s % 256 : Nat) : Int) := by omega
  rw [e1, e2]
  clear e1 e2
  refine wpList_app_u8 rfl _ _ 22 rfl w.heap.size 5 Try.underlying22 Try.infoU8 v2 len l rfl (HO2.out.alloc _) _ 2 2 [s / 256, s % 256] rfl (bytes_lit2 (by omega) (by omega)) (fun h => by simp at h) (by omega) (by simp; omega) ?_
  intro v3 w3 hown3 hgrow3
  have hb3 : Below w.heap.size w w3 := (hb2.alloc hsz2 _).grown hgrow3 (by simp; omega) (fun k hk => (HO2.out.lt k hk).1)
  have hi3 := hi.below hb3 (Nat.le_refl _)
  have hsz3 := hb3.size
  have hq : ∀ c ∈ l ++ [s / 256, s % 256], c < 256 := by
    intro c hc
    rcases List.mem_append.1 hc with h | h
    · exact hi.2.1 c h
    · simp at h; omega
  obtain ⟨a3, cap3, hv3, hy3⟩ := bytes_of_own' hown3 hq
  rw [hv3]
  have E3 : Hid (Crc.sum16 (l ++ [s / 256, s % 256]) = 0) := by rw [HS.out]; exact Crc.sum16_ends l hi.2.1
  clear hown3 hgrow3 hv3 hq
  go_wp2_with fail
  refine (sixteen_any _ _ _ _ _ hy3 (by omega)).mono ?_
  rintro e w4 ⟨rfl, rfl⟩
  rw [E3.out]
  clear hy3
  go_wp2_with (first | (at_builtin; refine Stop.mk ?_) | (at_make; refine Stop.mk ?_))
  refine Stop.go ?_
  refine wpList_make_u8 rfl _ _ 22 rfl w.heap.size 5 Try.underlying22 Try.infoU8 z rfl rfl (by omega) hsz3 ?_
  intro w4 hown4 hgrow4
  have hb4 : Below w.heap.size w w4 := hb3.grown hgrow4 (by omega) (fun k hk => by simp at hk)
  have hi4 := hi.below hb4 (Nat.le_refl _)
  have hsz4 := hb4.size
  have HO4 := Lib.hid hown4
  clear hown4 hgrow4
  go_wp2_with (first | (at_builtin; refine Stop.mk ?_) | (at_make; refine Stop.mk ?_))
  refine Stop.go ?_
  refine wpList_app_u8 rfl _ _ 22 rfl w.heap.size 5 Try.underlying22 Try.infoU8 (.slice (some ⟨w3.heap.size, 0, none⟩) z z) z (List.replicate z 0) rfl HO4.out a len cap l rfl hi4 hnil (by omega) (by omega) ?_
  intro v5 w5 hown5 hgrow5
  have hb5 : Below w.heap.size w w5 := hb4.grown hgrow5 (by omega) (fun k hk => by simp [Value.ownBlock] at hk; omega)
  have hi5 := hi.below hb5 (Nat.le_refl _)
  have hsz5 := hb5.size
  have hq : ∀ c ∈ List.replicate z 0 ++ l, c < 256 := by
    intro c hc
    rcases List.mem_append.1 hc with h | h
    · have := (List.mem_replicate.1 h).2; omega
    · exact hi.2.1 c h
  obtain ⟨a5, cap5, hv5, hy5⟩ := bytes_of_own' hown5 hq
  rw [hv5]
  have E5 : Hid (Crc.sum16 (List.replicate z 0 ++ l) = s) := by rw [HS.out]; exact Crc.sum16_zeros z l
  clear hown5 hgrow5 hv5 hq
  go_wp2_with fail
  refine (sixteen_any _ _ _ _ _ hy5 (by omega)).mono ?_
  rintro e w6 ⟨rfl, rfl⟩
  rw [E5.out]
  clear hy5
  go_wp2_with (first | (at_builtin; refine Stop.mk ?_) | (at_make; refine Stop.mk ?_))
  refine Stop.go ?_
  refine wpList_make_u8 rfl _ _ 22 rfl w.heap.size 5 Try.underlying22 Try.infoU8 z rfl rfl (by omega) hsz5 ?_
  intro w6 hown6 hgrow6
  have hb6 : Below w.heap.size w w6 := hb5.grown hgrow6 (by omega) (fun k hk => by simp at hk)
  have hi6 := hi.below hb6 (Nat.le_refl _)
  have hsz6 := hb6.size
  have HO6 := Lib.hid hown6
  clear hown6 hgrow6
  go_wp2_with (first | (at_builtin; refine Stop.mk ?_) | (at_make; refine Stop.mk ?_))
  refine Stop.go ?_
  refine wpList_app_u8 rfl _ _ 22 rfl w.heap.size 5 Try.underlying22 Try.infoU8 (.slice (some ⟨w5.heap.size, 0, none⟩) z z) z (List.replicate z 0) rfl HO6.out a len cap l rfl hi6 hnil (by omega) (by omega) ?_
  intro v7 w7 hown7 hgrow7
  have hb7 : Below w.heap.size w w7 := hb6.grown hgrow7 (by omega) (fun k hk => by simp [Value.ownBlock] at hk; omega)
  have hi7 := hi.below hb7 (Nat.le_refl _)
  have hq : ∀ c ∈ List.replicate z 0 ++ l, c < 256 := by
    intro c hc
    rcases List.mem_append.1 hc with h | h
    · have := (List.mem_replicate.1 h).2; omega
    · exact hi.2.1 c h
  obtain ⟨a7, cap7, hv7, hy7⟩ := bytes_of_own' hown7 hq
  rw [hv7]
  have E7 : Hid (Crc.sum7 (List.replicate z 0 ++ l) = t) := by rw [HT.out]; exact Crc.sum7_zeros z l
  clear hown7 hgrow7 hv7 hq
  go_wp2_with fail
  refine (seven_any _ _ _ _ _ hy7 (by omega)).mono ?_
  rintro e w8 ⟨rfl, rfl⟩
  rw [E7.out]
  clear hy7
  go_wp2_with fail
  refine (seven_any _ _ _ _ _ hi7 (by omega)).mono ?_
  rintro e w8 ⟨rfl, rfl⟩
  rw [← HT.out]
  go_wp2_with fail
  refine (seven_any _ _ _ _ _ hi7 (by omega)).mono ?_
  rintro e w8 ⟨rfl, rfl⟩
  rw [← HT.out]
  go_wp2
  go_ret
  exact ⟨by show Ending.returned (.bool (decide ((t : Int) < 128))) = _; rw [decide_eq_true (by omega)], hb7⟩

theorem ends_any (a : Option Addr) (len cap : Nat) (l : List Nat) (z : Int) (w : World) (hm : len ≤ maxLen) (hi : Bytes w a len l) (hnil : a = none → cap = 0) :
    Calls Try.prog 5 #[.slice a len cap, .int .i64 z] w fun e w' => e = .returned (.bool true) ∧ Below w.heap.size w w' := by
  unfold maxLen at hm
  rcases (show (len ≤ 4096 ∧ 0 ≤ z ∧ z ≤ 100) ∨ (4096 < len ∨ (len ≤ 4096 ∧ z < 0) ∨ (len ≤ 4096 ∧ 0 ≤ z ∧ 100 < z)) by omega) with ⟨h1, h2, h3⟩ | h
  · obtain ⟨n, rfl⟩ : ∃ n : Nat, z = n := ⟨z.toNat, by omega⟩
    exact ends_walk a len cap l n w hi hnil h1 (by omega)
  · rcases h with h | ⟨h, h2⟩ | ⟨h, h2, h3⟩
    all_goals
      go_enter Try.func5, Try.ntmps5
      go_wp2_with (go_at_call 12; refine (known_any _).mono ?_; rintro e w1 ⟨rfl, hb⟩)
      go_ret
      exact ⟨rfl, hb⟩

end Go.Proofs.Ytaficomlmjdnbaa
