/- crc: CrcBursts. -/
import Derived.Test.YtaficomlmjdnbaaCrcD
namespace Go.Proofs.Ytaficomlmjdnbaa
open Go.RowKit
set_option linter.unusedVariables false

def burstI (l : List Nat) (bit : Int) (P n : Nat) : List Nat := if bit < 0 then l else Crc.burst l bit.toNat P n
theorem burstI_len (l : List Nat) (bit : Int) (P n : Nat) : (burstI l bit P n).length = l.length := by unfold burstI; split; rfl; exact Crc.burst_len _ _ _ _
theorem burstI_lt (l : List Nat) (bit : Int) (P n : Nat) (hl : ∀ c ∈ l, c < 256) : ∀ c ∈ burstI l bit P n, c < 256 := by unfold burstI; split; exact hl; exact Crc.burst_lt _ _ _ hl n

set_option maxRecDepth 100000 in
set_option maxHeartbeats 4000000 in
theorem turnedI_any (a : Option Addr) (len cap : Nat) (l : List Nat) (bit : Int) (P n : Nat) (w : World) (hi : Bytes w a len l) (hnil : a = none → cap = 0) (hl : len ≤ 1000000) (hbit : I64 bit) (hP : P < 4294967296) (hn : n ≤ 16) :
    Calls Try.prog 15 #[.slice a len cap, .int .i64 bit, .int .u32 (P : Int), .int .i64 (n : Int)] w fun e w' => TurnedAt w.heap.size w' len (burstI l bit P n) e ∧ Below w.heap.size w w' := by
  by_cases hneg : bit < 0
  · have HB : Hid (burstI l bit P n = l) := by unfold Hid burstI; rw [if_pos hneg]
    go_enter Try.func15, Try.ntmps15
    go_wp2_with (first | (at_builtin; refine Stop.mk ?_) | (at_make; refine Stop.mk ?_))
    refine Stop.go ?_
    refine wpList_app_u8 rfl _ _ 22 rfl w.heap.size 5 Try.underlying22 Try.infoU8 (.slice (some ⟨w.heap.size, 0, none⟩) 0 0) 0 [] rfl (own_empty (Nat.le_refl _)) a len cap l rfl (hi.alloc _) hnil (by omega) (by simp) ?_
    intro v w1 hown hgrow
    rw [Nat.zero_add, List.nil_append] at hown
    have hb : Below w.heap.size w w1 := ((Below.refl _ _).alloc (Nat.le_refl _) _).grown hgrow (by simp) (fun k hk => by simp [Value.ownBlock] at hk; omega)
    obtain ⟨a1, cap1, hv, hy⟩ := bytes_of_own' hown hi.2.1
    rw [hv] at hown ⊢
    have hnone : a1 = none → cap1 = 0 := by
      intro h0
      rcases hown.2 with ⟨h, _⟩ | ⟨g, cap', cur, h, _⟩
      · simp at h; exact h.2.2
      · simp at h; rw [h.1] at h0; simp at h0
    have hblk : ∀ x, a1 = some x → w.heap.size ≤ x.block := fun x hx => (hown.lt x.block (by rw [hx]; rfl)).1
    have hlc : len ≤ cap1 := by
      rcases hown.2 with ⟨h, h2⟩ | ⟨g, cap', cur, h, _, _, h3, _⟩
      · omega
      · simp at h; omega
    have HN := Lib.hid hnone
    have HK := Lib.hid hblk
    have HY := Lib.hid hy
    clear hv hgrow hi hown hnone hblk hy
    go_wp2
    go_ret
    exact ⟨⟨a1, cap1, rfl, by rw [HB.out]; exact HY.out, HN.out, hlc, HK.out⟩, hb⟩
  · obtain ⟨m, rfl⟩ : ∃ m : Nat, bit = m := ⟨bit.toNat, by omega⟩
    have e : burstI l m P n = Crc.burst l m P n := by unfold burstI; rw [if_neg hneg]; rfl
    rw [e]
    exact turned_any a len cap l m P n w hi hnil hl (by unfold I64 at hbit; omega) hP hn

theorem or16 (h lo : Nat) (hh : h < 256) (hlo : lo < 256) : bits .or .u16 ((h : Int) * 256) (lo : Int) = (((256 * h) ||| lo : Nat) : Int) := by
  rw [show (h : Int) * 256 = ((256 * h : Nat) : Int) by simp; omega, u16_or_nat _ _ (by omega) (by omega)]

set_option maxRecDepth 100000 in
set_option maxHeartbeats 4000000 in
theorem bursts_walk (a : Option Addr) (len cap : Nat) (l : List Nat) (bit : Int) (P : Nat) (w : World) (hi : Bytes w a len l) (hnil : a = none → cap = 0) (hl : len ≤ 4096) (hbit : I64 bit) (hP : P < 4294967296) :
    Calls Try.prog 4 #[.slice a len cap, .int .i64 bit, .int .u32 (P : Int)] w fun e w' => e = .returned (.bool true) ∧ Below w.heap.size w w' := by
  have hs := Crc.sum16_lt l hi.2.1
  have h7 := Crc.sum7_lt l hi.2.1
  obtain ⟨s, hS⟩ : ∃ s, s = Crc.sum16 l := ⟨_, rfl⟩
  obtain ⟨t, hT⟩ : ∃ t, t = Crc.sum7 l := ⟨_, rfl⟩
  rw [← hS] at hs
  rw [← hT] at h7
  have HS := Lib.hid hS
  have HT := Lib.hid hT
  have HLen : Hid (l.length = len) := hi.1
  clear hS hT
  have hq : ∀ c ∈ l ++ [s / 256, s % 256], c < 256 := by
    intro c hc
    rcases List.mem_append.1 hc with h | h
    · exact hi.2.1 c h
    · simp at h; omega
  have HQ := Lib.hid hq
  have hq7 : ∀ c ∈ l ++ [2 * t], c < 256 := by
    intro c hc
    rcases List.mem_append.1 hc with h | h
    · exact hi.2.1 c h
    · simp at h; omega
  have HQ7 := Lib.hid hq7
  clear hq hq7
  go_enter Try.func4, Try.ntmps4
  go_wp2_with fail
  refine (known_any _).mono ?_
  rintro e w1 ⟨rfl, hb⟩
  have hi1 := hi.below hb (Nat.le_refl _)
  have hsz := hb.size
  go_wp2_with fail
  refine (sixteen_any a len cap l _ hi1 (by omega)).mono ?_
  rintro e w2 ⟨rfl, rfl⟩
  rw [← HS.out]
  go_wp2_with (first | (at_builtin; refine Stop.mk ?_) | (at_make; refine Stop.mk ?_))
  refine Stop.go ?_
  refine wpList_app_u8 rfl _ _ 22 rfl w.heap.size 5 Try.underlying22 Try.infoU8 (.slice (some ⟨w1.heap.size, 0, none⟩) 0 0) 0 [] rfl (own_empty hsz) a len cap l rfl (hi1.alloc _) hnil (by omega) (by simp; omega) ?_
  intro v2 w2 hown2 hgrow2
  have hb2 : Below w.heap.size w w2 := (hb.alloc hsz _).grown hgrow2 (by simp; omega) (fun k hk => by simp [Value.ownBlock] at hk; omega)
  have hsz2 := hb2.size
  rw [Nat.zero_add, List.nil_append] at hown2
  have HO2 := Lib.hid hown2
  clear hown2 hgrow2
  go_wp2_with (first | (at_builtin; refine Stop.mk ?_) | (at_make; refine Stop.mk ?_))
  refine Stop.go ?_
  have e1 : (s : Int) / 256 = ((s / 256 : Nat) : Int) := by omega
  have e2 : (s : Int) % 256 = ((s % 256 : Nat) : Int) := by omega
  rw [e1, e2]
  clear e1 e2
  refine wpList_app_u8 rfl _ _ 22 rfl w.heap.size 5 Try.underlying22 Try.infoU8 v2 len l rfl (HO2.out.alloc _) _ 2 2 [s / 256, s % 256] rfl (bytes_lit2 (by omega) (by omega)) (fun h => by simp at h) (by omega) (by simp; omega) ?_
  intro v3 w3 hown3 hgrow3
  have hb3 : Below w.heap.size w w3 := (hb2.alloc hsz2 _).grown hgrow3 (by simp; omega) (fun k hk => (HO2.out.lt k hk).1)
  have hsz3 := hb3.size
  obtain ⟨g3, cap3, hv3⟩ := own_shape hown3 (by omega)
  rw [hv3] at hown3
  have hy3 := bytes_of_own hown3 HQ.out
  rw [hv3]
  clear hown3 hgrow3 hv3
  go_wp2_with fail
  refine (turnedI_any _ (len + 2) cap3 _ bit P 16 _ hy3 (fun h => by simp at h) (by omega) hbit hP (by omega)).mono ?_
  rintro e w4 ⟨⟨a4, cap4, he4, hy4, hn4, hcap4, _⟩, hb4'⟩
  have hb4 := hb3.trans (hb4'.mono hsz3)
  have hsz4 := hb4.size
  have hy3' := hy3.below hb4' (Nat.le_refl _)
  subst he4
  clear hy3 hb4'
  obtain ⟨Y, hY⟩ : ∃ Y, Y = burstI (l ++ [s / 256, s % 256]) bit P 16 := ⟨_, rfl⟩
  rw [← hY] at hy4
  have HY := Lib.hid hY
  obtain ⟨b4, o4, rfl, _, hc4⟩ := hy4.2.2 (by omega)
  have c40 := hc4 len (by omega)
  have c41 := hc4 (len + 1) (by omega)
  have l40 := Crc.getD_lt hy4.2.1 len
  have l41 := Crc.getD_lt hy4.2.1 (len + 1)
  have hyt := hy4.take (n := len) (by omega)
  have hor := or16 (Y.getD len 0) (Y.getD (len + 1) 0) l40 l41
  have hfound : Crc.sum16 (Y.take len) = ((256 * Y.getD len 0) ||| Y.getD (len + 1) 0) ↔ Y = l ++ [s / 256, s % 256] := by
    rw [HY.out]
    unfold burstI
    by_cases hneg : bit < 0
    · simp only [hneg, if_true, iff_true]
      have e := Crc.split2 (l ++ [s / 256, s % 256]) len (by simp [HLen.out])
      have h1 := Crc.tail16 (Crc.sum16 ((l ++ [s / 256, s % 256]).take len)) ((l ++ [s / 256, s % 256]).getD len 0) ((l ++ [s / 256, s % 256]).getD (len + 1) 0) (Crc.sum16_lt _ (fun c hc => HQ.out c (List.mem_of_mem_take hc))) (Crc.getD_lt HQ.out _) (Crc.getD_lt HQ.out _)
      rw [← Crc.sum16_append2, ← e] at h1
      rw [← Crc.xor_or _ _ (Crc.getD_lt HQ.out _), ← h1, HS.out]
      exact Crc.sum16_ends l hi.2.1
    · simp only [hneg, if_false]
      have := Crc.sixteen_found l hi.2.1 bit.toNat P _ rfl
      rw [HLen.out, ← HS.out] at this
      exact this
  obtain ⟨p, hp⟩ : ∃ p, p = Y.getD len 0 := ⟨_, rfl⟩
  obtain ⟨q, hqq⟩ : ∃ q, q = Y.getD (len + 1) 0 := ⟨_, rfl⟩
  rw [← hp] at c40 l40 hor hfound
  rw [← hqq] at c41 l41 hor hfound
  have hstr1 := fun nq => run_str (P := Try.prog) (hy3'.drewN nq) 22 5 9 Try.underlying22 Try.underlying5 Try.underlying9 cap3
  have hstr2 := fun nq => run_str (P := Try.prog) (hy4.drewN nq) 22 5 9 Try.underlying22 Try.underlying5 Try.underlying9 cap4
  have hsb := strB_beq hy3'.2.1 hy4.2.1
  have hfin : (((Crc.sum16 (Y.take len) : Nat) : Int) == ((256 * p ||| q : Nat) : Int)) = ((l ++ [s / 256, s % 256]) == Y) := by
    rw [Bool.eq_iff_iff, beq_iff_eq, beq_iff_eq]
    constructor
    · intro h; exact (hfound.1 (by omega)).symm
    · intro h; have := hfound.2 h.symm; omega
  have hne : ((((Crc.sum16 (Y.take len) : Nat) : Int) == ((256 * p ||| q : Nat) : Int)) == ((strB (l ++ [s / 256, s % 256])).toList == (strB Y).toList)) = true := by rw [hfin, hsb]; simp
  have hlc : (len : Int) < ((len + 2 : Nat) : Int) := by omega
  clear hp hqq hY hfound hfin hsb hc4
  go_wp2_with fail
  go_quiet ((go_at_call 14; exact quietC (sixteen_any _ _ _ _ _ (Bytes.drewN (by assumption) _) (by omega))))
  have hb5 := below_drewN' hb4 nq
  obtain ⟨w5, hw5⟩ : ∃ w5, w5 = w4.drewN nq := ⟨_, rfl⟩
  rw [← hw5] at hb5 ⊢
  clear hor hstr1 hstr2 hne hw5 hyt c40 c41 hy3' hy4
  have hsz5 := hb5.size
  have hi5 := hi.below hb5 (Nat.le_refl _)
  clear HO2
  go_wp2_with (first | (at_builtin; refine Stop.mk ?_) | (at_make; refine Stop.mk ?_))
  refine Stop.go ?_
  refine wpList_app_u8 rfl _ _ 22 rfl w.heap.size 5 Try.underlying22 Try.infoU8 (.slice (some ⟨w5.heap.size, 0, none⟩) 0 0) 0 [] rfl (own_empty hsz5) a len cap l rfl (hi5.alloc _) hnil (by omega) (by simp; omega) ?_
  intro v6 w6 hown6 hgrow6
  have hb6 : Below w.heap.size w w6 := (hb5.alloc hsz5 _).grown hgrow6 (by simp; omega) (fun k hk => by simp [Value.ownBlock] at hk; omega)
  have hsz6 := hb6.size
  have hi6 := hi.below hb6 (Nat.le_refl _)
  rw [Nat.zero_add, List.nil_append] at hown6
  have HO6 := Lib.hid hown6
  clear hown6 hgrow6
  go_wp2_with (first | (at_builtin; refine Stop.mk ?_) | (at_make; refine Stop.mk ?_))
  refine (seven_any a len cap l _ hi6 (by omega)).mono ?_
  rintro e w7 ⟨rfl, rfl⟩
  rw [← HT.out]
  go_wp2_with (first | (at_builtin; refine Stop.mk ?_) | (at_make; refine Stop.mk ?_))
  refine Stop.go ?_
  obtain ⟨vt, hvt⟩ : ∃ vt, vt = 2 * t := ⟨_, rfl⟩
  have e1 : (t : Int) * 2 = (vt : Int) := by omega
  rw [e1]
  have hvl : vt < 256 := by omega
  have HQ8 : Hid (∀ c ∈ l ++ [vt], c < 256) := by rw [hvt]; exact HQ7.out
  have HVT := Lib.hid hvt
  clear e1 hvt
  refine wpList_app_u8 rfl _ _ 22 rfl w.heap.size 5 Try.underlying22 Try.infoU8 v6 len l rfl (HO6.out.alloc _) _ 1 1 [vt] rfl (bytes_lit1 hvl) (fun h => by simp at h) (by omega) (by simp; omega) ?_
  intro v7 w7 hown7 hgrow7
  have hb7 : Below w.heap.size w w7 := (hb6.alloc hsz6 _).grown hgrow7 (by simp; omega) (fun k hk => (HO6.out.lt k hk).1)
  have hsz7 := hb7.size
  have hcap7 : ∃ g cap7, v7 = .slice (some ⟨g, 0, none⟩) (len + 1) cap7 ∧ len + 1 ≤ cap7 := by
    rcases hown7.2 with ⟨h, h2⟩ | ⟨g, cap', cur, h, _, _, h3, _⟩
    · omega
    · exact ⟨g, cap', h, h3⟩
  obtain ⟨g7, cap7, hv7, hcap7⟩ := hcap7
  rw [hv7] at hown7
  have hy7 := bytes_of_own hown7 HQ8.out
  rw [hv7]
  clear hown7 hgrow7 hv7
  go_wp2_with fail
  refine (turnedI_any _ (len + 1) cap7 _ bit P 7 _ hy7 (fun h => by simp at h) (by omega) hbit hP (by omega)).mono ?_
  rintro e w8 ⟨⟨a8, cap8, he8, hy8, hn8, hcap8, _⟩, hb8'⟩
  have hb8 := hb7.trans (hb8'.mono hsz7)
  have hy7' := hy7.below hb8' (Nat.le_refl _)
  subst he8
  clear hy7 hb8'
  by_cases hbig : 8 * (len : Int) < bit
  · go_wp2
    go_ret
    exact ⟨rfl, hb8⟩
  · obtain ⟨W, hW⟩ : ∃ W, W = burstI (l ++ [vt]) bit P 7 := ⟨_, rfl⟩
    rw [← hW] at hy8
    obtain ⟨b8, o8, rfl, _, hc8⟩ := hy8.2.2 (by omega)
    have c8 := hc8 len (by omega)
    have l8 := Crc.getD_lt hy8.2.1 len
    obtain ⟨b7, o7, he7, _, hc7⟩ := hy7'.2.2 (by omega)
    obtain ⟨rfl, rfl⟩ : g7 = b7 ∧ 0 = o7 := by simpa using he7
    have c7 := hc7 len (by omega)
    rw [Nat.zero_add, show (l ++ [vt]).getD len 0 = vt by rw [← HLen.out]; simp [List.getD]] at c7
    have hy8t := hy8.take (n := len) (by omega)
    have hy7t := hy7'.take (n := len) (by omega)
    rw [show (l ++ [vt]).take len = l by rw [← HLen.out]; simp] at hy7t
    obtain ⟨wl, hwl⟩ : ∃ wl, wl = W.getD len 0 := ⟨_, rfl⟩
    have hfound : (Crc.sum7 (W.take len) = wl / 2 ↔ W = l ++ [vt]) ∧ ((l = W.take len ∧ vt / 2 = wl / 2) ↔ W = l ++ [vt]) := by
      have hv2 : vt / 2 = t := by have := HVT.out; omega
      have h2 : 2 * Crc.sum7 l = vt := by have := HVT.out; have := HT.out; omega
      rw [hv2, hwl, HT.out]
      by_cases hneg : bit < 0
      · have hWV : W = l ++ [vt] := by rw [hW]; unfold burstI; rw [if_pos hneg]
        have := Crc.seven_found l hi.2.1 0 0 (by omega) (Crc.burst (l ++ [2 * Crc.sum7 l]) 0 0 7) rfl
        have hz : Crc.burst (l ++ [2 * Crc.sum7 l]) 0 0 7 = l ++ [2 * Crc.sum7 l] := Crc.Q_zero_burst _ 0 0 7 (by decide)
        rw [hz, h2, HLen.out, ← hWV] at this
        rw [← hWV]
        exact this
      · have := Crc.seven_found l hi.2.1 bit.toNat P (by rw [HLen.out]; omega) W (by rw [hW, h2]; unfold burstI; rw [if_neg hneg])
        rw [h2, HLen.out] at this
        exact this
    rw [← hwl] at c8 l8
    have hstr1 := fun nq => run_str (P := Try.prog) (hy7t.drewN nq) 22 5 9 Try.underlying22 Try.underlying5 Try.underlying9 cap7
    have hstr2 := fun nq => run_str (P := Try.prog) (hy8t.drewN nq) 22 5 9 Try.underlying22 Try.underlying5 Try.underlying9 cap8
    have hsb := strB_beq hy7t.2.1 hy8t.2.1
    have hlc7 : (len : Int) ≤ (cap7 : Int) := by omega
    have hlc8 : (len : Int) ≤ (cap8 : Int) := by omega
    have hll : (len : Int) < ((len + 1 : Nat) : Int) := by omega
    have hll2 : len < len + 1 := by omega
    have hcases : ((((Crc.sum7 (W.take len) : Nat) : Int) == (wl : Int) / 2) = true ∧ ((strB l).toList == (strB (W.take len)).toList) = true ∧ ((vt : Int) / 2 == (wl : Int) / 2) = true) ∨
        ((((Crc.sum7 (W.take len) : Nat) : Int) == (wl : Int) / 2) = false ∧ ((strB l).toList == (strB (W.take len)).toList) = false) ∨
        ((((Crc.sum7 (W.take len) : Nat) : Int) == (wl : Int) / 2) = false ∧ ((strB l).toList == (strB (W.take len)).toList) = true ∧ ((vt : Int) / 2 == (wl : Int) / 2) = false) := by
      rw [hsb]
      by_cases hWV : W = l ++ [vt]
      · have h1 := hfound.1.2 hWV
        obtain ⟨h2, h3⟩ := hfound.2.2 hWV
        exact .inl ⟨by rw [beq_iff_eq]; omega, by rw [beq_iff_eq]; exact h2, by rw [beq_iff_eq]; omega⟩
      · have h1 : ¬ Crc.sum7 (W.take len) = wl / 2 := fun h => hWV (hfound.1.1 h)
        by_cases h2 : l = W.take len
        · have h3 : ¬ vt / 2 = wl / 2 := fun h => hWV (hfound.2.1 ⟨h2, h⟩)
          exact .inr (.inr ⟨by rw [beq_eq_false_iff_ne]; omega, by rw [beq_iff_eq]; exact h2, by rw [beq_eq_false_iff_ne]; omega⟩)
        · exact .inr (.inl ⟨by rw [beq_eq_false_iff_ne]; omega, by rw [beq_eq_false_iff_ne]; exact h2⟩)
    clear hwl hfound hsb hW hc8 hc7 he7 hy8
    rcases hcases with ⟨q1, q2, q3⟩ | ⟨q1, q2⟩ | ⟨q1, q2, q3⟩
    all_goals
      go_wp2_with fail
      go_quiet ((go_at_call 13; exact quietC (seven_any _ _ _ _ _ (Bytes.drewN (by assumption) _) (by omega))))
      go_wp2
      go_ret
      exact ⟨rfl, below_drewN' hb8 nq⟩

theorem bursts_any (a : Option Addr) (len cap : Nat) (l : List Nat) (bit : Int) (P : Nat) (w : World) (hm : len ≤ maxLen) (hi : Bytes w a len l) (hnil : a = none → cap = 0) (hbit : I64 bit) (hP : P < 4294967296) :
    Calls Try.prog 4 #[.slice a len cap, .int .i64 bit, .int .u32 (P : Int)] w fun e w' => e = .returned (.bool true) ∧ Below w.heap.size w w' := by
  unfold maxLen at hm
  by_cases h : len ≤ 4096
  · exact bursts_walk a len cap l bit P w hi hnil h hbit hP
  · have h2 : 4096 < len := by omega
    go_enter Try.func4, Try.ntmps4
    go_wp2_with (go_at_call 12; refine (known_any _).mono ?_; rintro e w1 ⟨rfl, hb⟩)
    go_ret
    exact ⟨rfl, hb⟩

end Go.Proofs.Ytaficomlmjdnbaa
