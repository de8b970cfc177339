/- regs: the reference's file. -/
import Derived.Test.YtjjeopanffcbiaaRegsG
namespace Go.Proofs.Ytjjeopanffcbiaa
open Go Go.RowKit
set_option linter.unusedVariables false

abbrev QFile := FileAt 117
/-- What holds of every file's values. -/
def OkF (vs : List Int) : Prop := Byt vs ∧ vs.getD 13 0 ≤ 1 ∧ ∀ i : Nat, kindS (i : Int) = 0 → vs.getD i 0 = 0
theorem zeros_get (i : Nat) : zeros64.getD i 0 = 0 := by
  unfold zeros64
  simp only [List.getD, List.getElem?_replicate]
  split <;> rfl
theorem OkF.zeros : OkF zeros64 := ⟨Byt.zeros, by decide, fun i _ => zeros_get i⟩
theorem OkF.get {vs : List Int} (h : OkF vs) {n : Int} (h0 : 0 ≤ n) : vs.getD n.toNat 0 = getS vs n := by
  unfold getS
  split
  · rename_i hk
    have := h.2.2 n.toNat (by rw [show ((n.toNat : Nat) : Int) = n by omega]; exact hk)
    exact this
  · rfl
theorem OkF.write {vs : List Int} (h : OkF vs) (n : Int) {v : Int} (h0 : 0 ≤ v) (h1 : v < 256) : OkF (writeS vs n v).2 := by
  obtain ⟨a, b⟩ := OnceA.write ⟨h.1, h.2.1⟩ n h0 h1
  refine ⟨a, b, fun i hi => ?_⟩
  rcases writeS_cases vs n v with e | ⟨e, _, hw, _⟩
  · rw [e]; exact h.2.2 i hi
  · rw [e, set_getD, if_neg]
    · exact h.2.2 i hi
    · rintro ⟨e2, _⟩
      have hk : kindS n ≠ 0 := by simp [writesS] at hw; exact hw.1
      have hr := kindS_range hk
      rw [← e2, show ((n.toNat : Nat) : Int) = n by omega] at hi
      exact hk hi
theorem OkF.setk {vs : List Int} (h : OkF vs) (n : Nat) {v : Int} (h0 : 0 ≤ v) (h1 : v < 256) (hk : kindS (n : Int) ≠ 0) (h13 : n = 13 → v ≤ 1) : OkF (vs.set n v) := by
  refine ⟨h.1.set _ h0 h1, ?_, fun i hi => ?_⟩
  · rw [set_getD]
    split
    · rename_i e; exact h13 e.1
    · exact h.2.1
  · rw [set_getD, if_neg]
    · exact h.2.2 i hi
    · rintro ⟨rfl, _⟩; exact hk hi
theorem OkF.show {vs : List Int} (h : OkF vs) (n : Int) {v : Int} (h0 : 0 ≤ v) (h1 : v < 256) : OkF (showS vs n v) := by
  unfold showS
  split
  · rename_i hk
    have hr := kindS_range (n := n) (by omega)
    refine h.setk n.toNat h0 h1 (by rw [show ((n.toNat : Nat) : Int) = n by omega]; omega) (fun e => ?_)
    obtain rfl : n = 13 := by omega
    simp [kindS] at hk
  · exact h
theorem OkF.power {vs : List Int} (h : OkF vs) : OkF (((vs.set 0 0).set 1 0).set 5 0) :=
  ((h.setk 0 (by omega) (by omega) (by decide) (by omega)).setk 1 (by omega) (by omega) (by decide) (by omega)).setk 5 (by omega) (by omega) (by decide) (by omega)

set_option maxRecDepth 100000 in
set_option maxHeartbeats 4000000 in
theorem qkind_any (n : Int) (w : World) :
    Calls Try.prog 132 #[.int .i64 n] w fun e w' => e = .returned (.int .i64 (kindS n)) ∧ w = w' := by
  by_cases h : n ∈ kindL
  · simp only [kindL, List.mem_cons, List.not_mem_nil, or_false] at h
    rcases h with rfl | rfl | rfl | rfl | rfl | rfl | rfl | rfl | rfl | rfl | rfl | rfl | rfl | rfl | rfl | rfl <;>
      (go_enter Try.func132, Try.ntmps132
       go_wp2
       go_ret
       exact ⟨rfl, rfl⟩)
  · rw [kindS_out h]
    simp only [kindL, List.mem_cons, List.not_mem_nil, or_false, not_or] at h
    obtain ⟨k1, k2, k3, k4, k5, k6, k7, k8, k9, k10, k11, k12, k13, k14, k15, k16⟩ := h
    have b : ∀ m : Int, n ≠ m → (n == m) = false := fun m h => by simpa using h
    have j1 := b _ k1
    have j2 := b _ k2
    have j3 := b _ k3
    have j4 := b _ k4
    have j5 := b _ k5
    have j6 := b _ k6
    have j7 := b _ k7
    have j8 := b _ k8
    have j9 := b _ k9
    have j10 := b _ k10
    have j11 := b _ k11
    have j12 := b _ k12
    have j13 := b _ k13
    have j14 := b _ k14
    have j15 := b _ k15
    have j16 := b _ k16
    clear b k1 k2 k3 k4 k5 k6 k7 k8 k9 k10 k11 k12 k13 k14 k15 k16
    go_enter Try.func132, Try.ntmps132
    go_wp2
    go_ret
    exact ⟨rfl, rfl⟩

theorem lt8 (v : Int) : decide (v ≤ 7) = decide (v < 8) := by
  rw [Bool.eq_iff_iff]; simp; omega
set_option maxRecDepth 100000 in
set_option maxHeartbeats 4000000 in
theorem qmay_any (n : Int) (v : Int) (h0 : 0 ≤ v) (h1 : v < 256) (w : World) :
    Calls Try.prog 128 #[.int .i64 n, .int .u8 v] w fun e w' => e = .returned (.bool (mayS n v)) ∧ w = w' := by
  have ha := Lib.hid (and_not_241 v h0 h1)
  have hl := Lib.hid (lt8 v)
  by_cases h : n ∈ [(0 : Int), 5, 6, 12, 1, 2, 3, 4, 13]
  · simp only [List.mem_cons, List.not_mem_nil, or_false] at h
    rcases h with rfl | rfl | rfl | rfl | rfl | rfl | rfl | rfl | rfl
    · rw [show mayS 0 v = decide (v < 8) by rfl, ← hl.out]
      clear h0 h1
      go_enter Try.func128, Try.ntmps128
      go_wp2
      go_ret
      exact ⟨rfl, rfl⟩
    · clear h0 h1
      go_enter Try.func128, Try.ntmps128
      go_wp2
      go_ret
      exact ⟨rfl, rfl⟩
    · clear h0 h1
      go_enter Try.func128, Try.ntmps128
      go_wp2
      go_ret
      exact ⟨rfl, rfl⟩
    · rw [show mayS 12 v = (bits .andNot .u8 v 241 == 0) by rfl, ha.out]
      clear h0 h1
      go_enter Try.func128, Try.ntmps128
      go_wp2
      go_ret
      exact ⟨rfl, rfl⟩
    all_goals
      clear h0 h1
      go_enter Try.func128, Try.ntmps128
      go_wp2
      go_ret
      exact ⟨rfl, rfl⟩
  · simp only [List.mem_cons, List.not_mem_nil, or_false, not_or] at h
    obtain ⟨k1, k2, k3, k4, k5, k6, k7, k8, k9⟩ := h
    have hr : mayS n v = true := by unfold mayS; simp [k1, k2, k3, k4, k5, k6, k7, k8, k9]
    rw [hr]
    have b : ∀ m : Int, n ≠ m → (n == m) = false := fun m h => by simpa using h
    have j1 := b _ k1
    have j2 := b _ k2
    have j3 := b _ k3
    have j4 := b _ k4
    have j5 := b _ k5
    have j6 := b _ k6
    have j7 := b _ k7
    have j8 := b _ k8
    have j9 := b _ k9
    clear b k1 k2 k3 k4 k5 k6 k7 k8 k9 hr
    go_enter Try.func128, Try.ntmps128
    go_wp2
    go_ret
    exact ⟨rfl, rfl⟩

theorem qget_any (g : Nat) (vs : List Int) (n : Int) (w : World) (hf : QFile w g vs) (hok : OkF vs) :
    Calls Try.prog 129 #[.pointer (some ⟨g, 0, none⟩), .int .i64 n] w fun e w' => e = .returned (.int .u8 (getS vs n)) ∧ w = w' := by
  by_cases h : n < 0
  · have hr : getS vs n = 0 := by
      unfold getS
      rw [if_pos (Classical.byContradiction fun e => by have := kindS_range e; omega)]
    rw [hr]
    clear hr hf
    go_enter Try.func129, Try.ntmps129
    go_wp2
    go_ret
    exact ⟨rfl, rfl⟩
  · by_cases h2 : 63 < n
    · have hr : getS vs n = 0 := by
        unfold getS
        rw [if_pos (Classical.byContradiction fun e => by have := kindS_range e; omega)]
      rw [hr]
      clear hr hf
      go_enter Try.func129, Try.ntmps129
      go_wp2
      go_ret
      exact ⟨rfl, rfl⟩
    · rw [← hok.get (n := n) (by omega)]
      obtain ⟨m, rfl⟩ : ∃ m : Nat, n = m := ⟨n.toNat, by omega⟩
      have hc := hf.cell m (by omega)
      rw [Int.toNat_natCast]
      obtain ⟨x, hx⟩ : ∃ x, x = vs.getD m 0 := ⟨_, rfl⟩
      rw [← hx] at hc ⊢
      have d1 : decide ((m : Int) < 0) = false := by simp
      have d2 : decide ((63 : Int) < m) = false := by simpa using h2
      have t1 : (0 : Int) ≤ (m : Int) := by omega
      clear hf hx h
      go_enter Try.func129, Try.ntmps129
      go_wp2
      go_ret
      exact ⟨rfl, rfl⟩

def setS (vs : List Int) (n : Int) : Bool := (kindS n == 3) && (vs.getD n.toNat 0 != 0)
theorem rset_any (g : Nat) (vs : List Int) (n : Int) (w : World) (hf : RFile w g vs) :
    Calls Try.prog 130 #[.pointer (some ⟨g, 0, none⟩), .int .i64 n] w fun e w' => e = .returned (.bool (setS vs n)) ∧ w = w' := by
  unfold setS
  by_cases h : kindS n = 3
  · obtain ⟨h0, h1⟩ := kindS_range (n := n) (by omega)
    obtain ⟨m, rfl⟩ : ∃ m : Nat, n = m := ⟨n.toNat, by omega⟩
    have hc := hf.cell m (by omega)
    rw [Int.toNat_natCast]
    obtain ⟨x, hx⟩ : ∃ x, x = vs.getD m 0 := ⟨_, rfl⟩
    rw [← hx] at hc ⊢
    rw [h]
    have t1 : (0 : Int) ≤ (m : Int) := by omega
    have HK := Lib.hid h
    clear h hf hx
    go_enter Try.func130, Try.ntmps130
    go_wp2_with (go_at_call 33; refine (kind_any _ _).mono ?_; rintro e w' ⟨rfl, rfl⟩; rw [HK.out])
    go_ret
    exact ⟨by simp, rfl⟩
  · have hb : (kindS n == 3) = false := by simpa using h
    rw [hb, Bool.false_and]
    clear h hf
    go_enter Try.func130, Try.ntmps130
    go_wp2_with (go_at_call 33; refine (kind_any _ _).mono ?_; rintro e w' ⟨rfl, rfl⟩)
    go_ret
    exact ⟨rfl, rfl⟩
theorem qset_any (g : Nat) (vs : List Int) (n : Int) (w : World) (hf : QFile w g vs) :
    Calls Try.prog 131 #[.pointer (some ⟨g, 0, none⟩), .int .i64 n] w fun e w' => e = .returned (.bool (setS vs n)) ∧ w = w' := by
  unfold setS
  by_cases h : kindS n = 3
  · obtain ⟨h0, h1⟩ := kindS_range (n := n) (by omega)
    obtain ⟨m, rfl⟩ : ∃ m : Nat, n = m := ⟨n.toNat, by omega⟩
    have hc := hf.cell m (by omega)
    rw [Int.toNat_natCast]
    obtain ⟨x, hx⟩ : ∃ x, x = vs.getD m 0 := ⟨_, rfl⟩
    rw [← hx] at hc ⊢
    rw [h]
    have t1 : (0 : Int) ≤ (m : Int) := by omega
    have HK := Lib.hid h
    clear h hf hx
    go_enter Try.func131, Try.ntmps131
    go_wp2_with (go_at_call 132; refine (qkind_any _ _).mono ?_; rintro e w' ⟨rfl, rfl⟩; rw [HK.out])
    go_ret
    exact ⟨by simp, rfl⟩
  · have hb : (kindS n == 3) = false := by simpa using h
    rw [hb, Bool.false_and]
    clear h hf
    go_enter Try.func131, Try.ntmps131
    go_wp2_with (go_at_call 132; refine (qkind_any _ _).mono ?_; rintro e w' ⟨rfl, rfl⟩)
    go_ret
    exact ⟨rfl, rfl⟩

theorem qshow_any (g : Nat) (vs : List Int) (n v : Int) (w : World) (hf : QFile w g vs) :
    Calls Try.prog 77 #[.pointer (some ⟨g, 0, none⟩), .int .i64 n, .int .u8 v] w fun e w' => (e = .returned (.tuple #[]) ∧ QFile w' g (showS vs n v)) ∧ w.grownBy w' (some g) := by
  unfold showS
  by_cases h : kindS n = 4
  · rw [if_pos h]
    obtain ⟨h0, h1⟩ := kindS_range (n := n) (by omega)
    obtain ⟨m, rfl⟩ : ∃ m : Nat, n = m := ⟨n.toNat, by omega⟩
    have hc := hf.cell m (by omega)
    have hfr := hf.free m
    have t1 : (0 : Int) ≤ (m : Int) := by omega
    have HF := Lib.hid (hf.set m v)
    rw [Int.toNat_natCast]
    have HK := Lib.hid h
    clear h hf
    go_enter Try.func77, Try.ntmps77
    go_wp2_with (go_at_call 132; refine (qkind_any _ _).mono ?_; rintro e w' ⟨rfl, rfl⟩; rw [HK.out])
    go_end0
    exact ⟨⟨rfl, HF.out⟩, gb_set (gb_refl _ _) _ _⟩
  · rw [if_neg h]
    have hb : (kindS n == 4) = false := by simpa using h
    have HF := Lib.hid hf
    clear h hf
    go_enter Try.func77, Try.ntmps77
    go_wp2_with (go_at_call 132; refine (qkind_any _ _).mono ?_; rintro e w' ⟨rfl, rfl⟩)
    go_end0
    exact ⟨⟨rfl, HF.out⟩, gb_refl _ _⟩

set_option maxHeartbeats 1000000 in
theorem qpowerUp_any (g : Nat) (vs : List Int) (w : World) (hf : QFile w g vs) :
    Calls Try.prog 78 #[.pointer (some ⟨g, 0, none⟩)] w fun e w' => (e = .returned (.tuple #[]) ∧ QFile w' g (((vs.set 0 0).set 1 0).set 5 0)) ∧ w.grownBy w' (some g) := by
  have HF := Lib.hid hf
  clear hf
  go_enter Try.func78, Try.ntmps78
  go_wp2_with fail
  go_loopw [2] (fun i wr => ∃ (k : Nat), k ≤ 64 ∧ i = .int .i64 k ∧ Hid (QFile wr g (powTo vs k)) ∧ Hid (w.grownBy wr (some g))) (fun i _ => 64 - (intOf i).toNat)
  case atStart => exact ⟨0, by omega, rfl, HF, Lib.hid (gb_refl _ _)⟩
  case round =>
    obtain ⟨k, hk, rfl, HR, HG⟩ := hrel
    obtain ⟨wo, rfl⟩ : ∃ wo : World, wo = wr := ⟨_, rfl⟩
    by_cases hlt : k < 64
    · have hs := powTo_succ vs k
      have hcf := HR.out.cell k hlt
      have hfr := HR.out.free k
      have t1 : (0 : Int) ≤ (k : Int) := by omega
      by_cases h1 : kindS (k : Int) = 1
      · rw [if_pos h1] at hs
        have HS := Lib.hid hs
        have HK := Lib.hid h1
        clear hs h1
        go_wp2_with (go_at_call 132; refine (qkind_any _ _).mono ?_; rintro e w' ⟨rfl, rfl⟩; rw [HK.out])
        go_roundw
        case rel => exact ⟨k + 1, by omega, by go_num, Lib.hid (by rw [HS.out]; exact HR.out.set k 0), Lib.hid (gb_set HG.out _ _)⟩
        case measure => simp [intOf]; omega
      · rw [if_neg h1] at hs
        have HS := Lib.hid hs
        have hb : (kindS (k : Int) == 1) = false := by simpa using h1
        clear hs h1
        go_wp2_with (go_at_call 132; refine (qkind_any _ _).mono ?_; rintro e w' ⟨rfl, rfl⟩)
        go_roundw
        case rel => exact ⟨k + 1, by omega, by go_num, Lib.hid (by rw [HS.out]; exact HR.out), HG⟩
        case measure => simp [intOf]; omega
    · obtain rfl : k = 64 := by omega
      go_wp2
      go_end0
      exact ⟨⟨rfl, by have := HR.out; rwa [powTo_all] at this⟩, HG.out⟩

end Go.Proofs.Ytjjeopanffcbiaa
