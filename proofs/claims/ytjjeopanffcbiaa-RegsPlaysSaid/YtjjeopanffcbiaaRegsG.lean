/- RegsOnce. -/
import Derived.Test.YtjjeopanffcbiaaRegsF
import Derived.Test.YtjjeopanffcbiaaRowsB
namespace Go.Proofs.Ytjjeopanffcbiaa
open Go Go.RowKit
set_option linter.unusedVariables false

theorem set_getD (vs : List Int) (n i : Nat) (v : Int) : (vs.set n v).getD i 0 = if n = i ∧ i < vs.length then v else vs.getD i 0 := by
  simp only [List.getD, List.getElem?_set]
  by_cases h : n = i
  · subst h
    by_cases h2 : n < vs.length
    · simp [h2]
    · simp [h2, List.getElem?_eq_none (Nat.not_lt.1 h2)]
  · simp [h]
theorem Byt.set {vs : List Int} (h : Byt vs) (n : Nat) {v : Int} (h0 : 0 ≤ v) (h1 : v < 256) : Byt (vs.set n v) := by
  intro i
  rw [set_getD]
  split
  · exact ⟨h0, h1⟩
  · exact h i
theorem Byt.zeros : Byt zeros64 := by
  intro i
  have : zeros64.getD i 0 = 0 := by
    unfold zeros64
    simp only [List.getD, List.getElem?_replicate]
    split <;> rfl
  rw [this]; omega

/-! ### one byte's bits in another's -/
def Sub8 (a b : Int) : Prop := bits .andNot .u8 a b = 0
theorem sub8_nat {a b : Nat} (ha : a < 256) (hb : b < 256) : Sub8 (a : Int) (b : Int) ↔ ∀ i, a.testBit i = true → b.testBit i = true := by
  unfold Sub8
  rw [u8_andNot_nat a b ha hb]
  have key : ∀ i, (a &&& (255 - b)).testBit i = (a.testBit i && (decide (i < 8) && !b.testBit i)) := by
    intro i
    rw [Nat.testBit_and]
    have := Nat.testBit_two_pow_sub_succ (n := 8) (x := b) (by omega) i
    rw [show 2 ^ 8 - (b + 1) = 255 - b by omega] at this
    rw [this]
  constructor
  · intro h i hi
    have h0 : (a &&& (255 - b)) = 0 := by omega
    have h1 := key i
    rw [h0, hi] at h1
    have hi8 : i < 8 := by
      rcases Nat.lt_or_ge i 8 with q | q
      · exact q
      · have : a < 2 ^ i := Nat.lt_of_lt_of_le ha (by exact Nat.pow_le_pow_right (n := 2) (by omega) q)
        rw [Nat.testBit_lt_two_pow this] at hi; cases hi
    cases hb : b.testBit i
    · simp [hb, hi8] at h1
    · rfl
  · intro h
    have : (a &&& (255 - b)) = 0 := by
      apply Nat.eq_of_testBit_eq
      intro i
      rw [key i]
      cases ha : a.testBit i
      · simp
      · simp [h i ha]
    rw [this]; rfl
theorem sub8_trans {a b c : Int} (ha : 0 ≤ a ∧ a < 256) (hb : 0 ≤ b ∧ b < 256) (hc : 0 ≤ c ∧ c < 256) (h1 : Sub8 a b) (h2 : Sub8 b c) : Sub8 a c := by
  obtain ⟨a, rfl⟩ : ∃ n : Nat, a = n := ⟨a.toNat, by omega⟩
  obtain ⟨b, rfl⟩ : ∃ n : Nat, b = n := ⟨b.toNat, by omega⟩
  obtain ⟨c, rfl⟩ : ∃ n : Nat, c = n := ⟨c.toNat, by omega⟩
  rw [sub8_nat (by omega) (by omega)] at h1 h2 ⊢
  exact fun i h => h2 i (h1 i h)
theorem sub8_refl {a : Int} (ha : 0 ≤ a ∧ a < 256) : Sub8 a a := by
  obtain ⟨a, rfl⟩ : ∃ n : Nat, a = n := ⟨a.toNat, by omega⟩
  exact (sub8_nat (by omega) (by omega)).2 fun i h => h

/-! ### what Write may do -/
theorem writeS_cases (vs : List Int) (n v : Int) : (writeS vs n v).2 = vs ∨
    ((writeS vs n v).2 = vs.set n.toNat v ∧ mayS n v = true ∧ writesS n = true ∧ (kindS n = 3 → ((n = 6 ∨ n = 13) ∧ Sub8 (vs.getD n.toNat 0) v) ∨ (¬ (n = 6 ∨ n = 13) ∧ vs.getD 13 0 = 0))) := by
  unfold writeS
  cases hw : writesS n
  · left; rfl
  · cases hm : mayS n v
    · left; rfl
    · simp only [Bool.true_eq_false, if_false]
      by_cases h2 : kindS n = 2
      · left; rw [if_pos h2]
      · rw [if_neg h2]
        by_cases h3 : kindS n = 3
        · rw [if_pos h3]
          by_cases h6 : n = 6 ∨ n = 13
          · rw [if_pos h6]
            by_cases hs : bits .andNot .u8 (vs.getD n.toNat 0) v ≠ 0
            · left; rw [if_pos hs]
            · right
              rw [if_neg hs]
              exact ⟨rfl, trivial, trivial, fun _ => .inl ⟨h6, by unfold Sub8; simpa using hs⟩⟩
          · rw [if_neg h6]
            by_cases h13 : vs.getD 13 0 ≠ 0
            · left; rw [if_pos h13]
            · right
              rw [if_neg h13]
              exact ⟨rfl, trivial, trivial, fun _ => .inr ⟨h6, by simpa using h13⟩⟩
        · right
          rw [if_neg h3]
          exact ⟨rfl, trivial, trivial, fun h => absurd h h3⟩
theorem kind_not3 {n : Int} (h : writesS n = true) (h3 : kindS n ≠ 3) : n = 0 ∨ n = 1 ∨ n = 5 ∨ n = 2 ∨ n = 3 ∨ n = 4 := by
  have hk : kindS n ≠ 0 ∧ kindS n ≠ 4 := by simpa [writesS] using h
  have := kindS_in hk.1
  simp only [kindL, List.mem_cons, List.not_mem_nil, or_false] at this
  unfold kindS at hk h3
  rcases this with rfl | rfl | rfl | rfl | rfl | rfl | rfl | rfl | rfl | rfl | rfl | rfl | rfl | rfl | rfl | rfl <;> simp at hk h3 ⊢

/-- Before the last switch. -/
def OnceA (vs : List Int) : Prop := Byt vs ∧ vs.getD 13 0 ≤ 1
theorem OnceA.zeros : OnceA zeros64 := ⟨Byt.zeros, by decide⟩
theorem may13 {v : Int} (h : mayS 13 v = true) : v ≤ 1 := by simpa [mayS] using h
theorem OnceA.write {vs : List Int} (h : OnceA vs) (n : Int) {v : Int} (h0 : 0 ≤ v) (h1 : v < 256) : OnceA (writeS vs n v).2 := by
  rcases writeS_cases vs n v with e | ⟨e, hm, hw, _⟩
  · rw [e]; exact h
  · rw [e]
    refine ⟨h.1.set _ h0 h1, ?_⟩
    rw [set_getD]
    split
    · rename_i hh
      have hr := kindS_range (n := n) (by simp [writesS] at hw; exact hw.1)
      obtain rfl : n = 13 := by omega
      exact may13 hm
    · exact h.2

/-- Behind it. -/
def OnceB (vs0 vs : List Int) : Prop := Byt vs ∧ vs.getD 13 0 = 1 ∧ (∀ i, 8 ≤ i → i ≤ 13 → vs.getD i 0 = vs0.getD i 0) ∧ Sub8 (vs0.getD 6 0) (vs.getD 6 0)
theorem OnceB.other {vs0 vs : List Int} (h : OnceB vs0 vs) (n : Nat) {v : Int} (h0 : 0 ≤ v) (h1 : v < 256) (hn : n ≠ 6 ∧ ¬ (8 ≤ n ∧ n ≤ 13)) : OnceB vs0 (vs.set n v) := by
  refine ⟨h.1.set _ h0 h1, ?_, fun i hi hi2 => ?_, ?_⟩
  · rw [set_getD, if_neg (by omega)]; exact h.2.1
  · rw [set_getD, if_neg (by omega)]; exact h.2.2.1 i hi hi2
  · rw [set_getD, if_neg (by omega)]; exact h.2.2.2
theorem OnceB.write {vs0 vs : List Int} (hb0 : Byt vs0) (h : OnceB vs0 vs) (n : Int) {v : Int} (h0 : 0 ≤ v) (h1 : v < 256) : OnceB vs0 (writeS vs n v).2 := by
  rcases writeS_cases vs n v with e | ⟨e, hm, hw, h3⟩
  · rw [e]; exact h
  · rw [e]
    by_cases hk : kindS n = 3
    · rcases h3 hk with ⟨hn, hs⟩ | ⟨_, hz⟩
      · rcases hn with rfl | rfl
        · refine ⟨h.1.set _ h0 h1, ?_, fun i hi hi2 => ?_, ?_⟩
          · rw [set_getD, if_neg (by simp)]; exact h.2.1
          · rw [set_getD, if_neg (by simp; omega)]; exact h.2.2.1 i hi hi2
          · rw [set_getD]
            split
            · exact sub8_trans (hb0 6) (h.1 6) ⟨h0, h1⟩ h.2.2.2 hs
            · exact h.2.2.2
        · have hv := may13 hm
          have hv1 : v = 1 := by
            rw [show (13 : Int).toNat = 13 by rfl, h.2.1] at hs
            rcases (show v = 0 ∨ v = 1 by omega) with rfl | rfl
            · exact absurd hs (by unfold Sub8; decide)
            · rfl
          subst hv1
          have hset : vs.set (13 : Int).toNat 1 = vs := by
            apply List.ext_getElem?
            intro i
            rw [List.getElem?_set]
            split
            · rename_i e13
              have e13 : i = 13 := e13.symm
              subst e13
              have h13 := h.2.1
              simp only [List.getD] at h13
              cases hh : vs[13]? with
              | none => rw [hh] at h13; simp at h13
              | some x =>
                rw [hh] at h13
                simp at h13
                have : 13 < vs.length := (List.getElem?_eq_some_iff.1 hh).1
                simp [this, h13]
            · rfl
          rw [hset]; exact h
      · rw [h.2.1] at hz; omega
    · have hn := kind_not3 hw hk
      exact h.other n.toNat h0 h1 (by omega)
theorem OnceB.show {vs0 vs : List Int} (h : OnceB vs0 vs) (n : Int) {v : Int} (h0 : 0 ≤ v) (h1 : v < 256) : OnceB vs0 (showS vs n v) := by
  unfold showS
  split
  · rename_i hk
    have hin := kindS_in (n := n) (by omega)
    simp only [kindL, List.mem_cons, List.not_mem_nil, or_false] at hin
    have hn : n = 32 ∨ n = 33 ∨ n = 34 := by
      rcases hin with rfl | rfl | rfl | rfl | rfl | rfl | rfl | rfl | rfl | rfl | rfl | rfl | rfl | rfl | rfl | rfl <;> simp [kindS] at hk ⊢
    exact h.other n.toNat h0 h1 (by omega)
  · exact h
theorem OnceB.power {vs0 vs : List Int} (h : OnceB vs0 vs) : OnceB vs0 (((vs.set 0 0).set 1 0).set 5 0) :=
  ((h.other 0 (by omega) (by omega) (by omega)).other 1 (by omega) (by omega) (by omega)).other 5 (by omega) (by omega) (by omega)
theorem last13 {vs : List Int} (h : OnceA vs) (hl : vs.length = 64) : writeS vs 13 1 = (0, vs.set 13 1) := by
  unfold writeS
  have hs : bits .andNot .u8 (vs.getD 13 0) 1 = 0 := by
    have := h.1 13
    have := h.2
    rcases (show vs.getD 13 0 = 0 ∨ vs.getD 13 0 = 1 by omega) with e | e <;> rw [e] <;> decide
  rw [if_neg (by decide), if_neg (by decide), if_neg (by decide), if_pos (by decide), if_pos (by omega), show (13 : Int).toNat = 13 by rfl, if_neg (by simpa using hs)]
theorem OnceB.start {vs : List Int} (h : OnceA vs) (hl : vs.length = 64) : OnceB (vs.set 13 1) (vs.set 13 1) := by
  refine ⟨h.1.set _ (by omega) (by omega), ?_, fun _ _ _ => rfl, sub8_refl ((h.1.set 13 (by omega) (by omega)) 6)⟩
  rw [set_getD, if_pos ⟨rfl, by omega⟩]
theorem OnceB.last {vs0 vs : List Int} (h : OnceB vs0 vs) : (lastL vs).drop 1 = (lastL vs0).drop 1 := by
  have := h.2.2.1
  simp [lastL, lastN] at this ⊢
  simp [this]

end Go.Proofs.Ytjjeopanffcbiaa
