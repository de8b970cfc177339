/- page: the reference's Lay; Lay of whatever. -/
import Derived.Test.YtogpdmpefdafnaaDoorPageC
import Derived.Test.YtogpdmpefdafnaaDoorAppZ
namespace Go.Proofs.YtogpdmpefdafnaaDoor
open Go Go.RowKit
set_option linter.unusedVariables false

theorem layOk_not {len : Nat} {l : List Nat} {c : Int} (hl : l.length = len) (h : layOk l c = false) : (c < 1) ∨ (1 ≤ c ∧ 8 < c) ∨ (1 ≤ c ∧ c ≤ 8 ∧ 64 * c < (len : Int)) := by
  unfold layOk at h
  rw [hl] at h
  simp only [Bool.and_eq_false_iff, decide_eq_false_iff_not] at h
  omega
theorem layOk_yes {len : Nat} {l : List Nat} {c : Int} (hl : l.length = len) (h : layOk l c = true) : ∃ n : Nat, c = n ∧ 1 ≤ n ∧ n ≤ 8 ∧ len ≤ 64 * n := by
  unfold layOk at h
  rw [hl] at h
  simp only [Bool.and_eq_true, decide_eq_true_eq] at h
  exact ⟨c.toNat, by omega, by omega, by omega, by omega⟩

theorem lay_page (a : Option Addr) (len cap : Nat) (l : List Nat) (c : Int) (w : World) (hi : Bytes w a len l) (hl : len ≤ 1000000) (hc : I64 c) (hT : Deb w) :
    Calls Tryd.prog 7 #[.slice a len cap, .int .i64 c] w fun e w' => LayP w.heap.size w' (layL5 l c) (layE5 l c) e ∧ Below w.heap.size w w' := by
  unfold layL5 layE5
  cases h : layOk l c with
  | true =>
    obtain ⟨n, rfl, h1, h2, h3⟩ := layOk_yes hi.1 h
    simp only [if_true, Int.toNat_natCast, show (64 * (n : Int)).toNat = 64 * n by omega]
    exact lay_ok a len cap l n w hi h1 h2 h3 hT
  | false =>
    simp only [Bool.false_eq_true, if_false]
    have hcs := layOk_not hi.1 h
    have HF : Hid (LayP w.heap.size w [] 1 (.returned (.tuple #[.slice none 0 0, .int .i64 1])) ∧ Below w.heap.size w w) := Lib.hid ⟨⟨_, rfl, ⟨rfl, .inl ⟨rfl, rfl⟩⟩⟩, Below.refl _ _⟩
    unfold I64 at hc
    clear hi hT h
    rcases hcs with h | ⟨h, h2⟩ | ⟨h, h2, h3⟩
    · go_enter Tryd.func7, Tryd.ntmps7
      go_wp2
      go_ret2
      exact HF.out
    · go_enter Tryd.func7, Tryd.ntmps7
      go_wp2
      go_ret2
      exact HF.out
    · go_enter Tryd.func7, Tryd.ntmps7
      go_wp2
      go_ret2
      exact HF.out
end Go.Proofs.YtogpdmpefdafnaaDoor
