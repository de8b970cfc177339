/- token: the reference's Lay and the two Answers. -/
import Derived.Test.YtjjeopanffcbiaaTokA
import Derived.Test.YtjjeopanffcbiaaCrcS
namespace Go.Proofs.Ytjjeopanffcbiaa
open Go.RowKit
set_option linter.unusedVariables false

set_option maxRecDepth 100000 in
set_option maxHeartbeats 2000000 in
theorem rlay_any (a : Option Addr) (len cap : Nat) (l : List Nat) (w : World) (hi : Bytes w a len l) (hnil : a = none → cap = 0) (hl : len ≤ 1000000) :
    Calls Try.prog 21 #[.slice a len cap] w fun e w' => LayAt w.heap.size w' len l e ∧ Below w.heap.size w w' := by
  have hs := Crc.sum16_lt l hi.2.1
  obtain ⟨s, hS⟩ : ∃ s, s = Crc.sum16 l := ⟨_, rfl⟩
  rw [← hS] at hs
  have HS := Lib.hid hS
  clear hS
  go_enter Try.func21, Try.ntmps21
  go_wp2_with fail
  refine (ref16_any a len cap l _ hi (by omega)).mono ?_
  rintro e w1 ⟨rfl, rfl⟩
  rw [← HS.out]
  go_wp2_with (first | (at_builtin; refine Stop.mk ?_) | (at_make; refine Stop.mk ?_))
  refine Stop.go ?_
  refine wpList_app_u8 rfl _ _ 22 rfl w.heap.size 5 Try.underlying22 Try.infoU8 (.slice (some ⟨w.heap.size, 0, none⟩) 1 1) 1 [254] rfl (World.ownsRow_lit (e := 5) (base := w.heap.size) (size := 1) w #[.int .u8 254] 1 (Nat.le_refl _) (by decide) (by simp)) a len cap l rfl (hi.alloc _) hnil (by omega) (by simp) ?_
  intro v2 w2 hown2 hgrow2
  have hb2 : Below w.heap.size w w2 := ((Below.refl _ _).alloc (Nat.le_refl _) _).grown hgrow2 (by simp) (fun k hk => by simp [Value.ownBlock] at hk; omega)
  have hsz2 := hb2.size
  have HO2 := Lib.hid hown2
  clear hown2 hgrow2
  go_wp2_with (first | (at_builtin; refine Stop.mk ?_) | (at_make; refine Stop.mk ?_))
  refine Stop.go ?_
  have e1 : (s : Int) / 256 = ((s / 256 : Nat) : Int) := by omega
  have e2 : (s : Int) % 256 = ((s % 256 : Nat) : Int) := by omega
  rw [e1, e2]
  clear e1 e2
  refine wpList_app_u8 rfl _ _ 22 rfl w.heap.size 5 Try.underlying22 Try.infoU8 v2 (1 + len) ([254] ++ l) rfl (HO2.out.alloc _) _ 2 2 [s / 256, s % 256] rfl (bytes_lit2 (by omega) (by omega)) (fun h => by simp at h) (by omega) (by simp; omega) ?_
  intro v3 w3 hown3 hgrow3
  have hb3 : Below w.heap.size w w3 := (hb2.alloc hsz2 _).grown hgrow3 (by simp; omega) (fun k hk => (HO2.out.lt k hk).1)
  rw [show 1 + len + 2 = len + 3 by omega] at hown3
  have e4 : [254] ++ l ++ [s / 256, s % 256] = layL l := by rw [HS.out]; rfl
  rw [e4] at hown3
  obtain ⟨g, cap3, hv⟩ := own_shape hown3 (by omega)
  rw [hv] at hown3 ⊢
  have HO3 := Lib.hid hown3
  clear hown3 hgrow3 hv e4
  go_wp2
  go_ret
  exact ⟨⟨g, cap3, rfl, HO3.out⟩, hb3⟩

def answerN (e : Int) : Int := if e = 0 then 229 else if e = 25 then 235 else 237

theorem answer_any (x : Int) (w : World) : Calls Try.prog 23 #[.int .i64 x] w fun e w' => e = .returned (.int .u8 (answerN x)) ∧ w = w' := by
  rcases (show x = 0 ∨ x = 25 ∨ (x ≠ 0 ∧ x ≠ 25) by omega) with rfl | rfl | ⟨h1, h2⟩
  · go_enter Try.func23, Try.ntmps23
    go_wp2
    go_ret
    exact ⟨rfl, rfl⟩
  · go_enter Try.func23, Try.ntmps23
    go_wp2
    go_ret
    exact ⟨rfl, rfl⟩
  · have ha : Hid (answerN x = 237) := by unfold Hid answerN; rw [if_neg h1, if_neg h2]
    have b1 : (x == 0) = false := by simp [h1]
    have b2 : (x == 25) = false := by simp [h2]
    clear h1 h2
    go_enter Try.func23, Try.ntmps23
    go_wp2
    go_ret
    exact ⟨by rw [ha.out]; rfl, rfl⟩

theorem ranswer_any (x : Int) (w : World) : Calls Try.prog 24 #[.int .i64 x] w fun e w' => e = .returned (.int .u8 (answerN x)) ∧ w = w' := by
  rcases (show x = 0 ∨ x = 25 ∨ (x ≠ 0 ∧ x ≠ 25) by omega) with rfl | rfl | ⟨h1, h2⟩
  · go_enter Try.func24, Try.ntmps24
    go_wp2
    go_ret
    exact ⟨rfl, rfl⟩
  · go_enter Try.func24, Try.ntmps24
    go_wp2
    go_ret
    exact ⟨rfl, rfl⟩
  · have ha : Hid (answerN x = 237) := by unfold Hid answerN; rw [if_neg h1, if_neg h2]
    have b1 : (x == 0) = false := by simp [h1]
    have b2 : (x == 25) = false := by simp [h2]
    clear h1 h2
    go_enter Try.func24, Try.ntmps24
    go_wp2
    go_ret
    exact ⟨by rw [ha.out]; rfl, rfl⟩

end Go.Proofs.Ytjjeopanffcbiaa
