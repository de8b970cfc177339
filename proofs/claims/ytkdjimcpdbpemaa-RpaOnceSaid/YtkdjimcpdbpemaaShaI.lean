/- sha: Reset, New, Write. -/
import Derived.Test.YtkdjimcpdbpemaaShaH
namespace Go.Proofs.Ytkdjimcpdbpemaa
open Go Go.RowKit
set_option linter.unusedVariables false

theorem run_nil (s : St) : runB s [] = s ∧ restB [] = [] := ⟨rfl, rfl⟩
/-- What was written goes on. -/
theorem digL_add {w : World} {B g : Nat} {kd : Bool} {key l b : List Nat} (h : MidW w B g 109 (runB (runB H0 l) (restB l ++ b)) (restB (restB l ++ b)) (l.length + b.length) (.bool kd :: u8s key)) : DigL w B g kd key (l ++ b) := by
  obtain ⟨e1, e2⟩ := run_append H0 l b
  unfold DigL
  rw [← e1, ← e2, List.length_append]
  exact h

/-- Bytes are written to a digest. -/
theorem dadd_any (B g : Nat) (kd : Bool) (key l : List Nat) (a : Option Addr) (len cap : Nat) (b : List Nat) (w : World) (h : DigL w B g kd key l) (hB : B ≤ g) (hBw : B ≤ w.heap.size) (hl8 : ∀ c ∈ l, c < 256) (hi : Bytes w a len b) (hnil : a = none → cap = 0) (ha : 0 < len → ∀ ad, a = some ad → ad.block ≠ g) (hbl : len ≤ 100000) (hn : l.length ≤ 100000000) :
    Calls Try.prog 40 #[.pointer (some ⟨g, 0, none⟩), .slice a len cap] w fun e w' => e = .returned (.tuple #[]) ∧ DigL w' B g kd key (l ++ b) ∧ Below B w w' ∧ Keeps w w' g := by
  refine (add_any B g 109 (by decide) _ _ _ _ a len cap b w (runB_ok H0_ok l) h hB hBw (restB_lt hl8) hi hnil ha (by rw [restB_len]; omega) hbl hn).mono ?_
  rintro e w' ⟨rfl, h1, h2, h3⟩
  refine ⟨rfl, digL_add ?_, h2, h3⟩
  rw [hi.1]
  exact h1

theorem dadd_anyR (B g : Nat) (kd : Bool) (key l : List Nat) (a : Option Addr) (len cap : Nat) (b : List Nat) (w : World) (h : DigL w B g kd key l) (hB : B ≤ g) (hBw : B ≤ w.heap.size) (hl8 : ∀ c ∈ l, c < 256) (hi : Bytes w a len b) (hnil : a = none → cap = 0) (ha : 0 < len → ∀ ad, a = some ad → ad.block ≠ g) (hbl : len ≤ 100000) (hn : l.length ≤ 100000000) :
    Calls Try.prog 40 #[.pointer (some ⟨g, 0, none⟩), .slice a len cap] w fun e w' => e = .returned (.tuple #[]) ∧ DigL w' B g kd key (l ++ b) ∧ Below B w w' ∧ Keeps w w' g ∧ KeepR w w' g := by
  refine (add_anyR B g 109 (by decide) _ _ _ _ a len cap b w (runB_ok H0_ok l) h hB hBw (restB_lt hl8) hi hnil ha (by rw [restB_len]; omega) hbl hn).mono ?_
  rintro e w' ⟨rfl, h1, h2, h3⟩
  refine ⟨rfl, digL_add ?_, h2, h3⟩
  rw [hi.1]
  exact h1

/-- A digest just started: its block's cells. -/
def DigZ (w : World) (g : Nat) (kd : Bool) (key : List Nat) : Prop := ∃ (l0 : List Int) (v0 n0 : Value), l0.length = 8 ∧ HeadU w g 109 l0 (v0 :: n0 :: .bool kd :: u8s key)

set_option maxRecDepth 100000 in
set_option maxHeartbeats 4000000 in
theorem reset_any (B g : Nat) (kd : Bool) (key : List Nat) (w : World) (hz : DigZ w g kd key) (hK : KeyOk key) (hB : B ≤ g) (hBw : B ≤ w.heap.size) :
    Calls Try.prog 43 #[.pointer (some ⟨g, 0, none⟩)] w fun e w' => e = .returned (.tuple #[]) ∧ DigL w' B g kd key (preS kd key) ∧ Below B w w' := by
  obtain ⟨l0, v0, n0, hl0, hH⟩ := hz
  have HH := Lib.hid hH
  have HK : Hid (key.length = 64 ∧ ∀ x ∈ key, x < 256) := Lib.hid hK
  clear hH hK
  go_enter Try.func43, Try.ntmps43
  go_wp2_with fail
  refine (start_any g 109 l0 hl0 v0 n0 _ _ HH.out).mono ?_
  rintro e w1 ⟨rfl, hH1, hG1⟩
  have hb1 : Below B w w1 := below_gb (Below.refl _ _) hG1 hBw hB
  have hkd : w1.cell? ⟨g, 10, none⟩ = some (.bool kd) := hH1.tail 2
  have hD1 : DigL w1 B g kd key [] := ⟨_, hH1, ⟨rfl, .inl ⟨rfl, rfl⟩⟩⟩
  have HD1 := Lib.hid hD1
  have HB1 := Lib.hid hb1
  have HRg := Lib.hid (head_range (st_len H0) hH1)
  have HGl : Hid (g < w1.heap.size) := Lib.hid (HasB.lt hH1)
  have hBw1 : Hid (B ≤ w1.heap.size) := Lib.hid (Nat.le_trans hBw hG1.size)
  clear hH1 hG1 hb1 hD1
  cases kd with
  | false =>
    go_wp2_with fail
    go_end0
    exact ⟨rfl, HD1.out, HB1.out⟩
  | true =>
    have HRgD := Lib.hid (show w1.drew.rangeAt g 11 (u8s key) from HRg.out)
    have HGlD := Lib.hid (show g < w1.drew.heap.size from HGl.out)
    have HAdd : Hid (∀ (v : Value) (wp : World), wp.ownsRow w1.drew.heap.size 5 1 v 64 (u8s (xorK key 54)) → Below w1.drew.heap.size w1.drew wp → Calls Try.prog 40 #[.pointer (some ⟨g, 0, none⟩), v] wp fun e w' => e = .returned (.tuple #[]) ∧ DigL w' B g true key (xorK key 54) ∧ Below B w1 w') := Lib.hid (fun v wp ho hb => by
      obtain ⟨gv, cv, rfl⟩ := own_shape ho (by omega)
      have hlt := ho.lt gv rfl
      have hgl := HGl.out
      have hszd : w1.drew.heap.size = w1.heap.size := rfl
      obtain ⟨vv, q1, q2⟩ := HD1.out
      have hb' : Below w1.heap.size w1 wp := ⟨hb.os, hb.tape, hb.output, hb.size, hb.block⟩
      have hD : DigL wp B g true key [] := ⟨vv, HasB.below q1 hb' hgl, own_below q2 hb' (Nat.le_refl _)⟩
      have hcv : 64 ≤ cv := by
        rcases ho.2 with ⟨h, _⟩ | ⟨g', cap', cur, h, _, _, h3, h4, _⟩
        · simp at h
        · simp at h; obtain ⟨_, rfl⟩ := h; exact h3
      refine (dadd_any B g true key [] (some ⟨gv, 0, none⟩) 64 cv (xorK key 54) wp hD hB (Nat.le_trans hBw1.out hb.size) (by simp) (bytes_of_own ho (xorK_lt HK.out.2 (by omega))) (by simp) (fun _ ad had => by cases had; show gv ≠ g; omega) (by omega) (by simp)).mono ?_
      rintro e w' ⟨rfl, h1, h2, _⟩
      exact ⟨rfl, h1, (hb'.mono hBw1.out).trans h2⟩)
    clear HRg HGl
    have HRg := HRgD
    have HGl := HGlD
    clear HRgD HGlD
    go_wp2_with fail
    refine wp_region_held_drew (S := (fun _ => True)) (by kernel_rfl) (trivial) (fun hHeld => ?_)
    refine held_take 0 (v := ?_) rfl (by kernel_rfl) (by kernel_rfl) (by kernel_rfl) (fun _ _ _ h => h) (by rfl) (fun w hS => ?_) (by assumption) ?_
    rotate_left
    · try dsimp only at hS
      go_simp <;> with_reducible rfl
    try simp only [Act.put, List.setIfInBounds_toArray, List.set_cons_zero, List.set_cons_succ]
    refine held_take 1 (v := ?_) rfl (by kernel_rfl) (by kernel_rfl) (by kernel_rfl) (fun _ _ _ h => h) (by rfl) (fun w hS => ?_) (by assumption) ?_
    rotate_left
    · try dsimp only at hS
      go_simp <;> with_reducible rfl
    try simp only [Act.put, List.setIfInBounds_toArray, List.set_cons_zero, List.set_cons_succ]
    refine held_take 2 (v := ?_) rfl (by kernel_rfl) (by kernel_rfl) (by kernel_rfl) (fun _ _ _ h => h) (by rfl) (fun w hS => ?_) (by assumption) ?_
    rotate_left
    · try dsimp only at hS
      go_simp <;> with_reducible rfl
    try simp only [Act.put, List.setIfInBounds_toArray, List.set_cons_zero, List.set_cons_succ]
    refine held_take 3 (v := ?_) rfl (by kernel_rfl) (by kernel_rfl) (by kernel_rfl) (fun _ _ _ h => h) (by rfl) (fun w hS => ?_) (by assumption) ?_
    rotate_left
    · try dsimp only at hS
      go_simp <;> with_reducible rfl
    try simp only [Act.put, List.setIfInBounds_toArray, List.set_cons_zero, List.set_cons_succ]
    refine held_one 4 rfl (by kernel_rfl) (fun K hK => ?_)
    go_simp
    refine Calls.mono (pad_any g key 54 _ HK.out.1 HK.out.2 (by omega) HRg.out HGl.out) ?_
    rintro e wp ⟨⟨v, rfl, hown⟩, hb⟩
    have HOwn := Lib.hid hown
    have HBp := Lib.hid hb
    refine hK.out _ _ (fun _ => True) (fun _ h => h) trivial (fun hHeld => ?_)
    clear hK K
    try simp only [Act.put, List.setIfInBounds_toArray, List.set_cons_zero, List.set_cons_succ]
    refine held_one 5 rfl (by kernel_rfl) (fun K hK => ?_)
    go_simp
    refine Calls.mono (HAdd.out _ _ HOwn.out HBp.out) ?_
    rintro e wq ⟨rfl, hMid, hbq⟩
    have HMid := Lib.hid hMid
    have HBq := Lib.hid hbq
    refine hK.out _ _ (fun _ => True) (fun _ h => h) trivial (fun hHeld => ?_)
    clear hK K
    try simp only [Act.put, List.setIfInBounds_toArray, List.set_cons_zero, List.set_cons_succ]
    refine held_done (by kernel_rfl) ?_
    go_wp2_with fail
    go_end0
    exact ⟨rfl, HMid.out, HB1.out.trans HBq.out⟩

end Go.Proofs.Ytkdjimcpdbpemaa
