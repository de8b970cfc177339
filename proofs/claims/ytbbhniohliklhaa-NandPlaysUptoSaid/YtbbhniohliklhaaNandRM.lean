/- nand: NandPlays: step: Program; step whole. -/
import Derived.Test.YtbbhniohliklhaaNandRL
namespace Go.Proofs.Ytbbhniohliklhaa
open Go Go.RowKit
set_option linter.unusedVariables false

theorem NAct.bytes_max (x : NAct) {ch : Nat} (hc : ch ≤ 8) (h : x.raw.length ≤ 1000000) : (x.bytes ch).length ≤ 1000000 := by
  unfold NAct.bytes
  split
  · exact h
  · simp [fillL]; omega
theorem NAct.bytes_pos' (x : NAct) {ch : Nat} (hc : 1 ≤ ch) : 0 < (x.bytes ch).length := by
  unfold NAct.bytes
  split
  · assumption
  · simp [fillL]; omega
theorem duo_raw {Z : Zone} {w1 w w' : World} {g h : Nat} {F F' : NF} {ax : Option Addr} {X : List Nat} (d : DuoI Z w1 g h F F' ax X w) {x : NAct} {ch : Nat} (ho : 1 ≤ ch ∧ (0 < x.raw.length → ∀ ad, x.ra = some ad → ¬ Z ad.block ∧ ad.block < w1.heap.size)) {e : Ending} (hr : RawR x ch w e w') :
    ∃ a c, e = .returned (.slice a (x.bytes ch).length c) ∧ (x.bytes ch).length ≤ c ∧ DuoI Z w1 g h F F' a (x.bytes ch) w' ∧ Below w.heap.size w w' := by
  obtain ⟨⟨a, c, rfl, hby, hc, -, hwh⟩, hb⟩ := hr
  refine ⟨a, c, rfl, hc, ?_, hb⟩
  rcases hwh with ⟨rfl, h0⟩ | hwh
  · exact (d.below hb).bytes hby (ho.2 h0)
  · refine d.made hb hby fun ad e => ⟨hwh ad e, ?_⟩
    obtain ⟨b, o, e2, hlt, _⟩ := hby.2.2 (x.bytes_pos' ho.1)
    rw [e] at e2
    cases e2
    exact hlt
set_option maxRecDepth 100000 in
set_option maxHeartbeats 4000000 in
theorem lstep_prog (x : NAct) {Sn Sr : Zone} {g h : Nat} {F : NF} (w : World) (d : Duo Sn Sr w g h F F) (hx : x.wf w) (hop : x.op = 1) (hle : x.raw.length ≤ 1000000) (hra : 0 < x.raw.length → ∀ ad, x.ra = some ad → ¬ (Sn ad.block ∨ Sr ad.block) ∧ ad.block < w.heap.size) :
    Calls Try.prog 25 #[.pointer (some ⟨g, 0, none⟩), .pointer (some ⟨h, 0, none⟩), x.agg] w (StepR Sn Sr w g h F) := by
  obtain ⟨POST, hPOST⟩ : ∃ Q, Q = StepR Sn Sr w g h F := ⟨_, rfl⟩
  rw [← hPOST]
  have HPOST := Lib.hid hPOST
  obtain ⟨w2, gb, Bx, hw2, hgb, hbx, hb2, k0, k1, k2, k3, k4, k5, k6, k7⟩ := boxed d x
  obtain ⟨Z, hZ⟩ : ∃ Z : Zone, Z = fun k => Sn k ∨ Sr k := ⟨_, rfl⟩
  rw [← hZ] at hbx
  have HZ := Lib.hid hZ
  have HW2 := Lib.hid hw2
  have HGb := Lib.hid hgb
  have HBx := Lib.hid hbx
  have hn64 : x.n ≤ 9223372036854775807 := hx.2.2.2.2.1.2
  have q1 : (x.op == 1) = true := by rw [hop]; rfl
  have HB2 := Lib.hid hb2
  have HRf := Lib.hid (d.below hb2).rf
  have HWf : Hid (x.wf w) := Lib.hid hx
  have HLe := Lib.hid hle
  have hg := d.rf.2.2
  obtain ⟨ch, hch⟩ : ∃ ch, ch = F.ch := ⟨_, rfl⟩
  have HCh := Lib.hid hch
  have hc1 : 1 ≤ ch := by rw [hch]; exact hg.c1
  have hc8 : ch ≤ 8 := by rw [hch]; exact hg.c8
  have HRa : Hid (1 ≤ ch ∧ (0 < x.raw.length → ∀ ad, x.ra = some ad → ¬ Z ad.block ∧ ad.block < w2.heap.size)) := Lib.hid ⟨hc1, fun h0 ad e => by rw [hZ]; exact ⟨(hra h0 ad e).1, Nat.lt_of_lt_of_le (hra h0 ad e).2 hb2.size⟩⟩
  clear hb2 hg hch
  unfold NAct.agg
  clear hPOST hw2 hgb hbx hZ d hx hop hle hra
  go_enter Try.func25, Try.ntmps25
  go_wp2_with fail
  rw [← HW2.out, ← HGb.out]
  refine (lpage_any x Sr h F w2 HRf.out).mono ?_
  rintro e w3 ⟨rfl, hb3⟩
  obtain ⟨P, hP⟩ : ∃ P, P = pageOf F x := ⟨_, rfl⟩
  rw [← hP]
  clear hP
  have HD3 : Hid (DuoI Z w2 g h F F none [] w3) := Lib.hid (HBx.out.d.below hb3)
  have HB3 : Hid (∀ w', Below w3.heap.size w3 w' → Bx w') := Lib.hid fun w' q => HBx.out.box _ _ _ _ _ (HD3.out.below q)
  have HB23 : Hid (Below w.heap.size w w3) := Lib.hid (HB2.out.trans (hb3.mono HB2.out.size))
  have HC3 : Hid (∀ w', Below w3.heap.size w3 w' → w'.cell? ⟨h, 2, none⟩ = some (.int .i64 (ch : Int))) := Lib.hid fun w' q => by
    obtain ⟨Sn', Sr', d', -⟩ := HD3.out.below q
    obtain ⟨⟨M, hx⟩, -⟩ := d'.rf
    have := hx.gcells.2.2.1
    rw [← HCh.out] at this
    exact this
  clear hb3
  go_wp2_with fail
  refine wp_region_held_drew (S := (fun w' => Below w3.heap.size w3 w')) (by kernel_rfl) (((Below.refl _ _).drew)) (fun hHeld => ?_)
  refine held_take 0 (v := ?_) rfl (by kernel_rfl) (by kernel_rfl) (by kernel_rfl) (fun _ _ _ h => h) (by rfl) (fun w hS => ?_) (by assumption) ?_
  rotate_left
  · try dsimp only at hS
    have hBx := HB3.out w hS
    have l0 := k0 w hBx
    have l1 := k1 w hBx
    have l2 := k2 w hBx
    have l3 := k3 w hBx
    have l4 := k4 w hBx
    have l5 := k5 w hBx
    have l6 := k6 w hBx
    have l7 := k7 w hBx
    have l8 := HC3.out w hS
    go_simp <;> with_reducible rfl
  try simp only [Act.put, List.setIfInBounds_toArray, List.set_cons_zero, List.set_cons_succ]
  refine held_take 1 (v := ?_) rfl (by kernel_rfl) (by kernel_rfl) (by kernel_rfl) (fun _ _ _ h => h) (by rfl) (fun w hS => ?_) (by assumption) ?_
  rotate_left
  · try dsimp only at hS
    have hBx := HB3.out w hS
    have l0 := k0 w hBx
    have l1 := k1 w hBx
    have l2 := k2 w hBx
    have l3 := k3 w hBx
    have l4 := k4 w hBx
    have l5 := k5 w hBx
    have l6 := k6 w hBx
    have l7 := k7 w hBx
    have l8 := HC3.out w hS
    go_simp <;> with_reducible rfl
  try simp only [Act.put, List.setIfInBounds_toArray, List.set_cons_zero, List.set_cons_succ]
  refine held_take 2 (v := ?_) rfl (by kernel_rfl) (by kernel_rfl) (by kernel_rfl) (fun _ _ _ h => h) (by rfl) (fun w hS => ?_) (by assumption) ?_
  rotate_left
  · try dsimp only at hS
    have hBx := HB3.out w hS
    have l0 := k0 w hBx
    have l1 := k1 w hBx
    have l2 := k2 w hBx
    have l3 := k3 w hBx
    have l4 := k4 w hBx
    have l5 := k5 w hBx
    have l6 := k6 w hBx
    have l7 := k7 w hBx
    have l8 := HC3.out w hS
    go_simp <;> with_reducible rfl
  try simp only [Act.put, List.setIfInBounds_toArray, List.set_cons_zero, List.set_cons_succ]
  refine held_take 3 (v := ?_) rfl (by kernel_rfl) (by kernel_rfl) (by kernel_rfl) (fun _ _ _ h => h) (by rfl) (fun w hS => ?_) (by assumption) ?_
  rotate_left
  · try dsimp only at hS
    have hBx := HB3.out w hS
    have l0 := k0 w hBx
    have l1 := k1 w hBx
    have l2 := k2 w hBx
    have l3 := k3 w hBx
    have l4 := k4 w hBx
    have l5 := k5 w hBx
    have l6 := k6 w hBx
    have l7 := k7 w hBx
    have l8 := HC3.out w hS
    go_simp <;> with_reducible rfl
  try simp only [Act.put, List.setIfInBounds_toArray, List.set_cons_zero, List.set_cons_succ]
  refine held_take 4 (v := ?_) rfl (by kernel_rfl) (by kernel_rfl) (by kernel_rfl) (fun _ _ _ h => h) (by rfl) (fun w hS => ?_) (by assumption) ?_
  rotate_left
  · try dsimp only at hS
    have hBx := HB3.out w hS
    have l0 := k0 w hBx
    have l1 := k1 w hBx
    have l2 := k2 w hBx
    have l3 := k3 w hBx
    have l4 := k4 w hBx
    have l5 := k5 w hBx
    have l6 := k6 w hBx
    have l7 := k7 w hBx
    have l8 := HC3.out w hS
    go_simp <;> with_reducible rfl
  try simp only [Act.put, List.setIfInBounds_toArray, List.set_cons_zero, List.set_cons_succ]
  refine held_one 5 rfl (by kernel_rfl) (fun K hK => ?_)
  go_simp
  refine Calls.mono (lraw_any x ch _ (HWf.out.below (HB23.out.trans ((Below.refl _ _).drew.mono HB23.out.size))) hc1 hc8) ?_
  rintro e w4 hr4
  obtain ⟨a4, c4, rfl, hc4, hd4, hb4⟩ := duo_raw (HD3.out.below (Below.refl _ _).drew) HRa.out hr4
  have HD4 := Lib.hid hd4
  have HC4 := Lib.hid hc4
  have HB4 : Hid (Below w3.heap.size w3 w4) := Lib.hid ((Below.refl _ _).drew.trans hb4)
  clear hr4 hc4 hd4 hb4
  refine hK.out _ _ (fun w' => Below w3.heap.size w3 w') (fun _ h => h) HB4.out (fun hHeld => ?_)
  clear hK K
  try simp only [Act.put, List.setIfInBounds_toArray, List.set_cons_zero, List.set_cons_succ]
  refine held_take 6 (v := ?_) rfl (by kernel_rfl) (by kernel_rfl) (by kernel_rfl) (fun _ _ _ h => h) (by rfl) (fun w hS => ?_) (by assumption) ?_
  rotate_left
  · try dsimp only at hS
    go_simp <;> with_reducible rfl
  try simp only [Act.put, List.setIfInBounds_toArray, List.set_cons_zero, List.set_cons_succ]
  refine held_done (by kernel_rfl) ?_
  go_wp2_with fail
  refine wp_region_held_drew (S := Bx) (by kernel_rfl) ((HBx.out.drew _ (HBx.out.box _ _ _ _ _ HD4.out))) (fun hHeld => ?_)
  refine held_take 0 (v := ?_) rfl (by kernel_rfl) (by kernel_rfl) (by kernel_rfl) (fun _ _ _ h => h) (by rfl) (fun w hS => ?_) (by assumption) ?_
  rotate_left
  · try dsimp only at hS
    have l1 := k1 w hS
    go_simp <;> with_reducible rfl
  try simp only [Act.put, List.setIfInBounds_toArray, List.set_cons_zero, List.set_cons_succ]
  refine held_take 1 (v := ?_) rfl (by kernel_rfl) (by kernel_rfl) (by kernel_rfl) (fun _ _ _ h => h) (by rfl) (fun w hS => ?_) (by assumption) ?_
  rotate_left
  · try dsimp only at hS
    have l1 := k1 w hS
    go_simp <;> with_reducible rfl
  try simp only [Act.put, List.setIfInBounds_toArray, List.set_cons_zero, List.set_cons_succ]
  refine held_take 2 (v := ?_) rfl (by kernel_rfl) (by kernel_rfl) (by kernel_rfl) (fun _ _ _ h => h) (by rfl) (fun w hS => ?_) (by assumption) ?_
  rotate_left
  · try dsimp only at hS
    have l1 := k1 w hS
    go_simp <;> with_reducible rfl
  try simp only [Act.put, List.setIfInBounds_toArray, List.set_cons_zero, List.set_cons_succ]
  refine held_take 3 (v := ?_) rfl (by kernel_rfl) (by kernel_rfl) (by kernel_rfl) (fun _ _ _ h => h) (by rfl) (fun w hS => ?_) (by assumption) ?_
  rotate_left
  · try dsimp only at hS
    have l1 := k1 w hS
    go_simp <;> with_reducible rfl
  try simp only [Act.put, List.setIfInBounds_toArray, List.set_cons_zero, List.set_cons_succ]
  refine held_take 4 (v := ?_) rfl (by kernel_rfl) (by kernel_rfl) (by kernel_rfl) (fun _ _ _ h => h) (by rfl) (fun w hS => ?_) (by assumption) ?_
  rotate_left
  · try dsimp only at hS
    have l1 := k1 w hS
    go_simp <;> with_reducible rfl
  try simp only [Act.put, List.setIfInBounds_toArray, List.set_cons_zero, List.set_cons_succ]
  refine held_take 6 (v := ?_) rfl (by kernel_rfl) (by kernel_rfl) (by kernel_rfl) (fun _ _ _ h => h) (by rfl) (fun w hS => ?_) (by assumption) ?_
  rotate_left
  · try dsimp only at hS
    have l1 := k1 w hS
    go_simp <;> with_reducible rfl
  try simp only [Act.put, List.setIfInBounds_toArray, List.set_cons_zero, List.set_cons_succ]
  refine held_take 7 (v := ?_) rfl (by kernel_rfl) (by kernel_rfl) (by kernel_rfl) (fun _ _ _ h => h) (by rfl) (fun w hS => ?_) (by assumption) ?_
  rotate_left
  · try dsimp only at hS
    have l1 := k1 w hS
    go_simp <;> with_reducible rfl
  try simp only [Act.put, List.setIfInBounds_toArray, List.set_cons_zero, List.set_cons_succ]
  refine held_take 8 (v := ?_) rfl (by kernel_rfl) (by kernel_rfl) (by kernel_rfl) (fun _ _ _ h => h) (by rfl) (fun w hS => ?_) (by assumption) ?_
  rotate_left
  · try dsimp only at hS
    have l1 := k1 w hS
    go_simp <;> with_reducible rfl
  try simp only [Act.put, List.setIfInBounds_toArray, List.set_cons_zero, List.set_cons_succ]
  refine held_take 9 (v := ?_) rfl (by kernel_rfl) (by kernel_rfl) (by kernel_rfl) (fun _ _ _ h => h) (by rfl) (fun w hS => ?_) (by assumption) ?_
  rotate_left
  · try dsimp only at hS
    have l1 := k1 w hS
    go_simp <;> with_reducible rfl
  try simp only [Act.put, List.setIfInBounds_toArray, List.set_cons_zero, List.set_cons_succ]
  refine held_take 10 (v := ?_) rfl (by kernel_rfl) (by kernel_rfl) (by kernel_rfl) (fun _ _ _ h => h) (by rfl) (fun w hS => ?_) (by assumption) ?_
  rotate_left
  · try dsimp only at hS
    have l1 := k1 w hS
    go_simp <;> with_reducible rfl
  try simp only [Act.put, List.setIfInBounds_toArray, List.set_cons_zero, List.set_cons_succ]
  refine held_one 5 rfl (by kernel_rfl) (fun K hK => ?_)
  go_simp
  refine Calls.mono (duo_prog (HD4.out.below (Below.refl _ _).drew) x.blk P c4 HC4.out (x.bytes_max hc8 HLe.out)) ?_
  rintro e w5 ⟨rfl, hA1⟩
  have HA1 := Lib.hid hA1
  clear hA1
  refine hK.out _ _ Bx (fun _ h => h) (HBx.out.box _ _ _ _ _ HA1.out) (fun hHeld => ?_)
  clear hK K
  try simp only [Act.put, List.setIfInBounds_toArray, List.set_cons_zero, List.set_cons_succ]
  refine held_one 11 rfl (by kernel_rfl) (fun K hK => ?_)
  go_simp
  refine Calls.mono (duo_rprog HA1.out x.blk P c4 (x.bytes_max hc8 HLe.out)) ?_
  rintro e w6 ⟨rfl, hA2⟩
  have HA2 := Lib.hid hA2
  clear hA2
  refine hK.out _ _ Bx (fun _ h => h) (HBx.out.box _ _ _ _ _ HA2.out) (fun hHeld => ?_)
  clear hK K
  try simp only [Act.put, List.setIfInBounds_toArray, List.set_cons_zero, List.set_cons_succ]
  refine held_take 12 (v := ?_) rfl (by kernel_rfl) (by kernel_rfl) (by kernel_rfl) (fun _ _ _ h => h) (by rfl) (fun w hS => ?_) (by assumption) ?_
  rotate_left
  · try dsimp only at hS
    have l1 := k1 w hS
    go_simp <;> with_reducible rfl
  try simp only [Act.put, List.setIfInBounds_toArray, List.set_cons_zero, List.set_cons_succ]
  refine held_take 13 (v := ?_) rfl (by kernel_rfl) (by kernel_rfl) (by kernel_rfl) (fun _ _ _ h => h) (by rfl) (fun w hS => ?_) (by assumption) ?_
  rotate_left
  · try dsimp only at hS
    have l1 := k1 w hS
    go_simp <;> with_reducible rfl
  try simp only [Act.put, List.setIfInBounds_toArray, List.set_cons_zero, List.set_cons_succ]
  refine held_done (by kernel_rfl) ?_
  go_wp2_with fail

  rw [HPOST.out]
  exact ⟨rfl, _, by rw [← HZ.out]; exact HBx.out.back _ _ _ _ HA2.out, NF.sh_prog _ _ _ _⟩
/-- step: both do the same, and stay the same. -/
theorem lstep_any (x : NAct) {Sn Sr : Zone} {g h : Nat} {F : NF} (w : World) (d : Duo Sn Sr w g h F F) (hx : x.wf w) (hle : x.raw.length ≤ 1000000) (hra : 0 < x.raw.length → ∀ ad, x.ra = some ad → ¬ (Sn ad.block ∨ Sr ad.block) ∧ ad.block < w.heap.size) :
    Calls Try.prog 25 #[.pointer (some ⟨g, 0, none⟩), .pointer (some ⟨h, 0, none⟩), x.agg] w (StepR Sn Sr w g h F) := by
  by_cases q1 : x.op = 1
  · exact lstep_prog x w d hx q1 hle hra
  by_cases q2 : x.op = 2
  · exact lstep_erase x w d hx q2
  by_cases q3 : x.op = 3
  · exact lstep_mode x w d hx q3
  by_cases q4 : x.op = 4
  · exact lstep_fail x w d hx q4
  by_cases q5 : x.op = 5
  · exact lstep_flip x w d hx q5
  by_cases q6 : x.op = 6
  · exact lstep_arm x w d hx q6
  by_cases q7 : x.op = 7
  · exact lstep_cut x w d hx q7
  by_cases q8 : x.op = 8
  · exact lstep_on x w d hx q8
  exact lstep_none x w d hx fun i h1 h8 e => by omega
end Go.Proofs.Ytbbhniohliklhaa
