/- nand: NandPlays: step, but Program. -/
import Derived.Test.YtbbhniohliklhaaNandRK
namespace Go.Proofs.Ytbbhniohliklhaa
open Go Go.RowKit
set_option linter.unusedVariables false

def StepR (Sn Sr : Zone) (w : World) (g h : Nat) (F : NF) (e : Ending) (w' : World) : Prop := e = .returned (.bool true) ∧ ∃ F2, DuoI (fun k => Sn k ∨ Sr k) w g h F2 F2 none [] w' ∧ F2.sh = F.sh
/-- What holds from the box on. -/
structure Boxed (Z : Zone) (w : World) (g h : Nat) (F : NF) (x : NAct) (w2 : World) (gb : Nat) (Bx : World → Prop) : Prop where
  d : DuoI Z w2 g h F F none [] w2
  back : ∀ F2 ax X w', DuoI Z w2 g h F2 F2 ax X w' → DuoI Z w g h F2 F2 none [] w'
  box : ∀ F F' ax X w', DuoI Z w2 g h F F' ax X w' → Bx w'
  drew : ∀ w', Bx w' → Bx w'.drew
theorem boxed {Sn Sr : Zone} {w : World} {g h : Nat} {F : NF} (d : Duo Sn Sr w g h F F) (x : NAct) : ∃ (w2 : World) (gb : Nat) (Bx : World → Prop), w2 = w.alloc (.cells #[.int .i64 x.op, .int .i64 x.blk, .int .i64 x.page, .bool x.own, .int .u8 x.fill, .slice x.ra x.raw.length x.rc, .bool x.one, .int .i64 x.n] 53) ∧ gb = w.heap.size ∧ Boxed (fun k => Sn k ∨ Sr k) w g h F x w2 gb Bx ∧ Below w.heap.size w w2 ∧ 
    (∀ w', Bx w' → w'.cell? ⟨gb, 0, none⟩ = some (.int .i64 x.op)) ∧ (∀ w', Bx w' → w'.cell? ⟨gb, 1, none⟩ = some (.int .i64 x.blk)) ∧ (∀ w', Bx w' → w'.cell? ⟨gb, 2, none⟩ = some (.int .i64 x.page)) ∧ (∀ w', Bx w' → w'.cell? ⟨gb, 3, none⟩ = some (.bool x.own)) ∧ (∀ w', Bx w' → w'.cell? ⟨gb, 4, none⟩ = some (.int .u8 x.fill)) ∧ (∀ w', Bx w' → w'.cell? ⟨gb, 5, none⟩ = some (.slice x.ra x.raw.length x.rc)) ∧ (∀ w', Bx w' → w'.cell? ⟨gb, 6, none⟩ = some (.bool x.one)) ∧ (∀ w', Bx w' → w'.cell? ⟨gb, 7, none⟩ = some (.int .i64 x.n)) := by
  obtain ⟨w2, hw2⟩ : ∃ w2, w2 = w.alloc (.cells #[.int .i64 x.op, .int .i64 x.blk, .int .i64 x.page, .bool x.own, .int .u8 x.fill, .slice x.ra x.raw.length x.rc, .bool x.one, .int .i64 x.n] 53) := ⟨_, rfl⟩
  have hb : Below w.heap.size w w2 := by rw [hw2]; exact (Below.refl _ _).alloc (Nat.le_refl _) _
  have hbox : HasB w2 w.heap.size #[.int .i64 x.op, .int .i64 x.blk, .int .i64 x.page, .bool x.own, .int .u8 x.fill, .slice x.ra x.raw.length x.rc, .bool x.one, .int .i64 x.n] 53 := by rw [hw2]; exact HasB.new _ _ _
  refine ⟨w2, w.heap.size, fun w' => HasB w' w.heap.size #[.int .i64 x.op, .int .i64 x.blk, .int .i64 x.page, .bool x.own, .int .u8 x.fill, .slice x.ra x.raw.length x.rc, .bool x.one, .int .i64 x.n] 53, hw2, rfl, ⟨(d.below hb).start, fun F2 ax X w' q => DuoI.trans (fun k q => .inl q) (Fr.below hb) q, fun F F' ax X w' q => hbox.fr q.fr ?_, fun w' q => q⟩, hb, fun w' q => q.at 0, fun w' q => q.at 1, fun w' q => q.at 2, fun w' q => q.at 3, fun w' q => q.at 4, fun w' q => q.at 5, fun w' q => q.at 6, fun w' q => q.at 7⟩
  rintro (q | q)
  · have := d.fl.1.2 _ q; omega
  · have := d.rf.2.1 _ q; omega
set_option maxRecDepth 100000 in
set_option maxHeartbeats 4000000 in
theorem lstep_erase (x : NAct) {Sn Sr : Zone} {g h : Nat} {F : NF} (w : World) (d : Duo Sn Sr w g h F F) (hx : x.wf w) (hop : x.op = 2) :
    Calls Try.prog 25 #[.pointer (some ⟨g, 0, none⟩), .pointer (some ⟨h, 0, none⟩), x.agg] w (StepR Sn Sr w g h F) := by
  obtain ⟨POST, hPOST⟩ : ∃ Q, Q = StepR Sn Sr w g h F := ⟨_, rfl⟩
  rw [← hPOST]
  have HPOST := Lib.hid hPOST
  obtain ⟨w2, gb, Bx, hw2, hgb, hbx, -, k0, k1, k2, k3, k4, k5, k6, k7⟩ := boxed d x
  obtain ⟨Z, hZ⟩ : ∃ Z : Zone, Z = fun k => Sn k ∨ Sr k := ⟨_, rfl⟩
  rw [← hZ] at hbx
  have HZ := Lib.hid hZ
  have HW2 := Lib.hid hw2
  have HGb := Lib.hid hgb
  have HBx := Lib.hid hbx
  have hn64 : x.n ≤ 9223372036854775807 := hx.2.2.2.2.1.2
  have q1 : (x.op == 1) = false := by rw [hop]; rfl
  have q2 : (x.op == 2) = true := by rw [hop]; rfl
  unfold NAct.agg
  clear hPOST hw2 hgb hbx hZ d hx hop
  go_enter Try.func25, Try.ntmps25
  go_wp2_with fail
  rw [← HW2.out, ← HGb.out]
  refine wp_region_held_drew (S := Bx) (by kernel_rfl) ((HBx.out.drew _ (HBx.out.box _ _ _ _ _ HBx.out.d))) (fun hHeld => ?_)
  refine held_take 0 (v := ?_) rfl (by kernel_rfl) (by kernel_rfl) (by kernel_rfl) (fun _ _ _ h => h) (by rfl) (fun w hS => ?_) (by assumption) ?_
  rotate_left
  · try dsimp only at hS
    have l1 := k1 w hS
    have l2 := k2 w hS
    have l6 := k6 w hS
    have l7 := k7 w hS
    go_simp <;> with_reducible rfl
  try simp only [Act.put, List.setIfInBounds_toArray, List.set_cons_zero, List.set_cons_succ]
  refine held_take 1 (v := ?_) rfl (by kernel_rfl) (by kernel_rfl) (by kernel_rfl) (fun _ _ _ h => h) (by rfl) (fun w hS => ?_) (by assumption) ?_
  rotate_left
  · try dsimp only at hS
    have l1 := k1 w hS
    have l2 := k2 w hS
    have l6 := k6 w hS
    have l7 := k7 w hS
    go_simp <;> with_reducible rfl
  try simp only [Act.put, List.setIfInBounds_toArray, List.set_cons_zero, List.set_cons_succ]
  refine held_take 2 (v := ?_) rfl (by kernel_rfl) (by kernel_rfl) (by kernel_rfl) (fun _ _ _ h => h) (by rfl) (fun w hS => ?_) (by assumption) ?_
  rotate_left
  · try dsimp only at hS
    have l1 := k1 w hS
    have l2 := k2 w hS
    have l6 := k6 w hS
    have l7 := k7 w hS
    go_simp <;> with_reducible rfl
  try simp only [Act.put, List.setIfInBounds_toArray, List.set_cons_zero, List.set_cons_succ]
  refine held_take 4 (v := ?_) rfl (by kernel_rfl) (by kernel_rfl) (by kernel_rfl) (fun _ _ _ h => h) (by rfl) (fun w hS => ?_) (by assumption) ?_
  rotate_left
  · try dsimp only at hS
    have l1 := k1 w hS
    have l2 := k2 w hS
    have l6 := k6 w hS
    have l7 := k7 w hS
    go_simp <;> with_reducible rfl
  try simp only [Act.put, List.setIfInBounds_toArray, List.set_cons_zero, List.set_cons_succ]
  refine held_take 5 (v := ?_) rfl (by kernel_rfl) (by kernel_rfl) (by kernel_rfl) (fun _ _ _ h => h) (by rfl) (fun w hS => ?_) (by assumption) ?_
  rotate_left
  · try dsimp only at hS
    have l1 := k1 w hS
    have l2 := k2 w hS
    have l6 := k6 w hS
    have l7 := k7 w hS
    go_simp <;> with_reducible rfl
  try simp only [Act.put, List.setIfInBounds_toArray, List.set_cons_zero, List.set_cons_succ]
  refine held_take 6 (v := ?_) rfl (by kernel_rfl) (by kernel_rfl) (by kernel_rfl) (fun _ _ _ h => h) (by rfl) (fun w hS => ?_) (by assumption) ?_
  rotate_left
  · try dsimp only at hS
    have l1 := k1 w hS
    have l2 := k2 w hS
    have l6 := k6 w hS
    have l7 := k7 w hS
    go_simp <;> with_reducible rfl
  try simp only [Act.put, List.setIfInBounds_toArray, List.set_cons_zero, List.set_cons_succ]
  refine held_one 3 rfl (by kernel_rfl) (fun K hK => ?_)
  go_simp
  refine Calls.mono (duo_erase (HBx.out.d.below (Below.refl _ _).drew) x.blk) ?_
  rintro e w3 ⟨rfl, hA1⟩
  have HA1 := Lib.hid hA1
  clear hA1
  refine hK.out _ _ Bx (fun _ h => h) (HBx.out.box _ _ _ _ _ HA1.out) (fun hHeld => ?_)
  clear hK K
  try simp only [Act.put, List.setIfInBounds_toArray, List.set_cons_zero, List.set_cons_succ]
  refine held_one 7 rfl (by kernel_rfl) (fun K hK => ?_)
  go_simp
  refine Calls.mono (duo_rerase HA1.out x.blk) ?_
  rintro e w4 ⟨rfl, hA2⟩
  have HA2 := Lib.hid hA2
  clear hA2
  refine hK.out _ _ Bx (fun _ h => h) (HBx.out.box _ _ _ _ _ HA2.out) (fun hHeld => ?_)
  clear hK K
  try simp only [Act.put, List.setIfInBounds_toArray, List.set_cons_zero, List.set_cons_succ]
  refine held_take 8 (v := ?_) rfl (by kernel_rfl) (by kernel_rfl) (by kernel_rfl) (fun _ _ _ h => h) (by rfl) (fun w hS => ?_) (by assumption) ?_
  rotate_left
  · try dsimp only at hS
    have l1 := k1 w hS
    have l2 := k2 w hS
    have l6 := k6 w hS
    have l7 := k7 w hS
    go_simp <;> with_reducible rfl
  try simp only [Act.put, List.setIfInBounds_toArray, List.set_cons_zero, List.set_cons_succ]
  refine held_take 9 (v := ?_) rfl (by kernel_rfl) (by kernel_rfl) (by kernel_rfl) (fun _ _ _ h => h) (by rfl) (fun w hS => ?_) (by assumption) ?_
  rotate_left
  · try dsimp only at hS
    have l1 := k1 w hS
    have l2 := k2 w hS
    have l6 := k6 w hS
    have l7 := k7 w hS
    go_simp <;> with_reducible rfl
  try simp only [Act.put, List.setIfInBounds_toArray, List.set_cons_zero, List.set_cons_succ]
  refine held_done (by kernel_rfl) ?_
  go_wp2_with fail

  rw [HPOST.out]
  exact ⟨rfl, _, by rw [← HZ.out]; exact HBx.out.back _ _ _ _ HA2.out, NF.sh_erase _ _⟩
set_option maxRecDepth 100000 in
set_option maxHeartbeats 4000000 in
theorem lstep_mode (x : NAct) {Sn Sr : Zone} {g h : Nat} {F : NF} (w : World) (d : Duo Sn Sr w g h F F) (hx : x.wf w) (hop : x.op = 3) :
    Calls Try.prog 25 #[.pointer (some ⟨g, 0, none⟩), .pointer (some ⟨h, 0, none⟩), x.agg] w (StepR Sn Sr w g h F) := by
  obtain ⟨POST, hPOST⟩ : ∃ Q, Q = StepR Sn Sr w g h F := ⟨_, rfl⟩
  rw [← hPOST]
  have HPOST := Lib.hid hPOST
  obtain ⟨w2, gb, Bx, hw2, hgb, hbx, -, k0, k1, k2, k3, k4, k5, k6, k7⟩ := boxed d x
  obtain ⟨Z, hZ⟩ : ∃ Z : Zone, Z = fun k => Sn k ∨ Sr k := ⟨_, rfl⟩
  rw [← hZ] at hbx
  have HZ := Lib.hid hZ
  have HW2 := Lib.hid hw2
  have HGb := Lib.hid hgb
  have HBx := Lib.hid hbx
  have hn64 : x.n ≤ 9223372036854775807 := hx.2.2.2.2.1.2
  have q1 : (x.op == 1) = false := by rw [hop]; rfl
  have q2 : (x.op == 2) = false := by rw [hop]; rfl
  have q3 : (x.op == 3) = true := by rw [hop]; rfl
  unfold NAct.agg
  clear hPOST hw2 hgb hbx hZ d hx hop
  go_enter Try.func25, Try.ntmps25
  go_wp2_with fail
  rw [← HW2.out, ← HGb.out]
  refine wp_region_held_drew (S := Bx) (by kernel_rfl) ((HBx.out.drew _ (HBx.out.box _ _ _ _ _ HBx.out.d))) (fun hHeld => ?_)
  refine held_take 0 (v := ?_) rfl (by kernel_rfl) (by kernel_rfl) (by kernel_rfl) (fun _ _ _ h => h) (by rfl) (fun w hS => ?_) (by assumption) ?_
  rotate_left
  · try dsimp only at hS
    have l1 := k1 w hS
    have l2 := k2 w hS
    have l6 := k6 w hS
    have l7 := k7 w hS
    go_simp <;> with_reducible rfl
  try simp only [Act.put, List.setIfInBounds_toArray, List.set_cons_zero, List.set_cons_succ]
  refine held_take 1 (v := ?_) rfl (by kernel_rfl) (by kernel_rfl) (by kernel_rfl) (fun _ _ _ h => h) (by rfl) (fun w hS => ?_) (by assumption) ?_
  rotate_left
  · try dsimp only at hS
    have l1 := k1 w hS
    have l2 := k2 w hS
    have l6 := k6 w hS
    have l7 := k7 w hS
    go_simp <;> with_reducible rfl
  try simp only [Act.put, List.setIfInBounds_toArray, List.set_cons_zero, List.set_cons_succ]
  refine held_take 2 (v := ?_) rfl (by kernel_rfl) (by kernel_rfl) (by kernel_rfl) (fun _ _ _ h => h) (by rfl) (fun w hS => ?_) (by assumption) ?_
  rotate_left
  · try dsimp only at hS
    have l1 := k1 w hS
    have l2 := k2 w hS
    have l6 := k6 w hS
    have l7 := k7 w hS
    go_simp <;> with_reducible rfl
  try simp only [Act.put, List.setIfInBounds_toArray, List.set_cons_zero, List.set_cons_succ]
  refine held_take 3 (v := ?_) rfl (by kernel_rfl) (by kernel_rfl) (by kernel_rfl) (fun _ _ _ h => h) (by rfl) (fun w hS => ?_) (by assumption) ?_
  rotate_left
  · try dsimp only at hS
    have l1 := k1 w hS
    have l2 := k2 w hS
    have l6 := k6 w hS
    have l7 := k7 w hS
    go_simp <;> with_reducible rfl
  try simp only [Act.put, List.setIfInBounds_toArray, List.set_cons_zero, List.set_cons_succ]
  refine held_take 4 (v := ?_) rfl (by kernel_rfl) (by kernel_rfl) (by kernel_rfl) (fun _ _ _ h => h) (by rfl) (fun w hS => ?_) (by assumption) ?_
  rotate_left
  · try dsimp only at hS
    have l1 := k1 w hS
    have l2 := k2 w hS
    have l6 := k6 w hS
    have l7 := k7 w hS
    go_simp <;> with_reducible rfl
  try simp only [Act.put, List.setIfInBounds_toArray, List.set_cons_zero, List.set_cons_succ]
  refine held_take 6 (v := ?_) rfl (by kernel_rfl) (by kernel_rfl) (by kernel_rfl) (fun _ _ _ h => h) (by rfl) (fun w hS => ?_) (by assumption) ?_
  rotate_left
  · try dsimp only at hS
    have l1 := k1 w hS
    have l2 := k2 w hS
    have l6 := k6 w hS
    have l7 := k7 w hS
    go_simp <;> with_reducible rfl
  try simp only [Act.put, List.setIfInBounds_toArray, List.set_cons_zero, List.set_cons_succ]
  refine held_take 7 (v := ?_) rfl (by kernel_rfl) (by kernel_rfl) (by kernel_rfl) (fun _ _ _ h => h) (by rfl) (fun w hS => ?_) (by assumption) ?_
  rotate_left
  · try dsimp only at hS
    have l1 := k1 w hS
    have l2 := k2 w hS
    have l6 := k6 w hS
    have l7 := k7 w hS
    go_simp <;> with_reducible rfl
  try simp only [Act.put, List.setIfInBounds_toArray, List.set_cons_zero, List.set_cons_succ]
  refine held_take 8 (v := ?_) rfl (by kernel_rfl) (by kernel_rfl) (by kernel_rfl) (fun _ _ _ h => h) (by rfl) (fun w hS => ?_) (by assumption) ?_
  rotate_left
  · try dsimp only at hS
    have l1 := k1 w hS
    have l2 := k2 w hS
    have l6 := k6 w hS
    have l7 := k7 w hS
    go_simp <;> with_reducible rfl
  try simp only [Act.put, List.setIfInBounds_toArray, List.set_cons_zero, List.set_cons_succ]
  refine held_take 9 (v := ?_) rfl (by kernel_rfl) (by kernel_rfl) (by kernel_rfl) (fun _ _ _ h => h) (by rfl) (fun w hS => ?_) (by assumption) ?_
  rotate_left
  · try dsimp only at hS
    have l1 := k1 w hS
    have l2 := k2 w hS
    have l6 := k6 w hS
    have l7 := k7 w hS
    go_simp <;> with_reducible rfl
  try simp only [Act.put, List.setIfInBounds_toArray, List.set_cons_zero, List.set_cons_succ]
  refine held_take 10 (v := ?_) rfl (by kernel_rfl) (by kernel_rfl) (by kernel_rfl) (fun _ _ _ h => h) (by rfl) (fun w hS => ?_) (by assumption) ?_
  rotate_left
  · try dsimp only at hS
    have l1 := k1 w hS
    have l2 := k2 w hS
    have l6 := k6 w hS
    have l7 := k7 w hS
    go_simp <;> with_reducible rfl
  try simp only [Act.put, List.setIfInBounds_toArray, List.set_cons_zero, List.set_cons_succ]
  refine held_one 5 rfl (by kernel_rfl) (fun K hK => ?_)
  go_simp
  refine Calls.mono (duo_mode (HBx.out.d.below (Below.refl _ _).drew) x.blk x.one) ?_
  rintro e w3 ⟨rfl, hA1⟩
  have HA1 := Lib.hid hA1
  clear hA1
  refine hK.out _ _ Bx (fun _ h => h) (HBx.out.box _ _ _ _ _ HA1.out) (fun hHeld => ?_)
  clear hK K
  try simp only [Act.put, List.setIfInBounds_toArray, List.set_cons_zero, List.set_cons_succ]
  refine held_one 11 rfl (by kernel_rfl) (fun K hK => ?_)
  go_simp
  refine Calls.mono (duo_rmode HA1.out x.blk x.one) ?_
  rintro e w4 ⟨rfl, hA2⟩
  have HA2 := Lib.hid hA2
  clear hA2
  refine hK.out _ _ Bx (fun _ h => h) (HBx.out.box _ _ _ _ _ HA2.out) (fun hHeld => ?_)
  clear hK K
  try simp only [Act.put, List.setIfInBounds_toArray, List.set_cons_zero, List.set_cons_succ]
  refine held_take 12 (v := ?_) rfl (by kernel_rfl) (by kernel_rfl) (by kernel_rfl) (fun _ _ _ h => h) (by rfl) (fun w hS => ?_) (by assumption) ?_
  rotate_left
  · try dsimp only at hS
    have l1 := k1 w hS
    have l2 := k2 w hS
    have l6 := k6 w hS
    have l7 := k7 w hS
    go_simp <;> with_reducible rfl
  try simp only [Act.put, List.setIfInBounds_toArray, List.set_cons_zero, List.set_cons_succ]
  refine held_take 13 (v := ?_) rfl (by kernel_rfl) (by kernel_rfl) (by kernel_rfl) (fun _ _ _ h => h) (by rfl) (fun w hS => ?_) (by assumption) ?_
  rotate_left
  · try dsimp only at hS
    have l1 := k1 w hS
    have l2 := k2 w hS
    have l6 := k6 w hS
    have l7 := k7 w hS
    go_simp <;> with_reducible rfl
  try simp only [Act.put, List.setIfInBounds_toArray, List.set_cons_zero, List.set_cons_succ]
  refine held_done (by kernel_rfl) ?_
  go_wp2_with fail

  rw [HPOST.out]
  exact ⟨rfl, _, by rw [← HZ.out]; exact HBx.out.back _ _ _ _ HA2.out, NF.sh_mode _ _ _⟩
set_option maxRecDepth 100000 in
set_option maxHeartbeats 4000000 in
theorem lstep_fail (x : NAct) {Sn Sr : Zone} {g h : Nat} {F : NF} (w : World) (d : Duo Sn Sr w g h F F) (hx : x.wf w) (hop : x.op = 4) :
    Calls Try.prog 25 #[.pointer (some ⟨g, 0, none⟩), .pointer (some ⟨h, 0, none⟩), x.agg] w (StepR Sn Sr w g h F) := by
  obtain ⟨POST, hPOST⟩ : ∃ Q, Q = StepR Sn Sr w g h F := ⟨_, rfl⟩
  rw [← hPOST]
  have HPOST := Lib.hid hPOST
  obtain ⟨w2, gb, Bx, hw2, hgb, hbx, -, k0, k1, k2, k3, k4, k5, k6, k7⟩ := boxed d x
  obtain ⟨Z, hZ⟩ : ∃ Z : Zone, Z = fun k => Sn k ∨ Sr k := ⟨_, rfl⟩
  rw [← hZ] at hbx
  have HZ := Lib.hid hZ
  have HW2 := Lib.hid hw2
  have HGb := Lib.hid hgb
  have HBx := Lib.hid hbx
  have hn64 : x.n ≤ 9223372036854775807 := hx.2.2.2.2.1.2
  have q1 : (x.op == 1) = false := by rw [hop]; rfl
  have q2 : (x.op == 2) = false := by rw [hop]; rfl
  have q3 : (x.op == 3) = false := by rw [hop]; rfl
  have q4 : (x.op == 4) = true := by rw [hop]; rfl
  unfold NAct.agg
  clear hPOST hw2 hgb hbx hZ d hx hop
  go_enter Try.func25, Try.ntmps25
  go_wp2_with fail
  rw [← HW2.out, ← HGb.out]
  refine wp_region_held_drew (S := Bx) (by kernel_rfl) ((HBx.out.drew _ (HBx.out.box _ _ _ _ _ HBx.out.d))) (fun hHeld => ?_)
  refine held_take 0 (v := ?_) rfl (by kernel_rfl) (by kernel_rfl) (by kernel_rfl) (fun _ _ _ h => h) (by rfl) (fun w hS => ?_) (by assumption) ?_
  rotate_left
  · try dsimp only at hS
    have l1 := k1 w hS
    have l2 := k2 w hS
    have l6 := k6 w hS
    have l7 := k7 w hS
    go_simp <;> with_reducible rfl
  try simp only [Act.put, List.setIfInBounds_toArray, List.set_cons_zero, List.set_cons_succ]
  refine held_take 1 (v := ?_) rfl (by kernel_rfl) (by kernel_rfl) (by kernel_rfl) (fun _ _ _ h => h) (by rfl) (fun w hS => ?_) (by assumption) ?_
  rotate_left
  · try dsimp only at hS
    have l1 := k1 w hS
    have l2 := k2 w hS
    have l6 := k6 w hS
    have l7 := k7 w hS
    go_simp <;> with_reducible rfl
  try simp only [Act.put, List.setIfInBounds_toArray, List.set_cons_zero, List.set_cons_succ]
  refine held_take 2 (v := ?_) rfl (by kernel_rfl) (by kernel_rfl) (by kernel_rfl) (fun _ _ _ h => h) (by rfl) (fun w hS => ?_) (by assumption) ?_
  rotate_left
  · try dsimp only at hS
    have l1 := k1 w hS
    have l2 := k2 w hS
    have l6 := k6 w hS
    have l7 := k7 w hS
    go_simp <;> with_reducible rfl
  try simp only [Act.put, List.setIfInBounds_toArray, List.set_cons_zero, List.set_cons_succ]
  refine held_take 4 (v := ?_) rfl (by kernel_rfl) (by kernel_rfl) (by kernel_rfl) (fun _ _ _ h => h) (by rfl) (fun w hS => ?_) (by assumption) ?_
  rotate_left
  · try dsimp only at hS
    have l1 := k1 w hS
    have l2 := k2 w hS
    have l6 := k6 w hS
    have l7 := k7 w hS
    go_simp <;> with_reducible rfl
  try simp only [Act.put, List.setIfInBounds_toArray, List.set_cons_zero, List.set_cons_succ]
  refine held_take 5 (v := ?_) rfl (by kernel_rfl) (by kernel_rfl) (by kernel_rfl) (fun _ _ _ h => h) (by rfl) (fun w hS => ?_) (by assumption) ?_
  rotate_left
  · try dsimp only at hS
    have l1 := k1 w hS
    have l2 := k2 w hS
    have l6 := k6 w hS
    have l7 := k7 w hS
    go_simp <;> with_reducible rfl
  try simp only [Act.put, List.setIfInBounds_toArray, List.set_cons_zero, List.set_cons_succ]
  refine held_take 6 (v := ?_) rfl (by kernel_rfl) (by kernel_rfl) (by kernel_rfl) (fun _ _ _ h => h) (by rfl) (fun w hS => ?_) (by assumption) ?_
  rotate_left
  · try dsimp only at hS
    have l1 := k1 w hS
    have l2 := k2 w hS
    have l6 := k6 w hS
    have l7 := k7 w hS
    go_simp <;> with_reducible rfl
  try simp only [Act.put, List.setIfInBounds_toArray, List.set_cons_zero, List.set_cons_succ]
  refine held_one 3 rfl (by kernel_rfl) (fun K hK => ?_)
  go_simp
  refine Calls.mono (duo_fail (HBx.out.d.below (Below.refl _ _).drew) x.blk) ?_
  rintro e w3 ⟨rfl, hA1⟩
  have HA1 := Lib.hid hA1
  clear hA1
  refine hK.out _ _ Bx (fun _ h => h) (HBx.out.box _ _ _ _ _ HA1.out) (fun hHeld => ?_)
  clear hK K
  try simp only [Act.put, List.setIfInBounds_toArray, List.set_cons_zero, List.set_cons_succ]
  refine held_one 7 rfl (by kernel_rfl) (fun K hK => ?_)
  go_simp
  refine Calls.mono (duo_rfail HA1.out x.blk) ?_
  rintro e w4 ⟨rfl, hA2⟩
  have HA2 := Lib.hid hA2
  clear hA2
  refine hK.out _ _ Bx (fun _ h => h) (HBx.out.box _ _ _ _ _ HA2.out) (fun hHeld => ?_)
  clear hK K
  try simp only [Act.put, List.setIfInBounds_toArray, List.set_cons_zero, List.set_cons_succ]
  refine held_take 8 (v := ?_) rfl (by kernel_rfl) (by kernel_rfl) (by kernel_rfl) (fun _ _ _ h => h) (by rfl) (fun w hS => ?_) (by assumption) ?_
  rotate_left
  · try dsimp only at hS
    have l1 := k1 w hS
    have l2 := k2 w hS
    have l6 := k6 w hS
    have l7 := k7 w hS
    go_simp <;> with_reducible rfl
  try simp only [Act.put, List.setIfInBounds_toArray, List.set_cons_zero, List.set_cons_succ]
  refine held_take 9 (v := ?_) rfl (by kernel_rfl) (by kernel_rfl) (by kernel_rfl) (fun _ _ _ h => h) (by rfl) (fun w hS => ?_) (by assumption) ?_
  rotate_left
  · try dsimp only at hS
    have l1 := k1 w hS
    have l2 := k2 w hS
    have l6 := k6 w hS
    have l7 := k7 w hS
    go_simp <;> with_reducible rfl
  try simp only [Act.put, List.setIfInBounds_toArray, List.set_cons_zero, List.set_cons_succ]
  refine held_done (by kernel_rfl) ?_
  go_wp2_with fail

  rw [HPOST.out]
  exact ⟨rfl, _, by rw [← HZ.out]; exact HBx.out.back _ _ _ _ HA2.out, NF.sh_fail _ _⟩
set_option maxRecDepth 100000 in
set_option maxHeartbeats 4000000 in
theorem lstep_flip (x : NAct) {Sn Sr : Zone} {g h : Nat} {F : NF} (w : World) (d : Duo Sn Sr w g h F F) (hx : x.wf w) (hop : x.op = 5) :
    Calls Try.prog 25 #[.pointer (some ⟨g, 0, none⟩), .pointer (some ⟨h, 0, none⟩), x.agg] w (StepR Sn Sr w g h F) := by
  obtain ⟨POST, hPOST⟩ : ∃ Q, Q = StepR Sn Sr w g h F := ⟨_, rfl⟩
  rw [← hPOST]
  have HPOST := Lib.hid hPOST
  obtain ⟨w2, gb, Bx, hw2, hgb, hbx, -, k0, k1, k2, k3, k4, k5, k6, k7⟩ := boxed d x
  obtain ⟨Z, hZ⟩ : ∃ Z : Zone, Z = fun k => Sn k ∨ Sr k := ⟨_, rfl⟩
  rw [← hZ] at hbx
  have HZ := Lib.hid hZ
  have HW2 := Lib.hid hw2
  have HGb := Lib.hid hgb
  have HBx := Lib.hid hbx
  have hn64 : x.n ≤ 9223372036854775807 := hx.2.2.2.2.1.2
  have q1 : (x.op == 1) = false := by rw [hop]; rfl
  have q2 : (x.op == 2) = false := by rw [hop]; rfl
  have q3 : (x.op == 3) = false := by rw [hop]; rfl
  have q4 : (x.op == 4) = false := by rw [hop]; rfl
  have q5 : (x.op == 5) = true := by rw [hop]; rfl
  unfold NAct.agg
  clear hPOST hw2 hgb hbx hZ d hx hop
  go_enter Try.func25, Try.ntmps25
  go_wp2_with fail
  rw [← HW2.out, ← HGb.out]
  refine wp_region_held_drew (S := Bx) (by kernel_rfl) ((HBx.out.drew _ (HBx.out.box _ _ _ _ _ HBx.out.d))) (fun hHeld => ?_)
  refine held_take 0 (v := ?_) rfl (by kernel_rfl) (by kernel_rfl) (by kernel_rfl) (fun _ _ _ h => h) (by rfl) (fun w hS => ?_) (by assumption) ?_
  rotate_left
  · try dsimp only at hS
    have l1 := k1 w hS
    have l2 := k2 w hS
    have l6 := k6 w hS
    have l7 := k7 w hS
    go_simp <;> with_reducible rfl
  try simp only [Act.put, List.setIfInBounds_toArray, List.set_cons_zero, List.set_cons_succ]
  refine held_take 1 (v := ?_) rfl (by kernel_rfl) (by kernel_rfl) (by kernel_rfl) (fun _ _ _ h => h) (by rfl) (fun w hS => ?_) (by assumption) ?_
  rotate_left
  · try dsimp only at hS
    have l1 := k1 w hS
    have l2 := k2 w hS
    have l6 := k6 w hS
    have l7 := k7 w hS
    go_simp <;> with_reducible rfl
  try simp only [Act.put, List.setIfInBounds_toArray, List.set_cons_zero, List.set_cons_succ]
  refine held_take 2 (v := ?_) rfl (by kernel_rfl) (by kernel_rfl) (by kernel_rfl) (fun _ _ _ h => h) (by rfl) (fun w hS => ?_) (by assumption) ?_
  rotate_left
  · try dsimp only at hS
    have l1 := k1 w hS
    have l2 := k2 w hS
    have l6 := k6 w hS
    have l7 := k7 w hS
    go_simp <;> with_reducible rfl
  try simp only [Act.put, List.setIfInBounds_toArray, List.set_cons_zero, List.set_cons_succ]
  refine held_take 3 (v := ?_) rfl (by kernel_rfl) (by kernel_rfl) (by kernel_rfl) (fun _ _ _ h => h) (by rfl) (fun w hS => ?_) (by assumption) ?_
  rotate_left
  · try dsimp only at hS
    have l1 := k1 w hS
    have l2 := k2 w hS
    have l6 := k6 w hS
    have l7 := k7 w hS
    go_simp <;> with_reducible rfl
  try simp only [Act.put, List.setIfInBounds_toArray, List.set_cons_zero, List.set_cons_succ]
  refine held_take 4 (v := ?_) rfl (by kernel_rfl) (by kernel_rfl) (by kernel_rfl) (fun _ _ _ h => h) (by rfl) (fun w hS => ?_) (by assumption) ?_
  rotate_left
  · try dsimp only at hS
    have l1 := k1 w hS
    have l2 := k2 w hS
    have l6 := k6 w hS
    have l7 := k7 w hS
    go_simp <;> with_reducible rfl
  try simp only [Act.put, List.setIfInBounds_toArray, List.set_cons_zero, List.set_cons_succ]
  refine held_take 5 (v := ?_) rfl (by kernel_rfl) (by kernel_rfl) (by kernel_rfl) (fun _ _ _ h => h) (by rfl) (fun w hS => ?_) (by assumption) ?_
  rotate_left
  · try dsimp only at hS
    have l1 := k1 w hS
    have l2 := k2 w hS
    have l6 := k6 w hS
    have l7 := k7 w hS
    go_simp <;> with_reducible rfl
  try simp only [Act.put, List.setIfInBounds_toArray, List.set_cons_zero, List.set_cons_succ]
  refine held_take 6 (v := ?_) rfl (by kernel_rfl) (by kernel_rfl) (by kernel_rfl) (fun _ _ _ h => h) (by rfl) (fun w hS => ?_) (by assumption) ?_
  rotate_left
  · try dsimp only at hS
    have l1 := k1 w hS
    have l2 := k2 w hS
    have l6 := k6 w hS
    have l7 := k7 w hS
    go_simp <;> with_reducible rfl
  try simp only [Act.put, List.setIfInBounds_toArray, List.set_cons_zero, List.set_cons_succ]
  refine held_take 8 (v := ?_) rfl (by kernel_rfl) (by kernel_rfl) (by kernel_rfl) (fun _ _ _ h => h) (by rfl) (fun w hS => ?_) (by assumption) ?_
  rotate_left
  · try dsimp only at hS
    have l1 := k1 w hS
    have l2 := k2 w hS
    have l6 := k6 w hS
    have l7 := k7 w hS
    go_simp <;> with_reducible rfl
  try simp only [Act.put, List.setIfInBounds_toArray, List.set_cons_zero, List.set_cons_succ]
  refine held_take 9 (v := ?_) rfl (by kernel_rfl) (by kernel_rfl) (by kernel_rfl) (fun _ _ _ h => h) (by rfl) (fun w hS => ?_) (by assumption) ?_
  rotate_left
  · try dsimp only at hS
    have l1 := k1 w hS
    have l2 := k2 w hS
    have l6 := k6 w hS
    have l7 := k7 w hS
    go_simp <;> with_reducible rfl
  try simp only [Act.put, List.setIfInBounds_toArray, List.set_cons_zero, List.set_cons_succ]
  refine held_take 10 (v := ?_) rfl (by kernel_rfl) (by kernel_rfl) (by kernel_rfl) (fun _ _ _ h => h) (by rfl) (fun w hS => ?_) (by assumption) ?_
  rotate_left
  · try dsimp only at hS
    have l1 := k1 w hS
    have l2 := k2 w hS
    have l6 := k6 w hS
    have l7 := k7 w hS
    go_simp <;> with_reducible rfl
  try simp only [Act.put, List.setIfInBounds_toArray, List.set_cons_zero, List.set_cons_succ]
  refine held_take 11 (v := ?_) rfl (by kernel_rfl) (by kernel_rfl) (by kernel_rfl) (fun _ _ _ h => h) (by rfl) (fun w hS => ?_) (by assumption) ?_
  rotate_left
  · try dsimp only at hS
    have l1 := k1 w hS
    have l2 := k2 w hS
    have l6 := k6 w hS
    have l7 := k7 w hS
    go_simp <;> with_reducible rfl
  try simp only [Act.put, List.setIfInBounds_toArray, List.set_cons_zero, List.set_cons_succ]
  refine held_take 12 (v := ?_) rfl (by kernel_rfl) (by kernel_rfl) (by kernel_rfl) (fun _ _ _ h => h) (by rfl) (fun w hS => ?_) (by assumption) ?_
  rotate_left
  · try dsimp only at hS
    have l1 := k1 w hS
    have l2 := k2 w hS
    have l6 := k6 w hS
    have l7 := k7 w hS
    go_simp <;> with_reducible rfl
  try simp only [Act.put, List.setIfInBounds_toArray, List.set_cons_zero, List.set_cons_succ]
  refine held_take 13 (v := ?_) rfl (by kernel_rfl) (by kernel_rfl) (by kernel_rfl) (fun _ _ _ h => h) (by rfl) (fun w hS => ?_) (by assumption) ?_
  rotate_left
  · try dsimp only at hS
    have l1 := k1 w hS
    have l2 := k2 w hS
    have l6 := k6 w hS
    have l7 := k7 w hS
    go_simp <;> with_reducible rfl
  try simp only [Act.put, List.setIfInBounds_toArray, List.set_cons_zero, List.set_cons_succ]
  refine held_take 14 (v := ?_) rfl (by kernel_rfl) (by kernel_rfl) (by kernel_rfl) (fun _ _ _ h => h) (by rfl) (fun w hS => ?_) (by assumption) ?_
  rotate_left
  · try dsimp only at hS
    have l1 := k1 w hS
    have l2 := k2 w hS
    have l6 := k6 w hS
    have l7 := k7 w hS
    go_simp <;> with_reducible rfl
  try simp only [Act.put, List.setIfInBounds_toArray, List.set_cons_zero, List.set_cons_succ]
  refine held_one 7 rfl (by kernel_rfl) (fun K hK => ?_)
  go_simp
  refine Calls.mono (duo_flip (HBx.out.d.below (Below.refl _ _).drew) x.blk x.page x.n) ?_
  rintro e w3 ⟨rfl, hA1⟩
  have HA1 := Lib.hid hA1
  clear hA1
  refine hK.out _ _ Bx (fun _ h => h) (HBx.out.box _ _ _ _ _ HA1.out) (fun hHeld => ?_)
  clear hK K
  try simp only [Act.put, List.setIfInBounds_toArray, List.set_cons_zero, List.set_cons_succ]
  refine held_one 15 rfl (by kernel_rfl) (fun K hK => ?_)
  go_simp
  refine Calls.mono (duo_rflip HA1.out x.blk x.page x.n) ?_
  rintro e w4 ⟨rfl, hA2⟩
  have HA2 := Lib.hid hA2
  clear hA2
  refine hK.out _ _ Bx (fun _ h => h) (HBx.out.box _ _ _ _ _ HA2.out) (fun hHeld => ?_)
  clear hK K
  try simp only [Act.put, List.setIfInBounds_toArray, List.set_cons_zero, List.set_cons_succ]
  refine held_take 16 (v := ?_) rfl (by kernel_rfl) (by kernel_rfl) (by kernel_rfl) (fun _ _ _ h => h) (by rfl) (fun w hS => ?_) (by assumption) ?_
  rotate_left
  · try dsimp only at hS
    have l1 := k1 w hS
    have l2 := k2 w hS
    have l6 := k6 w hS
    have l7 := k7 w hS
    go_simp <;> with_reducible rfl
  try simp only [Act.put, List.setIfInBounds_toArray, List.set_cons_zero, List.set_cons_succ]
  refine held_take 17 (v := ?_) rfl (by kernel_rfl) (by kernel_rfl) (by kernel_rfl) (fun _ _ _ h => h) (by rfl) (fun w hS => ?_) (by assumption) ?_
  rotate_left
  · try dsimp only at hS
    have l1 := k1 w hS
    have l2 := k2 w hS
    have l6 := k6 w hS
    have l7 := k7 w hS
    go_simp <;> with_reducible rfl
  try simp only [Act.put, List.setIfInBounds_toArray, List.set_cons_zero, List.set_cons_succ]
  refine held_done (by kernel_rfl) ?_
  go_wp2_with fail

  rw [HPOST.out]
  exact ⟨rfl, _, by rw [← HZ.out]; exact HBx.out.back _ _ _ _ HA2.out, NF.sh_flip _ _ _ _⟩
set_option maxRecDepth 100000 in
set_option maxHeartbeats 4000000 in
theorem lstep_arm (x : NAct) {Sn Sr : Zone} {g h : Nat} {F : NF} (w : World) (d : Duo Sn Sr w g h F F) (hx : x.wf w) (hop : x.op = 6) :
    Calls Try.prog 25 #[.pointer (some ⟨g, 0, none⟩), .pointer (some ⟨h, 0, none⟩), x.agg] w (StepR Sn Sr w g h F) := by
  obtain ⟨POST, hPOST⟩ : ∃ Q, Q = StepR Sn Sr w g h F := ⟨_, rfl⟩
  rw [← hPOST]
  have HPOST := Lib.hid hPOST
  obtain ⟨w2, gb, Bx, hw2, hgb, hbx, -, k0, k1, k2, k3, k4, k5, k6, k7⟩ := boxed d x
  obtain ⟨Z, hZ⟩ : ∃ Z : Zone, Z = fun k => Sn k ∨ Sr k := ⟨_, rfl⟩
  rw [← hZ] at hbx
  have HZ := Lib.hid hZ
  have HW2 := Lib.hid hw2
  have HGb := Lib.hid hgb
  have HBx := Lib.hid hbx
  have hn64 : x.n ≤ 9223372036854775807 := hx.2.2.2.2.1.2
  have q1 : (x.op == 1) = false := by rw [hop]; rfl
  have q2 : (x.op == 2) = false := by rw [hop]; rfl
  have q3 : (x.op == 3) = false := by rw [hop]; rfl
  have q4 : (x.op == 4) = false := by rw [hop]; rfl
  have q5 : (x.op == 5) = false := by rw [hop]; rfl
  have q6 : (x.op == 6) = true := by rw [hop]; rfl
  unfold NAct.agg
  clear hPOST hw2 hgb hbx hZ d hx hop
  go_enter Try.func25, Try.ntmps25
  go_wp2_with fail
  rw [← HW2.out, ← HGb.out]
  refine wp_region_held_drew (S := Bx) (by kernel_rfl) ((HBx.out.drew _ (HBx.out.box _ _ _ _ _ HBx.out.d))) (fun hHeld => ?_)
  refine held_take 0 (v := ?_) rfl (by kernel_rfl) (by kernel_rfl) (by kernel_rfl) (fun _ _ _ h => h) (by rfl) (fun w hS => ?_) (by assumption) ?_
  rotate_left
  · try dsimp only at hS
    have l7 := k7 w hS
    go_simp <;> with_reducible rfl
  try simp only [Act.put, List.setIfInBounds_toArray, List.set_cons_zero, List.set_cons_succ]
  refine held_take 1 (v := ?_) rfl (by kernel_rfl) (by kernel_rfl) (by kernel_rfl) (fun _ _ _ h => h) (by rfl) (fun w hS => ?_) (by assumption) ?_
  rotate_left
  · try dsimp only at hS
    have l7 := k7 w hS
    go_simp <;> with_reducible rfl
  try simp only [Act.put, List.setIfInBounds_toArray, List.set_cons_zero, List.set_cons_succ]
  refine held_take 2 (v := ?_) rfl (by kernel_rfl) (by kernel_rfl) (by kernel_rfl) (fun _ _ _ h => h) (by rfl) (fun w hS => ?_) (by assumption) ?_
  rotate_left
  · try dsimp only at hS
    have l7 := k7 w hS
    go_simp <;> with_reducible rfl
  try simp only [Act.put, List.setIfInBounds_toArray, List.set_cons_zero, List.set_cons_succ]
  refine held_take 3 (v := ?_) rfl (by kernel_rfl) (by kernel_rfl) (by kernel_rfl) (fun _ _ _ h => h) (by rfl) (fun w hS => ?_) (by assumption) ?_
  rotate_left
  · try dsimp only at hS
    have l7 := k7 w hS
    go_simp <;> with_reducible rfl
  try simp only [Act.put, List.setIfInBounds_toArray, List.set_cons_zero, List.set_cons_succ]
  refine held_take 4 (v := ?_) rfl (by kernel_rfl) (by kernel_rfl) (by kernel_rfl) (fun _ _ _ h => h) (by rfl) (fun w hS => ?_) (by assumption) ?_
  rotate_left
  · try dsimp only at hS
    have l7 := k7 w hS
    go_simp <;> with_reducible rfl
  try simp only [Act.put, List.setIfInBounds_toArray, List.set_cons_zero, List.set_cons_succ]
  refine held_one 5 rfl (by kernel_rfl) (fun K hK => ?_)
  go_simp
  refine Calls.mono (duo_arm (HBx.out.d.below (Below.refl _ _).drew) x.n hn64) ?_
  rintro e w3 ⟨rfl, hA1⟩
  have HA1 := Lib.hid hA1
  clear hA1
  refine hK.out _ _ Bx (fun _ h => h) (HBx.out.box _ _ _ _ _ HA1.out) (fun hHeld => ?_)
  clear hK K
  try simp only [Act.put, List.setIfInBounds_toArray, List.set_cons_zero, List.set_cons_succ]
  refine held_done (by kernel_rfl) ?_
  have l7 := k7 w3 (HBx.out.box _ _ _ _ _ HA1.out)
  go_wp2_with fail
  refine (duo_rarm HA1.out x.n hn64).mono ?_
  rintro e w4 ⟨rfl, hA2⟩
  have HA2 := Lib.hid hA2
  clear hA2
  go_wp2_with fail

  rw [HPOST.out]
  exact ⟨rfl, F.arm x.n, by rw [← HZ.out]; exact HBx.out.back _ _ _ _ HA2.out, rfl⟩
set_option maxRecDepth 100000 in
set_option maxHeartbeats 4000000 in
theorem lstep_cut (x : NAct) {Sn Sr : Zone} {g h : Nat} {F : NF} (w : World) (d : Duo Sn Sr w g h F F) (hx : x.wf w) (hop : x.op = 7) :
    Calls Try.prog 25 #[.pointer (some ⟨g, 0, none⟩), .pointer (some ⟨h, 0, none⟩), x.agg] w (StepR Sn Sr w g h F) := by
  obtain ⟨POST, hPOST⟩ : ∃ Q, Q = StepR Sn Sr w g h F := ⟨_, rfl⟩
  rw [← hPOST]
  have HPOST := Lib.hid hPOST
  obtain ⟨w2, gb, Bx, hw2, hgb, hbx, -, k0, k1, k2, k3, k4, k5, k6, k7⟩ := boxed d x
  obtain ⟨Z, hZ⟩ : ∃ Z : Zone, Z = fun k => Sn k ∨ Sr k := ⟨_, rfl⟩
  rw [← hZ] at hbx
  have HZ := Lib.hid hZ
  have HW2 := Lib.hid hw2
  have HGb := Lib.hid hgb
  have HBx := Lib.hid hbx
  have hn64 : x.n ≤ 9223372036854775807 := hx.2.2.2.2.1.2
  have q1 : (x.op == 1) = false := by rw [hop]; rfl
  have q2 : (x.op == 2) = false := by rw [hop]; rfl
  have q3 : (x.op == 3) = false := by rw [hop]; rfl
  have q4 : (x.op == 4) = false := by rw [hop]; rfl
  have q5 : (x.op == 5) = false := by rw [hop]; rfl
  have q6 : (x.op == 6) = false := by rw [hop]; rfl
  have q7 : (x.op == 7) = true := by rw [hop]; rfl
  unfold NAct.agg
  clear hPOST hw2 hgb hbx hZ d hx hop
  go_enter Try.func25, Try.ntmps25
  go_wp2_with fail
  rw [← HW2.out]
  refine (duo_cut HBx.out.d).mono ?_
  rintro e w3 ⟨rfl, hA1⟩
  have HA1 := Lib.hid hA1
  clear hA1
  go_wp2_with fail
  refine (duo_rcut HA1.out).mono ?_
  rintro e w4 ⟨rfl, hA2⟩
  have HA2 := Lib.hid hA2
  clear hA2
  go_wp2_with fail

  rw [HPOST.out]
  exact ⟨rfl, F.cut, by rw [← HZ.out]; exact HBx.out.back _ _ _ _ HA2.out, rfl⟩
set_option maxRecDepth 100000 in
set_option maxHeartbeats 4000000 in
theorem lstep_on (x : NAct) {Sn Sr : Zone} {g h : Nat} {F : NF} (w : World) (d : Duo Sn Sr w g h F F) (hx : x.wf w) (hop : x.op = 8) :
    Calls Try.prog 25 #[.pointer (some ⟨g, 0, none⟩), .pointer (some ⟨h, 0, none⟩), x.agg] w (StepR Sn Sr w g h F) := by
  obtain ⟨POST, hPOST⟩ : ∃ Q, Q = StepR Sn Sr w g h F := ⟨_, rfl⟩
  rw [← hPOST]
  have HPOST := Lib.hid hPOST
  obtain ⟨w2, gb, Bx, hw2, hgb, hbx, -, k0, k1, k2, k3, k4, k5, k6, k7⟩ := boxed d x
  obtain ⟨Z, hZ⟩ : ∃ Z : Zone, Z = fun k => Sn k ∨ Sr k := ⟨_, rfl⟩
  rw [← hZ] at hbx
  have HZ := Lib.hid hZ
  have HW2 := Lib.hid hw2
  have HGb := Lib.hid hgb
  have HBx := Lib.hid hbx
  have hn64 : x.n ≤ 9223372036854775807 := hx.2.2.2.2.1.2
  have q1 : (x.op == 1) = false := by rw [hop]; rfl
  have q2 : (x.op == 2) = false := by rw [hop]; rfl
  have q3 : (x.op == 3) = false := by rw [hop]; rfl
  have q4 : (x.op == 4) = false := by rw [hop]; rfl
  have q5 : (x.op == 5) = false := by rw [hop]; rfl
  have q6 : (x.op == 6) = false := by rw [hop]; rfl
  have q7 : (x.op == 7) = false := by rw [hop]; rfl
  have q8 : (x.op == 8) = true := by rw [hop]; rfl
  unfold NAct.agg
  clear hPOST hw2 hgb hbx hZ d hx hop
  go_enter Try.func25, Try.ntmps25
  go_wp2_with fail
  rw [← HW2.out]
  refine (duo_on HBx.out.d).mono ?_
  rintro e w3 ⟨rfl, hA1⟩
  obtain ⟨c3, f3, hA2⟩ := duo_ron hA1
  have HA2 := Lib.hid hA2
  clear hA1 hA2
  go_wp2_with fail

  rw [HPOST.out]
  exact ⟨rfl, F.on, by rw [← HZ.out]; exact HBx.out.back _ _ _ _ HA2.out, rfl⟩
set_option maxRecDepth 100000 in
set_option maxHeartbeats 4000000 in
theorem lstep_none (x : NAct) {Sn Sr : Zone} {g h : Nat} {F : NF} (w : World) (d : Duo Sn Sr w g h F F) (hx : x.wf w) (hop : ∀ i : Int, 1 ≤ i → i ≤ 8 → ¬ x.op = i) :
    Calls Try.prog 25 #[.pointer (some ⟨g, 0, none⟩), .pointer (some ⟨h, 0, none⟩), x.agg] w (StepR Sn Sr w g h F) := by
  obtain ⟨POST, hPOST⟩ : ∃ Q, Q = StepR Sn Sr w g h F := ⟨_, rfl⟩
  rw [← hPOST]
  have HPOST := Lib.hid hPOST
  obtain ⟨w2, gb, Bx, hw2, hgb, hbx, -, k0, k1, k2, k3, k4, k5, k6, k7⟩ := boxed d x
  obtain ⟨Z, hZ⟩ : ∃ Z : Zone, Z = fun k => Sn k ∨ Sr k := ⟨_, rfl⟩
  rw [← hZ] at hbx
  have HZ := Lib.hid hZ
  have HW2 := Lib.hid hw2
  have HGb := Lib.hid hgb
  have HBx := Lib.hid hbx
  have hn64 : x.n ≤ 9223372036854775807 := hx.2.2.2.2.1.2
  have q1 : (x.op == 1) = false := by simpa using hop 1 (by omega) (by omega)
  have q2 : (x.op == 2) = false := by simpa using hop 2 (by omega) (by omega)
  have q3 : (x.op == 3) = false := by simpa using hop 3 (by omega) (by omega)
  have q4 : (x.op == 4) = false := by simpa using hop 4 (by omega) (by omega)
  have q5 : (x.op == 5) = false := by simpa using hop 5 (by omega) (by omega)
  have q6 : (x.op == 6) = false := by simpa using hop 6 (by omega) (by omega)
  have q7 : (x.op == 7) = false := by simpa using hop 7 (by omega) (by omega)
  have q8 : (x.op == 8) = false := by simpa using hop 8 (by omega) (by omega)
  unfold NAct.agg
  clear hPOST hw2 hgb hbx hZ d hx hop
  go_enter Try.func25, Try.ntmps25
  go_wp2_with fail

  rw [HPOST.out, ← HW2.out]
  exact ⟨rfl, _, by rw [← HZ.out]; exact HBx.out.back _ _ _ _ HBx.out.d, rfl⟩
end Go.Proofs.Ytbbhniohliklhaa
