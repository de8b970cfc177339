/- rpa: Done: the walks, a theorem for each branch. -/
import Derived.Test.YtkdjimcpdbpemaaRpaJ
import Derived.BigRegion
namespace Go.Proofs.Ytkdjimcpdbpemaa
open Go Go.RowKit
set_option linter.unusedVariables false

/-- 'copy' into the middle of a block. -/
theorem step_copy_mid {P : Program} {ops : Array Oper} {o : Oper} {a : Act} {w : World} {K : Act → World → Prop} {Q : Exit → Act → World → Prop} {E : Prop} (hgd : o.guard = none) (d s : Operand) (dT sT : TypeId)
    (ho : o.op = .call { callee := .builtin .copy, args := #[d, s], argTypes := #[dT, sT] }) (elem : TypeId) (hu : P.underlying dT = some (.slice elem)) (hsz : (P.info? elem).map (·.size) = some 1)
    (ad : Addr) (dLen dCap sLen sCap g off : Nat) (hd : a.eval d = .slice (some ⟨g, off, none⟩) dLen dCap) (hs : a.eval s = .slice (some ad) sLen sCap)
    (cs : List Value) (hn : cs.length = Nat.min sLen dLen) (hsrc : ∀ j v, cs[j]? = some v → w.cell? (ad.add j) = some v) (hth : w.there g off cs.length) (h1 : ∀ v ∈ cs, v.oneCell' = true)
    (h : K (a.put o.dst (goInt cs.length)) (w.setCells g off cs)) :
    if Region.wanted o (yielded ops a.tmps) = true then Oper.wp P o a w K Q else E := by
  have hw : Region.wanted o (yielded ops a.tmps) = true := by simp [Region.wanted, hgd]
  rw [if_pos hw]
  have hrun := run_copy_cells (P := P) w dT sT o.type elem g off dLen dCap ad sLen sCap cs hu hsz hn hsrc (fun j hj => (hth j hj).1) (fun j hj => (hth j hj).2) h1
  unfold Oper.wp
  simp [execOp, ho, resolve, invoke, builtin, hd, hs, hrun, Result.andThen]
  exact h

/-- The area and Done's box. -/
structure DonS (w0 : World) (g gp : Nat) (p : RP) (A : RA) (w : World) : Prop where
  area : AreaAt w g A
  ok : A.Ok
  box : HasB w gp p.cells.toArray 43
  gb : w0.grownBy w (some g)
  l0 : g < w0.heap.size
  l1 : w0.heap.size ≤ gp
theorem DonS.below {w0 w w' : World} {g gp : Nat} {p : RP} {A : RA} (h : DonS w0 g gp p A w) (hb : Below w.heap.size w w') : DonS w0 g gp p A w' :=
  ⟨h.area.below hb, h.ok, h.box.below hb h.box.lt, gb_trans h.gb (gb_below hb), h.l0, h.l1⟩
theorem DonS.put {w0 w w' : World} {g gp : Nat} {p : RP} {A A' : RA} (h : DonS w0 g gp p A w) (ha : AreaAt w' g A') (hok : A'.Ok) (hg : w.grownBy w' (some g)) : DonS w0 g gp p A' w' := by
  have h1 := h.l0
  have h2 := h.l1
  exact ⟨ha, hok, h.box.kept hg (by intro e; have := Option.some.inj e; omega), gb_trans h.gb hg, h.l0, h.l1⟩
theorem DonS.putStep {w0 w : World} {g gp : Nat} {p : RP} {A : RA} (h : DonS w0 g gp p A w) {q : RP} (hq : q.Ok) : DonS w0 g gp p { A with step := q } (w.setCells g 37 q.cells) :=
  h.put (h.area.putStep h.ok hq) ⟨h.ok.pb, h.ok.s, h.ok.now, h.ok.last, hq⟩ (gb_cells _ _ (gb_refl _ _))
theorem DonS.putNow {w0 w : World} {g gp : Nat} {p : RP} {A : RA} (h : DonS w0 g gp p A w) (n : RN) (hn : n.Ok) : DonS w0 g gp p { A with now := n } (w.setCell ⟨g, 35, none⟩ n.val) :=
  h.put (h.area.putNow h.ok n) ⟨h.ok.pb, h.ok.s, hn, h.ok.last, h.ok.step⟩ (gb_set (gb_refl _ _) _ _)
theorem DonS.putLast {w0 w : World} {g gp : Nat} {p : RP} {A : RA} (h : DonS w0 g gp p A w) (n : RN) (hn : n.Ok) : DonS w0 g gp p { A with last := n } (w.setCell ⟨g, 36, none⟩ n.val) :=
  h.put (h.area.putLast h.ok n) ⟨h.ok.pb, h.ok.s, h.ok.now, hn, h.ok.step⟩ (gb_set (gb_refl _ _) _ _)
theorem DonS.putKey {w0 w : World} {g gp : Nat} {p : RP} {A : RA} (h : DonS w0 g gp p A w) (k : List Nat) (hk : k.length = 32) (hb : ∀ c ∈ k, c < 256) : DonS w0 g gp p { A with s := { A.s with key := k } } (w.setCells g 1 (u8s k)) :=
  h.put (h.area.putKey h.ok k hk) ⟨h.ok.pb, ⟨hk, hb, h.ok.s.cb⟩, h.ok.now, h.ok.last, h.ok.step⟩ (gb_cells _ _ (gb_refl _ _))
theorem DonS.putHas {w0 w : World} {g gp : Nat} {p : RP} {A : RA} (h : DonS w0 g gp p A w) (b : Bool) : DonS w0 g gp p { A with s := { A.s with has := b } } (w.setCell ⟨g, 33, none⟩ (.bool b)) :=
  h.put (h.area.putHas h.ok b) ⟨h.ok.pb, ⟨h.ok.s.kl, h.ok.s.kb, h.ok.s.cb⟩, h.ok.now, h.ok.last, h.ok.step⟩ (gb_set (gb_refl _ _) _ _)
theorem DonS.putCtr {w0 w : World} {g gp : Nat} {p : RP} {A : RA} (h : DonS w0 g gp p A w) (c : Nat) (hc : c < 4294967296) : DonS w0 g gp p { A with s := { A.s with ctr := c } } (w.setCell ⟨g, 34, none⟩ (.int .u32 (c : Int))) :=
  h.put (h.area.putCtr h.ok c) ⟨h.ok.pb, ⟨h.ok.s.kl, h.ok.s.kb, hc⟩, h.ok.now, h.ok.last, h.ok.step⟩ (gb_set (gb_refl _ _) _ _)
theorem DonS.far {w0 w : World} {g gp : Nat} {p : RP} {A : RA} (h : DonS w0 g gp p A w) {gx : Nat} (hx : gp < gx) (i : Nat) (v : Value) : DonS w0 g gp p A (w.setCell ⟨gx, i, none⟩ v) := by
  have h1 := h.l0
  have h2 := h.l1
  have hb : Below gx w (w.setCell ⟨gx, i, none⟩ v) := (Below.refl _ _).setCell (p := ⟨gx, i, none⟩) (Nat.le_refl _) _
  exact ⟨HasB.below h.area hb (by omega), h.ok, HasB.below h.box hb hx, ⟨hb.os.trans h.gb.os, hb.tape.trans h.gb.tape, hb.output.trans h.gb.output, Nat.le_trans h.gb.size hb.size, fun k hk hn => (hb.block k (by omega)).trans (h.gb.block k hk hn)⟩, h.l0, h.l1⟩
theorem DonS.start {w : World} {g : Nat} {p : RP} {A : RA} (h : AreaAt w g A) (hA : A.Ok) : DonS w g w.heap.size p A (w.alloc (.cells p.cells.toArray 43)) :=
  ⟨h.below ((Below.refl _ _).alloc (Nat.le_refl _) _), hA, HasB.new w _ _, gb_alloc (gb_refl _ _) _, h.lt, Nat.le_refl _⟩
/-- What Done says. -/
def DoneQ (w0 : World) (g : Nat) (A' : RA) : Ending → World → Prop := fun e w' => e = .returned (.tuple #[]) ∧ AreaAt w' g A' ∧ w0.grownBy w' (some g)
set_option maxRecDepth 100000 in
set_option maxHeartbeats 4000000 in
theorem done_other (A : RA) (p : RP) (g : Nat) (w : World) (h : AreaAt w g A) (hA : A.Ok) (hp : p.Ok) (ok : Bool) (hne : p ≠ A.step) :
    Calls Try.prog 15 #[.pointer (some ⟨g, 0, none⟩), p.val, .bool ok] w (DoneQ w g A) := by
  obtain ⟨POST, hPOST⟩ : ∃ Q : Ending → World → Prop, Q = DoneQ w g A := ⟨_, rfl⟩
  rw [← hPOST]
  have HPOST := Lib.hid hPOST
  have HP := Lib.hid hp
  have HS := Lib.hid (DonS.start (p := p) h hA)
  have he1 := eqStep p A.step hp hA.step
  have he2 := eqStep p RP.zero hp RP.zero_ok
  unfold RP.val
  obtain ⟨C, hC⟩ : ∃ C, C = p.cells.toArray := ⟨_, rfl⟩
  obtain ⟨QL, hQ⟩ : ∃ QL, QL = A.step.cells := ⟨_, rfl⟩
  have HC := Lib.hid hC
  rw [show RP.zero.cells.toArray = zP from rfl, ← hC] at he2
  rw [← hC, ← hQ] at he1
  rw [← hC] at HS ⊢
  have HIp : Hid ((Try.prog.info? 43).map (·.size) = some C.size) := Lib.hid (by rw [hC, List.size_toArray, RP.len hp]; exact info_sp)
  have HIq : Hid ((Try.prog.info? 43).map (·.size) = some QL.length) := Lib.hid (by rw [hQ, RP.len hA.step]; exact info_sp)
  have HIz : Hid ((Try.prog.info? 43).map (·.size) = some zP.size) := Lib.hid info_sp
  have HR : Hid ((w.alloc (.cells C 43)).rangeAt g 37 QL) := Lib.hid (by rw [hQ]; exact HS.out.area.step hA)
  have HB : Hid ((w.alloc (.cells C 43)).heap[w.heap.size]? = some (.cells C 43 (0, 0))) := Lib.hid (HasB.new w _ _)
  simp only [decide_eq_false hne] at he1
  clear hne
  clear hC hQ hPOST h hA hp
  go_enter Try.func15, Try.ntmps15
  go_wp2_with fail
  generalize w.alloc (.cells C 43) = w1 at HS HR HB ⊢
  obtain ⟨gp, hgp⟩ : ∃ gp, gp = w.heap.size := ⟨_, rfl⟩
  rw [← hgp] at HS HB ⊢
  clear hgp
  refine wp_region_held_drew (S := (fun w' => w' = w1.drew)) (by kernel_rfl) (rfl) (fun hHeld => ?_)
  refine held_take 0 (v := (.agg C)) rfl (by kernel_rfl) (by kernel_rfl) (by kernel_rfl) (fun _ _ _ h => h) (by rfl) (fun w hS => ?_) (by assumption) ?_
  · (rw [hS]; exact yield_row _ _ 43 (.tmp 4) (by rfl) gp (by rfl) 43 C (0, 0) _ HB.out Try.underlying43 (by rfl) HIp.out)
  try simp only [Act.put, List.setIfInBounds_toArray, List.set_cons_zero, List.set_cons_succ]
  refine held_take 1 (v := ?_) rfl (by kernel_rfl) (by kernel_rfl) (by kernel_rfl) (fun _ _ _ h => h) (by rfl) (fun w hS => ?_) (by assumption) ?_
  rotate_left
  · try dsimp only at hS
    go_simp <;> with_reducible rfl
  try simp only [Act.put, List.setIfInBounds_toArray, List.set_cons_zero, List.set_cons_succ]
  refine held_take 2 (v := ?_) rfl (by kernel_rfl) (by kernel_rfl) (by kernel_rfl) (fun _ _ _ h => h) (by rfl) (fun w hS => ?_) (by assumption) ?_
  rotate_left
  · try dsimp only at hS
    go_simp <;> with_reducible rfl
  try simp only [Act.put, List.setIfInBounds_toArray, List.set_cons_zero, List.set_cons_succ]
  refine held_take 3 (v := ?_) rfl (by kernel_rfl) (by kernel_rfl) (by kernel_rfl) (fun _ _ _ h => h) (by rfl) (fun w hS => ?_) (by assumption) ?_
  rotate_left
  · try dsimp only at hS
    go_simp <;> with_reducible rfl
  try simp only [Act.put, List.setIfInBounds_toArray, List.set_cons_zero, List.set_cons_succ]
  refine held_take 4 (v := (.agg QL.toArray)) rfl (by kernel_rfl) (by kernel_rfl) (by kernel_rfl) (fun _ _ _ h => h) (by rfl) (fun w hS => ?_) (by assumption) ?_
  · (rw [hS]; exact yield_load_mid _ _ 43 (.tmp 12) (by rfl) g 37 (by rfl) QL _ HR.out Try.underlying43 (by rfl) HIq.out)
  try simp only [Act.put, List.setIfInBounds_toArray, List.set_cons_zero, List.set_cons_succ]
  refine held_take 5 (v := ?_) rfl (by kernel_rfl) (by kernel_rfl) (by kernel_rfl) (fun _ _ _ h => h) (by rfl) (fun w hS => ?_) (by assumption) ?_
  rotate_left
  · try dsimp only at hS
    go_simp <;> with_reducible rfl
  try simp only [Act.put, List.setIfInBounds_toArray, List.set_cons_zero, List.set_cons_succ]
  refine held_take 6 (v := ?_) rfl (by kernel_rfl) (by kernel_rfl) (by kernel_rfl) (fun _ _ _ h => h) (by rfl) (fun w hS => ?_) (by assumption) ?_
  rotate_left
  · try dsimp only at hS
    go_simp <;> with_reducible rfl
  try simp only [Act.put, List.setIfInBounds_toArray, List.set_cons_zero, List.set_cons_succ]
  refine held_skip 7 rfl (by kernel_rfl) (by kernel_rfl) (by kernel_rfl) (fun _ _ _ h => h) (by rfl) (by assumption) ?_
  try simp only [Act.put, List.setIfInBounds_toArray, List.set_cons_zero, List.set_cons_succ]
  refine held_skip 8 rfl (by kernel_rfl) (by kernel_rfl) (by kernel_rfl) (fun _ _ _ h => h) (by rfl) (by assumption) ?_
  try simp only [Act.put, List.setIfInBounds_toArray, List.set_cons_zero, List.set_cons_succ]
  refine held_skip 9 rfl (by kernel_rfl) (by kernel_rfl) (by kernel_rfl) (fun _ _ _ h => h) (by rfl) (by assumption) ?_
  try simp only [Act.put, List.setIfInBounds_toArray, List.set_cons_zero, List.set_cons_succ]
  refine held_take 10 (v := ?_) rfl (by kernel_rfl) (by kernel_rfl) (by kernel_rfl) (fun _ _ _ h => h) (by rfl) (fun w hS => ?_) (by assumption) ?_
  rotate_left
  · try dsimp only at hS
    go_simp <;> with_reducible rfl
  try simp only [Act.put, List.setIfInBounds_toArray, List.set_cons_zero, List.set_cons_succ]
  refine held_done (by kernel_rfl) ?_
  go_wp2_with fail
  refine bodyPost_ret (results_none (by kernel_rfl) _ _ _) rfl ?_
  rw [HPOST.out]
  exact ⟨rfl, HS.out.area, gb_drew HS.out.gb⟩

set_option maxRecDepth 100000 in
set_option maxHeartbeats 4000000 in
theorem done_none (A : RA) (p : RP) (g : Nat) (w : World) (h : AreaAt w g A) (hA : A.Ok) (hp : p.Ok) (ok : Bool) (heq : p = A.step) (hz : p = RP.zero) :
    Calls Try.prog 15 #[.pointer (some ⟨g, 0, none⟩), p.val, .bool ok] w (DoneQ w g A) := by
  obtain ⟨POST, hPOST⟩ : ∃ Q : Ending → World → Prop, Q = DoneQ w g A := ⟨_, rfl⟩
  rw [← hPOST]
  have HPOST := Lib.hid hPOST
  have HP := Lib.hid hp
  have HS := Lib.hid (DonS.start (p := p) h hA)
  have he1 := eqStep p A.step hp hA.step
  have he2 := eqStep p RP.zero hp RP.zero_ok
  unfold RP.val
  obtain ⟨C, hC⟩ : ∃ C, C = p.cells.toArray := ⟨_, rfl⟩
  obtain ⟨QL, hQ⟩ : ∃ QL, QL = A.step.cells := ⟨_, rfl⟩
  have HC := Lib.hid hC
  rw [show RP.zero.cells.toArray = zP from rfl, ← hC] at he2
  rw [← hC, ← hQ] at he1
  rw [← hC] at HS ⊢
  have HIp : Hid ((Try.prog.info? 43).map (·.size) = some C.size) := Lib.hid (by rw [hC, List.size_toArray, RP.len hp]; exact info_sp)
  have HIq : Hid ((Try.prog.info? 43).map (·.size) = some QL.length) := Lib.hid (by rw [hQ, RP.len hA.step]; exact info_sp)
  have HIz : Hid ((Try.prog.info? 43).map (·.size) = some zP.size) := Lib.hid info_sp
  have HR : Hid ((w.alloc (.cells C 43)).rangeAt g 37 QL) := Lib.hid (by rw [hQ]; exact HS.out.area.step hA)
  have HB : Hid ((w.alloc (.cells C 43)).heap[w.heap.size]? = some (.cells C 43 (0, 0))) := Lib.hid (HasB.new w _ _)
  simp only [decide_eq_true heq] at he1
  simp only [decide_eq_true hz] at he2
  clear heq hz
  clear hC hQ hPOST h hA hp
  go_enter Try.func15, Try.ntmps15
  go_wp2_with fail
  generalize w.alloc (.cells C 43) = w1 at HS HR HB ⊢
  obtain ⟨gp, hgp⟩ : ∃ gp, gp = w.heap.size := ⟨_, rfl⟩
  rw [← hgp] at HS HB ⊢
  clear hgp
  refine wp_region_held_drew (S := (fun w' => w' = w1.drew)) (by kernel_rfl) (rfl) (fun hHeld => ?_)
  refine held_take 0 (v := (.agg C)) rfl (by kernel_rfl) (by kernel_rfl) (by kernel_rfl) (fun _ _ _ h => h) (by rfl) (fun w hS => ?_) (by assumption) ?_
  · (rw [hS]; exact yield_row _ _ 43 (.tmp 4) (by rfl) gp (by rfl) 43 C (0, 0) _ HB.out Try.underlying43 (by rfl) HIp.out)
  try simp only [Act.put, List.setIfInBounds_toArray, List.set_cons_zero, List.set_cons_succ]
  refine held_take 1 (v := ?_) rfl (by kernel_rfl) (by kernel_rfl) (by kernel_rfl) (fun _ _ _ h => h) (by rfl) (fun w hS => ?_) (by assumption) ?_
  rotate_left
  · try dsimp only at hS
    go_simp <;> with_reducible rfl
  try simp only [Act.put, List.setIfInBounds_toArray, List.set_cons_zero, List.set_cons_succ]
  refine held_take 2 (v := ?_) rfl (by kernel_rfl) (by kernel_rfl) (by kernel_rfl) (fun _ _ _ h => h) (by rfl) (fun w hS => ?_) (by assumption) ?_
  rotate_left
  · try dsimp only at hS
    go_simp <;> with_reducible rfl
  try simp only [Act.put, List.setIfInBounds_toArray, List.set_cons_zero, List.set_cons_succ]
  refine held_take 3 (v := ?_) rfl (by kernel_rfl) (by kernel_rfl) (by kernel_rfl) (fun _ _ _ h => h) (by rfl) (fun w hS => ?_) (by assumption) ?_
  rotate_left
  · try dsimp only at hS
    go_simp <;> with_reducible rfl
  try simp only [Act.put, List.setIfInBounds_toArray, List.set_cons_zero, List.set_cons_succ]
  refine held_take 4 (v := (.agg QL.toArray)) rfl (by kernel_rfl) (by kernel_rfl) (by kernel_rfl) (fun _ _ _ h => h) (by rfl) (fun w hS => ?_) (by assumption) ?_
  · (rw [hS]; exact yield_load_mid _ _ 43 (.tmp 12) (by rfl) g 37 (by rfl) QL _ HR.out Try.underlying43 (by rfl) HIq.out)
  try simp only [Act.put, List.setIfInBounds_toArray, List.set_cons_zero, List.set_cons_succ]
  refine held_take 5 (v := ?_) rfl (by kernel_rfl) (by kernel_rfl) (by kernel_rfl) (fun _ _ _ h => h) (by rfl) (fun w hS => ?_) (by assumption) ?_
  rotate_left
  · try dsimp only at hS
    go_simp <;> with_reducible rfl
  try simp only [Act.put, List.setIfInBounds_toArray, List.set_cons_zero, List.set_cons_succ]
  refine held_take 6 (v := ?_) rfl (by kernel_rfl) (by kernel_rfl) (by kernel_rfl) (fun _ _ _ h => h) (by rfl) (fun w hS => ?_) (by assumption) ?_
  rotate_left
  · try dsimp only at hS
    go_simp <;> with_reducible rfl
  try simp only [Act.put, List.setIfInBounds_toArray, List.set_cons_zero, List.set_cons_succ]
  refine held_take 7 (v := (.agg C)) rfl (by kernel_rfl) (by kernel_rfl) (by kernel_rfl) (fun _ _ _ h => h) (by rfl) (fun w hS => ?_) (by assumption) ?_
  · (rw [hS]; exact yield_row _ _ 43 (.tmp 4) (by rfl) gp (by rfl) 43 C (0, 0) _ HB.out Try.underlying43 (by rfl) HIp.out)
  try simp only [Act.put, List.setIfInBounds_toArray, List.set_cons_zero, List.set_cons_succ]
  refine held_take 8 (v := ?_) rfl (by kernel_rfl) (by kernel_rfl) (by kernel_rfl) (fun _ _ _ h => h) (by rfl) (fun w hS => ?_) (by assumption) ?_
  rotate_left
  · try dsimp only at hS
    go_simp <;> with_reducible rfl
  try simp only [Act.put, List.setIfInBounds_toArray, List.set_cons_zero, List.set_cons_succ]
  refine held_take 9 (v := ?_) rfl (by kernel_rfl) (by kernel_rfl) (by kernel_rfl) (fun _ _ _ h => h) (by rfl) (fun w hS => ?_) (by assumption) ?_
  rotate_left
  · try dsimp only at hS
    go_simp <;> with_reducible rfl
  try simp only [Act.put, List.setIfInBounds_toArray, List.set_cons_zero, List.set_cons_succ]
  refine held_take 10 (v := ?_) rfl (by kernel_rfl) (by kernel_rfl) (by kernel_rfl) (fun _ _ _ h => h) (by rfl) (fun w hS => ?_) (by assumption) ?_
  rotate_left
  · try dsimp only at hS
    go_simp <;> with_reducible rfl
  try simp only [Act.put, List.setIfInBounds_toArray, List.set_cons_zero, List.set_cons_succ]
  refine held_done (by kernel_rfl) ?_
  go_wp2_with fail
  refine bodyPost_ret (results_none (by kernel_rfl) _ _ _) rfl ?_
  rw [HPOST.out]
  exact ⟨rfl, HS.out.area, gb_drew HS.out.gb⟩

set_option maxRecDepth 100000 in
set_option maxHeartbeats 4000000 in
theorem done_idle_true (A : RA) (p : RP) (g : Nat) (w : World) (h : AreaAt w g A) (hA : A.Ok) (hp : p.Ok) (heq : p = A.step) (hne : p ≠ RP.zero) (hk1 : ∀ r, A.now ≠ .keying r) (hk3 : ∀ r a, A.now ≠ .writing r a) :
    Calls Try.prog 15 #[.pointer (some ⟨g, 0, none⟩), p.val, .bool true] w (DoneQ w g { A with step := RP.zero }) := by
  obtain ⟨POST, hPOST⟩ : ∃ Q : Ending → World → Prop, Q = DoneQ w g { A with step := RP.zero } := ⟨_, rfl⟩
  rw [← hPOST]
  have HPOST := Lib.hid hPOST
  have HP := Lib.hid hp
  have HS := Lib.hid (DonS.start (p := p) h hA)
  have he1 := eqStep p A.step hp hA.step
  have he2 := eqStep p RP.zero hp RP.zero_ok
  unfold RP.val
  obtain ⟨C, hC⟩ : ∃ C, C = p.cells.toArray := ⟨_, rfl⟩
  obtain ⟨QL, hQ⟩ : ∃ QL, QL = A.step.cells := ⟨_, rfl⟩
  have HC := Lib.hid hC
  rw [show RP.zero.cells.toArray = zP from rfl, ← hC] at he2
  rw [← hC, ← hQ] at he1
  rw [← hC] at HS ⊢
  have HIp : Hid ((Try.prog.info? 43).map (·.size) = some C.size) := Lib.hid (by rw [hC, List.size_toArray, RP.len hp]; exact info_sp)
  have HIq : Hid ((Try.prog.info? 43).map (·.size) = some QL.length) := Lib.hid (by rw [hQ, RP.len hA.step]; exact info_sp)
  have HIz : Hid ((Try.prog.info? 43).map (·.size) = some zP.size) := Lib.hid info_sp
  have HR : Hid ((w.alloc (.cells C 43)).rangeAt g 37 QL) := Lib.hid (by rw [hQ]; exact HS.out.area.step hA)
  have HB : Hid ((w.alloc (.cells C 43)).heap[w.heap.size]? = some (.cells C 43 (0, 0))) := Lib.hid (HasB.new w _ _)
  simp only [decide_eq_true heq] at he1
  simp only [decide_eq_false hne] at he2
  clear hne heq
  have HTh : Hid ((w.alloc (.cells C 43)).drew.there g 37 zP.size) := Lib.hid (HS.out.area.there hA (by decide))
  obtain ⟨V, hV⟩ : ∃ V, V = A.now.val := ⟨_, rfl⟩
  have HV := Lib.hid hV
  have ha1 : ∀ w, (Instr.typeAssert V 20 71 true).run Try.prog w = .ok (.tuple #[(.agg #[.int .i64 0]), .bool false]) w := fun w => by rw [hV]; cases hn : A.now <;> first | rfl | exact (hk1 _ hn).elim | exact (hk3 _ _ hn).elim
  have ha3 : ∀ w, (Instr.typeAssert V 20 74 true).run Try.prog w = .ok (.tuple #[(.agg #[.int .i64 0, .int .i64 0]), .bool false]) w := fun w => by rw [hV]; cases hn : A.now <;> first | rfl | exact (hk1 _ hn).elim | exact (hk3 _ _ hn).elim
  clear hV hk1 hk3
  clear hC hQ hPOST h hA hp
  go_enter Try.func15, Try.ntmps15
  go_wp2_with fail
  generalize w.alloc (.cells C 43) = w1 at HS HR HB HTh ⊢
  obtain ⟨gp, hgp⟩ : ∃ gp, gp = w.heap.size := ⟨_, rfl⟩
  rw [← hgp] at HS HB ⊢
  clear hgp
  refine wp_region_held_drew (S := (fun w' => w' = w1.drew)) (by kernel_rfl) (rfl) (fun hHeld => ?_)
  refine held_take 0 (v := (.agg C)) rfl (by kernel_rfl) (by kernel_rfl) (by kernel_rfl) (fun _ _ _ h => h) (by rfl) (fun w hS => ?_) (by assumption) ?_
  · (rw [hS]; exact yield_row _ _ 43 (.tmp 4) (by rfl) gp (by rfl) 43 C (0, 0) _ HB.out Try.underlying43 (by rfl) HIp.out)
  try simp only [Act.put, List.setIfInBounds_toArray, List.set_cons_zero, List.set_cons_succ]
  refine held_take 1 (v := ?_) rfl (by kernel_rfl) (by kernel_rfl) (by kernel_rfl) (fun _ _ _ h => h) (by rfl) (fun w hS => ?_) (by assumption) ?_
  rotate_left
  · try dsimp only at hS
    go_simp <;> with_reducible rfl
  try simp only [Act.put, List.setIfInBounds_toArray, List.set_cons_zero, List.set_cons_succ]
  refine held_take 2 (v := ?_) rfl (by kernel_rfl) (by kernel_rfl) (by kernel_rfl) (fun _ _ _ h => h) (by rfl) (fun w hS => ?_) (by assumption) ?_
  rotate_left
  · try dsimp only at hS
    go_simp <;> with_reducible rfl
  try simp only [Act.put, List.setIfInBounds_toArray, List.set_cons_zero, List.set_cons_succ]
  refine held_take 3 (v := ?_) rfl (by kernel_rfl) (by kernel_rfl) (by kernel_rfl) (fun _ _ _ h => h) (by rfl) (fun w hS => ?_) (by assumption) ?_
  rotate_left
  · try dsimp only at hS
    go_simp <;> with_reducible rfl
  try simp only [Act.put, List.setIfInBounds_toArray, List.set_cons_zero, List.set_cons_succ]
  refine held_take 4 (v := (.agg QL.toArray)) rfl (by kernel_rfl) (by kernel_rfl) (by kernel_rfl) (fun _ _ _ h => h) (by rfl) (fun w hS => ?_) (by assumption) ?_
  · (rw [hS]; exact yield_load_mid _ _ 43 (.tmp 12) (by rfl) g 37 (by rfl) QL _ HR.out Try.underlying43 (by rfl) HIq.out)
  try simp only [Act.put, List.setIfInBounds_toArray, List.set_cons_zero, List.set_cons_succ]
  refine held_take 5 (v := ?_) rfl (by kernel_rfl) (by kernel_rfl) (by kernel_rfl) (fun _ _ _ h => h) (by rfl) (fun w hS => ?_) (by assumption) ?_
  rotate_left
  · try dsimp only at hS
    go_simp <;> with_reducible rfl
  try simp only [Act.put, List.setIfInBounds_toArray, List.set_cons_zero, List.set_cons_succ]
  refine held_take 6 (v := ?_) rfl (by kernel_rfl) (by kernel_rfl) (by kernel_rfl) (fun _ _ _ h => h) (by rfl) (fun w hS => ?_) (by assumption) ?_
  rotate_left
  · try dsimp only at hS
    go_simp <;> with_reducible rfl
  try simp only [Act.put, List.setIfInBounds_toArray, List.set_cons_zero, List.set_cons_succ]
  refine held_take 7 (v := (.agg C)) rfl (by kernel_rfl) (by kernel_rfl) (by kernel_rfl) (fun _ _ _ h => h) (by rfl) (fun w hS => ?_) (by assumption) ?_
  · (rw [hS]; exact yield_row _ _ 43 (.tmp 4) (by rfl) gp (by rfl) 43 C (0, 0) _ HB.out Try.underlying43 (by rfl) HIp.out)
  try simp only [Act.put, List.setIfInBounds_toArray, List.set_cons_zero, List.set_cons_succ]
  refine held_take 8 (v := ?_) rfl (by kernel_rfl) (by kernel_rfl) (by kernel_rfl) (fun _ _ _ h => h) (by rfl) (fun w hS => ?_) (by assumption) ?_
  rotate_left
  · try dsimp only at hS
    go_simp <;> with_reducible rfl
  try simp only [Act.put, List.setIfInBounds_toArray, List.set_cons_zero, List.set_cons_succ]
  refine held_take 9 (v := ?_) rfl (by kernel_rfl) (by kernel_rfl) (by kernel_rfl) (fun _ _ _ h => h) (by rfl) (fun w hS => ?_) (by assumption) ?_
  rotate_left
  · try dsimp only at hS
    go_simp <;> with_reducible rfl
  try simp only [Act.put, List.setIfInBounds_toArray, List.set_cons_zero, List.set_cons_succ]
  refine held_take 10 (v := ?_) rfl (by kernel_rfl) (by kernel_rfl) (by kernel_rfl) (fun _ _ _ h => h) (by rfl) (fun w hS => ?_) (by assumption) ?_
  rotate_left
  · try dsimp only at hS
    go_simp <;> with_reducible rfl
  try simp only [Act.put, List.setIfInBounds_toArray, List.set_cons_zero, List.set_cons_succ]
  refine held_done (by kernel_rfl) ?_
  go_wp2_with (with_reducible refine wpList_store_mid rfl 43 (.tmp 23) (.tmp 21) rfl g 37 zP rfl rfl HTh.out HIz.out zP_one ?_; refine Stop.mk ?_)
  refine Stop.go ?_
  have HS2 : Hid (DonS w g gp p { A with step := RP.zero } (w1.drew.setCells g 37 zP.toList)) := Lib.hid (by rw [zP_list]; exact (HS.out.below (Below.refl _ _).drew).putStep RP.zero_ok)
  generalize w1.drew.setCells g 37 zP.toList = w2 at HS2 ⊢
  clear HS HR HB he1 he2 HTh
  have hlt2 := HS2.out.area.lt
  have h35 : w2.cell? ⟨g, 35, none⟩ = some V := by rw [HV.out]; exact HS2.out.area.now HS2.out.ok
  go_wp2_with fail
  refine bodyPost_ret (results_none (by kernel_rfl) _ _ _) rfl ?_
  rw [HPOST.out]
  exact ⟨rfl, HS2.out.area, HS2.out.gb⟩

set_option maxRecDepth 100000 in
set_option maxHeartbeats 4000000 in
theorem done_idle_false (A : RA) (p : RP) (g : Nat) (w : World) (h : AreaAt w g A) (hA : A.Ok) (hp : p.Ok) (heq : p = A.step) (hne : p ≠ RP.zero) (hk1 : ∀ r, A.now ≠ .keying r) (hk3 : ∀ r a, A.now ≠ .writing r a) :
    Calls Try.prog 15 #[.pointer (some ⟨g, 0, none⟩), p.val, .bool false] w (DoneQ w g { A with step := RP.zero }) := by
  obtain ⟨POST, hPOST⟩ : ∃ Q : Ending → World → Prop, Q = DoneQ w g { A with step := RP.zero } := ⟨_, rfl⟩
  rw [← hPOST]
  have HPOST := Lib.hid hPOST
  have HP := Lib.hid hp
  have HS := Lib.hid (DonS.start (p := p) h hA)
  have he1 := eqStep p A.step hp hA.step
  have he2 := eqStep p RP.zero hp RP.zero_ok
  unfold RP.val
  obtain ⟨C, hC⟩ : ∃ C, C = p.cells.toArray := ⟨_, rfl⟩
  obtain ⟨QL, hQ⟩ : ∃ QL, QL = A.step.cells := ⟨_, rfl⟩
  have HC := Lib.hid hC
  rw [show RP.zero.cells.toArray = zP from rfl, ← hC] at he2
  rw [← hC, ← hQ] at he1
  rw [← hC] at HS ⊢
  have HIp : Hid ((Try.prog.info? 43).map (·.size) = some C.size) := Lib.hid (by rw [hC, List.size_toArray, RP.len hp]; exact info_sp)
  have HIq : Hid ((Try.prog.info? 43).map (·.size) = some QL.length) := Lib.hid (by rw [hQ, RP.len hA.step]; exact info_sp)
  have HIz : Hid ((Try.prog.info? 43).map (·.size) = some zP.size) := Lib.hid info_sp
  have HR : Hid ((w.alloc (.cells C 43)).rangeAt g 37 QL) := Lib.hid (by rw [hQ]; exact HS.out.area.step hA)
  have HB : Hid ((w.alloc (.cells C 43)).heap[w.heap.size]? = some (.cells C 43 (0, 0))) := Lib.hid (HasB.new w _ _)
  simp only [decide_eq_true heq] at he1
  simp only [decide_eq_false hne] at he2
  clear hne heq
  have HTh : Hid ((w.alloc (.cells C 43)).drew.there g 37 zP.size) := Lib.hid (HS.out.area.there hA (by decide))
  obtain ⟨V, hV⟩ : ∃ V, V = A.now.val := ⟨_, rfl⟩
  have HV := Lib.hid hV
  have ha1 : ∀ w, (Instr.typeAssert V 20 71 true).run Try.prog w = .ok (.tuple #[(.agg #[.int .i64 0]), .bool false]) w := fun w => by rw [hV]; cases hn : A.now <;> first | rfl | exact (hk1 _ hn).elim | exact (hk3 _ _ hn).elim
  have ha3 : ∀ w, (Instr.typeAssert V 20 74 true).run Try.prog w = .ok (.tuple #[(.agg #[.int .i64 0, .int .i64 0]), .bool false]) w := fun w => by rw [hV]; cases hn : A.now <;> first | rfl | exact (hk1 _ hn).elim | exact (hk3 _ _ hn).elim
  clear hV hk1 hk3
  clear hC hQ hPOST h hA hp
  go_enter Try.func15, Try.ntmps15
  go_wp2_with fail
  generalize w.alloc (.cells C 43) = w1 at HS HR HB HTh ⊢
  obtain ⟨gp, hgp⟩ : ∃ gp, gp = w.heap.size := ⟨_, rfl⟩
  rw [← hgp] at HS HB ⊢
  clear hgp
  refine wp_region_held_drew (S := (fun w' => w' = w1.drew)) (by kernel_rfl) (rfl) (fun hHeld => ?_)
  refine held_take 0 (v := (.agg C)) rfl (by kernel_rfl) (by kernel_rfl) (by kernel_rfl) (fun _ _ _ h => h) (by rfl) (fun w hS => ?_) (by assumption) ?_
  · (rw [hS]; exact yield_row _ _ 43 (.tmp 4) (by rfl) gp (by rfl) 43 C (0, 0) _ HB.out Try.underlying43 (by rfl) HIp.out)
  try simp only [Act.put, List.setIfInBounds_toArray, List.set_cons_zero, List.set_cons_succ]
  refine held_take 1 (v := ?_) rfl (by kernel_rfl) (by kernel_rfl) (by kernel_rfl) (fun _ _ _ h => h) (by rfl) (fun w hS => ?_) (by assumption) ?_
  rotate_left
  · try dsimp only at hS
    go_simp <;> with_reducible rfl
  try simp only [Act.put, List.setIfInBounds_toArray, List.set_cons_zero, List.set_cons_succ]
  refine held_take 2 (v := ?_) rfl (by kernel_rfl) (by kernel_rfl) (by kernel_rfl) (fun _ _ _ h => h) (by rfl) (fun w hS => ?_) (by assumption) ?_
  rotate_left
  · try dsimp only at hS
    go_simp <;> with_reducible rfl
  try simp only [Act.put, List.setIfInBounds_toArray, List.set_cons_zero, List.set_cons_succ]
  refine held_take 3 (v := ?_) rfl (by kernel_rfl) (by kernel_rfl) (by kernel_rfl) (fun _ _ _ h => h) (by rfl) (fun w hS => ?_) (by assumption) ?_
  rotate_left
  · try dsimp only at hS
    go_simp <;> with_reducible rfl
  try simp only [Act.put, List.setIfInBounds_toArray, List.set_cons_zero, List.set_cons_succ]
  refine held_take 4 (v := (.agg QL.toArray)) rfl (by kernel_rfl) (by kernel_rfl) (by kernel_rfl) (fun _ _ _ h => h) (by rfl) (fun w hS => ?_) (by assumption) ?_
  · (rw [hS]; exact yield_load_mid _ _ 43 (.tmp 12) (by rfl) g 37 (by rfl) QL _ HR.out Try.underlying43 (by rfl) HIq.out)
  try simp only [Act.put, List.setIfInBounds_toArray, List.set_cons_zero, List.set_cons_succ]
  refine held_take 5 (v := ?_) rfl (by kernel_rfl) (by kernel_rfl) (by kernel_rfl) (fun _ _ _ h => h) (by rfl) (fun w hS => ?_) (by assumption) ?_
  rotate_left
  · try dsimp only at hS
    go_simp <;> with_reducible rfl
  try simp only [Act.put, List.setIfInBounds_toArray, List.set_cons_zero, List.set_cons_succ]
  refine held_take 6 (v := ?_) rfl (by kernel_rfl) (by kernel_rfl) (by kernel_rfl) (fun _ _ _ h => h) (by rfl) (fun w hS => ?_) (by assumption) ?_
  rotate_left
  · try dsimp only at hS
    go_simp <;> with_reducible rfl
  try simp only [Act.put, List.setIfInBounds_toArray, List.set_cons_zero, List.set_cons_succ]
  refine held_take 7 (v := (.agg C)) rfl (by kernel_rfl) (by kernel_rfl) (by kernel_rfl) (fun _ _ _ h => h) (by rfl) (fun w hS => ?_) (by assumption) ?_
  · (rw [hS]; exact yield_row _ _ 43 (.tmp 4) (by rfl) gp (by rfl) 43 C (0, 0) _ HB.out Try.underlying43 (by rfl) HIp.out)
  try simp only [Act.put, List.setIfInBounds_toArray, List.set_cons_zero, List.set_cons_succ]
  refine held_take 8 (v := ?_) rfl (by kernel_rfl) (by kernel_rfl) (by kernel_rfl) (fun _ _ _ h => h) (by rfl) (fun w hS => ?_) (by assumption) ?_
  rotate_left
  · try dsimp only at hS
    go_simp <;> with_reducible rfl
  try simp only [Act.put, List.setIfInBounds_toArray, List.set_cons_zero, List.set_cons_succ]
  refine held_take 9 (v := ?_) rfl (by kernel_rfl) (by kernel_rfl) (by kernel_rfl) (fun _ _ _ h => h) (by rfl) (fun w hS => ?_) (by assumption) ?_
  rotate_left
  · try dsimp only at hS
    go_simp <;> with_reducible rfl
  try simp only [Act.put, List.setIfInBounds_toArray, List.set_cons_zero, List.set_cons_succ]
  refine held_take 10 (v := ?_) rfl (by kernel_rfl) (by kernel_rfl) (by kernel_rfl) (fun _ _ _ h => h) (by rfl) (fun w hS => ?_) (by assumption) ?_
  rotate_left
  · try dsimp only at hS
    go_simp <;> with_reducible rfl
  try simp only [Act.put, List.setIfInBounds_toArray, List.set_cons_zero, List.set_cons_succ]
  refine held_done (by kernel_rfl) ?_
  go_wp2_with (with_reducible refine wpList_store_mid rfl 43 (.tmp 23) (.tmp 21) rfl g 37 zP rfl rfl HTh.out HIz.out zP_one ?_; refine Stop.mk ?_)
  refine Stop.go ?_
  have HS2 : Hid (DonS w g gp p { A with step := RP.zero } (w1.drew.setCells g 37 zP.toList)) := Lib.hid (by rw [zP_list]; exact (HS.out.below (Below.refl _ _).drew).putStep RP.zero_ok)
  generalize w1.drew.setCells g 37 zP.toList = w2 at HS2 ⊢
  clear HS HR HB he1 he2 HTh
  have hlt2 := HS2.out.area.lt
  have h35 : w2.cell? ⟨g, 35, none⟩ = some V := by rw [HV.out]; exact HS2.out.area.now HS2.out.ok
  go_wp2_with fail
  refine bodyPost_ret (results_none (by kernel_rfl) _ _ _) rfl ?_
  rw [HPOST.out]
  exact ⟨rfl, HS2.out.area, HS2.out.gb⟩

set_option maxRecDepth 100000 in
set_option maxHeartbeats 4000000 in
theorem done_key_true (A : RA) (p : RP) (g : Nat) (w : World) (h : AreaAt w g A) (hA : A.Ok) (hp : p.Ok) (r : Int) (hn : A.now = .keying r) (heq : p = A.step) (hne : p ≠ RP.zero) :
    Calls Try.prog 15 #[.pointer (some ⟨g, 0, none⟩), p.val, .bool true] w (DoneQ w g { A with step := RP.zero, s := { A.s with key := p.data.take 32, has := true }, now := .keying 0, last := .keying 0 }) := by
  obtain ⟨POST, hPOST⟩ : ∃ Q : Ending → World → Prop, Q = DoneQ w g { A with step := RP.zero, s := { A.s with key := p.data.take 32, has := true }, now := .keying 0, last := .keying 0 } := ⟨_, rfl⟩
  rw [← hPOST]
  have HPOST := Lib.hid hPOST
  have HP := Lib.hid hp
  have HS := Lib.hid (DonS.start (p := p) h hA)
  have he1 := eqStep p A.step hp hA.step
  have he2 := eqStep p RP.zero hp RP.zero_ok
  unfold RP.val
  obtain ⟨C, hC⟩ : ∃ C, C = p.cells.toArray := ⟨_, rfl⟩
  obtain ⟨QL, hQ⟩ : ∃ QL, QL = A.step.cells := ⟨_, rfl⟩
  have HC := Lib.hid hC
  rw [show RP.zero.cells.toArray = zP from rfl, ← hC] at he2
  rw [← hC, ← hQ] at he1
  rw [← hC] at HS ⊢
  have HIp : Hid ((Try.prog.info? 43).map (·.size) = some C.size) := Lib.hid (by rw [hC, List.size_toArray, RP.len hp]; exact info_sp)
  have HIq : Hid ((Try.prog.info? 43).map (·.size) = some QL.length) := Lib.hid (by rw [hQ, RP.len hA.step]; exact info_sp)
  have HIz : Hid ((Try.prog.info? 43).map (·.size) = some zP.size) := Lib.hid info_sp
  have HR : Hid ((w.alloc (.cells C 43)).rangeAt g 37 QL) := Lib.hid (by rw [hQ]; exact HS.out.area.step hA)
  have HB : Hid ((w.alloc (.cells C 43)).heap[w.heap.size]? = some (.cells C 43 (0, 0))) := Lib.hid (HasB.new w _ _)
  simp only [decide_eq_true heq] at he1
  simp only [decide_eq_false hne] at he2
  clear hne heq
  have HTh : Hid ((w.alloc (.cells C 43)).drew.there g 37 zP.size) := Lib.hid (HS.out.area.there hA (by decide))
  have HN := Lib.hid hn
  have ha1 : ∀ v w, (Instr.typeAssert (.iface 71 v) 20 71 true).run Try.prog w = .ok (.tuple #[v, .bool true]) w := fun v w => rfl
  clear hn
  clear hC hQ hPOST h hA hp
  go_enter Try.func15, Try.ntmps15
  go_wp2_with fail
  generalize w.alloc (.cells C 43) = w1 at HS HR HB HTh ⊢
  obtain ⟨gp, hgp⟩ : ∃ gp, gp = w.heap.size := ⟨_, rfl⟩
  rw [← hgp] at HS HB ⊢
  clear hgp
  refine wp_region_held_drew (S := (fun w' => w' = w1.drew)) (by kernel_rfl) (rfl) (fun hHeld => ?_)
  refine held_take 0 (v := (.agg C)) rfl (by kernel_rfl) (by kernel_rfl) (by kernel_rfl) (fun _ _ _ h => h) (by rfl) (fun w hS => ?_) (by assumption) ?_
  · (rw [hS]; exact yield_row _ _ 43 (.tmp 4) (by rfl) gp (by rfl) 43 C (0, 0) _ HB.out Try.underlying43 (by rfl) HIp.out)
  try simp only [Act.put, List.setIfInBounds_toArray, List.set_cons_zero, List.set_cons_succ]
  refine held_take 1 (v := ?_) rfl (by kernel_rfl) (by kernel_rfl) (by kernel_rfl) (fun _ _ _ h => h) (by rfl) (fun w hS => ?_) (by assumption) ?_
  rotate_left
  · try dsimp only at hS
    go_simp <;> with_reducible rfl
  try simp only [Act.put, List.setIfInBounds_toArray, List.set_cons_zero, List.set_cons_succ]
  refine held_take 2 (v := ?_) rfl (by kernel_rfl) (by kernel_rfl) (by kernel_rfl) (fun _ _ _ h => h) (by rfl) (fun w hS => ?_) (by assumption) ?_
  rotate_left
  · try dsimp only at hS
    go_simp <;> with_reducible rfl
  try simp only [Act.put, List.setIfInBounds_toArray, List.set_cons_zero, List.set_cons_succ]
  refine held_take 3 (v := ?_) rfl (by kernel_rfl) (by kernel_rfl) (by kernel_rfl) (fun _ _ _ h => h) (by rfl) (fun w hS => ?_) (by assumption) ?_
  rotate_left
  · try dsimp only at hS
    go_simp <;> with_reducible rfl
  try simp only [Act.put, List.setIfInBounds_toArray, List.set_cons_zero, List.set_cons_succ]
  refine held_take 4 (v := (.agg QL.toArray)) rfl (by kernel_rfl) (by kernel_rfl) (by kernel_rfl) (fun _ _ _ h => h) (by rfl) (fun w hS => ?_) (by assumption) ?_
  · (rw [hS]; exact yield_load_mid _ _ 43 (.tmp 12) (by rfl) g 37 (by rfl) QL _ HR.out Try.underlying43 (by rfl) HIq.out)
  try simp only [Act.put, List.setIfInBounds_toArray, List.set_cons_zero, List.set_cons_succ]
  refine held_take 5 (v := ?_) rfl (by kernel_rfl) (by kernel_rfl) (by kernel_rfl) (fun _ _ _ h => h) (by rfl) (fun w hS => ?_) (by assumption) ?_
  rotate_left
  · try dsimp only at hS
    go_simp <;> with_reducible rfl
  try simp only [Act.put, List.setIfInBounds_toArray, List.set_cons_zero, List.set_cons_succ]
  refine held_take 6 (v := ?_) rfl (by kernel_rfl) (by kernel_rfl) (by kernel_rfl) (fun _ _ _ h => h) (by rfl) (fun w hS => ?_) (by assumption) ?_
  rotate_left
  · try dsimp only at hS
    go_simp <;> with_reducible rfl
  try simp only [Act.put, List.setIfInBounds_toArray, List.set_cons_zero, List.set_cons_succ]
  refine held_take 7 (v := (.agg C)) rfl (by kernel_rfl) (by kernel_rfl) (by kernel_rfl) (fun _ _ _ h => h) (by rfl) (fun w hS => ?_) (by assumption) ?_
  · (rw [hS]; exact yield_row _ _ 43 (.tmp 4) (by rfl) gp (by rfl) 43 C (0, 0) _ HB.out Try.underlying43 (by rfl) HIp.out)
  try simp only [Act.put, List.setIfInBounds_toArray, List.set_cons_zero, List.set_cons_succ]
  refine held_take 8 (v := ?_) rfl (by kernel_rfl) (by kernel_rfl) (by kernel_rfl) (fun _ _ _ h => h) (by rfl) (fun w hS => ?_) (by assumption) ?_
  rotate_left
  · try dsimp only at hS
    go_simp <;> with_reducible rfl
  try simp only [Act.put, List.setIfInBounds_toArray, List.set_cons_zero, List.set_cons_succ]
  refine held_take 9 (v := ?_) rfl (by kernel_rfl) (by kernel_rfl) (by kernel_rfl) (fun _ _ _ h => h) (by rfl) (fun w hS => ?_) (by assumption) ?_
  rotate_left
  · try dsimp only at hS
    go_simp <;> with_reducible rfl
  try simp only [Act.put, List.setIfInBounds_toArray, List.set_cons_zero, List.set_cons_succ]
  refine held_take 10 (v := ?_) rfl (by kernel_rfl) (by kernel_rfl) (by kernel_rfl) (fun _ _ _ h => h) (by rfl) (fun w hS => ?_) (by assumption) ?_
  rotate_left
  · try dsimp only at hS
    go_simp <;> with_reducible rfl
  try simp only [Act.put, List.setIfInBounds_toArray, List.set_cons_zero, List.set_cons_succ]
  refine held_done (by kernel_rfl) ?_
  go_wp2_with (with_reducible refine wpList_store_mid rfl 43 (.tmp 23) (.tmp 21) rfl g 37 zP rfl rfl HTh.out HIz.out zP_one ?_; refine Stop.mk ?_)
  refine Stop.go ?_
  have HS2 : Hid (DonS w g gp p { A with step := RP.zero } (w1.drew.setCells g 37 zP.toList)) := Lib.hid (by rw [zP_list]; exact (HS.out.below (Below.refl _ _).drew).putStep RP.zero_ok)
  generalize w1.drew.setCells g 37 zP.toList = w2 at HS2 ⊢
  clear HS HR HB he1 he2 HTh
  have hlt2 := HS2.out.area.lt
  have h35 : w2.cell? ⟨g, 35, none⟩ = some (Value.iface 71 (.agg #[.int .i64 r])) := by have := HS2.out.area.now HS2.out.ok; rw [show RN.val _ = _ from congrArg RN.val HN.out] at this; exact this
  go_wp2_with fail
  have HS4 : Hid (DonS w g gp p { A with step := RP.zero } (w2.alloc (.cells #[.int .i64 r] 71))) := Lib.hid (HS2.out.below ((Below.refl _ _).alloc (Nat.le_refl _) _))
  have HX : Hid (HasB (w2.alloc (.cells #[.int .i64 r] 71)) w2.heap.size #[.int .i64 r] 71) := Lib.hid (HasB.new _ _ _)
  have HXl : Hid (gp < w2.heap.size) := Lib.hid HS2.out.box.lt
  generalize w2.alloc (.cells #[.int .i64 r] 71) = w4 at HS4 HX ⊢
  obtain ⟨gx, hgx⟩ : ∃ gx, gx = w2.heap.size := ⟨_, rfl⟩
  rw [← hgx] at HX HXl ⊢
  clear hgx HS2 h35 hlt2
  have HDst : Hid (w4.drew.there g 1 (u8s (p.data.take 32)).length) := Lib.hid (HS4.out.area.there HS4.out.ok (by rw [u8s_len, List.length_take, HP.out.dl]; decide))
  have HSrc : Hid (∀ j v, (u8s (p.data.take 32))[j]? = some v → w4.drew.cell? ((⟨gp, 3, none⟩ : Addr).add j) = some v) := Lib.hid fun j v hv => by
    rw [Addr.add_mid]
    have hb : HasB w4 gp ([Value.bool p.key, Value.bool p.write, Value.int .i64 p.addr] ++ (u8s (p.data.take 32) ++ u8s (p.data.drop 32))).toArray 43 := by rw [← u8s_append, List.take_append_drop]; exact HS4.out.box
    exact hb.range3 rfl j v hv
  refine wp_region_held_drew (S := (fun _ => True)) (by kernel_rfl) (trivial) (fun hHeld => ?_)
  refine held_take 0 (v := ?_) rfl (by kernel_rfl) (by kernel_rfl) (by kernel_rfl) (fun _ _ _ h => h) (by rfl) (fun w hS => ?_) (by assumption) ?_
  rotate_left
  · try dsimp only at hS
    go_simp <;> with_reducible rfl
  try simp only [Act.put, List.setIfInBounds_toArray, List.set_cons_zero, List.set_cons_succ]
  refine held_take 1 (v := ?_) rfl (by kernel_rfl) (by kernel_rfl) (by kernel_rfl) (fun _ _ _ h => h) (by rfl) (fun w hS => ?_) (by assumption) ?_
  rotate_left
  · try dsimp only at hS
    go_simp <;> with_reducible rfl
  try simp only [Act.put, List.setIfInBounds_toArray, List.set_cons_zero, List.set_cons_succ]
  refine held_take 2 (v := ?_) rfl (by kernel_rfl) (by kernel_rfl) (by kernel_rfl) (fun _ _ _ h => h) (by rfl) (fun w hS => ?_) (by assumption) ?_
  rotate_left
  · try dsimp only at hS
    go_simp <;> with_reducible rfl
  try simp only [Act.put, List.setIfInBounds_toArray, List.set_cons_zero, List.set_cons_succ]
  refine held_take 3 (v := ?_) rfl (by kernel_rfl) (by kernel_rfl) (by kernel_rfl) (fun _ _ _ h => h) (by rfl) (fun w hS => ?_) (by assumption) ?_
  rotate_left
  · try dsimp only at hS
    go_simp <;> with_reducible rfl
  try simp only [Act.put, List.setIfInBounds_toArray, List.set_cons_zero, List.set_cons_succ]
  refine held_take 4 (v := ?_) rfl (by kernel_rfl) (by kernel_rfl) (by kernel_rfl) (fun _ _ _ h => h) (by rfl) (fun w hS => ?_) (by assumption) ?_
  rotate_left
  · try dsimp only at hS
    go_simp <;> with_reducible rfl
  try simp only [Act.put, List.setIfInBounds_toArray, List.set_cons_zero, List.set_cons_succ]
  refine held_take 5 (v := ?_) rfl (by kernel_rfl) (by kernel_rfl) (by kernel_rfl) (fun _ _ _ h => h) (by rfl) (fun w hS => ?_) (by assumption) ?_
  rotate_left
  · try dsimp only at hS
    go_simp <;> with_reducible rfl
  try simp only [Act.put, List.setIfInBounds_toArray, List.set_cons_zero, List.set_cons_succ]
  refine held_take 6 (v := ?_) rfl (by kernel_rfl) (by kernel_rfl) (by kernel_rfl) (fun _ _ _ h => h) (by rfl) (fun w hS => ?_) (by assumption) ?_
  rotate_left
  · try dsimp only at hS
    go_simp <;> with_reducible rfl
  try simp only [Act.put, List.setIfInBounds_toArray, List.set_cons_zero, List.set_cons_succ]
  refine held_one 7 rfl (by kernel_rfl) (fun K hK => ?_)
  refine step_copy_mid rfl (.tmp 38) (.tmp 40) 50 50 rfl 5 Try.underlying50 (by kernel_rfl) ⟨gp, 3, none⟩ 32 32 64 64 g 1 rfl rfl (u8s (p.data.take 32)) (by rw [u8s_len, List.length_take, HP.out.dl]; rfl) HSrc.out HDst.out (u8s_one _) ?_
  refine hK.out _ _ (fun _ => True) (fun _ _ => trivial) trivial (fun hHeld => ?_)
  clear hK K
  try simp only [Act.put, List.setIfInBounds_toArray, List.set_cons_zero, List.set_cons_succ]
  refine held_done (by kernel_rfl) ?_
  have HS5 : Hid (DonS w g gp p { A with step := RP.zero, s := { A.s with key := p.data.take 32 } } (w4.drew.setCells g 1 (u8s (p.data.take 32)))) := Lib.hid ((HS4.out.below (Below.refl _ _).drew).putKey _ (by simp [HP.out.dl]) (fun c hc => HP.out.db c (List.mem_of_mem_take hc)))
  have HX5 : Hid (HasB (w4.drew.setCells g 1 (u8s (p.data.take 32))) gx #[.int .i64 r] 71) := Lib.hid (HasB.kept (w := w4.drew) HX.out (gb_cells _ _ (gb_refl _ _)) (by intro e; have := Option.some.inj e; have := HS4.out.l0; have := HS4.out.l1; have := HXl.out; omega))
  clear HSrc HDst HS4 HX
  generalize w4.drew.setCells g 1 (u8s (p.data.take 32)) = w5 at HS5 HX5 ⊢
  have hlt5 := HS5.out.area.lt
  have hfr5 : ∀ i, w5.frozen? ⟨g, i, none⟩ = false := HS5.out.area.free
  have h33 := HS5.out.area.has HS5.out.ok
  have h34 := HS5.out.area.ctr HS5.out.ok
  have hx0 : w5.cell? ⟨gx, 0, none⟩ = some (.int .i64 r) := HX5.out.at 0
  have hx1 : w5.frozen? ⟨gx, 0, none⟩ = false := HX5.out.free 0
  have hxl := HX5.out.lt
  have hne : g ≠ gx := by have := HS5.out.l0; have := HS5.out.l1; have := HXl.out; omega
  go_wp2_with fail
  have HS6 : Hid (DonS w g gp p { A with step := RP.zero, s := { A.s with key := p.data.take 32, has := true } } ((w5.setCell ⟨g, 33, none⟩ (.bool true)).setCell ⟨gx, 0, none⟩ (.int .i64 0))) := Lib.hid ((HS5.out.putHas true).far HXl.out 0 _)
  have HX6 : Hid (HasB ((w5.setCell ⟨g, 33, none⟩ (.bool true)).setCell ⟨gx, 0, none⟩ (.int .i64 0)) gx #[.int .i64 0] 71) := Lib.hid (by simpa using (HX5.out.set_other (p := ⟨g, 33, none⟩) hne.symm _).set 0 (.int .i64 0))
  clear h33 h34 hx0 hx1 hxl hfr5 hlt5 HX5 HS5
  generalize (w5.setCell ⟨g, 33, none⟩ (.bool true)).setCell ⟨gx, 0, none⟩ (.int .i64 0) = w6 at HS6 HX6 ⊢
  have hx0 : w6.cell? ⟨gx, 0, none⟩ = some (.int .i64 0) := HX6.out.at 0
  have hxl := HX6.out.lt
  have hlt6 := HS6.out.area.lt
  have hfr6 : ∀ i, w6.frozen? ⟨g, i, none⟩ = false := HS6.out.area.free
  have h35 := HS6.out.area.now HS6.out.ok
  have h36 := HS6.out.area.last HS6.out.ok
  go_region
  all_goals go_end0
  all_goals rw [HPOST.out]
  all_goals refine ⟨rfl, ?_⟩
  have hF := (HS6.out.putNow (.keying 0) (by show I64 0; unfold I64; omega)).putLast (.keying 0) (by show I64 0; unfold I64; omega)
  exact ⟨hF.area, gb_drew hF.gb⟩

set_option maxRecDepth 100000 in
set_option maxHeartbeats 4000000 in
theorem done_key_false (A : RA) (p : RP) (g : Nat) (w : World) (h : AreaAt w g A) (hA : A.Ok) (hp : p.Ok) (r : Int) (hn : A.now = .keying r) (heq : p = A.step) (hne : p ≠ RP.zero) :
    Calls Try.prog 15 #[.pointer (some ⟨g, 0, none⟩), p.val, .bool false] w (DoneQ w g { A with step := RP.zero, s := A.s, now := .keying 6, last := .keying 6 }) := by
  obtain ⟨POST, hPOST⟩ : ∃ Q : Ending → World → Prop, Q = DoneQ w g { A with step := RP.zero, s := A.s, now := .keying 6, last := .keying 6 } := ⟨_, rfl⟩
  rw [← hPOST]
  have HPOST := Lib.hid hPOST
  have HP := Lib.hid hp
  have HS := Lib.hid (DonS.start (p := p) h hA)
  have he1 := eqStep p A.step hp hA.step
  have he2 := eqStep p RP.zero hp RP.zero_ok
  unfold RP.val
  obtain ⟨C, hC⟩ : ∃ C, C = p.cells.toArray := ⟨_, rfl⟩
  obtain ⟨QL, hQ⟩ : ∃ QL, QL = A.step.cells := ⟨_, rfl⟩
  have HC := Lib.hid hC
  rw [show RP.zero.cells.toArray = zP from rfl, ← hC] at he2
  rw [← hC, ← hQ] at he1
  rw [← hC] at HS ⊢
  have HIp : Hid ((Try.prog.info? 43).map (·.size) = some C.size) := Lib.hid (by rw [hC, List.size_toArray, RP.len hp]; exact info_sp)
  have HIq : Hid ((Try.prog.info? 43).map (·.size) = some QL.length) := Lib.hid (by rw [hQ, RP.len hA.step]; exact info_sp)
  have HIz : Hid ((Try.prog.info? 43).map (·.size) = some zP.size) := Lib.hid info_sp
  have HR : Hid ((w.alloc (.cells C 43)).rangeAt g 37 QL) := Lib.hid (by rw [hQ]; exact HS.out.area.step hA)
  have HB : Hid ((w.alloc (.cells C 43)).heap[w.heap.size]? = some (.cells C 43 (0, 0))) := Lib.hid (HasB.new w _ _)
  simp only [decide_eq_true heq] at he1
  simp only [decide_eq_false hne] at he2
  clear hne heq
  have HTh : Hid ((w.alloc (.cells C 43)).drew.there g 37 zP.size) := Lib.hid (HS.out.area.there hA (by decide))
  have HN := Lib.hid hn
  have ha1 : ∀ v w, (Instr.typeAssert (.iface 71 v) 20 71 true).run Try.prog w = .ok (.tuple #[v, .bool true]) w := fun v w => rfl
  clear hn
  clear hC hQ hPOST h hA hp
  go_enter Try.func15, Try.ntmps15
  go_wp2_with fail
  generalize w.alloc (.cells C 43) = w1 at HS HR HB HTh ⊢
  obtain ⟨gp, hgp⟩ : ∃ gp, gp = w.heap.size := ⟨_, rfl⟩
  rw [← hgp] at HS HB ⊢
  clear hgp
  refine wp_region_held_drew (S := (fun w' => w' = w1.drew)) (by kernel_rfl) (rfl) (fun hHeld => ?_)
  refine held_take 0 (v := (.agg C)) rfl (by kernel_rfl) (by kernel_rfl) (by kernel_rfl) (fun _ _ _ h => h) (by rfl) (fun w hS => ?_) (by assumption) ?_
  · (rw [hS]; exact yield_row _ _ 43 (.tmp 4) (by rfl) gp (by rfl) 43 C (0, 0) _ HB.out Try.underlying43 (by rfl) HIp.out)
  try simp only [Act.put, List.setIfInBounds_toArray, List.set_cons_zero, List.set_cons_succ]
  refine held_take 1 (v := ?_) rfl (by kernel_rfl) (by kernel_rfl) (by kernel_rfl) (fun _ _ _ h => h) (by rfl) (fun w hS => ?_) (by assumption) ?_
  rotate_left
  · try dsimp only at hS
    go_simp <;> with_reducible rfl
  try simp only [Act.put, List.setIfInBounds_toArray, List.set_cons_zero, List.set_cons_succ]
  refine held_take 2 (v := ?_) rfl (by kernel_rfl) (by kernel_rfl) (by kernel_rfl) (fun _ _ _ h => h) (by rfl) (fun w hS => ?_) (by assumption) ?_
  rotate_left
  · try dsimp only at hS
    go_simp <;> with_reducible rfl
  try simp only [Act.put, List.setIfInBounds_toArray, List.set_cons_zero, List.set_cons_succ]
  refine held_take 3 (v := ?_) rfl (by kernel_rfl) (by kernel_rfl) (by kernel_rfl) (fun _ _ _ h => h) (by rfl) (fun w hS => ?_) (by assumption) ?_
  rotate_left
  · try dsimp only at hS
    go_simp <;> with_reducible rfl
  try simp only [Act.put, List.setIfInBounds_toArray, List.set_cons_zero, List.set_cons_succ]
  refine held_take 4 (v := (.agg QL.toArray)) rfl (by kernel_rfl) (by kernel_rfl) (by kernel_rfl) (fun _ _ _ h => h) (by rfl) (fun w hS => ?_) (by assumption) ?_
  · (rw [hS]; exact yield_load_mid _ _ 43 (.tmp 12) (by rfl) g 37 (by rfl) QL _ HR.out Try.underlying43 (by rfl) HIq.out)
  try simp only [Act.put, List.setIfInBounds_toArray, List.set_cons_zero, List.set_cons_succ]
  refine held_take 5 (v := ?_) rfl (by kernel_rfl) (by kernel_rfl) (by kernel_rfl) (fun _ _ _ h => h) (by rfl) (fun w hS => ?_) (by assumption) ?_
  rotate_left
  · try dsimp only at hS
    go_simp <;> with_reducible rfl
  try simp only [Act.put, List.setIfInBounds_toArray, List.set_cons_zero, List.set_cons_succ]
  refine held_take 6 (v := ?_) rfl (by kernel_rfl) (by kernel_rfl) (by kernel_rfl) (fun _ _ _ h => h) (by rfl) (fun w hS => ?_) (by assumption) ?_
  rotate_left
  · try dsimp only at hS
    go_simp <;> with_reducible rfl
  try simp only [Act.put, List.setIfInBounds_toArray, List.set_cons_zero, List.set_cons_succ]
  refine held_take 7 (v := (.agg C)) rfl (by kernel_rfl) (by kernel_rfl) (by kernel_rfl) (fun _ _ _ h => h) (by rfl) (fun w hS => ?_) (by assumption) ?_
  · (rw [hS]; exact yield_row _ _ 43 (.tmp 4) (by rfl) gp (by rfl) 43 C (0, 0) _ HB.out Try.underlying43 (by rfl) HIp.out)
  try simp only [Act.put, List.setIfInBounds_toArray, List.set_cons_zero, List.set_cons_succ]
  refine held_take 8 (v := ?_) rfl (by kernel_rfl) (by kernel_rfl) (by kernel_rfl) (fun _ _ _ h => h) (by rfl) (fun w hS => ?_) (by assumption) ?_
  rotate_left
  · try dsimp only at hS
    go_simp <;> with_reducible rfl
  try simp only [Act.put, List.setIfInBounds_toArray, List.set_cons_zero, List.set_cons_succ]
  refine held_take 9 (v := ?_) rfl (by kernel_rfl) (by kernel_rfl) (by kernel_rfl) (fun _ _ _ h => h) (by rfl) (fun w hS => ?_) (by assumption) ?_
  rotate_left
  · try dsimp only at hS
    go_simp <;> with_reducible rfl
  try simp only [Act.put, List.setIfInBounds_toArray, List.set_cons_zero, List.set_cons_succ]
  refine held_take 10 (v := ?_) rfl (by kernel_rfl) (by kernel_rfl) (by kernel_rfl) (fun _ _ _ h => h) (by rfl) (fun w hS => ?_) (by assumption) ?_
  rotate_left
  · try dsimp only at hS
    go_simp <;> with_reducible rfl
  try simp only [Act.put, List.setIfInBounds_toArray, List.set_cons_zero, List.set_cons_succ]
  refine held_done (by kernel_rfl) ?_
  go_wp2_with (with_reducible refine wpList_store_mid rfl 43 (.tmp 23) (.tmp 21) rfl g 37 zP rfl rfl HTh.out HIz.out zP_one ?_; refine Stop.mk ?_)
  refine Stop.go ?_
  have HS2 : Hid (DonS w g gp p { A with step := RP.zero } (w1.drew.setCells g 37 zP.toList)) := Lib.hid (by rw [zP_list]; exact (HS.out.below (Below.refl _ _).drew).putStep RP.zero_ok)
  generalize w1.drew.setCells g 37 zP.toList = w2 at HS2 ⊢
  clear HS HR HB he1 he2 HTh
  have hlt2 := HS2.out.area.lt
  have h35 : w2.cell? ⟨g, 35, none⟩ = some (Value.iface 71 (.agg #[.int .i64 r])) := by have := HS2.out.area.now HS2.out.ok; rw [show RN.val _ = _ from congrArg RN.val HN.out] at this; exact this
  go_wp2_with fail
  have HS6 : Hid (DonS w g gp p { A with step := RP.zero } (w2.alloc (.cells #[.int .i64 6] 71))) := Lib.hid (HS2.out.below ((Below.refl _ _).alloc (Nat.le_refl _) _))
  have HX6 : Hid (HasB (w2.alloc (.cells #[.int .i64 6] 71)) w2.heap.size #[.int .i64 6] 71) := Lib.hid (HasB.new _ _ _)
  have hne : g ≠ w2.heap.size := by have := HS2.out.area.lt; omega
  generalize w2.alloc (.cells #[.int .i64 6] 71) = w6 at HS6 HX6 ⊢
  obtain ⟨gx, hgx⟩ : ∃ gx, gx = w2.heap.size := ⟨_, rfl⟩
  rw [← hgx] at HX6 hne ⊢
  clear hgx HS2 h35 hlt2
  have hx0 : w6.cell? ⟨gx, 0, none⟩ = some (.int .i64 6) := HX6.out.at 0
  have hxl := HX6.out.lt
  have hlt6 := HS6.out.area.lt
  have hfr6 : ∀ i, w6.frozen? ⟨g, i, none⟩ = false := HS6.out.area.free
  have h35 := HS6.out.area.now HS6.out.ok
  have h36 := HS6.out.area.last HS6.out.ok
  go_region
  all_goals go_end0
  all_goals rw [HPOST.out]
  all_goals refine ⟨rfl, ?_⟩
  have hF := (HS6.out.putNow (.keying 6) (by show I64 6; unfold I64; omega)).putLast (.keying 6) (by show I64 6; unfold I64; omega)
  exact ⟨hF.area, gb_drew hF.gb⟩

set_option maxRecDepth 100000 in
set_option maxHeartbeats 4000000 in
theorem done_write_true (A : RA) (p : RP) (g : Nat) (w : World) (h : AreaAt w g A) (hA : A.Ok) (hp : p.Ok) (r a : Int) (hn : A.now = .writing r a) (heq : p = A.step) (hne : p ≠ RP.zero) :
    Calls Try.prog 15 #[.pointer (some ⟨g, 0, none⟩), p.val, .bool true] w (DoneQ w g { A with step := RP.zero, s := { A.s with ctr := (A.s.ctr + 1) % 4294967296 }, now := .writing 0 a, last := .writing 0 a }) := by
  obtain ⟨POST, hPOST⟩ : ∃ Q : Ending → World → Prop, Q = DoneQ w g { A with step := RP.zero, s := { A.s with ctr := (A.s.ctr + 1) % 4294967296 }, now := .writing 0 a, last := .writing 0 a } := ⟨_, rfl⟩
  rw [← hPOST]
  have HPOST := Lib.hid hPOST
  have HP := Lib.hid hp
  have HS := Lib.hid (DonS.start (p := p) h hA)
  have he1 := eqStep p A.step hp hA.step
  have he2 := eqStep p RP.zero hp RP.zero_ok
  unfold RP.val
  obtain ⟨C, hC⟩ : ∃ C, C = p.cells.toArray := ⟨_, rfl⟩
  obtain ⟨QL, hQ⟩ : ∃ QL, QL = A.step.cells := ⟨_, rfl⟩
  have HC := Lib.hid hC
  rw [show RP.zero.cells.toArray = zP from rfl, ← hC] at he2
  rw [← hC, ← hQ] at he1
  rw [← hC] at HS ⊢
  have HIp : Hid ((Try.prog.info? 43).map (·.size) = some C.size) := Lib.hid (by rw [hC, List.size_toArray, RP.len hp]; exact info_sp)
  have HIq : Hid ((Try.prog.info? 43).map (·.size) = some QL.length) := Lib.hid (by rw [hQ, RP.len hA.step]; exact info_sp)
  have HIz : Hid ((Try.prog.info? 43).map (·.size) = some zP.size) := Lib.hid info_sp
  have HR : Hid ((w.alloc (.cells C 43)).rangeAt g 37 QL) := Lib.hid (by rw [hQ]; exact HS.out.area.step hA)
  have HB : Hid ((w.alloc (.cells C 43)).heap[w.heap.size]? = some (.cells C 43 (0, 0))) := Lib.hid (HasB.new w _ _)
  simp only [decide_eq_true heq] at he1
  simp only [decide_eq_false hne] at he2
  clear hne heq
  have HTh : Hid ((w.alloc (.cells C 43)).drew.there g 37 zP.size) := Lib.hid (HS.out.area.there hA (by decide))
  have HN := Lib.hid hn
  have HAi : Hid (I64 a) := Lib.hid (by have := hA.now; rw [hn] at this; exact this.2)
  have ha1 : ∀ v w, (Instr.typeAssert (.iface 74 v) 20 71 true).run Try.prog w = .ok (.tuple #[(.agg #[.int .i64 0]), .bool false]) w := fun v w => rfl
  have ha3 : ∀ v w, (Instr.typeAssert (.iface 74 v) 20 74 true).run Try.prog w = .ok (.tuple #[v, .bool true]) w := fun v w => rfl
  clear hn
  clear hC hQ hPOST h hA hp
  go_enter Try.func15, Try.ntmps15
  go_wp2_with fail
  generalize w.alloc (.cells C 43) = w1 at HS HR HB HTh ⊢
  obtain ⟨gp, hgp⟩ : ∃ gp, gp = w.heap.size := ⟨_, rfl⟩
  rw [← hgp] at HS HB ⊢
  clear hgp
  refine wp_region_held_drew (S := (fun w' => w' = w1.drew)) (by kernel_rfl) (rfl) (fun hHeld => ?_)
  refine held_take 0 (v := (.agg C)) rfl (by kernel_rfl) (by kernel_rfl) (by kernel_rfl) (fun _ _ _ h => h) (by rfl) (fun w hS => ?_) (by assumption) ?_
  · (rw [hS]; exact yield_row _ _ 43 (.tmp 4) (by rfl) gp (by rfl) 43 C (0, 0) _ HB.out Try.underlying43 (by rfl) HIp.out)
  try simp only [Act.put, List.setIfInBounds_toArray, List.set_cons_zero, List.set_cons_succ]
  refine held_take 1 (v := ?_) rfl (by kernel_rfl) (by kernel_rfl) (by kernel_rfl) (fun _ _ _ h => h) (by rfl) (fun w hS => ?_) (by assumption) ?_
  rotate_left
  · try dsimp only at hS
    go_simp <;> with_reducible rfl
  try simp only [Act.put, List.setIfInBounds_toArray, List.set_cons_zero, List.set_cons_succ]
  refine held_take 2 (v := ?_) rfl (by kernel_rfl) (by kernel_rfl) (by kernel_rfl) (fun _ _ _ h => h) (by rfl) (fun w hS => ?_) (by assumption) ?_
  rotate_left
  · try dsimp only at hS
    go_simp <;> with_reducible rfl
  try simp only [Act.put, List.setIfInBounds_toArray, List.set_cons_zero, List.set_cons_succ]
  refine held_take 3 (v := ?_) rfl (by kernel_rfl) (by kernel_rfl) (by kernel_rfl) (fun _ _ _ h => h) (by rfl) (fun w hS => ?_) (by assumption) ?_
  rotate_left
  · try dsimp only at hS
    go_simp <;> with_reducible rfl
  try simp only [Act.put, List.setIfInBounds_toArray, List.set_cons_zero, List.set_cons_succ]
  refine held_take 4 (v := (.agg QL.toArray)) rfl (by kernel_rfl) (by kernel_rfl) (by kernel_rfl) (fun _ _ _ h => h) (by rfl) (fun w hS => ?_) (by assumption) ?_
  · (rw [hS]; exact yield_load_mid _ _ 43 (.tmp 12) (by rfl) g 37 (by rfl) QL _ HR.out Try.underlying43 (by rfl) HIq.out)
  try simp only [Act.put, List.setIfInBounds_toArray, List.set_cons_zero, List.set_cons_succ]
  refine held_take 5 (v := ?_) rfl (by kernel_rfl) (by kernel_rfl) (by kernel_rfl) (fun _ _ _ h => h) (by rfl) (fun w hS => ?_) (by assumption) ?_
  rotate_left
  · try dsimp only at hS
    go_simp <;> with_reducible rfl
  try simp only [Act.put, List.setIfInBounds_toArray, List.set_cons_zero, List.set_cons_succ]
  refine held_take 6 (v := ?_) rfl (by kernel_rfl) (by kernel_rfl) (by kernel_rfl) (fun _ _ _ h => h) (by rfl) (fun w hS => ?_) (by assumption) ?_
  rotate_left
  · try dsimp only at hS
    go_simp <;> with_reducible rfl
  try simp only [Act.put, List.setIfInBounds_toArray, List.set_cons_zero, List.set_cons_succ]
  refine held_take 7 (v := (.agg C)) rfl (by kernel_rfl) (by kernel_rfl) (by kernel_rfl) (fun _ _ _ h => h) (by rfl) (fun w hS => ?_) (by assumption) ?_
  · (rw [hS]; exact yield_row _ _ 43 (.tmp 4) (by rfl) gp (by rfl) 43 C (0, 0) _ HB.out Try.underlying43 (by rfl) HIp.out)
  try simp only [Act.put, List.setIfInBounds_toArray, List.set_cons_zero, List.set_cons_succ]
  refine held_take 8 (v := ?_) rfl (by kernel_rfl) (by kernel_rfl) (by kernel_rfl) (fun _ _ _ h => h) (by rfl) (fun w hS => ?_) (by assumption) ?_
  rotate_left
  · try dsimp only at hS
    go_simp <;> with_reducible rfl
  try simp only [Act.put, List.setIfInBounds_toArray, List.set_cons_zero, List.set_cons_succ]
  refine held_take 9 (v := ?_) rfl (by kernel_rfl) (by kernel_rfl) (by kernel_rfl) (fun _ _ _ h => h) (by rfl) (fun w hS => ?_) (by assumption) ?_
  rotate_left
  · try dsimp only at hS
    go_simp <;> with_reducible rfl
  try simp only [Act.put, List.setIfInBounds_toArray, List.set_cons_zero, List.set_cons_succ]
  refine held_take 10 (v := ?_) rfl (by kernel_rfl) (by kernel_rfl) (by kernel_rfl) (fun _ _ _ h => h) (by rfl) (fun w hS => ?_) (by assumption) ?_
  rotate_left
  · try dsimp only at hS
    go_simp <;> with_reducible rfl
  try simp only [Act.put, List.setIfInBounds_toArray, List.set_cons_zero, List.set_cons_succ]
  refine held_done (by kernel_rfl) ?_
  go_wp2_with (with_reducible refine wpList_store_mid rfl 43 (.tmp 23) (.tmp 21) rfl g 37 zP rfl rfl HTh.out HIz.out zP_one ?_; refine Stop.mk ?_)
  refine Stop.go ?_
  have HS2 : Hid (DonS w g gp p { A with step := RP.zero } (w1.drew.setCells g 37 zP.toList)) := Lib.hid (by rw [zP_list]; exact (HS.out.below (Below.refl _ _).drew).putStep RP.zero_ok)
  generalize w1.drew.setCells g 37 zP.toList = w2 at HS2 ⊢
  clear HS HR HB he1 he2 HTh
  have hlt2 := HS2.out.area.lt
  have h35 : w2.cell? ⟨g, 35, none⟩ = some (Value.iface 74 (.agg #[.int .i64 r, .int .i64 a])) := by have := HS2.out.area.now HS2.out.ok; rw [show RN.val _ = _ from congrArg RN.val HN.out] at this; exact this
  go_wp2_with (with_reducible refine stop_dst 63 rfl ?_)
  refine Stop.go ?_
  have HS4 : Hid (DonS w g gp p { A with step := RP.zero } (w2.alloc (.cells #[.int .i64 r, .int .i64 a] 74))) := Lib.hid (HS2.out.below ((Below.refl _ _).alloc (Nat.le_refl _) _))
  have HX : Hid (HasB (w2.alloc (.cells #[.int .i64 r, .int .i64 a] 74)) w2.heap.size #[.int .i64 r, .int .i64 a] 74) := Lib.hid (HasB.new _ _ _)
  have HXl : Hid (gp < w2.heap.size) := Lib.hid HS2.out.box.lt
  generalize w2.alloc (.cells #[.int .i64 r, .int .i64 a] 74) = w4 at HS4 HX ⊢
  obtain ⟨gx, hgx⟩ : ∃ gx, gx = w2.heap.size := ⟨_, rfl⟩
  rw [← hgx] at HX HXl ⊢
  clear hgx HS2 h35 hlt2
  have hlt5 := HS4.out.area.lt
  have hfr5 : ∀ i, w4.frozen? ⟨g, i, none⟩ = false := HS4.out.area.free
  have h33 := HS4.out.area.has HS4.out.ok
  have h34 := HS4.out.area.ctr HS4.out.ok
  have hx0 : w4.cell? ⟨gx, 0, none⟩ = some (.int .i64 r) := HX.out.at 0
  have hx1 : w4.frozen? ⟨gx, 0, none⟩ = false := HX.out.free 0
  have hxl := HX.out.lt
  have hne : g ≠ gx := by have := HS4.out.l0; have := HS4.out.l1; have := HXl.out; omega
  obtain ⟨cn, hcn⟩ : ∃ cn, cn = (A.s.ctr + 1) % 4294967296 := ⟨_, rfl⟩
  have hwr : IntKind.u32.wrap ((A.s.ctr : Int) + 1) = (cn : Int) := by rw [hcn]; simp [IntKind.wrap, IntKind.signed, IntKind.bits]
  have HCn := Lib.hid hcn
  clear hcn
  go_wp2_with fail
  have HS6 : Hid (DonS w g gp p { A with step := RP.zero, s := { A.s with ctr := cn } } ((w4.setCell ⟨g, 34, none⟩ (.int .u32 (cn : Int))).setCell ⟨gx, 0, none⟩ (.int .i64 0))) := Lib.hid ((HS4.out.putCtr cn (by rw [HCn.out]; exact Nat.mod_lt _ (by decide))).far HXl.out 0 _)
  have HX6 : Hid (HasB ((w4.setCell ⟨g, 34, none⟩ (.int .u32 (cn : Int))).setCell ⟨gx, 0, none⟩ (.int .i64 0)) gx #[.int .i64 0, .int .i64 a] 74) := Lib.hid (by simpa using (HX.out.set_other (p := ⟨g, 34, none⟩) hne.symm _).set 0 (.int .i64 0))
  clear h33 h34 hx0 hx1 hxl hfr5 hlt5 HX HS4
  generalize (w4.setCell ⟨g, 34, none⟩ (.int .u32 (cn : Int))).setCell ⟨gx, 0, none⟩ (.int .i64 0) = w6 at HS6 HX6 ⊢
  rw [HCn.out] at HS6
  have hx0 : w6.cell? ⟨gx, 0, none⟩ = some (.int .i64 0) := HX6.out.at 0
  have hxl := HX6.out.lt
  have hx1 : w6.cell? ⟨gx, 1, none⟩ = some (.int .i64 a) := HX6.out.at 1
  have hlt6 := HS6.out.area.lt
  have hfr6 : ∀ i, w6.frozen? ⟨g, i, none⟩ = false := HS6.out.area.free
  have h35 := HS6.out.area.now HS6.out.ok
  have h36 := HS6.out.area.last HS6.out.ok
  go_region
  all_goals go_end0
  all_goals rw [HPOST.out]
  all_goals refine ⟨rfl, ?_⟩
  have hF := (HS6.out.putNow (.writing 0 a) ⟨(by show I64 0; unfold I64; omega), HAi.out⟩).putLast (.writing 0 a) ⟨(by show I64 0; unfold I64; omega), HAi.out⟩
  exact ⟨hF.area, gb_drew hF.gb⟩

set_option maxRecDepth 100000 in
set_option maxHeartbeats 4000000 in
theorem done_write_false (A : RA) (p : RP) (g : Nat) (w : World) (h : AreaAt w g A) (hA : A.Ok) (hp : p.Ok) (r a : Int) (hn : A.now = .writing r a) (heq : p = A.step) (hne : p ≠ RP.zero) :
    Calls Try.prog 15 #[.pointer (some ⟨g, 0, none⟩), p.val, .bool false] w (DoneQ w g { A with step := RP.zero, s := A.s, now := .writing 6 a, last := .writing 6 a }) := by
  obtain ⟨POST, hPOST⟩ : ∃ Q : Ending → World → Prop, Q = DoneQ w g { A with step := RP.zero, s := A.s, now := .writing 6 a, last := .writing 6 a } := ⟨_, rfl⟩
  rw [← hPOST]
  have HPOST := Lib.hid hPOST
  have HP := Lib.hid hp
  have HS := Lib.hid (DonS.start (p := p) h hA)
  have he1 := eqStep p A.step hp hA.step
  have he2 := eqStep p RP.zero hp RP.zero_ok
  unfold RP.val
  obtain ⟨C, hC⟩ : ∃ C, C = p.cells.toArray := ⟨_, rfl⟩
  obtain ⟨QL, hQ⟩ : ∃ QL, QL = A.step.cells := ⟨_, rfl⟩
  have HC := Lib.hid hC
  rw [show RP.zero.cells.toArray = zP from rfl, ← hC] at he2
  rw [← hC, ← hQ] at he1
  rw [← hC] at HS ⊢
  have HIp : Hid ((Try.prog.info? 43).map (·.size) = some C.size) := Lib.hid (by rw [hC, List.size_toArray, RP.len hp]; exact info_sp)
  have HIq : Hid ((Try.prog.info? 43).map (·.size) = some QL.length) := Lib.hid (by rw [hQ, RP.len hA.step]; exact info_sp)
  have HIz : Hid ((Try.prog.info? 43).map (·.size) = some zP.size) := Lib.hid info_sp
  have HR : Hid ((w.alloc (.cells C 43)).rangeAt g 37 QL) := Lib.hid (by rw [hQ]; exact HS.out.area.step hA)
  have HB : Hid ((w.alloc (.cells C 43)).heap[w.heap.size]? = some (.cells C 43 (0, 0))) := Lib.hid (HasB.new w _ _)
  simp only [decide_eq_true heq] at he1
  simp only [decide_eq_false hne] at he2
  clear hne heq
  have HTh : Hid ((w.alloc (.cells C 43)).drew.there g 37 zP.size) := Lib.hid (HS.out.area.there hA (by decide))
  have HN := Lib.hid hn
  have HAi : Hid (I64 a) := Lib.hid (by have := hA.now; rw [hn] at this; exact this.2)
  have ha1 : ∀ v w, (Instr.typeAssert (.iface 74 v) 20 71 true).run Try.prog w = .ok (.tuple #[(.agg #[.int .i64 0]), .bool false]) w := fun v w => rfl
  have ha3 : ∀ v w, (Instr.typeAssert (.iface 74 v) 20 74 true).run Try.prog w = .ok (.tuple #[v, .bool true]) w := fun v w => rfl
  clear hn
  clear hC hQ hPOST h hA hp
  go_enter Try.func15, Try.ntmps15
  go_wp2_with fail
  generalize w.alloc (.cells C 43) = w1 at HS HR HB HTh ⊢
  obtain ⟨gp, hgp⟩ : ∃ gp, gp = w.heap.size := ⟨_, rfl⟩
  rw [← hgp] at HS HB ⊢
  clear hgp
  refine wp_region_held_drew (S := (fun w' => w' = w1.drew)) (by kernel_rfl) (rfl) (fun hHeld => ?_)
  refine held_take 0 (v := (.agg C)) rfl (by kernel_rfl) (by kernel_rfl) (by kernel_rfl) (fun _ _ _ h => h) (by rfl) (fun w hS => ?_) (by assumption) ?_
  · (rw [hS]; exact yield_row _ _ 43 (.tmp 4) (by rfl) gp (by rfl) 43 C (0, 0) _ HB.out Try.underlying43 (by rfl) HIp.out)
  try simp only [Act.put, List.setIfInBounds_toArray, List.set_cons_zero, List.set_cons_succ]
  refine held_take 1 (v := ?_) rfl (by kernel_rfl) (by kernel_rfl) (by kernel_rfl) (fun _ _ _ h => h) (by rfl) (fun w hS => ?_) (by assumption) ?_
  rotate_left
  · try dsimp only at hS
    go_simp <;> with_reducible rfl
  try simp only [Act.put, List.setIfInBounds_toArray, List.set_cons_zero, List.set_cons_succ]
  refine held_take 2 (v := ?_) rfl (by kernel_rfl) (by kernel_rfl) (by kernel_rfl) (fun _ _ _ h => h) (by rfl) (fun w hS => ?_) (by assumption) ?_
  rotate_left
  · try dsimp only at hS
    go_simp <;> with_reducible rfl
  try simp only [Act.put, List.setIfInBounds_toArray, List.set_cons_zero, List.set_cons_succ]
  refine held_take 3 (v := ?_) rfl (by kernel_rfl) (by kernel_rfl) (by kernel_rfl) (fun _ _ _ h => h) (by rfl) (fun w hS => ?_) (by assumption) ?_
  rotate_left
  · try dsimp only at hS
    go_simp <;> with_reducible rfl
  try simp only [Act.put, List.setIfInBounds_toArray, List.set_cons_zero, List.set_cons_succ]
  refine held_take 4 (v := (.agg QL.toArray)) rfl (by kernel_rfl) (by kernel_rfl) (by kernel_rfl) (fun _ _ _ h => h) (by rfl) (fun w hS => ?_) (by assumption) ?_
  · (rw [hS]; exact yield_load_mid _ _ 43 (.tmp 12) (by rfl) g 37 (by rfl) QL _ HR.out Try.underlying43 (by rfl) HIq.out)
  try simp only [Act.put, List.setIfInBounds_toArray, List.set_cons_zero, List.set_cons_succ]
  refine held_take 5 (v := ?_) rfl (by kernel_rfl) (by kernel_rfl) (by kernel_rfl) (fun _ _ _ h => h) (by rfl) (fun w hS => ?_) (by assumption) ?_
  rotate_left
  · try dsimp only at hS
    go_simp <;> with_reducible rfl
  try simp only [Act.put, List.setIfInBounds_toArray, List.set_cons_zero, List.set_cons_succ]
  refine held_take 6 (v := ?_) rfl (by kernel_rfl) (by kernel_rfl) (by kernel_rfl) (fun _ _ _ h => h) (by rfl) (fun w hS => ?_) (by assumption) ?_
  rotate_left
  · try dsimp only at hS
    go_simp <;> with_reducible rfl
  try simp only [Act.put, List.setIfInBounds_toArray, List.set_cons_zero, List.set_cons_succ]
  refine held_take 7 (v := (.agg C)) rfl (by kernel_rfl) (by kernel_rfl) (by kernel_rfl) (fun _ _ _ h => h) (by rfl) (fun w hS => ?_) (by assumption) ?_
  · (rw [hS]; exact yield_row _ _ 43 (.tmp 4) (by rfl) gp (by rfl) 43 C (0, 0) _ HB.out Try.underlying43 (by rfl) HIp.out)
  try simp only [Act.put, List.setIfInBounds_toArray, List.set_cons_zero, List.set_cons_succ]
  refine held_take 8 (v := ?_) rfl (by kernel_rfl) (by kernel_rfl) (by kernel_rfl) (fun _ _ _ h => h) (by rfl) (fun w hS => ?_) (by assumption) ?_
  rotate_left
  · try dsimp only at hS
    go_simp <;> with_reducible rfl
  try simp only [Act.put, List.setIfInBounds_toArray, List.set_cons_zero, List.set_cons_succ]
  refine held_take 9 (v := ?_) rfl (by kernel_rfl) (by kernel_rfl) (by kernel_rfl) (fun _ _ _ h => h) (by rfl) (fun w hS => ?_) (by assumption) ?_
  rotate_left
  · try dsimp only at hS
    go_simp <;> with_reducible rfl
  try simp only [Act.put, List.setIfInBounds_toArray, List.set_cons_zero, List.set_cons_succ]
  refine held_take 10 (v := ?_) rfl (by kernel_rfl) (by kernel_rfl) (by kernel_rfl) (fun _ _ _ h => h) (by rfl) (fun w hS => ?_) (by assumption) ?_
  rotate_left
  · try dsimp only at hS
    go_simp <;> with_reducible rfl
  try simp only [Act.put, List.setIfInBounds_toArray, List.set_cons_zero, List.set_cons_succ]
  refine held_done (by kernel_rfl) ?_
  go_wp2_with (with_reducible refine wpList_store_mid rfl 43 (.tmp 23) (.tmp 21) rfl g 37 zP rfl rfl HTh.out HIz.out zP_one ?_; refine Stop.mk ?_)
  refine Stop.go ?_
  have HS2 : Hid (DonS w g gp p { A with step := RP.zero } (w1.drew.setCells g 37 zP.toList)) := Lib.hid (by rw [zP_list]; exact (HS.out.below (Below.refl _ _).drew).putStep RP.zero_ok)
  generalize w1.drew.setCells g 37 zP.toList = w2 at HS2 ⊢
  clear HS HR HB he1 he2 HTh
  have hlt2 := HS2.out.area.lt
  have h35 : w2.cell? ⟨g, 35, none⟩ = some (Value.iface 74 (.agg #[.int .i64 r, .int .i64 a])) := by have := HS2.out.area.now HS2.out.ok; rw [show RN.val _ = _ from congrArg RN.val HN.out] at this; exact this
  go_wp2_with fail
  have HS6 : Hid (DonS w g gp p { A with step := RP.zero } (w2.alloc (.cells #[.int .i64 6, .int .i64 a] 74))) := Lib.hid (HS2.out.below ((Below.refl _ _).alloc (Nat.le_refl _) _))
  have HX6 : Hid (HasB (w2.alloc (.cells #[.int .i64 6, .int .i64 a] 74)) w2.heap.size #[.int .i64 6, .int .i64 a] 74) := Lib.hid (HasB.new _ _ _)
  have hne : g ≠ w2.heap.size := by have := HS2.out.area.lt; omega
  generalize w2.alloc (.cells #[.int .i64 6, .int .i64 a] 74) = w6 at HS6 HX6 ⊢
  obtain ⟨gx, hgx⟩ : ∃ gx, gx = w2.heap.size := ⟨_, rfl⟩
  rw [← hgx] at HX6 hne ⊢
  clear hgx HS2 h35 hlt2
  have hx0 : w6.cell? ⟨gx, 0, none⟩ = some (.int .i64 6) := HX6.out.at 0
  have hxl := HX6.out.lt
  have hx1 : w6.cell? ⟨gx, 1, none⟩ = some (.int .i64 a) := HX6.out.at 1
  have hlt6 := HS6.out.area.lt
  have hfr6 : ∀ i, w6.frozen? ⟨g, i, none⟩ = false := HS6.out.area.free
  have h35 := HS6.out.area.now HS6.out.ok
  have h36 := HS6.out.area.last HS6.out.ok
  go_region
  all_goals go_end0
  all_goals rw [HPOST.out]
  all_goals refine ⟨rfl, ?_⟩
  have hF := (HS6.out.putNow (.writing 6 a) ⟨(by show I64 6; unfold I64; omega), HAi.out⟩).putLast (.writing 6 a) ⟨(by show I64 6; unfold I64; omega), HAi.out⟩
  exact ⟨hF.area, gb_drew hF.gb⟩

theorem done_any (A : RA) (p : RP) (ok : Bool) (g : Nat) (w : World) (h : AreaAt w g A) (hA : A.Ok) (hp : p.Ok) :
    Calls Try.prog 15 #[.pointer (some ⟨g, 0, none⟩), p.val, .bool ok] w fun e w' => e = .returned (.tuple #[]) ∧ AreaAt w' g (A.done p ok) ∧ w.grownBy w' (some g) := by
  have key : Calls Try.prog 15 #[.pointer (some ⟨g, 0, none⟩), p.val, .bool ok] w (DoneQ w g (A.done p ok)) := by
    unfold RA.done
    by_cases h1 : p = A.step
    · by_cases h2 : p = RP.zero
      · rw [if_pos (.inr h2)]; exact done_none A p g w h hA hp ok h1 h2
      · rw [if_neg (by simp [h1]; rw [← h1]; exact h2)]
        cases hn : A.now with
        | keying r => cases ok with
          | true => exact done_key_true A p g w h hA hp r hn h1 h2
          | false => exact done_key_false A p g w h hA hp r hn h1 h2
        | writing r a => cases ok with
          | true => exact done_write_true A p g w h hA hp r a hn h1 h2
          | false => exact done_write_false A p g w h hA hp r a hn h1 h2
        | _ =>
          have k1 : ∀ r, A.now ≠ .keying r := by simp [hn]
          have k3 : ∀ r a, A.now ≠ .writing r a := by simp [hn]
          cases ok with
          | true => simpa [hn] using done_idle_true A p g w h hA hp h1 h2 k1 k3
          | false => simpa [hn] using done_idle_false A p g w h hA hp h1 h2 k1 k3
    · rw [if_pos (.inl h1)]; exact done_other A p g w h hA hp ok h1
  exact key
end Go.Proofs.Ytkdjimcpdbpemaa
