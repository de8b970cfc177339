/- rpa: Encode: the walk. -/
import Derived.Test.YtkdjimcpdbpemaaRpaZ
namespace Go.Proofs.Ytkdjimcpdbpemaa
open Go Go.RowKit
set_option linter.unusedVariables false

theorem u8s_splice (L : List Nat) (o : Nat) (X : List Nat) : splice (u8s L) o (u8s X) = u8s (splice L o X) := by
  unfold splice u8s
  simp [List.map_take, List.map_drop]
def L0 (f : RF) : List Nat := List.replicate 128 0
def L1 (f : RF) : List Nat := splice (L0 f) 4 f.tag
def L2 (f : RF) : List Nat := splice (L1 f) 36 f.data
def L3 (f : RF) : List Nat := splice (L2 f) 100 f.nonce
theorem L0_len {f : RF} (h : f.Ok) : (L0 f).length = 128 := by simp [L0]
theorem L1_len {f : RF} (h : f.Ok) : (L1 f).length = 128 := (length_splice _ _ _ (by rw [L0_len h, h.tl]; decide)).trans (L0_len h)
theorem L2_len {f : RF} (h : f.Ok) : (L2 f).length = 128 := (length_splice _ _ _ (by rw [L1_len h, h.dl]; decide)).trans (L1_len h)
theorem L3_len {f : RF} (h : f.Ok) : (L3 f).length = 128 := (length_splice _ _ _ (by rw [L2_len h, h.nl]; decide)).trans (L2_len h)
def L4 (f : RF) : List Nat := ((((L3 f).set 116 (f.ctr / 16777216 % 256)).set 117 (f.ctr / 65536 % 256)).set 118 (f.ctr / 256 % 256)).set 119 (f.ctr % 256)
theorem L4_len {f : RF} (h : f.Ok) : (L4 f).length = 128 := by simp only [L4, List.length_set]; exact L3_len h
def L5 (f : RF) : List Nat := ((L4 f).set 120 (f.addr / 256 % 256).toNat).set 121 (f.addr % 256).toNat
theorem L5_len {f : RF} (h : f.Ok) : (L5 f).length = 128 := by simp only [L5, List.length_set]; exact L4_len h
def L6 (f : RF) : List Nat := ((L5 f).set 122 (f.count / 256 % 256).toNat).set 123 (f.count % 256).toNat
theorem L6_len {f : RF} (h : f.Ok) : (L6 f).length = 128 := by simp only [L6, List.length_set]; exact L5_len h
def L7 (f : RF) : List Nat := ((L6 f).set 124 (f.res / 256 % 256).toNat).set 125 (f.res % 256).toNat
theorem L7_len {f : RF} (h : f.Ok) : (L7 f).length = 128 := by simp only [L7, List.length_set]; exact L6_len h
def L8 (f : RF) : List Nat := ((L7 f).set 126 (f.typ / 256 % 256).toNat).set 127 (f.typ % 256).toNat
theorem L8_len {f : RF} (h : f.Ok) : (L8 f).length = 128 := by simp only [L8, List.length_set]; exact L7_len h
theorem info_128 : (Try.prog.info? 45).map (·.size) = some 128 := by kernel_rfl
theorem splice_zeros (A X : List Nat) (o n m : Nat) (ho : A.length = o) (hn : X.length = n) : splice (A ++ List.replicate (n + m) 0) o X = (A ++ X) ++ List.replicate m 0 := by
  subst ho hn
  unfold splice
  simp [List.drop_append, List.drop_eq_nil_of_le]
theorem L3_eq {f : RF} (h : f.Ok) : L3 f = (((List.replicate 4 0 ++ f.tag) ++ f.data) ++ f.nonce) ++ List.replicate 12 0 := by
  have e0 : L0 f = List.replicate 4 0 ++ List.replicate (32 + 92) 0 := by simp [L0, List.replicate_append_replicate]
  have e1 : L1 f = (List.replicate 4 0 ++ f.tag) ++ List.replicate (64 + 28) 0 := by
    unfold L1; rw [e0]; exact splice_zeros _ _ 4 32 92 (by simp) h.tl
  have e2 : L2 f = ((List.replicate 4 0 ++ f.tag) ++ f.data) ++ List.replicate (16 + 12) 0 := by
    unfold L2; rw [e1]; exact splice_zeros _ _ 36 64 28 (by simp [h.tl]) h.dl
  unfold L3; rw [e2]; exact splice_zeros _ _ 100 16 12 (by simp [h.tl, h.dl]) h.nl
theorem L8_eq {f : RF} (h : f.Ok) : L8 f = f.enc := by
  obtain ⟨A, hA⟩ : ∃ A, A = ((List.replicate 4 0 ++ f.tag) ++ f.data) ++ f.nonce := ⟨_, rfl⟩
  have hl : A.length = 116 := by rw [hA]; simp [h.tl, h.dl, h.nl]
  have e3 : L3 f = A ++ List.replicate 12 0 := by rw [L3_eq h, hA]
  have st : ∀ (Q : List Nat) (k v : Nat), (A ++ Q).set (116 + k) v = A ++ Q.set k v := fun Q k v => by
    rw [List.set_append_right _ _ (by omega), hl, Nat.add_sub_cancel_left]
  unfold L8 L7 L6 L5 L4
  rw [e3]
  rw [show 116 = 116 + 0 from rfl, st, show 117 = 116 + 1 from rfl, st, show 118 = 116 + 2 from rfl, st, show 119 = 116 + 3 from rfl, st, show 120 = 116 + 4 from rfl, st, show 121 = 116 + 5 from rfl, st, show 122 = 116 + 6 from rfl, st, show 123 = 116 + 7 from rfl, st, show 124 = 116 + 8 from rfl, st, show 125 = 116 + 9 from rfl, st, show 126 = 116 + 10 from rfl, st, show 127 = 116 + 11 from rfl, st]
  rw [hA]
  simp [RF.enc, be2, be4, List.replicate]
/-- The frame's box, the bytes so far. -/
structure EncS (f : RF) (w0 : World) (gf gr gb : Nat) (L : List Nat) (w : World) : Prop where
  box : HasB w gf f.cells.toArray 37
  buf : HasB w gb (u8s L).toArray 45
  be : Below w0.heap.size w0 w
  lt : gf < gb
  lo : w0.heap.size ≤ gf
  res : HasB w gr z128 45
  rt : gr < gb
  rl : w0.heap.size ≤ gr
section
variable {f : RF} {w0 w w' : World} {gf gr gb : Nat} {L L' : List Nat}
theorem EncS.cell (h : EncS f w0 gf gr gb L w) (k : Nat) : w.cell? ⟨gf, k, none⟩ = f.cells[k]? := by rw [h.box.at k]; simp
theorem EncS.src_tag (h : EncS f w0 gf gr gb L w) (hf : f.Ok) : ∀ (j : Nat) (v : Value), (u8s f.tag)[j]? = some v → w.drew.cell? ((⟨gf, 0, none⟩ : Addr).add j) = some v := by
  intro j v hj
  have hl : j < 32 := by have := (List.getElem?_eq_some_iff.1 hj).1; rwa [u8s_len, hf.tl] at this
  rw [Go.WideShapes.add_plain]
  refine ((h.cell (0 + j)).trans ?_ : w.cell? _ = _)
  rw [Nat.zero_add, RF.at_tag hf j hl, ← hj]
  have := hf.tl
  simp [u8s, List.getD, show j < f.tag.length by omega]
theorem EncS.src_data (h : EncS f w0 gf gr gb L w) (hf : f.Ok) : ∀ (j : Nat) (v : Value), (u8s f.data)[j]? = some v → w.drew.cell? ((⟨gf, 32, none⟩ : Addr).add j) = some v := by
  intro j v hj
  have hl : j < 64 := by have := (List.getElem?_eq_some_iff.1 hj).1; rwa [u8s_len, hf.dl] at this
  rw [Go.WideShapes.add_plain]
  refine ((h.cell (32 + j)).trans ?_ : w.cell? _ = _)
  rw [RF.at_data hf j hl, ← hj]
  have := hf.dl
  simp [u8s, List.getD, show j < f.data.length by omega]
theorem EncS.src_nonce (h : EncS f w0 gf gr gb L w) (hf : f.Ok) : ∀ (j : Nat) (v : Value), (u8s f.nonce)[j]? = some v → w.drew.cell? ((⟨gf, 96, none⟩ : Addr).add j) = some v := by
  intro j v hj
  have hl : j < 16 := by have := (List.getElem?_eq_some_iff.1 hj).1; rwa [u8s_len, hf.nl] at this
  rw [Go.WideShapes.add_plain]
  refine ((h.cell (96 + j)).trans ?_ : w.cell? _ = _)
  rw [RF.at_nonce hf j hl, ← hj]
  have := hf.nl
  simp [u8s, List.getD, show j < f.nonce.length by omega]
theorem EncS.old (h : EncS f w0 gf gr gb L w) (hl : L.length = 128) (k : Nat) (hk : k < 128) : ∃ v : Nat, w.cell? ⟨gb, k, none⟩ = some (.int .u8 (v : Int)) := by
  refine ⟨L.getD k 0, ?_⟩
  rw [h.buf.at k]
  simp [u8s, List.getD, show k < L.length by omega]
theorem EncS.below (h : EncS f w0 gf gr gb L w) (hb : Below w.heap.size w w') : EncS f w0 gf gr gb L w' :=
  ⟨h.box.below hb h.box.lt, h.buf.below hb h.buf.lt, h.be.trans (hb.mono h.be.size), h.lt, h.lo, h.res.below hb h.res.lt, h.rt, h.rl⟩
theorem EncS.next (h : EncS f w0 gf gr gb L w) (hb : Below gb w.drew w') (hg : HasB w' gb (u8s L').toArray 45) : EncS f w0 gf gr gb L' w' :=
  ⟨(hb.block gf h.lt).trans h.box, hg, h.be.trans ((Below.refl _ _).drew.trans (hb.mono (by have := h.lo; have := h.lt; omega))), h.lt, h.lo, (hb.block gr h.rt).trans h.res, h.rt, h.rl⟩
theorem EncS.put (h : EncS f w0 gf gr gb L w) (k v : Nat) : EncS f w0 gf gr gb (L.set k v) (w.setCell ⟨gb, k, none⟩ (.int .u8 (v : Int))) := by
  have hb : Below gb w (w.setCell ⟨gb, k, none⟩ (.int .u8 (v : Int))) := (Below.refl _ _).setCell (p := ⟨gb, k, none⟩) (Nat.le_refl _) _
  refine ⟨(hb.block gf h.lt).trans h.box, ?_, h.be.trans (hb.mono (by have := h.lo; have := h.lt; omega)), h.lt, h.lo, (hb.block gr h.rt).trans h.res, h.rt, h.rl⟩
  have := h.buf.set k (.int .u8 (v : Int))
  rw [← u8s_set]
  simpa using this
end
set_option maxRecDepth 100000 in
set_option maxHeartbeats 4000000 in
theorem renc_any (f : RF) (w : World) (hf : f.Ok) :
    Calls Try.prog 13 #[f.val] w fun e w' => e = .returned (.agg (u8s f.enc).toArray) ∧ Below w.heap.size w w' := by
  obtain ⟨POST, hPOST⟩ : ∃ Q : Ending → World → Prop, Q = fun e w' => e = .returned (.agg (u8s f.enc).toArray) ∧ Below w.heap.size w w' := ⟨_, rfl⟩
  rw [← hPOST]
  have HPOST := Lib.hid hPOST
  unfold RF.val
  obtain ⟨C, hC⟩ : ∃ C, C = f.cells.toArray := ⟨_, rfl⟩
  rw [← hC]
  have HC := Lib.hid hC
  have hsz : C.size = 117 := by rw [hC]; simp [RF.cells_len hf]
  have HSz := Lib.hid hsz
  have HF := Lib.hid hf
  clear hPOST hC hsz hf
  go_enter Try.func13, Try.ntmps13
  go_wp2_with fail
  have H1 : Hid (EncS f w w.heap.size (w.heap.size + 1) (w.heap.size + 1 + 1) (L0 f) (((w.alloc (Obj.cells C 37)).alloc (Obj.cells z128 45)).alloc (Obj.cells z128 45))) := Lib.hid (by
    rw [HC.out]
    exact ⟨((HasB.new w _ _).alloc _).alloc _, HasB.new' (by simp) _ _, (((Below.refl _ _).alloc (Nat.le_refl _) _).alloc (by simp) _).alloc (by simp; omega) _, by omega, Nat.le_refl _, (HasB.new' (by simp) _ _).alloc _, by omega, by omega⟩)
  generalize (((w.alloc (Obj.cells C 37)).alloc (Obj.cells z128 45)).alloc (Obj.cells z128 45)) = w1 at H1 ⊢
  obtain ⟨gf, hgf⟩ : ∃ gf, gf = w.heap.size := ⟨_, rfl⟩
  obtain ⟨gb, hgb⟩ : ∃ gb, gb = w.heap.size + 1 + 1 := ⟨_, rfl⟩
  obtain ⟨gr, hgr⟩ : ∃ gr, gr = w.heap.size + 1 := ⟨_, rfl⟩
  rw [← hgb, ← hgr, ← hgf] at H1
  rw [← hgb, ← hgr, ← hgf]
  clear hgf hgb hgr
  refine wp_region_held_drew (S := (fun _ => True)) (by kernel_rfl) (trivial) (fun hHeld => ?_)
  refine held_take 0 (v := ?_) rfl (by kernel_rfl) (by kernel_rfl) (by kernel_rfl) (fun _ _ _ h => h) (by rfl) (fun w hS => ?_) (by assumption) ?_
  rotate_left
  · try dsimp only at hS
    go_simp <;> with_reducible rfl
  try simp only [Act.put, List.setIfInBounds_toArray, List.set_cons_zero, List.set_cons_succ]
  refine held_take 1 (v := ?_) rfl (by kernel_rfl) (by kernel_rfl) (by kernel_rfl) (fun _ _ _ h => h) (by rfl) (fun w hS => ?_) (by assumption) ?_
  rotate_left
  · try dsimp only at hS
    go_simp <;> with_reducible rfl
  try simp only [Act.put, List.setIfInBounds_toArray, List.set_cons_zero, List.set_cons_succ]
  refine held_take 2 (v := ?_) rfl (by kernel_rfl) (by kernel_rfl) (by kernel_rfl) (fun _ _ _ h => h) (by rfl) (fun w hS => ?_) (by assumption) ?_
  rotate_left
  · try dsimp only at hS
    go_simp <;> with_reducible rfl
  try simp only [Act.put, List.setIfInBounds_toArray, List.set_cons_zero, List.set_cons_succ]
  refine held_one 3 rfl (by kernel_rfl) (fun K hK => ?_)
  refine step_copy_splice rfl (.tmp 8) (.tmp 10) 50 50 rfl 5 Try.underlying50 (by kernel_rfl) (some ⟨gb, 4, none⟩) (some ⟨gf, 0, none⟩) 124 124 32 32 rfl rfl gb 4 (u8s (L0 f)) 45 H1.out.buf (u8s f.tag) (by rw [u8s_len, HF.out.tl]; rfl) (fun _ => ⟨rfl, _, rfl, H1.out.src_tag HF.out⟩) (by rw [u8s_len, u8s_len, HF.out.tl, L0_len HF.out]; decide) (u8s_one _) gb w1.drew (Below.refl _ _) (Nat.le_refl _) ?_
  intro w2 hg2 hb2
  refine hK.out _ _ (fun _ => True) (fun _ _ => trivial) trivial (fun hHeld => ?_)
  clear hK K
  try simp only [Act.put, List.setIfInBounds_toArray, List.set_cons_zero, List.set_cons_succ]
  refine held_done (by kernel_rfl) ?_
  have H2 : Hid (EncS f w gf gr gb (L1 f) w2) := Lib.hid (H1.out.next hb2 (by have := hg2.out; rw [u8s_splice] at this; exact this))
  clear hg2 hb2 H1
  go_wp2_with fail
  refine wp_region_held_drew (S := (fun _ => True)) (by kernel_rfl) (trivial) (fun hHeld => ?_)
  refine held_take 0 (v := ?_) rfl (by kernel_rfl) (by kernel_rfl) (by kernel_rfl) (fun _ _ _ h => h) (by rfl) (fun w hS => ?_) (by assumption) ?_
  rotate_left
  · try dsimp only at hS
    go_simp <;> with_reducible rfl
  try simp only [Act.put, List.setIfInBounds_toArray, List.set_cons_zero, List.set_cons_succ]
  refine held_take 1 (v := ?_) rfl (by kernel_rfl) (by kernel_rfl) (by kernel_rfl) (fun _ _ _ h => h) (by rfl) (fun w hS => ?_) (by assumption) ?_
  rotate_left
  · try dsimp only at hS
    go_simp <;> with_reducible rfl
  try simp only [Act.put, List.setIfInBounds_toArray, List.set_cons_zero, List.set_cons_succ]
  refine held_take 2 (v := ?_) rfl (by kernel_rfl) (by kernel_rfl) (by kernel_rfl) (fun _ _ _ h => h) (by rfl) (fun w hS => ?_) (by assumption) ?_
  rotate_left
  · try dsimp only at hS
    go_simp <;> with_reducible rfl
  try simp only [Act.put, List.setIfInBounds_toArray, List.set_cons_zero, List.set_cons_succ]
  refine held_one 3 rfl (by kernel_rfl) (fun K hK => ?_)
  refine step_copy_splice rfl (.tmp 12) (.tmp 14) 50 50 rfl 5 Try.underlying50 (by kernel_rfl) (some ⟨gb, 36, none⟩) (some ⟨gf, 32, none⟩) 92 92 64 64 rfl rfl gb 36 (u8s (L1 f)) 45 H2.out.buf (u8s f.data) (by rw [u8s_len, HF.out.dl]; rfl) (fun _ => ⟨rfl, _, rfl, H2.out.src_data HF.out⟩) (by rw [u8s_len, u8s_len, HF.out.dl, L1_len HF.out]; decide) (u8s_one _) gb w2.drew (Below.refl _ _) (Nat.le_refl _) ?_
  intro w3 hg3 hb3
  refine hK.out _ _ (fun _ => True) (fun _ _ => trivial) trivial (fun hHeld => ?_)
  clear hK K
  try simp only [Act.put, List.setIfInBounds_toArray, List.set_cons_zero, List.set_cons_succ]
  refine held_done (by kernel_rfl) ?_
  have H3 : Hid (EncS f w gf gr gb (L2 f) w3) := Lib.hid (H2.out.next hb3 (by have := hg3.out; rw [u8s_splice] at this; exact this))
  clear hg3 hb3 H2
  go_wp2_with fail
  refine wp_region_held_drew (S := (fun _ => True)) (by kernel_rfl) (trivial) (fun hHeld => ?_)
  refine held_take 0 (v := ?_) rfl (by kernel_rfl) (by kernel_rfl) (by kernel_rfl) (fun _ _ _ h => h) (by rfl) (fun w hS => ?_) (by assumption) ?_
  rotate_left
  · try dsimp only at hS
    go_simp <;> with_reducible rfl
  try simp only [Act.put, List.setIfInBounds_toArray, List.set_cons_zero, List.set_cons_succ]
  refine held_take 1 (v := ?_) rfl (by kernel_rfl) (by kernel_rfl) (by kernel_rfl) (fun _ _ _ h => h) (by rfl) (fun w hS => ?_) (by assumption) ?_
  rotate_left
  · try dsimp only at hS
    go_simp <;> with_reducible rfl
  try simp only [Act.put, List.setIfInBounds_toArray, List.set_cons_zero, List.set_cons_succ]
  refine held_take 2 (v := ?_) rfl (by kernel_rfl) (by kernel_rfl) (by kernel_rfl) (fun _ _ _ h => h) (by rfl) (fun w hS => ?_) (by assumption) ?_
  rotate_left
  · try dsimp only at hS
    go_simp <;> with_reducible rfl
  try simp only [Act.put, List.setIfInBounds_toArray, List.set_cons_zero, List.set_cons_succ]
  refine held_one 3 rfl (by kernel_rfl) (fun K hK => ?_)
  refine step_copy_splice rfl (.tmp 16) (.tmp 18) 50 50 rfl 5 Try.underlying50 (by kernel_rfl) (some ⟨gb, 100, none⟩) (some ⟨gf, 96, none⟩) 28 28 16 16 rfl rfl gb 100 (u8s (L2 f)) 45 H3.out.buf (u8s f.nonce) (by rw [u8s_len, HF.out.nl]; rfl) (fun _ => ⟨rfl, _, rfl, H3.out.src_nonce HF.out⟩) (by rw [u8s_len, u8s_len, HF.out.nl, L2_len HF.out]; decide) (u8s_one _) gb w3.drew (Below.refl _ _) (Nat.le_refl _) ?_
  intro w4 hg4 hb4
  refine hK.out _ _ (fun _ => True) (fun _ _ => trivial) trivial (fun hHeld => ?_)
  clear hK K
  try simp only [Act.put, List.setIfInBounds_toArray, List.set_cons_zero, List.set_cons_succ]
  refine held_done (by kernel_rfl) ?_
  have H4 : Hid (EncS f w gf gr gb (L3 f) w4) := Lib.hid (H3.out.next hb4 (by have := hg4.out; rw [u8s_splice] at this; exact this))
  clear hg4 hb4 H3
  go_wp2_with fail
  have c0 : w4.cell? ⟨gf, 112, none⟩ = some (.int .u32 (f.ctr : Int)) := (H4.out.cell (112 + 0)).trans (RF.at_tail HF.out 0 (by decide))
  have c1 : w4.cell? ⟨gf, 113, none⟩ = some (.int .i64 f.addr) := (H4.out.cell (112 + 1)).trans (RF.at_tail HF.out 1 (by decide))
  have c2 : w4.cell? ⟨gf, 114, none⟩ = some (.int .i64 f.count) := (H4.out.cell (112 + 2)).trans (RF.at_tail HF.out 2 (by decide))
  have c3 : w4.cell? ⟨gf, 115, none⟩ = some (.int .i64 f.res) := (H4.out.cell (112 + 3)).trans (RF.at_tail HF.out 3 (by decide))
  have c4 : w4.cell? ⟨gf, 116, none⟩ = some (.int .i64 f.typ) := (H4.out.cell (112 + 4)).trans (RF.at_tail HF.out 4 (by decide))
  obtain ⟨o0, p0⟩ := H4.out.old (L3_len HF.out) 116 (by decide)
  obtain ⟨o1, p1⟩ := H4.out.old (L3_len HF.out) 117 (by decide)
  obtain ⟨o2, p2⟩ := H4.out.old (L3_len HF.out) 118 (by decide)
  obtain ⟨o3, p3⟩ := H4.out.old (L3_len HF.out) 119 (by decide)
  have z0 := H4.out.buf.free 116
  have z1 := H4.out.buf.free 117
  have z2 := H4.out.buf.free 118
  have z3 := H4.out.buf.free 119
  have hne : ¬ gb = gf := by have := H4.out.lt; omega
  have hne2 : ¬ gf = gb := fun e => hne e.symm
  refine wp_loop_rounds 5 ?_
  rw [rounds_succ]
  go_wp2_with fail
  rw [rounds_succ]
  go_wp2_with fail
  rw [rounds_succ]
  go_wp2_with fail
  rw [rounds_succ]
  go_wp2_with fail
  rw [rounds_succ]
  go_wp2_with fail
  have H5 := (((H4.out.put 116 (f.ctr / 16777216 % 256)).put 117 (f.ctr / 65536 % 256)).put 118 (f.ctr / 256 % 256)).put 119 (f.ctr % 256)
  rw [show ((f.ctr / 16777216 % 256 : Nat) : Int) = (f.ctr : Int) / 16777216 % 256 by omega, show ((f.ctr / 65536 % 256 : Nat) : Int) = (f.ctr : Int) / 65536 % 256 by omega, show ((f.ctr / 256 % 256 : Nat) : Int) = (f.ctr : Int) / 256 % 256 by omega, show ((f.ctr % 256 : Nat) : Int) = (f.ctr : Int) % 256 by omega] at H5
  have H6 : Hid (EncS f w gf gr gb (L4 f) (((((w4.setCell ⟨gb, 116, none⟩ (.int .u8 ((f.ctr : Int) / 16777216 % 256))).setCell ⟨gb, 117, none⟩ (.int .u8 ((f.ctr : Int) / 65536 % 256))).setCell ⟨gb, 118, none⟩ (.int .u8 ((f.ctr : Int) / 256 % 256))).setCell ⟨gb, 119, none⟩ (.int .u8 ((f.ctr : Int) % 256))).alloc (Obj.cells #[Value.int IntKind.i64 f.addr, Value.int IntKind.i64 f.count, Value.int IntKind.i64 f.res, Value.int IntKind.i64 f.typ] 3))) := Lib.hid (H5.below ((Below.refl _ _).alloc (Nat.le_refl _) _))
  have HS : Hid (HasB (((((w4.setCell ⟨gb, 116, none⟩ (.int .u8 ((f.ctr : Int) / 16777216 % 256))).setCell ⟨gb, 117, none⟩ (.int .u8 ((f.ctr : Int) / 65536 % 256))).setCell ⟨gb, 118, none⟩ (.int .u8 ((f.ctr : Int) / 256 % 256))).setCell ⟨gb, 119, none⟩ (.int .u8 ((f.ctr : Int) % 256))).alloc (Obj.cells #[Value.int IntKind.i64 f.addr, Value.int IntKind.i64 f.count, Value.int IntKind.i64 f.res, Value.int IntKind.i64 f.typ] 3)) w4.heap.size #[Value.int IntKind.i64 f.addr, Value.int IntKind.i64 f.count, Value.int IntKind.i64 f.res, Value.int IntKind.i64 f.typ] 3) := Lib.hid (HasB.new' (by simp) _ _)
  obtain ⟨gs, hgs⟩ : ∃ gs, gs = w4.heap.size := ⟨_, rfl⟩
  have hbs : gb < gs := by rw [hgs]; exact H4.out.buf.lt
  rw [← hgs] at HS ⊢
  clear hgs H5 c0 c1 c2 c3 c4 p0 p1 p2 p3 z0 z1 z2 z3
  generalize (((((w4.setCell ⟨gb, 116, none⟩ (.int .u8 ((f.ctr : Int) / 16777216 % 256))).setCell ⟨gb, 117, none⟩ (.int .u8 ((f.ctr : Int) / 65536 % 256))).setCell ⟨gb, 118, none⟩ (.int .u8 ((f.ctr : Int) / 256 % 256))).setCell ⟨gb, 119, none⟩ (.int .u8 ((f.ctr : Int) % 256))).alloc (Obj.cells #[Value.int IntKind.i64 f.addr, Value.int IntKind.i64 f.count, Value.int IntKind.i64 f.res, Value.int IntKind.i64 f.typ] 3)) = w6 at H6 HS ⊢
  clear H4
  have hn3 : ¬ gb = gs := by omega
  have hn4 : ¬ gs = gb := by omega
  refine wp_loop_rounds 5 ?_
  have s0 : w6.cell? ⟨gs, 0, none⟩ = some (.int .i64 f.addr) := HS.out.at 0
  obtain ⟨o0, p0⟩ := H6.out.old (L4_len HF.out) 120 (by decide)
  obtain ⟨o1, p1⟩ := H6.out.old (L4_len HF.out) 121 (by decide)
  have z0 := H6.out.buf.free 120
  have z1 := H6.out.buf.free 121
  rw [rounds_succ]
  go_wp2_with fail
  have h7 := (H6.out.put 120 (f.addr / 256 % 256).toNat).put 121 (f.addr % 256).toNat
  rw [show (((f.addr / 256 % 256).toNat : Nat) : Int) = f.addr / 256 % 256 by omega, show (((f.addr % 256).toNat : Nat) : Int) = f.addr % 256 by omega] at h7
  have H7 : Hid (EncS f w gf gr gb (L5 f) ((w6.setCell ⟨gb, 120, none⟩ (.int .u8 (f.addr / 256 % 256))).setCell ⟨gb, 121, none⟩ (.int .u8 (f.addr % 256)))) := Lib.hid h7
  have HS7 : Hid (HasB ((w6.setCell ⟨gb, 120, none⟩ (.int .u8 (f.addr / 256 % 256))).setCell ⟨gb, 121, none⟩ (.int .u8 (f.addr % 256))) gs #[Value.int IntKind.i64 f.addr, Value.int IntKind.i64 f.count, Value.int IntKind.i64 f.res, Value.int IntKind.i64 f.typ] 3) := Lib.hid ((HS.out.set_other (p := ⟨gb, 120, none⟩) hn4 _).set_other (p := ⟨gb, 121, none⟩) hn4 _)
  clear h7 s0 p0 p1 z0 z1
  generalize ((w6.setCell ⟨gb, 120, none⟩ (.int .u8 (f.addr / 256 % 256))).setCell ⟨gb, 121, none⟩ (.int .u8 (f.addr % 256))) = w7 at H7 HS7 ⊢
  clear H6 HS
  have HS := HS7
  clear HS7
  have s1 : w7.cell? ⟨gs, 1, none⟩ = some (.int .i64 f.count) := HS.out.at 1
  obtain ⟨o0, p0⟩ := H7.out.old (L5_len HF.out) 122 (by decide)
  obtain ⟨o1, p1⟩ := H7.out.old (L5_len HF.out) 123 (by decide)
  have z0 := H7.out.buf.free 122
  have z1 := H7.out.buf.free 123
  rw [rounds_succ]
  go_wp2_with fail
  have h8 := (H7.out.put 122 (f.count / 256 % 256).toNat).put 123 (f.count % 256).toNat
  rw [show (((f.count / 256 % 256).toNat : Nat) : Int) = f.count / 256 % 256 by omega, show (((f.count % 256).toNat : Nat) : Int) = f.count % 256 by omega] at h8
  have H8 : Hid (EncS f w gf gr gb (L6 f) ((w7.setCell ⟨gb, 122, none⟩ (.int .u8 (f.count / 256 % 256))).setCell ⟨gb, 123, none⟩ (.int .u8 (f.count % 256)))) := Lib.hid h8
  have HS8 : Hid (HasB ((w7.setCell ⟨gb, 122, none⟩ (.int .u8 (f.count / 256 % 256))).setCell ⟨gb, 123, none⟩ (.int .u8 (f.count % 256))) gs #[Value.int IntKind.i64 f.addr, Value.int IntKind.i64 f.count, Value.int IntKind.i64 f.res, Value.int IntKind.i64 f.typ] 3) := Lib.hid ((HS.out.set_other (p := ⟨gb, 122, none⟩) hn4 _).set_other (p := ⟨gb, 123, none⟩) hn4 _)
  clear h8 s1 p0 p1 z0 z1
  generalize ((w7.setCell ⟨gb, 122, none⟩ (.int .u8 (f.count / 256 % 256))).setCell ⟨gb, 123, none⟩ (.int .u8 (f.count % 256))) = w8 at H8 HS8 ⊢
  clear H7 HS
  have HS := HS8
  clear HS8
  have s2 : w8.cell? ⟨gs, 2, none⟩ = some (.int .i64 f.res) := HS.out.at 2
  obtain ⟨o0, p0⟩ := H8.out.old (L6_len HF.out) 124 (by decide)
  obtain ⟨o1, p1⟩ := H8.out.old (L6_len HF.out) 125 (by decide)
  have z0 := H8.out.buf.free 124
  have z1 := H8.out.buf.free 125
  rw [rounds_succ]
  go_wp2_with fail
  have h9 := (H8.out.put 124 (f.res / 256 % 256).toNat).put 125 (f.res % 256).toNat
  rw [show (((f.res / 256 % 256).toNat : Nat) : Int) = f.res / 256 % 256 by omega, show (((f.res % 256).toNat : Nat) : Int) = f.res % 256 by omega] at h9
  have H9 : Hid (EncS f w gf gr gb (L7 f) ((w8.setCell ⟨gb, 124, none⟩ (.int .u8 (f.res / 256 % 256))).setCell ⟨gb, 125, none⟩ (.int .u8 (f.res % 256)))) := Lib.hid h9
  have HS9 : Hid (HasB ((w8.setCell ⟨gb, 124, none⟩ (.int .u8 (f.res / 256 % 256))).setCell ⟨gb, 125, none⟩ (.int .u8 (f.res % 256))) gs #[Value.int IntKind.i64 f.addr, Value.int IntKind.i64 f.count, Value.int IntKind.i64 f.res, Value.int IntKind.i64 f.typ] 3) := Lib.hid ((HS.out.set_other (p := ⟨gb, 124, none⟩) hn4 _).set_other (p := ⟨gb, 125, none⟩) hn4 _)
  clear h9 s2 p0 p1 z0 z1
  generalize ((w8.setCell ⟨gb, 124, none⟩ (.int .u8 (f.res / 256 % 256))).setCell ⟨gb, 125, none⟩ (.int .u8 (f.res % 256))) = w9 at H9 HS9 ⊢
  clear H8 HS
  have HS := HS9
  clear HS9
  have s3 : w9.cell? ⟨gs, 3, none⟩ = some (.int .i64 f.typ) := HS.out.at 3
  obtain ⟨o0, p0⟩ := H9.out.old (L7_len HF.out) 126 (by decide)
  obtain ⟨o1, p1⟩ := H9.out.old (L7_len HF.out) 127 (by decide)
  have z0 := H9.out.buf.free 126
  have z1 := H9.out.buf.free 127
  rw [rounds_succ]
  go_wp2_with fail
  have h10 := (H9.out.put 126 (f.typ / 256 % 256).toNat).put 127 (f.typ % 256).toNat
  rw [show (((f.typ / 256 % 256).toNat : Nat) : Int) = f.typ / 256 % 256 by omega, show (((f.typ % 256).toNat : Nat) : Int) = f.typ % 256 by omega] at h10
  have H10 : Hid (EncS f w gf gr gb (L8 f) ((w9.setCell ⟨gb, 126, none⟩ (.int .u8 (f.typ / 256 % 256))).setCell ⟨gb, 127, none⟩ (.int .u8 (f.typ % 256)))) := Lib.hid h10
  have HS10 : Hid (HasB ((w9.setCell ⟨gb, 126, none⟩ (.int .u8 (f.typ / 256 % 256))).setCell ⟨gb, 127, none⟩ (.int .u8 (f.typ % 256))) gs #[Value.int IntKind.i64 f.addr, Value.int IntKind.i64 f.count, Value.int IntKind.i64 f.res, Value.int IntKind.i64 f.typ] 3) := Lib.hid ((HS.out.set_other (p := ⟨gb, 126, none⟩) hn4 _).set_other (p := ⟨gb, 127, none⟩) hn4 _)
  clear h10 s3 p0 p1 z0 z1
  generalize ((w9.setCell ⟨gb, 126, none⟩ (.int .u8 (f.typ / 256 % 256))).setCell ⟨gb, 127, none⟩ (.int .u8 (f.typ % 256))) = w10 at H10 HS10 ⊢
  clear H9 HS
  have HS := HS10
  clear HS10
  obtain ⟨D, hD⟩ : ∃ D, D = (u8s (L8 f)).toArray := ⟨_, rfl⟩
  have HD := Lib.hid hD
  have HQ1 : Hid (w10.heap[gb]? = some (.cells D 45 (0, 0))) := Lib.hid (by rw [hD]; exact H10.out.buf)
  have HQ2 : Hid (w10.heap[gr]? = some (.cells z128 45 (0, 0))) := Lib.hid H10.out.res
  have hds : D.size = 128 := by rw [hD, List.size_toArray, u8s_len, L8_len HF.out]
  have HI : Hid ((Try.prog.info? 45).map (·.size) = some D.size) := Lib.hid (by rw [hds]; exact info_128)
  have HOld : Hid (z128.size = D.size) := Lib.hid (by rw [hds]; rfl)
  have HOne : Hid (D.all (·.oneCell') = true) := Lib.hid (by rw [hD]; exact u8_oneA _)
  have HSet : Hid ((w10.setRow gr D).heap[gr]? = some (.cells D 45 (0, 0)) ∧ Below w.heap.size w (w10.setRow gr D)) := Lib.hid ⟨setRow_heap _ gr _ D 45 (0, 0) HQ2.out, below_setRow H10.out.be H10.out.rl D⟩
  have HEq : Hid ((u8s f.enc).toArray = D) := Lib.hid (by rw [hD, L8_eq HF.out])
  rw [HEq.out] at HPOST
  clear hD hds HS H10
  rw [rounds_succ]
  go_wp2_with (first | (with_reducible refine wpList_load_row rfl 45 (.tmp 3) rfl gb rfl 45 D (0, 0) _ HQ1.out Try.underlying45 rfl HI.out ?_) | (with_reducible refine wpList_store_row rfl 45 (.tmp 2) (.tmp 68) rfl gr D rfl rfl 45 _ HQ2.out HI.out HOld.out HOne.out ?_))
  rw [HPOST.out]
  exact bodyPost_ret (results_cell_row (p := 2) (by kernel_rfl) _ _ gr 45 D (0, 0) _ rfl HSet.out.1 Try.underlying45 rfl HI.out) rfl ⟨rfl, HSet.out.2⟩
end Go.Proofs.Ytkdjimcpdbpemaa
