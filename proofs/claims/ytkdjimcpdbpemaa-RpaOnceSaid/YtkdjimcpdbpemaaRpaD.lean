/- rpa: Sign: the walk; cells stored into the middle of a block. -/
import Derived.Test.YtkdjimcpdbpemaaRpaC
namespace Go.Proofs.Ytkdjimcpdbpemaa
open Go Go.RowKit
set_option linter.unusedVariables false

theorem splice_cons {L : List Value} {o : Nat} {v : Value} {r : List Value} (h : o < L.length) : splice (L.set o v) (o + 1) r = splice L o (v :: r) := by
  unfold splice
  have h1 : (L.set o v).take (o + 1) = L.take o ++ [v] := by
    rw [List.take_succ_eq_append_getElem (by simpa using h)]
    simp [List.take_set_of_le]
  rw [h1, List.drop_set_of_lt (by omega)]
  simp [show o + 1 + r.length = o + (r.length + 1) by omega]
theorem HasB.spliced {g : Nat} {T : TypeId} : ∀ (vs : List Value) (o : Nat) {w : World} {L : List Value}, HasB w g L.toArray T → o + vs.length ≤ L.length → HasB (w.setCells g o vs) g (splice L o vs).toArray T
  | [], o, w, L, h, _ => by
    have : splice L o ([] : List Value) = L := by simp [Go.splice]
    rw [this]; exact h
  | v :: r, o, w, L, h, hl => by
    have hl' : o + (r.length + 1) ≤ L.length := hl
    have h1 := h.set o v
    have h2 : HasB (w.setCell ⟨g, o, none⟩ v) g (L.set o v).toArray T := by simpa using h1
    rw [← splice_cons (by omega)]
    exact HasB.spliced r (o + 1) h2 (by simp; omega)
theorem HasB.there {w : World} {g o n : Nat} {T : TypeId} {L : List Value} (h : HasB w g L.toArray T) (hl : o + n ≤ L.length) : w.there g o n := fun j hj => ⟨by
  rw [h.at (o + j)]
  simp; omega, h.free _⟩
theorem gb_cells {g : Nat} : ∀ (vs : List Value) (o : Nat) {a w : World}, a.grownBy w (some g) → a.grownBy (w.setCells g o vs) (some g)
  | [], o, _, _, h => h
  | v :: r, o, _, _, h => gb_cells r (o + 1) (gb_set h o v)
def RF.sign (f : RF) (key : List Nat) : RF := { f with tag := f.tagBy key }
theorem RF.tag_splice (f : RF) (t : List Nat) (h1 : f.tag.length = 32) (h2 : t.length = 32) : splice f.cells 0 (u8s t) = ({ f with tag := t } : RF).cells := by
  unfold splice RF.cells
  rw [u8s_len, h2]
  simp only [List.take_zero, List.nil_append, Nat.zero_add]
  congr 1
  rw [List.drop_append_of_le_length (by rw [u8s_len, h1]; omega), List.drop_eq_nil_of_le (by rw [u8s_len, h1]; omega)]
  rfl
theorem RF.one (f : RF) : f.cells.toArray.all (·.oneCell') = true := by
  apply all_oneCell_toArray
  intro v hv
  simp only [RF.cells, RF.tail, List.mem_append] at hv
  rcases hv with q | q | q | q
  · exact u8s_one _ v q
  · exact u8s_one _ v q
  · exact u8s_one _ v q
  · simp at q
    rcases q with rfl | rfl | rfl | rfl | rfl <;> rfl
/-- The boxes of Sign. -/
structure SgnS (w0 : World) (gf gk gr : Nat) (C K : List Value) (w : World) : Prop where
  box : HasB w gf C.toArray 37
  key : HasB w gk K.toArray 22
  res : HasB w gr zF 37
  be : Below w0.heap.size w0 w
  l1 : w0.heap.size ≤ gf
  l2 : gf < gk
  l3 : gk < gr
theorem SgnS.below {w0 w w' : World} {gf gk gr : Nat} {C K : List Value} (h : SgnS w0 gf gk gr C K w) (hb : Below w.heap.size w w') : SgnS w0 gf gk gr C K w' :=
  ⟨h.box.below hb h.box.lt, h.key.below hb h.key.lt, h.res.below hb h.res.lt, h.be.trans (hb.mono h.be.size), h.l1, h.l2, h.l3⟩
theorem SgnS.put {w0 w : World} {gf gk gr : Nat} {C K : List Value} (h : SgnS w0 gf gk gr C K w) (vs : List Value) (hl : vs.length ≤ C.length) : SgnS w0 gf gk gr (splice C 0 vs) K (w.setCells gf 0 vs) := by
  have hg := gb_cells vs 0 (gb_refl w (some gf))
  have h1 := h.l2
  have h2 := h.l3
  exact ⟨HasB.spliced vs 0 h.box (by omega), h.key.kept hg (by intro e; have := Option.some.inj e; omega), h.res.kept hg (by intro e; have := Option.some.inj e; omega), h.be.grown hg h.be.size (fun k e => by cases e; exact h.l1), h.l1, h.l2, h.l3⟩
theorem info_k32 : (Try.prog.info? 22).map (·.size) = some 32 := by kernel_rfl
theorem RF.sign_ok {f : RF} (h : f.Ok) (key : List Nat) : (f.sign key).Ok := ⟨tagBy_len f key, h.dl, h.nl, macS_lt key _, h.db, h.nb, h.cb, h.i1, h.i2, h.i3, h.i4⟩

set_option maxRecDepth 100000 in
set_option maxHeartbeats 4000000 in
theorem rsign_any (f : RF) (key : List Nat) (w : World) (hf : f.Ok) (hk : key.length = 32) (hkb : ∀ c ∈ key, c < 256) :
    Calls Try.prog 14 #[f.val, .agg (u8s key).toArray] w fun e w' => e = .returned (f.sign key).val ∧ Below w.heap.size w w' := by
  obtain ⟨POST, hPOST⟩ : ∃ Q : Ending → World → Prop, Q = fun e w' => e = .returned (f.sign key).val ∧ Below w.heap.size w w' := ⟨_, rfl⟩
  rw [← hPOST]
  have HPOST := Lib.hid hPOST
  have HTg := Lib.hid (fun w => rtag_any f key w hf hk hkb)
  unfold RF.val at HTg ⊢
  obtain ⟨C, hC⟩ : ∃ C, C = f.cells.toArray := ⟨_, rfl⟩
  obtain ⟨K, hK⟩ : ∃ K, K = (u8s key).toArray := ⟨_, rfl⟩
  rw [← hC, ← hK] at HTg ⊢
  have HF := Lib.hid hf
  have hcl := RF.cells_len hf
  have HI : Hid ((Try.prog.info? 37).map (·.size) = some C.size) := Lib.hid (by rw [hC, List.size_toArray, hcl]; exact info_fr)
  have HIk : Hid ((Try.prog.info? 22).map (·.size) = some K.size) := Lib.hid (by rw [hK, List.size_toArray, u8s_len, hk]; exact info_k32)
  have HQ1 : Hid ((((w.alloc (Obj.cells C 37)).alloc (Obj.cells K 22)).alloc (Obj.cells zF 37)).heap[w.heap.size]? = some (.cells C 37 (0, 0))) := Lib.hid (((HasB.new w _ _).alloc _).alloc _)
  have HQ2 : Hid ((((w.alloc (Obj.cells C 37)).alloc (Obj.cells K 22)).alloc (Obj.cells zF 37)).heap[w.heap.size + 1]? = some (.cells K 22 (0, 0))) := Lib.hid ((HasB.new' (by simp) _ _).alloc _)
  have HT : Hid (SgnS w w.heap.size (w.heap.size + 1) (w.heap.size + 1 + 1) f.cells (u8s key) (((w.alloc (Obj.cells C 37)).alloc (Obj.cells K 22)).alloc (Obj.cells zF 37))) := Lib.hid (by
    rw [hC, hK]
    exact ⟨((HasB.new w _ _).alloc _).alloc _, (HasB.new' (by simp) _ _).alloc _, HasB.new' (by simp) _ _, (((Below.refl _ _).alloc (Nat.le_refl _) _).alloc (by simp) _).alloc (by simp; omega) _, Nat.le_refl _, by omega, by omega⟩)
  obtain ⟨T, hT⟩ : ∃ T, T = (u8s (f.tagBy key)).toArray := ⟨_, rfl⟩
  rw [← hT] at HTg
  have htl := tagBy_len f key
  have HIt : Hid ((Try.prog.info? 33).map (·.size) = some T.size) := Lib.hid (by rw [hT]; exact s32_size htl)
  have HNt : Hid (T.all (·.oneCell') = true) := Lib.hid (by rw [hT]; exact u8_oneA _)
  have HTe := Lib.hid hT
  have HTz : Hid (T.size = 32) := Lib.hid (by rw [hT, List.size_toArray, u8s_len, htl])
  have HTl : Hid (T.toList = u8s (f.tagBy key)) := Lib.hid (by rw [hT])
  obtain ⟨R, hR⟩ : ∃ R, R = (f.sign key).cells.toArray := ⟨_, rfl⟩
  have HSp : Hid (splice f.cells 0 (u8s (f.tagBy key)) = (f.sign key).cells) := Lib.hid (RF.tag_splice f _ hf.tl htl)
  have HR := Lib.hid hR
  have hrs : R.size = 117 := by rw [hR, List.size_toArray, RF.cells_len (RF.sign_ok hf key)]
  have HIr : Hid ((Try.prog.info? 37).map (·.size) = some R.size) := Lib.hid (by rw [hrs]; exact info_fr)
  have HOr : Hid (zF.size = R.size) := Lib.hid (by rw [hrs]; rfl)
  have HNr : Hid (R.all (·.oneCell') = true) := Lib.hid (by rw [hR]; exact RF.one _)
  have HCl : Hid (f.cells.length = 117) := Lib.hid hcl
  clear hPOST hC hK hf hk hkb hT htl hR hrs hcl
  go_enter Try.func14, Try.ntmps14
  go_wp2_with (first | (with_reducible refine wpList_load_row rfl 37 (.tmp 2) rfl w.heap.size rfl 37 C (0, 0) _ HQ1.out Try.underlying37 rfl HI.out ?_) | (with_reducible refine wpList_load_row rfl 22 (.tmp 3) rfl (w.heap.size + 1) rfl 22 K (0, 0) _ HQ2.out Try.underlying22 rfl HIk.out ?_))
  clear HQ1 HQ2
  generalize (((w.alloc (Obj.cells C 37)).alloc (Obj.cells K 22)).alloc (Obj.cells zF 37)) = w1 at HT ⊢
  obtain ⟨gf, hgf⟩ : ∃ gf, gf = w.heap.size := ⟨_, rfl⟩
  obtain ⟨gk, hgk⟩ : ∃ gk, gk = w.heap.size + 1 := ⟨_, rfl⟩
  obtain ⟨gr, hgr⟩ : ∃ gr, gr = w.heap.size + 1 + 1 := ⟨_, rfl⟩
  rw [← hgr, ← hgk, ← hgf] at HT ⊢
  clear hgf hgk hgr
  refine (HTg.out _).mono ?_
  rintro e w2 ⟨rfl, hb2⟩
  have HT2 := Lib.hid (HT.out.below hb2)
  clear hb2 HT HTg
  have HTh : Hid (w2.there gf 0 T.size) := Lib.hid (HT2.out.box.there (by rw [HTz.out, HCl.out]; decide))
  have HT3 : Hid (SgnS w gf gk gr (f.sign key).cells (u8s key) (w2.setCells gf 0 T.toList)) := Lib.hid (by
    rw [HTl.out, ← HSp.out]
    exact HT2.out.put _ (by rw [u8s_len, tagBy_len, HCl.out]; decide))
  go_wp2_with (with_reducible refine wpList_store_mid rfl 33 (.tmp 8) (.tmp 7) rfl gf 0 T rfl rfl HTh.out HIt.out HNt.out ?_; refine Stop.mk ?_)
  refine Stop.go ?_
  generalize w2.setCells gf 0 T.toList = w3 at HT3 ⊢
  have HQ3 : Hid (w3.heap[gf]? = some (.cells R 37 (0, 0))) := Lib.hid (by rw [HR.out]; exact HT3.out.box)
  have HQ4 : Hid (w3.heap[gr]? = some (.cells zF 37 (0, 0))) := Lib.hid HT3.out.res
  have HSet : Hid ((w3.setRow gr R).heap[gr]? = some (.cells R 37 (0, 0)) ∧ Below w.heap.size w (w3.setRow gr R)) := Lib.hid ⟨setRow_heap _ gr _ R 37 (0, 0) HQ4.out, below_setRow HT3.out.be (by have := HT3.out.l1; have := HT3.out.l2; have := HT3.out.l3; omega) R⟩
  rw [show (f.sign key).val = .agg R by unfold RF.val; rw [HR.out]] at HPOST
  clear HTh HT2
  go_wp2_with (first | (with_reducible refine wpList_load_row rfl 37 (.tmp 2) rfl gf rfl 37 R (0, 0) _ HQ3.out Try.underlying37 rfl HIr.out ?_) | (with_reducible refine wpList_store_row rfl 37 (.tmp 4) (.tmp 9) rfl gr R rfl rfl 37 _ HQ4.out HIr.out HOr.out HNr.out ?_))
  rw [HPOST.out]
  exact bodyPost_ret (results_cell_row (p := 4) (by kernel_rfl) _ _ gr 37 R (0, 0) _ rfl HSet.out.1 Try.underlying37 rfl HIr.out) rfl ⟨rfl, HSet.out.2⟩
end Go.Proofs.Ytkdjimcpdbpemaa
