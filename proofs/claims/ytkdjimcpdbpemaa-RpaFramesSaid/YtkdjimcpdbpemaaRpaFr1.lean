/- rpa: the law's from (the document's frame): the walk. rpa: the reference's Encode: the walk. rpa: what bytes tell as a frame (plain); the reference's Decode: the walk. rpa: the reference's Sign; '==' of its frames. rpa: the reference's Decode: the walk. -/
import Derived.Test.YtkdjimcpdbpemaaRpaN
import Derived.Test.YtkdjimcpdbpemaaMut
import Derived.Lib.EndianBits
import Derived.Test.YtkdjimcpdbpemaaRpaJ
import Derived.Test.YtkdjimcpdbpemaaShaEE
namespace Go.Proofs.Ytkdjimcpdbpemaa
open Go Go.RowKit
set_option linter.unusedVariables false

theorem built_frameR (parts : List (Nat × Value)) : Try.prog.built 54 parts = Instr.fill (frPl[·]?) RF.zero.cells.toArray parts := by kernel_rfl
theorem fillF_tag {f : RF} (h : f.Ok) (d : List Nat) (hd : d.length = 32) (rest : List (Nat × Value)) : Instr.fill (frPl[·]?) f.cells.toArray ((0, .agg (u8s d).toArray) :: rest) = Instr.fill (frPl[·]?) ({ f with tag := d } : RF).cells.toArray rest := by
  have hl := RF.cells_len h
  rw [fill_step _ f.cells 0 _ rest 0 32 (u8s d) rfl rfl (by rw [u8s_len, hd]) (by omega)]
  rw [RF.tag_splice f d h.tl hd]
theorem built_from (f : RF) (hf : f.Ok) : Try.prog.built 54 [(0, .agg (u8s f.tag).toArray), (1, .agg (u8s f.data).toArray), (2, .agg (u8s f.nonce).toArray), (3, .int .u32 (f.ctr : Int)), (4, .int .i64 f.addr), (5, .int .i64 f.count), (6, .int .i64 f.res), (7, .int .i64 f.typ)] = some f.cells.toArray := by
  rw [built_frameR]
  have z := RF.zero_ok
  have z1 : ({ RF.zero with tag := f.tag } : RF).Ok := ⟨hf.tl, z.dl, z.nl, hf.tb, z.db, z.nb, z.cb, z.i1, z.i2, z.i3, z.i4⟩
  have z2 : ({ RF.zero with tag := f.tag, data := f.data } : RF).Ok := ⟨hf.tl, hf.dl, z.nl, hf.tb, hf.db, z.nb, z.cb, z.i1, z.i2, z.i3, z.i4⟩
  have z3 : ({ RF.zero with tag := f.tag, data := f.data, nonce := f.nonce } : RF).Ok := ⟨hf.tl, hf.dl, hf.nl, hf.tb, hf.db, hf.nb, z.cb, z.i1, z.i2, z.i3, z.i4⟩
  have z4 : ({ RF.zero with tag := f.tag, data := f.data, nonce := f.nonce, ctr := f.ctr } : RF).Ok := ⟨hf.tl, hf.dl, hf.nl, hf.tb, hf.db, hf.nb, hf.cb, z.i1, z.i2, z.i3, z.i4⟩
  have z5 : ({ RF.zero with tag := f.tag, data := f.data, nonce := f.nonce, ctr := f.ctr, addr := f.addr } : RF).Ok := ⟨hf.tl, hf.dl, hf.nl, hf.tb, hf.db, hf.nb, hf.cb, hf.i1, z.i2, z.i3, z.i4⟩
  have z6 : ({ RF.zero with tag := f.tag, data := f.data, nonce := f.nonce, ctr := f.ctr, addr := f.addr, count := f.count } : RF).Ok := ⟨hf.tl, hf.dl, hf.nl, hf.tb, hf.db, hf.nb, hf.cb, hf.i1, hf.i2, z.i3, z.i4⟩
  have z7 : ({ RF.zero with tag := f.tag, data := f.data, nonce := f.nonce, ctr := f.ctr, addr := f.addr, count := f.count, res := f.res } : RF).Ok := ⟨hf.tl, hf.dl, hf.nl, hf.tb, hf.db, hf.nb, hf.cb, hf.i1, hf.i2, hf.i3, z.i4⟩
  rw [fillF_tag z _ hf.tl, fillF_data z1 _ hf.dl, fillF_nonce z2 _ hf.nl, fillF_ctr z3, fillF_addr z4, fillF_count z5, fillF_res z6, fillF_typ z7]
  rfl

set_option maxRecDepth 100000 in
set_option maxHeartbeats 4000000 in
theorem from_any (f : RF) (w : World) (hf : f.Ok) :
    Calls Try.prog 19 #[f.val] w fun e w' => e = .returned f.val ∧ Below w.heap.size w w' := by
  obtain ⟨POST, hPOST⟩ : ∃ Q : Ending → World → Prop, Q = fun e w' => e = .returned f.val ∧ Below w.heap.size w w' := ⟨_, rfl⟩
  rw [← hPOST]
  unfold RF.val at hPOST ⊢
  have hbl := built_from f hf
  obtain ⟨C, hC⟩ : ∃ C, C = f.cells.toArray := ⟨_, rfl⟩
  have HIr : Hid ((Try.prog.info? 54).map (·.size) = some C.size) := Lib.hid (by rw [hC, List.size_toArray, RF.cells_len hf]; kernel_rfl)
  have HOr : Hid (zF.size = C.size) := Lib.hid (by rw [hC]; exact old_f hf)
  have HEr : Hid (C.all (·.oneCell') = true) := Lib.hid (by rw [hC]; exact RF.one _)
  rw [← hC] at hbl hPOST ⊢
  have HC := Lib.hid hC
  have HW : Hid (HasB ((w.alloc (.cells C 37)).alloc (.cells zF 54)) w.heap.size f.cells.toArray 37 ∧ HasB ((w.alloc (.cells C 37)).alloc (.cells zF 54)) (w.heap.size + 1) zF 54 ∧ Below w.heap.size w ((w.alloc (.cells C 37)).alloc (.cells zF 54))) := Lib.hid (by
    rw [← hC]
    exact ⟨(HasB.new w _ _).alloc _, HasB.new' (by simp) _ _, ((Below.refl _ _).alloc (Nat.le_refl _) _).alloc (by simp) _⟩)
  obtain ⟨T, hT⟩ : ∃ T, T = u8s f.tag := ⟨_, rfl⟩
  obtain ⟨D, hD⟩ : ∃ D, D = u8s f.data := ⟨_, rfl⟩
  obtain ⟨N, hN⟩ : ∃ N, N = u8s f.nonce := ⟨_, rfl⟩
  rw [← hT, ← hD, ← hN] at hbl
  have HBl := Lib.hid hbl
  have HIt : Hid ((Try.prog.info? 33).map (·.size) = some T.length) := Lib.hid (by rw [hT, u8s_len, hf.tl]; kernel_rfl)
  have HId : Hid ((Try.prog.info? 34).map (·.size) = some D.length) := Lib.hid (by rw [hD, u8s_len, hf.dl]; kernel_rfl)
  have HIn : Hid ((Try.prog.info? 35).map (·.size) = some N.length) := Lib.hid (by rw [hN, u8s_len, hf.nl]; kernel_rfl)
  have HPOST := Lib.hid hPOST
  have HF := Lib.hid hf
  clear hPOST hf hC hbl
  go_enter Try.func19, Try.ntmps19
  go_wp2_with (with_reducible refine stop_dst 4 rfl ?_)
  refine Stop.go ?_
  generalize (w.alloc (.cells C 37)).alloc (.cells zF 54) = w1 at HW ⊢
  obtain ⟨gf, hgf⟩ : ∃ g, g = w.heap.size := ⟨_, rfl⟩
  have HL : Hid (w.heap.size ≤ gf + 1) := Lib.hid (by omega)
  have HW1 : Hid (HasB w1 gf f.cells.toArray 37 ∧ HasB w1 (gf + 1) zF 54 ∧ Below w.heap.size w w1) := Lib.hid (by rw [hgf]; exact HW.out)
  rw [← hgf]
  clear hgf HW
  have HRt : Hid (w1.rangeAt gf 0 T) := Lib.hid (by rw [hT]; exact HasB.range3 (A := []) HW1.out.1 rfl)
  have HRd : Hid (w1.rangeAt gf 32 D) := Lib.hid (by rw [hD]; exact HasB.range3 HW1.out.1 (by rw [u8s_len, HF.out.tl]))
  have HRn : Hid (w1.rangeAt gf 96 N) := Lib.hid (by
    rw [hN]
    have h := HW1.out.1
    unfold RF.cells at h
    rw [← List.append_assoc] at h
    exact h.range3 (by simp [u8s_len, HF.out.tl, HF.out.dl]))
  have c0 : w1.cell? ⟨gf, 112, none⟩ = some (.int .u32 (f.ctr : Int)) := RF.tail_at HF.out HW1.out.1 0 _ rfl
  have c1 : w1.cell? ⟨gf, 113, none⟩ = some (.int .i64 f.addr) := RF.tail_at HF.out HW1.out.1 1 _ rfl
  have c2 : w1.cell? ⟨gf, 114, none⟩ = some (.int .i64 f.count) := RF.tail_at HF.out HW1.out.1 2 _ rfl
  have c3 : w1.cell? ⟨gf, 115, none⟩ = some (.int .i64 f.res) := RF.tail_at HF.out HW1.out.1 3 _ rfl
  have c4 : w1.cell? ⟨gf, 116, none⟩ = some (.int .i64 f.typ) := RF.tail_at HF.out HW1.out.1 4 _ rfl
  have HQz : Hid (w1.heap[gf + 1]? = some (.cells zF 54 (0, 0))) := Lib.hid HW1.out.2.1
  have HS : Hid ((w1.setRow (gf + 1) C).heap[gf + 1]? = some (.cells C 54 (0, 0)) ∧ Below w.heap.size w (w1.setRow (gf + 1) C)) := Lib.hid ⟨setRow_heap _ _ _ C 54 (0, 0) HW1.out.2.1, below_setRow HW1.out.2.2 HL.out C⟩
  clear hT hD hN
  refine wpList_load_mid rfl 33 (.tmp 3) rfl gf 0 rfl T _ HRt.out Try.underlying33 rfl HIt.out ?_
  go_wp2_with (first | (with_reducible refine wpList_load_mid rfl 34 (.tmp 5) rfl gf 32 rfl D _ HRd.out Try.underlying34 rfl HId.out ?_) | (with_reducible refine wpList_load_mid rfl 35 (.tmp 7) rfl gf 96 rfl N _ HRn.out Try.underlying35 rfl HIn.out ?_) | (with_reducible refine stop_build 54 _ rfl ?_))
  refine Stop.go ?_
  refine wpList_buildTo rfl 54 _ rfl _ rfl C ?_ ?_
  · rw [List.map_toArray]; exact HBl.out
  go_wp2_with (with_reducible refine wpList_store_row rfl 54 (.tmp 2) (.tmp 19) rfl (gf + 1) C rfl rfl 54 _ HQz.out HIr.out HOr.out HEr.out ?_)
  rw [HPOST.out]
  exact bodyPost_ret (results_cell_row (p := 2) (by kernel_rfl) _ _ (gf + 1) 54 C (0, 0) _ rfl HS.out.1 Try.underlying54 rfl HIr.out) rfl ⟨rfl, HS.out.2⟩
end Go.Proofs.Ytkdjimcpdbpemaa
namespace Go.Proofs.Ytkdjimcpdbpemaa
open Go Go.RowKit
set_option linter.unusedVariables false

theorem bytes_four {w : World} {e : TypeId} {x y z u : Nat} (hx : x < 256) (hy : y < 256) (hz : z < 256) (hu : u < 256) : Bytes (w.alloc (.cells #[.int .u8 (x : Int), .int .u8 (y : Int), .int .u8 (z : Int), .int .u8 (u : Int)] e)) (some ⟨w.heap.size, 0, none⟩) 4 [x, y, z, u] :=
  ⟨rfl, by intro c hc; simp at hc; omega, fun _ => ⟨w.heap.size, 0, rfl, by simp, fun i hi => by
    match i, hi with
    | 0, _ => simp
    | 1, _ => simp
    | 2, _ => simp
    | 3, _ => simp⟩⟩

set_option maxRecDepth 100000 in
set_option maxHeartbeats 2000000 in
theorem two_any (B : Nat) (v : Value) (n : Nat) (l : List Nat) (x : Int) (w : World) (ho : w.ownsRow B 5 1 v n (u8s l)) (hB : B ≤ w.heap.size) (hn : n ≤ 1000) :
    Calls Try.prog 27 #[v, .int .i64 x] w fun e w' => ∃ v', e = .returned v' ∧ w'.ownsRow B 5 1 v' (n + 2) (u8s (l ++ be2 x)) ∧ w.grownBy w' v.ownBlock := by
  obtain ⟨POST, hPOST⟩ : ∃ Q : Ending → World → Prop, Q = fun e w' => ∃ v', e = .returned v' ∧ w'.ownsRow B 5 1 v' (n + 2) (u8s (l ++ be2 x)) ∧ w.grownBy w' v.ownBlock := ⟨_, rfl⟩
  rw [← hPOST]
  have HPOST := Lib.hid hPOST
  obtain ⟨c0, hc0⟩ : ∃ c : Nat, c = ((x / 256) % 256).toNat := ⟨_, rfl⟩
  obtain ⟨c1, hc1⟩ : ∃ c : Nat, c = (x % 256).toNat := ⟨_, rfl⟩
  have HL : Hid (be2 x = [c0, c1]) := Lib.hid (by unfold be2; rw [← hc0, ← hc1])
  have i0 : x / 256 % 256 = (c0 : Int) := by omega
  have i1 : x % 256 = (c1 : Int) := by omega
  have l0 : c0 < 256 := by omega
  have l1 : c1 < 256 := by omega
  obtain ⟨a, cap, rfl⟩ := own_form ho
  have HO := Lib.hid ho
  clear hc0 hc1 hPOST ho
  go_enter Try.func27, Try.ntmps27
  go_wp2_with (at_builtin; refine Stop.mk ?_)
  refine Stop.go ?_
  refine wpList_app_u8 rfl _ _ 50 rfl B 5 Try.underlying50 (by kernel_rfl) (.slice a n cap) n l rfl (own_below HO.out ((Below.refl _ _).alloc (Nat.le_refl _) _) (Nat.le_refl _)) (some ⟨w.heap.size, 0, none⟩) 2 2 [c0, c1] rfl (bytes_lit2 l0 l1) (fun h => by simp at h) (by omega) (le_alloc hB) ?_
  intro v1 w1 hown hgrow
  have HF : Hid (w1.ownsRow B 5 1 v1 (n + 2) (u8s (l ++ be2 x)) ∧ w.grownBy w1 (Value.slice a n cap).ownBlock) := Lib.hid ⟨by rw [HL.out]; exact hown, gb_trans (gb_alloc (gb_refl _ _) _) hgrow⟩
  clear hown hgrow
  go_wp2
  rw [HPOST.out]
  exact ⟨_, rfl, HF.out⟩

/-- The boxes of the reference's Encode. -/
structure RenS (f : RF) (w0 : World) (gf gr : Nat) (w : World) : Prop where
  box : HasB w gf f.cells.toArray 54
  res : HasB w gr z128 45
  be : Below w0.heap.size w0 w
  l0 : w0.heap.size ≤ gf
  l1 : gf < gr
theorem RenS.below {f : RF} {w0 w w' : World} {gf gr : Nat} (h : RenS f w0 gf gr w) (hb : Below w.heap.size w w') : RenS f w0 gf gr w' :=
  ⟨h.box.below hb h.box.lt, h.res.below hb h.res.lt, h.be.trans (hb.mono h.be.size), h.l0, h.l1⟩
theorem RenS.app {f : RF} {w0 w w' : World} {gf gr B n : Nat} {e : TypeId} {v : Value} {xs : List Value} (h : RenS f w0 gf gr w) (ho : w.ownsRow B e 1 v n xs) (hB : gr < B) (hg : w.grownBy w' v.ownBlock) : RenS f w0 gf gr w' := by
  have l0 := h.l0
  have l1 := h.l1
  have key : ∀ k, v.ownBlock = some k → B ≤ k := fun k hk => (ho.lt k hk).1
  exact ⟨h.box.kept hg (fun q => by have := key _ q.symm; omega), h.res.kept hg (fun q => by have := key _ q.symm; omega), h.be.grown hg h.be.size (fun k hk => by have := key k hk; omega), l0, l1⟩
theorem RenS.tag {f : RF} {w0 w : World} {gf gr : Nat} (h : RenS f w0 gf gr w) (hf : f.Ok) : Bytes w (some ⟨gf, 0, none⟩) 32 f.tag :=
  ⟨hf.tl, hf.tb, fun _ => ⟨gf, 0, rfl, h.box.lt, fun i hi => by rw [h.box.at (0 + i), Nat.zero_add]; simpa using RF.at_tag hf i hi⟩⟩
theorem RenS.data {f : RF} {w0 w : World} {gf gr : Nat} (h : RenS f w0 gf gr w) (hf : f.Ok) : Bytes w (some ⟨gf, 32, none⟩) 64 f.data :=
  ⟨hf.dl, hf.db, fun _ => ⟨gf, 32, rfl, h.box.lt, fun i hi => by rw [h.box.at (32 + i)]; simpa using RF.at_data hf i hi⟩⟩
theorem RenS.nonce {f : RF} {w0 w : World} {gf gr : Nat} (h : RenS f w0 gf gr w) (hf : f.Ok) : Bytes w (some ⟨gf, 96, none⟩) 16 f.nonce :=
  ⟨hf.nl, hf.nb, fun _ => ⟨gf, 96, rfl, h.box.lt, fun i hi => by rw [h.box.at (96 + i)]; simpa using RF.at_nonce hf i hi⟩⟩
/-- What is copied so far. -/
def cpyTo (L : List Nat) (k : Nat) : List Nat := L.take k ++ List.replicate (128 - k) 0
theorem cpyTo_len {L : List Nat} (h : L.length = 128) {k : Nat} (hk : k ≤ 128) : (cpyTo L k).length = 128 := by simp [cpyTo]; omega
theorem cpyTo_set {L : List Nat} (h : L.length = 128) {k : Nat} (hk : k < 128) : (cpyTo L k).set k (L.getD k 0) = cpyTo L (k + 1) := by
  unfold cpyTo
  rw [List.set_append_right _ _ (by simp; omega), take_snoc L k (by omega)]
  rw [show k - (L.take k).length = 0 by simp; omega]
  obtain ⟨m, hm⟩ : ∃ m, 128 - k = m + 1 := ⟨128 - k - 1, by omega⟩
  rw [hm, show 128 - (k + 1) = m by omega]
  simp [List.replicate_succ]
theorem cpyTo_all {L : List Nat} (h : L.length = 128) : cpyTo L 128 = L := by simp [cpyTo, List.take_of_length_le (Nat.le_of_eq h)]

set_option maxRecDepth 100000 in
set_option maxHeartbeats 4000000 in
theorem refenc_any (f : RF) (w : World) (hf : f.Ok) :
    Calls Try.prog 18 #[f.val] w fun e w' => e = .returned (.agg (u8s f.enc).toArray) ∧ Below w.heap.size w w' := by
  obtain ⟨POST, hPOST⟩ : ∃ Q : Ending → World → Prop, Q = fun e w' => e = .returned (.agg (u8s f.enc).toArray) ∧ Below w.heap.size w w' := ⟨_, rfl⟩
  rw [← hPOST]
  have HPOST := Lib.hid hPOST
  unfold RF.val
  obtain ⟨C, hC⟩ : ∃ C, C = f.cells.toArray := ⟨_, rfl⟩
  rw [← hC]
  have HF := Lib.hid hf
  have HS0 : Hid (RenS f w w.heap.size (w.heap.size + 1) ((w.alloc (.cells C 54)).alloc (.cells z128 45))) := Lib.hid (by
    rw [hC]
    exact ⟨(HasB.new w _ _).alloc _, HasB.new' (by simp) _ _, ((Below.refl _ _).alloc (Nat.le_refl _) _).alloc (by simp) _, Nat.le_refl _, by omega⟩)
  obtain ⟨c0, hc0⟩ : ∃ c : Nat, c = f.ctr / 16777216 % 256 := ⟨_, rfl⟩
  obtain ⟨c1, hc1⟩ : ∃ c : Nat, c = f.ctr / 65536 % 256 := ⟨_, rfl⟩
  obtain ⟨c2, hc2⟩ : ∃ c : Nat, c = f.ctr / 256 % 256 := ⟨_, rfl⟩
  obtain ⟨c3, hc3⟩ : ∃ c : Nat, c = f.ctr % 256 := ⟨_, rfl⟩
  have HL : Hid (be4 f.ctr = [c0, c1, c2, c3]) := Lib.hid (by unfold be4; rw [← hc0, ← hc1, ← hc2, ← hc3])
  have hcb := hf.cb
  have i0 : (f.ctr : Int) / 16777216 = (c0 : Int) := by omega
  have i1 : (f.ctr : Int) / 65536 % 256 = (c1 : Int) := by omega
  have i2 : (f.ctr : Int) / 256 % 256 = (c2 : Int) := by omega
  have i3 : (f.ctr : Int) % 256 = (c3 : Int) := by omega
  have j0 : c0 < 256 := by omega
  have j1 : c1 < 256 := by omega
  have j2 : c2 < 256 := by omega
  have j3 : c3 < 256 := by omega
  clear hPOST hC hf hc0 hc1 hc2 hc3 hcb
  go_enter Try.func18, Try.ntmps18
  go_wp2_with (at_make; refine Stop.mk ?_)
  refine Stop.go ?_
  generalize (w.alloc (.cells C 54)).alloc (.cells z128 45) = w1 at HS0 ⊢
  obtain ⟨gf, hgf⟩ : ∃ g, g = w.heap.size := ⟨_, rfl⟩
  obtain ⟨gr, hgr⟩ : ∃ g, g = w.heap.size + 1 := ⟨_, rfl⟩
  rw [← hgr, ← hgf] at HS0 ⊢
  clear hgf hgr
  obtain ⟨B, hB⟩ : ∃ B, B = w1.heap.size := ⟨_, rfl⟩
  have HB : Hid (gr < B) := Lib.hid (by rw [hB]; exact HS0.out.res.lt)
  refine wpList_make_u8 rfl _ _ 50 rfl B 5 Try.underlying50 (by kernel_rfl) 4 rfl rfl (by decide) (by omega) ?_
  intro w2 hown hgrow
  rw [← hB] at hown ⊢
  have HS2 : Hid (RenS f w gf gr w2) := Lib.hid (HS0.out.below ⟨hgrow.os, hgrow.tape, hgrow.output, hgrow.size, fun i hi => hgrow.block i hi (by simp)⟩)
  have HB2 : Hid (B ≤ w2.heap.size) := Lib.hid (by have := hgrow.size; omega)
  have HO2 := Lib.hid hown
  clear hown hgrow HS0 hB
  go_wp2_with (at_builtin; refine Stop.mk ?_)
  refine Stop.go ?_
  refine wpList_app_u8 rfl _ _ 50 rfl B 5 Try.underlying50 (by kernel_rfl) (.slice (some ⟨B, 0, none⟩) 4 4) 4 (List.replicate 4 0) rfl HO2.out (some ⟨gf, 0, none⟩) 32 32 f.tag rfl (HS2.out.tag HF.out) (fun h => by simp at h) (by decide) HB2.out ?_
  intro v3 w3 hown hgrow
  have HS3 := Lib.hid (HS2.out.app HO2.out HB.out hgrow)
  have HO3 := Lib.hid hown
  have HB3 : Hid (B ≤ w3.heap.size) := Lib.hid (Nat.le_trans HB2.out hgrow.size)
  clear hown hgrow HS2 HO2 HB2
  go_wp2_with (at_builtin; refine Stop.mk ?_)
  refine Stop.go ?_
  refine wpList_app_u8 rfl _ _ 50 rfl B 5 Try.underlying50 (by kernel_rfl) v3 (4 + 32) _ rfl HO3.out (some ⟨gf, 32, none⟩) 64 64 f.data rfl (HS3.out.data HF.out) (fun h => by simp at h) (by decide) HB3.out ?_
  intro v4 w4 hown hgrow
  have HS4 := Lib.hid (HS3.out.app HO3.out HB.out hgrow)
  have HO4 := Lib.hid hown
  have HB4 : Hid (B ≤ w4.heap.size) := Lib.hid (Nat.le_trans HB3.out hgrow.size)
  clear hown hgrow HS3 HO3 HB3
  go_wp2_with (at_builtin; refine Stop.mk ?_)
  refine Stop.go ?_
  refine wpList_app_u8 rfl _ _ 50 rfl B 5 Try.underlying50 (by kernel_rfl) v4 (4 + 32 + 64) _ rfl HO4.out (some ⟨gf, 96, none⟩) 16 16 f.nonce rfl (HS4.out.nonce HF.out) (fun h => by simp at h) (by decide) HB4.out ?_
  intro v5 w5 hown hgrow
  have HS5 := Lib.hid (HS4.out.app HO4.out HB.out hgrow)
  have HO5 := Lib.hid hown
  have HB5 : Hid (B ≤ w5.heap.size) := Lib.hid (Nat.le_trans HB4.out hgrow.size)
  clear hown hgrow HS4 HO4 HB4
  have k0 : w5.cell? ⟨gf, 112, none⟩ = some (.int .u32 (f.ctr : Int)) := RF.tail_at HF.out HS5.out.box 0 _ rfl
  go_wp2_with (at_builtin; refine Stop.mk ?_)
  refine Stop.go ?_
  refine wpList_app_u8 rfl _ _ 50 rfl B 5 Try.underlying50 (by kernel_rfl) v5 (4 + 32 + 64 + 16) _ rfl (HO5.out.alloc _) _ 4 4 [c0, c1, c2, c3] rfl (bytes_four j0 j1 j2 j3) (fun h => by simp at h) (by decide) (le_alloc HB5.out) ?_
  intro v6 w6 hown hgrow
  have HS6 := Lib.hid ((HS5.out.below ((Below.refl _ _).alloc (Nat.le_refl _) _)).app (HO5.out.alloc _) HB.out hgrow)
  have HO6 := Lib.hid hown
  have HB6 : Hid (B ≤ w6.heap.size) := Lib.hid (by have := hgrow.size; have := HB5.out; simp at *; omega)
  clear hown hgrow HS5 HO5 HB5 k0 i0 i1 i2 i3
  go_wp2_with fail
  refine wp_region_held_drew (S := (fun w' => HasB w' gf f.cells.toArray 54)) (by kernel_rfl) (HS6.out.box) (fun hHeld => ?_)
  refine held_take 0 (v := ?_) rfl (by kernel_rfl) (by kernel_rfl) (by kernel_rfl) (fun _ _ _ h => h) (by rfl) (fun w hS => ?_) (by assumption) ?_
  rotate_left
  · try dsimp only at hS
    have l1 := RF.tail_at HF.out hS 1 _ rfl
    have l2 := RF.tail_at HF.out hS 2 _ rfl
    have l3 := RF.tail_at HF.out hS 3 _ rfl
    have l4 := RF.tail_at HF.out hS 4 _ rfl
    go_simp <;> with_reducible rfl
  try simp only [Act.put, List.setIfInBounds_toArray, List.set_cons_zero, List.set_cons_succ]
  refine held_take 1 (v := ?_) rfl (by kernel_rfl) (by kernel_rfl) (by kernel_rfl) (fun _ _ _ h => h) (by rfl) (fun w hS => ?_) (by assumption) ?_
  rotate_left
  · try dsimp only at hS
    have l1 := RF.tail_at HF.out hS 1 _ rfl
    have l2 := RF.tail_at HF.out hS 2 _ rfl
    have l3 := RF.tail_at HF.out hS 3 _ rfl
    have l4 := RF.tail_at HF.out hS 4 _ rfl
    go_simp <;> with_reducible rfl
  try simp only [Act.put, List.setIfInBounds_toArray, List.set_cons_zero, List.set_cons_succ]
  refine held_take 2 (v := ?_) rfl (by kernel_rfl) (by kernel_rfl) (by kernel_rfl) (fun _ _ _ h => h) (by rfl) (fun w hS => ?_) (by assumption) ?_
  rotate_left
  · try dsimp only at hS
    have l1 := RF.tail_at HF.out hS 1 _ rfl
    have l2 := RF.tail_at HF.out hS 2 _ rfl
    have l3 := RF.tail_at HF.out hS 3 _ rfl
    have l4 := RF.tail_at HF.out hS 4 _ rfl
    go_simp <;> with_reducible rfl
  try simp only [Act.put, List.setIfInBounds_toArray, List.set_cons_zero, List.set_cons_succ]
  refine held_take 4 (v := ?_) rfl (by kernel_rfl) (by kernel_rfl) (by kernel_rfl) (fun _ _ _ h => h) (by rfl) (fun w hS => ?_) (by assumption) ?_
  rotate_left
  · try dsimp only at hS
    have l1 := RF.tail_at HF.out hS 1 _ rfl
    have l2 := RF.tail_at HF.out hS 2 _ rfl
    have l3 := RF.tail_at HF.out hS 3 _ rfl
    have l4 := RF.tail_at HF.out hS 4 _ rfl
    go_simp <;> with_reducible rfl
  try simp only [Act.put, List.setIfInBounds_toArray, List.set_cons_zero, List.set_cons_succ]
  refine held_take 5 (v := ?_) rfl (by kernel_rfl) (by kernel_rfl) (by kernel_rfl) (fun _ _ _ h => h) (by rfl) (fun w hS => ?_) (by assumption) ?_
  rotate_left
  · try dsimp only at hS
    have l1 := RF.tail_at HF.out hS 1 _ rfl
    have l2 := RF.tail_at HF.out hS 2 _ rfl
    have l3 := RF.tail_at HF.out hS 3 _ rfl
    have l4 := RF.tail_at HF.out hS 4 _ rfl
    go_simp <;> with_reducible rfl
  try simp only [Act.put, List.setIfInBounds_toArray, List.set_cons_zero, List.set_cons_succ]
  refine held_take 7 (v := ?_) rfl (by kernel_rfl) (by kernel_rfl) (by kernel_rfl) (fun _ _ _ h => h) (by rfl) (fun w hS => ?_) (by assumption) ?_
  rotate_left
  · try dsimp only at hS
    have l1 := RF.tail_at HF.out hS 1 _ rfl
    have l2 := RF.tail_at HF.out hS 2 _ rfl
    have l3 := RF.tail_at HF.out hS 3 _ rfl
    have l4 := RF.tail_at HF.out hS 4 _ rfl
    go_simp <;> with_reducible rfl
  try simp only [Act.put, List.setIfInBounds_toArray, List.set_cons_zero, List.set_cons_succ]
  refine held_take 8 (v := ?_) rfl (by kernel_rfl) (by kernel_rfl) (by kernel_rfl) (fun _ _ _ h => h) (by rfl) (fun w hS => ?_) (by assumption) ?_
  rotate_left
  · try dsimp only at hS
    have l1 := RF.tail_at HF.out hS 1 _ rfl
    have l2 := RF.tail_at HF.out hS 2 _ rfl
    have l3 := RF.tail_at HF.out hS 3 _ rfl
    have l4 := RF.tail_at HF.out hS 4 _ rfl
    go_simp <;> with_reducible rfl
  try simp only [Act.put, List.setIfInBounds_toArray, List.set_cons_zero, List.set_cons_succ]
  refine held_take 10 (v := ?_) rfl (by kernel_rfl) (by kernel_rfl) (by kernel_rfl) (fun _ _ _ h => h) (by rfl) (fun w hS => ?_) (by assumption) ?_
  rotate_left
  · try dsimp only at hS
    have l1 := RF.tail_at HF.out hS 1 _ rfl
    have l2 := RF.tail_at HF.out hS 2 _ rfl
    have l3 := RF.tail_at HF.out hS 3 _ rfl
    have l4 := RF.tail_at HF.out hS 4 _ rfl
    go_simp <;> with_reducible rfl
  try simp only [Act.put, List.setIfInBounds_toArray, List.set_cons_zero, List.set_cons_succ]
  refine held_take 11 (v := ?_) rfl (by kernel_rfl) (by kernel_rfl) (by kernel_rfl) (fun _ _ _ h => h) (by rfl) (fun w hS => ?_) (by assumption) ?_
  rotate_left
  · try dsimp only at hS
    have l1 := RF.tail_at HF.out hS 1 _ rfl
    have l2 := RF.tail_at HF.out hS 2 _ rfl
    have l3 := RF.tail_at HF.out hS 3 _ rfl
    have l4 := RF.tail_at HF.out hS 4 _ rfl
    go_simp <;> with_reducible rfl
  try simp only [Act.put, List.setIfInBounds_toArray, List.set_cons_zero, List.set_cons_succ]
  refine held_one 3 rfl (by kernel_rfl) (fun K hK => ?_)
  go_simp
  refine (two_any B v6 _ _ f.addr w6.drew HO6.out HB6.out (by decide)).mono ?_
  rintro e w7 ⟨v7, rfl, hown, hgrow⟩
  have HS7 := Lib.hid ((HS6.out.below (Below.refl _ _).drew).app (w := w6.drew) HO6.out HB.out hgrow)
  have HB7 : Hid (B ≤ w7.heap.size) := Lib.hid (Nat.le_trans HB6.out hgrow.size)
  have HO7 := Lib.hid hown
  clear hown hgrow
  refine hK.out _ _ (fun w' => HasB w' gf f.cells.toArray 54) (fun _ h => h) HS7.out.box (fun hHeld => ?_)
  clear hK K
  try simp only [Act.put, List.setIfInBounds_toArray, List.set_cons_zero, List.set_cons_succ]
  refine held_one 6 rfl (by kernel_rfl) (fun K hK => ?_)
  go_simp
  refine (two_any B v7 _ _ f.count w7 HO7.out HB7.out (by decide)).mono ?_
  rintro e w8 ⟨v8, rfl, hown, hgrow⟩
  have HS8 := Lib.hid (HS7.out.app HO7.out HB.out hgrow)
  have HB8 : Hid (B ≤ w8.heap.size) := Lib.hid (Nat.le_trans HB7.out hgrow.size)
  have HO8 := Lib.hid hown
  clear hown hgrow HS7 HB7 HO7
  refine hK.out _ _ (fun w' => HasB w' gf f.cells.toArray 54) (fun _ h => h) HS8.out.box (fun hHeld => ?_)
  clear hK K
  try simp only [Act.put, List.setIfInBounds_toArray, List.set_cons_zero, List.set_cons_succ]
  refine held_one 9 rfl (by kernel_rfl) (fun K hK => ?_)
  go_simp
  refine (two_any B v8 _ _ f.res w8 HO8.out HB8.out (by decide)).mono ?_
  rintro e w9 ⟨v9, rfl, hown, hgrow⟩
  have HS9 := Lib.hid (HS8.out.app HO8.out HB.out hgrow)
  have HB9 : Hid (B ≤ w9.heap.size) := Lib.hid (Nat.le_trans HB8.out hgrow.size)
  have HO9 := Lib.hid hown
  clear hown hgrow HS8 HB8 HO8
  refine hK.out _ _ (fun w' => HasB w' gf f.cells.toArray 54) (fun _ h => h) HS9.out.box (fun hHeld => ?_)
  clear hK K
  try simp only [Act.put, List.setIfInBounds_toArray, List.set_cons_zero, List.set_cons_succ]
  refine held_one 12 rfl (by kernel_rfl) (fun K hK => ?_)
  go_simp
  refine (two_any B v9 _ _ f.typ w9 HO9.out HB9.out (by decide)).mono ?_
  rintro e wa ⟨va, rfl, hown, hgrow⟩
  have HSa := Lib.hid (HS9.out.app HO9.out HB.out hgrow)
  have HBa : Hid (B ≤ wa.heap.size) := Lib.hid (Nat.le_trans HB9.out hgrow.size)
  have HOd := Lib.hid hown
  clear hown hgrow HS9 HB9 HO9
  refine hK.out _ _ (fun w' => HasB w' gf f.cells.toArray 54) (fun _ h => h) HSa.out.box (fun hHeld => ?_)
  clear hK K
  try simp only [Act.put, List.setIfInBounds_toArray, List.set_cons_zero, List.set_cons_succ]
  refine held_take 13 (v := ?_) rfl (by kernel_rfl) (by kernel_rfl) (by kernel_rfl) (fun _ _ _ h => h) (by rfl) (fun w hS => ?_) (by assumption) ?_
  rotate_left
  · try dsimp only at hS
    go_simp <;> with_reducible rfl
  try simp only [Act.put, List.setIfInBounds_toArray, List.set_cons_zero, List.set_cons_succ]
  refine held_done (by kernel_rfl) ?_
  have HOa : Hid (wa.ownsRow B 5 1 va 128 (u8s f.enc)) := Lib.hid (by
    have h := HOd.out
    rw [← HL.out] at h
    have e : ((((((((List.replicate 4 0 ++ f.tag) ++ f.data) ++ f.nonce) ++ be4 f.ctr) ++ be2 f.addr) ++ be2 f.count) ++ be2 f.res) ++ be2 f.typ) = f.enc := by simp [RF.enc, List.replicate]
    rw [e] at h
    exact h)
  obtain ⟨ra, rc, rfl, hby⟩ := bytes_of_own' HOa.out (RF.enc_lt HF.out)
  obtain ⟨rb, ro, rfl, hrb, hcell⟩ := hby.2.2 (by decide)
  have HCell := Lib.hid hcell
  have HEl := Lib.hid (RF.enc_len HF.out)
  clear HOd HO6 HS6 HB6 HOa hby hcell
  go_wp2_with fail
  have H0 : Hid (Below wa.heap.size wa (wa.alloc (.cells z128 45)) ∧ HasB (wa.alloc (.cells z128 45)) wa.heap.size (u8s (cpyTo f.enc 0)).toArray 45) := Lib.hid ⟨(Below.refl _ _).alloc (Nat.le_refl _) _, HasB.new _ _ _⟩
  generalize wa.alloc (.cells z128 45) = wb at H0 ⊢
  obtain ⟨gb, hgb⟩ : ∃ gb, gb = wa.heap.size := ⟨_, rfl⟩
  rw [← hgb] at H0 hrb ⊢
  have HGb := Lib.hid hgb
  clear hgb
  go_loopw [5] (fun i wr => ∃ k : Nat, k ≤ 128 ∧ i = .int .i64 (k : Int) ∧ Hid (Below gb wa wr ∧ HasB wr gb (u8s (cpyTo f.enc k)).toArray 45)) (fun i _ => 128 - (intOf i).toNat)
  case atStart => exact ⟨0, by omega, rfl, H0⟩
  case round =>
    clear H0
    obtain ⟨k, hk, rfl, HR⟩ := hrel
    obtain ⟨wo, rfl⟩ : ∃ wo : World, wo = wr := ⟨_, rfl⟩
    by_cases hlt : k < 128
    · have t1 : (k : Int) < 128 := by omega
      have t2 : (0 : Int) ≤ (k : Int) ∧ (k : Int) < 128 := by omega
      have d0 : wo.cell? ⟨rb, ro + k, none⟩ = some (.int .u8 (f.enc.getD k 0 : Nat)) := (HR.out.1.cell (p := ⟨rb, _, none⟩) hrb).trans (HCell.out k hlt)
      have hfz := HR.out.2.free k
      obtain ⟨v0, hv0⟩ : ∃ v0, wo.cell? ⟨gb, k, none⟩ = some v0 := by
        rw [HR.out.2.at k]
        exact ⟨_, Array.getElem?_eq_getElem (by simp [u8s_len, cpyTo_len HEl.out hk]; omega)⟩
      have HX : Hid (Below gb wa (wo.setCell ⟨gb, k, none⟩ (.int .u8 (f.enc.getD k 0 : Nat))) ∧ HasB (wo.setCell ⟨gb, k, none⟩ (.int .u8 (f.enc.getD k 0 : Nat))) gb (u8s (cpyTo f.enc (k + 1))).toArray 45) := Lib.hid (by
        refine ⟨HR.out.1.setCell (p := ⟨gb, k, none⟩) (Nat.le_refl _) _, ?_⟩
        have := HR.out.2.set k (.int .u8 (f.enc.getD k 0 : Nat))
        rw [← cpyTo_set HEl.out hlt, ← u8s_set]
        simpa using this)
      obtain ⟨x, hx⟩ : ∃ x, x = f.enc.getD k 0 := ⟨_, rfl⟩
      rw [← hx] at d0 HX
      clear hx HR
      go_wp2_with fail
      go_roundw
      case rel => exact ⟨k + 1, by omega, by go_num, HX⟩
      case measure => simp [intOf]; omega
    · obtain rfl : k = 128 := by omega
      have HSw : Hid (RenS f w gf gr wo) := Lib.hid (HSa.out.below (by rw [← HGb.out]; exact HR.out.1))
      obtain ⟨D, hD⟩ : ∃ D, D = (u8s f.enc).toArray := ⟨_, rfl⟩
      have HQ1 : Hid (wo.heap[gb]? = some (.cells D 45 (0, 0))) := Lib.hid (by rw [hD, ← cpyTo_all HEl.out]; exact HR.out.2)
      have HQ2 : Hid (wo.heap[gr]? = some (.cells z128 45 (0, 0))) := Lib.hid HSw.out.res
      have hds : D.size = 128 := by rw [hD, List.size_toArray, u8s_len, HEl.out]
      have HI : Hid ((Try.prog.info? 45).map (·.size) = some D.size) := Lib.hid (by rw [hds]; exact info_128)
      have HOld : Hid (z128.size = D.size) := Lib.hid (by rw [hds]; rfl)
      have HOne : Hid (D.all (·.oneCell') = true) := Lib.hid (by rw [hD]; exact u8_oneA _)
      have HSet : Hid ((wo.setRow gr D).heap[gr]? = some (.cells D 45 (0, 0)) ∧ Below w.heap.size w (wo.setRow gr D)) := Lib.hid ⟨setRow_heap _ gr _ D 45 (0, 0) HQ2.out, below_setRow HSw.out.be (by have := HSw.out.l0; have := HSw.out.l1; omega) D⟩
      rw [← hD] at HPOST
      clear hD hds HR HSw
      go_wp2_with (first | (with_reducible refine wpList_load_row rfl 45 (.tmp 4) rfl gb rfl 45 D (0, 0) _ HQ1.out Try.underlying45 rfl HI.out ?_) | (with_reducible refine wpList_store_row rfl 45 (.tmp 2) (.tmp 60) rfl gr D rfl rfl 45 _ HQ2.out HI.out HOld.out HOne.out ?_))
      rw [HPOST.out]
      exact bodyPost_ret (results_cell_row (p := 2) (by kernel_rfl) _ _ gr 45 D (0, 0) _ rfl HSet.out.1 Try.underlying45 rfl HI.out) rfl ⟨rfl, HSet.out.2⟩
end Go.Proofs.Ytkdjimcpdbpemaa
namespace Go.Proofs.Ytkdjimcpdbpemaa
open Go Go.RowKit
set_option linter.unusedVariables false

/-! ### plain -/
def n2 (b : List Nat) (k : Nat) : Int := ((b.getD k 0 * 256 + b.getD (k + 1) 0 : Nat) : Int)
def n4 (b : List Nat) (k : Nat) : Nat := ((b.getD k 0 * 256 + b.getD (k + 1) 0) * 256 + b.getD (k + 2) 0) * 256 + b.getD (k + 3) 0
/-- The frame that 128 bytes tell. -/
def decR (b : List Nat) : RF := ⟨(b.drop 4).take 32, (b.drop 36).take 64, (b.drop 100).take 16, n4 b 116, n2 b 120, n2 b 122, n2 b 124, n2 b 126⟩
/-- Is a byte at k, which is to be 0, not? -/
def badB (b : List Nat) (k : Nat) : Bool := decide (k < 4 ∨ 128 ≤ k) && decide (b.getD k 0 ≠ 0)
def badIn (b : List Nat) : Bool := (List.range b.length).any (badB b)
def decF (b : List Nat) : RF := if b.length < 128 ∨ badIn b = true then RF.zero else decR b
def decE (b : List Nat) : Int := if b.length < 128 then 23 else if badIn b = true then 24 else 0
theorem getD_lt {b : List Nat} (hb : ∀ c ∈ b, c < 256) (k : Nat) : b.getD k 0 < 256 := by
  by_cases h : k < b.length
  · rw [List.getD, List.getElem?_eq_getElem h]; exact hb _ (List.getElem_mem h)
  · rw [List.getD, List.getElem?_eq_none (by omega)]; decide
theorem n2_i64 {b : List Nat} (hb : ∀ c ∈ b, c < 256) (k : Nat) : I64 (n2 b k) := by
  have := getD_lt hb k
  have := getD_lt hb (k + 1)
  unfold I64 n2; omega
theorem decR_ok {b : List Nat} (hl : 128 ≤ b.length) (hb : ∀ c ∈ b, c < 256) : (decR b).Ok :=
  ⟨by simp [decR]; omega, by simp [decR]; omega, by simp [decR]; omega, fun c hc => hb c (List.mem_of_mem_drop (List.mem_of_mem_take hc)), fun c hc => hb c (List.mem_of_mem_drop (List.mem_of_mem_take hc)), fun c hc => hb c (List.mem_of_mem_drop (List.mem_of_mem_take hc)),
   by show n4 b 116 < _; have := getD_lt hb 116; have := getD_lt hb (116 + 1); have := getD_lt hb (116 + 2); have := getD_lt hb (116 + 3); unfold n4; omega, n2_i64 hb _, n2_i64 hb _, n2_i64 hb _, n2_i64 hb _⟩
theorem decF_ok {b : List Nat} (hb : ∀ c ∈ b, c < 256) : (decF b).Ok := by
  unfold decF
  split
  · exact RF.zero_ok
  · exact decR_ok (by omega) hb
/-- The frame as far as it is read: tag, data, nonce to k bytes. -/
def partTo (b : List Nat) (o n k : Nat) : List Nat := (b.drop o).take k ++ List.replicate (n - k) 0
theorem partTo_len {b : List Nat} {o n k : Nat} (h : o + n ≤ b.length) (hk : k ≤ n) : (partTo b o n k).length = n := by simp [partTo]; omega
theorem partTo_zero (b : List Nat) (o n : Nat) : partTo b o n 0 = List.replicate n 0 := by simp [partTo]
theorem partTo_all {b : List Nat} {o n : Nat} : partTo b o n n = (b.drop o).take n := by simp [partTo]
theorem partTo_lt {b : List Nat} (hb : ∀ c ∈ b, c < 256) (o n k : Nat) : ∀ c ∈ partTo b o n k, c < 256 := by
  intro c hc
  rcases List.mem_append.1 hc with q | q
  · exact hb c (List.mem_of_mem_drop (List.mem_of_mem_take q))
  · have := List.eq_of_mem_replicate q; omega
theorem partTo_set {b : List Nat} {o n k : Nat} (h : o + n ≤ b.length) (hk : k < n) : (partTo b o n k).set k (b.getD (o + k) 0) = partTo b o n (k + 1) := by
  unfold partTo
  rw [List.set_append_right _ _ (by simp; omega), take_snoc (b.drop o) k (by simp; omega)]
  rw [show k - ((b.drop o).take k).length = 0 by simp; omega]
  obtain ⟨m, hm⟩ : ∃ m, n - k = m + 1 := ⟨n - k - 1, by omega⟩
  rw [hm, show n - (k + 1) = m by omega]
  simp [List.replicate_succ, List.getD, List.getElem?_drop]
/-- The counter, k of its bytes read. -/
def ctrTo (b : List Nat) (o : Nat) : Nat → Nat
  | 0 => 0
  | k + 1 => ctrTo b o k * 256 + b.getD (o + k) 0
theorem ctrTo_lt {b : List Nat} (hb : ∀ c ∈ b, c < 256) (o : Nat) : ∀ k, ctrTo b o k < 256 ^ k
  | 0 => by simp [ctrTo]
  | k + 1 => by
    have h1 := ctrTo_lt hb o k
    have h2 := getD_lt hb (o + k)
    rw [Nat.pow_succ]
    show ctrTo b o k * 256 + b.getD (o + k) 0 < _
    omega
theorem ctrTo_four (b : List Nat) : ctrTo b 116 4 = n4 b 116 := by simp [ctrTo, n4]
theorem ctrTo_u32 {b : List Nat} (hb : ∀ c ∈ b, c < 256) {k : Nat} (hk : k < 4) (o : Nat) : bits .or .u32 (IntKind.u32.wrap ((ctrTo b o k : Int) * 256)) (b.getD (o + k) 0 : Nat) = ((ctrTo b o (k + 1) : Nat) : Int) := by
  have h1 := ctrTo_lt hb o k
  have h2 := getD_lt hb (o + k)
  have h3 : 256 ^ k ≤ 16777216 := by
    have : k = 0 ∨ k = 1 ∨ k = 2 ∨ k = 3 := by omega
    rcases this with rfl | rfl | rfl | rfl <;> decide
  have e : IntKind.u32.wrap ((ctrTo b o k : Int) * 256) = ((ctrTo b o k * 256 : Nat) : Int) := by rw [IntKind.wrap_u32]; omega
  rw [e]
  have := (bits_nat .u32 32 (by decide) wraps_u32 (ctrTo b o k * 256) (b.getD (o + k) 0) (by omega) (by omega)).2
  rw [this]
  show ((_ : Nat) : Int) = _
  rw [show ctrTo b o (k + 1) = ctrTo b o k * 256 + b.getD (o + k) 0 from rfl]
  rw [show ctrTo b o k * 256 = 2 ^ 8 * ctrTo b o k by omega, Nat.two_pow_add_eq_or_of_lt (by omega)]

/-! ### the boxes of a Decode -/
theorem results_row_tmp {fn : Func} {p u : Tmp} {ty : TypeId} (h : fn.results = #[.cell p ty, .tmp u]) (tmps : Array Value) (w : World) (g : Nat) (t : TypeId) (cs : Array Value) (fr : Nat × Nat) (d : TypeDesc) (v : Value)
    (hp : tmps.getD p undef = .pointer (some ⟨g, 0, none⟩)) (hg : w.heap[g]? = some (.cells cs t fr))
    (hd : (match d with | .struct _ | .array _ _ => true | _ => false) = true) (hu : Try.prog.underlying ty = some d) (hi : (Try.prog.info? ty).map (·.size) = some cs.size) (hv : tmps.getD u undef = v) :
    (results fn tmps).run Try.prog w = .ok (.tuple #[.agg cs, v]) w := by
  rw [results_cell_tmp h, hp, hv]
  have hlv : (loadVar ty ⟨g, 0, none⟩).run Try.prog w = .ok (.agg cs) w := by
    cases d <;> first | exact run_loadVar_row w g t ty cs fr _ hg hu rfl hi | exact absurd hd Bool.false_ne_true
  simp [asAddr, hlv, Result.andThen]
theorem RF.set_tag {f : RF} (h : f.Ok) {k : Nat} (hk : k < 32) (v : Nat) : f.cells.set k (.int .u8 (v : Int)) = ({ f with tag := f.tag.set k v } : RF).cells := by
  unfold RF.cells
  rw [List.set_append_left _ _ (by rw [u8s_len, h.tl]; omega), u8s_set]
  rfl
theorem RF.set_data {f : RF} (h : f.Ok) {k : Nat} (hk : k < 64) (v : Nat) : f.cells.set (32 + k) (.int .u8 (v : Int)) = ({ f with data := f.data.set k v } : RF).cells := by
  unfold RF.cells
  rw [List.set_append_right _ _ (by rw [u8s_len, h.tl]; omega), List.set_append_left _ _ (by rw [u8s_len, u8s_len, h.tl, h.dl]; omega), u8s_len, h.tl, Nat.add_sub_cancel_left, u8s_set]
  rfl
theorem RF.set_nonce {f : RF} (h : f.Ok) {k : Nat} (hk : k < 16) (v : Nat) : f.cells.set (96 + k) (.int .u8 (v : Int)) = ({ f with nonce := f.nonce.set k v } : RF).cells := by
  unfold RF.cells
  rw [List.set_append_right _ _ (by rw [u8s_len, h.tl]; omega), List.set_append_right _ _ (by rw [u8s_len, u8s_len, h.tl, h.dl]; omega), List.set_append_left _ _ (by rw [u8s_len, u8s_len, u8s_len, h.tl, h.dl, h.nl]; omega), u8s_len, u8s_len, h.tl, h.dl, show 96 + k - 32 - 64 = k by omega, u8s_set]
  rfl
structure DcS (T : TypeId) (w0 : World) (g2 g5 : Nat) (f : RF) (w : World) : Prop where
  out : HasB w g2 zF T
  box : HasB w g5 f.cells.toArray T
  be : Below w0.heap.size w0 w
  l0 : w0.heap.size ≤ g2
  l1 : g2 < g5
  ok : f.Ok
section
variable {T : TypeId} {w0 w w' : World} {g2 g5 : Nat} {f f' : RF}
theorem DcS.put (h : DcS T w0 g2 g5 f w) (i : Nat) (x : Value) (he : f.cells.set i x = f'.cells) (hok : f'.Ok) : DcS T w0 g2 g5 f' (w.setCell ⟨g5, i, none⟩ x) := by
  have l0 := h.l0
  have l1 := h.l1
  have hg : w.grownBy (w.setCell ⟨g5, i, none⟩ x) (some g5) := gb_set (gb_refl _ _) _ _
  refine ⟨h.out.kept hg (by intro e; have := Option.some.inj e; omega), ?_, below_gb h.be hg h.be.size (by omega), l0, l1, hok⟩
  have := h.box.set i x
  rw [← he]
  simpa using this
theorem DcS.drew (h : DcS T w0 g2 g5 f w) : DcS T w0 g2 g5 f w.drew := ⟨h.out, h.box, h.be.trans (Below.refl _ _).drew, h.l0, h.l1, h.ok⟩
theorem DcS.below (h : DcS T w0 g2 g5 f w) (hb : Below w.heap.size w w') : DcS T w0 g2 g5 f w' := ⟨h.out.below hb h.out.lt, h.box.below hb h.box.lt, h.be.trans (hb.mono h.be.size), h.l0, h.l1, h.ok⟩
theorem DcS.cell (h : DcS T w0 g2 g5 f w) (k : Nat) : w.cell? ⟨g5, k, none⟩ = f.cells[k]? := by rw [h.box.at k]; simp
theorem DcS.old (h : DcS T w0 g2 g5 f w) {k : Nat} (hk : k < 117) : ∃ v, w.cell? ⟨g5, k, none⟩ = some v := by
  rw [h.cell k]
  exact ⟨_, List.getElem?_eq_getElem (by rw [RF.cells_len h.ok]; exact hk)⟩
theorem DcS.fin (h : DcS T w0 g2 g5 f w) (R : Array Value) : (w.setRow g2 R).heap[g2]? = some (.cells R T (0, 0)) ∧ Below w0.heap.size w0 (w.setRow g2 R) :=
  ⟨setRow_heap _ _ _ R T (0, 0) h.out, below_setRow h.be h.l0 R⟩
end
/-- A frame of which the first parts are read. -/
def fTag (b : List Nat) (k : Nat) : RF := { RF.zero with tag := partTo b 4 32 k }
def fData (b : List Nat) (k : Nat) : RF := { fTag b 32 with data := partTo b 36 64 k }
def fNonce (b : List Nat) (k : Nat) : RF := { fData b 64 with nonce := partTo b 100 16 k }
def fCtr (b : List Nat) (k : Nat) : RF := { fNonce b 16 with ctr := ctrTo b 116 k }
def fAddr (b : List Nat) : RF := { fCtr b 4 with addr := n2 b 120 }
def fCount (b : List Nat) : RF := { fAddr b with count := n2 b 122 }
def fRes (b : List Nat) : RF := { fCount b with res := n2 b 124 }
def fTyp (b : List Nat) : RF := { fRes b with typ := n2 b 126 }
theorem fTyp_eq (b : List Nat) : fTyp b = decR b := by
  unfold fTyp fRes fCount fAddr fCtr fNonce fData fTag decR
  simp only [partTo_all, ctrTo_four, RF.zero]
section
variable {b : List Nat} (hl : 128 ≤ b.length) (hb : ∀ c ∈ b, c < 256)
include hl hb
theorem fTag_ok {k : Nat} (hk : k ≤ 32) : (fTag b k).Ok := by
  have z := RF.zero_ok
  exact ⟨partTo_len (by omega) hk, z.dl, z.nl, partTo_lt hb _ _ _, z.db, z.nb, z.cb, z.i1, z.i2, z.i3, z.i4⟩
theorem fData_ok {k : Nat} (hk : k ≤ 64) : (fData b k).Ok := RF.with_data (fTag_ok hl hb (by omega)) ⟨partTo_len (by omega) hk, partTo_lt hb _ _ _⟩
theorem fNonce_ok {k : Nat} (hk : k ≤ 16) : (fNonce b k).Ok := RF.with_nonce (fData_ok hl hb (by omega)) ⟨partTo_len (by omega) hk, partTo_lt hb _ _ _⟩
theorem fCtr_ok {k : Nat} (hk : k ≤ 4) : (fCtr b k).Ok := RF.with_ctr (fNonce_ok hl hb (by omega)) (by
  have := ctrTo_lt hb 116 k
  have h3 : 256 ^ k ≤ 4294967296 := by
    have : k = 0 ∨ k = 1 ∨ k = 2 ∨ k = 3 ∨ k = 4 := by omega
    rcases this with rfl | rfl | rfl | rfl | rfl <;> decide
  omega)
theorem fAddr_ok : (fAddr b).Ok := RF.with_addr (fCtr_ok hl hb (by omega)) (n2_i64 hb _)
theorem fCount_ok : (fCount b).Ok := RF.with_count (fAddr_ok hl hb) (n2_i64 hb _)
theorem fRes_ok : (fRes b).Ok := RF.with_res (fCount_ok hl hb) (n2_i64 hb _)
theorem fTyp_ok : (fTyp b).Ok := RF.with_typ (fRes_ok hl hb) (n2_i64 hb _)
end
section
variable {T : TypeId} {w0 w w' : World} {g2 g5 : Nat} {b : List Nat} (hl : 128 ≤ b.length) (hb : ∀ c ∈ b, c < 256)
include hl hb
theorem DcS.tagN {k : Nat} (hk : k < 32) (h : DcS T w0 g2 g5 (fTag b k) w) : DcS T w0 g2 g5 (fTag b (k + 1)) (w.setCell ⟨g5, k, none⟩ (.int .u8 (b.getD (4 + k) 0 : Nat))) :=
  h.put k _ (by rw [RF.set_tag h.ok hk]; unfold fTag; rw [partTo_set (by omega) hk]) (fTag_ok hl hb (by omega))
theorem DcS.dataN {k : Nat} (hk : k < 64) (h : DcS T w0 g2 g5 (fData b k) w) : DcS T w0 g2 g5 (fData b (k + 1)) (w.setCell ⟨g5, 32 + k, none⟩ (.int .u8 (b.getD (36 + k) 0 : Nat))) :=
  h.put (32 + k) _ (by rw [RF.set_data h.ok hk]; unfold fData; rw [partTo_set (by omega) hk]) (fData_ok hl hb (by omega))
theorem DcS.nonceN {k : Nat} (hk : k < 16) (h : DcS T w0 g2 g5 (fNonce b k) w) : DcS T w0 g2 g5 (fNonce b (k + 1)) (w.setCell ⟨g5, 96 + k, none⟩ (.int .u8 (b.getD (100 + k) 0 : Nat))) :=
  h.put (96 + k) _ (by rw [RF.set_nonce h.ok hk]; unfold fNonce; rw [partTo_set (by omega) hk]) (fNonce_ok hl hb (by omega))
theorem DcS.ctrN {k : Nat} (hk : k < 4) (h : DcS T w0 g2 g5 (fCtr b k) w) : DcS T w0 g2 g5 (fCtr b (k + 1)) (w.setCell ⟨g5, 112, none⟩ (.int .u32 (ctrTo b 116 (k + 1) : Nat))) :=
  h.put (112 + 0) _ (by rw [RF.set_tail h.ok 0 _ (by decide)]; rfl) (fCtr_ok hl hb (by omega))
theorem DcS.addrN (h : DcS T w0 g2 g5 (fCtr b 4) w) : DcS T w0 g2 g5 (fAddr b) (w.setCell ⟨g5, 113, none⟩ (.int .i64 (n2 b 120))) :=
  h.put (112 + 1) _ (by rw [RF.set_tail h.ok 1 _ (by decide)]; rfl) (fAddr_ok hl hb)
theorem DcS.countN (h : DcS T w0 g2 g5 (fAddr b) w) : DcS T w0 g2 g5 (fCount b) (w.setCell ⟨g5, 114, none⟩ (.int .i64 (n2 b 122))) :=
  h.put (112 + 2) _ (by rw [RF.set_tail h.ok 2 _ (by decide)]; rfl) (fCount_ok hl hb)
theorem DcS.resN (h : DcS T w0 g2 g5 (fCount b) w) : DcS T w0 g2 g5 (fRes b) (w.setCell ⟨g5, 115, none⟩ (.int .i64 (n2 b 124))) :=
  h.put (112 + 3) _ (by rw [RF.set_tail h.ok 3 _ (by decide)]; rfl) (fRes_ok hl hb)
theorem DcS.typN (h : DcS T w0 g2 g5 (fRes b) w) : DcS T w0 g2 g5 (fTyp b) (w.setCell ⟨g5, 116, none⟩ (.int .i64 (n2 b 126))) :=
  h.put (112 + 4) _ (by rw [RF.set_tail h.ok 4 _ (by decide)]; rfl) (fTyp_ok hl hb)
end
theorem fTag_zero (b : List Nat) : fTag b 0 = RF.zero := by unfold fTag; rw [partTo_zero]; rfl
theorem fData_zero (b : List Nat) : fData b 0 = fTag b 32 := by unfold fData; rw [partTo_zero]; rfl
theorem fNonce_zero (b : List Nat) : fNonce b 0 = fData b 64 := by unfold fNonce; rw [partTo_zero]; rfl
theorem fCtr_zero (b : List Nat) : fCtr b 0 = fNonce b 16 := rfl
/-- The bytes that may not be anything, so far. -/
def GoodTo (b : List Nat) (k : Nat) : Prop := ∀ j, j < k → badB b j = false
theorem GoodTo.next {b : List Nat} {k : Nat} (h : GoodTo b k) (hk : badB b k = false) : GoodTo b (k + 1) := fun j hj => by
  by_cases e : j = k
  · rw [e]; exact hk
  · exact h j (by omega)
theorem GoodTo.all {b : List Nat} (h : GoodTo b b.length) : badIn b = false := by
  unfold badIn
  rw [List.any_eq_false]
  intro j hj
  rw [h j (List.mem_range.1 hj)]
  simp
theorem bad_at {b : List Nat} {k : Nat} (hk : k < b.length) (h : badB b k = true) : badIn b = true := List.any_eq_true.2 ⟨k, List.mem_range.2 hk, h⟩
theorem decF_short {b : List Nat} (h : b.length < 128) : decF b = RF.zero ∧ decE b = 23 := ⟨by unfold decF; rw [if_pos (.inl h)], by unfold decE; rw [if_pos h]⟩
theorem decF_bad {b : List Nat} (hl : 128 ≤ b.length) (h : badIn b = true) : decF b = RF.zero ∧ decE b = 24 := ⟨by unfold decF; rw [if_pos (.inr h)], by unfold decE; rw [if_neg (by omega), if_pos h]⟩
theorem decF_good {b : List Nat} (hl : 128 ≤ b.length) (h : badIn b = false) : decF b = fTyp b ∧ decE b = 0 := ⟨by unfold decF; rw [if_neg (by simp [h]; omega), fTyp_eq], by unfold decE; rw [if_neg (by omega), if_neg (by simp [h])]⟩
end Go.Proofs.Ytkdjimcpdbpemaa
namespace Go.Proofs.Ytkdjimcpdbpemaa
open Go Go.RowKit
set_option linter.unusedVariables false

set_option maxRecDepth 100000 in
theorem eqFrameR (p q : RF) (hp : p.Ok) (hq : q.Ok) (w : World) : (Op.equalIn 10000 54 (.agg p.cells.toArray) (.agg q.cells.toArray)).run Try.prog w = .ok (decide (p = q)) w := by
  have e1 : ∀ w, (Op.equalIn 9999 22 (.agg (u8s p.tag).toArray) (.agg (u8s q.tag).toArray)).run Try.prog w = .ok (decide (p.tag = q.tag)) w := fun w => equalIn_u8s 9997 _ 32 Try.underlying22 hp.tb hq.tb hp.tl hq.tl w
  have e2 : ∀ w, (Op.equalIn 9999 34 (.agg (u8s p.data).toArray) (.agg (u8s q.data).toArray)).run Try.prog w = .ok (decide (p.data = q.data)) w := fun w => equalIn_u8s 9997 _ 64 Try.underlying34 hp.db hq.db hp.dl hq.dl w
  have e3 : ∀ w, (Op.equalIn 9999 35 (.agg (u8s p.nonce).toArray) (.agg (u8s q.nonce).toArray)).run Try.prog w = .ok (decide (p.nonce = q.nonce)) w := fun w => equalIn_u8s 9997 _ 16 Try.underlying35 hp.nb hq.nb hp.nl hq.nl w
  rw [← RF.beq]
  have hx : ∀ p : RF, p.Ok → (p.cells.toArray[112]? = some (.int .u32 (p.ctr : Int)) ∧ p.cells.toArray[113]? = some (.int .i64 p.addr) ∧ p.cells.toArray[114]? = some (.int .i64 p.count) ∧ p.cells.toArray[115]? = some (.int .i64 p.res) ∧ p.cells.toArray[116]? = some (.int .i64 p.typ)) ∧
      p.cells.toArray.extract 0 32 = (u8s p.tag).toArray ∧ p.cells.toArray.extract 32 96 = (u8s p.data).toArray ∧ p.cells.toArray.extract 96 112 = (u8s p.nonce).toArray := fun p hp => by
    refine ⟨⟨?_, ?_, ?_, ?_, ?_⟩, ?_, ?_, ?_⟩
    · rw [List.getElem?_toArray]; exact RF.at_tail hp 0 (by decide)
    · rw [List.getElem?_toArray]; exact RF.at_tail hp 1 (by decide)
    · rw [List.getElem?_toArray]; exact RF.at_tail hp 2 (by decide)
    · rw [List.getElem?_toArray]; exact RF.at_tail hp 3 (by decide)
    · rw [List.getElem?_toArray]; exact RF.at_tail hp 4 (by decide)
    · have := extract3 (A := []) (B := u8s p.tag) (C := u8s p.data ++ (u8s p.nonce ++ p.tail)) (o := 0) (n := 32) rfl (by rw [u8s_len, hp.tl])
      simpa [RF.cells] using this
    · have := extract3 (A := u8s p.tag) (B := u8s p.data) (C := u8s p.nonce ++ p.tail) (o := 32) (n := 64) (by rw [u8s_len, hp.tl]) (by rw [u8s_len, hp.dl])
      simpa [RF.cells] using this
    · have := extract3 (A := u8s p.tag ++ u8s p.data) (B := u8s p.nonce) (C := p.tail) (o := 96) (n := 16) (by simp [u8s_len, hp.tl, hp.dl]) (by rw [u8s_len, hp.nl])
      simpa [RF.cells] using this
  obtain ⟨⟨x0, x1, x2, x3, x4⟩, x5, x6, x7⟩ := hx p hp
  obtain ⟨⟨y0, y1, y2, y3, y4⟩, y5, y6, y7⟩ := hx q hq
  rw [← x5, ← y5] at e1
  rw [← x6, ← y6] at e2
  rw [← x7, ← y7] at e3
  generalize p.cells.toArray = X at *
  generalize q.cells.toArray = Y at *
  clear x5 y5 x6 y6 x7 y7 hx hp hq
  rw [show (10000 : Nat) = 9999 + 1 from rfl, run_equalIn_struct _ _ _ _ _ (by kernel_rfl) (by kernel_rfl)]
  go_simp
  by_cases h0 : p.tag = q.tag <;> by_cases h1 : p.data = q.data <;> by_cases h2 : p.nonce = q.nonce <;> by_cases h3 : (p.ctr : Int) = (q.ctr : Int) <;> by_cases h4 : p.addr = q.addr <;> by_cases h5 : p.count = q.count <;> by_cases h6 : p.res = q.res <;> by_cases h7 : p.typ = q.typ <;> simp [h0, h1, h2, h3, h4, h5, h6, h7]

theorem neqFrameR (p q : RF) (hp : p.Ok) (hq : q.Ok) (w : World) : (binOp .neq 54 (.agg p.cells.toArray) (.agg q.cells.toArray)).run Try.prog w = .ok (.bool (!decide (p = q))) w := by
  rw [run_neq_struct, eqFrameR p q hp hq w]; rfl
/-- The boxes of the reference's Sign. -/
structure RsgS (w0 : World) (gf gk gr : Nat) (C K : List Value) (w : World) : Prop where
  box : HasB w gf C.toArray 54
  key : HasB w gk K.toArray 22
  res : HasB w gr zF 54
  be : Below w0.heap.size w0 w
  l1 : w0.heap.size ≤ gf
  l2 : gf < gk
  l3 : gk < gr
theorem RsgS.below {w0 w w' : World} {gf gk gr : Nat} {C K : List Value} (h : RsgS w0 gf gk gr C K w) (hb : Below w.heap.size w w') : RsgS w0 gf gk gr C K w' :=
  ⟨h.box.below hb h.box.lt, h.key.below hb h.key.lt, h.res.below hb h.res.lt, h.be.trans (hb.mono h.be.size), h.l1, h.l2, h.l3⟩
theorem RsgS.put {w0 w : World} {gf gk gr : Nat} {C K : List Value} (h : RsgS w0 gf gk gr C K w) (vs : List Value) (hl : vs.length ≤ C.length) : RsgS w0 gf gk gr (splice C 0 vs) K (w.setCells gf 0 vs) := by
  have hg := gb_cells vs 0 (gb_refl w (some gf))
  have h1 := h.l2
  have h2 := h.l3
  exact ⟨HasB.spliced vs 0 h.box (by omega), h.key.kept hg (by intro e; have := Option.some.inj e; omega), h.res.kept hg (by intro e; have := Option.some.inj e; omega), h.be.grown hg h.be.size (fun k e => by cases e; exact h.l1), h.l1, h.l2, h.l3⟩

set_option maxRecDepth 100000 in
set_option maxHeartbeats 4000000 in
theorem refsign_any (f : RF) (key : List Nat) (w : World) (hf : f.Ok) (hk : key.length = 32) (hkb : ∀ c ∈ key, c < 256) :
    Calls Try.prog 20 #[f.val, .agg (u8s key).toArray] w fun e w' => e = .returned (f.sign key).val ∧ Below w.heap.size w w' := by
  obtain ⟨POST, hPOST⟩ : ∃ Q : Ending → World → Prop, Q = fun e w' => e = .returned (f.sign key).val ∧ Below w.heap.size w w' := ⟨_, rfl⟩
  rw [← hPOST]
  have HEn := Lib.hid (fun w => refenc_any f w hf)
  unfold RF.val at HEn hPOST ⊢
  obtain ⟨C, hC⟩ : ∃ C, C = f.cells.toArray := ⟨_, rfl⟩
  obtain ⟨K, hK⟩ : ∃ K, K = (u8s key).toArray := ⟨_, rfl⟩
  rw [← hC] at HEn
  rw [← hC, ← hK]
  obtain ⟨E, hE⟩ : ∃ E, E = (u8s f.enc).toArray := ⟨_, rfl⟩
  rw [← hE] at HEn
  have HF := Lib.hid hf
  have HKl := Lib.hid hk
  have HKb := Lib.hid hkb
  have hcl := RF.cells_len hf
  have HI : Hid ((Try.prog.info? 54).map (·.size) = some C.size) := Lib.hid (by rw [hC, List.size_toArray, hcl]; kernel_rfl)
  have HIk : Hid ((Try.prog.info? 22).map (·.size) = some K.size) := Lib.hid (by rw [hK, List.size_toArray, u8s_len, hk]; exact info_k32)
  have hes : E.size = 128 := by rw [hE, List.size_toArray, u8s_len, RF.enc_len hf]
  have HIe : Hid ((Try.prog.info? 45).map (·.size) = some E.size) := Lib.hid (by rw [hes]; exact info_128)
  have HOe : Hid (z128.size = E.size) := Lib.hid (by rw [hes]; rfl)
  have HEe : Hid (E.all (·.oneCell') = true) := Lib.hid (by rw [hE]; exact u8_oneA _)
  have HEq := Lib.hid hE
  obtain ⟨W, hW⟩ : ∃ W, W = ((w.alloc (.cells C 54)).alloc (.cells K 22)).alloc (.cells zF 54) := ⟨_, rfl⟩
  have HT : Hid (RsgS w w.heap.size (w.heap.size + 1) (w.heap.size + 1 + 1) f.cells (u8s key) W) := Lib.hid (by
    rw [hW, hC, hK]
    exact ⟨((HasB.new w _ _).alloc _).alloc _, (HasB.new' (by simp) _ _).alloc _, HasB.new' (by simp) _ _, (((Below.refl _ _).alloc (Nat.le_refl _) _).alloc (by simp) _).alloc (by simp; omega) _, Nat.le_refl _, by omega, by omega⟩)
  have HQ1 : Hid (W.heap[w.heap.size]? = some (.cells C 54 (0, 0))) := Lib.hid (by rw [hC]; exact HT.out.box)
  obtain ⟨T, hT⟩ : ∃ T, T = (u8s (f.tagBy key)).toArray := ⟨_, rfl⟩
  have htl := tagBy_len f key
  have HIt : Hid ((Try.prog.info? 22).map (·.size) = some T.size) := Lib.hid (by rw [hT, List.size_toArray, u8s_len, htl]; exact info_k32)
  have HNt : Hid (T.all (·.oneCell') = true) := Lib.hid (by rw [hT]; exact u8_oneA _)
  have HTe := Lib.hid hT
  have HTz : Hid (T.size = 32) := Lib.hid (by rw [hT, List.size_toArray, u8s_len, htl])
  have HTl : Hid (T.toList = u8s (f.tagBy key)) := Lib.hid (by rw [hT])
  obtain ⟨R, hR⟩ : ∃ R, R = (f.sign key).cells.toArray := ⟨_, rfl⟩
  have HSp : Hid (splice f.cells 0 (u8s (f.tagBy key)) = (f.sign key).cells) := Lib.hid (RF.tag_splice f _ hf.tl htl)
  have HR := Lib.hid hR
  have hrs : R.size = 117 := by rw [hR, List.size_toArray, RF.cells_len (RF.sign_ok hf key)]
  have HIr : Hid ((Try.prog.info? 54).map (·.size) = some R.size) := Lib.hid (by rw [hrs]; kernel_rfl)
  have HOr : Hid (zF.size = R.size) := Lib.hid (by rw [hrs]; rfl)
  have HNr : Hid (R.all (·.oneCell') = true) := Lib.hid (by rw [hR]; exact RF.one _)
  have HCl : Hid (f.cells.length = 117) := Lib.hid hcl
  rw [← hR] at hPOST
  have HPOST := Lib.hid hPOST
  have HWe := Lib.hid hW
  clear hPOST hC hK hf hk hkb hT htl hR hrs hcl hE hes hW
  go_enter Try.func20, Try.ntmps20
  go_wp2_with (with_reducible refine stop_dst 6 rfl ?_)
  refine Stop.go ?_
  rw [← HWe.out]
  obtain ⟨gf, hgf⟩ : ∃ gf, gf = w.heap.size := ⟨_, rfl⟩
  obtain ⟨gk, hgk⟩ : ∃ gk, gk = w.heap.size + 1 := ⟨_, rfl⟩
  obtain ⟨gr, hgr⟩ : ∃ gr, gr = w.heap.size + 1 + 1 := ⟨_, rfl⟩
  rw [← hgf] at HQ1
  rw [← hgr, ← hgk, ← hgf] at HT ⊢
  clear hgf hgk hgr HWe
  refine wpList_load_row rfl 54 (.tmp 2) rfl gf rfl 54 C (0, 0) _ HQ1.out Try.underlying54 rfl HI.out ?_
  go_wp2_with fail
  refine (HEn.out _).mono ?_
  rintro e w2 ⟨rfl, hb2⟩
  have HT2 := Lib.hid (HT.out.below hb2)
  clear hb2 HT HEn HQ1
  go_wp2_with (with_reducible refine wpList_store_row rfl 45 (.tmp 5) (.tmp 7) rfl w2.heap.size E rfl rfl 45 z128 (heap_new w2 _) HIe.out HOe.out HEe.out ?_; rw [World.setRow_alloc_new]; refine Stop.mk ?_)
  refine Stop.go ?_
  have HT3 : Hid (RsgS w gf gk gr f.cells (u8s key) (w2.alloc (.cells E 45))) := Lib.hid (HT2.out.below ((Below.refl _ _).alloc (Nat.le_refl _) _))
  have HB3 : Hid (HasB (w2.alloc (.cells E 45)) w2.heap.size (u8s f.enc).toArray 45) := Lib.hid (by rw [← HEq.out]; exact HasB.new _ _ _)
  generalize w2.alloc (.cells E 45) = w3 at HT3 HB3 ⊢
  obtain ⟨gb, hgb⟩ : ∃ gb, gb = w2.heap.size := ⟨_, rfl⟩
  rw [← hgb] at HB3 ⊢
  clear hgb HT2
  have HBk : Hid (Bytes w3.drew (some ⟨gk, 0, none⟩) 32 key) := Lib.hid ⟨HKl.out, HKb.out, fun _ => ⟨gk, 0, rfl, HT3.out.key.lt, fun i hi => by
    have := (HT3.out.key.drew.at (0 + i))
    rw [this]
    have := HKl.out
    simp [u8s, List.getD, show i < key.length by omega]⟩⟩
  have HBe : Hid (Bytes w3.drew (some ⟨gb, 36, none⟩) 92 (f.enc.drop 36)) := Lib.hid ⟨by rw [List.length_drop, RF.enc_len HF.out], fun c hc => RF.enc_lt HF.out c (List.mem_of_mem_drop hc), fun _ => ⟨gb, 36, rfl, HB3.out.lt, fun i hi => by
    have := (HB3.out.drew.at (36 + i))
    rw [this]
    have := RF.enc_len HF.out
    simp [u8s, List.getD, List.getElem?_drop, show 36 + i < f.enc.length by omega]⟩⟩
  go_wp2_with fail
  refine wp_region_held_drew (S := (fun _ => True)) (by kernel_rfl) (trivial) (fun hHeld => ?_)
  refine held_take 0 (v := ?_) rfl (by kernel_rfl) (by kernel_rfl) (by kernel_rfl) (fun _ _ _ h => h) (by rfl) (fun w hS => ?_) (by assumption) ?_
  rotate_left
  · try dsimp only at hS
    go_simp <;> with_reducible rfl
  try simp only [Act.put, List.setIfInBounds_toArray, List.set_cons_zero, List.set_cons_succ]
  refine held_take 1 (v := ?_) rfl (by kernel_rfl) (by kernel_rfl) (by kernel_rfl) (fun _ _ _ h => h) (by rfl) (fun w hS => ?_) (by assumption) ?_
  rotate_left
  · try dsimp only at hS
    go_simp <;> with_reducible rfl
  try simp only [Act.put, List.setIfInBounds_toArray, List.set_cons_zero, List.set_cons_succ]
  refine held_one 2 rfl (by kernel_rfl) (fun K hK => ?_)
  go_simp
  refine Calls.mono (rmac_any (some ⟨gk, 0, none⟩) 32 32 key (some ⟨gb, 36, none⟩) 92 92 (f.enc.drop 36) _ HBk.out (fun e => by cases e) HBe.out (fun e => by cases e) (by decide) (by decide)) ?_
  rintro e w4 ⟨rfl, hb4⟩
  rw [show (u8s (macS key (f.enc.drop 36))).toArray = T by rw [HTe.out]; rfl]
  have HT4 : Hid (RsgS w gf gk gr f.cells (u8s key) w4) := Lib.hid (HT3.out.below ((Below.refl _ _).drew.trans hb4))
  have HTh : Hid (w4.there gf 0 T.size) := Lib.hid (HT4.out.box.there (by rw [HTz.out, HCl.out]; decide))
  have HT5 : Hid (RsgS w gf gk gr (f.sign key).cells (u8s key) (w4.setCells gf 0 T.toList)) := Lib.hid (by
  rw [HTl.out, ← HSp.out]
  exact HT4.out.put _ (by rw [u8s_len, tagBy_len, HCl.out]; decide))
  clear hb4
  refine hK.out _ _ (fun _ => True) (fun _ h => h) trivial (fun hHeld => ?_)
  clear hK K
  try simp only [Act.put, List.setIfInBounds_toArray, List.set_cons_zero, List.set_cons_succ]
  refine held_take 3 (v := ?_) rfl (by kernel_rfl) (by kernel_rfl) (by kernel_rfl) (fun _ _ _ h => h) (by rfl) (fun w hS => ?_) (by assumption) ?_
  rotate_left
  · try dsimp only at hS
    go_simp <;> with_reducible rfl
  try simp only [Act.put, List.setIfInBounds_toArray, List.set_cons_zero, List.set_cons_succ]
  refine held_one 4 rfl (by kernel_rfl) (fun K hK => ?_)
  refine (if_pos (by kernel_rfl)).mpr ?_
  refine wp_store_mid 22 (.tmp 11) (.tmp 10) rfl gf 0 T rfl rfl HTh.out HIt.out HNt.out ?_
  refine hK.out _ _ (fun _ => True) (fun _ h => h) trivial (fun hHeld => ?_)
  clear hK K
  try simp only [Act.put, List.setIfInBounds_toArray, List.set_cons_zero, List.set_cons_succ]
  refine held_done (by kernel_rfl) ?_
  generalize w4.setCells gf 0 T.toList = w5 at HT5 ⊢
  have HQ3 : Hid (w5.heap[gf]? = some (.cells R 54 (0, 0))) := Lib.hid (by rw [HR.out]; exact HT5.out.box)
  have HQ4 : Hid (w5.heap[gr]? = some (.cells zF 54 (0, 0))) := Lib.hid HT5.out.res
  have HSet : Hid ((w5.setRow gr R).heap[gr]? = some (.cells R 54 (0, 0)) ∧ Below w.heap.size w (w5.setRow gr R)) := Lib.hid ⟨setRow_heap _ gr _ R 54 (0, 0) HQ4.out, below_setRow HT5.out.be (by have := HT5.out.l1; have := HT5.out.l2; have := HT5.out.l3; omega) R⟩
  clear HTh HT4
  go_wp2_with (first | (with_reducible refine wpList_load_row rfl 54 (.tmp 2) rfl gf rfl 54 R (0, 0) _ HQ3.out Try.underlying54 rfl HIr.out ?_) | (with_reducible refine wpList_store_row rfl 54 (.tmp 4) (.tmp 12) rfl gr R rfl rfl 54 _ HQ4.out HIr.out HOr.out HNr.out ?_))
  rw [HPOST.out]
  exact bodyPost_ret (results_cell_row (p := 4) (by kernel_rfl) _ _ gr 54 R (0, 0) _ rfl HSet.out.1 Try.underlying54 rfl HIr.out) rfl ⟨rfl, HSet.out.2⟩
end Go.Proofs.Ytkdjimcpdbpemaa
namespace Go.Proofs.Ytkdjimcpdbpemaa
open Go Go.RowKit
set_option linter.unusedVariables false

set_option maxRecDepth 100000 in
set_option maxHeartbeats 8000000 in
theorem refdec_any (a : Option Addr) (len cap : Nat) (l : List Nat) (w : World) (hi : Bytes w a len l) (hl : len ≤ 100000) :
    Calls Try.prog 17 #[.slice a len cap] w fun e w' => e = .returned (.tuple #[(decF l).val, .int .i64 (decE l)]) ∧ Below w.heap.size w w' := by
  obtain ⟨POST, hPOST⟩ : ∃ Q : Ending → World → Prop, Q = fun e w' => e = .returned (.tuple #[(decF l).val, .int .i64 (decE l)]) ∧ Below w.heap.size w w' := ⟨_, rfl⟩
  rw [← hPOST]
  have hlen := hi.1
  have hb8 := hi.2.1
  have HIz : Hid ((Try.prog.info? 54).map (·.size) = some zF.size) := Lib.hid (by kernel_rfl)
  have HEz : Hid (zF.all (·.oneCell') = true) := Lib.hid (by kernel_rfl)
  by_cases h128 : len < 128
  · have hd := decF_short (b := l) (by omega)
    have hP : POST = fun e w' => e = .returned (.tuple #[.agg zF, .int .i64 23]) ∧ Below w.heap.size w w' := by rw [hPOST, hd.1, hd.2]; rfl
    have HP := Lib.hid hP
    have HN : Hid (HasB (w.alloc (.cells zF 54)) w.heap.size zF 54 ∧ Below w.heap.size w (w.alloc (.cells zF 54))) := Lib.hid ⟨HasB.new _ _ _, (Below.refl _ _).alloc (Nat.le_refl _) _⟩
    have HQz : Hid ((w.alloc (.cells zF 54)).heap[w.heap.size]? = some (.cells zF 54 (0, 0))) := Lib.hid HN.out.1
    have t1 : (len : Int) < 128 := by omega
    clear hP hd hPOST hi hl hb8
    go_enter Try.func17, Try.ntmps17
    go_wp2_with (with_reducible refine wpList_store_row rfl 54 (.tmp 2) (.tmp 13) rfl w.heap.size zF rfl rfl 54 _ HQz.out HIz.out rfl HEz.out ?_; rw [World.setRow_alloc_new])
    rw [HP.out]
    exact bodyPost_ret (results_row_tmp (p := 2) (u := 3) (by kernel_rfl) _ _ w.heap.size 54 zF (0, 0) _ _ rfl HN.out.1 rfl Try.underlying54 HIz.out rfl) rfl ⟨rfl, HN.out.2⟩
  have h128' : 128 ≤ l.length := by omega
  obtain ⟨bk, off, rfl, hbk, hcell⟩ := hi.2.2 (by omega)
  have HCell := Lib.hid hcell
  have HLt := Lib.hid hb8
  have HPOST := Lib.hid hPOST
  have HLen := Lib.hid hlen
  have H128 := Lib.hid h128'
  have t1 : ¬ (len : Int) < 128 := by omega
  have HN : Hid (HasB (w.alloc (.cells zF 54)) w.heap.size zF 54 ∧ Below w.heap.size w (w.alloc (.cells zF 54))) := Lib.hid ⟨HasB.new _ _ _, (Below.refl _ _).alloc (Nat.le_refl _) _⟩
  clear hPOST hi hb8 hcell hlen h128'
  go_enter Try.func17, Try.ntmps17
  go_wp2_with fail
  generalize w.alloc (.cells zF 54) = w1 at HN ⊢
  obtain ⟨g2, hg2⟩ : ∃ g, g = w.heap.size := ⟨_, rfl⟩
  have HG : Hid (w.heap.size ≤ g2) := Lib.hid (by omega)
  have HN1 : Hid (HasB w1 g2 zF 54 ∧ Below w.heap.size w w1) := Lib.hid (by rw [hg2]; exact HN.out)
  rw [← hg2]
  clear hg2 HN
  have HQz : Hid (w1.heap[g2]? = some (.cells zF 54 (0, 0))) := Lib.hid HN1.out.1
  go_loopw [4] (fun i wr => ∃ k : Nat, k ≤ len ∧ i = .int .i64 (k : Int) ∧ wr = w1 ∧ Hid (GoodTo l k)) (fun i _ => len - (intOf i).toNat)
  case atStart => exact ⟨0, by omega, rfl, rfl, Lib.hid (fun j hj => by omega)⟩
  case round =>
    obtain ⟨k, hk, rfl, rfl, HGo⟩ := hrel
    by_cases hlt : k < len
    · have t2 : (k : Int) < (len : Int) := by omega
      have d0 : wr.cell? ⟨bk, off + k, none⟩ = some (.int .u8 (l.getD k 0 : Nat)) := (HN1.out.2.cell (p := ⟨bk, _, none⟩) hbk).trans (HCell.out k hlt)
      have l0 := getD_lt HLt.out k
      obtain ⟨x, hx⟩ : ∃ x, x = l.getD k 0 := ⟨_, rfl⟩
      rw [← hx] at d0 l0
      have HX := Lib.hid hx
      clear hx
      by_cases k4 : k < 4
      · have t3 : (k : Int) < 4 := by omega
        by_cases x0 : x = 0
        · have q0 : ((x : Int) != 0) = false := by simp; omega
          have HGn : Hid (GoodTo l (k + 1)) := Lib.hid (HGo.out.next (by unfold badB; rw [← HX.out]; simp [x0]))
          go_wp2_with fail
          go_roundw
          case rel => exact ⟨k + 1, by omega, by go_num, by first | rfl | trivial, HGn⟩
          case measure => simp [intOf]; omega
        · have q0 : ((x : Int) != 0) = true := by simp; omega
          have hbad : badIn l = true := bad_at (k := k) (by rw [HLen.out]; exact hlt) (by unfold badB; rw [← HX.out]; simp; omega)
          have hd := decF_bad H128.out hbad
          have HP : Hid (POST = fun e w' => e = .returned (.tuple #[.agg zF, .int .i64 24]) ∧ Below w.heap.size w w') := Lib.hid (by rw [HPOST.out, hd.1, hd.2]; rfl)
          have HNs : Hid ((wr.setRow g2 zF).heap[g2]? = some (.cells zF 54 (0, 0)) ∧ Below w.heap.size w (wr.setRow g2 zF)) := Lib.hid ⟨setRow_heap _ _ _ zF 54 (0, 0) HN1.out.1, below_setRow HN1.out.2 HG.out zF⟩
          clear hd hbad
          clear HPOST
          go_wp2_with (with_reducible refine wpList_store_row rfl 54 (.tmp 2) (.tmp 33) rfl g2 zF rfl rfl 54 _ HQz.out HIz.out rfl HEz.out ?_)
          rw [HP.out]
          exact bodyPost_ret (results_row_tmp (p := 2) (u := 3) (by kernel_rfl) _ _ g2 54 zF (0, 0) _ _ rfl HNs.out.1 rfl Try.underlying54 HIz.out rfl) rfl ⟨rfl, HNs.out.2⟩
      · by_cases k5 : 128 ≤ k
        · have t3 : ¬ (k : Int) < 4 := by omega
          have t4 : (128 : Int) ≤ (k : Int) := by omega
          by_cases x0 : x = 0
          · have q0 : ((x : Int) != 0) = false := by simp; omega
            have HGn : Hid (GoodTo l (k + 1)) := Lib.hid (HGo.out.next (by unfold badB; rw [← HX.out]; simp [x0]))
            go_wp2_with fail
            go_roundw
            case rel => exact ⟨k + 1, by omega, by go_num, by first | rfl | trivial, HGn⟩
            case measure => simp [intOf]; omega
          · have q0 : ((x : Int) != 0) = true := by simp; omega
            have hbad : badIn l = true := bad_at (k := k) (by rw [HLen.out]; exact hlt) (by unfold badB; rw [← HX.out]; simp; omega)
            have hd := decF_bad H128.out hbad
            have HP : Hid (POST = fun e w' => e = .returned (.tuple #[.agg zF, .int .i64 24]) ∧ Below w.heap.size w w') := Lib.hid (by rw [HPOST.out, hd.1, hd.2]; rfl)
            have HNs : Hid ((wr.setRow g2 zF).heap[g2]? = some (.cells zF 54 (0, 0)) ∧ Below w.heap.size w (wr.setRow g2 zF)) := Lib.hid ⟨setRow_heap _ _ _ zF 54 (0, 0) HN1.out.1, below_setRow HN1.out.2 HG.out zF⟩
            clear hd hbad
            clear HPOST
            go_wp2_with (with_reducible refine wpList_store_row rfl 54 (.tmp 2) (.tmp 33) rfl g2 zF rfl rfl 54 _ HQz.out HIz.out rfl HEz.out ?_)
            rw [HP.out]
            exact bodyPost_ret (results_row_tmp (p := 2) (u := 3) (by kernel_rfl) _ _ g2 54 zF (0, 0) _ _ rfl HNs.out.1 rfl Try.underlying54 HIz.out rfl) rfl ⟨rfl, HNs.out.2⟩
        · have t3 : ¬ (k : Int) < 4 := by omega
          have t4 : ¬ (128 : Int) ≤ (k : Int) := by omega
          have HGn : Hid (GoodTo l (k + 1)) := Lib.hid (HGo.out.next (by unfold badB; simp; omega))
          go_wp2_with fail
          go_roundw
          case rel => exact ⟨k + 1, by omega, by go_num, by first | rfl | trivial, HGn⟩
          case measure => simp [intOf]; omega
    · obtain rfl : k = len := by omega
      have t2 : ¬ (k : Int) < (k : Int) := by omega
      have hgood : badIn l = false := GoodTo.all (by rw [HLen.out]; exact HGo.out)
      have hd := decF_good H128.out hgood
      have hok := fTyp_ok H128.out HLt.out
      obtain ⟨R, hR⟩ : ∃ R, R = (fTyp l).cells.toArray := ⟨_, rfl⟩
      have HR := Lib.hid hR
      have HIr : Hid ((Try.prog.info? 54).map (·.size) = some R.size) := Lib.hid (by rw [hR, List.size_toArray, RF.cells_len hok]; kernel_rfl)
      have HOr : Hid (zF.size = R.size) := Lib.hid (by rw [hR]; exact old_f hok)
      have HEr : Hid (R.all (·.oneCell') = true) := Lib.hid (by rw [hR]; exact RF.one _)
      have HP : Hid (POST = fun e w' => e = .returned (.tuple #[.agg R, .int .i64 0]) ∧ Below w.heap.size w w') := Lib.hid (by rw [HPOST.out, hd.1, hd.2]; unfold RF.val; rw [← hR])
      clear HPOST hd hok hR hgood HGo
      go_wp2_with fail
      have HS : Hid (DcS 54 w g2 wr.heap.size (fTag l 0) (wr.alloc (.cells zF 54))) := Lib.hid ⟨HN1.out.1.alloc _, by rw [fTag_zero, ← RF.zero_cells]; exact HasB.new _ _ _, HN1.out.2.alloc HN1.out.2.size _, HG.out, HN1.out.1.lt, by rw [fTag_zero]; exact RF.zero_ok⟩
      generalize wr.alloc (.cells zF 54) = w2 at HS ⊢
      obtain ⟨g5, hg5⟩ : ∃ g, g = wr.heap.size := ⟨_, rfl⟩
      rw [← hg5] at HS ⊢
      clear hg5 HN1
      go_loopw [6] (fun i wr => ∃ j : Nat, j ≤ 32 ∧ i = .int .i64 (j : Int) ∧ Hid (DcS 54 w g2 g5 (fTag l j) wr)) (fun i _ => 32 - (intOf i).toNat)
      case atStart => exact ⟨0, by omega, rfl, HS⟩
      case round =>
        clear HS
        obtain ⟨j, hj, rfl, HR2⟩ := hrel
        obtain ⟨wo, rfl⟩ : ∃ wo : World, wo = wr := ⟨_, rfl⟩
        by_cases jlt : j < 32
        · have t3 : (j : Int) < 32 := by omega
          have t4 : (0 : Int) ≤ (j : Int) ∧ (j : Int) < 32 := by omega
          obtain ⟨q, hq⟩ : ∃ q, q = 4 + j := ⟨_, rfl⟩
          have i0 : IntKind.i64.wrap ((4 : Int) + (j : Int)) = (q : Int) := by rw [IntKind.wrap_i64]; omega
          have i1 : (4 : Int) + (j : Int) = (q : Int) := by omega
          have j0 : (0 : Int) ≤ (q : Int) ∧ (q : Int) < (k : Int) := by have := H128.out; have := HLen.out; omega
          have d0 : wo.cell? ⟨bk, off + q, none⟩ = some (.int .u8 (l.getD q 0 : Nat)) := (HR2.out.be.cell (p := ⟨bk, _, none⟩) hbk).trans (HCell.out q (by omega))
          obtain ⟨v0, hv0⟩ := HR2.out.old (k := j) (by omega)
          have hf0 := HR2.out.box.free (j)
          have HX := Lib.hid (DcS.tagN H128.out HLt.out jlt HR2.out)
          rw [← hq] at HX
          obtain ⟨x, hx⟩ : ∃ x, x = l.getD q 0 := ⟨_, rfl⟩
          rw [← hx] at d0 HX
          clear hq hx HR2
          go_wp2_with fail
          go_roundw
          case rel => exact ⟨j + 1, by omega, by go_num, HX⟩
          case measure => simp [intOf]; omega
        · have hjn : j = 32 := by omega
          have t3 : ¬ (j : Int) < 32 := by omega
          rw [hjn] at HR2
          clear hjn jlt hj
          obtain ⟨wp, hwp⟩ : ∃ wp, wp = wo := ⟨_, rfl⟩
          rw [← hwp] at HR2 ⊢
          clear hwp wo
          have HS := HR2
          clear HR2
          go_wp2_with fail
          clear t3
          have HS : Hid (DcS 54 w g2 g5 (fData l 0) wp) := Lib.hid (by rw [fData_zero]; exact HS.out)
          go_loopw [7] (fun i wr => ∃ j : Nat, j ≤ 64 ∧ i = .int .i64 (j : Int) ∧ Hid (DcS 54 w g2 g5 (fData l j) wr)) (fun i _ => 64 - (intOf i).toNat)
          case atStart => exact ⟨0, by omega, rfl, HS⟩
          case round =>
            clear HS
            obtain ⟨j, hj, rfl, HR2⟩ := hrel
            obtain ⟨wo, rfl⟩ : ∃ wo : World, wo = wr := ⟨_, rfl⟩
            by_cases jlt : j < 64
            · have t3 : (j : Int) < 64 := by omega
              have t4 : (0 : Int) ≤ (j : Int) ∧ (j : Int) < 64 := by omega
              obtain ⟨q, hq⟩ : ∃ q, q = 36 + j := ⟨_, rfl⟩
              have i0 : IntKind.i64.wrap ((36 : Int) + (j : Int)) = (q : Int) := by rw [IntKind.wrap_i64]; omega
              have i1 : (36 : Int) + (j : Int) = (q : Int) := by omega
              have j0 : (0 : Int) ≤ (q : Int) ∧ (q : Int) < (k : Int) := by have := H128.out; have := HLen.out; omega
              have d0 : wo.cell? ⟨bk, off + q, none⟩ = some (.int .u8 (l.getD q 0 : Nat)) := (HR2.out.be.cell (p := ⟨bk, _, none⟩) hbk).trans (HCell.out q (by omega))
              obtain ⟨v0, hv0⟩ := HR2.out.old (k := 32 + j) (by omega)
              have hf0 := HR2.out.box.free (32 + j)
              have HX := Lib.hid (DcS.dataN H128.out HLt.out jlt HR2.out)
              rw [← hq] at HX
              obtain ⟨x, hx⟩ : ∃ x, x = l.getD q 0 := ⟨_, rfl⟩
              rw [← hx] at d0 HX
              clear hq hx HR2
              go_wp2_with fail
              go_roundw
              case rel => exact ⟨j + 1, by omega, by go_num, HX⟩
              case measure => simp [intOf]; omega
            · have hjn : j = 64 := by omega
              have t3 : ¬ (j : Int) < 64 := by omega
              rw [hjn] at HR2
              clear hjn jlt hj
              obtain ⟨wp, hwp⟩ : ∃ wp, wp = wo := ⟨_, rfl⟩
              rw [← hwp] at HR2 ⊢
              clear hwp wo
              have HS := HR2
              clear HR2
              go_wp2_with fail
              clear t3
              have HS : Hid (DcS 54 w g2 g5 (fNonce l 0) wp) := Lib.hid (by rw [fNonce_zero]; exact HS.out)
              go_loopw [8] (fun i wr => ∃ j : Nat, j ≤ 16 ∧ i = .int .i64 (j : Int) ∧ Hid (DcS 54 w g2 g5 (fNonce l j) wr)) (fun i _ => 16 - (intOf i).toNat)
              case atStart => exact ⟨0, by omega, rfl, HS⟩
              case round =>
                clear HS
                obtain ⟨j, hj, rfl, HR2⟩ := hrel
                obtain ⟨wo, rfl⟩ : ∃ wo : World, wo = wr := ⟨_, rfl⟩
                by_cases jlt : j < 16
                · have t3 : (j : Int) < 16 := by omega
                  have t4 : (0 : Int) ≤ (j : Int) ∧ (j : Int) < 16 := by omega
                  obtain ⟨q, hq⟩ : ∃ q, q = 100 + j := ⟨_, rfl⟩
                  have i0 : IntKind.i64.wrap ((100 : Int) + (j : Int)) = (q : Int) := by rw [IntKind.wrap_i64]; omega
                  have i1 : (100 : Int) + (j : Int) = (q : Int) := by omega
                  have j0 : (0 : Int) ≤ (q : Int) ∧ (q : Int) < (k : Int) := by have := H128.out; have := HLen.out; omega
                  have d0 : wo.cell? ⟨bk, off + q, none⟩ = some (.int .u8 (l.getD q 0 : Nat)) := (HR2.out.be.cell (p := ⟨bk, _, none⟩) hbk).trans (HCell.out q (by omega))
                  obtain ⟨v0, hv0⟩ := HR2.out.old (k := 96 + j) (by omega)
                  have hf0 := HR2.out.box.free (96 + j)
                  have HX := Lib.hid (DcS.nonceN H128.out HLt.out jlt HR2.out)
                  rw [← hq] at HX
                  obtain ⟨x, hx⟩ : ∃ x, x = l.getD q 0 := ⟨_, rfl⟩
                  rw [← hx] at d0 HX
                  clear hq hx HR2
                  go_wp2_with fail
                  go_roundw
                  case rel => exact ⟨j + 1, by omega, by go_num, HX⟩
                  case measure => simp [intOf]; omega
                · have hjn : j = 16 := by omega
                  have t3 : ¬ (j : Int) < 16 := by omega
                  rw [hjn] at HR2
                  clear hjn jlt hj
                  obtain ⟨wp, hwp⟩ : ∃ wp, wp = wo := ⟨_, rfl⟩
                  rw [← hwp] at HR2 ⊢
                  clear hwp wo
                  have HS := HR2
                  clear HR2
                  go_wp2_with fail
                  clear t3
                  have HS : Hid (DcS 54 w g2 g5 (fCtr l 0) wp) := Lib.hid (by rw [fCtr_zero]; exact HS.out)
                  go_loopw [9] (fun i wr => ∃ j : Nat, j ≤ 4 ∧ i = .int .i64 ((116 + j : Nat) : Int) ∧ Hid (DcS 54 w g2 g5 (fCtr l j) wr)) (fun i _ => 120 - (intOf i).toNat)
                  case atStart => exact ⟨0, by omega, rfl, HS⟩
                  case round =>
                    clear HS
                    obtain ⟨j, hj, rfl, HR2⟩ := hrel
                    obtain ⟨wo, rfl⟩ : ∃ wo : World, wo = wr := ⟨_, rfl⟩
                    by_cases jlt : j < 4
                    · obtain ⟨q, hq⟩ : ∃ q, q = 116 + j := ⟨_, rfl⟩
                      rw [← hq]
                      have t3 : (q : Int) < 120 := by omega
                      have j0 : (0 : Int) ≤ (q : Int) ∧ (q : Int) < (k : Int) := by have := H128.out; have := HLen.out; omega
                      have d0 : wo.cell? ⟨bk, off + q, none⟩ = some (.int .u8 (l.getD q 0 : Nat)) := (HR2.out.be.cell (p := ⟨bk, _, none⟩) hbk).trans (HCell.out q (by omega))
                      have d1 : wo.cell? ⟨g5, 112, none⟩ = some (.int .u32 (ctrTo l 116 j : Nat)) := (HR2.out.cell 112).trans (RF.at_tail HR2.out.ok 0 (by decide))
                      have hf0 := HR2.out.box.free 112
                      have l0 := getD_lt HLt.out q
                      have HX := Lib.hid (DcS.ctrN H128.out HLt.out jlt HR2.out).drew
                      have hor := ctrTo_u32 HLt.out jlt 116
                      rw [← hq] at hor
                      obtain ⟨x, hx⟩ : ∃ x, x = l.getD q 0 := ⟨_, rfl⟩
                      rw [← hx] at d0 hor l0
                      obtain ⟨C, hC⟩ : ∃ C, C = ctrTo l 116 j := ⟨_, rfl⟩
                      obtain ⟨D, hD⟩ : ∃ D, D = ctrTo l 116 (j + 1) := ⟨_, rfl⟩
                      obtain ⟨V, hV⟩ : ∃ V, IntKind.u32.wrap ((C : Int) * 256) = V := ⟨_, rfl⟩
                      rw [← hC] at d1 hor
                      rw [← hD] at hor HX
                      rw [hV] at hor
                      have u0 : IntKind.u32.wrap (x : Int) = (x : Int) := by rw [IntKind.wrap_u32]; omega
                      have HQ := Lib.hid hq
                      clear hq hx hC hD HR2
                      go_wp2_with fail
                      go_still_tail 10, (by kernel_rfl)
                      change wpList _ _ _ _ _ wo.drew
                      go_wp2_with fail
                      go_roundw
                      case rel => exact ⟨j + 1, by omega, by rw [HQ.out]; go_num, HX⟩
                      case measure => simp [intOf]; omega
                    · have hjn : j = 4 := by omega
                      have t3 : ¬ ((116 + j : Nat) : Int) < 120 := by omega
                      rw [hjn] at HR2
                      obtain ⟨jq, hjq⟩ : ∃ jq, jq = 116 + j := ⟨_, rfl⟩
                      rw [← hjq] at t3 ⊢
                      clear hjn jlt hj hjq
                      obtain ⟨W, hW⟩ : ∃ W, W = wo := ⟨_, rfl⟩
                      rw [← hW] at HR2 ⊢
                      clear hW wo
                      have HS := HR2
                      clear HR2
                      have HBl := HLt.out
                      have d0 : W.cell? ⟨bk, off + 120, none⟩ = some (.int .u8 (l.getD 120 0 : Nat)) := (HS.out.be.cell (p := ⟨bk, _, none⟩) hbk).trans (HCell.out 120 (by have := H128.out; have := HLen.out; omega))
                      have d1 : W.cell? ⟨bk, off + 121, none⟩ = some (.int .u8 (l.getD 121 0 : Nat)) := (HS.out.be.cell (p := ⟨bk, _, none⟩) hbk).trans (HCell.out 121 (by have := H128.out; have := HLen.out; omega))
                      have l0 := getD_lt HBl 120
                      have l1 := getD_lt HBl 121
                      have HN2 : Hid (n2 l 120 = ((l.getD 120 0 * 256 + l.getD 121 0 : Nat) : Int)) := Lib.hid rfl
                      generalize l.getD 120 0 = x at d0 l0 HN2
                      generalize l.getD 121 0 = y at d1 l1 HN2
                      have b0 : (120 : Int) < (k : Int) := by have := H128.out; have := HLen.out; omega
                      have b1 : (121 : Int) < (k : Int) := by have := H128.out; have := HLen.out; omega
                      have u0 : IntKind.i64.wrap (x : Int) = (x : Int) := by rw [IntKind.wrap_i64]; omega
                      have u1 : IntKind.i64.wrap (y : Int) = (y : Int) := by rw [IntKind.wrap_i64]; omega
                      have s0 : IntKind.i64.wrap ((x : Int) * 256) = (x : Int) * 256 := by rw [IntKind.wrap_i64]; omega
                      obtain ⟨N, hN⟩ : ∃ N, N = n2 l 120 := ⟨_, rfl⟩
                      have s1 : IntKind.i64.wrap ((x : Int) * 256 + (y : Int)) = N := by rw [hN, HN2.out, IntKind.wrap_i64]; omega
                      obtain ⟨v0, hv0⟩ := HS.out.old (k := 113) (by omega)
                      have hf0 := HS.out.box.free 113
                      have HX := Lib.hid (DcS.addrN H128.out HLt.out HS.out).drew
                      rw [← hN] at HX
                      clear hN HN2 HBl HS
                      go_wp2_with fail
                      go_still_tail 11, (by kernel_rfl)
                      change wpList _ _ _ _ _ W.drew
                      go_wp2_with fail
                      have HS : Hid (DcS 54 w g2 g5 (fAddr l) (W.setCell ⟨g5, 113, none⟩ (.int .i64 N)).drew) := HX
                      generalize (W.setCell ⟨g5, 113, none⟩ (.int .i64 N)).drew = Wa at HS ⊢
                      clear HX d0 d1 l0 l1 b0 b1 u0 u1 s0 s1 hv0 hf0
                      have HBl := HLt.out
                      have d0 : Wa.cell? ⟨bk, off + 122, none⟩ = some (.int .u8 (l.getD 122 0 : Nat)) := (HS.out.be.cell (p := ⟨bk, _, none⟩) hbk).trans (HCell.out 122 (by have := H128.out; have := HLen.out; omega))
                      have d1 : Wa.cell? ⟨bk, off + 123, none⟩ = some (.int .u8 (l.getD 123 0 : Nat)) := (HS.out.be.cell (p := ⟨bk, _, none⟩) hbk).trans (HCell.out 123 (by have := H128.out; have := HLen.out; omega))
                      have l0 := getD_lt HBl 122
                      have l1 := getD_lt HBl 123
                      have HN2 : Hid (n2 l 122 = ((l.getD 122 0 * 256 + l.getD 123 0 : Nat) : Int)) := Lib.hid rfl
                      generalize l.getD 122 0 = x at d0 l0 HN2
                      generalize l.getD 123 0 = y at d1 l1 HN2
                      have b0 : (122 : Int) < (k : Int) := by have := H128.out; have := HLen.out; omega
                      have b1 : (123 : Int) < (k : Int) := by have := H128.out; have := HLen.out; omega
                      have u0 : IntKind.i64.wrap (x : Int) = (x : Int) := by rw [IntKind.wrap_i64]; omega
                      have u1 : IntKind.i64.wrap (y : Int) = (y : Int) := by rw [IntKind.wrap_i64]; omega
                      have s0 : IntKind.i64.wrap ((x : Int) * 256) = (x : Int) * 256 := by rw [IntKind.wrap_i64]; omega
                      obtain ⟨N, hN⟩ : ∃ N, N = n2 l 122 := ⟨_, rfl⟩
                      have s1 : IntKind.i64.wrap ((x : Int) * 256 + (y : Int)) = N := by rw [hN, HN2.out, IntKind.wrap_i64]; omega
                      obtain ⟨v0, hv0⟩ := HS.out.old (k := 114) (by omega)
                      have hf0 := HS.out.box.free 114
                      have HX := Lib.hid (DcS.countN H128.out HLt.out HS.out).drew
                      rw [← hN] at HX
                      clear hN HN2 HBl HS
                      go_wp2_with fail
                      go_still_tail 11, (by kernel_rfl)
                      change wpList _ _ _ _ _ Wa.drew
                      go_wp2_with fail
                      have HS : Hid (DcS 54 w g2 g5 (fCount l) (Wa.setCell ⟨g5, 114, none⟩ (.int .i64 N)).drew) := HX
                      generalize (Wa.setCell ⟨g5, 114, none⟩ (.int .i64 N)).drew = Wb at HS ⊢
                      clear HX d0 d1 l0 l1 b0 b1 u0 u1 s0 s1 hv0 hf0
                      have HBl := HLt.out
                      have d0 : Wb.cell? ⟨bk, off + 124, none⟩ = some (.int .u8 (l.getD 124 0 : Nat)) := (HS.out.be.cell (p := ⟨bk, _, none⟩) hbk).trans (HCell.out 124 (by have := H128.out; have := HLen.out; omega))
                      have d1 : Wb.cell? ⟨bk, off + 125, none⟩ = some (.int .u8 (l.getD 125 0 : Nat)) := (HS.out.be.cell (p := ⟨bk, _, none⟩) hbk).trans (HCell.out 125 (by have := H128.out; have := HLen.out; omega))
                      have l0 := getD_lt HBl 124
                      have l1 := getD_lt HBl 125
                      have HN2 : Hid (n2 l 124 = ((l.getD 124 0 * 256 + l.getD 125 0 : Nat) : Int)) := Lib.hid rfl
                      generalize l.getD 124 0 = x at d0 l0 HN2
                      generalize l.getD 125 0 = y at d1 l1 HN2
                      have b0 : (124 : Int) < (k : Int) := by have := H128.out; have := HLen.out; omega
                      have b1 : (125 : Int) < (k : Int) := by have := H128.out; have := HLen.out; omega
                      have u0 : IntKind.i64.wrap (x : Int) = (x : Int) := by rw [IntKind.wrap_i64]; omega
                      have u1 : IntKind.i64.wrap (y : Int) = (y : Int) := by rw [IntKind.wrap_i64]; omega
                      have s0 : IntKind.i64.wrap ((x : Int) * 256) = (x : Int) * 256 := by rw [IntKind.wrap_i64]; omega
                      obtain ⟨N, hN⟩ : ∃ N, N = n2 l 124 := ⟨_, rfl⟩
                      have s1 : IntKind.i64.wrap ((x : Int) * 256 + (y : Int)) = N := by rw [hN, HN2.out, IntKind.wrap_i64]; omega
                      obtain ⟨v0, hv0⟩ := HS.out.old (k := 115) (by omega)
                      have hf0 := HS.out.box.free 115
                      have HX := Lib.hid (DcS.resN H128.out HLt.out HS.out).drew
                      rw [← hN] at HX
                      clear hN HN2 HBl HS
                      go_wp2_with fail
                      go_still_tail 11, (by kernel_rfl)
                      change wpList _ _ _ _ _ Wb.drew
                      go_wp2_with fail
                      have HS : Hid (DcS 54 w g2 g5 (fRes l) (Wb.setCell ⟨g5, 115, none⟩ (.int .i64 N)).drew) := HX
                      generalize (Wb.setCell ⟨g5, 115, none⟩ (.int .i64 N)).drew = Wc at HS ⊢
                      clear HX d0 d1 l0 l1 b0 b1 u0 u1 s0 s1 hv0 hf0
                      have HBl := HLt.out
                      have d0 : Wc.cell? ⟨bk, off + 126, none⟩ = some (.int .u8 (l.getD 126 0 : Nat)) := (HS.out.be.cell (p := ⟨bk, _, none⟩) hbk).trans (HCell.out 126 (by have := H128.out; have := HLen.out; omega))
                      have d1 : Wc.cell? ⟨bk, off + 127, none⟩ = some (.int .u8 (l.getD 127 0 : Nat)) := (HS.out.be.cell (p := ⟨bk, _, none⟩) hbk).trans (HCell.out 127 (by have := H128.out; have := HLen.out; omega))
                      have l0 := getD_lt HBl 126
                      have l1 := getD_lt HBl 127
                      have HN2 : Hid (n2 l 126 = ((l.getD 126 0 * 256 + l.getD 127 0 : Nat) : Int)) := Lib.hid rfl
                      generalize l.getD 126 0 = x at d0 l0 HN2
                      generalize l.getD 127 0 = y at d1 l1 HN2
                      have b0 : (126 : Int) < (k : Int) := by have := H128.out; have := HLen.out; omega
                      have b1 : (127 : Int) < (k : Int) := by have := H128.out; have := HLen.out; omega
                      have u0 : IntKind.i64.wrap (x : Int) = (x : Int) := by rw [IntKind.wrap_i64]; omega
                      have u1 : IntKind.i64.wrap (y : Int) = (y : Int) := by rw [IntKind.wrap_i64]; omega
                      have s0 : IntKind.i64.wrap ((x : Int) * 256) = (x : Int) * 256 := by rw [IntKind.wrap_i64]; omega
                      obtain ⟨N, hN⟩ : ∃ N, N = n2 l 126 := ⟨_, rfl⟩
                      have s1 : IntKind.i64.wrap ((x : Int) * 256 + (y : Int)) = N := by rw [hN, HN2.out, IntKind.wrap_i64]; omega
                      obtain ⟨v0, hv0⟩ := HS.out.old (k := 116) (by omega)
                      have hf0 := HS.out.box.free 116
                      have HX := Lib.hid (DcS.typN H128.out HLt.out HS.out).drew
                      rw [← hN] at HX
                      clear hN HN2 HBl HS
                      go_wp2_with fail
                      go_still_tail 11, (by kernel_rfl)
                      change wpList _ _ _ _ _ Wc.drew
                      go_wp2_with (with_reducible refine stop_dst 128 rfl ?_)
                      refine Stop.go ?_
                      have HS : Hid (DcS 54 w g2 g5 (fTyp l) (Wc.setCell ⟨g5, 116, none⟩ (.int .i64 N)).drew) := HX
                      generalize (Wc.setCell ⟨g5, 116, none⟩ (.int .i64 N)).drew = Wd at HS ⊢
                      clear HX d0 d1 l0 l1 b0 b1 u0 u1 s0 s1 hv0 hf0
                      have HQ5 : Hid (Wd.heap[g5]? = some (.cells R 54 (0, 0))) := Lib.hid (by rw [HR.out]; exact HS.out.box)
                      have HQ2 : Hid (Wd.heap[g2]? = some (.cells zF 54 (0, 0))) := Lib.hid HS.out.out
                      have HW := Lib.hid (HS.out.fin R)
                      go_wp2_with (first | (with_reducible refine wpList_load_row rfl 54 (.tmp 5) rfl g5 rfl 54 R (0, 0) _ HQ5.out Try.underlying54 rfl HIr.out ?_) | (with_reducible refine wpList_store_row rfl 54 (.tmp 2) (.tmp 128) rfl g2 R rfl rfl 54 _ HQ2.out HIr.out HOr.out HEr.out ?_))
                      rw [HP.out]
                      exact bodyPost_ret (results_row_tmp (p := 2) (u := 3) (by kernel_rfl) _ _ g2 54 R (0, 0) _ _ rfl HW.out.1 rfl Try.underlying54 HIr.out rfl) rfl ⟨rfl, HW.out.2⟩
end Go.Proofs.Ytkdjimcpdbpemaa
