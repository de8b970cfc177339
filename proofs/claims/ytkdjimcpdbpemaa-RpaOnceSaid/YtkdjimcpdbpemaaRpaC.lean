/- rpa: tag, Sign: the walks. -/
import Derived.Test.YtkdjimcpdbpemaaRpaB
namespace Go.Proofs.Ytkdjimcpdbpemaa
open Go Go.RowKit
set_option linter.unusedVariables false

def RF.tagBy (f : RF) (key : List Nat) : List Nat := macS key (f.enc.drop 36)
theorem info_fr : (Try.prog.info? 37).map (·.size) = some 117 := by kernel_rfl

/-- The boxes of tag. -/
structure TagS (w0 : World) (gf gk gr : Nat) (C K : Array Value) (w : World) : Prop where
  box : HasB w gf C 37
  key : HasB w gk K 22
  res : HasB w gr (u8s (List.replicate 32 0)).toArray 33
  be : Below w0.heap.size w0 w
  l1 : w0.heap.size ≤ gf
  l2 : gf < gk
  l3 : gk < gr
theorem TagS.below {w0 w w' : World} {gf gk gr : Nat} {C K : Array Value} (h : TagS w0 gf gk gr C K w) (hb : Below w.heap.size w w') : TagS w0 gf gk gr C K w' :=
  ⟨h.box.below hb h.box.lt, h.key.below hb h.key.lt, h.res.below hb h.res.lt, h.be.trans (hb.mono h.be.size), h.l1, h.l2, h.l3⟩

theorem tagBy_len (f : RF) (key : List Nat) : (f.tagBy key).length = 32 := macS_len key _
/-- What Mac is handed. -/
theorem tag_parts {f : RF} {key : List Nat} {w0 w : World} {gf gk gr gb : Nat} {C K : Array Value} (h : TagS w0 gf gk gr C K w) (hb : HasB w gb (u8s f.enc).toArray 45) (hK : K = (u8s key).toArray) (hl : key.length = 32) (hk : ∀ c ∈ key, c < 256) (hf : f.Ok) :
    Bytes (w.drew.alloc (.cells #[.slice (some ⟨gb, 36, none⟩) 92 92] 50)) (some ⟨gk, 0, none⟩) 32 key ∧ RowsR (w.drew.alloc (.cells #[.slice (some ⟨gb, 36, none⟩) 92 92] 50)) (some ⟨w.heap.size, 0, none⟩) [f.enc.drop 36] ∧
    (∀ w', Below (w.drew.alloc (.cells #[.slice (some ⟨gb, 36, none⟩) 92 92] 50)).heap.size (w.drew.alloc (.cells #[.slice (some ⟨gb, 36, none⟩) 92 92] 50)) w' → w'.heap[gr]? = some (.cells (u8s (List.replicate 32 0)).toArray 33 (0, 0)) ∧ Below w0.heap.size w0 w') ∧
    (∀ x ∈ [f.enc.drop 36], ∀ c ∈ x, c < 256) ∧ (∀ x ∈ [f.enc.drop 36], x.length ≤ 100000) := by
  have hb1 : Below w.heap.size w (w.drew.alloc (.cells #[.slice (some ⟨gb, 36, none⟩) 92 92] 50)) := (Below.refl _ _).drew.alloc (Nat.le_refl _) _
  refine ⟨?_, ?_, fun w' hb' => ?_, ?_, ?_⟩
  · have hk1 := h.key.below hb1 h.key.lt
    refine ⟨hl, hk, fun _ => ⟨gk, 0, rfl, hk1.lt, fun i hi => ?_⟩⟩
    rw [hk1.at (0 + i), hK]
    simp [u8s, List.getD, show i < key.length by omega]
  · intro k x hx
    match k, hx with
    | 0, hx =>
      simp at hx
      subst hx
      have hb2 := hb.below hb1 hb.lt
      have hel := RF.enc_len hf
      refine ⟨w.heap.size, 0, some ⟨gb, 36, none⟩, 92, rfl, (HasB.new w.drew #[Value.slice (some ⟨gb, 36, none⟩) 92 92] 50).lt, ?_, ⟨rfl, fun c hc => RF.enc_lt hf c (List.mem_of_mem_drop hc), fun _ => ⟨gb, 36, rfl, hb2.lt, fun i hi => ?_⟩⟩, (fun e => by cases e), by simp [hel], by decide⟩
      · have := (HasB.new w.drew #[Value.slice (some ⟨gb, 36, none⟩) 92 92] 50).at 0
        simpa [hel] using this
      · rw [List.length_drop, hel] at hi
        rw [hb2.at (36 + i)]
        simp [u8s, List.getD, List.getElem?_drop, show 36 + i < f.enc.length by omega]
  · exact ⟨(h.res.below hb1 h.res.lt).below hb' (h.res.below hb1 h.res.lt).lt, h.be.trans ((hb1.mono h.be.size).trans (hb'.mono (Nat.le_trans h.be.size hb1.size)))⟩
  · intro x hx c hc
    simp at hx
    subst hx
    exact RF.enc_lt hf c (List.mem_of_mem_drop hc)
  · intro x hx
    simp at hx
    subst hx
    have := RF.enc_len hf
    simp [this]
set_option maxRecDepth 100000 in
set_option maxHeartbeats 4000000 in
theorem rtag_any (f : RF) (key : List Nat) (w : World) (hf : f.Ok) (hk : key.length = 32) (hkb : ∀ c ∈ key, c < 256) :
    Calls Try.prog 26 #[f.val, .agg (u8s key).toArray] w fun e w' => e = .returned (.agg (u8s (f.tagBy key)).toArray) ∧ Below w.heap.size w w' := by
  obtain ⟨POST, hPOST⟩ : ∃ Q : Ending → World → Prop, Q = fun e w' => e = .returned (.agg (u8s (f.tagBy key)).toArray) ∧ Below w.heap.size w w' := ⟨_, rfl⟩
  rw [← hPOST]
  have HPOST := Lib.hid hPOST
  unfold RF.val
  obtain ⟨C, hC⟩ : ∃ C, C = f.cells.toArray := ⟨_, rfl⟩
  obtain ⟨K, hK⟩ : ∃ K, K = (u8s key).toArray := ⟨_, rfl⟩
  rw [← hC, ← hK]
  have HC := Lib.hid hC
  have HK := Lib.hid hK
  have HF := Lib.hid hf
  have HKl := Lib.hid hk
  have HKb := Lib.hid hkb
  have HI : Hid ((Try.prog.info? 37).map (·.size) = some C.size) := Lib.hid (by rw [hC, List.size_toArray, RF.cells_len hf]; exact info_fr)
  have HE : Hid (∀ w, Calls Try.prog 13 #[.agg C] w fun e w' => e = .returned (.agg (u8s f.enc).toArray) ∧ Below w.heap.size w w') := Lib.hid (fun w => by rw [hC]; exact renc_any f w hf)
  have HQ : Hid ((((w.alloc (Obj.cells C 37)).alloc (Obj.cells K 22)).alloc (Obj.cells #[Value.int IntKind.u8 0, Value.int IntKind.u8 0, Value.int IntKind.u8 0, Value.int IntKind.u8 0, Value.int IntKind.u8 0, Value.int IntKind.u8 0, Value.int IntKind.u8 0, Value.int IntKind.u8 0, Value.int IntKind.u8 0, Value.int IntKind.u8 0, Value.int IntKind.u8 0, Value.int IntKind.u8 0, Value.int IntKind.u8 0, Value.int IntKind.u8 0, Value.int IntKind.u8 0, Value.int IntKind.u8 0, Value.int IntKind.u8 0, Value.int IntKind.u8 0, Value.int IntKind.u8 0, Value.int IntKind.u8 0, Value.int IntKind.u8 0, Value.int IntKind.u8 0, Value.int IntKind.u8 0, Value.int IntKind.u8 0, Value.int IntKind.u8 0, Value.int IntKind.u8 0, Value.int IntKind.u8 0, Value.int IntKind.u8 0, Value.int IntKind.u8 0, Value.int IntKind.u8 0, Value.int IntKind.u8 0, Value.int IntKind.u8 0] 33)).heap[w.heap.size]? = some (.cells C 37 (0, 0))) := Lib.hid (((HasB.new w _ _).alloc _).alloc _)
  have HT : Hid (TagS w w.heap.size (w.heap.size + 1) (w.heap.size + 1 + 1) C K (((w.alloc (Obj.cells C 37)).alloc (Obj.cells K 22)).alloc (Obj.cells #[Value.int IntKind.u8 0, Value.int IntKind.u8 0, Value.int IntKind.u8 0, Value.int IntKind.u8 0, Value.int IntKind.u8 0, Value.int IntKind.u8 0, Value.int IntKind.u8 0, Value.int IntKind.u8 0, Value.int IntKind.u8 0, Value.int IntKind.u8 0, Value.int IntKind.u8 0, Value.int IntKind.u8 0, Value.int IntKind.u8 0, Value.int IntKind.u8 0, Value.int IntKind.u8 0, Value.int IntKind.u8 0, Value.int IntKind.u8 0, Value.int IntKind.u8 0, Value.int IntKind.u8 0, Value.int IntKind.u8 0, Value.int IntKind.u8 0, Value.int IntKind.u8 0, Value.int IntKind.u8 0, Value.int IntKind.u8 0, Value.int IntKind.u8 0, Value.int IntKind.u8 0, Value.int IntKind.u8 0, Value.int IntKind.u8 0, Value.int IntKind.u8 0, Value.int IntKind.u8 0, Value.int IntKind.u8 0, Value.int IntKind.u8 0] 33))) := Lib.hid ⟨((HasB.new w _ _).alloc _).alloc _, (HasB.new' (by simp) _ _).alloc _, HasB.new' (by simp) _ _, (((Below.refl _ _).alloc (Nat.le_refl _) _).alloc (by simp) _).alloc (by simp; omega) _, Nat.le_refl _, by omega, by omega⟩
  clear hPOST hC hK hf hk hkb
  go_enter Try.func26, Try.ntmps26
  go_wp2_with (with_reducible refine wpList_load_row rfl 37 (.tmp 2) rfl w.heap.size rfl 37 C (0, 0) _ HQ.out Try.underlying37 rfl HI.out ?_)
  clear HQ
  generalize (((w.alloc (Obj.cells C 37)).alloc (Obj.cells K 22)).alloc (Obj.cells #[Value.int IntKind.u8 0, Value.int IntKind.u8 0, Value.int IntKind.u8 0, Value.int IntKind.u8 0, Value.int IntKind.u8 0, Value.int IntKind.u8 0, Value.int IntKind.u8 0, Value.int IntKind.u8 0, Value.int IntKind.u8 0, Value.int IntKind.u8 0, Value.int IntKind.u8 0, Value.int IntKind.u8 0, Value.int IntKind.u8 0, Value.int IntKind.u8 0, Value.int IntKind.u8 0, Value.int IntKind.u8 0, Value.int IntKind.u8 0, Value.int IntKind.u8 0, Value.int IntKind.u8 0, Value.int IntKind.u8 0, Value.int IntKind.u8 0, Value.int IntKind.u8 0, Value.int IntKind.u8 0, Value.int IntKind.u8 0, Value.int IntKind.u8 0, Value.int IntKind.u8 0, Value.int IntKind.u8 0, Value.int IntKind.u8 0, Value.int IntKind.u8 0, Value.int IntKind.u8 0, Value.int IntKind.u8 0, Value.int IntKind.u8 0] 33)) = w1 at HT ⊢
  obtain ⟨gf, hgf⟩ : ∃ gf, gf = w.heap.size := ⟨_, rfl⟩
  obtain ⟨gk, hgk⟩ : ∃ gk, gk = w.heap.size + 1 := ⟨_, rfl⟩
  obtain ⟨gr, hgr⟩ : ∃ gr, gr = w.heap.size + 1 + 1 := ⟨_, rfl⟩
  rw [← hgr, ← hgk, ← hgf] at HT ⊢
  clear hgf hgk hgr
  refine (HE.out _).mono ?_
  rintro e w2 ⟨rfl, hb2⟩
  have HT2 := Lib.hid (HT.out.below hb2)
  clear hb2
  obtain ⟨D, hD⟩ : ∃ D, D = (u8s f.enc).toArray := ⟨_, rfl⟩
  rw [← hD]
  have HD := Lib.hid hD
  have hds : D.size = 128 := by rw [hD, List.size_toArray, u8s_len, RF.enc_len HF.out]
  have HID : Hid ((Try.prog.info? 45).map (·.size) = some D.size) := Lib.hid (by rw [hds]; exact info_128)
  have HOldD : Hid (z128.size = D.size) := Lib.hid (by rw [hds]; rfl)
  have HOneD : Hid (D.all (·.oneCell') = true) := Lib.hid (by rw [hD]; exact u8_oneA _)
  clear hD hds HT HE HI
  go_wp2_with (with_reducible refine wpList_store_row rfl 45 (.tmp 5) (.tmp 7) rfl w2.heap.size D rfl rfl 45 z128 (heap_new w2 _) HID.out HOldD.out HOneD.out ?_; rw [World.setRow_alloc_new])
  have HT3 : Hid (TagS w gf gk gr C K (w2.alloc (.cells D 45))) := Lib.hid (HT2.out.below ((Below.refl _ _).alloc (Nat.le_refl _) _))
  have HB3 : Hid (HasB (w2.alloc (.cells D 45)) w2.heap.size (u8s f.enc).toArray 45) := Lib.hid (by rw [← HD.out]; exact HasB.new _ _ _)
  generalize w2.alloc (.cells D 45) = w3 at HT3 HB3 ⊢
  obtain ⟨gb, hgb⟩ : ∃ gb, gb = w2.heap.size := ⟨_, rfl⟩
  rw [← hgb] at HB3 ⊢
  clear hgb HT2 HID HOldD HOneD HD
  obtain ⟨CT, hCT⟩ : ∃ CT, CT = (u8s (f.tagBy key)).toArray := ⟨_, rfl⟩
  have HCT := Lib.hid hCT
  have HCt : Hid ((u8s (macS key (flatTo [f.enc.drop 36] 1))).toArray = CT) := Lib.hid (by rw [hCT]; simp [flatTo, RF.tagBy])
  have htl : (f.tagBy key).length = 32 := tagBy_len f key
  have HIt : Hid ((Try.prog.info? 33).map (·.size) = some CT.size) := Lib.hid (by rw [hCT]; exact s32_size htl)
  have HOt : Hid ((u8s (List.replicate 32 0)).toArray.size = CT.size) := Lib.hid (by rw [hCT, List.size_toArray, List.size_toArray, u8s_len, u8s_len, htl]; simp)
  have HNt : Hid (CT.all (·.oneCell') = true) := Lib.hid (by rw [hCT]; exact u8_oneA _)
  have HPa := Lib.hid (tag_parts HT3.out HB3.out HK.out HKl.out HKb.out HF.out)
  clear hCT htl
  refine wp_region_held_drew (S := (fun _ => True)) (by kernel_rfl) (trivial) (fun hHeld => ?_)
  refine held_take 0 (v := ?_) rfl (by kernel_rfl) (by kernel_rfl) (by kernel_rfl) (fun _ _ _ h => h) (by rfl) (fun w hS => ?_) (by assumption) ?_
  rotate_left
  · try dsimp only at hS
    go_simp <;> with_reducible rfl
  try simp only [Act.put, List.setIfInBounds_toArray, List.set_cons_zero, List.set_cons_succ]
  refine held_take 1 (v := ?_) rfl (by kernel_rfl) (by kernel_rfl) (by kernel_rfl) (fun _ _ _ h => h) (by rfl) (fun w hS => ?_) (by assumption) ?_
  rotate_left
  · try dsimp only at hS
    go_simp <;> with_reducible rfl
  try simp only [Act.put, List.setIfInBounds_toArray, List.set_cons_zero, List.set_cons_succ]
  refine held_one 2 rfl (by kernel_rfl) (fun K hK => ?_)
  go_simp
  refine hK.out _ _ (fun _ => True) (fun _ h => h) trivial (fun hHeld => ?_)
  clear hK K
  try simp only [Act.put, List.setIfInBounds_toArray, List.set_cons_zero, List.set_cons_succ]
  refine held_one 3 rfl (by kernel_rfl) (fun K hK => ?_)
  go_simp
  refine Calls.mono (mac_any (some ⟨gk, 0, none⟩) 32 32 key (some ⟨w3.heap.size, 0, none⟩) 1 1 [f.enc.drop 36] _ HPa.out.1 (fun e => by cases e) (Nat.le_refl _) (by decide) (by omega) HPa.out.2.1 rfl HPa.out.2.2.2.1 HPa.out.2.2.2.2 (by simp [sumLen]; have := RF.enc_len HF.out; omega) (by omega)) ?_
  rintro e w4 ⟨rfl, hb4⟩
  rw [HCt.out]
  have HP4 := Lib.hid (HPa.out.2.2.1 w4 hb4)
  clear hb4
  refine hK.out _ _ (fun _ => True) (fun _ h => h) trivial (fun hHeld => ?_)
  clear hK K
  try simp only [Act.put, List.setIfInBounds_toArray, List.set_cons_zero, List.set_cons_succ]
  refine held_one 4 rfl (by kernel_rfl) (fun K hK => ?_)
  refine (if_pos (by kernel_rfl)).mpr ?_
  refine wp_store_row 33 (.tmp 4) (.tmp 11) rfl gr CT rfl rfl 33 _ HP4.out.1 HIt.out HOt.out HNt.out ?_
  refine hK.out _ _ (fun _ => True) (fun _ h => h) trivial (fun hHeld => ?_)
  clear hK K
  try simp only [Act.put, List.setIfInBounds_toArray, List.set_cons_zero, List.set_cons_succ]
  refine held_done (by kernel_rfl) ?_
  have HSet : Hid ((w4.setRow gr CT).heap[gr]? = some (.cells CT 33 (0, 0)) ∧ Below w.heap.size w (w4.setRow gr CT)) := Lib.hid ⟨setRow_heap _ gr _ CT 33 (0, 0) HP4.out.1, below_setRow HP4.out.2 (by have := HT3.out.l1; have := HT3.out.l2; have := HT3.out.l3; omega) CT⟩
  rw [← HCT.out] at HPOST
  go_wp2_with fail
  rw [HPOST.out]
  exact bodyPost_ret (results_cell_row (p := 4) (by kernel_rfl) _ _ gr 33 CT (0, 0) _ rfl HSet.out.1 Try.underlying33 rfl HIt.out) rfl ⟨rfl, HSet.out.2⟩
end Go.Proofs.Ytkdjimcpdbpemaa
