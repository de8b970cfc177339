/- rpa: the law's frame; keys of 128 bytes. rpa: RpaOnce: the walk. -/
import Derived.Test.YtkdjimcpdbpemaaRpaP
import Derived.Test.YtkdjimcpdbpemaaMaps
namespace Go.Proofs.Ytkdjimcpdbpemaa
open Go Go.RowKit Go.Maps
set_option linter.unusedVariables false

theorem keyLaw128 : Keyed Try.prog 45 := Keyed.of_law (deep_law_laid (m := 3) (by kernel_rfl) (by omega) (by decide +kernel) (by kernel_rfl) (by kernel_rfl))
theorem mapM_some {α β : Type} (f : α → Option β) : ∀ (l : List α), (∀ x ∈ l, ∃ y, f x = some y) → ∃ ys, l.mapM f = some ys
  | [], _ => ⟨[], by simp⟩
  | x :: r, h => by
    obtain ⟨y, hy⟩ := h x List.mem_cons_self
    obtain ⟨ys, hys⟩ := mapM_some f r (fun z hz => h z (List.mem_cons_of_mem _ hz))
    exact ⟨y :: ys, by simp [List.mapM_cons, hy, hys]⟩
theorem key128 (l : List Nat) (hl : l.length = 128) (hb : ∀ c ∈ l, c < 256) : ∃ L, keyOf Try.prog 45 (.agg (u8s l).toArray) = some L := by
  obtain ⟨m, hm⟩ : ∃ m, Try.prog.types.size = m + 1 := ⟨Try.prog.types.size - 1, by decide +kernel⟩
  have hkt : Try.prog.keyType 45 = true := by kernel_rfl
  have h2 : Try.prog.cellsOf 45 = 128 := by kernel_rfl
  have h1 : Try.prog.cellsOf 5 = 1 := by kernel_rfl
  have hsz : (u8s l).toArray.size = 128 := by rw [List.size_toArray, u8s_len, hl]
  have hf : Value.formed Try.prog 45 (.agg (u8s l).toArray) = true := by
    simp [Value.formed, Try.underlying45, h2, u8s_len, hl]
  have hmm : ∃ ys, ((List.range 128).mapM fun i => Try.prog.keyLits (m + 1) 5 (((u8s l).drop (i * Try.prog.cellsOf 5)).take (Try.prog.cellsOf 5))) = some ys := by
    refine mapM_some _ _ (fun i hi => ?_)
    have hi : i < 128 := List.mem_range.1 hi
    have e : ((u8s l).drop (i * Try.prog.cellsOf 5)).take (Try.prog.cellsOf 5) = [.int .u8 ((l.getD i 0 : Nat) : Int)] := by
      rw [h1, Nat.mul_one, List.drop_eq_getElem_cons (by rw [u8s_len, hl]; exact hi)]
      simp [u8s, List.getD, show i < l.length by omega]
    have hw : (Lit.int .u8 ((l.getD i 0 : Nat) : Int)).wf = true := by
      have : l.getD i 0 < 256 := by
        simp only [List.getD, List.getElem?_eq_getElem (show i < l.length by omega), Option.getD_some]
        exact hb _ (List.getElem_mem _)
      generalize l.getD i 0 = x at this ⊢
      simp [Lit.wf, IntKind.min, IntKind.max, IntKind.signed, IntKind.bits]
      omega
    rw [e]
    unfold Program.keyLits
    simpa [Try.underlying5] using hw
  obtain ⟨ys, hys⟩ := hmm
  unfold keyOf
  simp only [Try.underlying45, hkt, hf, hm]
  unfold Program.keyLits
  simp only [Try.underlying45, h2, Value.cells, u8s_len, hl, if_true, hys]
  exact ⟨_, rfl⟩

/-- The frame that an act asks. -/
def frameF (s : RS) (x : RAct) (last : RF) : RF :=
  if x.again = true then last
  else
    let f : RF := if 0 ≤ x.step ∧ x.step ≤ 2 then { x.f with ctr := (s.ctr + x.step.toNat) % 4294967296 } else x.f
    if x.sign = 1 then f.sign s.key else if x.sign = 2 then f.sign x.other else f
theorem frameF_ok {s : RS} {x : RAct} {last : RF} (hx : x.Ok) (hl : last.Ok) : (frameF s x last).Ok := by
  unfold frameF
  split
  · exact hl
  · have hf : (if 0 ≤ x.step ∧ x.step ≤ 2 then { x.f with ctr := (s.ctr + x.step.toNat) % 4294967296 } else x.f : RF).Ok := by
      split
      · exact RF.with_ctr hx.f (Nat.mod_lt _ (by decide))
      · exact hx.f
    show RF.Ok (if _ then _ else if _ then _ else _)
    split
    · exact RF.sign_ok hf _
    · split
      · exact RF.sign_ok hf _
      · exact hf
/-- The boxes of frame. -/
structure FrS (w0 : World) (gs ga gl gr gf : Nat) (s : RS) (x : RAct) (last f : RF) (w : World) : Prop where
  be : Below w0.heap.size w0 w
  st : HasB w gs s.cells.toArray 31
  act : HasB w ga x.cells.toArray 41
  res : HasB w gr zF 37
  box : HasB w gf f.cells.toArray 37
  ok : f.Ok
  l0 : w0.heap.size ≤ gs
  l1 : gs < ga
  l2 : ga < gl
  l3 : gl < gr
  l4 : gr < gf
theorem FrS.below {w0 w w' : World} {gs ga gl gr gf : Nat} {s : RS} {x : RAct} {last f : RF} (h : FrS w0 gs ga gl gr gf s x last f w) (hb : Below w.heap.size w w') : FrS w0 gs ga gl gr gf s x last f w' :=
  ⟨h.be.trans (hb.mono h.be.size), h.st.below hb h.st.lt, h.act.below hb h.act.lt, h.res.below hb h.res.lt, h.box.below hb h.box.lt, h.ok, h.l0, h.l1, h.l2, h.l3, h.l4⟩
theorem FrS.putCtr {w0 w : World} {gs ga gl gr gf : Nat} {s : RS} {x : RAct} {last f : RF} (h : FrS w0 gs ga gl gr gf s x last f w) (c : Nat) (hc : c < 4294967296) : FrS w0 gs ga gl gr gf s x last { f with ctr := c } (w.setCell ⟨gf, 112, none⟩ (.int .u32 (c : Int))) := by
  have h0 := h.l0
  have h1 := h.l1
  have h2 := h.l2
  have h3 := h.l3
  have h4 := h.l4
  have hg : w.grownBy (w.setCell ⟨gf, 112, none⟩ (.int .u32 (c : Int))) (some gf) := gb_set (gb_refl _ _) _ _
  exact ⟨below_gb h.be hg h.be.size (by omega), h.st.kept hg (by intro e; have := Option.some.inj e; omega), h.act.kept hg (by intro e; have := Option.some.inj e; omega), h.res.kept hg (by intro e; have := Option.some.inj e; omega), RF.putCtr h.ok h.box c, RF.with_ctr h.ok hc, h.l0, h.l1, h.l2, h.l3, h.l4⟩
theorem FrS.fin {w0 w : World} {gs ga gl gr gf : Nat} {s : RS} {x : RAct} {last f : RF} (h : FrS w0 gs ga gl gr gf s x last f w) (R : Array Value) : (w.setRow gr R).heap[gr]? = some (.cells R 37 (0, 0)) ∧ Below w0.heap.size w0 (w.setRow gr R) :=
  ⟨setRow_heap _ _ _ R 37 (0, 0) h.res, below_setRow h.be (by have := h.l0; have := h.l1; have := h.l2; have := h.l3; omega) R⟩
theorem RAct.parts {w : World} {g : Nat} {T : TypeId} {x : RAct} (hx : x.Ok) (h : HasB w g x.cells.toArray T) : w.rangeAt g 0 x.f.cells ∧ w.cell? ⟨g, 117, none⟩ = some (.int .i64 x.sign) ∧ w.rangeAt g 118 (u8s x.other) ∧ w.cell? ⟨g, 150, none⟩ = some (.int .i64 x.step) ∧ w.cell? ⟨g, 151, none⟩ = some (.bool x.again) := by
  have l1 := RF.cells_len hx.f
  have l2 : (u8s x.other).length = 32 := by rw [u8s_len, hx.ol]
  refine ⟨?_, ?_, ?_, ?_, ?_⟩
  · exact HasB.range3 (A := []) h rfl
  · exact HasB.cell1 (A := x.f.cells) h l1
  · have e : x.cells = (x.f.cells ++ [.int .i64 x.sign]) ++ (u8s x.other ++ ([.int .i64 x.step] ++ ([.bool x.again] ++ ([.bool x.done] ++ ([.bool x.ok] ++ (u8s x.data ++ ([.bool x.blind] ++ [.bool x.silent]))))))) := by simp [RAct.cells]
    rw [e] at h
    exact h.range3 (by simp [l1])
  · have e : x.cells = (x.f.cells ++ ([.int .i64 x.sign] ++ u8s x.other)) ++ ([.int .i64 x.step] ++ ([.bool x.again] ++ ([.bool x.done] ++ ([.bool x.ok] ++ (u8s x.data ++ ([.bool x.blind] ++ [.bool x.silent])))))) := by simp [RAct.cells]
    rw [e] at h
    exact h.cell1 (by simp [l1, l2])
  · have e : x.cells = (x.f.cells ++ ([.int .i64 x.sign] ++ (u8s x.other ++ [.int .i64 x.step]))) ++ ([.bool x.again] ++ ([.bool x.done] ++ ([.bool x.ok] ++ (u8s x.data ++ ([.bool x.blind] ++ [.bool x.silent]))))) := by simp [RAct.cells]
    rw [e] at h
    exact h.cell1 (by simp [l1, l2])
theorem RS.parts {w : World} {g : Nat} {T : TypeId} {s : RS} (hs : s.Ok) (h : HasB w g s.cells.toArray T) : w.rangeAt g 0 (u8s s.key) ∧ w.cell? ⟨g, 33, none⟩ = some (.int .u32 (s.ctr : Int)) := by
  refine ⟨HasB.range3 (A := []) h rfl, ?_⟩
  have e : s.cells = (u8s s.key ++ [.bool s.has]) ++ ([.int .u32 (s.ctr : Int)] ++ []) := by simp [RS.cells]
  rw [e] at h
  exact h.cell1 (by simp [u8s_len, hs.kl])
set_option maxRecDepth 100000 in
set_option maxHeartbeats 4000000 in
theorem frame_any (s : RS) (x : RAct) (last : RF) (w : World) (hs : s.Ok) (hx : x.Ok) (hl : last.Ok) :
    Calls Try.prog 11 #[s.val, .agg x.cells.toArray, last.val] w fun e w' => e = .returned (frameF s x last).val ∧ Below w.heap.size w w' := by
  obtain ⟨POST, hPOST⟩ : ∃ Q : Ending → World → Prop, Q = fun e w' => e = .returned (frameF s x last).val ∧ Below w.heap.size w w' := ⟨_, rfl⟩
  rw [← hPOST]
  have HPOST := Lib.hid hPOST
  have HS := Lib.hid hs
  have HX := Lib.hid hx
  have HLs := Lib.hid hl
  unfold RS.val RF.val
  obtain ⟨SC, hSC⟩ : ∃ N, N = s.cells.toArray := ⟨_, rfl⟩
  obtain ⟨XC, hXC⟩ : ∃ N, N = x.cells.toArray := ⟨_, rfl⟩
  obtain ⟨LC, hLC⟩ : ∃ N, N = (last : RF).cells.toArray := ⟨_, rfl⟩
  have HILC : Hid ((Try.prog.info? 37).map (·.size) = some LC.size) := Lib.hid (by rw [hLC]; exact info_f hl)
  have HOLC : Hid (zF.size = LC.size) := Lib.hid (by rw [hLC]; exact old_f hl)
  have HELC : Hid (LC.all (·.oneCell') = true) := Lib.hid (by rw [hLC]; exact RF.one _)
  have HLC := Lib.hid hLC
  obtain ⟨C0, hC0⟩ : ∃ N, N = (x.f : RF).cells.toArray := ⟨_, rfl⟩
  have HIC0 : Hid ((Try.prog.info? 37).map (·.size) = some C0.size) := Lib.hid (by rw [hC0]; exact info_f hx.f)
  have HOC0 : Hid (zF.size = C0.size) := Lib.hid (by rw [hC0]; exact old_f hx.f)
  have HEC0 : Hid (C0.all (·.oneCell') = true) := Lib.hid (by rw [hC0]; exact RF.one _)
  have HC0 := Lib.hid hC0
  rw [← hSC, ← hXC, ← hLC]
  have HW1 : Hid (Below w.heap.size w ((((w.alloc (.cells SC 31)).alloc (.cells XC 41)).alloc (.cells LC 37)).alloc (.cells zF 37)) ∧ HasB ((((w.alloc (.cells SC 31)).alloc (.cells XC 41)).alloc (.cells LC 37)).alloc (.cells zF 37)) w.heap.size s.cells.toArray 31 ∧ HasB ((((w.alloc (.cells SC 31)).alloc (.cells XC 41)).alloc (.cells LC 37)).alloc (.cells zF 37)) (w.heap.size + 1) x.cells.toArray 41 ∧ HasB ((((w.alloc (.cells SC 31)).alloc (.cells XC 41)).alloc (.cells LC 37)).alloc (.cells zF 37)) (w.heap.size + 1 + 1) LC 37 ∧ HasB ((((w.alloc (.cells SC 31)).alloc (.cells XC 41)).alloc (.cells LC 37)).alloc (.cells zF 37)) (w.heap.size + 1 + 1 + 1) zF 37) := Lib.hid (by
    rw [← hSC, ← hXC]
    exact ⟨((((Below.refl _ _).alloc (Nat.le_refl _) _).alloc (by simp) _).alloc (by simp; omega) _).alloc (by simp; omega) _, (((HasB.new w _ _).alloc _).alloc _).alloc _, ((HasB.new' (by simp) _ _).alloc _).alloc _, (HasB.new' (by simp) _ _).alloc _, HasB.new' (by simp) _ _⟩)
  clear hPOST hs hx hl hSC hXC hLC hC0
  go_enter Try.func11, Try.ntmps11
  go_wp2_with (with_reducible refine stop_dst 8 rfl ?_)
  refine Stop.go ?_
  generalize ((((w.alloc (.cells SC 31)).alloc (.cells XC 41)).alloc (.cells LC 37)).alloc (.cells zF 37)) = w1 at HW1 ⊢
  obtain ⟨gs, hgs⟩ : ∃ g, g = w.heap.size := ⟨_, rfl⟩
  obtain ⟨ga, hga⟩ : ∃ g, g = w.heap.size + 1 := ⟨_, rfl⟩
  obtain ⟨gl, hgl⟩ : ∃ g, g = w.heap.size + 1 + 1 := ⟨_, rfl⟩
  obtain ⟨gr, hgr⟩ : ∃ g, g = w.heap.size + 1 + 1 + 1 := ⟨_, rfl⟩
  have HG : Hid (w.heap.size ≤ gs ∧ gs < ga ∧ ga < gl ∧ gl < gr) := Lib.hid (by omega)
  have HB1 : Hid (Below w.heap.size w w1) := Lib.hid HW1.out.1
  have HW2 : Hid (HasB w1 gs s.cells.toArray 31 ∧ HasB w1 ga x.cells.toArray 41 ∧ HasB w1 gl LC 37 ∧ HasB w1 gr zF 37) := Lib.hid (by rw [hgr, hgl, hga, hgs]; exact HW1.out.2)
  rw [← hgr, ← hgl, ← hga, ← hgs]
  clear hgs hga hgl hgr HW1
  have hag := (RAct.parts HX.out HW2.out.2.1).2.2.2.2
  cases hq : x.again with
  | true =>
    rw [hq] at hag
    have hpo : POST = fun e w' => e = .returned (.agg LC) ∧ Below w.heap.size w w' := by rw [HPOST.out, HLC.out]; unfold frameF; rw [if_pos hq]; rfl
    have HPo := Lib.hid hpo
    have HQl : Hid (w1.heap[gl]? = some (.cells LC 37 (0, 0))) := Lib.hid HW2.out.2.2.1
    have HQz : Hid (w1.heap[gr]? = some (.cells zF 37 (0, 0))) := Lib.hid HW2.out.2.2.2
    have HW : Hid ((w1.setRow gr LC).heap[gr]? = some (.cells LC 37 (0, 0)) ∧ Below w.heap.size w (w1.setRow gr LC)) := Lib.hid ⟨setRow_heap _ _ _ LC 37 (0, 0) HQz.out, below_setRow HB1.out (by have := HG.out; omega) LC⟩
    clear hpo hq
    go_wp2_with (first | (with_reducible refine wpList_load_row rfl 37 (.tmp 5) rfl gl rfl 37 LC (0, 0) _ HQl.out Try.underlying37 rfl HILC.out ?_) | (with_reducible refine wpList_store_row rfl 37 (.tmp 6) (.tmp 10) rfl gr LC rfl rfl 37 _ HQz.out HILC.out HOLC.out HELC.out ?_))
    rw [HPo.out]
    exact bodyPost_ret (results_cell_row (p := 6) (by kernel_rfl) _ _ gr 37 LC (0, 0) _ rfl HW.out.1 Try.underlying37 rfl HILC.out) rfl ⟨rfl, HW.out.2⟩
  | false =>
    rw [hq] at hag
    have HAg := Lib.hid hq
    clear hq
    have HR0 : Hid (w1.rangeAt ga 0 x.f.cells) := Lib.hid (RAct.parts HX.out HW2.out.2.1).1
    have HIx : Hid ((Try.prog.info? 37).map (·.size) = some x.f.cells.length) := Lib.hid (by rw [RF.cells_len HX.out.f]; exact info_fr)
    go_wp2_with (with_reducible refine stop_dst 12 rfl ?_)
    refine Stop.go ?_
    refine wpList_load_mid rfl 37 (.tmp 11) rfl ga 0 rfl x.f.cells _ HR0.out Try.underlying37 rfl HIx.out ?_
    rw [← HC0.out]
    go_wp2_with (with_reducible refine wpList_store_row rfl 37 (.tmp 7) (.tmp 12) rfl w1.heap.size C0 rfl rfl 37 zF (heap_new w1 _) HIC0.out HOC0.out HEC0.out ?_; rw [World.setRow_alloc_new]; refine Stop.mk ?_)
    refine Stop.go ?_
    have H2 : Hid (FrS w gs ga gl gr w1.heap.size s x last x.f (w1.alloc (.cells C0 37))) := Lib.hid ⟨HB1.out.alloc HB1.out.size _, HW2.out.1.alloc _, HW2.out.2.1.alloc _, HW2.out.2.2.2.alloc _, by rw [HC0.out]; exact HasB.new _ _ _, HX.out.f, HG.out.1, HG.out.2.1, HG.out.2.2.1, HG.out.2.2.2, HW2.out.2.2.2.lt⟩
    generalize w1.alloc (.cells C0 37) = w2 at H2 ⊢
    obtain ⟨gf, hgf⟩ : ∃ g, g = w1.heap.size := ⟨_, rfl⟩
    rw [← hgf] at H2 ⊢
    clear hgf HW2 HB1 hag HR0
    have hst := (RAct.parts HX.out H2.out.act).2.2.2.1
    by_cases p1 : 0 ≤ x.step
    · by_cases p2 : x.step ≤ 2
      · have HSt : Hid (0 ≤ x.step ∧ x.step ≤ 2) := Lib.hid ⟨p1, p2⟩
        have hct := (RS.parts HS.out H2.out.st).2
        have hfc : w2.cell? ⟨gf, 112, none⟩ = some (.int .u32 (x.f.ctr : Int)) := RF.tail_at HX.out.f H2.out.box 0 _ rfl
        have hff : w2.frozen? ⟨gf, 112, none⟩ = false := H2.out.box.free 112
        have hfl := H2.out.box.lt
        obtain ⟨cn, hcn⟩ : ∃ cn, cn = (s.ctr + x.step.toNat) % 4294967296 := ⟨_, rfl⟩
        have HCn := Lib.hid hcn
        have e1 : IntKind.u32.wrap x.step = x.step := by rw [IntKind.wrap_u32]; omega
        have e2 : IntKind.u32.wrap ((s.ctr : Int) + x.step) = (cn : Int) := by rw [IntKind.wrap_u32, hcn]; omega
        clear hcn
        go_wp2_with (with_reducible refine stop_dst 28 rfl ?_)
        refine Stop.go ?_
        have H3 : Hid (FrS w gs ga gl gr gf s x last { x.f with ctr := cn } (w2.setCell ⟨gf, 112, none⟩ (.int .u32 (cn : Int)))) := Lib.hid (H2.out.putCtr cn (by rw [HCn.out]; exact Nat.mod_lt _ (by decide)))
        generalize w2.setCell ⟨gf, 112, none⟩ (.int .u32 (cn : Int)) = w3 at H3 ⊢
        clear hst hct hfc hff hfl e1 e2 p1 p2 H2
        rw [HCn.out] at H3
        obtain ⟨f, hfe⟩ : ∃ f : RF, f = ({ x.f with ctr := (s.ctr + x.step.toNat) % 4294967296 } : RF) := ⟨_, rfl⟩
        have HFe := Lib.hid hfe
        rw [← hfe] at H3
        clear hfe
        obtain ⟨Cf, hCf⟩ : ∃ N, N = (f : RF).cells.toArray := ⟨_, rfl⟩
        have HICf : Hid ((Try.prog.info? 37).map (·.size) = some Cf.size) := Lib.hid (by rw [hCf]; exact info_f H3.out.ok)
        have HOCf : Hid (zF.size = Cf.size) := Lib.hid (by rw [hCf]; exact old_f H3.out.ok)
        have HECf : Hid (Cf.all (·.oneCell') = true) := Lib.hid (by rw [hCf]; exact RF.one _)
        have HCf := Lib.hid hCf
        have HQf : Hid (w3.heap[gf]? = some (.cells Cf 37 (0, 0))) := Lib.hid (by rw [hCf]; exact H3.out.box)
        clear hCf
        have hsg := (RAct.parts HX.out H3.out.act).2.1
        by_cases s1 : x.sign = 1
        · rw [s1] at hsg
          have hro := RF.sign_ok H3.out.ok s.key
          have hsn := rsign_any f s.key
          unfold RF.val at hsn
          obtain ⟨R, hR⟩ : ∃ N, N = (f.sign s.key : RF).cells.toArray := ⟨_, rfl⟩
          have HIR : Hid ((Try.prog.info? 37).map (·.size) = some R.size) := Lib.hid (by rw [hR]; exact info_f hro)
          have HOR : Hid (zF.size = R.size) := Lib.hid (by rw [hR]; exact old_f hro)
          have HER : Hid (R.all (·.oneCell') = true) := Lib.hid (by rw [hR]; exact RF.one _)
          have HR := Lib.hid hR
          rw [← hR, ← HCf.out] at hsn
          have HSn := Lib.hid (fun w => hsn w H3.out.ok HS.out.kl HS.out.kb)
          obtain ⟨KL, hKL⟩ : ∃ KL, KL = u8s s.key := ⟨_, rfl⟩
          have HIk : Hid ((Try.prog.info? 22).map (·.size) = some KL.length) := Lib.hid (by rw [hKL, u8s_len, HS.out.kl]; exact info_k32)
          have HQk : Hid (w3.rangeAt gs 0 KL) := Lib.hid (by rw [hKL]; exact (RS.parts HS.out H3.out.st).1)
          rw [← hKL] at HSn
          have hpo : POST = fun e w' => e = .returned (.agg R) ∧ Below w.heap.size w w' := by rw [HPOST.out, hR]; unfold frameF; rw [if_neg (by rw [HAg.out]; decide)]; simp only []; rw [if_pos HSt.out, ← HFe.out, if_pos s1]; rfl
          have HPo := Lib.hid hpo
          clear hpo hR hKL hsn hro
          go_wp2_with (first | (with_reducible refine wpList_load_row rfl 37 (.tmp 7) rfl gf rfl 37 Cf (0, 0) _ HQf.out Try.underlying37 rfl HICf.out ?_) | (with_reducible refine wpList_load_mid rfl 22 (.tmp 33) rfl gs 0 rfl KL _ HQk.out Try.underlying22 rfl HIk.out ?_))
          refine (HSn.out w3).mono ?_
          rintro e wz ⟨rfl, hbz⟩
          have HZ := Lib.hid (H3.out.below hbz)
          clear hbz
          have HQz : Hid (wz.heap[gr]? = some (.cells zF 37 (0, 0))) := Lib.hid HZ.out.res
          have HW := Lib.hid (HZ.out.fin R)
          go_wp2_with (with_reducible refine wpList_store_row rfl 37 (.tmp 6) (.tmp 35) rfl gr R rfl rfl 37 _ HQz.out HIR.out HOR.out HER.out ?_)
          rw [HPo.out]
          exact bodyPost_ret (results_cell_row (p := 6) (by kernel_rfl) _ _ gr 37 R (0, 0) _ rfl HW.out.1 Try.underlying37 rfl HIR.out) rfl ⟨rfl, HW.out.2⟩
        by_cases s2 : x.sign = 2
        · rw [s2] at hsg
          have hro := RF.sign_ok H3.out.ok x.other
          have hsn := rsign_any f x.other
          unfold RF.val at hsn
          obtain ⟨R, hR⟩ : ∃ N, N = (f.sign x.other : RF).cells.toArray := ⟨_, rfl⟩
          have HIR : Hid ((Try.prog.info? 37).map (·.size) = some R.size) := Lib.hid (by rw [hR]; exact info_f hro)
          have HOR : Hid (zF.size = R.size) := Lib.hid (by rw [hR]; exact old_f hro)
          have HER : Hid (R.all (·.oneCell') = true) := Lib.hid (by rw [hR]; exact RF.one _)
          have HR := Lib.hid hR
          rw [← hR, ← HCf.out] at hsn
          have HSn := Lib.hid (fun w => hsn w H3.out.ok HX.out.ol HX.out.ob)
          obtain ⟨KL, hKL⟩ : ∃ KL, KL = u8s x.other := ⟨_, rfl⟩
          have HIk : Hid ((Try.prog.info? 22).map (·.size) = some KL.length) := Lib.hid (by rw [hKL, u8s_len, HX.out.ol]; exact info_k32)
          have HQk : Hid (w3.rangeAt ga 118 KL) := Lib.hid (by rw [hKL]; exact (RAct.parts HX.out H3.out.act).2.2.1)
          rw [← hKL] at HSn
          have hpo : POST = fun e w' => e = .returned (.agg R) ∧ Below w.heap.size w w' := by rw [HPOST.out, hR]; unfold frameF; rw [if_neg (by rw [HAg.out]; decide)]; simp only []; rw [if_pos HSt.out, ← HFe.out, if_neg s1, if_pos s2]; rfl
          have HPo := Lib.hid hpo
          clear hpo hR hKL hsn hro
          go_wp2_with (first | (with_reducible refine wpList_load_row rfl 37 (.tmp 7) rfl gf rfl 37 Cf (0, 0) _ HQf.out Try.underlying37 rfl HICf.out ?_) | (with_reducible refine wpList_load_mid rfl 22 (.tmp 39) rfl ga 118 rfl KL _ HQk.out Try.underlying22 rfl HIk.out ?_))
          refine (HSn.out w3).mono ?_
          rintro e wz ⟨rfl, hbz⟩
          have HZ := Lib.hid (H3.out.below hbz)
          clear hbz
          have HQz : Hid (wz.heap[gr]? = some (.cells zF 37 (0, 0))) := Lib.hid HZ.out.res
          have HW := Lib.hid (HZ.out.fin R)
          go_wp2_with (with_reducible refine wpList_store_row rfl 37 (.tmp 6) (.tmp 41) rfl gr R rfl rfl 37 _ HQz.out HIR.out HOR.out HER.out ?_)
          rw [HPo.out]
          exact bodyPost_ret (results_cell_row (p := 6) (by kernel_rfl) _ _ gr 37 R (0, 0) _ rfl HW.out.1 Try.underlying37 rfl HIR.out) rfl ⟨rfl, HW.out.2⟩
        have t1 : (x.sign == 1) = false := by simpa using s1
        have t2 : (x.sign == 2) = false := by simpa using s2
        have hpo : POST = fun e w' => e = .returned (.agg Cf) ∧ Below w.heap.size w w' := by rw [HPOST.out, HCf.out]; unfold frameF; rw [if_neg (by rw [HAg.out]; decide)]; simp only []; rw [if_pos HSt.out, ← HFe.out, if_neg s1, if_neg s2]; rfl
        have HPo := Lib.hid hpo
        clear hpo s1 s2
        go_wp2_with (with_reducible refine stop_dst 42 rfl ?_)
        refine Stop.go ?_
        refine wpList_load_row rfl 37 (.tmp 7) rfl gf rfl 37 Cf (0, 0) _ HQf.out Try.underlying37 rfl HICf.out ?_
        have HQz : Hid (w3.heap[gr]? = some (.cells zF 37 (0, 0))) := Lib.hid H3.out.res
        have HW := Lib.hid (H3.out.fin Cf)
        go_wp2_with (with_reducible refine wpList_store_row rfl 37 (.tmp 6) (.tmp 42) rfl gr Cf rfl rfl 37 _ HQz.out HICf.out HOCf.out HECf.out ?_)
        rw [HPo.out]
        exact bodyPost_ret (results_cell_row (p := 6) (by kernel_rfl) _ _ gr 37 Cf (0, 0) _ rfl HW.out.1 Try.underlying37 rfl HICf.out) rfl ⟨rfl, HW.out.2⟩
      · have HSt : Hid (¬(0 ≤ x.step ∧ x.step ≤ 2)) := Lib.hid (fun q => p2 q.2)
        go_wp2_with (with_reducible refine stop_dst 28 rfl ?_)
        refine Stop.go ?_
        clear hst p1 p2
        obtain ⟨f, hfe⟩ : ∃ f : RF, f = x.f := ⟨_, rfl⟩
        have HFe := Lib.hid hfe
        rw [← hfe] at H2
        clear hfe
        obtain ⟨Cf, hCf⟩ : ∃ N, N = (f : RF).cells.toArray := ⟨_, rfl⟩
        have HICf : Hid ((Try.prog.info? 37).map (·.size) = some Cf.size) := Lib.hid (by rw [hCf]; exact info_f H2.out.ok)
        have HOCf : Hid (zF.size = Cf.size) := Lib.hid (by rw [hCf]; exact old_f H2.out.ok)
        have HECf : Hid (Cf.all (·.oneCell') = true) := Lib.hid (by rw [hCf]; exact RF.one _)
        have HCf := Lib.hid hCf
        have HQf : Hid (w2.heap[gf]? = some (.cells Cf 37 (0, 0))) := Lib.hid (by rw [hCf]; exact H2.out.box)
        clear hCf
        have hsg := (RAct.parts HX.out H2.out.act).2.1
        by_cases s1 : x.sign = 1
        · rw [s1] at hsg
          have hro := RF.sign_ok H2.out.ok s.key
          have hsn := rsign_any f s.key
          unfold RF.val at hsn
          obtain ⟨R, hR⟩ : ∃ N, N = (f.sign s.key : RF).cells.toArray := ⟨_, rfl⟩
          have HIR : Hid ((Try.prog.info? 37).map (·.size) = some R.size) := Lib.hid (by rw [hR]; exact info_f hro)
          have HOR : Hid (zF.size = R.size) := Lib.hid (by rw [hR]; exact old_f hro)
          have HER : Hid (R.all (·.oneCell') = true) := Lib.hid (by rw [hR]; exact RF.one _)
          have HR := Lib.hid hR
          rw [← hR, ← HCf.out] at hsn
          have HSn := Lib.hid (fun w => hsn w H2.out.ok HS.out.kl HS.out.kb)
          obtain ⟨KL, hKL⟩ : ∃ KL, KL = u8s s.key := ⟨_, rfl⟩
          have HIk : Hid ((Try.prog.info? 22).map (·.size) = some KL.length) := Lib.hid (by rw [hKL, u8s_len, HS.out.kl]; exact info_k32)
          have HQk : Hid (w2.rangeAt gs 0 KL) := Lib.hid (by rw [hKL]; exact (RS.parts HS.out H2.out.st).1)
          rw [← hKL] at HSn
          have hpo : POST = fun e w' => e = .returned (.agg R) ∧ Below w.heap.size w w' := by rw [HPOST.out, hR]; unfold frameF; rw [if_neg (by rw [HAg.out]; decide)]; simp only []; rw [if_neg HSt.out, ← HFe.out, if_pos s1]; rfl
          have HPo := Lib.hid hpo
          clear hpo hR hKL hsn hro
          go_wp2_with (first | (with_reducible refine wpList_load_row rfl 37 (.tmp 7) rfl gf rfl 37 Cf (0, 0) _ HQf.out Try.underlying37 rfl HICf.out ?_) | (with_reducible refine wpList_load_mid rfl 22 (.tmp 33) rfl gs 0 rfl KL _ HQk.out Try.underlying22 rfl HIk.out ?_))
          refine (HSn.out w2).mono ?_
          rintro e wz ⟨rfl, hbz⟩
          have HZ := Lib.hid (H2.out.below hbz)
          clear hbz
          have HQz : Hid (wz.heap[gr]? = some (.cells zF 37 (0, 0))) := Lib.hid HZ.out.res
          have HW := Lib.hid (HZ.out.fin R)
          go_wp2_with (with_reducible refine wpList_store_row rfl 37 (.tmp 6) (.tmp 35) rfl gr R rfl rfl 37 _ HQz.out HIR.out HOR.out HER.out ?_)
          rw [HPo.out]
          exact bodyPost_ret (results_cell_row (p := 6) (by kernel_rfl) _ _ gr 37 R (0, 0) _ rfl HW.out.1 Try.underlying37 rfl HIR.out) rfl ⟨rfl, HW.out.2⟩
        by_cases s2 : x.sign = 2
        · rw [s2] at hsg
          have hro := RF.sign_ok H2.out.ok x.other
          have hsn := rsign_any f x.other
          unfold RF.val at hsn
          obtain ⟨R, hR⟩ : ∃ N, N = (f.sign x.other : RF).cells.toArray := ⟨_, rfl⟩
          have HIR : Hid ((Try.prog.info? 37).map (·.size) = some R.size) := Lib.hid (by rw [hR]; exact info_f hro)
          have HOR : Hid (zF.size = R.size) := Lib.hid (by rw [hR]; exact old_f hro)
          have HER : Hid (R.all (·.oneCell') = true) := Lib.hid (by rw [hR]; exact RF.one _)
          have HR := Lib.hid hR
          rw [← hR, ← HCf.out] at hsn
          have HSn := Lib.hid (fun w => hsn w H2.out.ok HX.out.ol HX.out.ob)
          obtain ⟨KL, hKL⟩ : ∃ KL, KL = u8s x.other := ⟨_, rfl⟩
          have HIk : Hid ((Try.prog.info? 22).map (·.size) = some KL.length) := Lib.hid (by rw [hKL, u8s_len, HX.out.ol]; exact info_k32)
          have HQk : Hid (w2.rangeAt ga 118 KL) := Lib.hid (by rw [hKL]; exact (RAct.parts HX.out H2.out.act).2.2.1)
          rw [← hKL] at HSn
          have hpo : POST = fun e w' => e = .returned (.agg R) ∧ Below w.heap.size w w' := by rw [HPOST.out, hR]; unfold frameF; rw [if_neg (by rw [HAg.out]; decide)]; simp only []; rw [if_neg HSt.out, ← HFe.out, if_neg s1, if_pos s2]; rfl
          have HPo := Lib.hid hpo
          clear hpo hR hKL hsn hro
          go_wp2_with (first | (with_reducible refine wpList_load_row rfl 37 (.tmp 7) rfl gf rfl 37 Cf (0, 0) _ HQf.out Try.underlying37 rfl HICf.out ?_) | (with_reducible refine wpList_load_mid rfl 22 (.tmp 39) rfl ga 118 rfl KL _ HQk.out Try.underlying22 rfl HIk.out ?_))
          refine (HSn.out w2).mono ?_
          rintro e wz ⟨rfl, hbz⟩
          have HZ := Lib.hid (H2.out.below hbz)
          clear hbz
          have HQz : Hid (wz.heap[gr]? = some (.cells zF 37 (0, 0))) := Lib.hid HZ.out.res
          have HW := Lib.hid (HZ.out.fin R)
          go_wp2_with (with_reducible refine wpList_store_row rfl 37 (.tmp 6) (.tmp 41) rfl gr R rfl rfl 37 _ HQz.out HIR.out HOR.out HER.out ?_)
          rw [HPo.out]
          exact bodyPost_ret (results_cell_row (p := 6) (by kernel_rfl) _ _ gr 37 R (0, 0) _ rfl HW.out.1 Try.underlying37 rfl HIR.out) rfl ⟨rfl, HW.out.2⟩
        have t1 : (x.sign == 1) = false := by simpa using s1
        have t2 : (x.sign == 2) = false := by simpa using s2
        have hpo : POST = fun e w' => e = .returned (.agg Cf) ∧ Below w.heap.size w w' := by rw [HPOST.out, HCf.out]; unfold frameF; rw [if_neg (by rw [HAg.out]; decide)]; simp only []; rw [if_neg HSt.out, ← HFe.out, if_neg s1, if_neg s2]; rfl
        have HPo := Lib.hid hpo
        clear hpo s1 s2
        go_wp2_with (with_reducible refine stop_dst 42 rfl ?_)
        refine Stop.go ?_
        refine wpList_load_row rfl 37 (.tmp 7) rfl gf rfl 37 Cf (0, 0) _ HQf.out Try.underlying37 rfl HICf.out ?_
        have HQz : Hid (w2.heap[gr]? = some (.cells zF 37 (0, 0))) := Lib.hid H2.out.res
        have HW := Lib.hid (H2.out.fin Cf)
        go_wp2_with (with_reducible refine wpList_store_row rfl 37 (.tmp 6) (.tmp 42) rfl gr Cf rfl rfl 37 _ HQz.out HICf.out HOCf.out HECf.out ?_)
        rw [HPo.out]
        exact bodyPost_ret (results_cell_row (p := 6) (by kernel_rfl) _ _ gr 37 Cf (0, 0) _ rfl HW.out.1 Try.underlying37 rfl HICf.out) rfl ⟨rfl, HW.out.2⟩
    · have HSt : Hid (¬(0 ≤ x.step ∧ x.step ≤ 2)) := Lib.hid (fun q => p1 q.1)
      go_wp2_with (with_reducible refine stop_dst 28 rfl ?_)
      refine Stop.go ?_
      clear hst p1
      obtain ⟨f, hfe⟩ : ∃ f : RF, f = x.f := ⟨_, rfl⟩
      have HFe := Lib.hid hfe
      rw [← hfe] at H2
      clear hfe
      obtain ⟨Cf, hCf⟩ : ∃ N, N = (f : RF).cells.toArray := ⟨_, rfl⟩
      have HICf : Hid ((Try.prog.info? 37).map (·.size) = some Cf.size) := Lib.hid (by rw [hCf]; exact info_f H2.out.ok)
      have HOCf : Hid (zF.size = Cf.size) := Lib.hid (by rw [hCf]; exact old_f H2.out.ok)
      have HECf : Hid (Cf.all (·.oneCell') = true) := Lib.hid (by rw [hCf]; exact RF.one _)
      have HCf := Lib.hid hCf
      have HQf : Hid (w2.heap[gf]? = some (.cells Cf 37 (0, 0))) := Lib.hid (by rw [hCf]; exact H2.out.box)
      clear hCf
      have hsg := (RAct.parts HX.out H2.out.act).2.1
      by_cases s1 : x.sign = 1
      · rw [s1] at hsg
        have hro := RF.sign_ok H2.out.ok s.key
        have hsn := rsign_any f s.key
        unfold RF.val at hsn
        obtain ⟨R, hR⟩ : ∃ N, N = (f.sign s.key : RF).cells.toArray := ⟨_, rfl⟩
        have HIR : Hid ((Try.prog.info? 37).map (·.size) = some R.size) := Lib.hid (by rw [hR]; exact info_f hro)
        have HOR : Hid (zF.size = R.size) := Lib.hid (by rw [hR]; exact old_f hro)
        have HER : Hid (R.all (·.oneCell') = true) := Lib.hid (by rw [hR]; exact RF.one _)
        have HR := Lib.hid hR
        rw [← hR, ← HCf.out] at hsn
        have HSn := Lib.hid (fun w => hsn w H2.out.ok HS.out.kl HS.out.kb)
        obtain ⟨KL, hKL⟩ : ∃ KL, KL = u8s s.key := ⟨_, rfl⟩
        have HIk : Hid ((Try.prog.info? 22).map (·.size) = some KL.length) := Lib.hid (by rw [hKL, u8s_len, HS.out.kl]; exact info_k32)
        have HQk : Hid (w2.rangeAt gs 0 KL) := Lib.hid (by rw [hKL]; exact (RS.parts HS.out H2.out.st).1)
        rw [← hKL] at HSn
        have hpo : POST = fun e w' => e = .returned (.agg R) ∧ Below w.heap.size w w' := by rw [HPOST.out, hR]; unfold frameF; rw [if_neg (by rw [HAg.out]; decide)]; simp only []; rw [if_neg HSt.out, ← HFe.out, if_pos s1]; rfl
        have HPo := Lib.hid hpo
        clear hpo hR hKL hsn hro
        go_wp2_with (first | (with_reducible refine wpList_load_row rfl 37 (.tmp 7) rfl gf rfl 37 Cf (0, 0) _ HQf.out Try.underlying37 rfl HICf.out ?_) | (with_reducible refine wpList_load_mid rfl 22 (.tmp 33) rfl gs 0 rfl KL _ HQk.out Try.underlying22 rfl HIk.out ?_))
        refine (HSn.out w2).mono ?_
        rintro e wz ⟨rfl, hbz⟩
        have HZ := Lib.hid (H2.out.below hbz)
        clear hbz
        have HQz : Hid (wz.heap[gr]? = some (.cells zF 37 (0, 0))) := Lib.hid HZ.out.res
        have HW := Lib.hid (HZ.out.fin R)
        go_wp2_with (with_reducible refine wpList_store_row rfl 37 (.tmp 6) (.tmp 35) rfl gr R rfl rfl 37 _ HQz.out HIR.out HOR.out HER.out ?_)
        rw [HPo.out]
        exact bodyPost_ret (results_cell_row (p := 6) (by kernel_rfl) _ _ gr 37 R (0, 0) _ rfl HW.out.1 Try.underlying37 rfl HIR.out) rfl ⟨rfl, HW.out.2⟩
      by_cases s2 : x.sign = 2
      · rw [s2] at hsg
        have hro := RF.sign_ok H2.out.ok x.other
        have hsn := rsign_any f x.other
        unfold RF.val at hsn
        obtain ⟨R, hR⟩ : ∃ N, N = (f.sign x.other : RF).cells.toArray := ⟨_, rfl⟩
        have HIR : Hid ((Try.prog.info? 37).map (·.size) = some R.size) := Lib.hid (by rw [hR]; exact info_f hro)
        have HOR : Hid (zF.size = R.size) := Lib.hid (by rw [hR]; exact old_f hro)
        have HER : Hid (R.all (·.oneCell') = true) := Lib.hid (by rw [hR]; exact RF.one _)
        have HR := Lib.hid hR
        rw [← hR, ← HCf.out] at hsn
        have HSn := Lib.hid (fun w => hsn w H2.out.ok HX.out.ol HX.out.ob)
        obtain ⟨KL, hKL⟩ : ∃ KL, KL = u8s x.other := ⟨_, rfl⟩
        have HIk : Hid ((Try.prog.info? 22).map (·.size) = some KL.length) := Lib.hid (by rw [hKL, u8s_len, HX.out.ol]; exact info_k32)
        have HQk : Hid (w2.rangeAt ga 118 KL) := Lib.hid (by rw [hKL]; exact (RAct.parts HX.out H2.out.act).2.2.1)
        rw [← hKL] at HSn
        have hpo : POST = fun e w' => e = .returned (.agg R) ∧ Below w.heap.size w w' := by rw [HPOST.out, hR]; unfold frameF; rw [if_neg (by rw [HAg.out]; decide)]; simp only []; rw [if_neg HSt.out, ← HFe.out, if_neg s1, if_pos s2]; rfl
        have HPo := Lib.hid hpo
        clear hpo hR hKL hsn hro
        go_wp2_with (first | (with_reducible refine wpList_load_row rfl 37 (.tmp 7) rfl gf rfl 37 Cf (0, 0) _ HQf.out Try.underlying37 rfl HICf.out ?_) | (with_reducible refine wpList_load_mid rfl 22 (.tmp 39) rfl ga 118 rfl KL _ HQk.out Try.underlying22 rfl HIk.out ?_))
        refine (HSn.out w2).mono ?_
        rintro e wz ⟨rfl, hbz⟩
        have HZ := Lib.hid (H2.out.below hbz)
        clear hbz
        have HQz : Hid (wz.heap[gr]? = some (.cells zF 37 (0, 0))) := Lib.hid HZ.out.res
        have HW := Lib.hid (HZ.out.fin R)
        go_wp2_with (with_reducible refine wpList_store_row rfl 37 (.tmp 6) (.tmp 41) rfl gr R rfl rfl 37 _ HQz.out HIR.out HOR.out HER.out ?_)
        rw [HPo.out]
        exact bodyPost_ret (results_cell_row (p := 6) (by kernel_rfl) _ _ gr 37 R (0, 0) _ rfl HW.out.1 Try.underlying37 rfl HIR.out) rfl ⟨rfl, HW.out.2⟩
      have t1 : (x.sign == 1) = false := by simpa using s1
      have t2 : (x.sign == 2) = false := by simpa using s2
      have hpo : POST = fun e w' => e = .returned (.agg Cf) ∧ Below w.heap.size w w' := by rw [HPOST.out, HCf.out]; unfold frameF; rw [if_neg (by rw [HAg.out]; decide)]; simp only []; rw [if_neg HSt.out, ← HFe.out, if_neg s1, if_neg s2]; rfl
      have HPo := Lib.hid hpo
      clear hpo s1 s2
      go_wp2_with (with_reducible refine stop_dst 42 rfl ?_)
      refine Stop.go ?_
      refine wpList_load_row rfl 37 (.tmp 7) rfl gf rfl 37 Cf (0, 0) _ HQf.out Try.underlying37 rfl HICf.out ?_
      have HQz : Hid (w2.heap[gr]? = some (.cells zF 37 (0, 0))) := Lib.hid H2.out.res
      have HW := Lib.hid (H2.out.fin Cf)
      go_wp2_with (with_reducible refine wpList_store_row rfl 37 (.tmp 6) (.tmp 42) rfl gr Cf rfl rfl 37 _ HQz.out HICf.out HOCf.out HECf.out ?_)
      rw [HPo.out]
      exact bodyPost_ret (results_cell_row (p := 6) (by kernel_rfl) _ _ gr 37 Cf (0, 0) _ rfl HW.out.1 Try.underlying37 rfl HICf.out) rfl ⟨rfl, HW.out.2⟩
end Go.Proofs.Ytkdjimcpdbpemaa
namespace Go.Proofs.Ytkdjimcpdbpemaa
open Go Go.RowKit Go.Maps
set_option linter.unusedVariables false

def encM (l : List Nat) : Value × Value := (.agg (u8s l).toArray, .bool true)
section
variable {α : Type} {P : Program} {k : TypeId} {enc : α → Value × Value} {w w' : World} {b : Nat} {xs : List α}
theorem MapHas.kept (h : MapHas enc w b xs) {row : Option Nat} (hg : w.grownBy w' row) (hn : some b ≠ row) : MapHas enc w' b xs := by
  have hlt := h.lt
  obtain ⟨es, c, h0, h1, h2⟩ := h
  exact ⟨es, c, by rw [hg.block b hlt hn]; exact h0, h1, h2⟩
theorem MapHas.lacks0 (h : MapHas enc w b xs) (K : Keyed P k) {t e : TypeId} (ht : P.underlying t = some (.map k e)) (hk : ∀ y ∈ xs, ∃ l, keyOf P k (enc y).1 = some l) {z : Value} (hz : (zeroValue e).run P w = .ok z w) {key : Value} (hkey : ∃ l, keyOf P k key = some l) (hno : ∀ y ∈ xs, (enc y).1 ≠ key) :
    (Instr.lookup t (.map (some b)) key false).run P w = .ok z w := by
  obtain ⟨es, clock, hb, h1, h2⟩ := h
  obtain ⟨lx, hlx⟩ := hkey
  have hkeys : ∀ e ∈ es.toList, ∃ l, keyOf P k e.key = some l := fun e he => by
    obtain ⟨y, hy, e1⟩ := h1 e he
    obtain ⟨l, hl⟩ := hk y hy
    rw [e1] at hl
    exact ⟨l, hl⟩
  rcases K.find w hlx es.toList hkeys with ⟨r1, r2⟩ | ⟨j, e0, r1, r2, r3⟩
  · simp [Instr.lookup, run_underlying ht, MapKept.run_getObj_map hb, K.check w _ hlx, r1, hz, Result.andThen]
  · exfalso
    have hm0 : e0 ∈ es.toList := List.mem_of_getElem? r2
    obtain ⟨y, hy, e1⟩ := h1 e0 hm0
    exact hno y hy (by rw [e1]; exact r3)
end
theorem keys_step (A : RA) (f : RF) (hfd : f.data.length = 64) (ok : Bool) :
    ((A.askStep f).key = true → A.s.has = false ∧ (A.askStep f).write = false ∧ (A.askStep f).data.take 32 = f.data.take 32) ∧ ((A.askStep f).write = true → A.s.has = true) ∧
    ((A.ask f).done (A.askStep f) ok).s.has = (A.s.has || ((A.askStep f).key && ok)) ∧
    ((A.ask f).done (A.askStep f) ok).s.key = (if ((A.askStep f).key && ok) = true then (A.askStep f).data.take 32 else A.s.key) := by
  by_cases h1 : f.typ = 1
  · cases hh : A.s.has with
    | true =>
      have e : A.askStep f = RP.zero := by unfold RA.askStep; rw [if_pos h1, hh]; rfl
      rw [e]
      have ed : (A.ask f).done RP.zero ok = A.ask f := by unfold RA.done; rw [if_pos (.inr rfl)]
      rw [ed]
      refine ⟨by simp [RP.zero], by simp [RP.zero], ?_, ?_⟩
      · show A.s.has = _; rw [hh]; rfl
      · show A.s.key = _; rw [if_neg (by simp [RP.zero])]
    | false =>
      have e : A.askStep f = ⟨true, false, 0, f.data.take 32 ++ List.replicate 32 0⟩ := by unfold RA.askStep; rw [if_pos h1, hh]; rfl
      have en : (A.ask f).now = .keying 0 := by show A.askNow f = _; unfold RA.askNow; rw [if_pos h1, hh]; rfl
      have es : (A.ask f).step = A.askStep f := rfl
      have hz : A.askStep f ≠ RP.zero := by rw [e]; intro q; have := congrArg RP.key q; simp [RP.zero] at this
      have ed : (A.ask f).done (A.askStep f) ok = { A.ask f with step := RP.zero, s := if ok then { (A.ask f).s with key := (A.askStep f).data.take 32, has := true } else (A.ask f).s, now := .keying (if ok then 0 else 6), last := .keying (if ok then 0 else 6) } := by
        unfold RA.done
        rw [if_neg (by rw [es]; exact fun q => q.elim (fun q => q rfl) hz), en]
      rw [ed]
      have ek : (A.askStep f).key = true := by rw [e]
      have ew : (A.askStep f).write = false := by rw [e]
      refine ⟨fun _ => ⟨rfl, ew, ?_⟩, fun q => (by rw [ew] at q; cases q), ?_, ?_⟩
      · rw [e]
        show (f.data.take 32 ++ List.replicate 32 0).take 32 = _
        rw [List.take_append_of_le_length (by rw [List.length_take]; omega), List.take_take, Nat.min_self]
      · rw [ek]
        cases ok
        · show A.s.has = _; rw [hh]; rfl
        · rfl
      · rw [ek]
        cases ok <;> rfl
  · by_cases h3 : f.typ = 3 ∧ A.refuse f = 0
    · have e : A.askStep f = ⟨false, true, f.addr, f.data⟩ := by unfold RA.askStep; rw [if_neg h1, if_pos h3.1, if_pos h3.2]
      have en : (A.ask f).now = .writing 0 f.addr := by show A.askNow f = _; unfold RA.askNow; rw [if_neg h1, if_pos h3.1, h3.2]
      have es : (A.ask f).step = A.askStep f := rfl
      have hh : A.s.has = true := by
        cases hh : A.s.has with
        | true => rfl
        | false => have := h3.2; unfold RA.refuse at this; rw [if_pos hh] at this; cases this
      have hz : A.askStep f ≠ RP.zero := by rw [e]; intro q; have := congrArg RP.write q; simp [RP.zero] at this
      have ed : (A.ask f).done (A.askStep f) ok = { A.ask f with step := RP.zero, s := if ok then { (A.ask f).s with ctr := ((A.ask f).s.ctr + 1) % 4294967296 } else (A.ask f).s, now := .writing (if ok then 0 else 6) f.addr, last := .writing (if ok then 0 else 6) f.addr } := by
        unfold RA.done
        rw [if_neg (by rw [es]; exact fun q => q.elim (fun q => q rfl) hz), en]
      rw [ed]
      have ek : (A.askStep f).key = false := by rw [e]
      refine ⟨fun q => (by rw [ek] at q; cases q), fun _ => hh, ?_, ?_⟩
      · rw [ek]
        cases ok <;> (show A.s.has = _; simp)
      · rw [ek]
        cases ok <;> rfl
    · have e : A.askStep f = RP.zero := by
        unfold RA.askStep
        rw [if_neg h1]
        by_cases h : f.typ = 3
        · rw [if_pos h, if_neg (fun q => h3 ⟨h, q⟩)]
        · rw [if_neg h]
      rw [e]
      have ed : (A.ask f).done RP.zero ok = A.ask f := by unfold RA.done; rw [if_pos (.inr rfl)]
      rw [ed]
      refine ⟨by simp [RP.zero], by simp [RP.zero], ?_, ?_⟩
      · show A.s.has = _; simp [RP.zero]
      · show A.s.key = _; rw [if_neg (by simp [RP.zero])]
/-- Without a key nothing is signed. -/
theorem u8s_inj {a b : List Nat} (h : u8s a = u8s b) : a = b :=
  (List.map_inj_right (fun x y h => by injection h with _ h; exact Int.ofNat.inj h)).1 h
theorem KnS.sub {w0 w : World} {g : Nat} {A : RA} {bs bs' : List (Nat × Array Value × TypeId)} (h : KnS w0 w g A bs) (hs : ∀ b ∈ bs', b ∈ bs) : KnS w0 w g A bs' := ⟨h.be, h.lg, h.area, h.ok, fun b hb => h.box b (hs b hb)⟩
theorem be4_inj {a b : Nat} (ha : a < 4294967296) (hb : b < 4294967296) (h : be4 a = be4 b) : a = b := by
  simp only [be4, List.cons.injEq, and_true] at h
  obtain ⟨h1, h2, h3, h4⟩ := h
  have e : ∀ c : Nat, c < 4294967296 → c = ((c / 16777216 % 256 * 256 + c / 65536 % 256) * 256 + c / 256 % 256) * 256 + c % 256 := fun c hc => by omega
  rw [e a ha, e b hb, h1, h2, h3, h4]
theorem enc_ctr {f f' : RF} (h : f.Ok) (h' : f'.Ok) (he : f.enc = f'.enc) : f.ctr = f'.ctr := by
  have e : ∀ f : RF, f.Ok → (f.enc.drop 116).take 4 = be4 f.ctr := fun f hf => by
    have e1 : f.enc = ([0, 0, 0, 0] ++ (f.tag ++ (f.data ++ f.nonce))) ++ (be4 f.ctr ++ (be2 f.addr ++ (be2 f.count ++ (be2 f.res ++ be2 f.typ)))) := by simp [RF.enc]
    rw [e1, List.drop_left' (by simp [hf.tl, hf.dl, hf.nl])]
    rfl
  exact be4_inj h.cb h'.cb (by rw [← e f h, ← e f' h', he])
theorem field_tag (f : RF) (hf : f.Ok) (w : World) : (Instr.field 37 (.agg f.cells.toArray) 0).run Try.prog w = .ok (.agg (u8s f.tag).toArray) w := by
  have h0 : f.cells.toArray.extract 0 (0 + 32) = (u8s f.tag).toArray := by
    have := extract3 (A := []) (B := u8s f.tag) (C := u8s f.data ++ (u8s f.nonce ++ f.tail)) (o := 0) (n := 32) rfl (by rw [u8s_len, hf.tl])
    exact this
  have hsz : (sizeOf 33).run Try.prog w = .ok 32 w := by kernel_rfl
  generalize f.cells.toArray = X at h0 ⊢
  simp only [Nat.zero_add] at h0
  simp [Instr.field, run_underlying Try.underlying37, asAgg, part, isAgg, run_underlying Try.underlying33, hsz, h0]
/-- A write that is taken. -/
theorem once_write {A : RA} {f : RF} (h : (A.askStep f).write = true) : f.tag = f.tagBy A.s.key ∧ A.s.ctr ≠ 4294967295 ∧ f.ctr = A.s.ctr := by
  have hr : A.refuse f = 0 := by
    unfold RA.askStep at h
    split at h
    · split at h <;> simp [RP.zero] at h
    · split at h
      · split at h
        · assumption
        · simp [RP.zero] at h
      · simp [RP.zero] at h
  unfold RA.refuse at hr
  split at hr
  · cases hr
  · split at hr
    · cases hr
    · rename_i h2
      split at hr
      · cases hr
      · rename_i h3
        split at hr
        · cases hr
        · rename_i h4
          exact ⟨Classical.not_not.1 h2, h3, Classical.not_not.1 h4⟩
theorem once_done {A : RA} {f : RF} (ok : Bool) (h : (A.askStep f).write = true) : ((A.ask f).done (A.askStep f) ok).s.ctr = (if ok = true then (A.s.ctr + 1) % 4294967296 else A.s.ctr) := by
  by_cases h1 : f.typ = 1
  · exfalso
    unfold RA.askStep at h
    rw [if_pos h1] at h
    split at h <;> simp [RP.zero] at h
  by_cases h3 : f.typ = 3 ∧ A.refuse f = 0
  · have e : A.askStep f = ⟨false, true, f.addr, f.data⟩ := by unfold RA.askStep; rw [if_neg h1, if_pos h3.1, if_pos h3.2]
    have en : (A.ask f).now = .writing 0 f.addr := by show A.askNow f = _; unfold RA.askNow; rw [if_neg h1, if_pos h3.1, h3.2]
    have es : (A.ask f).step = A.askStep f := rfl
    have hz : A.askStep f ≠ RP.zero := by rw [e]; intro q; have := congrArg RP.write q; simp [RP.zero] at this
    unfold RA.done
    rw [if_neg (by rw [es]; exact fun q => q.elim (fun q => q rfl) hz), en]
    cases ok <;> rfl
  · exfalso
    have e : A.askStep f = RP.zero := by
      unfold RA.askStep
      rw [if_neg h1]
      by_cases h : f.typ = 3
      · rw [if_pos h, if_neg (fun q => h3 ⟨h, q⟩)]
      · rw [if_neg h]
    rw [e] at h
    simp [RP.zero] at h
/-- The area, the map of what was taken, boxes in the order in which they were made (the last first). -/
structure OnS (w0 w : World) (g gm : Nat) (A : RA) (xs : List (List Nat)) (bs : List (Nat × Array Value × TypeId)) : Prop where
  kn : KnS w0 w g A bs
  mp : MapHas encM w gm xs
  ne : gm ≠ g
  lm : w0.heap.size ≤ gm
  nb : ∀ b ∈ bs, b.1 ≠ gm
  pw : (bs.map (·.1)).Pairwise (· > ·)
theorem OnS.at {w0 w : World} {g gm : Nat} {A : RA} {xs : List (List Nat)} {bs : List (Nat × Array Value × TypeId)} (h : OnS w0 w g gm A xs bs) {k : Nat} {C : Array Value} {T : TypeId} (hm : (k, C, T) ∈ bs) : HasB w k C T := h.kn.at hm
theorem OnS.below {w0 w w' : World} {g gm : Nat} {A : RA} {xs : List (List Nat)} {bs : List (Nat × Array Value × TypeId)} (h : OnS w0 w g gm A xs bs) (hb : Below w.heap.size w w') : OnS w0 w' g gm A xs bs := ⟨h.kn.below hb, h.mp.below hb, h.ne, h.lm, h.nb, h.pw⟩
theorem OnS.call {w0 w w' : World} {g gm : Nat} {A A' : RA} {xs : List (List Nat)} {bs : List (Nat × Array Value × TypeId)} (h : OnS w0 w g gm A xs bs) (ha : AreaAt w' g A') (hok : A'.Ok) (hg : w.grownBy w' (some g)) : OnS w0 w' g gm A' xs bs :=
  ⟨h.kn.call ha hok hg, h.mp.kept hg (fun e => h.ne (Option.some.inj e)), h.ne, h.lm, h.nb, h.pw⟩
theorem OnS.made {w0 w : World} {g gm : Nat} {A : RA} {xs : List (List Nat)} {bs : List (Nat × Array Value × TypeId)} (h : OnS w0 w g gm A xs bs) (C : Array Value) (T : TypeId) : OnS w0 (w.alloc (.cells C T)) g gm A xs ((w.heap.size, C, T) :: bs) := by
  refine ⟨h.kn.made C T, h.mp.below ((Below.refl _ _).alloc (Nat.le_refl _) _), h.ne, h.lm, fun b hb => ?_, ?_⟩
  · rcases List.mem_cons.1 hb with rfl | hb
    · have := h.mp.lt; show w.heap.size ≠ gm; omega
    · exact h.nb b hb
  · rw [List.map_cons, List.pairwise_cons]
    refine ⟨fun x hx => ?_, h.pw⟩
    obtain ⟨b, hb, rfl⟩ := List.mem_map.1 hx
    exact (h.kn.box b hb).1.lt
theorem OnS.upd {w0 w w' : World} {g gm : Nat} {A : RA} {xs : List (List Nat)} {l1 l2 : List (Nat × Array Value × TypeId)} {k : Nat} {C C' : Array Value} {T : TypeId} (h : OnS w0 w g gm A xs (l1 ++ (k, C, T) :: l2)) (hC : HasB w' k C' T) (hg : w.grownBy w' (some k)) : OnS w0 w' g gm A xs (l1 ++ (k, C', T) :: l2) := by
  have hk := h.kn.box (k, C, T) (by simp)
  have hpw := h.pw
  rw [List.map_append, List.map_cons] at hpw
  have hne : ∀ b ∈ l1 ++ l2, b.1 ≠ k := by
    intro b hb
    rw [List.pairwise_append] at hpw
    rcases List.mem_append.1 hb with q | q
    · have := hpw.2.2 b.1 (List.mem_map_of_mem q) k (by simp); omega
    · have := (List.pairwise_cons.1 hpw.2.1).1 b.1 (List.mem_map_of_mem q); show b.1 ≠ k; have h2 : k > b.1 := this; omega
  have hgm := h.nb (k, C, T) (by simp)
  refine ⟨⟨below_gb h.kn.be hg h.kn.be.size hk.2.2, h.kn.lg, HasB.kept h.kn.area hg (fun e => hk.2.1 (Option.some.inj e).symm), h.kn.ok, fun b hb => ?_⟩, h.mp.kept hg (fun e => hgm (Option.some.inj e).symm), h.ne, h.lm, fun b hb => ?_, by rw [List.map_append, List.map_cons]; exact hpw⟩
  · rcases List.mem_append.1 hb with q | q
    · have hb := h.kn.box b (by simp [q])
      exact ⟨hb.1.kept hg (fun e => hne b (by simp [q]) (Option.some.inj e)), hb.2⟩
    · rcases List.mem_cons.1 q with rfl | q
      · exact ⟨hC, hk.2⟩
      · have hb := h.kn.box b (by simp [q])
        exact ⟨hb.1.kept hg (fun e => hne b (by simp [q]) (Option.some.inj e)), hb.2⟩
  · rcases List.mem_append.1 hb with q | q
    · exact h.nb b (by simp [q])
    · rcases List.mem_cons.1 q with rfl | q
      · exact hgm
      · exact h.nb b (by simp [q])
theorem OnS.sub {w0 w : World} {g gm : Nat} {A : RA} {xs : List (List Nat)} {bs bs' : List (Nat × Array Value × TypeId)} (h : OnS w0 w g gm A xs bs) (hs : bs'.Sublist bs) : OnS w0 w g gm A xs bs' :=
  ⟨h.kn.sub (fun b hb => hs.subset hb), h.mp, h.ne, h.lm, fun b hb => h.nb b (hs.subset hb), h.pw.sublist (hs.map _)⟩
theorem OnS.put {w0 w w' : World} {g gm : Nat} {A : RA} {xs ys : List (List Nat)} {bs : List (Nat × Array Value × TypeId)} (h : OnS w0 w g gm A xs bs) (hm : MapHas encM w' gm ys) (hg : w.grownBy w' (some gm)) : OnS w0 w' g gm A ys bs :=
  ⟨⟨below_gb h.kn.be hg h.kn.be.size h.lm, h.kn.lg, HasB.kept h.kn.area hg (fun e => h.ne (Option.some.inj e).symm), h.kn.ok, fun b hb => ⟨(h.kn.box b hb).1.kept hg (fun e => h.nb b hb (Option.some.inj e)), (h.kn.box b hb).2⟩⟩, hm, h.ne, h.lm, h.nb, h.pw⟩
/-- What the map holds was taken before. -/
def Took (A : RA) (xs : List (List Nat)) : Prop := ∀ x ∈ xs, ∃ f : RF, f.Ok ∧ x = f.enc ∧ f.ctr < A.s.ctr
theorem Took.keys {A : RA} {xs : List (List Nat)} (h : Took A xs) : ∀ y ∈ xs, ∃ l, keyOf Try.prog 45 (encM y).1 = some l := fun y hy => by
  obtain ⟨f, hf, rfl, _⟩ := h y hy
  exact key128 _ (RF.enc_len hf) (RF.enc_lt hf)
theorem Took.new {A : RA} {xs : List (List Nat)} (h : Took A xs) {f : RF} (hf : f.Ok) (hc : f.ctr = A.s.ctr) : ∀ y ∈ xs, (encM y).1 ≠ (encM f.enc).1 := fun y hy e => by
  obtain ⟨f', hf', rfl, hlt⟩ := h y hy
  have e1 : (u8s f'.enc).toArray = (u8s f.enc).toArray := by
    have : Value.agg (u8s f'.enc).toArray = Value.agg (u8s f.enc).toArray := e
    injection this
  have e2 := u8s_inj (List.toArray_inj e1)
  have := enc_ctr hf' hf e2
  omega

theorem held_two {P : Program} {l : List Oper} {Q : Exit → Act → World → Prop} {md : Region.Mode} {S : World → Prop} (i j : Nat) {oi oj : Oper} {ri rj : List Oper} {fuel : Nat} {listed : Array Bool} {a : Act} {w : World} (hdi : l.drop i = oi :: ri) (hdj : l.drop j = oj :: rj)
    (hr : Region.ready md l.toArray listed = [i, j])
    (hi : ∀ K' : Act → World → Prop, Shut (∀ a w (S' : World → Prop), (∀ w, S' w → S w) → S' w → (S' w → wpAnyH P md l.toArray Q S' fuel (listed.setIfInBounds i true) a w) → K' a w) → if Region.wanted oi (yielded l.toArray a.tmps) = true then Oper.wp P oi a w K' Q else K' (a.put oi.dst undef) w)
    (hj : ∀ K' : Act → World → Prop, Shut (∀ a w (S' : World → Prop), (∀ w, S' w → S w) → S' w → (S' w → wpAnyH P md l.toArray Q S' fuel (listed.setIfInBounds j true) a w) → K' a w) → if Region.wanted oj (yielded l.toArray a.tmps) = true then Oper.wp P oj a w K' Q else K' (a.put oj.dst undef) w) : wpAnyH P md l.toArray Q S (fuel + 1) listed a w :=
  wpAnyH_ready hr (by simp) (AllReadyH.cons (drop_get hdi) (fun K' hK => hi K' fun a w S' hSS hS hW => hK.out a w (hSS _ hS) fun _ => held_mono hSS _ _ _ _ (hW hS)) (AllReadyH.cons (drop_get hdj) (fun K' hK => hj K' fun a w S' hSS hS hW => hK.out a w (hSS _ hS) fun _ => held_mono hSS _ _ _ _ (hW hS)) AllReadyH.nil))
def joinQ (A : Nat → Act) (R : Nat → World → Prop) : Exit → Act → World → Prop
  | .normal, a, w => ∃ g, a = A g ∧ R g w
  | _, _, _ => False
theorem join_at {P : Program} {c : Code} {Q : Exit → Act → World → Prop} {a : Act} {w : World} {A : Nat → Act} {R : Nat → World → Prop} (h1 : c.wp P (joinQ A R) a w) (h2 : ∀ g w', R g w' → Q .normal (A g) w') : c.wp P Q a w :=
  wp_mono h1 fun e a w h => by
    cases e
    case normal => obtain ⟨g, rfl, hr⟩ := h; exact h2 g w hr
    all_goals exact h.elim
theorem info_act : (Try.prog.info? 41).map (·.size) = some 220 := by kernel_rfl
theorem subl {α : Type} (a b c d e : α) (x y : α) : [x, y].Sublist [a, b, c, d, e, x, y] := by
  have := List.sublist_append_right [a, b, c, d, e] [x, y]
  exact this
set_option maxRecDepth 100000 in
set_option maxHeartbeats 8000000 in
theorem once_any (key : List Nat) (hk : key.length = 32 ∧ ∀ c ∈ key, c < 256) (ct : Nat) (hct : ct < 4294967296) (a : Option Addr) (n cap : Nat) (ls : List RAk) (w : World) (hl : Rws 220 (fun x : RAk => x.1.cells) w a n ls) :
    Calls Try.prog 3 #[.agg (u8s key).toArray, .int .u32 (ct : Int), .slice a n cap] w fun e w' => e = .returned (.bool true) ∧ Below w.heap.size w w' := by
  obtain ⟨POST, hPOST⟩ : ∃ Q : Ending → World → Prop, Q = fun e w' => e = .returned (.bool true) ∧ Below w.heap.size w w' := ⟨_, rfl⟩
  rw [← hPOST]
  have HPOST := Lib.hid hPOST
  have HL0 := Lib.hid hl
  have HKq := Lib.hid hk
  have hso : (⟨key, true, ct⟩ : RS).Ok := ⟨hk.1, hk.2, hct⟩
  have HSo := Lib.hid hso
  obtain ⟨KC, hKC⟩ : ∃ KC, KC = (u8s key).toArray := ⟨_, rfl⟩
  obtain ⟨KL, hKL⟩ : ∃ KL, KL = u8s key := ⟨_, rfl⟩
  have HKL := Lib.hid hKL
  have HKCL : Hid (KC = KL.toArray) := Lib.hid (by rw [hKC, hKL])
  have HIkl : Hid ((Try.prog.info? 22).map (·.size) = some KL.length) := Lib.hid (by rw [hKL, u8s_len, hk.1]; exact info_k32)
  have HIk : Hid ((Try.prog.info? 22).map (·.size) = some KC.size) := Lib.hid (by rw [hKC, List.size_toArray, u8s_len, hk.1]; exact info_k32)
  obtain ⟨SC, hSC⟩ : ∃ N, N = (⟨key, true, ct⟩ : RS).cells.toArray := ⟨_, rfl⟩
  have HISC : Hid ((Try.prog.info? 31).map (·.size) = some SC.size) := Lib.hid (by rw [hSC, List.size_toArray, RS.len hso]; exact info_st)
  have HOSC : Hid ((#[Value.int .u8 0, Value.int .u8 0, Value.int .u8 0, Value.int .u8 0, Value.int .u8 0, Value.int .u8 0, Value.int .u8 0, Value.int .u8 0, Value.int .u8 0, Value.int .u8 0, Value.int .u8 0, Value.int .u8 0, Value.int .u8 0, Value.int .u8 0, Value.int .u8 0, Value.int .u8 0, Value.int .u8 0, Value.int .u8 0, Value.int .u8 0, Value.int .u8 0, Value.int .u8 0, Value.int .u8 0, Value.int .u8 0, Value.int .u8 0, Value.int .u8 0, Value.int .u8 0, Value.int .u8 0, Value.int .u8 0, Value.int .u8 0, Value.int .u8 0, Value.int .u8 0, Value.int .u8 0, .bool false, .int .u32 0] : Array Value).size = SC.size) := Lib.hid (by rw [show SC.size = 34 by rw [hSC, List.size_toArray, RS.len hso]]; rfl)
  have HESC : Hid (SC.all (·.oneCell') = true) := Lib.hid (by rw [hSC]; exact RS.one _)
  have HSC := Lib.hid hSC
  have hbs := built_sa ⟨key, true, ct⟩ hso
  have hnew := fun w => new_has 8 ⟨key, true, ct⟩ w (by decide) hso rfl
  unfold RS.val at hnew
  rw [← hSC] at hbs hnew
  have hbs : Try.prog.built 31 [(0, .agg KC), (1, .bool true), (2, .int .u32 (ct : Int))] = some SC := by rw [hKC]; exact hbs
  have HBs := Lib.hid hbs
  have HNew := Lib.hid hnew
  have hek := fun w => equalIn_u8s 9998 22 32 Try.underlying22 hk.2 hk.2 hk.1 hk.1 w
  simp only [decide_true] at hek
  rw [← hKC] at hek
  have HEk := Lib.hid hek
  have HKC := Lib.hid hKC
  rw [← hKC]
  clear hPOST hl hk hct hso hKC hKL hSC hbs hnew hek
  have hmm := @run_makeMap Try.prog
  go_enter Try.func3, Try.ntmps3
  go_wp2_with fail
  have HK1 : Hid (HasB (w.alloc (.cells KC 22)) w.heap.size KC 22) := Lib.hid (HasB.new _ _ _)
  have HB1 : Hid (Below w.heap.size w (w.alloc (.cells KC 22))) := Lib.hid ((Below.refl _ _).alloc (Nat.le_refl _) _)
  generalize w.alloc (.cells KC 22) = w1 at HK1 HB1 ⊢
  obtain ⟨gk, hgk⟩ : ∃ gk, gk = w.heap.size := ⟨_, rfl⟩
  have HGk : Hid (w.heap.size ≤ gk) := Lib.hid (by omega)
  rw [← hgk] at HK1 ⊢
  clear hgk
  refine (known_any w1).mono ?_
  rintro e w2 ⟨rfl, hb⟩
  have HK2 : Hid (w2.heap[gk]? = some (.cells KC 22 (0, 0))) := Lib.hid (HK1.out.below hb HK1.out.lt)
  have HB2 : Hid (Below w.heap.size w w2) := Lib.hid (HB1.out.trans (hb.mono HB1.out.size))
  clear hb HK1 HB1
  by_cases h80 : 80 < n
  · have t80 : (80 : Int) < (n : Int) := by omega
    go_wp2_with fail
    rw [HPOST.out]
    exact ⟨rfl, HB2.out⟩
  have t80 : ¬ (80 : Int) < (n : Int) := by omega
  have hn80 : n ≤ 80 := by omega
  clear h80
  go_wp2_with (first | (with_reducible refine stop_build 31 _ rfl ?_) | (with_reducible refine wpList_load_row rfl 22 (.tmp 3) rfl gk rfl 22 KC (0, 0) _ HK2.out Try.underlying22 rfl HIk.out ?_))
  refine Stop.go ?_
  refine wpList_buildTo rfl 31 _ rfl _ rfl SC ?_ ?_
  · rw [List.map_toArray]; exact HBs.out
  go_wp2_with fail
  refine (HNew.out w2).mono ?_
  rintro e w3 ⟨g, rfl, hge, hA, hb⟩
  have H3 : Hid (KnS w w3 g (RA.new 8 ⟨key, true, ct⟩) [(gk, KC, 22)]) := Lib.hid ⟨HB2.out.trans (hb.mono HB2.out.size), Nat.le_trans HB2.out.size hge, hA, RA.new_ok (by decide) HSo.out, fun b hb2 => by
    simp only [List.mem_singleton] at hb2
    subst hb2
    have hlt := lt_of_block HK2.out
    exact ⟨HasB.below HK2.out hb hlt, by show gk ≠ g; omega, HGk.out⟩⟩
  clear hb hA hge HK2 HB2
  go_wp2_with fail
  have H4 : Hid (OnS w ((w3.alloc (.map #[] 0)).alloc (.cells zF 37)) g w3.heap.size (RA.new 8 ⟨key, true, ct⟩) [] [(w3.heap.size + 1, zF, 37), (gk, KC, 22)]) := Lib.hid (by
    have h1 : OnS w (w3.alloc (.map #[] 0)) g w3.heap.size (RA.new 8 ⟨key, true, ct⟩) [] [(gk, KC, 22)] := ⟨H3.out.below ((Below.refl _ _).alloc (Nat.le_refl _) _), MapHas.made w3, by have := H3.out.area.lt; omega, H3.out.be.size, fun b hb => by have := (H3.out.box b hb).1.lt; omega, by simp⟩
    have h2 := h1.made zF 37
    rw [show (w3.alloc (.map #[] 0)).heap.size = w3.heap.size + 1 by simp] at h2
    exact h2)
  generalize (w3.alloc (.map #[] 0)).alloc (.cells zF 37) = w4 at H4 ⊢
  obtain ⟨gm, hgm⟩ : ∃ gm, gm = w3.heap.size := ⟨_, rfl⟩
  obtain ⟨gl, hgl⟩ : ∃ gl, gl = w3.heap.size + 1 := ⟨_, rfl⟩
  rw [← hgl, ← hgm] at H4 ⊢
  clear hgl hgm H3
  go_loopw [11] (fun i wr => ∃ k : Nat, k ≤ n ∧ i = .int .i64 (k : Int) ∧ Hid (∃ (A : RA) (last : RF) (xs : List (List Nat)), OnS w wr g gm A xs [(gl, last.cells.toArray, 37), (gk, KC, 22)] ∧ last.Ok ∧ A.s.key = key ∧ A.s.has = true ∧ Took A xs)) (fun i _ => n - (intOf i).toNat)
  case atStart => exact ⟨0, by omega, rfl, Lib.hid ⟨_, RF.zero, [], by rw [← RF.zero_cells]; exact H4.out, RF.zero_ok, rfl, rfl, fun x hx => by cases hx⟩⟩
  case round =>
    obtain ⟨k, hk, rfl, HI⟩ := hrel
    obtain ⟨wo, rfl⟩ : ∃ wo : World, wo = wr := ⟨_, rfl⟩
    by_cases hlt : k < n
    · obtain ⟨A, last, xs, hOn, hlo, hky, hhs, htk⟩ := HI.out
      have hkl : k < ls.length := by rw [HL0.out.1]; exact hlt
      obtain ⟨z, hz⟩ : ∃ z, ls[k]? = some z := ⟨_, List.getElem?_eq_getElem hkl⟩
      obtain ⟨b, off, rfl, hbl, _⟩ := HL0.out.2 (by omega)
      have hrg := fun wr hb => HL0.out.range (wr := wr) hb hlt hz (RAct.len z.2)
      obtain ⟨x0, hx0⟩ := z
      have hr1 : ∀ w', Below w.heap.size w w' → w'.rangeAt b (off + k * 220) x0.cells := hrg
      clear hrg hz
      obtain ⟨zok, hzok⟩ : ∃ o, o = x0.ok := ⟨_, rfl⟩
      have HOkc : Hid (∀ w', Below w.heap.size w w' → w'.cell? ⟨b, off + k * 220 + 153, none⟩ = some (.bool zok)) := Lib.hid (fun w' hb => hr1 w' hb 153 _ (by
        have e : ∀ X : List Value, X.length = 36 → (x0.f.cells ++ (X ++ ([.bool x0.ok] ++ (u8s x0.data ++ ([.bool x0.blind] ++ [.bool x0.silent])))))[153]? = some (.bool x0.ok) := fun X hX => by
          rw [List.getElem?_append_right (by rw [RF.cells_len hx0.f]; decide), RF.cells_len hx0.f, List.getElem?_append_right (by rw [hX]; decide), hX]; rfl
        have := e ([.int .i64 x0.sign] ++ (u8s x0.other ++ ([.int .i64 x0.step] ++ ([.bool x0.again] ++ [.bool x0.done])))) (by simp [u8s_len, hx0.ol])
        rw [hzok]
        simpa [RAct.cells, List.append_assoc] using this))
      have HRx : Hid (∀ w', Below w.heap.size w w' → w'.rangeAt b (off + k * 220) x0.cells) := Lib.hid hr1
      have hfo := frameF_ok (s := A.s) hx0 hlo
      obtain ⟨f, hfe⟩ : ∃ f, f = frameF A.s x0 last := ⟨_, rfl⟩
      rw [← hfe] at hfo
      have hst := fun w h => state_any A g w h hOn.kn.ok
      have hfr := fun w => frame_any A.s x0 last w hOn.kn.ok.s hx0 hlo
      have hask := fun w h => ask_any A f g w h hOn.kn.ok hfo
      have hAo := RA.ask_ok hOn.kn.ok hfo
      have hPo : (A.askStep f).Ok := hAo.step
      have hen := fun w => renc_any f w hfo
      have hks := keys_step A f hfo.dl zok
      have hpk : (A.askStep f).key = false := by cases q : (A.askStep f).key with | false => rfl | true => (have := (hks.1 q).1; rw [hhs] at this; cases this)
      rw [← hfe] at hfr
      unfold RS.val at hst
      unfold RS.val RF.val at hfr
      unfold RF.val RP.val at hask
      unfold RF.val at hen
      obtain ⟨LC, hLC⟩ : ∃ N, N = (last : RF).cells.toArray := ⟨_, rfl⟩
      have HILC : Hid ((Try.prog.info? 37).map (·.size) = some LC.size) := Lib.hid (by rw [hLC]; exact info_f hlo)
      have HOLC : Hid (zF.size = LC.size) := Lib.hid (by rw [hLC]; exact old_f hlo)
      have HELC : Hid (LC.all (·.oneCell') = true) := Lib.hid (by rw [hLC]; exact RF.one _)
      have HLC := Lib.hid hLC
      obtain ⟨FC, hFC⟩ : ∃ N, N = (f : RF).cells.toArray := ⟨_, rfl⟩
      have HIFC : Hid ((Try.prog.info? 37).map (·.size) = some FC.size) := Lib.hid (by rw [hFC]; exact info_f hfo)
      have HOFC : Hid (zF.size = FC.size) := Lib.hid (by rw [hFC]; exact old_f hfo)
      have HEFC : Hid (FC.all (·.oneCell') = true) := Lib.hid (by rw [hFC]; exact RF.one _)
      have HFC := Lib.hid hFC
      obtain ⟨PS, hPS⟩ : ∃ N, N = (A.askStep f : RP).cells.toArray := ⟨_, rfl⟩
      have HIPS : Hid ((Try.prog.info? 43).map (·.size) = some PS.size) := Lib.hid (by rw [hPS]; exact info_p hPo)
      have HOPS : Hid (zP.size = PS.size) := Lib.hid (by rw [hPS]; exact old_p hPo)
      have HEPS : Hid (PS.all (·.oneCell') = true) := Lib.hid (by rw [hPS]; exact RP.one _)
      have HPS := Lib.hid hPS
      obtain ⟨S1, hS1⟩ : ∃ N, N = (A.s : RS).cells.toArray := ⟨_, rfl⟩
      have HIS1 : Hid ((Try.prog.info? 31).map (·.size) = some S1.size) := Lib.hid (by rw [hS1, List.size_toArray, RS.len hOn.kn.ok.s]; exact info_st)
      have HOS1 : Hid ((#[Value.int .u8 0, Value.int .u8 0, Value.int .u8 0, Value.int .u8 0, Value.int .u8 0, Value.int .u8 0, Value.int .u8 0, Value.int .u8 0, Value.int .u8 0, Value.int .u8 0, Value.int .u8 0, Value.int .u8 0, Value.int .u8 0, Value.int .u8 0, Value.int .u8 0, Value.int .u8 0, Value.int .u8 0, Value.int .u8 0, Value.int .u8 0, Value.int .u8 0, Value.int .u8 0, Value.int .u8 0, Value.int .u8 0, Value.int .u8 0, Value.int .u8 0, Value.int .u8 0, Value.int .u8 0, Value.int .u8 0, Value.int .u8 0, Value.int .u8 0, Value.int .u8 0, Value.int .u8 0, .bool false, .int .u32 0] : Array Value).size = S1.size) := Lib.hid (by rw [show S1.size = 34 by rw [hS1, List.size_toArray, RS.len hOn.kn.ok.s]]; rfl)
      have HES1 : Hid (S1.all (·.oneCell') = true) := Lib.hid (by rw [hS1]; exact RS.one _)
      have HS1 := Lib.hid hS1
      obtain ⟨EN, hEN⟩ : ∃ N, N = (u8s f.enc).toArray := ⟨_, rfl⟩
      have HIEN : Hid ((Try.prog.info? 45).map (·.size) = some EN.size) := Lib.hid (by rw [hEN, List.size_toArray, u8s_len, RF.enc_len hfo]; exact info_128)
      have HOEN : Hid (z128.size = EN.size) := Lib.hid (by rw [show EN.size = 128 by rw [hEN, List.size_toArray, u8s_len, RF.enc_len hfo]]; rfl)
      have HEEN : Hid (EN.all (·.oneCell') = true) := Lib.hid (by rw [hEN]; exact u8_oneA _)
      have HEN := Lib.hid hEN
      rw [← hS1] at hst hfr
      rw [← hLC, ← hFC] at hfr
      rw [← hFC, ← hPS] at hask
      rw [← hFC, ← hEN] at hen
      have H4 : Hid (OnS w wo g gm A xs [(gl, LC, 37), (gk, KC, 22)]) := Lib.hid (by rw [hLC]; exact hOn)
      have HIx : Hid ((Try.prog.info? 41).map (·.size) = some x0.cells.length) := Lib.hid (by rw [RAct.len hx0]; exact info_act)
      obtain ⟨cw, hcw⟩ : ∃ c, c = A.s.ctr := ⟨_, rfl⟩
      have HCw := Lib.hid hcw
      have HSok : Hid A.s.Ok := Lib.hid hOn.kn.ok.s
      have HSt := Lib.hid hst
      have HFr := Lib.hid hfr
      have HAsk := Lib.hid hask
      have HEnc := Lib.hid hen
      have HAo := Lib.hid hAo
      have HPo := Lib.hid hPo
      have HFo := Lib.hid hfo
      have HTk := Lib.hid htk
      have HKy2 := Lib.hid hky
      have HHs := Lib.hid hhs
      have HKs := Lib.hid hks
      have HPk := Lib.hid hpk
      have hlk : (k : Int) < (n : Int) := by omega
      have hk0 : (0 : Int) ≤ (k : Int) := by omega
      have hkn : ((k : Int)).toNat = k := by omega
      clear HI hOn hlo hky hhs htk hr1 hzok hfo hfe hst hfr hask hAo hPo hen hks hpk hLC hFC hPS hS1 hEN hcw hx0 hbl
      go_wp2_with fail
      refine (HSt.out wo H4.out.kn.area).mono ?_
      rintro e w5 ⟨rfl, hb⟩
      have H5 := Lib.hid (H4.out.below hb)
      clear hb H4 HSt
      go_wp2_with (first | (with_reducible refine wpList_store_row rfl 31 (.tmp 12) (.tmp 43) rfl w5.heap.size S1 rfl rfl 31 #[Value.int .u8 0, Value.int .u8 0, Value.int .u8 0, Value.int .u8 0, Value.int .u8 0, Value.int .u8 0, Value.int .u8 0, Value.int .u8 0, Value.int .u8 0, Value.int .u8 0, Value.int .u8 0, Value.int .u8 0, Value.int .u8 0, Value.int .u8 0, Value.int .u8 0, Value.int .u8 0, Value.int .u8 0, Value.int .u8 0, Value.int .u8 0, Value.int .u8 0, Value.int .u8 0, Value.int .u8 0, Value.int .u8 0, Value.int .u8 0, Value.int .u8 0, Value.int .u8 0, Value.int .u8 0, Value.int .u8 0, Value.int .u8 0, Value.int .u8 0, Value.int .u8 0, Value.int .u8 0, .bool false, .int .u32 0] (heap_new w5 _) HIS1.out HOS1.out HES1.out ?_; rw [World.setRow_alloc_new]; refine Stop.mk ?_))
      refine Stop.go ?_
      have H6 : Hid (OnS w (w5.alloc (.cells S1 31)) g gm A xs [(w5.heap.size, S1, 31), (gl, LC, 37), (gk, KC, 22)]) := Lib.hid (H5.out.made S1 _)
      generalize w5.alloc (.cells S1 31) = w6 at H6 ⊢
      obtain ⟨g1, hg1⟩ : ∃ g, g = w5.heap.size := ⟨_, rfl⟩
      rw [← hg1] at H6 ⊢
      clear hg1 H5
      have HQs1 : Hid (∀ w', Below w6.heap.size w6 w' → w'.heap[g1]? = some (.cells S1 31 (0, 0))) := Lib.hid (fun w' hw => HasB.below (H6.out.at (by simp)) hw (HasB.lt (H6.out.at (k := g1) (C := S1) (T := 31) (by simp))))
      have HQl : Hid (∀ w', Below w6.heap.size w6 w' → w'.heap[gl]? = some (.cells LC 37 (0, 0))) := Lib.hid (fun w' hw => HasB.below (H6.out.at (by simp)) hw (HasB.lt (H6.out.at (k := gl) (C := LC) (T := 37) (by simp))))
      go_wp2_with fail
      apply join_at (R := fun gf w8 => Hid (OnS w w8 g gm A xs [(gf, FC, 37), (g1, S1, 31), (gl, LC, 37), (gk, KC, 22)]))
      · skip
        refine wp_region_held_drew (S := (fun w' => Below w6.heap.size w6 w')) (by kernel_rfl) ((Below.refl _ _).drew) (fun hHeld => ?_)
        refine held_take 0 (v := (.agg S1)) rfl (by kernel_rfl) (by kernel_rfl) (by kernel_rfl) (fun _ _ _ h => h) (by rfl) (fun w hS => ?_) (by assumption) ?_
        · exact yield_row _ _ 31 (.tmp 12) (by rfl) g1 (by rfl) 31 S1 (0, 0) _ (HQs1.out w hS) Try.underlying31 (by rfl) HIS1.out
        try simp only [Act.put, List.setIfInBounds_toArray, List.set_cons_zero, List.set_cons_succ]
        refine held_take 1 (v := ?_) rfl (by kernel_rfl) (by kernel_rfl) (by kernel_rfl) (fun _ _ _ h => h) (by rfl) (fun w hS => ?_) (by assumption) ?_
        rotate_left
        · try dsimp only at hS
          go_simp <;> with_reducible rfl
        try simp only [Act.put, List.setIfInBounds_toArray, List.set_cons_zero, List.set_cons_succ]
        refine held_take 2 (v := ?_) rfl (by kernel_rfl) (by kernel_rfl) (by kernel_rfl) (fun _ _ _ h => h) (by rfl) (fun w hS => ?_) (by assumption) ?_
        rotate_left
        · try dsimp only at hS
          go_simp <;> with_reducible rfl
        try simp only [Act.put, List.setIfInBounds_toArray, List.set_cons_zero, List.set_cons_succ]
        refine held_take 3 (v := ?_) rfl (by kernel_rfl) (by kernel_rfl) (by kernel_rfl) (fun _ _ _ h => h) (by rfl) (fun w hS => ?_) (by assumption) ?_
        rotate_left
        · try dsimp only at hS
          go_simp <;> with_reducible rfl
        try simp only [Act.put, List.setIfInBounds_toArray, List.set_cons_zero, List.set_cons_succ]
        refine held_take 4 (v := (.agg x0.cells.toArray)) rfl (by kernel_rfl) (by kernel_rfl) (by kernel_rfl) (fun _ _ _ h => h) (by rfl) (fun w hS => ?_) (by assumption) ?_
        · exact yield_load_mid _ _ 41 (.tmp 47) (by rfl) b (off + k * 220) (by rfl) x0.cells _ (HRx.out w (H6.out.kn.be.trans (hS.mono H6.out.kn.be.size))) Try.underlying41 (by rfl) HIx.out
        try simp only [Act.put, List.setIfInBounds_toArray, List.set_cons_zero, List.set_cons_succ]
        refine held_take 5 (v := (.agg LC)) rfl (by kernel_rfl) (by kernel_rfl) (by kernel_rfl) (fun _ _ _ h => h) (by rfl) (fun w hS => ?_) (by assumption) ?_
        · exact yield_row _ _ 37 (.tmp 10) (by rfl) gl (by rfl) 37 LC (0, 0) _ (HQl.out w hS) Try.underlying37 (by rfl) HILC.out
        try simp only [Act.put, List.setIfInBounds_toArray, List.set_cons_zero, List.set_cons_succ]
        refine held_two 6 7 rfl rfl (by kernel_rfl) (fun K hK => ?_) (fun K hK => ?_)
        · go_simp
          refine (HFr.out _).mono ?_
          rintro e w7 ⟨rfl, hb7⟩
          have HB7 : Hid (Below w6.heap.size w6 w7) := Lib.hid ((Below.refl _ _).drew.trans hb7)
          clear hb7
          refine hK.out _ _ (fun w' => Below w6.heap.size w6 w') (fun _ h => h) HB7.out (fun hHeld => ?_)
          clear hK K
          try simp only [Act.put, List.setIfInBounds_toArray, List.set_cons_zero, List.set_cons_succ]
          refine held_one 7 rfl (by kernel_rfl) (fun K hK => ?_)
          go_simp
          refine hK.out _ _ (fun w' => Below w6.heap.size w6 w') (fun _ h => h) (HB7.out.alloc HB7.out.size _) (fun hHeld => ?_)
          clear hK K
          try simp only [Act.put, List.setIfInBounds_toArray, List.set_cons_zero, List.set_cons_succ]
          refine held_one 8 rfl (by kernel_rfl) (fun K hK => ?_)
          refine (if_pos (by kernel_rfl)).mpr ?_
          refine wp_store_row 37 (.tmp 13) (.tmp 50) rfl w7.heap.size FC rfl rfl 37 zF (heap_new w7 _) HIFC.out HOFC.out HEFC.out ?_
          refine hK.out _ _ (fun w' => Below w6.heap.size w6 w') (fun _ h => h) (below_setRow (HB7.out.alloc HB7.out.size _) HB7.out.size FC) (fun hHeld => ?_)
          clear hK K
          try simp only [Act.put, List.setIfInBounds_toArray, List.set_cons_zero, List.set_cons_succ]
          rw [World.setRow_alloc_new]
          have H7 : Hid (OnS w (w7.alloc (.cells FC 37)) g gm A xs [(w7.heap.size, FC, 37), (g1, S1, 31), (gl, LC, 37), (gk, KC, 22)]) := Lib.hid ((H6.out.below HB7.out).made FC 37)
          generalize w7.alloc (.cells FC 37) = w8 at H7 ⊢
          obtain ⟨gf, hgf⟩ : ∃ gf, gf = w7.heap.size := ⟨_, rfl⟩
          rw [← hgf] at H7 ⊢
          clear hgf
          refine held_done (by kernel_rfl) ?_
          exact ⟨gf, rfl, H7⟩
        · go_simp
          have HW6 : Hid (OnS w (w6.drew.alloc (.cells zF 37)) g gm A xs [(w6.heap.size, zF, 37), (g1, S1, 31), (gl, LC, 37), (gk, KC, 22)]) := Lib.hid ((H6.out.below (Below.refl _ _).drew).made zF 37)
          have HB6 : Hid (Below w6.heap.size w6 (w6.drew.alloc (.cells zF 37))) := Lib.hid ((Below.refl _ _).drew.alloc (Nat.le_refl _) _)
          refine hK.out _ _ (fun w' => Below w6.heap.size w6 w') (fun _ h => h) HB6.out (fun hHeld => ?_)
          clear hK K
          try simp only [Act.put, List.setIfInBounds_toArray, List.set_cons_zero, List.set_cons_succ]
          refine held_one 6 rfl (by kernel_rfl) (fun K hK => ?_)
          go_simp
          refine (HFr.out _).mono ?_
          rintro e w7 ⟨rfl, hb7⟩
          have H7a : Hid (OnS w w7 g gm A xs [(w6.heap.size, zF, 37), (g1, S1, 31), (gl, LC, 37), (gk, KC, 22)]) := Lib.hid (HW6.out.below hb7)
          have HB7 : Hid (Below w6.heap.size w6 w7) := Lib.hid (HB6.out.trans (hb7.mono HB6.out.size))
          clear hb7
          refine hK.out _ _ (fun w' => Below w6.heap.size w6 w') (fun _ h => h) HB7.out (fun hHeld => ?_)
          clear hK K
          try simp only [Act.put, List.setIfInBounds_toArray, List.set_cons_zero, List.set_cons_succ]
          refine held_one 8 rfl (by kernel_rfl) (fun K hK => ?_)
          refine (if_pos (by kernel_rfl)).mpr ?_
          refine wp_store_row 37 (.tmp 13) (.tmp 50) rfl w6.heap.size FC rfl rfl 37 zF (H7a.out.at (by simp)) HIFC.out HOFC.out HEFC.out ?_
          refine hK.out _ _ (fun w' => Below w6.heap.size w6 w') (fun _ h => h) (below_setRow HB7.out (Nat.le_refl _) FC) (fun hHeld => ?_)
          clear hK K
          try simp only [Act.put, List.setIfInBounds_toArray, List.set_cons_zero, List.set_cons_succ]
          have H7 : Hid (OnS w (w7.setRow w6.heap.size FC) g gm A xs [(w6.heap.size, FC, 37), (g1, S1, 31), (gl, LC, 37), (gk, KC, 22)]) := Lib.hid (OnS.upd (l1 := []) (l2 := [(g1, S1, 31), (gl, LC, 37), (gk, KC, 22)]) H7a.out (setRow_heap _ _ zF FC 37 (0, 0) (H7a.out.at (k := w6.heap.size) (C := zF) (T := 37) List.mem_cons_self)) (gb_row _ _ _))
          refine held_done (by kernel_rfl) ?_
          exact ⟨w6.heap.size, rfl, H7⟩
      intro gf w8 H7
      clear H6 HQs1 HQl HFr
      have HQf : Hid (w8.heap[gf]? = some (.cells FC 37 (0, 0))) := Lib.hid (H7.out.at (by simp))
      have HQl : Hid (w8.heap[gl]? = some (.cells LC 37 (0, 0))) := Lib.hid (H7.out.at (by simp))
      have HOl : Hid (LC.size = FC.size) := Lib.hid (by rw [← HOLC.out, ← HOFC.out])
      go_wp2_with (first | (with_reducible refine wpList_load_row rfl 37 (.tmp 13) rfl gf rfl 37 FC (0, 0) _ HQf.out Try.underlying37 rfl HIFC.out ?_) | (with_reducible refine wpList_store_row rfl 37 (.tmp 10) (.tmp 51) rfl gl FC rfl rfl 37 LC HQl.out HIFC.out HOl.out HEFC.out ?_; refine Stop.mk ?_))
      refine Stop.go ?_
      have H8 : Hid (OnS w (w8.setRow gl FC) g gm A xs [(gf, FC, 37), (g1, S1, 31), (gl, FC, 37), (gk, KC, 22)]) := Lib.hid (OnS.upd (l1 := [(gf, FC, 37), (g1, S1, 31)]) (l2 := [(gk, KC, 22)]) H7.out (setRow_heap _ _ _ FC 37 (0, 0) HQl.out) (gb_row _ _ _))
      generalize w8.setRow gl FC = w9 at H8 ⊢
      clear HQf HQl HOl H7
      have HQf : Hid (w9.heap[gf]? = some (.cells FC 37 (0, 0))) := Lib.hid (H8.out.at (by simp))
      go_wp2_with (with_reducible refine wpList_load_row rfl 37 (.tmp 13) rfl gf rfl 37 FC (0, 0) _ HQf.out Try.underlying37 rfl HIFC.out ?_)
      refine (HAsk.out w9 H8.out.kn.area).mono ?_
      rintro e wa ⟨rfl, hA9, hg9⟩
      have Ha := Lib.hid (H8.out.call hA9 HAo.out hg9)
      clear hA9 hg9 HQf H8 HAsk
      go_wp2_with (first | (with_reducible refine wpList_store_row rfl 43 (.tmp 14) (.tmp 54) rfl wa.heap.size PS rfl rfl 43 zP (heap_new wa _) HIPS.out HOPS.out HEPS.out ?_; rw [World.setRow_alloc_new]; refine Stop.mk ?_))
      refine Stop.go ?_
      have Hb : Hid (OnS w (wa.alloc (.cells PS 43)) g gm (A.ask f) xs [(wa.heap.size, PS, 43), (gf, FC, 37), (g1, S1, 31), (gl, FC, 37), (gk, KC, 22)]) := Lib.hid (Ha.out.made PS _)
      generalize wa.alloc (.cells PS 43) = wb at Hb ⊢
      obtain ⟨gs, hgs⟩ : ∃ g, g = wa.heap.size := ⟨_, rfl⟩
      rw [← hgs] at Hb ⊢
      clear hgs Ha
      have c0 : wb.cell? ⟨gs, 0, none⟩ = some (.bool false) := by have := HasB.at (Hb.out.at (k := gs) (C := PS) (T := 43) (by simp)) 0; rw [this, HPS.out, ← HPk.out]; rfl
      have HQf : Hid (wb.heap[gf]? = some (.cells FC 37 (0, 0))) := Lib.hid (Hb.out.at (by simp))
      go_wp2_with (with_reducible refine wpList_load_row rfl 37 (.tmp 13) rfl gf rfl 37 FC (0, 0) _ HQf.out Try.underlying37 rfl HIFC.out ?_)
      refine (HEnc.out wb).mono ?_
      rintro e wc ⟨rfl, hb⟩
      have Hc := Lib.hid (Hb.out.below hb)
      clear hb c0 HQf Hb HEnc
      go_wp2_with (first | (with_reducible refine wpList_store_row rfl 45 (.tmp 15) (.tmp 58) rfl wc.heap.size EN rfl rfl 45 z128 (heap_new wc _) HIEN.out HOEN.out HEEN.out ?_; rw [World.setRow_alloc_new]; refine Stop.mk ?_))
      refine Stop.go ?_
      have Hd : Hid (OnS w (wc.alloc (.cells EN 45)) g gm (A.ask f) xs [(wc.heap.size, EN, 45), (gs, PS, 43), (gf, FC, 37), (g1, S1, 31), (gl, FC, 37), (gk, KC, 22)]) := Lib.hid (Hc.out.made EN _)
      generalize wc.alloc (.cells EN 45) = wd at Hd ⊢
      obtain ⟨ge, hge⟩ : ∃ g, g = wc.heap.size := ⟨_, rfl⟩
      rw [← hge] at Hd ⊢
      clear hge Hc
      cases hpw : (A.askStep f).write with
      | false =>
        have HPw := Lib.hid hpw
        clear hpw
        have c1 : wd.cell? ⟨gs, 1, none⟩ = some (.bool false) := by have := HasB.at (Hd.out.at (k := gs) (C := PS) (T := 43) (by simp)) 1; rw [this, HPS.out, ← HPw.out]; rfl
        have HHas2 : Hid ((A.ask f).s.has = true) := HHs
        have HKey2 : Hid ((A.ask f).s.key = key) := HKy2
        have HCt2 : Hid ((A.ask f).s.ctr = cw) := Lib.hid HCw.out.symm
        have hst2 := state_any (A.ask f) g wd Hd.out.kn.area Hd.out.kn.ok
        unfold RS.val at hst2
        obtain ⟨S2, hS2⟩ : ∃ N, N = ((A.ask f).s : RS).cells.toArray := ⟨_, rfl⟩
        have HIS2 : Hid ((Try.prog.info? 31).map (·.size) = some S2.size) := Lib.hid (by rw [hS2, List.size_toArray, RS.len Hd.out.kn.ok.s]; exact info_st)
        have HOS2 : Hid ((#[Value.int .u8 0, Value.int .u8 0, Value.int .u8 0, Value.int .u8 0, Value.int .u8 0, Value.int .u8 0, Value.int .u8 0, Value.int .u8 0, Value.int .u8 0, Value.int .u8 0, Value.int .u8 0, Value.int .u8 0, Value.int .u8 0, Value.int .u8 0, Value.int .u8 0, Value.int .u8 0, Value.int .u8 0, Value.int .u8 0, Value.int .u8 0, Value.int .u8 0, Value.int .u8 0, Value.int .u8 0, Value.int .u8 0, Value.int .u8 0, Value.int .u8 0, Value.int .u8 0, Value.int .u8 0, Value.int .u8 0, Value.int .u8 0, Value.int .u8 0, Value.int .u8 0, Value.int .u8 0, .bool false, .int .u32 0] : Array Value).size = S2.size) := Lib.hid (by rw [show S2.size = 34 by rw [hS2, List.size_toArray, RS.len Hd.out.kn.ok.s]]; rfl)
        have HES2 : Hid (S2.all (·.oneCell') = true) := Lib.hid (by rw [hS2]; exact RS.one _)
        have HS2 := Lib.hid hS2
        rw [← hS2] at hst2
        have HSt2 := Lib.hid hst2
        clear hst2 hS2
        go_wp2_with fail
        refine HSt2.out.mono ?_
        rintro e wy ⟨rfl, hb⟩
        have HY := Lib.hid (Hd.out.below hb)
        clear hb Hd HSt2
        go_wp2_with (first | (with_reducible refine wpList_store_row rfl 31 (.tmp 16) (.tmp 101) rfl wy.heap.size S2 rfl rfl 31 #[Value.int .u8 0, Value.int .u8 0, Value.int .u8 0, Value.int .u8 0, Value.int .u8 0, Value.int .u8 0, Value.int .u8 0, Value.int .u8 0, Value.int .u8 0, Value.int .u8 0, Value.int .u8 0, Value.int .u8 0, Value.int .u8 0, Value.int .u8 0, Value.int .u8 0, Value.int .u8 0, Value.int .u8 0, Value.int .u8 0, Value.int .u8 0, Value.int .u8 0, Value.int .u8 0, Value.int .u8 0, Value.int .u8 0, Value.int .u8 0, Value.int .u8 0, Value.int .u8 0, Value.int .u8 0, Value.int .u8 0, Value.int .u8 0, Value.int .u8 0, Value.int .u8 0, Value.int .u8 0, .bool false, .int .u32 0] (heap_new wy _) HIS2.out HOS2.out HES2.out ?_; rw [World.setRow_alloc_new]; refine Stop.mk ?_))
        refine Stop.go ?_
        have HX2 : Hid (OnS w (wy.alloc (.cells S2 31)) g gm (A.ask f) xs [(wy.heap.size, S2, 31), (ge, EN, 45), (gs, PS, 43), (gf, FC, 37), (g1, S1, 31), (gl, FC, 37), (gk, KC, 22)]) := Lib.hid (HY.out.made S2 _)
        generalize wy.alloc (.cells S2 31) = wx at HX2 ⊢
        obtain ⟨g2, hg2⟩ : ∃ g, g = wy.heap.size := ⟨_, rfl⟩
        rw [← hg2] at HX2 ⊢
        clear hg2 HY
        have K1 : Hid (∀ w', Below wx.heap.size wx w' → (w'.cell? ⟨g2, 32, none⟩ = some (.bool true) ∧ w'.cell? ⟨g2, 33, none⟩ = some (.int .u32 (cw : Int))) ∧ w'.cell? ⟨g1, 33, none⟩ = some (.int .u32 (cw : Int)) ∧ w'.cell? ⟨gs, 1, none⟩ = some (.bool false) ∧ w'.cell? ⟨b, off + k * 220 + 153, none⟩ = some (.bool zok)) := Lib.hid (fun w' hw => by
          have h2 : HasB w' g2 S2 31 := HasB.below (HX2.out.at (by simp)) hw (HasB.lt (HX2.out.at (k := g2) (C := S2) (T := 31) (by simp)))
          have h1 : HasB w' g1 S1 31 := HasB.below (HX2.out.at (by simp)) hw (HasB.lt (HX2.out.at (k := g1) (C := S1) (T := 31) (by simp)))
          have hs : HasB w' gs PS 43 := HasB.below (HX2.out.at (by simp)) hw (HasB.lt (HX2.out.at (k := gs) (C := PS) (T := 43) (by simp)))
          refine ⟨⟨?_, ?_⟩, ?_, ?_, HOkc.out w' (HX2.out.kn.be.trans (hw.mono HX2.out.kn.be.size))⟩
          · rw [h2.at, HS2.out, ← HHas2.out]; simp [RS.cells, u8s_len, HX2.out.kn.ok.s.kl]
          · rw [HS2.out] at h2; have := (RS.parts HX2.out.kn.ok.s h2).2; rw [HCt2.out] at this; exact this
          · rw [HS1.out] at h1; have := (RS.parts HSok.out h1).2; rw [← HCw.out] at this; exact this
          · rw [hs.at, HPS.out, ← HPw.out]; rfl)
        have K2 : Hid (∀ w', Below wx.heap.size wx w' → w'.rangeAt g2 0 KL) := Lib.hid (fun w' hw => by
          have h2 : HasB w' g2 S2 31 := HasB.below (HX2.out.at (by simp)) hw (HasB.lt (HX2.out.at (k := g2) (C := S2) (T := 31) (by simp)))
          rw [HS2.out] at h2; have := (RS.parts HX2.out.kn.ok.s h2).1; rw [HKey2.out, ← HKL.out] at this; exact this)
        have K3 : Hid (∀ w', Below wx.heap.size wx w' → w'.heap[gk]? = some (.cells KC 22 (0, 0))) := Lib.hid (fun w' hw => HasB.below (HX2.out.at (k := gk) (by simp)) hw (HasB.lt (HX2.out.at (k := gk) (C := KC) (T := 22) (by simp))))
        have hek := HEk.out
        go_wp2_with fail
        refine wp_region_held_drew (S := (fun w' => Below wx.heap.size wx w')) (by kernel_rfl) ((Below.refl _ _).drew) (fun hHeld => ?_)
        refine held_take 0 (v := ?_) rfl (by kernel_rfl) (by kernel_rfl) (by kernel_rfl) (fun _ _ _ h => h) (by rfl) (fun w hS => ?_) (by assumption) ?_
        rotate_left
        · try dsimp only at hS
          have l1 := K1.out w hS
          go_simp <;> with_reducible rfl
        try simp only [Act.put, List.setIfInBounds_toArray, List.set_cons_zero, List.set_cons_succ]
        refine held_take 1 (v := (.agg KC)) rfl (by kernel_rfl) (by kernel_rfl) (by kernel_rfl) (fun _ _ _ h => h) (by rfl) (fun w hS => ?_) (by assumption) ?_
        · (rw [HKCL.out]; exact yield_load_mid _ _ 22 (.tmp 102) (by rfl) g2 0 (by rfl) KL _ (K2.out w hS) Try.underlying22 (by rfl) HIkl.out)
        try simp only [Act.put, List.setIfInBounds_toArray, List.set_cons_zero, List.set_cons_succ]
        refine held_take 2 (v := (.agg KC)) rfl (by kernel_rfl) (by kernel_rfl) (by kernel_rfl) (fun _ _ _ h => h) (by rfl) (fun w hS => ?_) (by assumption) ?_
        · exact yield_row _ _ 22 (.tmp 3) (by rfl) gk (by rfl) 22 KC (0, 0) _ (K3.out w hS) Try.underlying22 (by rfl) HIk.out
        try simp only [Act.put, List.setIfInBounds_toArray, List.set_cons_zero, List.set_cons_succ]
        refine held_take 3 (v := ?_) rfl (by kernel_rfl) (by kernel_rfl) (by kernel_rfl) (fun _ _ _ h => h) (by rfl) (fun w hS => ?_) (by assumption) ?_
        rotate_left
        · try dsimp only at hS
          have l1 := K1.out w hS
          go_simp <;> with_reducible rfl
        try simp only [Act.put, List.setIfInBounds_toArray, List.set_cons_zero, List.set_cons_succ]
        refine held_take 4 (v := ?_) rfl (by kernel_rfl) (by kernel_rfl) (by kernel_rfl) (fun _ _ _ h => h) (by rfl) (fun w hS => ?_) (by assumption) ?_
        rotate_left
        · try dsimp only at hS
          have l1 := K1.out w hS
          go_simp <;> with_reducible rfl
        try simp only [Act.put, List.setIfInBounds_toArray, List.set_cons_zero, List.set_cons_succ]
        refine held_take 5 (v := ?_) rfl (by kernel_rfl) (by kernel_rfl) (by kernel_rfl) (fun _ _ _ h => h) (by rfl) (fun w hS => ?_) (by assumption) ?_
        rotate_left
        · try dsimp only at hS
          have l1 := K1.out w hS
          go_simp <;> with_reducible rfl
        try simp only [Act.put, List.setIfInBounds_toArray, List.set_cons_zero, List.set_cons_succ]
        refine held_take 6 (v := ?_) rfl (by kernel_rfl) (by kernel_rfl) (by kernel_rfl) (fun _ _ _ h => h) (by rfl) (fun w hS => ?_) (by assumption) ?_
        rotate_left
        · try dsimp only at hS
          have l1 := K1.out w hS
          go_simp <;> with_reducible rfl
        try simp only [Act.put, List.setIfInBounds_toArray, List.set_cons_zero, List.set_cons_succ]
        refine held_take 7 (v := ?_) rfl (by kernel_rfl) (by kernel_rfl) (by kernel_rfl) (fun _ _ _ h => h) (by rfl) (fun w hS => ?_) (by assumption) ?_
        rotate_left
        · try dsimp only at hS
          have l1 := K1.out w hS
          go_simp <;> with_reducible rfl
        try simp only [Act.put, List.setIfInBounds_toArray, List.set_cons_zero, List.set_cons_succ]
        refine held_take 8 (v := ?_) rfl (by kernel_rfl) (by kernel_rfl) (by kernel_rfl) (fun _ _ _ h => h) (by rfl) (fun w hS => ?_) (by assumption) ?_
        rotate_left
        · try dsimp only at hS
          have l1 := K1.out w hS
          go_simp <;> with_reducible rfl
        try simp only [Act.put, List.setIfInBounds_toArray, List.set_cons_zero, List.set_cons_succ]
        refine held_take 9 (v := ?_) rfl (by kernel_rfl) (by kernel_rfl) (by kernel_rfl) (fun _ _ _ h => h) (by rfl) (fun w hS => ?_) (by assumption) ?_
        rotate_left
        · try dsimp only at hS
          have l1 := K1.out w hS
          go_simp <;> with_reducible rfl
        try simp only [Act.put, List.setIfInBounds_toArray, List.set_cons_zero, List.set_cons_succ]
        refine held_take 10 (v := ?_) rfl (by kernel_rfl) (by kernel_rfl) (by kernel_rfl) (fun _ _ _ h => h) (by rfl) (fun w hS => ?_) (by assumption) ?_
        rotate_left
        · try dsimp only at hS
          have l1 := K1.out w hS
          go_simp <;> with_reducible rfl
        try simp only [Act.put, List.setIfInBounds_toArray, List.set_cons_zero, List.set_cons_succ]
        refine held_take 11 (v := ?_) rfl (by kernel_rfl) (by kernel_rfl) (by kernel_rfl) (fun _ _ _ h => h) (by rfl) (fun w hS => ?_) (by assumption) ?_
        rotate_left
        · try dsimp only at hS
          have l1 := K1.out w hS
          go_simp <;> with_reducible rfl
        try simp only [Act.put, List.setIfInBounds_toArray, List.set_cons_zero, List.set_cons_succ]
        refine held_take 12 (v := ?_) rfl (by kernel_rfl) (by kernel_rfl) (by kernel_rfl) (fun _ _ _ h => h) (by rfl) (fun w hS => ?_) (by assumption) ?_
        rotate_left
        · try dsimp only at hS
          have l1 := K1.out w hS
          go_simp <;> with_reducible rfl
        try simp only [Act.put, List.setIfInBounds_toArray, List.set_cons_zero, List.set_cons_succ]
        refine held_take 13 (v := ?_) rfl (by kernel_rfl) (by kernel_rfl) (by kernel_rfl) (fun _ _ _ h => h) (by rfl) (fun w hS => ?_) (by assumption) ?_
        rotate_left
        · try dsimp only at hS
          have l1 := K1.out w hS
          go_simp <;> with_reducible rfl
        try simp only [Act.put, List.setIfInBounds_toArray, List.set_cons_zero, List.set_cons_succ]
        refine held_take 14 (v := ?_) rfl (by kernel_rfl) (by kernel_rfl) (by kernel_rfl) (fun _ _ _ h => h) (by rfl) (fun w hS => ?_) (by assumption) ?_
        rotate_left
        · try dsimp only at hS
          have l1 := K1.out w hS
          go_simp <;> with_reducible rfl
        try simp only [Act.put, List.setIfInBounds_toArray, List.set_cons_zero, List.set_cons_succ]
        refine held_take 15 (v := ?_) rfl (by kernel_rfl) (by kernel_rfl) (by kernel_rfl) (fun _ _ _ h => h) (by rfl) (fun w hS => ?_) (by assumption) ?_
        rotate_left
        · try dsimp only at hS
          have l1 := K1.out w hS
          go_simp <;> with_reducible rfl
        try simp only [Act.put, List.setIfInBounds_toArray, List.set_cons_zero, List.set_cons_succ]
        refine held_take 16 (v := ?_) rfl (by kernel_rfl) (by kernel_rfl) (by kernel_rfl) (fun _ _ _ h => h) (by rfl) (fun w hS => ?_) (by assumption) ?_
        rotate_left
        · try dsimp only at hS
          have l1 := K1.out w hS
          go_simp <;> with_reducible rfl
        try simp only [Act.put, List.setIfInBounds_toArray, List.set_cons_zero, List.set_cons_succ]
        refine held_take 17 (v := ?_) rfl (by kernel_rfl) (by kernel_rfl) (by kernel_rfl) (fun _ _ _ h => h) (by rfl) (fun w hS => ?_) (by assumption) ?_
        rotate_left
        · try dsimp only at hS
          have l1 := K1.out w hS
          go_simp <;> with_reducible rfl
        try simp only [Act.put, List.setIfInBounds_toArray, List.set_cons_zero, List.set_cons_succ]
        refine held_take 18 (v := ?_) rfl (by kernel_rfl) (by kernel_rfl) (by kernel_rfl) (fun _ _ _ h => h) (by rfl) (fun w hS => ?_) (by assumption) ?_
        rotate_left
        · try dsimp only at hS
          have l1 := K1.out w hS
          go_simp <;> with_reducible rfl
        try simp only [Act.put, List.setIfInBounds_toArray, List.set_cons_zero, List.set_cons_succ]
        refine held_take 19 (v := ?_) rfl (by kernel_rfl) (by kernel_rfl) (by kernel_rfl) (fun _ _ _ h => h) (by rfl) (fun w hS => ?_) (by assumption) ?_
        rotate_left
        · try dsimp only at hS
          have l1 := K1.out w hS
          go_simp <;> with_reducible rfl
        try simp only [Act.put, List.setIfInBounds_toArray, List.set_cons_zero, List.set_cons_succ]
        refine held_take 20 (v := ?_) rfl (by kernel_rfl) (by kernel_rfl) (by kernel_rfl) (fun _ _ _ h => h) (by rfl) (fun w hS => ?_) (by assumption) ?_
        rotate_left
        · try dsimp only at hS
          have l1 := K1.out w hS
          go_simp <;> with_reducible rfl
        try simp only [Act.put, List.setIfInBounds_toArray, List.set_cons_zero, List.set_cons_succ]
        refine held_take 21 (v := ?_) rfl (by kernel_rfl) (by kernel_rfl) (by kernel_rfl) (fun _ _ _ h => h) (by rfl) (fun w hS => ?_) (by assumption) ?_
        rotate_left
        · try dsimp only at hS
          have l1 := K1.out w hS
          go_simp <;> with_reducible rfl
        try simp only [Act.put, List.setIfInBounds_toArray, List.set_cons_zero, List.set_cons_succ]
        refine held_take 22 (v := ?_) rfl (by kernel_rfl) (by kernel_rfl) (by kernel_rfl) (fun _ _ _ h => h) (by rfl) (fun w hS => ?_) (by assumption) ?_
        rotate_left
        · try dsimp only at hS
          have l1 := K1.out w hS
          go_simp <;> with_reducible rfl
        try simp only [Act.put, List.setIfInBounds_toArray, List.set_cons_zero, List.set_cons_succ]
        refine held_take 23 (v := ?_) rfl (by kernel_rfl) (by kernel_rfl) (by kernel_rfl) (fun _ _ _ h => h) (by rfl) (fun w hS => ?_) (by assumption) ?_
        rotate_left
        · try dsimp only at hS
          have l1 := K1.out w hS
          go_simp <;> with_reducible rfl
        try simp only [Act.put, List.setIfInBounds_toArray, List.set_cons_zero, List.set_cons_succ]
        refine held_take 24 (v := ?_) rfl (by kernel_rfl) (by kernel_rfl) (by kernel_rfl) (fun _ _ _ h => h) (by rfl) (fun w hS => ?_) (by assumption) ?_
        rotate_left
        · try dsimp only at hS
          have l1 := K1.out w hS
          go_simp <;> with_reducible rfl
        try simp only [Act.put, List.setIfInBounds_toArray, List.set_cons_zero, List.set_cons_succ]
        refine held_skip 25 rfl (by kernel_rfl) (by kernel_rfl) (by kernel_rfl) (fun _ _ _ h => h) (by rfl) (by assumption) ?_
        try simp only [Act.put, List.setIfInBounds_toArray, List.set_cons_zero, List.set_cons_succ]
        refine held_skip 26 rfl (by kernel_rfl) (by kernel_rfl) (by kernel_rfl) (fun _ _ _ h => h) (by rfl) (by assumption) ?_
        try simp only [Act.put, List.setIfInBounds_toArray, List.set_cons_zero, List.set_cons_succ]
        refine held_skip 27 rfl (by kernel_rfl) (by kernel_rfl) (by kernel_rfl) (fun _ _ _ h => h) (by rfl) (by assumption) ?_
        try simp only [Act.put, List.setIfInBounds_toArray, List.set_cons_zero, List.set_cons_succ]
        refine held_skip 28 rfl (by kernel_rfl) (by kernel_rfl) (by kernel_rfl) (fun _ _ _ h => h) (by rfl) (by assumption) ?_
        try simp only [Act.put, List.setIfInBounds_toArray, List.set_cons_zero, List.set_cons_succ]
        refine held_skip 29 rfl (by kernel_rfl) (by kernel_rfl) (by kernel_rfl) (fun _ _ _ h => h) (by rfl) (by assumption) ?_
        try simp only [Act.put, List.setIfInBounds_toArray, List.set_cons_zero, List.set_cons_succ]
        refine held_take 30 (v := ?_) rfl (by kernel_rfl) (by kernel_rfl) (by kernel_rfl) (fun _ _ _ h => h) (by rfl) (fun w hS => ?_) (by assumption) ?_
        rotate_left
        · try dsimp only at hS
          have l1 := K1.out w hS
          go_simp <;> with_reducible rfl
        try simp only [Act.put, List.setIfInBounds_toArray, List.set_cons_zero, List.set_cons_succ]
        refine held_take 31 (v := ?_) rfl (by kernel_rfl) (by kernel_rfl) (by kernel_rfl) (fun _ _ _ h => h) (by rfl) (fun w hS => ?_) (by assumption) ?_
        rotate_left
        · try dsimp only at hS
          have l1 := K1.out w hS
          go_simp <;> with_reducible rfl
        try simp only [Act.put, List.setIfInBounds_toArray, List.set_cons_zero, List.set_cons_succ]
        refine held_take 32 (v := ?_) rfl (by kernel_rfl) (by kernel_rfl) (by kernel_rfl) (fun _ _ _ h => h) (by rfl) (fun w hS => ?_) (by assumption) ?_
        rotate_left
        · try dsimp only at hS
          have l1 := K1.out w hS
          go_simp <;> with_reducible rfl
        try simp only [Act.put, List.setIfInBounds_toArray, List.set_cons_zero, List.set_cons_succ]
        refine held_take 33 (v := ?_) rfl (by kernel_rfl) (by kernel_rfl) (by kernel_rfl) (fun _ _ _ h => h) (by rfl) (fun w hS => ?_) (by assumption) ?_
        rotate_left
        · try dsimp only at hS
          have l1 := K1.out w hS
          go_simp <;> with_reducible rfl
        try simp only [Act.put, List.setIfInBounds_toArray, List.set_cons_zero, List.set_cons_succ]
        refine held_take 34 (v := ?_) rfl (by kernel_rfl) (by kernel_rfl) (by kernel_rfl) (fun _ _ _ h => h) (by rfl) (fun w hS => ?_) (by assumption) ?_
        rotate_left
        · try dsimp only at hS
          have l1 := K1.out w hS
          go_simp <;> with_reducible rfl
        try simp only [Act.put, List.setIfInBounds_toArray, List.set_cons_zero, List.set_cons_succ]
        refine held_take 35 (v := ?_) rfl (by kernel_rfl) (by kernel_rfl) (by kernel_rfl) (fun _ _ _ h => h) (by rfl) (fun w hS => ?_) (by assumption) ?_
        rotate_left
        · try dsimp only at hS
          have l1 := K1.out w hS
          go_simp <;> with_reducible rfl
        try simp only [Act.put, List.setIfInBounds_toArray, List.set_cons_zero, List.set_cons_succ]
        refine held_take 36 (v := ?_) rfl (by kernel_rfl) (by kernel_rfl) (by kernel_rfl) (fun _ _ _ h => h) (by rfl) (fun w hS => ?_) (by assumption) ?_
        rotate_left
        · try dsimp only at hS
          have l1 := K1.out w hS
          go_simp <;> with_reducible rfl
        try simp only [Act.put, List.setIfInBounds_toArray, List.set_cons_zero, List.set_cons_succ]
        refine held_take 37 (v := ?_) rfl (by kernel_rfl) (by kernel_rfl) (by kernel_rfl) (fun _ _ _ h => h) (by rfl) (fun w hS => ?_) (by assumption) ?_
        rotate_left
        · try dsimp only at hS
          have l1 := K1.out w hS
          go_simp <;> with_reducible rfl
        try simp only [Act.put, List.setIfInBounds_toArray, List.set_cons_zero, List.set_cons_succ]
        refine held_take 38 (v := ?_) rfl (by kernel_rfl) (by kernel_rfl) (by kernel_rfl) (fun _ _ _ h => h) (by rfl) (fun w hS => ?_) (by assumption) ?_
        rotate_left
        · try dsimp only at hS
          have l1 := K1.out w hS
          go_simp <;> with_reducible rfl
        try simp only [Act.put, List.setIfInBounds_toArray, List.set_cons_zero, List.set_cons_succ]
        refine held_take 39 (v := ?_) rfl (by kernel_rfl) (by kernel_rfl) (by kernel_rfl) (fun _ _ _ h => h) (by rfl) (fun w hS => ?_) (by assumption) ?_
        rotate_left
        · try dsimp only at hS
          have l1 := K1.out w hS
          go_simp <;> with_reducible rfl
        try simp only [Act.put, List.setIfInBounds_toArray, List.set_cons_zero, List.set_cons_succ]
        refine held_skip 40 rfl (by kernel_rfl) (by kernel_rfl) (by kernel_rfl) (fun _ _ _ h => h) (by rfl) (by assumption) ?_
        try simp only [Act.put, List.setIfInBounds_toArray, List.set_cons_zero, List.set_cons_succ]
        refine held_skip 41 rfl (by kernel_rfl) (by kernel_rfl) (by kernel_rfl) (fun _ _ _ h => h) (by rfl) (by assumption) ?_
        try simp only [Act.put, List.setIfInBounds_toArray, List.set_cons_zero, List.set_cons_succ]
        refine held_skip 42 rfl (by kernel_rfl) (by kernel_rfl) (by kernel_rfl) (fun _ _ _ h => h) (by rfl) (by assumption) ?_
        try simp only [Act.put, List.setIfInBounds_toArray, List.set_cons_zero, List.set_cons_succ]
        refine held_skip 43 rfl (by kernel_rfl) (by kernel_rfl) (by kernel_rfl) (fun _ _ _ h => h) (by rfl) (by assumption) ?_
        try simp only [Act.put, List.setIfInBounds_toArray, List.set_cons_zero, List.set_cons_succ]
        refine held_skip 44 rfl (by kernel_rfl) (by kernel_rfl) (by kernel_rfl) (fun _ _ _ h => h) (by rfl) (by assumption) ?_
        try simp only [Act.put, List.setIfInBounds_toArray, List.set_cons_zero, List.set_cons_succ]
        refine held_skip 45 rfl (by kernel_rfl) (by kernel_rfl) (by kernel_rfl) (fun _ _ _ h => h) (by rfl) (by assumption) ?_
        try simp only [Act.put, List.setIfInBounds_toArray, List.set_cons_zero, List.set_cons_succ]
        refine held_take 46 (v := ?_) rfl (by kernel_rfl) (by kernel_rfl) (by kernel_rfl) (fun _ _ _ h => h) (by rfl) (fun w hS => ?_) (by assumption) ?_
        rotate_left
        · try dsimp only at hS
          have l1 := K1.out w hS
          go_simp <;> with_reducible rfl
        try simp only [Act.put, List.setIfInBounds_toArray, List.set_cons_zero, List.set_cons_succ]
        refine held_take 47 (v := ?_) rfl (by kernel_rfl) (by kernel_rfl) (by kernel_rfl) (fun _ _ _ h => h) (by rfl) (fun w hS => ?_) (by assumption) ?_
        rotate_left
        · try dsimp only at hS
          have l1 := K1.out w hS
          go_simp <;> with_reducible rfl
        try simp only [Act.put, List.setIfInBounds_toArray, List.set_cons_zero, List.set_cons_succ]
        refine held_done (by kernel_rfl) ?_
        have HN : Hid (OnS w wx.drew g gm (A.ask f) xs [(gl, f.cells.toArray, 37), (gk, KC, 22)]) := Lib.hid (by rw [← HFC.out]; exact (HX2.out.below (Below.refl _ _).drew).sub (subl _ _ _ _ _ _ _))
        clear K1 K2 K3 HX2 c1 hek
        go_wp2_with fail
        go_roundw
        case rel => exact ⟨k + 1, by omega, by go_num, Lib.hid ⟨A.ask f, f, xs, HN.out, HFo.out, HKy2.out, HHs.out, HTk.out⟩⟩
        case measure => simp [intOf]; omega
      | true =>
        have HPw := Lib.hid hpw
        have hw3 := once_write hpw
        clear hpw
        have c1 : wd.cell? ⟨gs, 1, none⟩ = some (.bool true) := by have := HasB.at (Hd.out.at (k := gs) (C := PS) (T := 43) (by simp)) 1; rw [this, HPS.out, ← HPw.out]; rfl
        have hsg := rsign_any f key
        have hso := RF.sign_ok HFo.out key
        unfold RF.val at hsg
        obtain ⟨CS, hCS⟩ : ∃ N, N = (f.sign key : RF).cells.toArray := ⟨_, rfl⟩
        have HICS : Hid ((Try.prog.info? 37).map (·.size) = some CS.size) := Lib.hid (by rw [hCS]; exact info_f hso)
        have HOCS : Hid (zF.size = CS.size) := Lib.hid (by rw [hCS]; exact old_f hso)
        have HECS : Hid (CS.all (·.oneCell') = true) := Lib.hid (by rw [hCS]; exact RF.one _)
        have HCS := Lib.hid hCS
        rw [← HFC.out, ← hCS, ← HKC.out] at hsg
        have HSg := Lib.hid (fun w => hsg w HFo.out HKq.out.1 HKq.out.2)
        obtain ⟨TL, hTL⟩ : ∃ TL, TL = u8s f.tag := ⟨_, rfl⟩
        have HTL := Lib.hid hTL
        have hfd : ∀ w, (Instr.field 37 (.agg CS) 0).run Try.prog w = .ok (.agg TL.toArray) w := fun w => by rw [hCS, hTL]; have := field_tag (f.sign key) hso w; rw [show (f.sign key).tag = f.tag by rw [hw3.1, HKy2.out]; rfl] at this; exact this
        have het := fun w => equalIn_u8s 9998 33 32 Try.underlying33 HFo.out.tb HFo.out.tb HFo.out.tl HFo.out.tl w
        simp only [decide_true] at het
        rw [← hTL] at het
        have HIt : Hid ((Try.prog.info? 33).map (·.size) = some TL.length) := Lib.hid (by rw [hTL, u8s_len, HFo.out.tl]; exact info_s32)
        have hcm : ((cw : Int) == 4294967295) = false := by have := hw3.2.1; have h2 := HCw.out; simp; omega
        have HLk : Hid (∀ w', Below wd.heap.size wd w' → (Instr.lookup 32 (.map (some gm)) (.agg EN) false).run Try.prog w' = .ok (.bool false) w') := Lib.hid (fun w' hw => by
          have := MapHas.lacks0 (Hd.out.mp.below hw) keyLaw128 Try.underlying32 HTk.out.keys (z := .bool false) (by kernel_rfl) (key := (encM f.enc).1) (key128 _ (RF.enc_len HFo.out) (RF.enc_lt HFo.out)) (HTk.out.new HFo.out hw3.2.2)
          rw [show (encM f.enc).1 = .agg EN by rw [HEN.out]; rfl] at this
          exact this)
        have K1 : Hid (∀ w', Below wd.heap.size wd w' → (w'.rangeAt gf 0 TL ∧ w'.cell? ⟨gf, 112, none⟩ = some (.int .u32 (cw : Int))) ∧ w'.cell? ⟨g1, 33, none⟩ = some (.int .u32 (cw : Int))) := Lib.hid (fun w' hw => by
          have hf : HasB w' gf FC 37 := HasB.below (Hd.out.at (by simp)) hw (HasB.lt (Hd.out.at (k := gf) (C := FC) (T := 37) (by simp)))
          have h1 : HasB w' g1 S1 31 := HasB.below (Hd.out.at (by simp)) hw (HasB.lt (Hd.out.at (k := g1) (C := S1) (T := 31) (by simp)))
          rw [HFC.out] at hf
          rw [HS1.out] at h1
          refine ⟨⟨?_, ?_⟩, ?_⟩
          · rw [HTL.out]; exact RF.tag_at hf
          · have := RF.tail_at HFo.out hf 0 _ rfl; rw [hw3.2.2, ← HCw.out] at this; exact this
          · have := (RS.parts HSok.out h1).2; rw [← HCw.out] at this; exact this)
        have K2 : Hid (∀ w', Below wd.heap.size wd w' → w'.heap[ge]? = some (.cells EN 45 (0, 0))) := Lib.hid (fun w' hw => HasB.below (Hd.out.at (k := ge) (by simp)) hw (HasB.lt (Hd.out.at (k := ge) (C := EN) (T := 45) (by simp))))
        have K3 : Hid (∀ w', Below wd.heap.size wd w' → w'.heap[gf]? = some (.cells FC 37 (0, 0))) := Lib.hid (fun w' hw => HasB.below (Hd.out.at (k := gf) (by simp)) hw (HasB.lt (Hd.out.at (k := gf) (C := FC) (T := 37) (by simp))))
        have K4 : Hid (∀ w', Below wd.heap.size wd w' → w'.heap[gk]? = some (.cells KC 22 (0, 0))) := Lib.hid (fun w' hw => HasB.below (Hd.out.at (k := gk) (by simp)) hw (HasB.lt (Hd.out.at (k := gk) (C := KC) (T := 22) (by simp))))
        have HW3 := Lib.hid hw3
        clear hsg hso hCS hTL hw3
        go_wp2_with fail
        refine wp_region_held_drew (S := (fun w' => Below wd.heap.size wd w')) (by kernel_rfl) ((Below.refl _ _).drew) (fun hHeld => ?_)
        refine held_take 0 (v := ?_) rfl (by kernel_rfl) (by kernel_rfl) (by kernel_rfl) (fun _ _ _ h => h) (by rfl) (fun w hS => ?_) (by assumption) ?_
        rotate_left
        · try dsimp only at hS
          have l1 := K1.out w hS
          have l2 := HLk.out w hS
          go_simp <;> with_reducible rfl
        try simp only [Act.put, List.setIfInBounds_toArray, List.set_cons_zero, List.set_cons_succ]
        refine held_take 1 (v := (.agg EN)) rfl (by kernel_rfl) (by kernel_rfl) (by kernel_rfl) (fun _ _ _ h => h) (by rfl) (fun w hS => ?_) (by assumption) ?_
        · exact yield_row _ _ 45 (.tmp 15) (by rfl) ge (by rfl) 45 EN (0, 0) _ (K2.out w hS) Try.underlying45 (by rfl) HIEN.out
        try simp only [Act.put, List.setIfInBounds_toArray, List.set_cons_zero, List.set_cons_succ]
        refine held_take 2 (v := ?_) rfl (by kernel_rfl) (by kernel_rfl) (by kernel_rfl) (fun _ _ _ h => h) (by rfl) (fun w hS => ?_) (by assumption) ?_
        rotate_left
        · try dsimp only at hS
          have l1 := K1.out w hS
          have l2 := HLk.out w hS
          go_simp <;> with_reducible rfl
        try simp only [Act.put, List.setIfInBounds_toArray, List.set_cons_zero, List.set_cons_succ]
        refine held_take 3 (v := ?_) rfl (by kernel_rfl) (by kernel_rfl) (by kernel_rfl) (fun _ _ _ h => h) (by rfl) (fun w hS => ?_) (by assumption) ?_
        rotate_left
        · try dsimp only at hS
          have l1 := K1.out w hS
          have l2 := HLk.out w hS
          go_simp <;> with_reducible rfl
        try simp only [Act.put, List.setIfInBounds_toArray, List.set_cons_zero, List.set_cons_succ]
        refine held_take 4 (v := (.agg FC)) rfl (by kernel_rfl) (by kernel_rfl) (by kernel_rfl) (fun _ _ _ h => h) (by rfl) (fun w hS => ?_) (by assumption) ?_
        · exact yield_row _ _ 37 (.tmp 13) (by rfl) gf (by rfl) 37 FC (0, 0) _ (K3.out w hS) Try.underlying37 (by rfl) HIFC.out
        try simp only [Act.put, List.setIfInBounds_toArray, List.set_cons_zero, List.set_cons_succ]
        refine held_take 5 (v := (.agg KC)) rfl (by kernel_rfl) (by kernel_rfl) (by kernel_rfl) (fun _ _ _ h => h) (by rfl) (fun w hS => ?_) (by assumption) ?_
        · exact yield_row _ _ 22 (.tmp 3) (by rfl) gk (by rfl) 22 KC (0, 0) _ (K4.out w hS) Try.underlying22 (by rfl) HIk.out
        try simp only [Act.put, List.setIfInBounds_toArray, List.set_cons_zero, List.set_cons_succ]
        refine held_take 8 (v := ?_) rfl (by kernel_rfl) (by kernel_rfl) (by kernel_rfl) (fun _ _ _ h => h) (by rfl) (fun w hS => ?_) (by assumption) ?_
        rotate_left
        · try dsimp only at hS
          have l1 := K1.out w hS
          have l2 := HLk.out w hS
          go_simp <;> with_reducible rfl
        try simp only [Act.put, List.setIfInBounds_toArray, List.set_cons_zero, List.set_cons_succ]
        refine held_take 9 (v := (.agg TL.toArray)) rfl (by kernel_rfl) (by kernel_rfl) (by kernel_rfl) (fun _ _ _ h => h) (by rfl) (fun w hS => ?_) (by assumption) ?_
        · exact yield_load_mid _ _ 33 (.tmp 69) (by rfl) gf 0 (by rfl) TL _ (K1.out w hS).1.1 Try.underlying33 (by rfl) HIt.out
        try simp only [Act.put, List.setIfInBounds_toArray, List.set_cons_zero, List.set_cons_succ]
        refine held_one 6 rfl (by kernel_rfl) (fun K hK => ?_)
        go_simp
        refine (HSg.out _).mono ?_
        rintro e we ⟨rfl, hbe⟩
        have HBe : Hid (Below wd.heap.size wd we) := Lib.hid ((Below.refl _ _).drew.trans hbe)
        clear hbe
        refine hK.out _ _ (fun w' => Below wd.heap.size wd w') (fun _ h => h) HBe.out (fun hHeld => ?_)
        clear hK K
        try simp only [Act.put, List.setIfInBounds_toArray, List.set_cons_zero, List.set_cons_succ]
        refine held_take 7 (v := ?_) rfl (by kernel_rfl) (by kernel_rfl) (by kernel_rfl) (fun _ _ _ h => h) (by rfl) (fun w hS => ?_) (by assumption) ?_
        rotate_left
        · try dsimp only at hS
          have l1 := K1.out w hS
          have l2 := HLk.out w hS
          go_simp <;> with_reducible rfl
        try simp only [Act.put, List.setIfInBounds_toArray, List.set_cons_zero, List.set_cons_succ]
        refine held_take 10 (v := ?_) rfl (by kernel_rfl) (by kernel_rfl) (by kernel_rfl) (fun _ _ _ h => h) (by rfl) (fun w hS => ?_) (by assumption) ?_
        rotate_left
        · try dsimp only at hS
          have l1 := K1.out w hS
          have l2 := HLk.out w hS
          go_simp <;> with_reducible rfl
        try simp only [Act.put, List.setIfInBounds_toArray, List.set_cons_zero, List.set_cons_succ]
        refine held_take 11 (v := ?_) rfl (by kernel_rfl) (by kernel_rfl) (by kernel_rfl) (fun _ _ _ h => h) (by rfl) (fun w hS => ?_) (by assumption) ?_
        rotate_left
        · try dsimp only at hS
          have l1 := K1.out w hS
          have l2 := HLk.out w hS
          go_simp <;> with_reducible rfl
        try simp only [Act.put, List.setIfInBounds_toArray, List.set_cons_zero, List.set_cons_succ]
        refine held_take 12 (v := ?_) rfl (by kernel_rfl) (by kernel_rfl) (by kernel_rfl) (fun _ _ _ h => h) (by rfl) (fun w hS => ?_) (by assumption) ?_
        rotate_left
        · try dsimp only at hS
          have l1 := K1.out w hS
          have l2 := HLk.out w hS
          go_simp <;> with_reducible rfl
        try simp only [Act.put, List.setIfInBounds_toArray, List.set_cons_zero, List.set_cons_succ]
        refine held_take 13 (v := ?_) rfl (by kernel_rfl) (by kernel_rfl) (by kernel_rfl) (fun _ _ _ h => h) (by rfl) (fun w hS => ?_) (by assumption) ?_
        rotate_left
        · try dsimp only at hS
          have l1 := K1.out w hS
          have l2 := HLk.out w hS
          go_simp <;> with_reducible rfl
        try simp only [Act.put, List.setIfInBounds_toArray, List.set_cons_zero, List.set_cons_succ]
        refine held_take 14 (v := ?_) rfl (by kernel_rfl) (by kernel_rfl) (by kernel_rfl) (fun _ _ _ h => h) (by rfl) (fun w hS => ?_) (by assumption) ?_
        rotate_left
        · try dsimp only at hS
          have l1 := K1.out w hS
          have l2 := HLk.out w hS
          go_simp <;> with_reducible rfl
        try simp only [Act.put, List.setIfInBounds_toArray, List.set_cons_zero, List.set_cons_succ]
        refine held_take 15 (v := ?_) rfl (by kernel_rfl) (by kernel_rfl) (by kernel_rfl) (fun _ _ _ h => h) (by rfl) (fun w hS => ?_) (by assumption) ?_
        rotate_left
        · try dsimp only at hS
          have l1 := K1.out w hS
          have l2 := HLk.out w hS
          go_simp <;> with_reducible rfl
        try simp only [Act.put, List.setIfInBounds_toArray, List.set_cons_zero, List.set_cons_succ]
        refine held_take 16 (v := ?_) rfl (by kernel_rfl) (by kernel_rfl) (by kernel_rfl) (fun _ _ _ h => h) (by rfl) (fun w hS => ?_) (by assumption) ?_
        rotate_left
        · try dsimp only at hS
          have l1 := K1.out w hS
          have l2 := HLk.out w hS
          go_simp <;> with_reducible rfl
        try simp only [Act.put, List.setIfInBounds_toArray, List.set_cons_zero, List.set_cons_succ]
        refine held_take 17 (v := ?_) rfl (by kernel_rfl) (by kernel_rfl) (by kernel_rfl) (fun _ _ _ h => h) (by rfl) (fun w hS => ?_) (by assumption) ?_
        rotate_left
        · try dsimp only at hS
          have l1 := K1.out w hS
          have l2 := HLk.out w hS
          go_simp <;> with_reducible rfl
        try simp only [Act.put, List.setIfInBounds_toArray, List.set_cons_zero, List.set_cons_succ]
        refine held_take 18 (v := ?_) rfl (by kernel_rfl) (by kernel_rfl) (by kernel_rfl) (fun _ _ _ h => h) (by rfl) (fun w hS => ?_) (by assumption) ?_
        rotate_left
        · try dsimp only at hS
          have l1 := K1.out w hS
          have l2 := HLk.out w hS
          go_simp <;> with_reducible rfl
        try simp only [Act.put, List.setIfInBounds_toArray, List.set_cons_zero, List.set_cons_succ]
        refine held_take 19 (v := ?_) rfl (by kernel_rfl) (by kernel_rfl) (by kernel_rfl) (fun _ _ _ h => h) (by rfl) (fun w hS => ?_) (by assumption) ?_
        rotate_left
        · try dsimp only at hS
          have l1 := K1.out w hS
          have l2 := HLk.out w hS
          go_simp <;> with_reducible rfl
        try simp only [Act.put, List.setIfInBounds_toArray, List.set_cons_zero, List.set_cons_succ]
        refine held_take 20 (v := ?_) rfl (by kernel_rfl) (by kernel_rfl) (by kernel_rfl) (fun _ _ _ h => h) (by rfl) (fun w hS => ?_) (by assumption) ?_
        rotate_left
        · try dsimp only at hS
          have l1 := K1.out w hS
          have l2 := HLk.out w hS
          go_simp <;> with_reducible rfl
        try simp only [Act.put, List.setIfInBounds_toArray, List.set_cons_zero, List.set_cons_succ]
        refine held_take 21 (v := ?_) rfl (by kernel_rfl) (by kernel_rfl) (by kernel_rfl) (fun _ _ _ h => h) (by rfl) (fun w hS => ?_) (by assumption) ?_
        rotate_left
        · try dsimp only at hS
          have l1 := K1.out w hS
          have l2 := HLk.out w hS
          go_simp <;> with_reducible rfl
        try simp only [Act.put, List.setIfInBounds_toArray, List.set_cons_zero, List.set_cons_succ]
        refine held_take 22 (v := ?_) rfl (by kernel_rfl) (by kernel_rfl) (by kernel_rfl) (fun _ _ _ h => h) (by rfl) (fun w hS => ?_) (by assumption) ?_
        rotate_left
        · try dsimp only at hS
          have l1 := K1.out w hS
          have l2 := HLk.out w hS
          go_simp <;> with_reducible rfl
        try simp only [Act.put, List.setIfInBounds_toArray, List.set_cons_zero, List.set_cons_succ]
        refine held_take 23 (v := ?_) rfl (by kernel_rfl) (by kernel_rfl) (by kernel_rfl) (fun _ _ _ h => h) (by rfl) (fun w hS => ?_) (by assumption) ?_
        rotate_left
        · try dsimp only at hS
          have l1 := K1.out w hS
          have l2 := HLk.out w hS
          go_simp <;> with_reducible rfl
        try simp only [Act.put, List.setIfInBounds_toArray, List.set_cons_zero, List.set_cons_succ]
        refine held_done (by kernel_rfl) ?_
        have He := Lib.hid (Hd.out.below HBe.out)
        clear K1 K2 K3 K4 HLk HBe Hd hfd het c1 hcm
        have HQs : Hid (we.heap[gs]? = some (.cells PS 43 (0, 0))) := Lib.hid (He.out.at (by simp))
        have HQc : Hid (we.cell? ⟨b, off + k * 220 + 153, none⟩ = some (.bool zok)) := Lib.hid (HOkc.out we He.out.kn.be)
        obtain ⟨A2, hA2⟩ : ∃ A2, A2 = (A.ask f).done (A.askStep f) zok := ⟨_, rfl⟩
        have HA2e := Lib.hid hA2
        have HA2o : Hid A2.Ok := Lib.hid (by rw [hA2]; exact RA.done_ok HAo.out HPo.out zok)
        have hdon := fun w h => done_any (A.ask f) (A.askStep f) zok g w h HAo.out HPo.out
        rw [← hA2] at hdon
        unfold RP.val at hdon
        rw [← HPS.out] at hdon
        have HDon := Lib.hid hdon
        clear hdon hA2
        go_wp2_with fail
        refine wp_region_held_drew (S := (fun w' => w'.heap[gs]? = some (.cells PS 43 (0, 0)) ∧ w'.cell? ⟨b, off + k * 220 + 153, none⟩ = some (.bool zok))) (by kernel_rfl) (⟨HQs.out, HQc.out⟩) (fun hHeld => ?_)
        refine held_take 0 (v := ?_) rfl (by kernel_rfl) (by kernel_rfl) (by kernel_rfl) (fun _ _ _ h => h) (by rfl) (fun w hS => ?_) (by assumption) ?_
        rotate_left
        · try dsimp only at hS
          have l1 := hS.2
          go_simp <;> with_reducible rfl
        try simp only [Act.put, List.setIfInBounds_toArray, List.set_cons_zero, List.set_cons_succ]
        refine held_take 1 (v := (.agg PS)) rfl (by kernel_rfl) (by kernel_rfl) (by kernel_rfl) (fun _ _ _ h => h) (by rfl) (fun w hS => ?_) (by assumption) ?_
        · exact yield_row _ _ 43 (.tmp 14) (by rfl) gs (by rfl) 43 PS (0, 0) _ hS.1 Try.underlying43 (by rfl) HIPS.out
        try simp only [Act.put, List.setIfInBounds_toArray, List.set_cons_zero, List.set_cons_succ]
        refine held_take 2 (v := ?_) rfl (by kernel_rfl) (by kernel_rfl) (by kernel_rfl) (fun _ _ _ h => h) (by rfl) (fun w hS => ?_) (by assumption) ?_
        rotate_left
        · try dsimp only at hS
          have l1 := hS.2
          go_simp <;> with_reducible rfl
        try simp only [Act.put, List.setIfInBounds_toArray, List.set_cons_zero, List.set_cons_succ]
        refine held_take 3 (v := ?_) rfl (by kernel_rfl) (by kernel_rfl) (by kernel_rfl) (fun _ _ _ h => h) (by rfl) (fun w hS => ?_) (by assumption) ?_
        rotate_left
        · try dsimp only at hS
          have l1 := hS.2
          go_simp <;> with_reducible rfl
        try simp only [Act.put, List.setIfInBounds_toArray, List.set_cons_zero, List.set_cons_succ]
        refine held_take 4 (v := ?_) rfl (by kernel_rfl) (by kernel_rfl) (by kernel_rfl) (fun _ _ _ h => h) (by rfl) (fun w hS => ?_) (by assumption) ?_
        rotate_left
        · try dsimp only at hS
          have l1 := hS.2
          go_simp <;> with_reducible rfl
        try simp only [Act.put, List.setIfInBounds_toArray, List.set_cons_zero, List.set_cons_succ]
        refine held_take 5 (v := ?_) rfl (by kernel_rfl) (by kernel_rfl) (by kernel_rfl) (fun _ _ _ h => h) (by rfl) (fun w hS => ?_) (by assumption) ?_
        rotate_left
        · try dsimp only at hS
          have l1 := hS.2
          go_simp <;> with_reducible rfl
        try simp only [Act.put, List.setIfInBounds_toArray, List.set_cons_zero, List.set_cons_succ]
        refine held_take 6 (v := ?_) rfl (by kernel_rfl) (by kernel_rfl) (by kernel_rfl) (fun _ _ _ h => h) (by rfl) (fun w hS => ?_) (by assumption) ?_
        rotate_left
        · try dsimp only at hS
          have l1 := hS.2
          go_simp <;> with_reducible rfl
        try simp only [Act.put, List.setIfInBounds_toArray, List.set_cons_zero, List.set_cons_succ]
        refine held_one 7 rfl (by kernel_rfl) (fun K hK => ?_)
        go_simp
        refine (HDon.out _ (He.out.kn.area.below (Below.refl _ _).drew)).mono ?_
        rintro e wf ⟨rfl, hA9, hg9⟩
        have HF : Hid (OnS w wf g gm A2 xs [(ge, EN, 45), (gs, PS, 43), (gf, FC, 37), (g1, S1, 31), (gl, FC, 37), (gk, KC, 22)]) := Lib.hid ((He.out.below (Below.refl _ _).drew).call hA9 HA2o.out hg9)
        clear hA9 hg9
        refine hK.out _ _ (fun w' => w'.heap[gs]? = some (.cells PS 43 (0, 0)) ∧ w'.cell? ⟨b, off + k * 220 + 153, none⟩ = some (.bool zok)) (fun _ h => h) ⟨HF.out.at (by simp), HOkc.out wf HF.out.kn.be⟩ (fun hHeld => ?_)
        clear hK K
        try simp only [Act.put, List.setIfInBounds_toArray, List.set_cons_zero, List.set_cons_succ]
        refine held_done (by kernel_rfl) ?_
        clear HQs HQc He HDon
        have hks := HKs.out
        have hct := once_done (A := A) (f := f) zok HPw.out
        rw [← HA2e.out] at hks hct
        have HHas2 : Hid (A2.s.has = true) := Lib.hid (by rw [hks.2.2.1, HHs.out]; rfl)
        have HKey2 : Hid (A2.s.key = key) := Lib.hid (by rw [hks.2.2.2, HPk.out]; exact HKy2.out)
        have hok9 := HOkc.out wf HF.out.kn.be
        cases zok with
        | false =>
          have HCt2 : Hid (A2.s.ctr = cw) := Lib.hid (by rw [hct, HCw.out]; rfl)
          have HTk2 : Hid (Took A2 xs) := Lib.hid (fun y hy => by obtain ⟨q, q1, q2, q3⟩ := HTk.out y hy; exact ⟨q, q1, q2, by rw [HCt2.out, HCw.out]; exact q3⟩)
          clear hks hct
          have hst2 := state_any (A2) g wf HF.out.kn.area HF.out.kn.ok
          unfold RS.val at hst2
          obtain ⟨S2, hS2⟩ : ∃ N, N = ((A2).s : RS).cells.toArray := ⟨_, rfl⟩
          have HIS2 : Hid ((Try.prog.info? 31).map (·.size) = some S2.size) := Lib.hid (by rw [hS2, List.size_toArray, RS.len HF.out.kn.ok.s]; exact info_st)
          have HOS2 : Hid ((#[Value.int .u8 0, Value.int .u8 0, Value.int .u8 0, Value.int .u8 0, Value.int .u8 0, Value.int .u8 0, Value.int .u8 0, Value.int .u8 0, Value.int .u8 0, Value.int .u8 0, Value.int .u8 0, Value.int .u8 0, Value.int .u8 0, Value.int .u8 0, Value.int .u8 0, Value.int .u8 0, Value.int .u8 0, Value.int .u8 0, Value.int .u8 0, Value.int .u8 0, Value.int .u8 0, Value.int .u8 0, Value.int .u8 0, Value.int .u8 0, Value.int .u8 0, Value.int .u8 0, Value.int .u8 0, Value.int .u8 0, Value.int .u8 0, Value.int .u8 0, Value.int .u8 0, Value.int .u8 0, .bool false, .int .u32 0] : Array Value).size = S2.size) := Lib.hid (by rw [show S2.size = 34 by rw [hS2, List.size_toArray, RS.len HF.out.kn.ok.s]]; rfl)
          have HES2 : Hid (S2.all (·.oneCell') = true) := Lib.hid (by rw [hS2]; exact RS.one _)
          have HS2 := Lib.hid hS2
          rw [← hS2] at hst2
          have HSt2 := Lib.hid hst2
          clear hst2 hS2
          go_wp2_with fail
          refine HSt2.out.mono ?_
          rintro e wy ⟨rfl, hb⟩
          have HY := Lib.hid (HF.out.below hb)
          clear hb HF HSt2
          go_wp2_with (first | (with_reducible refine wpList_store_row rfl 31 (.tmp 16) (.tmp 101) rfl wy.heap.size S2 rfl rfl 31 #[Value.int .u8 0, Value.int .u8 0, Value.int .u8 0, Value.int .u8 0, Value.int .u8 0, Value.int .u8 0, Value.int .u8 0, Value.int .u8 0, Value.int .u8 0, Value.int .u8 0, Value.int .u8 0, Value.int .u8 0, Value.int .u8 0, Value.int .u8 0, Value.int .u8 0, Value.int .u8 0, Value.int .u8 0, Value.int .u8 0, Value.int .u8 0, Value.int .u8 0, Value.int .u8 0, Value.int .u8 0, Value.int .u8 0, Value.int .u8 0, Value.int .u8 0, Value.int .u8 0, Value.int .u8 0, Value.int .u8 0, Value.int .u8 0, Value.int .u8 0, Value.int .u8 0, Value.int .u8 0, .bool false, .int .u32 0] (heap_new wy _) HIS2.out HOS2.out HES2.out ?_; rw [World.setRow_alloc_new]; refine Stop.mk ?_))
          refine Stop.go ?_
          have HX2 : Hid (OnS w (wy.alloc (.cells S2 31)) g gm (A2) xs [(wy.heap.size, S2, 31), (ge, EN, 45), (gs, PS, 43), (gf, FC, 37), (g1, S1, 31), (gl, FC, 37), (gk, KC, 22)]) := Lib.hid (HY.out.made S2 _)
          generalize wy.alloc (.cells S2 31) = wx at HX2 ⊢
          obtain ⟨g2, hg2⟩ : ∃ g, g = wy.heap.size := ⟨_, rfl⟩
          rw [← hg2] at HX2 ⊢
          clear hg2 HY
          have K1 : Hid (∀ w', Below wx.heap.size wx w' → (w'.cell? ⟨g2, 32, none⟩ = some (.bool true) ∧ w'.cell? ⟨g2, 33, none⟩ = some (.int .u32 (cw : Int))) ∧ w'.cell? ⟨g1, 33, none⟩ = some (.int .u32 (cw : Int)) ∧ w'.cell? ⟨gs, 1, none⟩ = some (.bool true) ∧ w'.cell? ⟨b, off + k * 220 + 153, none⟩ = some (.bool false)) := Lib.hid (fun w' hw => by
            have h2 : HasB w' g2 S2 31 := HasB.below (HX2.out.at (by simp)) hw (HasB.lt (HX2.out.at (k := g2) (C := S2) (T := 31) (by simp)))
            have h1 : HasB w' g1 S1 31 := HasB.below (HX2.out.at (by simp)) hw (HasB.lt (HX2.out.at (k := g1) (C := S1) (T := 31) (by simp)))
            have hs : HasB w' gs PS 43 := HasB.below (HX2.out.at (by simp)) hw (HasB.lt (HX2.out.at (k := gs) (C := PS) (T := 43) (by simp)))
            refine ⟨⟨?_, ?_⟩, ?_, ?_, HOkc.out w' (HX2.out.kn.be.trans (hw.mono HX2.out.kn.be.size))⟩
            · rw [h2.at, HS2.out, ← HHas2.out]; simp [RS.cells, u8s_len, HX2.out.kn.ok.s.kl]
            · rw [HS2.out] at h2; have := (RS.parts HX2.out.kn.ok.s h2).2; rw [HCt2.out] at this; exact this
            · rw [HS1.out] at h1; have := (RS.parts HSok.out h1).2; rw [← HCw.out] at this; exact this
            · rw [hs.at, HPS.out, ← HPw.out]; rfl)
          have K2 : Hid (∀ w', Below wx.heap.size wx w' → w'.rangeAt g2 0 KL) := Lib.hid (fun w' hw => by
            have h2 : HasB w' g2 S2 31 := HasB.below (HX2.out.at (by simp)) hw (HasB.lt (HX2.out.at (k := g2) (C := S2) (T := 31) (by simp)))
            rw [HS2.out] at h2; have := (RS.parts HX2.out.kn.ok.s h2).1; rw [HKey2.out, ← HKL.out] at this; exact this)
          have K3 : Hid (∀ w', Below wx.heap.size wx w' → w'.heap[gk]? = some (.cells KC 22 (0, 0))) := Lib.hid (fun w' hw => HasB.below (HX2.out.at (k := gk) (by simp)) hw (HasB.lt (HX2.out.at (k := gk) (C := KC) (T := 22) (by simp))))
          have hek := HEk.out
          go_wp2_with fail
          refine wp_region_held_drew (S := (fun w' => Below wx.heap.size wx w')) (by kernel_rfl) ((Below.refl _ _).drew) (fun hHeld => ?_)
          refine held_take 0 (v := ?_) rfl (by kernel_rfl) (by kernel_rfl) (by kernel_rfl) (fun _ _ _ h => h) (by rfl) (fun w hS => ?_) (by assumption) ?_
          rotate_left
          · try dsimp only at hS
            have l1 := K1.out w hS
            go_simp <;> with_reducible rfl
          try simp only [Act.put, List.setIfInBounds_toArray, List.set_cons_zero, List.set_cons_succ]
          refine held_take 1 (v := (.agg KC)) rfl (by kernel_rfl) (by kernel_rfl) (by kernel_rfl) (fun _ _ _ h => h) (by rfl) (fun w hS => ?_) (by assumption) ?_
          · (rw [HKCL.out]; exact yield_load_mid _ _ 22 (.tmp 102) (by rfl) g2 0 (by rfl) KL _ (K2.out w hS) Try.underlying22 (by rfl) HIkl.out)
          try simp only [Act.put, List.setIfInBounds_toArray, List.set_cons_zero, List.set_cons_succ]
          refine held_take 2 (v := (.agg KC)) rfl (by kernel_rfl) (by kernel_rfl) (by kernel_rfl) (fun _ _ _ h => h) (by rfl) (fun w hS => ?_) (by assumption) ?_
          · exact yield_row _ _ 22 (.tmp 3) (by rfl) gk (by rfl) 22 KC (0, 0) _ (K3.out w hS) Try.underlying22 (by rfl) HIk.out
          try simp only [Act.put, List.setIfInBounds_toArray, List.set_cons_zero, List.set_cons_succ]
          refine held_take 3 (v := ?_) rfl (by kernel_rfl) (by kernel_rfl) (by kernel_rfl) (fun _ _ _ h => h) (by rfl) (fun w hS => ?_) (by assumption) ?_
          rotate_left
          · try dsimp only at hS
            have l1 := K1.out w hS
            go_simp <;> with_reducible rfl
          try simp only [Act.put, List.setIfInBounds_toArray, List.set_cons_zero, List.set_cons_succ]
          refine held_take 4 (v := ?_) rfl (by kernel_rfl) (by kernel_rfl) (by kernel_rfl) (fun _ _ _ h => h) (by rfl) (fun w hS => ?_) (by assumption) ?_
          rotate_left
          · try dsimp only at hS
            have l1 := K1.out w hS
            go_simp <;> with_reducible rfl
          try simp only [Act.put, List.setIfInBounds_toArray, List.set_cons_zero, List.set_cons_succ]
          refine held_take 5 (v := ?_) rfl (by kernel_rfl) (by kernel_rfl) (by kernel_rfl) (fun _ _ _ h => h) (by rfl) (fun w hS => ?_) (by assumption) ?_
          rotate_left
          · try dsimp only at hS
            have l1 := K1.out w hS
            go_simp <;> with_reducible rfl
          try simp only [Act.put, List.setIfInBounds_toArray, List.set_cons_zero, List.set_cons_succ]
          refine held_take 6 (v := ?_) rfl (by kernel_rfl) (by kernel_rfl) (by kernel_rfl) (fun _ _ _ h => h) (by rfl) (fun w hS => ?_) (by assumption) ?_
          rotate_left
          · try dsimp only at hS
            have l1 := K1.out w hS
            go_simp <;> with_reducible rfl
          try simp only [Act.put, List.setIfInBounds_toArray, List.set_cons_zero, List.set_cons_succ]
          refine held_take 7 (v := ?_) rfl (by kernel_rfl) (by kernel_rfl) (by kernel_rfl) (fun _ _ _ h => h) (by rfl) (fun w hS => ?_) (by assumption) ?_
          rotate_left
          · try dsimp only at hS
            have l1 := K1.out w hS
            go_simp <;> with_reducible rfl
          try simp only [Act.put, List.setIfInBounds_toArray, List.set_cons_zero, List.set_cons_succ]
          refine held_take 8 (v := ?_) rfl (by kernel_rfl) (by kernel_rfl) (by kernel_rfl) (fun _ _ _ h => h) (by rfl) (fun w hS => ?_) (by assumption) ?_
          rotate_left
          · try dsimp only at hS
            have l1 := K1.out w hS
            go_simp <;> with_reducible rfl
          try simp only [Act.put, List.setIfInBounds_toArray, List.set_cons_zero, List.set_cons_succ]
          refine held_take 9 (v := ?_) rfl (by kernel_rfl) (by kernel_rfl) (by kernel_rfl) (fun _ _ _ h => h) (by rfl) (fun w hS => ?_) (by assumption) ?_
          rotate_left
          · try dsimp only at hS
            have l1 := K1.out w hS
            go_simp <;> with_reducible rfl
          try simp only [Act.put, List.setIfInBounds_toArray, List.set_cons_zero, List.set_cons_succ]
          refine held_take 10 (v := ?_) rfl (by kernel_rfl) (by kernel_rfl) (by kernel_rfl) (fun _ _ _ h => h) (by rfl) (fun w hS => ?_) (by assumption) ?_
          rotate_left
          · try dsimp only at hS
            have l1 := K1.out w hS
            go_simp <;> with_reducible rfl
          try simp only [Act.put, List.setIfInBounds_toArray, List.set_cons_zero, List.set_cons_succ]
          refine held_take 11 (v := ?_) rfl (by kernel_rfl) (by kernel_rfl) (by kernel_rfl) (fun _ _ _ h => h) (by rfl) (fun w hS => ?_) (by assumption) ?_
          rotate_left
          · try dsimp only at hS
            have l1 := K1.out w hS
            go_simp <;> with_reducible rfl
          try simp only [Act.put, List.setIfInBounds_toArray, List.set_cons_zero, List.set_cons_succ]
          refine held_take 12 (v := ?_) rfl (by kernel_rfl) (by kernel_rfl) (by kernel_rfl) (fun _ _ _ h => h) (by rfl) (fun w hS => ?_) (by assumption) ?_
          rotate_left
          · try dsimp only at hS
            have l1 := K1.out w hS
            go_simp <;> with_reducible rfl
          try simp only [Act.put, List.setIfInBounds_toArray, List.set_cons_zero, List.set_cons_succ]
          refine held_take 13 (v := ?_) rfl (by kernel_rfl) (by kernel_rfl) (by kernel_rfl) (fun _ _ _ h => h) (by rfl) (fun w hS => ?_) (by assumption) ?_
          rotate_left
          · try dsimp only at hS
            have l1 := K1.out w hS
            go_simp <;> with_reducible rfl
          try simp only [Act.put, List.setIfInBounds_toArray, List.set_cons_zero, List.set_cons_succ]
          refine held_take 14 (v := ?_) rfl (by kernel_rfl) (by kernel_rfl) (by kernel_rfl) (fun _ _ _ h => h) (by rfl) (fun w hS => ?_) (by assumption) ?_
          rotate_left
          · try dsimp only at hS
            have l1 := K1.out w hS
            go_simp <;> with_reducible rfl
          try simp only [Act.put, List.setIfInBounds_toArray, List.set_cons_zero, List.set_cons_succ]
          refine held_take 15 (v := ?_) rfl (by kernel_rfl) (by kernel_rfl) (by kernel_rfl) (fun _ _ _ h => h) (by rfl) (fun w hS => ?_) (by assumption) ?_
          rotate_left
          · try dsimp only at hS
            have l1 := K1.out w hS
            go_simp <;> with_reducible rfl
          try simp only [Act.put, List.setIfInBounds_toArray, List.set_cons_zero, List.set_cons_succ]
          refine held_take 16 (v := ?_) rfl (by kernel_rfl) (by kernel_rfl) (by kernel_rfl) (fun _ _ _ h => h) (by rfl) (fun w hS => ?_) (by assumption) ?_
          rotate_left
          · try dsimp only at hS
            have l1 := K1.out w hS
            go_simp <;> with_reducible rfl
          try simp only [Act.put, List.setIfInBounds_toArray, List.set_cons_zero, List.set_cons_succ]
          refine held_take 17 (v := ?_) rfl (by kernel_rfl) (by kernel_rfl) (by kernel_rfl) (fun _ _ _ h => h) (by rfl) (fun w hS => ?_) (by assumption) ?_
          rotate_left
          · try dsimp only at hS
            have l1 := K1.out w hS
            go_simp <;> with_reducible rfl
          try simp only [Act.put, List.setIfInBounds_toArray, List.set_cons_zero, List.set_cons_succ]
          refine held_take 18 (v := ?_) rfl (by kernel_rfl) (by kernel_rfl) (by kernel_rfl) (fun _ _ _ h => h) (by rfl) (fun w hS => ?_) (by assumption) ?_
          rotate_left
          · try dsimp only at hS
            have l1 := K1.out w hS
            go_simp <;> with_reducible rfl
          try simp only [Act.put, List.setIfInBounds_toArray, List.set_cons_zero, List.set_cons_succ]
          refine held_take 19 (v := ?_) rfl (by kernel_rfl) (by kernel_rfl) (by kernel_rfl) (fun _ _ _ h => h) (by rfl) (fun w hS => ?_) (by assumption) ?_
          rotate_left
          · try dsimp only at hS
            have l1 := K1.out w hS
            go_simp <;> with_reducible rfl
          try simp only [Act.put, List.setIfInBounds_toArray, List.set_cons_zero, List.set_cons_succ]
          refine held_take 20 (v := ?_) rfl (by kernel_rfl) (by kernel_rfl) (by kernel_rfl) (fun _ _ _ h => h) (by rfl) (fun w hS => ?_) (by assumption) ?_
          rotate_left
          · try dsimp only at hS
            have l1 := K1.out w hS
            go_simp <;> with_reducible rfl
          try simp only [Act.put, List.setIfInBounds_toArray, List.set_cons_zero, List.set_cons_succ]
          refine held_take 21 (v := ?_) rfl (by kernel_rfl) (by kernel_rfl) (by kernel_rfl) (fun _ _ _ h => h) (by rfl) (fun w hS => ?_) (by assumption) ?_
          rotate_left
          · try dsimp only at hS
            have l1 := K1.out w hS
            go_simp <;> with_reducible rfl
          try simp only [Act.put, List.setIfInBounds_toArray, List.set_cons_zero, List.set_cons_succ]
          refine held_take 22 (v := ?_) rfl (by kernel_rfl) (by kernel_rfl) (by kernel_rfl) (fun _ _ _ h => h) (by rfl) (fun w hS => ?_) (by assumption) ?_
          rotate_left
          · try dsimp only at hS
            have l1 := K1.out w hS
            go_simp <;> with_reducible rfl
          try simp only [Act.put, List.setIfInBounds_toArray, List.set_cons_zero, List.set_cons_succ]
          refine held_take 23 (v := ?_) rfl (by kernel_rfl) (by kernel_rfl) (by kernel_rfl) (fun _ _ _ h => h) (by rfl) (fun w hS => ?_) (by assumption) ?_
          rotate_left
          · try dsimp only at hS
            have l1 := K1.out w hS
            go_simp <;> with_reducible rfl
          try simp only [Act.put, List.setIfInBounds_toArray, List.set_cons_zero, List.set_cons_succ]
          refine held_take 24 (v := ?_) rfl (by kernel_rfl) (by kernel_rfl) (by kernel_rfl) (fun _ _ _ h => h) (by rfl) (fun w hS => ?_) (by assumption) ?_
          rotate_left
          · try dsimp only at hS
            have l1 := K1.out w hS
            go_simp <;> with_reducible rfl
          try simp only [Act.put, List.setIfInBounds_toArray, List.set_cons_zero, List.set_cons_succ]
          refine held_take 25 (v := ?_) rfl (by kernel_rfl) (by kernel_rfl) (by kernel_rfl) (fun _ _ _ h => h) (by rfl) (fun w hS => ?_) (by assumption) ?_
          rotate_left
          · try dsimp only at hS
            have l1 := K1.out w hS
            go_simp <;> with_reducible rfl
          try simp only [Act.put, List.setIfInBounds_toArray, List.set_cons_zero, List.set_cons_succ]
          refine held_take 26 (v := ?_) rfl (by kernel_rfl) (by kernel_rfl) (by kernel_rfl) (fun _ _ _ h => h) (by rfl) (fun w hS => ?_) (by assumption) ?_
          rotate_left
          · try dsimp only at hS
            have l1 := K1.out w hS
            go_simp <;> with_reducible rfl
          try simp only [Act.put, List.setIfInBounds_toArray, List.set_cons_zero, List.set_cons_succ]
          refine held_take 27 (v := ?_) rfl (by kernel_rfl) (by kernel_rfl) (by kernel_rfl) (fun _ _ _ h => h) (by rfl) (fun w hS => ?_) (by assumption) ?_
          rotate_left
          · try dsimp only at hS
            have l1 := K1.out w hS
            go_simp <;> with_reducible rfl
          try simp only [Act.put, List.setIfInBounds_toArray, List.set_cons_zero, List.set_cons_succ]
          refine held_take 28 (v := ?_) rfl (by kernel_rfl) (by kernel_rfl) (by kernel_rfl) (fun _ _ _ h => h) (by rfl) (fun w hS => ?_) (by assumption) ?_
          rotate_left
          · try dsimp only at hS
            have l1 := K1.out w hS
            go_simp <;> with_reducible rfl
          try simp only [Act.put, List.setIfInBounds_toArray, List.set_cons_zero, List.set_cons_succ]
          refine held_take 29 (v := ?_) rfl (by kernel_rfl) (by kernel_rfl) (by kernel_rfl) (fun _ _ _ h => h) (by rfl) (fun w hS => ?_) (by assumption) ?_
          rotate_left
          · try dsimp only at hS
            have l1 := K1.out w hS
            go_simp <;> with_reducible rfl
          try simp only [Act.put, List.setIfInBounds_toArray, List.set_cons_zero, List.set_cons_succ]
          refine held_take 30 (v := ?_) rfl (by kernel_rfl) (by kernel_rfl) (by kernel_rfl) (fun _ _ _ h => h) (by rfl) (fun w hS => ?_) (by assumption) ?_
          rotate_left
          · try dsimp only at hS
            have l1 := K1.out w hS
            go_simp <;> with_reducible rfl
          try simp only [Act.put, List.setIfInBounds_toArray, List.set_cons_zero, List.set_cons_succ]
          refine held_take 31 (v := ?_) rfl (by kernel_rfl) (by kernel_rfl) (by kernel_rfl) (fun _ _ _ h => h) (by rfl) (fun w hS => ?_) (by assumption) ?_
          rotate_left
          · try dsimp only at hS
            have l1 := K1.out w hS
            go_simp <;> with_reducible rfl
          try simp only [Act.put, List.setIfInBounds_toArray, List.set_cons_zero, List.set_cons_succ]
          refine held_take 32 (v := ?_) rfl (by kernel_rfl) (by kernel_rfl) (by kernel_rfl) (fun _ _ _ h => h) (by rfl) (fun w hS => ?_) (by assumption) ?_
          rotate_left
          · try dsimp only at hS
            have l1 := K1.out w hS
            go_simp <;> with_reducible rfl
          try simp only [Act.put, List.setIfInBounds_toArray, List.set_cons_zero, List.set_cons_succ]
          refine held_take 33 (v := ?_) rfl (by kernel_rfl) (by kernel_rfl) (by kernel_rfl) (fun _ _ _ h => h) (by rfl) (fun w hS => ?_) (by assumption) ?_
          rotate_left
          · try dsimp only at hS
            have l1 := K1.out w hS
            go_simp <;> with_reducible rfl
          try simp only [Act.put, List.setIfInBounds_toArray, List.set_cons_zero, List.set_cons_succ]
          refine held_take 34 (v := ?_) rfl (by kernel_rfl) (by kernel_rfl) (by kernel_rfl) (fun _ _ _ h => h) (by rfl) (fun w hS => ?_) (by assumption) ?_
          rotate_left
          · try dsimp only at hS
            have l1 := K1.out w hS
            go_simp <;> with_reducible rfl
          try simp only [Act.put, List.setIfInBounds_toArray, List.set_cons_zero, List.set_cons_succ]
          refine held_take 35 (v := ?_) rfl (by kernel_rfl) (by kernel_rfl) (by kernel_rfl) (fun _ _ _ h => h) (by rfl) (fun w hS => ?_) (by assumption) ?_
          rotate_left
          · try dsimp only at hS
            have l1 := K1.out w hS
            go_simp <;> with_reducible rfl
          try simp only [Act.put, List.setIfInBounds_toArray, List.set_cons_zero, List.set_cons_succ]
          refine held_take 36 (v := ?_) rfl (by kernel_rfl) (by kernel_rfl) (by kernel_rfl) (fun _ _ _ h => h) (by rfl) (fun w hS => ?_) (by assumption) ?_
          rotate_left
          · try dsimp only at hS
            have l1 := K1.out w hS
            go_simp <;> with_reducible rfl
          try simp only [Act.put, List.setIfInBounds_toArray, List.set_cons_zero, List.set_cons_succ]
          refine held_take 37 (v := ?_) rfl (by kernel_rfl) (by kernel_rfl) (by kernel_rfl) (fun _ _ _ h => h) (by rfl) (fun w hS => ?_) (by assumption) ?_
          rotate_left
          · try dsimp only at hS
            have l1 := K1.out w hS
            go_simp <;> with_reducible rfl
          try simp only [Act.put, List.setIfInBounds_toArray, List.set_cons_zero, List.set_cons_succ]
          refine held_take 38 (v := ?_) rfl (by kernel_rfl) (by kernel_rfl) (by kernel_rfl) (fun _ _ _ h => h) (by rfl) (fun w hS => ?_) (by assumption) ?_
          rotate_left
          · try dsimp only at hS
            have l1 := K1.out w hS
            go_simp <;> with_reducible rfl
          try simp only [Act.put, List.setIfInBounds_toArray, List.set_cons_zero, List.set_cons_succ]
          refine held_take 39 (v := ?_) rfl (by kernel_rfl) (by kernel_rfl) (by kernel_rfl) (fun _ _ _ h => h) (by rfl) (fun w hS => ?_) (by assumption) ?_
          rotate_left
          · try dsimp only at hS
            have l1 := K1.out w hS
            go_simp <;> with_reducible rfl
          try simp only [Act.put, List.setIfInBounds_toArray, List.set_cons_zero, List.set_cons_succ]
          refine held_skip 40 rfl (by kernel_rfl) (by kernel_rfl) (by kernel_rfl) (fun _ _ _ h => h) (by rfl) (by assumption) ?_
          try simp only [Act.put, List.setIfInBounds_toArray, List.set_cons_zero, List.set_cons_succ]
          refine held_skip 41 rfl (by kernel_rfl) (by kernel_rfl) (by kernel_rfl) (fun _ _ _ h => h) (by rfl) (by assumption) ?_
          try simp only [Act.put, List.setIfInBounds_toArray, List.set_cons_zero, List.set_cons_succ]
          refine held_skip 42 rfl (by kernel_rfl) (by kernel_rfl) (by kernel_rfl) (fun _ _ _ h => h) (by rfl) (by assumption) ?_
          try simp only [Act.put, List.setIfInBounds_toArray, List.set_cons_zero, List.set_cons_succ]
          refine held_skip 43 rfl (by kernel_rfl) (by kernel_rfl) (by kernel_rfl) (fun _ _ _ h => h) (by rfl) (by assumption) ?_
          try simp only [Act.put, List.setIfInBounds_toArray, List.set_cons_zero, List.set_cons_succ]
          refine held_skip 44 rfl (by kernel_rfl) (by kernel_rfl) (by kernel_rfl) (fun _ _ _ h => h) (by rfl) (by assumption) ?_
          try simp only [Act.put, List.setIfInBounds_toArray, List.set_cons_zero, List.set_cons_succ]
          refine held_skip 45 rfl (by kernel_rfl) (by kernel_rfl) (by kernel_rfl) (fun _ _ _ h => h) (by rfl) (by assumption) ?_
          try simp only [Act.put, List.setIfInBounds_toArray, List.set_cons_zero, List.set_cons_succ]
          refine held_take 46 (v := ?_) rfl (by kernel_rfl) (by kernel_rfl) (by kernel_rfl) (fun _ _ _ h => h) (by rfl) (fun w hS => ?_) (by assumption) ?_
          rotate_left
          · try dsimp only at hS
            have l1 := K1.out w hS
            go_simp <;> with_reducible rfl
          try simp only [Act.put, List.setIfInBounds_toArray, List.set_cons_zero, List.set_cons_succ]
          refine held_take 47 (v := ?_) rfl (by kernel_rfl) (by kernel_rfl) (by kernel_rfl) (fun _ _ _ h => h) (by rfl) (fun w hS => ?_) (by assumption) ?_
          rotate_left
          · try dsimp only at hS
            have l1 := K1.out w hS
            go_simp <;> with_reducible rfl
          try simp only [Act.put, List.setIfInBounds_toArray, List.set_cons_zero, List.set_cons_succ]
          refine held_done (by kernel_rfl) ?_
          have HN : Hid (OnS w wx.drew g gm A2 xs [(gl, f.cells.toArray, 37), (gk, KC, 22)]) := Lib.hid (by rw [← HFC.out]; exact (HX2.out.below (Below.refl _ _).drew).sub (subl _ _ _ _ _ _ _))
          clear K1 K2 K3 HX2 hek hok9
          go_wp2_with fail
          go_roundw
          case rel => exact ⟨k + 1, by omega, by go_num, Lib.hid ⟨A2, f, xs, HN.out, HFo.out, HKey2.out, HHas2.out, HTk2.out⟩⟩
          case measure => simp [intOf]; omega
        | true =>
          obtain ⟨dn, hdn⟩ : ∃ d, d = cw + 1 := ⟨_, rfl⟩
          have hcb := HSok.out.cb
          rw [← HCw.out] at hcb
          have hne := HW3.out.2.1
          rw [← HCw.out] at hne
          have HCt2 : Hid (A2.s.ctr = dn) := Lib.hid (by rw [hct, hdn, ← HCw.out, if_pos rfl]; omega)
          have HTk2 : Hid (Took A2 (f.enc :: xs)) := Lib.hid (fun y hy => by
            rcases List.mem_cons.1 hy with rfl | hy
            · exact ⟨f, HFo.out, rfl, by rw [HCt2.out, HW3.out.2.2, ← HCw.out, hdn]; omega⟩
            · obtain ⟨q, q1, q2, q3⟩ := HTk.out y hy; exact ⟨q, q1, q2, by rw [HCt2.out, hdn]; have := HCw.out; omega⟩)
          have d1 : decide ((dn : Int) < (cw : Int)) = false := by simp; omega
          have d2 : ((dn : Int) == (cw : Int)) = false := by simp; omega
          have d3 : IntKind.u32.wrap ((cw : Int) + 1) = (dn : Int) := by rw [IntKind.wrap_u32, hdn]; omega
          have d4 : ¬ (dn : Int) < (cw : Int) := by omega
          have d5 : ¬ dn < cw := by omega
          have d6 : cw ≤ dn := by omega
          have d7 : ((dn : Int) != (cw : Int)) = true := by simp; omega
          have d8 : (dn == cw) = false := by simp; omega
          have d9 : ¬ dn = cw := by omega
          clear hks hct hdn hcb hne
          have HQe : Hid (wf.heap[ge]? = some (.cells EN 45 (0, 0))) := Lib.hid (HF.out.at (by simp))
          go_wp2_with (with_reducible refine stop_dst 99 rfl ?_)
          refine Stop.go ?_
          refine wpList_load_row rfl 45 (.tmp 15) rfl ge rfl 45 EN (0, 0) _ HQe.out Try.underlying45 rfl HIEN.out ?_
          refine wpList_mapUpdate_has rfl (.tmp 98) (.tmp 99) (.const (.bool true)) 32 rfl 45 4 keyLaw128 Try.underlying32 encM gm xs rfl HF.out.mp f.enc (by rw [show (encM f.enc).1 = .agg EN by rw [HEN.out]; rfl]; rfl) rfl HTk.out.keys (key128 _ (RF.enc_len HFo.out) (RF.enc_lt HFo.out)) (HTk.out.new HFo.out HW3.out.2.2) ?_
          intro wg hmp hgm
          have HG := Lib.hid (HF.out.put hmp hgm)
          clear hmp hgm HF HQe hok9
          have hst2 := state_any (A2) g wg HG.out.kn.area HG.out.kn.ok
          unfold RS.val at hst2
          obtain ⟨S2, hS2⟩ : ∃ N, N = ((A2).s : RS).cells.toArray := ⟨_, rfl⟩
          have HIS2 : Hid ((Try.prog.info? 31).map (·.size) = some S2.size) := Lib.hid (by rw [hS2, List.size_toArray, RS.len HG.out.kn.ok.s]; exact info_st)
          have HOS2 : Hid ((#[Value.int .u8 0, Value.int .u8 0, Value.int .u8 0, Value.int .u8 0, Value.int .u8 0, Value.int .u8 0, Value.int .u8 0, Value.int .u8 0, Value.int .u8 0, Value.int .u8 0, Value.int .u8 0, Value.int .u8 0, Value.int .u8 0, Value.int .u8 0, Value.int .u8 0, Value.int .u8 0, Value.int .u8 0, Value.int .u8 0, Value.int .u8 0, Value.int .u8 0, Value.int .u8 0, Value.int .u8 0, Value.int .u8 0, Value.int .u8 0, Value.int .u8 0, Value.int .u8 0, Value.int .u8 0, Value.int .u8 0, Value.int .u8 0, Value.int .u8 0, Value.int .u8 0, Value.int .u8 0, .bool false, .int .u32 0] : Array Value).size = S2.size) := Lib.hid (by rw [show S2.size = 34 by rw [hS2, List.size_toArray, RS.len HG.out.kn.ok.s]]; rfl)
          have HES2 : Hid (S2.all (·.oneCell') = true) := Lib.hid (by rw [hS2]; exact RS.one _)
          have HS2 := Lib.hid hS2
          rw [← hS2] at hst2
          have HSt2 := Lib.hid hst2
          clear hst2 hS2
          go_wp2_with fail
          refine HSt2.out.mono ?_
          rintro e wy ⟨rfl, hb⟩
          have HY := Lib.hid (HG.out.below hb)
          clear hb HG HSt2
          go_wp2_with (first | (with_reducible refine wpList_store_row rfl 31 (.tmp 16) (.tmp 101) rfl wy.heap.size S2 rfl rfl 31 #[Value.int .u8 0, Value.int .u8 0, Value.int .u8 0, Value.int .u8 0, Value.int .u8 0, Value.int .u8 0, Value.int .u8 0, Value.int .u8 0, Value.int .u8 0, Value.int .u8 0, Value.int .u8 0, Value.int .u8 0, Value.int .u8 0, Value.int .u8 0, Value.int .u8 0, Value.int .u8 0, Value.int .u8 0, Value.int .u8 0, Value.int .u8 0, Value.int .u8 0, Value.int .u8 0, Value.int .u8 0, Value.int .u8 0, Value.int .u8 0, Value.int .u8 0, Value.int .u8 0, Value.int .u8 0, Value.int .u8 0, Value.int .u8 0, Value.int .u8 0, Value.int .u8 0, Value.int .u8 0, .bool false, .int .u32 0] (heap_new wy _) HIS2.out HOS2.out HES2.out ?_; rw [World.setRow_alloc_new]; refine Stop.mk ?_))
          refine Stop.go ?_
          have HX2 : Hid (OnS w (wy.alloc (.cells S2 31)) g gm (A2) (f.enc :: xs) [(wy.heap.size, S2, 31), (ge, EN, 45), (gs, PS, 43), (gf, FC, 37), (g1, S1, 31), (gl, FC, 37), (gk, KC, 22)]) := Lib.hid (HY.out.made S2 _)
          generalize wy.alloc (.cells S2 31) = wx at HX2 ⊢
          obtain ⟨g2, hg2⟩ : ∃ g, g = wy.heap.size := ⟨_, rfl⟩
          rw [← hg2] at HX2 ⊢
          clear hg2 HY
          have K1 : Hid (∀ w', Below wx.heap.size wx w' → (w'.cell? ⟨g2, 32, none⟩ = some (.bool true) ∧ w'.cell? ⟨g2, 33, none⟩ = some (.int .u32 (dn : Int))) ∧ w'.cell? ⟨g1, 33, none⟩ = some (.int .u32 (cw : Int)) ∧ w'.cell? ⟨gs, 1, none⟩ = some (.bool true) ∧ w'.cell? ⟨b, off + k * 220 + 153, none⟩ = some (.bool true)) := Lib.hid (fun w' hw => by
            have h2 : HasB w' g2 S2 31 := HasB.below (HX2.out.at (by simp)) hw (HasB.lt (HX2.out.at (k := g2) (C := S2) (T := 31) (by simp)))
            have h1 : HasB w' g1 S1 31 := HasB.below (HX2.out.at (by simp)) hw (HasB.lt (HX2.out.at (k := g1) (C := S1) (T := 31) (by simp)))
            have hs : HasB w' gs PS 43 := HasB.below (HX2.out.at (by simp)) hw (HasB.lt (HX2.out.at (k := gs) (C := PS) (T := 43) (by simp)))
            refine ⟨⟨?_, ?_⟩, ?_, ?_, HOkc.out w' (HX2.out.kn.be.trans (hw.mono HX2.out.kn.be.size))⟩
            · rw [h2.at, HS2.out, ← HHas2.out]; simp [RS.cells, u8s_len, HX2.out.kn.ok.s.kl]
            · rw [HS2.out] at h2; have := (RS.parts HX2.out.kn.ok.s h2).2; rw [HCt2.out] at this; exact this
            · rw [HS1.out] at h1; have := (RS.parts HSok.out h1).2; rw [← HCw.out] at this; exact this
            · rw [hs.at, HPS.out, ← HPw.out]; rfl)
          have K2 : Hid (∀ w', Below wx.heap.size wx w' → w'.rangeAt g2 0 KL) := Lib.hid (fun w' hw => by
            have h2 : HasB w' g2 S2 31 := HasB.below (HX2.out.at (by simp)) hw (HasB.lt (HX2.out.at (k := g2) (C := S2) (T := 31) (by simp)))
            rw [HS2.out] at h2; have := (RS.parts HX2.out.kn.ok.s h2).1; rw [HKey2.out, ← HKL.out] at this; exact this)
          have K3 : Hid (∀ w', Below wx.heap.size wx w' → w'.heap[gk]? = some (.cells KC 22 (0, 0))) := Lib.hid (fun w' hw => HasB.below (HX2.out.at (k := gk) (by simp)) hw (HasB.lt (HX2.out.at (k := gk) (C := KC) (T := 22) (by simp))))
          have hek := HEk.out
          go_wp2_with fail
          refine wp_region_held_drew (S := (fun w' => Below wx.heap.size wx w')) (by kernel_rfl) ((Below.refl _ _).drew) (fun hHeld => ?_)
          refine held_take 0 (v := ?_) rfl (by kernel_rfl) (by kernel_rfl) (by kernel_rfl) (fun _ _ _ h => h) (by rfl) (fun w hS => ?_) (by assumption) ?_
          rotate_left
          · try dsimp only at hS
            have l1 := K1.out w hS
            go_simp <;> with_reducible rfl
          try simp only [Act.put, List.setIfInBounds_toArray, List.set_cons_zero, List.set_cons_succ]
          refine held_take 1 (v := (.agg KC)) rfl (by kernel_rfl) (by kernel_rfl) (by kernel_rfl) (fun _ _ _ h => h) (by rfl) (fun w hS => ?_) (by assumption) ?_
          · (rw [HKCL.out]; exact yield_load_mid _ _ 22 (.tmp 102) (by rfl) g2 0 (by rfl) KL _ (K2.out w hS) Try.underlying22 (by rfl) HIkl.out)
          try simp only [Act.put, List.setIfInBounds_toArray, List.set_cons_zero, List.set_cons_succ]
          refine held_take 2 (v := (.agg KC)) rfl (by kernel_rfl) (by kernel_rfl) (by kernel_rfl) (fun _ _ _ h => h) (by rfl) (fun w hS => ?_) (by assumption) ?_
          · exact yield_row _ _ 22 (.tmp 3) (by rfl) gk (by rfl) 22 KC (0, 0) _ (K3.out w hS) Try.underlying22 (by rfl) HIk.out
          try simp only [Act.put, List.setIfInBounds_toArray, List.set_cons_zero, List.set_cons_succ]
          refine held_take 3 (v := ?_) rfl (by kernel_rfl) (by kernel_rfl) (by kernel_rfl) (fun _ _ _ h => h) (by rfl) (fun w hS => ?_) (by assumption) ?_
          rotate_left
          · try dsimp only at hS
            have l1 := K1.out w hS
            go_simp <;> with_reducible rfl
          try simp only [Act.put, List.setIfInBounds_toArray, List.set_cons_zero, List.set_cons_succ]
          refine held_take 4 (v := ?_) rfl (by kernel_rfl) (by kernel_rfl) (by kernel_rfl) (fun _ _ _ h => h) (by rfl) (fun w hS => ?_) (by assumption) ?_
          rotate_left
          · try dsimp only at hS
            have l1 := K1.out w hS
            go_simp <;> with_reducible rfl
          try simp only [Act.put, List.setIfInBounds_toArray, List.set_cons_zero, List.set_cons_succ]
          refine held_take 5 (v := ?_) rfl (by kernel_rfl) (by kernel_rfl) (by kernel_rfl) (fun _ _ _ h => h) (by rfl) (fun w hS => ?_) (by assumption) ?_
          rotate_left
          · try dsimp only at hS
            have l1 := K1.out w hS
            go_simp <;> with_reducible rfl
          try simp only [Act.put, List.setIfInBounds_toArray, List.set_cons_zero, List.set_cons_succ]
          refine held_take 6 (v := ?_) rfl (by kernel_rfl) (by kernel_rfl) (by kernel_rfl) (fun _ _ _ h => h) (by rfl) (fun w hS => ?_) (by assumption) ?_
          rotate_left
          · try dsimp only at hS
            have l1 := K1.out w hS
            go_simp <;> with_reducible rfl
          try simp only [Act.put, List.setIfInBounds_toArray, List.set_cons_zero, List.set_cons_succ]
          refine held_take 7 (v := ?_) rfl (by kernel_rfl) (by kernel_rfl) (by kernel_rfl) (fun _ _ _ h => h) (by rfl) (fun w hS => ?_) (by assumption) ?_
          rotate_left
          · try dsimp only at hS
            have l1 := K1.out w hS
            go_simp <;> with_reducible rfl
          try simp only [Act.put, List.setIfInBounds_toArray, List.set_cons_zero, List.set_cons_succ]
          refine held_take 8 (v := ?_) rfl (by kernel_rfl) (by kernel_rfl) (by kernel_rfl) (fun _ _ _ h => h) (by rfl) (fun w hS => ?_) (by assumption) ?_
          rotate_left
          · try dsimp only at hS
            have l1 := K1.out w hS
            go_simp <;> with_reducible rfl
          try simp only [Act.put, List.setIfInBounds_toArray, List.set_cons_zero, List.set_cons_succ]
          refine held_take 9 (v := ?_) rfl (by kernel_rfl) (by kernel_rfl) (by kernel_rfl) (fun _ _ _ h => h) (by rfl) (fun w hS => ?_) (by assumption) ?_
          rotate_left
          · try dsimp only at hS
            have l1 := K1.out w hS
            go_simp <;> with_reducible rfl
          try simp only [Act.put, List.setIfInBounds_toArray, List.set_cons_zero, List.set_cons_succ]
          refine held_take 10 (v := ?_) rfl (by kernel_rfl) (by kernel_rfl) (by kernel_rfl) (fun _ _ _ h => h) (by rfl) (fun w hS => ?_) (by assumption) ?_
          rotate_left
          · try dsimp only at hS
            have l1 := K1.out w hS
            go_simp <;> with_reducible rfl
          try simp only [Act.put, List.setIfInBounds_toArray, List.set_cons_zero, List.set_cons_succ]
          refine held_take 11 (v := ?_) rfl (by kernel_rfl) (by kernel_rfl) (by kernel_rfl) (fun _ _ _ h => h) (by rfl) (fun w hS => ?_) (by assumption) ?_
          rotate_left
          · try dsimp only at hS
            have l1 := K1.out w hS
            go_simp <;> with_reducible rfl
          try simp only [Act.put, List.setIfInBounds_toArray, List.set_cons_zero, List.set_cons_succ]
          refine held_take 12 (v := ?_) rfl (by kernel_rfl) (by kernel_rfl) (by kernel_rfl) (fun _ _ _ h => h) (by rfl) (fun w hS => ?_) (by assumption) ?_
          rotate_left
          · try dsimp only at hS
            have l1 := K1.out w hS
            go_simp <;> with_reducible rfl
          try simp only [Act.put, List.setIfInBounds_toArray, List.set_cons_zero, List.set_cons_succ]
          refine held_take 13 (v := ?_) rfl (by kernel_rfl) (by kernel_rfl) (by kernel_rfl) (fun _ _ _ h => h) (by rfl) (fun w hS => ?_) (by assumption) ?_
          rotate_left
          · try dsimp only at hS
            have l1 := K1.out w hS
            go_simp <;> with_reducible rfl
          try simp only [Act.put, List.setIfInBounds_toArray, List.set_cons_zero, List.set_cons_succ]
          refine held_take 14 (v := ?_) rfl (by kernel_rfl) (by kernel_rfl) (by kernel_rfl) (fun _ _ _ h => h) (by rfl) (fun w hS => ?_) (by assumption) ?_
          rotate_left
          · try dsimp only at hS
            have l1 := K1.out w hS
            go_simp <;> with_reducible rfl
          try simp only [Act.put, List.setIfInBounds_toArray, List.set_cons_zero, List.set_cons_succ]
          refine held_take 15 (v := ?_) rfl (by kernel_rfl) (by kernel_rfl) (by kernel_rfl) (fun _ _ _ h => h) (by rfl) (fun w hS => ?_) (by assumption) ?_
          rotate_left
          · try dsimp only at hS
            have l1 := K1.out w hS
            go_simp <;> with_reducible rfl
          try simp only [Act.put, List.setIfInBounds_toArray, List.set_cons_zero, List.set_cons_succ]
          refine held_take 16 (v := ?_) rfl (by kernel_rfl) (by kernel_rfl) (by kernel_rfl) (fun _ _ _ h => h) (by rfl) (fun w hS => ?_) (by assumption) ?_
          rotate_left
          · try dsimp only at hS
            have l1 := K1.out w hS
            go_simp <;> with_reducible rfl
          try simp only [Act.put, List.setIfInBounds_toArray, List.set_cons_zero, List.set_cons_succ]
          refine held_take 17 (v := ?_) rfl (by kernel_rfl) (by kernel_rfl) (by kernel_rfl) (fun _ _ _ h => h) (by rfl) (fun w hS => ?_) (by assumption) ?_
          rotate_left
          · try dsimp only at hS
            have l1 := K1.out w hS
            go_simp <;> with_reducible rfl
          try simp only [Act.put, List.setIfInBounds_toArray, List.set_cons_zero, List.set_cons_succ]
          refine held_take 18 (v := ?_) rfl (by kernel_rfl) (by kernel_rfl) (by kernel_rfl) (fun _ _ _ h => h) (by rfl) (fun w hS => ?_) (by assumption) ?_
          rotate_left
          · try dsimp only at hS
            have l1 := K1.out w hS
            go_simp <;> with_reducible rfl
          try simp only [Act.put, List.setIfInBounds_toArray, List.set_cons_zero, List.set_cons_succ]
          refine held_take 19 (v := ?_) rfl (by kernel_rfl) (by kernel_rfl) (by kernel_rfl) (fun _ _ _ h => h) (by rfl) (fun w hS => ?_) (by assumption) ?_
          rotate_left
          · try dsimp only at hS
            have l1 := K1.out w hS
            go_simp <;> with_reducible rfl
          try simp only [Act.put, List.setIfInBounds_toArray, List.set_cons_zero, List.set_cons_succ]
          refine held_take 20 (v := ?_) rfl (by kernel_rfl) (by kernel_rfl) (by kernel_rfl) (fun _ _ _ h => h) (by rfl) (fun w hS => ?_) (by assumption) ?_
          rotate_left
          · try dsimp only at hS
            have l1 := K1.out w hS
            go_simp <;> with_reducible rfl
          try simp only [Act.put, List.setIfInBounds_toArray, List.set_cons_zero, List.set_cons_succ]
          refine held_take 21 (v := ?_) rfl (by kernel_rfl) (by kernel_rfl) (by kernel_rfl) (fun _ _ _ h => h) (by rfl) (fun w hS => ?_) (by assumption) ?_
          rotate_left
          · try dsimp only at hS
            have l1 := K1.out w hS
            go_simp <;> with_reducible rfl
          try simp only [Act.put, List.setIfInBounds_toArray, List.set_cons_zero, List.set_cons_succ]
          refine held_take 22 (v := ?_) rfl (by kernel_rfl) (by kernel_rfl) (by kernel_rfl) (fun _ _ _ h => h) (by rfl) (fun w hS => ?_) (by assumption) ?_
          rotate_left
          · try dsimp only at hS
            have l1 := K1.out w hS
            go_simp <;> with_reducible rfl
          try simp only [Act.put, List.setIfInBounds_toArray, List.set_cons_zero, List.set_cons_succ]
          refine held_take 23 (v := ?_) rfl (by kernel_rfl) (by kernel_rfl) (by kernel_rfl) (fun _ _ _ h => h) (by rfl) (fun w hS => ?_) (by assumption) ?_
          rotate_left
          · try dsimp only at hS
            have l1 := K1.out w hS
            go_simp <;> with_reducible rfl
          try simp only [Act.put, List.setIfInBounds_toArray, List.set_cons_zero, List.set_cons_succ]
          refine held_take 24 (v := ?_) rfl (by kernel_rfl) (by kernel_rfl) (by kernel_rfl) (fun _ _ _ h => h) (by rfl) (fun w hS => ?_) (by assumption) ?_
          rotate_left
          · try dsimp only at hS
            have l1 := K1.out w hS
            go_simp <;> with_reducible rfl
          try simp only [Act.put, List.setIfInBounds_toArray, List.set_cons_zero, List.set_cons_succ]
          refine held_take 25 (v := ?_) rfl (by kernel_rfl) (by kernel_rfl) (by kernel_rfl) (fun _ _ _ h => h) (by rfl) (fun w hS => ?_) (by assumption) ?_
          rotate_left
          · try dsimp only at hS
            have l1 := K1.out w hS
            go_simp <;> with_reducible rfl
          try simp only [Act.put, List.setIfInBounds_toArray, List.set_cons_zero, List.set_cons_succ]
          refine held_take 26 (v := ?_) rfl (by kernel_rfl) (by kernel_rfl) (by kernel_rfl) (fun _ _ _ h => h) (by rfl) (fun w hS => ?_) (by assumption) ?_
          rotate_left
          · try dsimp only at hS
            have l1 := K1.out w hS
            go_simp <;> with_reducible rfl
          try simp only [Act.put, List.setIfInBounds_toArray, List.set_cons_zero, List.set_cons_succ]
          refine held_take 27 (v := ?_) rfl (by kernel_rfl) (by kernel_rfl) (by kernel_rfl) (fun _ _ _ h => h) (by rfl) (fun w hS => ?_) (by assumption) ?_
          rotate_left
          · try dsimp only at hS
            have l1 := K1.out w hS
            go_simp <;> with_reducible rfl
          try simp only [Act.put, List.setIfInBounds_toArray, List.set_cons_zero, List.set_cons_succ]
          refine held_take 28 (v := ?_) rfl (by kernel_rfl) (by kernel_rfl) (by kernel_rfl) (fun _ _ _ h => h) (by rfl) (fun w hS => ?_) (by assumption) ?_
          rotate_left
          · try dsimp only at hS
            have l1 := K1.out w hS
            go_simp <;> with_reducible rfl
          try simp only [Act.put, List.setIfInBounds_toArray, List.set_cons_zero, List.set_cons_succ]
          refine held_take 29 (v := ?_) rfl (by kernel_rfl) (by kernel_rfl) (by kernel_rfl) (fun _ _ _ h => h) (by rfl) (fun w hS => ?_) (by assumption) ?_
          rotate_left
          · try dsimp only at hS
            have l1 := K1.out w hS
            go_simp <;> with_reducible rfl
          try simp only [Act.put, List.setIfInBounds_toArray, List.set_cons_zero, List.set_cons_succ]
          refine held_take 30 (v := ?_) rfl (by kernel_rfl) (by kernel_rfl) (by kernel_rfl) (fun _ _ _ h => h) (by rfl) (fun w hS => ?_) (by assumption) ?_
          rotate_left
          · try dsimp only at hS
            have l1 := K1.out w hS
            go_simp <;> with_reducible rfl
          try simp only [Act.put, List.setIfInBounds_toArray, List.set_cons_zero, List.set_cons_succ]
          refine held_take 31 (v := ?_) rfl (by kernel_rfl) (by kernel_rfl) (by kernel_rfl) (fun _ _ _ h => h) (by rfl) (fun w hS => ?_) (by assumption) ?_
          rotate_left
          · try dsimp only at hS
            have l1 := K1.out w hS
            go_simp <;> with_reducible rfl
          try simp only [Act.put, List.setIfInBounds_toArray, List.set_cons_zero, List.set_cons_succ]
          refine held_take 32 (v := ?_) rfl (by kernel_rfl) (by kernel_rfl) (by kernel_rfl) (fun _ _ _ h => h) (by rfl) (fun w hS => ?_) (by assumption) ?_
          rotate_left
          · try dsimp only at hS
            have l1 := K1.out w hS
            go_simp <;> with_reducible rfl
          try simp only [Act.put, List.setIfInBounds_toArray, List.set_cons_zero, List.set_cons_succ]
          refine held_take 33 (v := ?_) rfl (by kernel_rfl) (by kernel_rfl) (by kernel_rfl) (fun _ _ _ h => h) (by rfl) (fun w hS => ?_) (by assumption) ?_
          rotate_left
          · try dsimp only at hS
            have l1 := K1.out w hS
            go_simp <;> with_reducible rfl
          try simp only [Act.put, List.setIfInBounds_toArray, List.set_cons_zero, List.set_cons_succ]
          refine held_take 34 (v := ?_) rfl (by kernel_rfl) (by kernel_rfl) (by kernel_rfl) (fun _ _ _ h => h) (by rfl) (fun w hS => ?_) (by assumption) ?_
          rotate_left
          · try dsimp only at hS
            have l1 := K1.out w hS
            go_simp <;> with_reducible rfl
          try simp only [Act.put, List.setIfInBounds_toArray, List.set_cons_zero, List.set_cons_succ]
          refine held_take 35 (v := ?_) rfl (by kernel_rfl) (by kernel_rfl) (by kernel_rfl) (fun _ _ _ h => h) (by rfl) (fun w hS => ?_) (by assumption) ?_
          rotate_left
          · try dsimp only at hS
            have l1 := K1.out w hS
            go_simp <;> with_reducible rfl
          try simp only [Act.put, List.setIfInBounds_toArray, List.set_cons_zero, List.set_cons_succ]
          refine held_take 36 (v := ?_) rfl (by kernel_rfl) (by kernel_rfl) (by kernel_rfl) (fun _ _ _ h => h) (by rfl) (fun w hS => ?_) (by assumption) ?_
          rotate_left
          · try dsimp only at hS
            have l1 := K1.out w hS
            go_simp <;> with_reducible rfl
          try simp only [Act.put, List.setIfInBounds_toArray, List.set_cons_zero, List.set_cons_succ]
          refine held_take 37 (v := ?_) rfl (by kernel_rfl) (by kernel_rfl) (by kernel_rfl) (fun _ _ _ h => h) (by rfl) (fun w hS => ?_) (by assumption) ?_
          rotate_left
          · try dsimp only at hS
            have l1 := K1.out w hS
            go_simp <;> with_reducible rfl
          try simp only [Act.put, List.setIfInBounds_toArray, List.set_cons_zero, List.set_cons_succ]
          refine held_take 38 (v := ?_) rfl (by kernel_rfl) (by kernel_rfl) (by kernel_rfl) (fun _ _ _ h => h) (by rfl) (fun w hS => ?_) (by assumption) ?_
          rotate_left
          · try dsimp only at hS
            have l1 := K1.out w hS
            go_simp <;> with_reducible rfl
          try simp only [Act.put, List.setIfInBounds_toArray, List.set_cons_zero, List.set_cons_succ]
          refine held_take 39 (v := ?_) rfl (by kernel_rfl) (by kernel_rfl) (by kernel_rfl) (fun _ _ _ h => h) (by rfl) (fun w hS => ?_) (by assumption) ?_
          rotate_left
          · try dsimp only at hS
            have l1 := K1.out w hS
            go_simp <;> with_reducible rfl
          try simp only [Act.put, List.setIfInBounds_toArray, List.set_cons_zero, List.set_cons_succ]
          refine held_take 40 (v := ?_) rfl (by kernel_rfl) (by kernel_rfl) (by kernel_rfl) (fun _ _ _ h => h) (by rfl) (fun w hS => ?_) (by assumption) ?_
          rotate_left
          · try dsimp only at hS
            have l1 := K1.out w hS
            go_simp <;> with_reducible rfl
          try simp only [Act.put, List.setIfInBounds_toArray, List.set_cons_zero, List.set_cons_succ]
          refine held_take 41 (v := ?_) rfl (by kernel_rfl) (by kernel_rfl) (by kernel_rfl) (fun _ _ _ h => h) (by rfl) (fun w hS => ?_) (by assumption) ?_
          rotate_left
          · try dsimp only at hS
            have l1 := K1.out w hS
            go_simp <;> with_reducible rfl
          try simp only [Act.put, List.setIfInBounds_toArray, List.set_cons_zero, List.set_cons_succ]
          refine held_take 42 (v := ?_) rfl (by kernel_rfl) (by kernel_rfl) (by kernel_rfl) (fun _ _ _ h => h) (by rfl) (fun w hS => ?_) (by assumption) ?_
          rotate_left
          · try dsimp only at hS
            have l1 := K1.out w hS
            go_simp <;> with_reducible rfl
          try simp only [Act.put, List.setIfInBounds_toArray, List.set_cons_zero, List.set_cons_succ]
          refine held_take 43 (v := ?_) rfl (by kernel_rfl) (by kernel_rfl) (by kernel_rfl) (fun _ _ _ h => h) (by rfl) (fun w hS => ?_) (by assumption) ?_
          rotate_left
          · try dsimp only at hS
            have l1 := K1.out w hS
            go_simp <;> with_reducible rfl
          try simp only [Act.put, List.setIfInBounds_toArray, List.set_cons_zero, List.set_cons_succ]
          refine held_take 44 (v := ?_) rfl (by kernel_rfl) (by kernel_rfl) (by kernel_rfl) (fun _ _ _ h => h) (by rfl) (fun w hS => ?_) (by assumption) ?_
          rotate_left
          · try dsimp only at hS
            have l1 := K1.out w hS
            go_simp <;> with_reducible rfl
          try simp only [Act.put, List.setIfInBounds_toArray, List.set_cons_zero, List.set_cons_succ]
          refine held_take 45 (v := ?_) rfl (by kernel_rfl) (by kernel_rfl) (by kernel_rfl) (fun _ _ _ h => h) (by rfl) (fun w hS => ?_) (by assumption) ?_
          rotate_left
          · try dsimp only at hS
            have l1 := K1.out w hS
            go_simp <;> with_reducible rfl
          try simp only [Act.put, List.setIfInBounds_toArray, List.set_cons_zero, List.set_cons_succ]
          refine held_take 46 (v := ?_) rfl (by kernel_rfl) (by kernel_rfl) (by kernel_rfl) (fun _ _ _ h => h) (by rfl) (fun w hS => ?_) (by assumption) ?_
          rotate_left
          · try dsimp only at hS
            have l1 := K1.out w hS
            go_simp <;> with_reducible rfl
          try simp only [Act.put, List.setIfInBounds_toArray, List.set_cons_zero, List.set_cons_succ]
          refine held_take 47 (v := ?_) rfl (by kernel_rfl) (by kernel_rfl) (by kernel_rfl) (fun _ _ _ h => h) (by rfl) (fun w hS => ?_) (by assumption) ?_
          rotate_left
          · try dsimp only at hS
            have l1 := K1.out w hS
            go_simp <;> with_reducible rfl
          try simp only [Act.put, List.setIfInBounds_toArray, List.set_cons_zero, List.set_cons_succ]
          refine held_done (by kernel_rfl) ?_
          have HN : Hid (OnS w wx.drew g gm A2 (f.enc :: xs) [(gl, f.cells.toArray, 37), (gk, KC, 22)]) := Lib.hid (by rw [← HFC.out]; exact (HX2.out.below (Below.refl _ _).drew).sub (subl _ _ _ _ _ _ _))
          clear K1 K2 K3 HX2 hek
          go_wp2_with fail
          go_roundw
          case rel => exact ⟨k + 1, by omega, by go_num, Lib.hid ⟨A2, f, f.enc :: xs, HN.out, HFo.out, HKey2.out, HHas2.out, HTk2.out⟩⟩
          case measure => simp [intOf]; omega
    · obtain rfl : k = n := by omega
      obtain ⟨A, last, xs, hOn, _⟩ := HI.out
      have hbe := hOn.kn.be
      have HBf := Lib.hid hbe
      clear HI hOn hbe
      go_wp2_with fail
      rw [HPOST.out]
      exact ⟨rfl, HBf.out⟩
end Go.Proofs.Ytkdjimcpdbpemaa
