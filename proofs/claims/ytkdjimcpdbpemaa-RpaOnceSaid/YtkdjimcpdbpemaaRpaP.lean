/- rpa: RpaSpent: the walk. -/
import Derived.Test.YtkdjimcpdbpemaaRpaO
namespace Go.Proofs.Ytkdjimcpdbpemaa
open Go Go.RowKit
set_option linter.unusedVariables false

theorem built_sa (s : RS) (hs : s.Ok) : Try.prog.built 31 [(0, .agg (u8s s.key).toArray), (1, .bool s.has), (2, .int .u32 (s.ctr : Int))] = some s.cells.toArray := by
  rw [built_state, fill_step _ RS.zero.cells 0 _ _ 0 32 (u8s s.key) rfl rfl (by rw [u8s_len, hs.kl]) (by show 0 + 32 ≤ 34; decide)]
  have e0 : RS.zero.cells = [] ++ (u8s (List.replicate 32 0) ++ [.bool false, .int .u32 0]) := rfl
  rw [e0, splice_mid ([] : List Value) (u8s (List.replicate 32 0)) [.bool false, .int .u32 0] (u8s s.key) (o := 0) rfl (by rw [u8s_len, u8s_len, hs.kl]; rfl)]
  have l0 : ∀ (x y : Value), (u8s s.key ++ [x, y]).length = 34 := fun x y => by simp [u8s_len, hs.kl]
  have s1 : ∀ (x y v : Value), (u8s s.key ++ [x, y]).set 32 v = u8s s.key ++ [v, y] := fun x y v => by
    rw [List.set_append_right _ _ (by rw [u8s_len, hs.kl]; decide), u8s_len, hs.kl]; rfl
  have s2 : ∀ (x y v : Value), (u8s s.key ++ [x, y]).set 33 v = u8s s.key ++ [x, v] := fun x y v => by
    rw [List.set_append_right _ _ (by rw [u8s_len, hs.kl]; decide), u8s_len, hs.kl]; rfl
  rw [List.nil_append, fill_step _ _ 1 _ _ 32 1 [.bool s.has] rfl rfl rfl (by rw [l0]; decide), splice_one _ _ _ (by rw [l0]; decide), s1]
  rw [fill_step _ _ 2 _ _ 33 1 [.int .u32 (s.ctr : Int)] rfl rfl rfl (by rw [l0]; decide), splice_one _ _ _ (by rw [l0]; decide), s2]
  rfl
theorem RF.sign_sign (f : RF) (h : f.tag.length = 32) (k : List Nat) : (f.sign k).sign k = f.sign k := by
  show ({ f with tag := (f.sign k).tagBy k } : RF) = { f with tag := f.tagBy k }
  rw [RF.tagBy_sign f h k]
theorem field_ctr (SC : Array Value) (c : Value) (h : SC[33]? = some c) (w : World) : (Instr.field 31 (.agg SC) 2).run Try.prog w = .ok c w := by
  simp [Instr.field, run_underlying Try.underlying31, asAgg, part, isAgg, run_underlying Try.underlying23, h]
theorem results_cell_tmp {P : Program} {fn : Func} {p q : Tmp} {ty : TypeId} (h : fn.results = #[.cell p ty, .tmp q]) (tmps : Array Value) (w : World) (g : Nat) (t : TypeId) (cs : Array Value) (fr : Nat × Nat) (d : TypeDesc)
    (hp : tmps.getD p undef = .pointer (some ⟨g, 0, none⟩)) (hg : w.heap[g]? = some (.cells cs t fr))
    (hu : P.underlying ty = some d) (hd : (match d with | .struct _ | .array _ _ => true | _ => false) = true) (hi : (P.info? ty).map (·.size) = some cs.size) (v : Value) (hq : tmps.getD q undef = v) :
    (results fn tmps).run P w = .ok (.tuple #[.agg cs, v]) w := by
  have hp' : tmps[p]?.getD undef = .pointer (some ⟨g, 0, none⟩) := by simpa using hp
  have hq' : tmps[q]?.getD undef = v := by simpa using hq
  simp [results, h, hp', hq', asAddr, run_loadVar_row w g t ty cs fr d hg hu hd hi]
def zD64 : Array Value := (u8s (List.replicate 64 0)).toArray
theorem answer_zero (x : Int) (w : World) : Calls Try.prog 22 #[.int .i64 x] w fun e w' => e = .returned (.tuple #[.agg (u8s (List.replicate 64 0)).toArray, .bool true]) ∧ Below w.heap.size w w' := by
  obtain ⟨POST, hPOST⟩ : ∃ Q : Ending → World → Prop, Q = fun e w' => e = .returned (.tuple #[.agg zD64, .bool true]) ∧ Below w.heap.size w w' := ⟨_, rfl⟩
  show Calls _ _ _ _ (fun e w' => e = .returned (.tuple #[.agg zD64, .bool true]) ∧ Below w.heap.size w w')
  rw [← hPOST]
  have HPOST := Lib.hid hPOST
  clear hPOST
  go_enter Try.func22, Try.ntmps22
  go_wp2_with (with_reducible refine stop_store 2 _ _ rfl ?_)
  refine Stop.go ?_
  refine wpList_store_row rfl 34 (.tmp 2) (.tmp 4) rfl w.heap.size zD64 rfl rfl 34 _ (heap_new w _) (by kernel_rfl) (by kernel_rfl) (by kernel_rfl) ?_
  rw [World.setRow_alloc_new]
  go_wp2_with fail
  rw [HPOST.out]
  exact bodyPost_ret (results_cell_tmp (p := 2) (q := 3) (by kernel_rfl) _ _ w.heap.size 34 zD64 (0, 0) _ rfl (heap_new w _) Try.underlying34 rfl (by kernel_rfl) _ rfl) rfl ⟨rfl, (Below.refl _ _).alloc (Nat.le_refl _) _⟩
/-- What a state at its end answers a write that is signed. -/
theorem spent_step {A : RA} {f : RF} {key : List Nat} (hs : A.s = ⟨key, true, 4294967295⟩) (hf : f.tag.length = 32) (ht : f.typ = 3) : A.askStep (f.sign key) = RP.zero ∧ (A.ask (f.sign key)).s = ⟨key, true, 4294967295⟩ ∧ (A.ask (f.sign key)).answer (List.replicate 64 0) true = ({ RF.zero with typ := 768, res := 5, addr := f.addr, ctr := 4294967295 } : RF).sign key := by
  have hr : A.refuse (f.sign key) = 5 := by
    unfold RA.refuse
    rw [hs]
    rw [if_neg (by simp), if_neg (fun q => q (RF.tagBy_sign f hf key).symm), if_pos rfl]
  have h3 : (f.sign key).typ = 3 := ht
  have hn : A.askNow (f.sign key) = .writing 5 f.addr := by
    unfold RA.askNow
    rw [h3, if_neg (by decide), if_pos rfl, hr]
    rfl
  refine ⟨?_, hs, ?_⟩
  · unfold RA.askStep
    rw [h3, if_neg (by decide), if_pos rfl, hr, if_neg (by decide)]
  · unfold RA.answer
    rw [show (A.ask (f.sign key)).now = .writing 5 f.addr from hn]
    unfold RA.signed
    rw [show (A.ask (f.sign key)).s = ⟨key, true, 4294967295⟩ from hs]
    rfl
theorem gb_row (w : World) (g : Nat) (C : Array Value) : w.grownBy (w.setRow g C) (some g) := ⟨rfl, rfl, rfl, by simp, fun i _ hn => setRow_other _ _ _ _ (fun e => hn (by rw [e]))⟩
set_option maxRecDepth 100000 in
set_option maxHeartbeats 4000000 in
theorem spent_any (key : List Nat) (hk : key.length = 32 ∧ ∀ c ∈ key, c < 256) (a : Option Addr) (n cap : Nat) (xs : List RFk) (w : World) (hl : Rws 117 (fun x : RFk => x.1.cells) w a n xs) :
    Calls Try.prog 5 #[.agg (u8s key).toArray, .slice a n cap] w fun e w' => e = .returned (.bool true) ∧ Below w.heap.size w w' := by
  obtain ⟨POST, hPOST⟩ : ∃ Q : Ending → World → Prop, Q = fun e w' => e = .returned (.bool true) ∧ Below w.heap.size w w' := ⟨_, rfl⟩
  rw [← hPOST]
  have HPOST := Lib.hid hPOST
  have HL := Lib.hid hl
  have HKy := Lib.hid hk
  have hso : (⟨key, true, 4294967295⟩ : RS).Ok := ⟨hk.1, hk.2, by show (4294967295 : Nat) < 4294967296; decide⟩
  have HSo := Lib.hid hso
  obtain ⟨KC, hKC⟩ : ∃ KC, KC = (u8s key).toArray := ⟨_, rfl⟩
  have HIk : Hid ((Try.prog.info? 22).map (·.size) = some KC.size) := Lib.hid (by rw [hKC, List.size_toArray, u8s_len, hk.1]; exact info_k32)
  obtain ⟨SC, hSC⟩ : ∃ N, N = (⟨key, true, 4294967295⟩ : RS).cells.toArray := ⟨_, rfl⟩
  have HISC : Hid ((Try.prog.info? 31).map (·.size) = some SC.size) := Lib.hid (by rw [hSC, List.size_toArray, RS.len hso]; exact info_st)
  have HOSC : Hid ((#[Value.int .u8 0, Value.int .u8 0, Value.int .u8 0, Value.int .u8 0, Value.int .u8 0, Value.int .u8 0, Value.int .u8 0, Value.int .u8 0, Value.int .u8 0, Value.int .u8 0, Value.int .u8 0, Value.int .u8 0, Value.int .u8 0, Value.int .u8 0, Value.int .u8 0, Value.int .u8 0, Value.int .u8 0, Value.int .u8 0, Value.int .u8 0, Value.int .u8 0, Value.int .u8 0, Value.int .u8 0, Value.int .u8 0, Value.int .u8 0, Value.int .u8 0, Value.int .u8 0, Value.int .u8 0, Value.int .u8 0, Value.int .u8 0, Value.int .u8 0, Value.int .u8 0, Value.int .u8 0, .bool false, .int .u32 0] : Array Value).size = SC.size) := Lib.hid (by rw [show SC.size = 34 by rw [hSC, List.size_toArray, RS.len hso]]; rfl)
  have HESC : Hid (SC.all (·.oneCell') = true) := Lib.hid (by rw [hSC]; exact RS.one _)
  have HSC := Lib.hid hSC
  have hbs := built_sa ⟨key, true, 4294967295⟩ hso
  have hnew := fun w => new_has 8 ⟨key, true, 4294967295⟩ w (by decide) hso rfl
  unfold RS.val at hnew
  rw [← hSC] at hbs hnew
  have hbs : Try.prog.built 31 [(0, .agg KC), (1, .bool true), (2, .int .u32 4294967295)] = some SC := by rw [hKC]; exact hbs
  have HBs := Lib.hid hbs
  have HNew := Lib.hid hnew
  have hfl : ∀ w, (Instr.field 31 (.agg SC) 2).run Try.prog w = .ok (.int .u32 4294967295) w := fun w => by
    exact field_ctr SC _ (by rw [hSC]; simp [RS.cells, u8s_len, hk.1]) w
  have HFl := Lib.hid hfl
  have HKC := Lib.hid hKC
  have hez := eqStep RP.zero RP.zero RP.zero_ok RP.zero_ok
  simp only [decide_true] at hez
  have HEz := Lib.hid hez
  rw [← hKC]
  clear hPOST hl hk hso hKC hSC hbs hnew hfl hez
  go_enter Try.func5, Try.ntmps5
  go_wp2_with fail
  have HK1 : Hid (HasB (w.alloc (.cells KC 22)) w.heap.size KC 22) := Lib.hid (HasB.new _ _ _)
  have HB1 : Hid (Below w.heap.size w (w.alloc (.cells KC 22))) := Lib.hid ((Below.refl _ _).alloc (Nat.le_refl _) _)
  generalize w.alloc (.cells KC 22) = w1 at HK1 HB1 ⊢
  obtain ⟨gk, hgk⟩ : ∃ gk, gk = w.heap.size := ⟨_, rfl⟩
  have HGk : Hid (w.heap.size ≤ gk) := Lib.hid (by omega)
  rw [← hgk] at HK1 ⊢
  clear hgk
  refine (known_any w1).mono ?_
  rintro e w2 ⟨rfl, hb⟩
  have HK2 : Hid (w2.heap[gk]? = some (.cells KC 22 (0, 0))) := Lib.hid (HK1.out.below hb HK1.out.lt)
  have HB2 : Hid (Below w.heap.size w w2) := Lib.hid (HB1.out.trans (hb.mono HB1.out.size))
  clear hb HK1 HB1
  by_cases h80 : 80 < n
  · have t80 : (80 : Int) < (n : Int) := by omega
    go_wp2_with fail
    rw [HPOST.out]
    exact ⟨rfl, HB2.out⟩
  have t80 : ¬ (80 : Int) < (n : Int) := by omega
  have hn80 : n ≤ 80 := by omega
  clear h80
  go_wp2_with (first | (with_reducible refine stop_build 31 _ rfl ?_) | (with_reducible refine wpList_load_row rfl 22 (.tmp 2) rfl gk rfl 22 KC (0, 0) _ HK2.out Try.underlying22 rfl HIk.out ?_))
  refine Stop.go ?_
  refine wpList_buildTo rfl 31 _ rfl _ rfl SC ?_ ?_
  · rw [List.map_toArray]; exact HBs.out
  go_wp2_with fail
  refine (HNew.out w2).mono ?_
  rintro e w3 ⟨g, rfl, hge, hA, hb⟩
  have H3 : Hid (KnS w w3 g (RA.new 8 ⟨key, true, 4294967295⟩) [(gk, KC, 22)]) := Lib.hid ⟨HB2.out.trans (hb.mono HB2.out.size), Nat.le_trans HB2.out.size hge, hA, RA.new_ok (by decide) HSo.out, fun b hb2 => by
    simp only [List.mem_singleton] at hb2
    subst hb2
    have hlt := lt_of_block HK2.out
    exact ⟨HasB.below HK2.out hb hlt, by show gk ≠ g; omega, HGk.out⟩⟩
  clear hb hA hge HK2 HB2
  go_wp2_with fail
  go_loopw [7] (fun i wr => ∃ k : Nat, k ≤ n ∧ i = .int .i64 (k : Int) ∧ Hid (∃ A, A.s = ⟨key, true, 4294967295⟩ ∧ KnS w wr g A [(gk, KC, 22)])) (fun i _ => n - (intOf i).toNat)
  case atStart => exact ⟨0, by omega, rfl, Lib.hid ⟨_, rfl, H3.out⟩⟩
  case round =>
    obtain ⟨k, hk, rfl, HI⟩ := hrel
    obtain ⟨wo, rfl⟩ : ∃ wo : World, wo = wr := ⟨_, rfl⟩
    by_cases hlt : k < n
    · obtain ⟨A, hAs, hKn⟩ := HI.out
      have H4 := Lib.hid hKn
      have HAs := Lib.hid hAs
      have hkl : k < xs.length := by rw [HL.out.1]; exact hlt
      obtain ⟨z, hz⟩ : ∃ z, xs[k]? = some z := ⟨_, List.getElem?_eq_getElem hkl⟩
      obtain ⟨b, off, rfl, hbl, _⟩ := HL.out.2 (by omega)
      have hrg := HL.out.range hKn.be hlt hz (RF.cells_len z.2)
      obtain ⟨f0, hf0⟩ := z
      have hr1 : wo.rangeAt b (off + k * 117) f0.cells := hrg
      clear hrg
      have hf3 : ({ f0 with typ := 3 } : RF).Ok := RF.with_typ hf0 (i64k (by decide))
      have hfs := RF.sign_ok hf3 key
      have hsp := spent_step (A := A) (f := { f0 with typ := 3 }) hAs hf3.tl rfl
      have hxo : ({ RF.zero with typ := 768, res := 5, addr := f0.addr, ctr := 4294967295 } : RF).Ok := RF.with_ctr (RF.with_addr (RF.with_res (RF.with_typ RF.zero_ok (x := 768) (i64k (by decide))) (x := 5) (i64k (by decide))) hf0.i1) (by decide)
      have hxs := RF.sign_ok hxo key
      have hsgn := rsign_any { f0 with typ := 3 } key
      have hask := fun g w h => ask_any A (RF.sign { f0 with typ := 3 } key) g w h hKn.ok hfs
      have hAk : (A.ask (RF.sign { f0 with typ := 3 } key)).Ok := RA.ask_ok hKn.ok hfs
      have hans := fun w h => answer_any (A.ask (RF.sign { f0 with typ := 3 } key)) (List.replicate 64 0) true 22 #[] g w h hAk ⟨rfl, by decide⟩ (fun args w => Try.call22 args w) (fun x w' _ => answer_zero x w')
      have hsg2 := rsign_any (({ RF.zero with typ := 768, res := 5, addr := f0.addr, ctr := 4294967295 } : RF).sign key) key
      have hste := fun w h => state_any (A.ask (RF.sign { f0 with typ := 3 } key)) g w h hAk
      have heq := eqFrame _ _ hxs hxs
      rw [RF.sign_sign _ hxo.tl] at hsg2
      rw [hsp.1] at hask
      rw [hsp.2.2] at hans
      rw [hsp.2.1] at hste
      simp only [decide_true] at heq
      unfold RF.val RP.val at hask
      unfold RF.val at hsgn hans hsg2
      unfold RS.val at hste
      rw [show RP.zero.cells.toArray = zP from rfl] at hask
      obtain ⟨C0, hC0⟩ : ∃ N, N = (f0 : RF).cells.toArray := ⟨_, rfl⟩
      have HIC0 : Hid ((Try.prog.info? 37).map (·.size) = some C0.size) := Lib.hid (by rw [hC0]; exact info_f hf0)
      have HOC0 : Hid (zF.size = C0.size) := Lib.hid (by rw [hC0]; exact old_f hf0)
      have HEC0 : Hid (C0.all (·.oneCell') = true) := Lib.hid (by rw [hC0]; exact RF.one _)
      have HC0 := Lib.hid hC0
      obtain ⟨C3, hC3⟩ : ∃ N, N = ({ f0 with typ := 3 } : RF).cells.toArray := ⟨_, rfl⟩
      have HIC3 : Hid ((Try.prog.info? 37).map (·.size) = some C3.size) := Lib.hid (by rw [hC3]; exact info_f hf3)
      have HOC3 : Hid (zF.size = C3.size) := Lib.hid (by rw [hC3]; exact old_f hf3)
      have HEC3 : Hid (C3.all (·.oneCell') = true) := Lib.hid (by rw [hC3]; exact RF.one _)
      have HC3 := Lib.hid hC3
      obtain ⟨CS, hCS⟩ : ∃ N, N = (RF.sign { f0 with typ := 3 } key : RF).cells.toArray := ⟨_, rfl⟩
      have HICS : Hid ((Try.prog.info? 37).map (·.size) = some CS.size) := Lib.hid (by rw [hCS]; exact info_f hfs)
      have HOCS : Hid (zF.size = CS.size) := Lib.hid (by rw [hCS]; exact old_f hfs)
      have HECS : Hid (CS.all (·.oneCell') = true) := Lib.hid (by rw [hCS]; exact RF.one _)
      have HCS := Lib.hid hCS
      obtain ⟨CX, hCX⟩ : ∃ N, N = (RF.sign { RF.zero with typ := 768, res := 5, addr := f0.addr, ctr := 4294967295 } key : RF).cells.toArray := ⟨_, rfl⟩
      have HICX : Hid ((Try.prog.info? 37).map (·.size) = some CX.size) := Lib.hid (by rw [hCX]; exact info_f hxs)
      have HOCX : Hid (zF.size = CX.size) := Lib.hid (by rw [hCX]; exact old_f hxs)
      have HECX : Hid (CX.all (·.oneCell') = true) := Lib.hid (by rw [hCX]; exact RF.one _)
      have HCX := Lib.hid hCX
      rw [← hC3, ← hCS] at hsgn
      rw [← hCS] at hask
      rw [← hCX] at hans hsg2 heq
      rw [← HKC.out] at hsgn hsg2
      rw [← HSC.out] at hste
      have HRg : Hid (wo.rangeAt b (off + k * 117) f0.cells) := Lib.hid hr1
      have HI0 : Hid ((Try.prog.info? 37).map (·.size) = some f0.cells.length) := Lib.hid (by rw [RF.cells_len hf0]; exact info_fr)
      have HAk := Lib.hid hAk
      have HSgn := Lib.hid (fun w => hsgn w hf3 HKy.out.1 HKy.out.2)
      have HAsk := Lib.hid (fun w h => hask g w h)
      have HAns := Lib.hid hans
      have HSg2 := Lib.hid (fun w => hsg2 w hxs HKy.out.1 HKy.out.2)
      have HSte := Lib.hid hste
      have HXo := Lib.hid hxs
      have HFo := Lib.hid hf0
      have hlk : (k : Int) < (n : Int) := by omega
      have hk0 : (0 : Int) ≤ (k : Int) := by omega
      have hkn : ((k : Int)).toNat = k := by omega
      have HAs2 : Hid ((A.ask (RF.sign { f0 with typ := 3 } key)).s = ⟨key, true, 4294967295⟩) := Lib.hid hsp.2.1
      clear HI hKn hAs hr1 hf3 hfs hsp hxo hxs hsgn hask hAk hans hsg2 hste hf0 hz hbl hC0 hC3 hCS hCX
      go_wp2_with (with_reducible refine stop_dst 37 rfl ?_)
      refine Stop.go ?_
      refine wpList_load_mid rfl 37 (.tmp 36) rfl b (off + k * 117) rfl f0.cells _ HRg.out Try.underlying37 rfl HI0.out ?_
      rw [← HC0.out]
      have HGf0 : Hid (gk < wo.heap.size) := Lib.hid (HasB.lt (H4.out.at (List.mem_cons_self)))
      go_wp2_with (first | (with_reducible refine wpList_store_row rfl 37 (.tmp 8) (.tmp 37) rfl wo.heap.size C0 rfl rfl 37 zF (heap_new wo _) HIC0.out HOC0.out HEC0.out ?_; rw [World.setRow_alloc_new]; refine Stop.mk ?_))
      refine Stop.go ?_
      have H5 : Hid (KnS w (wo.alloc (.cells C0 37)) g A [(wo.heap.size, C0, 37), (gk, KC, 22)]) := Lib.hid (H4.out.made C0 _)
      generalize wo.alloc (.cells C0 37) = w5 at H5 ⊢
      obtain ⟨gf, hgf⟩ : ∃ g, g = wo.heap.size := ⟨_, rfl⟩
      rw [← hgf] at H5 ⊢
      have HGf : Hid (gk ≠ gf) := Lib.hid (by have := HGf0.out; omega)
      clear hgf H4
      have hfl := HasB.lt (H5.out.at (List.mem_cons_self))
      have hff : w5.frozen? ⟨gf, 116, none⟩ = false := HasB.free (H5.out.at (List.mem_cons_self)) 116
      have hfc : w5.cell? ⟨gf, 116, none⟩ = some (.int .i64 f0.typ) := RF.tail_at HFo.out (by rw [← HC0.out]; exact H5.out.at (List.mem_cons_self)) 4 _ rfl
      have HNe : Hid (gk ≠ gf) := Lib.hid HGf.out
      clear HGf HGf0
      go_wp2_with (with_reducible refine stop_dst 39 rfl ?_)
      refine Stop.go ?_
      have H6 : Hid (KnS w (w5.setCell ⟨gf, 116, none⟩ (.int .i64 3)) g A [(gf, C3, 37), (gk, KC, 22)]) := Lib.hid (H5.out.put (by intro x hx; simp only [List.mem_singleton] at hx; subst hx; exact HNe.out) (by rw [HC3.out]; have := H5.out.at (List.mem_cons_self); rw [HC0.out] at this; exact RF.putTyp HFo.out this 3) (gb_set (gb_refl _ _) _ _))
      generalize w5.setCell ⟨gf, 116, none⟩ (.int .i64 3) = w6 at H6 ⊢
      clear hfl hff hfc H5
      have HQ6 : Hid (w6.heap[gf]? = some (.cells C3 37 (0, 0))) := Lib.hid (H6.out.at (by simp))
      have HQk6 : Hid (w6.heap[gk]? = some (.cells KC 22 (0, 0))) := Lib.hid (H6.out.at (by simp))
      refine wpList_load_row rfl 37 (.tmp 8) rfl gf rfl 37 C3 (0, 0) _ HQ6.out Try.underlying37 rfl HIC3.out ?_
      go_wp2_with (with_reducible refine wpList_load_row rfl 22 (.tmp 2) rfl gk rfl 22 KC (0, 0) _ HQk6.out Try.underlying22 rfl HIk.out ?_)
      refine (HSgn.out w6).mono ?_
      rintro e w7 ⟨rfl, hb7⟩
      have H7 := Lib.hid (H6.out.below hb7)
      clear hb7 HQ6 HQk6 H6
      have HQ7 : Hid (w7.heap[gf]? = some (.cells C3 37 (0, 0))) := Lib.hid (H7.out.at (by simp))
      have HO7 : Hid (C3.size = CS.size) := Lib.hid (by rw [← HOC3.out, ← HOCS.out])
      go_wp2_with (with_reducible refine wpList_store_row rfl 37 (.tmp 8) (.tmp 41) rfl gf CS rfl rfl 37 C3 HQ7.out HICS.out HO7.out HECS.out ?_; refine Stop.mk ?_)
      refine Stop.go ?_
      have H8 : Hid (KnS w (w7.setRow gf CS) g A [(gf, CS, 37), (gk, KC, 22)]) := Lib.hid (H7.out.put (by intro x hx; simp only [List.mem_singleton] at hx; subst hx; exact HNe.out) (setRow_heap _ _ _ CS 37 (0, 0) HQ7.out) (gb_row _ _ _))
      generalize w7.setRow gf CS = w8 at H8 ⊢
      clear HQ7 HO7 H7
      have HQ8 : Hid (w8.heap[gf]? = some (.cells CS 37 (0, 0))) := Lib.hid (H8.out.at (by simp))
      go_wp2_with (with_reducible refine wpList_load_row rfl 37 (.tmp 8) rfl gf rfl 37 CS (0, 0) _ HQ8.out Try.underlying37 rfl HICS.out ?_)
      refine (HAsk.out w8 H8.out.area).mono ?_
      rintro e w9 ⟨rfl, hA9, hg9⟩
      have H9 : Hid (KnS w w9 g (A.ask (RF.sign { f0 with typ := 3 } key)) [(gf, CS, 37), (gk, KC, 22)]) := Lib.hid (H8.out.call hA9 HAk.out hg9)
      clear hA9 hg9 HQ8 H8
      have HIzP : Hid ((Try.prog.info? 43).map (·.size) = some zP.size) := Lib.hid info_sp
      have HEzP : Hid (zP.all (·.oneCell') = true) := Lib.hid zP_one
      go_wp2_with (first | (with_reducible refine wpList_store_row rfl 43 (.tmp 9) (.tmp 44) rfl w9.heap.size zP rfl rfl 43 zP (heap_new w9 _) HIzP.out rfl HEzP.out ?_; rw [World.setRow_alloc_new]; refine Stop.mk ?_))
      refine Stop.go ?_
      have Ha : Hid (KnS w (w9.alloc (.cells zP 43)) g (A.ask (RF.sign { f0 with typ := 3 } key)) [(w9.heap.size, zP, 43), (gf, CS, 37), (gk, KC, 22)]) := Lib.hid (H9.out.made zP _)
      generalize w9.alloc (.cells zP 43) = wa at Ha ⊢
      obtain ⟨gs, hgs⟩ : ∃ g, g = w9.heap.size := ⟨_, rfl⟩
      rw [← hgs] at Ha ⊢
      clear hgs H9
      go_wp2_with fail
      refine (HAns.out wa Ha.out.area).mono ?_
      rintro e wb ⟨rfl, hbb⟩
      have Hb := Lib.hid (Ha.out.below hbb)
      clear hbb Ha
      go_wp2_with (first | (with_reducible refine wpList_store_row rfl 37 (.tmp 10) (.tmp 46) rfl wb.heap.size CX rfl rfl 37 zF (heap_new wb _) HICX.out HOCX.out HECX.out ?_; rw [World.setRow_alloc_new]; refine Stop.mk ?_))
      refine Stop.go ?_
      have Hc : Hid (KnS w (wb.alloc (.cells CX 37)) g (A.ask (RF.sign { f0 with typ := 3 } key)) [(wb.heap.size, CX, 37), (gs, zP, 43), (gf, CS, 37), (gk, KC, 22)]) := Lib.hid (Hb.out.made CX _)
      generalize wb.alloc (.cells CX 37) = wc at Hc ⊢
      obtain ⟨gx, hgx⟩ : ∃ g, g = wb.heap.size := ⟨_, rfl⟩
      rw [← hgx] at Hc ⊢
      clear hgx Hb
      have K1 : Hid (∀ w', Below wc.heap.size wc w' → w'.cell? ⟨gx, 115, none⟩ = some (.int .i64 5) ∧ w'.cell? ⟨gx, 112, none⟩ = some (.int .u32 4294967295)) := Lib.hid (fun w' hw => by
        have hx : HasB w' gx CX 37 := HasB.below (Hc.out.at List.mem_cons_self) hw (HasB.lt (Hc.out.at List.mem_cons_self))
        rw [HCX.out] at hx
        exact ⟨RF.tail_at HXo.out hx 3 _ rfl, RF.tail_at HXo.out hx 0 _ rfl⟩)
      have K2 : Hid (∀ w', Below wc.heap.size wc w' → w'.heap[gs]? = some (.cells zP 43 (0, 0))) := Lib.hid (fun w' hw => HasB.below (Hc.out.at (k := gs) (by simp)) hw (HasB.lt (Hc.out.at (k := gs) (C := zP) (T := 43) (by simp))))
      have K3 : Hid (∀ w', Below wc.heap.size wc w' → w'.heap[gx]? = some (.cells CX 37 (0, 0))) := Lib.hid (fun w' hw => HasB.below (Hc.out.at List.mem_cons_self) hw (HasB.lt (Hc.out.at List.mem_cons_self)))
      have K4 : Hid (∀ w', Below wc.heap.size wc w' → w'.heap[gk]? = some (.cells KC 22 (0, 0))) := Lib.hid (fun w' hw => HasB.below (Hc.out.at (k := gk) (by simp)) hw (HasB.lt (Hc.out.at (k := gk) (C := KC) (T := 22) (by simp))))
      have hfl := HFl.out
      have hez : ∀ w, (Op.equalIn 10000 43 (.agg zP) (.agg zP)).run Try.prog w = .ok true w := HEz.out
      go_wp2_with fail
      refine wp_region_held_drew (S := (fun w' => Below wc.heap.size wc w')) (by kernel_rfl) ((Below.refl _ _).drew) (fun hHeld => ?_)
      refine held_take 0 (v := (.agg zP)) rfl (by kernel_rfl) (by kernel_rfl) (by kernel_rfl) (fun _ _ _ h => h) (by rfl) (fun w hS => ?_) (by assumption) ?_
      · exact yield_row _ _ 43 (.tmp 9) (by rfl) gs (by rfl) 43 zP (0, 0) _ (K2.out w hS) Try.underlying43 (by rfl) HIzP.out
      try simp only [Act.put, List.setIfInBounds_toArray, List.set_cons_zero, List.set_cons_succ]
      refine held_take 1 (v := ?_) rfl (by kernel_rfl) (by kernel_rfl) (by kernel_rfl) (fun _ _ _ h => h) (by rfl) (fun w hS => ?_) (by assumption) ?_
      rotate_left
      · try dsimp only at hS
        have l1 := K1.out w hS
        go_simp <;> with_reducible rfl
      try simp only [Act.put, List.setIfInBounds_toArray, List.set_cons_zero, List.set_cons_succ]
      refine held_take 2 (v := ?_) rfl (by kernel_rfl) (by kernel_rfl) (by kernel_rfl) (fun _ _ _ h => h) (by rfl) (fun w hS => ?_) (by assumption) ?_
      rotate_left
      · try dsimp only at hS
        have l1 := K1.out w hS
        go_simp <;> with_reducible rfl
      try simp only [Act.put, List.setIfInBounds_toArray, List.set_cons_zero, List.set_cons_succ]
      refine held_take 3 (v := ?_) rfl (by kernel_rfl) (by kernel_rfl) (by kernel_rfl) (fun _ _ _ h => h) (by rfl) (fun w hS => ?_) (by assumption) ?_
      rotate_left
      · try dsimp only at hS
        have l1 := K1.out w hS
        go_simp <;> with_reducible rfl
      try simp only [Act.put, List.setIfInBounds_toArray, List.set_cons_zero, List.set_cons_succ]
      refine held_take 4 (v := ?_) rfl (by kernel_rfl) (by kernel_rfl) (by kernel_rfl) (fun _ _ _ h => h) (by rfl) (fun w hS => ?_) (by assumption) ?_
      rotate_left
      · try dsimp only at hS
        have l1 := K1.out w hS
        go_simp <;> with_reducible rfl
      try simp only [Act.put, List.setIfInBounds_toArray, List.set_cons_zero, List.set_cons_succ]
      refine held_take 5 (v := ?_) rfl (by kernel_rfl) (by kernel_rfl) (by kernel_rfl) (fun _ _ _ h => h) (by rfl) (fun w hS => ?_) (by assumption) ?_
      rotate_left
      · try dsimp only at hS
        have l1 := K1.out w hS
        go_simp <;> with_reducible rfl
      try simp only [Act.put, List.setIfInBounds_toArray, List.set_cons_zero, List.set_cons_succ]
      refine held_take 6 (v := ?_) rfl (by kernel_rfl) (by kernel_rfl) (by kernel_rfl) (fun _ _ _ h => h) (by rfl) (fun w hS => ?_) (by assumption) ?_
      rotate_left
      · try dsimp only at hS
        have l1 := K1.out w hS
        go_simp <;> with_reducible rfl
      try simp only [Act.put, List.setIfInBounds_toArray, List.set_cons_zero, List.set_cons_succ]
      refine held_take 7 (v := ?_) rfl (by kernel_rfl) (by kernel_rfl) (by kernel_rfl) (fun _ _ _ h => h) (by rfl) (fun w hS => ?_) (by assumption) ?_
      rotate_left
      · try dsimp only at hS
        have l1 := K1.out w hS
        go_simp <;> with_reducible rfl
      try simp only [Act.put, List.setIfInBounds_toArray, List.set_cons_zero, List.set_cons_succ]
      refine held_take 8 (v := ?_) rfl (by kernel_rfl) (by kernel_rfl) (by kernel_rfl) (fun _ _ _ h => h) (by rfl) (fun w hS => ?_) (by assumption) ?_
      rotate_left
      · try dsimp only at hS
        have l1 := K1.out w hS
        go_simp <;> with_reducible rfl
      try simp only [Act.put, List.setIfInBounds_toArray, List.set_cons_zero, List.set_cons_succ]
      refine held_take 9 (v := ?_) rfl (by kernel_rfl) (by kernel_rfl) (by kernel_rfl) (fun _ _ _ h => h) (by rfl) (fun w hS => ?_) (by assumption) ?_
      rotate_left
      · try dsimp only at hS
        have l1 := K1.out w hS
        go_simp <;> with_reducible rfl
      try simp only [Act.put, List.setIfInBounds_toArray, List.set_cons_zero, List.set_cons_succ]
      refine held_take 10 (v := ?_) rfl (by kernel_rfl) (by kernel_rfl) (by kernel_rfl) (fun _ _ _ h => h) (by rfl) (fun w hS => ?_) (by assumption) ?_
      rotate_left
      · try dsimp only at hS
        have l1 := K1.out w hS
        go_simp <;> with_reducible rfl
      try simp only [Act.put, List.setIfInBounds_toArray, List.set_cons_zero, List.set_cons_succ]
      refine held_take 11 (v := ?_) rfl (by kernel_rfl) (by kernel_rfl) (by kernel_rfl) (fun _ _ _ h => h) (by rfl) (fun w hS => ?_) (by assumption) ?_
      rotate_left
      · try dsimp only at hS
        have l1 := K1.out w hS
        go_simp <;> with_reducible rfl
      try simp only [Act.put, List.setIfInBounds_toArray, List.set_cons_zero, List.set_cons_succ]
      refine held_take 12 (v := ?_) rfl (by kernel_rfl) (by kernel_rfl) (by kernel_rfl) (fun _ _ _ h => h) (by rfl) (fun w hS => ?_) (by assumption) ?_
      rotate_left
      · try dsimp only at hS
        have l1 := K1.out w hS
        go_simp <;> with_reducible rfl
      try simp only [Act.put, List.setIfInBounds_toArray, List.set_cons_zero, List.set_cons_succ]
      refine held_take 13 (v := ?_) rfl (by kernel_rfl) (by kernel_rfl) (by kernel_rfl) (fun _ _ _ h => h) (by rfl) (fun w hS => ?_) (by assumption) ?_
      rotate_left
      · try dsimp only at hS
        have l1 := K1.out w hS
        go_simp <;> with_reducible rfl
      try simp only [Act.put, List.setIfInBounds_toArray, List.set_cons_zero, List.set_cons_succ]
      refine held_take 14 (v := ?_) rfl (by kernel_rfl) (by kernel_rfl) (by kernel_rfl) (fun _ _ _ h => h) (by rfl) (fun w hS => ?_) (by assumption) ?_
      rotate_left
      · try dsimp only at hS
        have l1 := K1.out w hS
        go_simp <;> with_reducible rfl
      try simp only [Act.put, List.setIfInBounds_toArray, List.set_cons_zero, List.set_cons_succ]
      refine held_one 15 rfl (by kernel_rfl) (fun K hK => ?_)
      go_simp
      refine (HSte.out _ (Hc.out.area.below (Below.refl _ _).drew)).mono ?_
      rintro e wd ⟨rfl, hbd⟩
      have HBd : Hid (Below wc.heap.size wc wd) := Lib.hid ((Below.refl _ _).drew.trans hbd)
      refine hK.out _ _ (fun w' => Below wc.heap.size wc w') (fun _ h => h) HBd.out (fun hHeld => ?_)
      clear hK K
      try simp only [Act.put, List.setIfInBounds_toArray, List.set_cons_zero, List.set_cons_succ]
      refine held_take 16 (v := ?_) rfl (by kernel_rfl) (by kernel_rfl) (by kernel_rfl) (fun _ _ _ h => h) (by rfl) (fun w hS => ?_) (by assumption) ?_
      rotate_left
      · try dsimp only at hS
        have l1 := K1.out w hS
        go_simp <;> with_reducible rfl
      try simp only [Act.put, List.setIfInBounds_toArray, List.set_cons_zero, List.set_cons_succ]
      refine held_take 17 (v := ?_) rfl (by kernel_rfl) (by kernel_rfl) (by kernel_rfl) (fun _ _ _ h => h) (by rfl) (fun w hS => ?_) (by assumption) ?_
      rotate_left
      · try dsimp only at hS
        have l1 := K1.out w hS
        go_simp <;> with_reducible rfl
      try simp only [Act.put, List.setIfInBounds_toArray, List.set_cons_zero, List.set_cons_succ]
      refine held_take 18 (v := ?_) rfl (by kernel_rfl) (by kernel_rfl) (by kernel_rfl) (fun _ _ _ h => h) (by rfl) (fun w hS => ?_) (by assumption) ?_
      rotate_left
      · try dsimp only at hS
        have l1 := K1.out w hS
        go_simp <;> with_reducible rfl
      try simp only [Act.put, List.setIfInBounds_toArray, List.set_cons_zero, List.set_cons_succ]
      refine held_take 19 (v := ?_) rfl (by kernel_rfl) (by kernel_rfl) (by kernel_rfl) (fun _ _ _ h => h) (by rfl) (fun w hS => ?_) (by assumption) ?_
      rotate_left
      · try dsimp only at hS
        have l1 := K1.out w hS
        go_simp <;> with_reducible rfl
      try simp only [Act.put, List.setIfInBounds_toArray, List.set_cons_zero, List.set_cons_succ]
      refine held_take 20 (v := (.agg CX)) rfl (by kernel_rfl) (by kernel_rfl) (by kernel_rfl) (fun _ _ _ h => h) (by rfl) (fun w hS => ?_) (by assumption) ?_
      · exact yield_row _ _ 37 (.tmp 10) (by rfl) gx (by rfl) 37 CX (0, 0) _ (K3.out w hS) Try.underlying37 (by rfl) HICX.out
      try simp only [Act.put, List.setIfInBounds_toArray, List.set_cons_zero, List.set_cons_succ]
      refine held_take 21 (v := (.agg KC)) rfl (by kernel_rfl) (by kernel_rfl) (by kernel_rfl) (fun _ _ _ h => h) (by rfl) (fun w hS => ?_) (by assumption) ?_
      · exact yield_row _ _ 22 (.tmp 2) (by rfl) gk (by rfl) 22 KC (0, 0) _ (K4.out w hS) Try.underlying22 (by rfl) HIk.out
      try simp only [Act.put, List.setIfInBounds_toArray, List.set_cons_zero, List.set_cons_succ]
      refine held_take 23 (v := (.agg CX)) rfl (by kernel_rfl) (by kernel_rfl) (by kernel_rfl) (fun _ _ _ h => h) (by rfl) (fun w hS => ?_) (by assumption) ?_
      · exact yield_row _ _ 37 (.tmp 10) (by rfl) gx (by rfl) 37 CX (0, 0) _ (K3.out w hS) Try.underlying37 (by rfl) HICX.out
      try simp only [Act.put, List.setIfInBounds_toArray, List.set_cons_zero, List.set_cons_succ]
      refine held_one 22 rfl (by kernel_rfl) (fun K hK => ?_)
      go_simp
      refine (HSg2.out _).mono ?_
      rintro e we ⟨rfl, hbe⟩
      have HBe : Hid (Below wc.heap.size wc we) := Lib.hid (HBd.out.trans (hbe.mono HBd.out.size))
      refine hK.out _ _ (fun w' => Below wc.heap.size wc w') (fun _ h => h) HBe.out (fun hHeld => ?_)
      clear hK K
      try simp only [Act.put, List.setIfInBounds_toArray, List.set_cons_zero, List.set_cons_succ]
      refine held_take 24 (v := ?_) rfl (by kernel_rfl) (by kernel_rfl) (by kernel_rfl) (fun _ _ _ h => h) (by rfl) (fun w hS => ?_) (by assumption) ?_
      rotate_left
      · try dsimp only at hS
        have l1 := K1.out w hS
        go_simp <;> with_reducible rfl
      try simp only [Act.put, List.setIfInBounds_toArray, List.set_cons_zero, List.set_cons_succ]
      refine held_take 25 (v := ?_) rfl (by kernel_rfl) (by kernel_rfl) (by kernel_rfl) (fun _ _ _ h => h) (by rfl) (fun w hS => ?_) (by assumption) ?_
      rotate_left
      · try dsimp only at hS
        have l1 := K1.out w hS
        go_simp <;> with_reducible rfl
      try simp only [Act.put, List.setIfInBounds_toArray, List.set_cons_zero, List.set_cons_succ]
      refine held_done (by kernel_rfl) ?_
      have HN : Hid (KnS w we g (A.ask (RF.sign { f0 with typ := 3 } key)) [(gk, KC, 22)]) := Lib.hid ⟨(Hc.out.below HBe.out).be, Hc.out.lg, (Hc.out.below HBe.out).area, Hc.out.ok, fun x hx => (Hc.out.below HBe.out).box x (by simp only [List.mem_singleton] at hx; subst hx; simp)⟩
      clear K1 K2 K3 K4 Hc HBe HBd
      go_wp2_with fail
      go_roundw
      case rel => exact ⟨k + 1, by omega, by go_num, Lib.hid ⟨_, HAs2.out, HN.out⟩⟩
      case measure => simp [intOf]; omega
    · obtain rfl : k = n := by omega
      obtain ⟨A, hAs, hKn⟩ := HI.out
      have hbe := hKn.be
      have HBf := Lib.hid hbe
      clear HI hKn hbe hAs
      go_wp2_with fail
      rw [HPOST.out]
      exact ⟨rfl, HBf.out⟩
end Go.Proofs.Ytkdjimcpdbpemaa
