/- rpa: Ask: the walks, a theorem for each branch. -/
import Derived.Test.YtkdjimcpdbpemaaRpaH
import Derived.Lib.SliceRun
namespace Go.Proofs.Ytkdjimcpdbpemaa
open Go Go.RowKit
set_option linter.unusedVariables false

def zP : Array Value := RP.zero.cells.toArray
@[simp] theorem zP_size : zP.size = 67 := by kernel_rfl
@[simp] theorem zP_ne : zP ≠ #[] := by
  intro h
  have := zP_size
  rw [h] at this
  exact absurd this (by decide)
@[simp] theorem zeroP (w : World) : Sem.run Try.prog (zeroValue 43) w = .ok (.agg zP) w := by kernel_rfl
theorem zP_one : zP.all (·.oneCell') = true := RP.one RP.zero
theorem zP_list : zP.toList = RP.zero.cells := by unfold zP; simp
theorem cellsOfP {p : RP} {B : RP} : True := trivial

/-- 'clear' of the middle of a block. -/
theorem wpList_clear_mid {P : Program} {ops : Array Oper} {rest : List Oper} {o : Oper} {a : Act} {w : World} {Q : Exit → Act → World → Prop} (hw : Region.wanted o (yielded ops a.tmps) = true) (s : Operand) (t e : TypeId) (ho : o.op = .call { callee := .builtin .clear, args := #[s], argTypes := #[t] })
    (ht : P.underlying t = some (.slice e)) (z : Value) (hv : ∀ w, (zeroValue e).run P w = .ok z w) (hz : z.cells = #[z]) (h1 : z.oneCell' = true)
    (g off n c : Nat) (hs : a.eval s = .slice (some ⟨g, off, none⟩) n c) (hn : 0 < n) (hth : w.there g off n)
    (h : wpList P ops Q rest (a.put o.dst (.tuple #[])) (w.setCells g off (List.replicate n z))) : wpList P ops Q (o :: rest) a w := by
  have hr := Lib.run_clear_slice (P := P) w t e o.type z ht hv hz h1 g off n c hn (fun j hj => (hth j hj).1) (fun j hj => (hth j hj).2)
  refine wpList_wanted hw fun K hK => ?_
  unfold Oper.wp
  simp [execOp, ho, resolve, invoke, builtin, hs, hr, Result.andThen]
  exact hK _ _ h

/-- The area and Ask's boxes. -/
structure AskS (w0 : World) (g gf gr : Nat) (f : RF) (A : RA) (w : World) : Prop where
  area : AreaAt w g A
  ok : A.Ok
  box : HasB w gf f.cells.toArray 37
  res : HasB w gr zP 43
  gb : w0.grownBy w (some g)
  l0 : g < w0.heap.size
  l1 : w0.heap.size ≤ gf
  l2 : gf < gr
theorem AskS.below {w0 w w' : World} {g gf gr : Nat} {f : RF} {A : RA} (h : AskS w0 g gf gr f A w) (hb : Below w.heap.size w w') : AskS w0 g gf gr f A w' :=
  ⟨h.area.below hb, h.ok, h.box.below hb h.box.lt, h.res.below hb h.res.lt, gb_trans h.gb (gb_below hb), h.l0, h.l1, h.l2⟩
theorem AskS.put {w0 w w' : World} {g gf gr : Nat} {f : RF} {A A' : RA} (h : AskS w0 g gf gr f A w) (ha : AreaAt w' g A') (hok : A'.Ok) (hg : w.grownBy w' (some g)) : AskS w0 g gf gr f A' w' := by
  have h1 := h.l0
  have h2 := h.l1
  have h3 := h.l2
  exact ⟨ha, hok, h.box.kept hg (by intro e; have := Option.some.inj e; omega), h.res.kept hg (by intro e; have := Option.some.inj e; omega), gb_trans h.gb hg, h.l0, h.l1, h.l2⟩
theorem AskS.putStep {w0 w : World} {g gf gr : Nat} {f : RF} {A : RA} (h : AskS w0 g gf gr f A w) {p : RP} (hp : p.Ok) : AskS w0 g gf gr f { A with step := p } (w.setCells g 37 p.cells) :=
  h.put (h.area.putStep h.ok hp) ⟨h.ok.pb, h.ok.s, h.ok.now, h.ok.last, hp⟩ (gb_cells _ _ (gb_refl _ _))
theorem AskS.putNow {w0 w : World} {g gf gr : Nat} {f : RF} {A : RA} (h : AskS w0 g gf gr f A w) (n : RN) (hn : n.Ok) : AskS w0 g gf gr f { A with now := n } (w.setCell ⟨g, 35, none⟩ n.val) :=
  h.put (h.area.putNow h.ok n) ⟨h.ok.pb, h.ok.s, hn, h.ok.last, h.ok.step⟩ (gb_set (gb_refl _ _) _ _)
theorem AskS.putLast {w0 w : World} {g gf gr : Nat} {f : RF} {A : RA} (h : AskS w0 g gf gr f A w) (n : RN) (hn : n.Ok) : AskS w0 g gf gr f { A with last := n } (w.setCell ⟨g, 36, none⟩ n.val) :=
  h.put (h.area.putLast h.ok n) ⟨h.ok.pb, h.ok.s, h.ok.now, hn, h.ok.step⟩ (gb_set (gb_refl _ _) _ _)
theorem AskS.start {w : World} {g : Nat} {f : RF} {A : RA} (h : AreaAt w g A) (hA : A.Ok) : AskS w g w.heap.size (w.heap.size + 1) f A ((w.alloc (.cells f.cells.toArray 37)).alloc (.cells zP 43)) :=
  ⟨(h.below ((Below.refl _ _).alloc (Nat.le_refl _) _)).below ((Below.refl _ _).alloc (Nat.le_refl _) _), hA, (HasB.new w _ _).alloc _, HasB.new' (by simp) _ _, gb_alloc (gb_alloc (gb_refl _ _) _) _, h.lt, Nat.le_refl _, Nat.lt_succ_self _⟩
/-- What Ask says. -/
def AskQ (w0 : World) (g : Nat) (A' : RA) : Ending → World → Prop := fun e w' => e = .returned A'.step.val ∧ AreaAt w' g A' ∧ w0.grownBy w' (some g)
theorem AskS.fin {w0 w : World} {g gf gr : Nat} {f : RF} {A : RA} (h : AskS w0 g gf gr f A w) (C : Array Value) : AreaAt (w.setRow gr C) g A ∧ w0.grownBy (w.setRow gr C) (some g) ∧ (w.setRow gr C).heap[gr]? = some (.cells C 43 (0, 0)) := by
  have hr : Below gr w (w.setRow gr C) := below_setRow (Below.refl _ _) (Nat.le_refl _) C
  have h1 := h.l0
  have h2 := h.l1
  have h3 := h.l2
  have hs := h.gb.size
  refine ⟨HasB.below h.area hr (by omega), ?_, setRow_heap _ gr _ C 43 (0, 0) h.res⟩
  exact ⟨hr.os.trans h.gb.os, hr.tape.trans h.gb.tape, hr.output.trans h.gb.output, Nat.le_trans h.gb.size hr.size, fun i hi hn => (hr.block i (by omega)).trans (h.gb.block i hi hn)⟩
theorem built_sp (p : RP) (hp : p.Ok) (hk : p.key = true) (hw : p.write = false) (ha : p.addr = 0) : Try.prog.built 43 [(0, .bool true), (3, .agg (u8s p.data).toArray)] = some p.cells.toArray := by
  rw [built_step, fill_step _ RP.zero.cells 0 _ _ 0 1 [.bool true] rfl rfl rfl (by show 0 + 1 ≤ 67; decide), splice_one _ _ _ (by show 0 < 67; decide)]
  have e1 := fill_step (stPl[·]?) ([.bool true, .bool false, .int .i64 0] ++ (u8s (List.replicate 64 0) ++ [])) 3 (.agg (u8s p.data).toArray) [] 3 64 (u8s p.data) rfl rfl (by rw [u8s_len, hp.dl]) (by simp [u8s_len])
  rw [splice_mid [.bool true, .bool false, .int .i64 0] (u8s (List.replicate 64 0)) [] (u8s p.data) (o := 3) rfl (by rw [u8s_len, u8s_len, hp.dl]; rfl)] at e1
  have e : RP.zero.cells.set 0 (.bool true) = [.bool true, .bool false, .int .i64 0] ++ (u8s (List.replicate 64 0) ++ []) := by simp [RP.cells, RP.zero]
  rw [e, e1]
  simp [Instr.fill, RP.cells, hk, hw, ha]
theorem built_sw (p : RP) (hp : p.Ok) (hk : p.key = false) (hw : p.write = true) : Try.prog.built 43 [(1, .bool true), (2, .int .i64 p.addr), (3, .agg (u8s p.data).toArray)] = some p.cells.toArray := by
  rw [built_step, fill_step _ RP.zero.cells 1 _ _ 1 1 [.bool true] rfl rfl rfl (by show 1 + 1 ≤ 67; decide), splice_one _ _ _ (by show 1 < 67; decide)]
  rw [fill_step _ (RP.zero.cells.set 1 (.bool true)) 2 _ _ 2 1 [.int .i64 p.addr] rfl rfl rfl (by show 2 + 1 ≤ 67; decide), splice_one _ _ _ (by show 2 < 67; decide)]
  have e1 := fill_step (stPl[·]?) ([.bool false, .bool true, .int .i64 p.addr] ++ (u8s (List.replicate 64 0) ++ [])) 3 (.agg (u8s p.data).toArray) [] 3 64 (u8s p.data) rfl rfl (by rw [u8s_len, hp.dl]) (by simp [u8s_len])
  rw [splice_mid [.bool false, .bool true, .int .i64 p.addr] (u8s (List.replicate 64 0)) [] (u8s p.data) (o := 3) rfl (by rw [u8s_len, u8s_len, hp.dl]; rfl)] at e1
  have e : (RP.zero.cells.set 1 (.bool true)).set 2 (.int .i64 p.addr) = [.bool false, .bool true, .int .i64 p.addr] ++ (u8s (List.replicate 64 0) ++ []) := by simp [RP.cells, RP.zero]
  rw [e, e1]
  simp [Instr.fill, RP.cells, hk, hw]
theorem built_cnt (n : List Nat) (h : n.length = 16) : Try.prog.built 76 [(0, .agg (u8s n).toArray)] = some (u8s n).toArray := by
  have e0 : Try.prog.built 76 [(0, .agg (u8s n).toArray)] = Instr.fill ((#[(0, 16)] : Array (Nat × Nat))[·]?) (u8s (List.replicate 16 0)).toArray [(0, .agg (u8s n).toArray)] := by kernel_rfl
  rw [e0, fill_step _ _ 0 _ _ 0 16 (u8s n) rfl rfl (by rw [u8s_len, h]) (by simp [u8s_len])]
  have := splice_mid ([] : List Value) (u8s (List.replicate 16 0)) [] (u8s n) (o := 0) rfl (by rw [u8s_len, u8s_len, h]; rfl)
  simp only [List.nil_append, List.append_nil] at this
  rw [this]
  rfl
theorem built_rd (n : List Nat) (h : n.length = 16) (x : Int) : Try.prog.built 78 [(0, .agg (u8s n).toArray), (1, .int .i64 x)] = some (u8s n ++ [Value.int .i64 x]).toArray := by
  have e0 : Try.prog.built 78 [(0, .agg (u8s n).toArray), (1, .int .i64 x)] = Instr.fill ((#[(0, 16), (16, 1)] : Array (Nat × Nat))[·]?) ([] ++ (u8s (List.replicate 16 0) ++ [Value.int .i64 0])).toArray [(0, .agg (u8s n).toArray), (1, .int .i64 x)] := by kernel_rfl
  rw [e0, fill_step _ _ 0 _ _ 0 16 (u8s n) rfl rfl (by rw [u8s_len, h]) (by simp [u8s_len])]
  rw [splice_mid ([] : List Value) (u8s (List.replicate 16 0)) [Value.int .i64 0] (u8s n) (o := 0) rfl (by rw [u8s_len, u8s_len, h]; rfl)]
  rw [fill_step _ _ 1 _ _ 16 1 [.int .i64 x] rfl rfl rfl (by simp [u8s_len, h])]
  have := splice_mid (u8s n) [Value.int .i64 0] [] [Value.int .i64 x] (o := 16) (by rw [u8s_len, h]) rfl
  simp only [List.nil_append, List.append_nil] at this ⊢
  rw [this]
  rfl
/-- A store of one cell, whatever value lies in it. -/
theorem wpList_store_one {P : Program} {ops : Array Oper} {rest : List Oper} {op : Oper} {a : Act} {w : World} {Q : Exit → Act → World → Prop} (hgd : op.guard = none) (ty : TypeId) (x y : Operand) (ho : op.op = .store ty x y)
    (b o : Nat) (v : Value) (hx : a.eval x = .pointer (some ⟨b, o, none⟩)) (hy : a.eval y = v)
    (ht : w.there b o 1) (hi : (P.info? ty).map (·.size) = some 1) (hv : v.cells = #[v]) (h1 : v.oneCell' = true)
    (h : wpList P ops Q rest (a.put op.dst undef) (w.setCell ⟨b, o, none⟩ v)) : wpList P ops Q (op :: rest) a w := by
  have hs := run_storeCells_cells (P := P) b o [v] 0 w (fun j hj => by simpa using (ht j (by simpa using hj)).1) (fun j hj => by simpa using (ht j (by simpa using hj)).2)
    (fun u hu => by simp at hu; subst hu; exact h1)
  have hr : (Instr.storeAt ty (.pointer (some ⟨b, o, none⟩)) v).run P w = .ok () (w.setCell ⟨b, o, none⟩ v) := by
    cases hq : P.info? ty with
    | none => simp [hq] at hi
    | some i =>
      have hs1 : i.size = 1 := by simpa [hq] using hi
      simp only [Nat.add_zero] at hs
      simp [Instr.storeAt, Instr.sureAddr, storeVar, sizeOf, typeInfo, hq, hv, hs1, hs, World.setCells]
  refine wpList_plain hgd fun K hK => ?_
  unfold Oper.wp execOp
  simp only [ho, hx, hy, hr, Result.andThen_ok, Sem.run_bind, Sem.run_pure]
  exact hK _ _ h
theorem stop_call {P : Program} {ops : Array Oper} {rest : List Oper} {o : Oper} {a : Act} {w : World} {Q : Exit → Act → World → Prop} (c : Call) (ho : o.op = .call c)
    (h : Stop (wpList P ops Q (o :: rest) a w)) : wpList P ops Q (o :: rest) a w := h
theorem AskS.clear {w0 w : World} {g gf gr : Nat} {f : RF} {A : RA} (h : AskS w0 g gf gr f A w) {b1 b2 : Bool} {x : Int} {d : List Nat} (hs : A.step = ⟨b1, b2, x, d⟩) :
    AskS w0 g gf gr f { A with step := ⟨b1, b2, x, d.take 32 ++ List.replicate 32 0⟩ } (w.setCells g 72 (List.replicate 32 (.int .u8 0))) := by
  have hok := h.ok.step
  rw [hs] at hok
  have hdl : d.length = 64 := hok.dl
  have e : ∀ z : List Nat, ({ A with step := ⟨b1, b2, x, d.take 32 ++ z⟩ } : RA).cells = ([.int .i64 A.places] ++ (A.s.cells ++ ([A.now.val, A.last.val] ++ ([.bool b1, .bool b2, .int .i64 x] ++ u8s (d.take 32))))) ++ (u8s z ++ []) := fun z => by simp [RA.cells, RP.cells, u8s_append]
  have e0 := e (d.drop 32)
  rw [List.take_append_drop, ← hs] at e0
  have ha : AreaAt w g A := h.area
  unfold AreaAt at ha
  rw [show A.cells = _ from e0] at ha
  have hput := ha.put3 (o := 72) (by simp [RS.len h.ok.s, u8s_len, hdl]) (u8s (List.replicate 32 0)) (by simp [u8s_len, hdl])
  rw [← e] at hput
  refine h.put (A' := { A with step := ⟨b1, b2, x, d.take 32 ++ List.replicate 32 0⟩ }) ?_ ⟨h.ok.pb, h.ok.s, h.ok.now, h.ok.last, ?_⟩ (gb_cells _ _ (gb_refl _ _))
  · have ez : u8s (List.replicate 32 0) = List.replicate 32 (Value.int .u8 0) := rfl
    rw [ez] at hput
    exact hput
  · refine ⟨by simp [hdl], fun c hc => ?_, hok.i1⟩
    rcases List.mem_append.1 hc with q | q
    · exact hok.db c (List.mem_of_mem_take q)
    · have := List.eq_of_mem_replicate q; omega
set_option maxRecDepth 100000 in
set_option maxHeartbeats 4000000 in
theorem ask_has (A : RA) (f : RF) (g : Nat) (w : World) (h : AreaAt w g A) (hA : A.Ok) (hf : f.Ok) (hty : f.typ = 1) (hhas0 : A.s.has = true) (hE : A.ask f = { A with step := RP.zero, now := .keying 1, last := .keying 1 }) :
    Calls Try.prog 12 #[.pointer (some ⟨g, 0, none⟩), f.val] w (AskQ w g (A.ask f)) := by
  rw [hE]
  obtain ⟨POST, hPOST⟩ : ∃ Q : Ending → World → Prop, Q = AskQ w g { A with step := RP.zero, now := .keying 1, last := .keying 1 } := ⟨_, rfl⟩
  rw [← hPOST]
  have HPOST := Lib.hid hPOST
  have HF := Lib.hid hf
  have HS := Lib.hid (AskS.start (f := f) h hA)
  unfold RF.val
  obtain ⟨C, hC⟩ : ∃ C, C = f.cells.toArray := ⟨_, rfl⟩
  have HC := Lib.hid hC
  rw [← hC] at HS ⊢
  have HIf : Hid ((Try.prog.info? 37).map (·.size) = some C.size) := Lib.hid (by rw [hC, List.size_toArray, RF.cells_len hf]; exact info_fr)
  have HIp : Hid ((Try.prog.info? 43).map (·.size) = some zP.size) := Lib.hid info_sp
  have HTh0 : Hid (((w.alloc (.cells C 37)).alloc (.cells zP 43)).there g 37 zP.size) := Lib.hid (HS.out.area.there hA (by decide))
  have HTy : Hid (f.typ = 1) := Lib.hid hty
  have HHas := Lib.hid hhas0
  clear hC hPOST h hA hf hE hty hhas0
  go_enter Try.func12, Try.ntmps12
  go_wp2_with (with_reducible refine wpList_store_mid rfl 43 (.tmp 9) (.tmp 7) rfl g 37 zP rfl rfl HTh0.out HIp.out zP_one ?_; refine Stop.mk ?_)
  refine Stop.go ?_
  have HS2 : Hid (AskS w g w.heap.size (w.heap.size + 1) f { A with step := RP.zero } (((w.alloc (.cells C 37)).alloc (.cells zP 43)).setCells g 37 zP.toList)) := Lib.hid (by rw [zP_list]; exact HS.out.putStep RP.zero_ok)
  generalize ((w.alloc (.cells C 37)).alloc (.cells zP 43)).setCells g 37 zP.toList = w2 at HS2 ⊢
  obtain ⟨gf, hgf⟩ : ∃ gf, gf = w.heap.size := ⟨_, rfl⟩
  obtain ⟨gr, hgr⟩ : ∃ gr, gr = w.heap.size + 1 := ⟨_, rfl⟩
  rw [← hgr, ← hgf] at HS2 ⊢
  clear hgf hgr HS HTh0
  have hty : w2.cell? ⟨gf, 116, none⟩ = some (.int .i64 (1)) := by rw [← HTy.out]; exact RF.tail_at HF.out HS2.out.box 4 _ rfl
  have hlt2 := HS2.out.area.lt
  have hfr : ∀ i, w2.frozen? ⟨g, i, none⟩ = false := HS2.out.area.free
  have hhas : w2.cell? ⟨g, 33, none⟩ = some (.bool true) := by rw [← HHas.out]; exact HS2.out.area.has HS2.out.ok
  have h35 := HS2.out.area.now HS2.out.ok
  have h36 := HS2.out.area.last HS2.out.ok
  go_wp2_with (with_reducible refine stop_dst 116 rfl ?_)
  refine Stop.go ?_
  have HS9 : Hid (AskS w g gf gr f { A with step := RP.zero, now := .keying 1, last := .keying 1 } ((w2.setCell ⟨g, 35, none⟩ (Value.iface 71 (.agg #[Value.int .i64 1]))).setCell ⟨g, 36, none⟩ (Value.iface 71 (.agg #[Value.int .i64 1])))) := Lib.hid ((HS2.out.putNow (.keying 1) (by show I64 1; unfold I64; omega)).putLast (.keying 1) (by show I64 1; unfold I64; omega))
  generalize (w2.setCell ⟨g, 35, none⟩ (Value.iface 71 (.agg #[Value.int .i64 1]))).setCell ⟨g, 36, none⟩ (Value.iface 71 (.agg #[Value.int .i64 1])) = w9 at HS9 ⊢
  obtain ⟨SL, hSL⟩ : ∃ SL, SL = ({ A with step := RP.zero, now := .keying 1, last := .keying 1 }).step.cells := ⟨_, rfl⟩
  have hsl : SL.length = 67 := by rw [hSL]; exact RP.len HS9.out.ok.step
  have HR9 : Hid (w9.rangeAt g 37 SL) := Lib.hid (by rw [hSL]; exact HS9.out.area.step HS9.out.ok)
  have HO9 : Hid (SL.toArray.all (·.oneCell') = true) := Lib.hid (by rw [hSL]; exact RP.one _)
  have HI9 : Hid ((Try.prog.info? 43).map (·.size) = some SL.length) := Lib.hid (by rw [hsl]; exact info_sp)
  have HZ9 : Hid (zP.size = SL.toArray.size) := Lib.hid (by rw [show SL.toArray.size = 67 by rw [List.size_toArray, hsl]]; rfl)
  have HJ9 : Hid ((Try.prog.info? 43).map (·.size) = some SL.toArray.size) := Lib.hid (by rw [List.size_toArray, hsl]; exact info_sp)
  have HG9 : Hid (w9.heap[gr]? = some (.cells zP 43 (0, 0))) := Lib.hid HS9.out.res
  have HV9 : Hid (POST = fun e w' => e = .returned (.agg SL.toArray) ∧ AreaAt w' g ({ A with step := RP.zero, now := .keying 1, last := .keying 1 }) ∧ w.grownBy w' (some g)) := Lib.hid (by rw [HPOST.out, hSL]; rfl)
  have HF9 := Lib.hid (HS9.out.fin SL.toArray)
  clear hSL hsl
  refine wpList_load_mid rfl 43 (.tmp 115) rfl g 37 rfl SL _ HR9.out Try.underlying43 rfl HI9.out ?_
  go_wp2_with (with_reducible refine wpList_store_row rfl 43 (.tmp 4) (.tmp 116) rfl gr SL.toArray rfl rfl 43 _ HG9.out HJ9.out HZ9.out HO9.out ?_)
  rw [HV9.out]
  exact bodyPost_ret (results_cell_row (p := 4) (by kernel_rfl) _ _ gr 43 SL.toArray (0, 0) _ rfl HF9.out.2.2 Try.underlying43 rfl HJ9.out) rfl ⟨rfl, HF9.out.1, HF9.out.2.1⟩

set_option maxRecDepth 100000 in
set_option maxHeartbeats 4000000 in
theorem ask_key (A : RA) (f : RF) (g : Nat) (w : World) (h : AreaAt w g A) (hA : A.Ok) (hf : f.Ok) (hty : f.typ = 1) (hhas0 : A.s.has = false) (hE : A.ask f = { A with step := ⟨true, false, 0, f.data.take 32 ++ List.replicate 32 0⟩, now := .keying 0, last := .keying 0 }) :
    Calls Try.prog 12 #[.pointer (some ⟨g, 0, none⟩), f.val] w (AskQ w g (A.ask f)) := by
  rw [hE]
  obtain ⟨POST, hPOST⟩ : ∃ Q : Ending → World → Prop, Q = AskQ w g { A with step := ⟨true, false, 0, f.data.take 32 ++ List.replicate 32 0⟩, now := .keying 0, last := .keying 0 } := ⟨_, rfl⟩
  rw [← hPOST]
  have HPOST := Lib.hid hPOST
  have HF := Lib.hid hf
  have HS := Lib.hid (AskS.start (f := f) h hA)
  unfold RF.val
  obtain ⟨C, hC⟩ : ∃ C, C = f.cells.toArray := ⟨_, rfl⟩
  have HC := Lib.hid hC
  rw [← hC] at HS ⊢
  have HIf : Hid ((Try.prog.info? 37).map (·.size) = some C.size) := Lib.hid (by rw [hC, List.size_toArray, RF.cells_len hf]; exact info_fr)
  have HIp : Hid ((Try.prog.info? 43).map (·.size) = some zP.size) := Lib.hid info_sp
  have HTh0 : Hid (((w.alloc (.cells C 37)).alloc (.cells zP 43)).there g 37 zP.size) := Lib.hid (HS.out.area.there hA (by decide))
  have HTy : Hid (f.typ = 1) := Lib.hid hty
  have HHas := Lib.hid hhas0
  clear hC hPOST h hA hf hE hty hhas0
  go_enter Try.func12, Try.ntmps12
  go_wp2_with (with_reducible refine wpList_store_mid rfl 43 (.tmp 9) (.tmp 7) rfl g 37 zP rfl rfl HTh0.out HIp.out zP_one ?_; refine Stop.mk ?_)
  refine Stop.go ?_
  have HS2 : Hid (AskS w g w.heap.size (w.heap.size + 1) f { A with step := RP.zero } (((w.alloc (.cells C 37)).alloc (.cells zP 43)).setCells g 37 zP.toList)) := Lib.hid (by rw [zP_list]; exact HS.out.putStep RP.zero_ok)
  generalize ((w.alloc (.cells C 37)).alloc (.cells zP 43)).setCells g 37 zP.toList = w2 at HS2 ⊢
  obtain ⟨gf, hgf⟩ : ∃ gf, gf = w.heap.size := ⟨_, rfl⟩
  obtain ⟨gr, hgr⟩ : ∃ gr, gr = w.heap.size + 1 := ⟨_, rfl⟩
  rw [← hgr, ← hgf] at HS2 ⊢
  clear hgf hgr HS HTh0
  have hty : w2.cell? ⟨gf, 116, none⟩ = some (.int .i64 (1)) := by rw [← HTy.out]; exact RF.tail_at HF.out HS2.out.box 4 _ rfl
  have hlt2 := HS2.out.area.lt
  have hfr : ∀ i, w2.frozen? ⟨g, i, none⟩ = false := HS2.out.area.free
  have hhas : w2.cell? ⟨g, 33, none⟩ = some (.bool false) := by rw [← HHas.out]; exact HS2.out.area.has HS2.out.ok
  have h35 := HS2.out.area.now HS2.out.ok
  have h36 := HS2.out.area.last HS2.out.ok
  go_wp2_with (with_reducible refine stop_dst 38 rfl ?_)
  have HS3 : Hid (AskS w g gf gr f { A with step := RP.zero, now := .keying 0 } (w2.setCell ⟨g, 35, none⟩ (Value.iface 71 (.agg #[Value.int .i64 0])))) := Lib.hid (HS2.out.putNow (.keying 0) (by show I64 0; unfold I64; omega))
  generalize w2.setCell ⟨g, 35, none⟩ (Value.iface 71 (.agg #[Value.int .i64 0])) = w3 at HS3 ⊢
  clear hhas h35 h36 hlt2 hfr hty
  obtain ⟨DL, hDL⟩ : ∃ DL, DL = u8s f.data := ⟨_, rfl⟩
  have HDt : Hid (w3.rangeAt gf 32 DL) := Lib.hid (by rw [hDL]; exact RF.data_at HF.out HS3.out.box)
  have HId : Hid ((Try.prog.info? 34).map (·.size) = some DL.length) := Lib.hid (by rw [hDL, u8s_len, HF.out.dl]; exact info_d64)
  have HPok : Hid (RP.Ok (⟨true, false, 0, f.data⟩ : RP)) := Lib.hid ⟨HF.out.dl, HF.out.db, i64_0⟩
  obtain ⟨PL, hPL⟩ : ∃ PL, PL = RP.cells (⟨true, false, 0, f.data⟩ : RP) := ⟨_, rfl⟩
  have hbl := built_sp (⟨true, false, 0, f.data⟩ : RP) HPok.out rfl rfl rfl
  rw [← hPL, ← hDL] at hbl
  have HBld := Lib.hid hbl
  have HIpl : Hid ((Try.prog.info? 43).map (·.size) = some PL.toArray.size) := Lib.hid (by rw [hPL, List.size_toArray, RP.len HPok.out]; exact info_sp)
  have HOpl : Hid (PL.toArray.all (·.oneCell') = true) := Lib.hid (by rw [hPL]; exact RP.one _)
  have HThp : Hid (w3.there g 37 PL.toArray.size) := Lib.hid (HS3.out.area.there HS3.out.ok (by rw [hPL, List.size_toArray, RP.len HPok.out]; decide))
  have HPL := Lib.hid hPL
  clear hDL hPL hbl
  refine Stop.go ?_
  refine wpList_load_mid rfl 34 (.tmp 37) rfl gf 32 rfl DL _ HDt.out Try.underlying34 rfl HId.out ?_
  go_wp2_with (with_reducible refine stop_build 43 _ rfl ?_)
  refine Stop.go ?_
  refine wpList_buildTo rfl 43 _ rfl _ rfl PL.toArray ?_ ?_
  · rw [List.map_toArray]; exact HBld.out
  go_wp2_with (with_reducible refine wpList_store_mid rfl 43 (.tmp 41) (.tmp 39) rfl g 37 PL.toArray rfl rfl HThp.out HIpl.out HOpl.out ?_; refine Stop.mk ?_)
  refine Stop.go ?_
  have HS4 : Hid (AskS w g gf gr f { A with step := ⟨true, false, 0, f.data⟩, now := .keying 0 } (w3.setCells g 37 PL.toArray.toList)) := Lib.hid (by rw [HPL.out]; exact HS3.out.putStep HPok.out)
  generalize w3.setCells g 37 PL.toArray.toList = w4 at HS4 ⊢
  have hlt4 := HS4.out.area.lt
  go_wp2_with (with_reducible refine stop_call _ rfl ?_)
  refine Stop.go ?_
  refine wpList_clear_mid (by rfl) (.tmp 46) 50 5 rfl Try.underlying50 (.int .u8 0) (fun w => by kernel_rfl) rfl rfl g 72 32 32 rfl (by decide) (HS4.out.area.there HS4.out.ok (by decide)) ?_
  have HS5 : Hid (AskS w g gf gr f { A with step := ⟨true, false, 0, f.data.take 32 ++ List.replicate 32 0⟩, now := .keying 0 } (w4.setCells g 72 (List.replicate 32 (.int .u8 0)))) := Lib.hid (HS4.out.clear rfl)
  generalize w4.setCells g 72 (List.replicate 32 (.int .u8 0)) = w5 at HS5 ⊢
  have hlt5 := HS5.out.area.lt
  have hfr5 : ∀ i, w5.frozen? ⟨g, i, none⟩ = false := HS5.out.area.free
  have h35 : w5.cell? ⟨g, 35, none⟩ = some (Value.iface 71 (.agg #[Value.int .i64 0])) := HS5.out.area.now HS5.out.ok
  have h36 := HS5.out.area.last HS5.out.ok
  go_wp2_with (with_reducible refine stop_dst 116 rfl ?_)
  refine Stop.go ?_
  have HS9 : Hid (AskS w g gf gr f { A with step := ⟨true, false, 0, f.data.take 32 ++ List.replicate 32 0⟩, now := .keying 0, last := .keying 0 } (w5.setCell ⟨g, 36, none⟩ (Value.iface 71 (.agg #[Value.int .i64 0])))) := Lib.hid (HS5.out.putLast (.keying 0) (by show I64 0; unfold I64; omega))
  generalize w5.setCell ⟨g, 36, none⟩ (Value.iface 71 (.agg #[Value.int .i64 0])) = w9 at HS9 ⊢
  obtain ⟨SL, hSL⟩ : ∃ SL, SL = ({ A with step := ⟨true, false, 0, f.data.take 32 ++ List.replicate 32 0⟩, now := .keying 0, last := .keying 0 }).step.cells := ⟨_, rfl⟩
  have hsl : SL.length = 67 := by rw [hSL]; exact RP.len HS9.out.ok.step
  have HR9 : Hid (w9.rangeAt g 37 SL) := Lib.hid (by rw [hSL]; exact HS9.out.area.step HS9.out.ok)
  have HO9 : Hid (SL.toArray.all (·.oneCell') = true) := Lib.hid (by rw [hSL]; exact RP.one _)
  have HI9 : Hid ((Try.prog.info? 43).map (·.size) = some SL.length) := Lib.hid (by rw [hsl]; exact info_sp)
  have HZ9 : Hid (zP.size = SL.toArray.size) := Lib.hid (by rw [show SL.toArray.size = 67 by rw [List.size_toArray, hsl]]; rfl)
  have HJ9 : Hid ((Try.prog.info? 43).map (·.size) = some SL.toArray.size) := Lib.hid (by rw [List.size_toArray, hsl]; exact info_sp)
  have HG9 : Hid (w9.heap[gr]? = some (.cells zP 43 (0, 0))) := Lib.hid HS9.out.res
  have HV9 : Hid (POST = fun e w' => e = .returned (.agg SL.toArray) ∧ AreaAt w' g ({ A with step := ⟨true, false, 0, f.data.take 32 ++ List.replicate 32 0⟩, now := .keying 0, last := .keying 0 }) ∧ w.grownBy w' (some g)) := Lib.hid (by rw [HPOST.out, hSL]; rfl)
  have HF9 := Lib.hid (HS9.out.fin SL.toArray)
  clear hSL hsl
  refine wpList_load_mid rfl 43 (.tmp 115) rfl g 37 rfl SL _ HR9.out Try.underlying43 rfl HI9.out ?_
  go_wp2_with (with_reducible refine wpList_store_row rfl 43 (.tmp 4) (.tmp 116) rfl gr SL.toArray rfl rfl 43 _ HG9.out HJ9.out HZ9.out HO9.out ?_)
  rw [HV9.out]
  exact bodyPost_ret (results_cell_row (p := 4) (by kernel_rfl) _ _ gr 43 SL.toArray (0, 0) _ rfl HF9.out.2.2 Try.underlying43 rfl HJ9.out) rfl ⟨rfl, HF9.out.1, HF9.out.2.1⟩

set_option maxRecDepth 100000 in
set_option maxHeartbeats 4000000 in
theorem ask_write (A : RA) (f : RF) (g : Nat) (w : World) (h : AreaAt w g A) (hA : A.Ok) (hf : f.Ok) (hty : f.typ = 3) (hr0 : A.refuse f = 0) (hE : A.ask f = { A with step := ⟨false, true, f.addr, f.data⟩, now := .writing 0 f.addr, last := .writing 0 f.addr }) :
    Calls Try.prog 12 #[.pointer (some ⟨g, 0, none⟩), f.val] w (AskQ w g (A.ask f)) := by
  rw [hE]
  obtain ⟨POST, hPOST⟩ : ∃ Q : Ending → World → Prop, Q = AskQ w g { A with step := ⟨false, true, f.addr, f.data⟩, now := .writing 0 f.addr, last := .writing 0 f.addr } := ⟨_, rfl⟩
  rw [← hPOST]
  have HPOST := Lib.hid hPOST
  have HF := Lib.hid hf
  have HS := Lib.hid (AskS.start (f := f) h hA)
  unfold RF.val
  obtain ⟨C, hC⟩ : ∃ C, C = f.cells.toArray := ⟨_, rfl⟩
  have HC := Lib.hid hC
  rw [← hC] at HS ⊢
  have HIf : Hid ((Try.prog.info? 37).map (·.size) = some C.size) := Lib.hid (by rw [hC, List.size_toArray, RF.cells_len hf]; exact info_fr)
  have HIp : Hid ((Try.prog.info? 43).map (·.size) = some zP.size) := Lib.hid info_sp
  have HTh0 : Hid (((w.alloc (.cells C 37)).alloc (.cells zP 43)).there g 37 zP.size) := Lib.hid (HS.out.area.there hA (by decide))
  have HR := Lib.hid hr0
  clear hr0
  have HTy : Hid (f.typ = 3) := Lib.hid hty
  clear hC hPOST h hA hf hE hty
  go_enter Try.func12, Try.ntmps12
  go_wp2_with (with_reducible refine wpList_store_mid rfl 43 (.tmp 9) (.tmp 7) rfl g 37 zP rfl rfl HTh0.out HIp.out zP_one ?_; refine Stop.mk ?_)
  refine Stop.go ?_
  have HS2 : Hid (AskS w g w.heap.size (w.heap.size + 1) f { A with step := RP.zero } (((w.alloc (.cells C 37)).alloc (.cells zP 43)).setCells g 37 zP.toList)) := Lib.hid (by rw [zP_list]; exact HS.out.putStep RP.zero_ok)
  generalize ((w.alloc (.cells C 37)).alloc (.cells zP 43)).setCells g 37 zP.toList = w2 at HS2 ⊢
  obtain ⟨gf, hgf⟩ : ∃ gf, gf = w.heap.size := ⟨_, rfl⟩
  obtain ⟨gr, hgr⟩ : ∃ gr, gr = w.heap.size + 1 := ⟨_, rfl⟩
  rw [← hgr, ← hgf] at HS2 ⊢
  clear hgf hgr HS HTh0
  have hty : w2.cell? ⟨gf, 116, none⟩ = some (.int .i64 (3)) := by rw [← HTy.out]; exact RF.tail_at HF.out HS2.out.box 4 _ rfl
  have hlt2 := HS2.out.area.lt
  have hfr : ∀ i, w2.frozen? ⟨g, i, none⟩ = false := HS2.out.area.free
  have HQ : Hid (w2.heap[gf]? = some (.cells C 37 (0, 0))) := Lib.hid (by rw [HC.out]; exact HS2.out.box)
  go_wp2_with (with_reducible refine wpList_load_row rfl 37 (.tmp 3) rfl gf rfl 37 C (0, 0) _ HQ.out Try.underlying37 rfl HIf.out ?_)
  have hcall := refuse_any { A with step := RP.zero } f g w2 HS2.out.area HS2.out.ok HF.out
  unfold RF.val at hcall
  rw [← HC.out, show RA.refuse { A with step := RP.zero } f = A.refuse f from rfl, HR.out] at hcall
  refine hcall.mono ?_
  clear hcall
  rintro e w3 ⟨rfl, hb3⟩
  have HS3 := Lib.hid (HS2.out.below hb3)
  clear hb3 hty hlt2 hfr HQ
  obtain ⟨DL, hDL⟩ : ∃ DL, DL = u8s f.data := ⟨_, rfl⟩
  have HDt : Hid (w3.rangeAt gf 32 DL) := Lib.hid (by rw [hDL]; exact RF.data_at HF.out HS3.out.box)
  have HId : Hid ((Try.prog.info? 34).map (·.size) = some DL.length) := Lib.hid (by rw [hDL, u8s_len, HF.out.dl]; exact info_d64)
  have HPok : Hid (RP.Ok (⟨false, true, f.addr, f.data⟩ : RP)) := Lib.hid ⟨HF.out.dl, HF.out.db, HF.out.i1⟩
  obtain ⟨PL, hPL⟩ : ∃ PL, PL = RP.cells (⟨false, true, f.addr, f.data⟩ : RP) := ⟨_, rfl⟩
  have hbl := built_sw (⟨false, true, f.addr, f.data⟩ : RP) HPok.out rfl rfl
  rw [← hPL, ← hDL] at hbl
  have HBld := Lib.hid hbl
  have HIpl : Hid ((Try.prog.info? 43).map (·.size) = some PL.toArray.size) := Lib.hid (by rw [hPL, List.size_toArray, RP.len HPok.out]; exact info_sp)
  have HOpl : Hid (PL.toArray.all (·.oneCell') = true) := Lib.hid (by rw [hPL]; exact RP.one _)
  have HThp : Hid (w3.there g 37 PL.toArray.size) := Lib.hid (HS3.out.area.there HS3.out.ok (by rw [hPL, List.size_toArray, RP.len HPok.out]; decide))
  have HPL := Lib.hid hPL
  clear hDL hPL hbl
  have hca : w3.cell? ⟨gf, 113, none⟩ = some (.int .i64 f.addr) := RF.tail_at HF.out HS3.out.box 1 _ rfl
  go_wp2_with (with_reducible refine stop_dst 65 rfl ?_)
  refine Stop.go ?_
  refine wpList_load_mid rfl 34 (.tmp 64) rfl gf 32 rfl DL _ HDt.out Try.underlying34 rfl HId.out ?_
  go_wp2_with (with_reducible refine stop_build 43 _ rfl ?_)
  refine Stop.go ?_
  refine wpList_buildTo rfl 43 _ rfl _ rfl PL.toArray ?_ ?_
  · rw [List.map_toArray]; exact HBld.out
  go_wp2_with (with_reducible refine wpList_store_mid rfl 43 (.tmp 68) (.tmp 66) rfl g 37 PL.toArray rfl rfl HThp.out HIpl.out HOpl.out ?_; refine Stop.mk ?_)
  refine Stop.go ?_
  have HS4 : Hid (AskS w g gf gr f { A with step := ⟨false, true, f.addr, f.data⟩ } (w3.setCells g 37 PL.toArray.toList)) := Lib.hid (by rw [HPL.out]; exact HS3.out.putStep HPok.out)
  generalize w3.setCells g 37 PL.toArray.toList = w4 at HS4 ⊢
  clear hca
  have hlt4 := HS4.out.area.lt
  have hfr4 : ∀ i, w4.frozen? ⟨g, i, none⟩ = false := HS4.out.area.free
  have hca : w4.cell? ⟨gf, 113, none⟩ = some (.int .i64 f.addr) := RF.tail_at HF.out HS4.out.box 1 _ rfl
  have h35 := HS4.out.area.now HS4.out.ok
  have h36 := HS4.out.area.last HS4.out.ok
  go_wp2_with (with_reducible refine stop_dst 116 rfl ?_)
  refine Stop.go ?_
  have HS9 : Hid (AskS w g gf gr f { A with step := ⟨false, true, f.addr, f.data⟩, now := .writing 0 f.addr, last := .writing 0 f.addr } ((w4.setCell ⟨g, 35, none⟩ (Value.iface 74 (.agg #[Value.int .i64 0, Value.int .i64 f.addr]))).setCell ⟨g, 36, none⟩ (Value.iface 74 (.agg #[Value.int .i64 0, Value.int .i64 f.addr])))) := Lib.hid ((HS4.out.putNow (.writing 0 f.addr) ⟨i64_0, HF.out.i1⟩).putLast (.writing 0 f.addr) ⟨i64_0, HF.out.i1⟩)
  generalize (w4.setCell ⟨g, 35, none⟩ (Value.iface 74 (.agg #[Value.int .i64 0, Value.int .i64 f.addr]))).setCell ⟨g, 36, none⟩ (Value.iface 74 (.agg #[Value.int .i64 0, Value.int .i64 f.addr])) = w9 at HS9 ⊢
  obtain ⟨SL, hSL⟩ : ∃ SL, SL = ({ A with step := ⟨false, true, f.addr, f.data⟩, now := .writing 0 f.addr, last := .writing 0 f.addr }).step.cells := ⟨_, rfl⟩
  have hsl : SL.length = 67 := by rw [hSL]; exact RP.len HS9.out.ok.step
  have HR9 : Hid (w9.rangeAt g 37 SL) := Lib.hid (by rw [hSL]; exact HS9.out.area.step HS9.out.ok)
  have HO9 : Hid (SL.toArray.all (·.oneCell') = true) := Lib.hid (by rw [hSL]; exact RP.one _)
  have HI9 : Hid ((Try.prog.info? 43).map (·.size) = some SL.length) := Lib.hid (by rw [hsl]; exact info_sp)
  have HZ9 : Hid (zP.size = SL.toArray.size) := Lib.hid (by rw [show SL.toArray.size = 67 by rw [List.size_toArray, hsl]]; rfl)
  have HJ9 : Hid ((Try.prog.info? 43).map (·.size) = some SL.toArray.size) := Lib.hid (by rw [List.size_toArray, hsl]; exact info_sp)
  have HG9 : Hid (w9.heap[gr]? = some (.cells zP 43 (0, 0))) := Lib.hid HS9.out.res
  have HV9 : Hid (POST = fun e w' => e = .returned (.agg SL.toArray) ∧ AreaAt w' g ({ A with step := ⟨false, true, f.addr, f.data⟩, now := .writing 0 f.addr, last := .writing 0 f.addr }) ∧ w.grownBy w' (some g)) := Lib.hid (by rw [HPOST.out, hSL]; rfl)
  have HF9 := Lib.hid (HS9.out.fin SL.toArray)
  clear hSL hsl
  refine wpList_load_mid rfl 43 (.tmp 115) rfl g 37 rfl SL _ HR9.out Try.underlying43 rfl HI9.out ?_
  go_wp2_with (with_reducible refine wpList_store_row rfl 43 (.tmp 4) (.tmp 116) rfl gr SL.toArray rfl rfl 43 _ HG9.out HJ9.out HZ9.out HO9.out ?_)
  rw [HV9.out]
  exact bodyPost_ret (results_cell_row (p := 4) (by kernel_rfl) _ _ gr 43 SL.toArray (0, 0) _ rfl HF9.out.2.2 Try.underlying43 rfl HJ9.out) rfl ⟨rfl, HF9.out.1, HF9.out.2.1⟩

set_option maxRecDepth 100000 in
set_option maxHeartbeats 4000000 in
theorem ask_refused (A : RA) (f : RF) (g : Nat) (w : World) (h : AreaAt w g A) (hA : A.Ok) (hf : f.Ok) (r : Int) (hty : f.typ = 3) (hr0 : A.refuse f = r) (hrn : r ≠ 0) (hE : A.ask f = { A with step := RP.zero, now := .writing r f.addr, last := .writing r f.addr }) :
    Calls Try.prog 12 #[.pointer (some ⟨g, 0, none⟩), f.val] w (AskQ w g (A.ask f)) := by
  rw [hE]
  obtain ⟨POST, hPOST⟩ : ∃ Q : Ending → World → Prop, Q = AskQ w g { A with step := RP.zero, now := .writing r f.addr, last := .writing r f.addr } := ⟨_, rfl⟩
  rw [← hPOST]
  have HPOST := Lib.hid hPOST
  have HF := Lib.hid hf
  have HS := Lib.hid (AskS.start (f := f) h hA)
  unfold RF.val
  obtain ⟨C, hC⟩ : ∃ C, C = f.cells.toArray := ⟨_, rfl⟩
  have HC := Lib.hid hC
  rw [← hC] at HS ⊢
  have HIf : Hid ((Try.prog.info? 37).map (·.size) = some C.size) := Lib.hid (by rw [hC, List.size_toArray, RF.cells_len hf]; exact info_fr)
  have HIp : Hid ((Try.prog.info? 43).map (·.size) = some zP.size) := Lib.hid info_sp
  have HTh0 : Hid (((w.alloc (.cells C 37)).alloc (.cells zP 43)).there g 37 zP.size) := Lib.hid (HS.out.area.there hA (by decide))
  have HR := Lib.hid hr0
  have HRi : Hid (I64 r) := Lib.hid (hr0 ▸ A.refuse_i64 f)
  have t0 : (r == 0) = false := by simpa using hrn
  clear hr0 hrn
  have HTy : Hid (f.typ = 3) := Lib.hid hty
  clear hC hPOST h hA hf hE hty
  go_enter Try.func12, Try.ntmps12
  go_wp2_with (with_reducible refine wpList_store_mid rfl 43 (.tmp 9) (.tmp 7) rfl g 37 zP rfl rfl HTh0.out HIp.out zP_one ?_; refine Stop.mk ?_)
  refine Stop.go ?_
  have HS2 : Hid (AskS w g w.heap.size (w.heap.size + 1) f { A with step := RP.zero } (((w.alloc (.cells C 37)).alloc (.cells zP 43)).setCells g 37 zP.toList)) := Lib.hid (by rw [zP_list]; exact HS.out.putStep RP.zero_ok)
  generalize ((w.alloc (.cells C 37)).alloc (.cells zP 43)).setCells g 37 zP.toList = w2 at HS2 ⊢
  obtain ⟨gf, hgf⟩ : ∃ gf, gf = w.heap.size := ⟨_, rfl⟩
  obtain ⟨gr, hgr⟩ : ∃ gr, gr = w.heap.size + 1 := ⟨_, rfl⟩
  rw [← hgr, ← hgf] at HS2 ⊢
  clear hgf hgr HS HTh0
  have hty : w2.cell? ⟨gf, 116, none⟩ = some (.int .i64 (3)) := by rw [← HTy.out]; exact RF.tail_at HF.out HS2.out.box 4 _ rfl
  have hlt2 := HS2.out.area.lt
  have hfr : ∀ i, w2.frozen? ⟨g, i, none⟩ = false := HS2.out.area.free
  have HQ : Hid (w2.heap[gf]? = some (.cells C 37 (0, 0))) := Lib.hid (by rw [HC.out]; exact HS2.out.box)
  go_wp2_with (with_reducible refine wpList_load_row rfl 37 (.tmp 3) rfl gf rfl 37 C (0, 0) _ HQ.out Try.underlying37 rfl HIf.out ?_)
  have hcall := refuse_any { A with step := RP.zero } f g w2 HS2.out.area HS2.out.ok HF.out
  unfold RF.val at hcall
  rw [← HC.out, show RA.refuse { A with step := RP.zero } f = A.refuse f from rfl, HR.out] at hcall
  refine hcall.mono ?_
  clear hcall
  rintro e w3 ⟨rfl, hb3⟩
  have HS3 := Lib.hid (HS2.out.below hb3)
  clear hb3 hty hlt2 hfr HQ
  have hlt3 := HS3.out.area.lt
  have hfr3 : ∀ i, w3.frozen? ⟨g, i, none⟩ = false := HS3.out.area.free
  have hca : w3.cell? ⟨gf, 113, none⟩ = some (.int .i64 f.addr) := RF.tail_at HF.out HS3.out.box 1 _ rfl
  have h35 := HS3.out.area.now HS3.out.ok
  have h36 := HS3.out.area.last HS3.out.ok
  go_wp2_with (with_reducible refine stop_dst 116 rfl ?_)
  refine Stop.go ?_
  have HS9 : Hid (AskS w g gf gr f { A with step := RP.zero, now := .writing r f.addr, last := .writing r f.addr } ((w3.setCell ⟨g, 35, none⟩ (Value.iface 74 (.agg #[Value.int .i64 r, Value.int .i64 f.addr]))).setCell ⟨g, 36, none⟩ (Value.iface 74 (.agg #[Value.int .i64 r, Value.int .i64 f.addr])))) := Lib.hid ((HS3.out.putNow (.writing r f.addr) ⟨HRi.out, HF.out.i1⟩).putLast (.writing r f.addr) ⟨HRi.out, HF.out.i1⟩)
  generalize (w3.setCell ⟨g, 35, none⟩ (Value.iface 74 (.agg #[Value.int .i64 r, Value.int .i64 f.addr]))).setCell ⟨g, 36, none⟩ (Value.iface 74 (.agg #[Value.int .i64 r, Value.int .i64 f.addr])) = w9 at HS9 ⊢
  obtain ⟨SL, hSL⟩ : ∃ SL, SL = ({ A with step := RP.zero, now := .writing r f.addr, last := .writing r f.addr }).step.cells := ⟨_, rfl⟩
  have hsl : SL.length = 67 := by rw [hSL]; exact RP.len HS9.out.ok.step
  have HR9 : Hid (w9.rangeAt g 37 SL) := Lib.hid (by rw [hSL]; exact HS9.out.area.step HS9.out.ok)
  have HO9 : Hid (SL.toArray.all (·.oneCell') = true) := Lib.hid (by rw [hSL]; exact RP.one _)
  have HI9 : Hid ((Try.prog.info? 43).map (·.size) = some SL.length) := Lib.hid (by rw [hsl]; exact info_sp)
  have HZ9 : Hid (zP.size = SL.toArray.size) := Lib.hid (by rw [show SL.toArray.size = 67 by rw [List.size_toArray, hsl]]; rfl)
  have HJ9 : Hid ((Try.prog.info? 43).map (·.size) = some SL.toArray.size) := Lib.hid (by rw [List.size_toArray, hsl]; exact info_sp)
  have HG9 : Hid (w9.heap[gr]? = some (.cells zP 43 (0, 0))) := Lib.hid HS9.out.res
  have HV9 : Hid (POST = fun e w' => e = .returned (.agg SL.toArray) ∧ AreaAt w' g ({ A with step := RP.zero, now := .writing r f.addr, last := .writing r f.addr }) ∧ w.grownBy w' (some g)) := Lib.hid (by rw [HPOST.out, hSL]; rfl)
  have HF9 := Lib.hid (HS9.out.fin SL.toArray)
  clear hSL hsl
  refine wpList_load_mid rfl 43 (.tmp 115) rfl g 37 rfl SL _ HR9.out Try.underlying43 rfl HI9.out ?_
  go_wp2_with (with_reducible refine wpList_store_row rfl 43 (.tmp 4) (.tmp 116) rfl gr SL.toArray rfl rfl 43 _ HG9.out HJ9.out HZ9.out HO9.out ?_)
  rw [HV9.out]
  exact bodyPost_ret (results_cell_row (p := 4) (by kernel_rfl) _ _ gr 43 SL.toArray (0, 0) _ rfl HF9.out.2.2 Try.underlying43 rfl HJ9.out) rfl ⟨rfl, HF9.out.1, HF9.out.2.1⟩

set_option maxRecDepth 100000 in
set_option maxHeartbeats 4000000 in
theorem ask_count (A : RA) (f : RF) (g : Nat) (w : World) (h : AreaAt w g A) (hA : A.Ok) (hf : f.Ok) (hty : f.typ = 2) (hE : A.ask f = { A with step := RP.zero, now := .counting f.nonce }) :
    Calls Try.prog 12 #[.pointer (some ⟨g, 0, none⟩), f.val] w (AskQ w g (A.ask f)) := by
  rw [hE]
  obtain ⟨POST, hPOST⟩ : ∃ Q : Ending → World → Prop, Q = AskQ w g { A with step := RP.zero, now := .counting f.nonce } := ⟨_, rfl⟩
  rw [← hPOST]
  have HPOST := Lib.hid hPOST
  have HF := Lib.hid hf
  have HS := Lib.hid (AskS.start (f := f) h hA)
  unfold RF.val
  obtain ⟨C, hC⟩ : ∃ C, C = f.cells.toArray := ⟨_, rfl⟩
  have HC := Lib.hid hC
  rw [← hC] at HS ⊢
  have HIf : Hid ((Try.prog.info? 37).map (·.size) = some C.size) := Lib.hid (by rw [hC, List.size_toArray, RF.cells_len hf]; exact info_fr)
  have HIp : Hid ((Try.prog.info? 43).map (·.size) = some zP.size) := Lib.hid info_sp
  have HTh0 : Hid (((w.alloc (.cells C 37)).alloc (.cells zP 43)).there g 37 zP.size) := Lib.hid (HS.out.area.there hA (by decide))
  have HTy : Hid (f.typ = 2) := Lib.hid hty
  clear hC hPOST h hA hf hE hty
  go_enter Try.func12, Try.ntmps12
  go_wp2_with (with_reducible refine wpList_store_mid rfl 43 (.tmp 9) (.tmp 7) rfl g 37 zP rfl rfl HTh0.out HIp.out zP_one ?_; refine Stop.mk ?_)
  refine Stop.go ?_
  have HS2 : Hid (AskS w g w.heap.size (w.heap.size + 1) f { A with step := RP.zero } (((w.alloc (.cells C 37)).alloc (.cells zP 43)).setCells g 37 zP.toList)) := Lib.hid (by rw [zP_list]; exact HS.out.putStep RP.zero_ok)
  generalize ((w.alloc (.cells C 37)).alloc (.cells zP 43)).setCells g 37 zP.toList = w2 at HS2 ⊢
  obtain ⟨gf, hgf⟩ : ∃ gf, gf = w.heap.size := ⟨_, rfl⟩
  obtain ⟨gr, hgr⟩ : ∃ gr, gr = w.heap.size + 1 := ⟨_, rfl⟩
  rw [← hgr, ← hgf] at HS2 ⊢
  clear hgf hgr HS HTh0
  have hty : w2.cell? ⟨gf, 116, none⟩ = some (.int .i64 (2)) := by rw [← HTy.out]; exact RF.tail_at HF.out HS2.out.box 4 _ rfl
  have hlt2 := HS2.out.area.lt
  have hfr : ∀ i, w2.frozen? ⟨g, i, none⟩ = false := HS2.out.area.free
  have h35 := HS2.out.area.now HS2.out.ok
  obtain ⟨NL, hNL⟩ : ∃ NL, NL = u8s f.nonce := ⟨_, rfl⟩
  have HNt : Hid (w2.rangeAt gf 96 NL) := Lib.hid (by rw [hNL]; exact RF.nonce_at HF.out HS2.out.box)
  have HIn : Hid ((Try.prog.info? 35).map (·.size) = some NL.length) := Lib.hid (by rw [hNL, u8s_len, HF.out.nl]; exact info_n16)
  have hca : w2.cell? ⟨gf, 113, none⟩ = some (.int .i64 f.addr) := RF.tail_at HF.out HS2.out.box 1 _ rfl
  go_wp2_with (with_reducible refine stop_dst 88 rfl ?_)
  refine Stop.go ?_
  refine wpList_load_mid rfl 35 (.tmp 87) rfl gf 96 rfl NL _ HNt.out Try.underlying35 rfl HIn.out ?_
  have hbl := built_cnt f.nonce HF.out.nl
  have HNl := Lib.hid hNL
  rw [← hNL] at hbl
  have HBld := Lib.hid hbl
  clear hNL hbl
  go_wp2_with (with_reducible refine stop_build 76 _ rfl ?_)
  refine Stop.go ?_
  refine wpList_buildTo rfl 76 _ rfl _ rfl NL.toArray ?_ ?_
  · rw [List.map_toArray]; exact HBld.out
  go_wp2_with (with_reducible refine stop_dst 116 rfl ?_)
  refine Stop.go ?_
  have HS9 : Hid (AskS w g gf gr f { A with step := RP.zero, now := .counting f.nonce } (w2.setCell ⟨g, 35, none⟩ (Value.iface 76 (.agg NL.toArray)))) := Lib.hid (by rw [HNl.out]; exact HS2.out.putNow (.counting f.nonce) ⟨HF.out.nl, HF.out.nb⟩)
  generalize w2.setCell ⟨g, 35, none⟩ (Value.iface 76 (.agg NL.toArray)) = w9 at HS9 ⊢
  obtain ⟨SL, hSL⟩ : ∃ SL, SL = ({ A with step := RP.zero, now := .counting f.nonce }).step.cells := ⟨_, rfl⟩
  have hsl : SL.length = 67 := by rw [hSL]; exact RP.len HS9.out.ok.step
  have HR9 : Hid (w9.rangeAt g 37 SL) := Lib.hid (by rw [hSL]; exact HS9.out.area.step HS9.out.ok)
  have HO9 : Hid (SL.toArray.all (·.oneCell') = true) := Lib.hid (by rw [hSL]; exact RP.one _)
  have HI9 : Hid ((Try.prog.info? 43).map (·.size) = some SL.length) := Lib.hid (by rw [hsl]; exact info_sp)
  have HZ9 : Hid (zP.size = SL.toArray.size) := Lib.hid (by rw [show SL.toArray.size = 67 by rw [List.size_toArray, hsl]]; rfl)
  have HJ9 : Hid ((Try.prog.info? 43).map (·.size) = some SL.toArray.size) := Lib.hid (by rw [List.size_toArray, hsl]; exact info_sp)
  have HG9 : Hid (w9.heap[gr]? = some (.cells zP 43 (0, 0))) := Lib.hid HS9.out.res
  have HV9 : Hid (POST = fun e w' => e = .returned (.agg SL.toArray) ∧ AreaAt w' g ({ A with step := RP.zero, now := .counting f.nonce }) ∧ w.grownBy w' (some g)) := Lib.hid (by rw [HPOST.out, hSL]; rfl)
  have HF9 := Lib.hid (HS9.out.fin SL.toArray)
  clear hSL hsl
  refine wpList_load_mid rfl 43 (.tmp 115) rfl g 37 rfl SL _ HR9.out Try.underlying43 rfl HI9.out ?_
  go_wp2_with (with_reducible refine wpList_store_row rfl 43 (.tmp 4) (.tmp 116) rfl gr SL.toArray rfl rfl 43 _ HG9.out HJ9.out HZ9.out HO9.out ?_)
  rw [HV9.out]
  exact bodyPost_ret (results_cell_row (p := 4) (by kernel_rfl) _ _ gr 43 SL.toArray (0, 0) _ rfl HF9.out.2.2 Try.underlying43 rfl HJ9.out) rfl ⟨rfl, HF9.out.1, HF9.out.2.1⟩

set_option maxRecDepth 100000 in
set_option maxHeartbeats 4000000 in
theorem ask_read (A : RA) (f : RF) (g : Nat) (w : World) (h : AreaAt w g A) (hA : A.Ok) (hf : f.Ok) (hty : f.typ = 4) (hE : A.ask f = { A with step := RP.zero, now := .reading f.nonce f.addr }) :
    Calls Try.prog 12 #[.pointer (some ⟨g, 0, none⟩), f.val] w (AskQ w g (A.ask f)) := by
  rw [hE]
  obtain ⟨POST, hPOST⟩ : ∃ Q : Ending → World → Prop, Q = AskQ w g { A with step := RP.zero, now := .reading f.nonce f.addr } := ⟨_, rfl⟩
  rw [← hPOST]
  have HPOST := Lib.hid hPOST
  have HF := Lib.hid hf
  have HS := Lib.hid (AskS.start (f := f) h hA)
  unfold RF.val
  obtain ⟨C, hC⟩ : ∃ C, C = f.cells.toArray := ⟨_, rfl⟩
  have HC := Lib.hid hC
  rw [← hC] at HS ⊢
  have HIf : Hid ((Try.prog.info? 37).map (·.size) = some C.size) := Lib.hid (by rw [hC, List.size_toArray, RF.cells_len hf]; exact info_fr)
  have HIp : Hid ((Try.prog.info? 43).map (·.size) = some zP.size) := Lib.hid info_sp
  have HTh0 : Hid (((w.alloc (.cells C 37)).alloc (.cells zP 43)).there g 37 zP.size) := Lib.hid (HS.out.area.there hA (by decide))
  have HTy : Hid (f.typ = 4) := Lib.hid hty
  clear hC hPOST h hA hf hE hty
  go_enter Try.func12, Try.ntmps12
  go_wp2_with (with_reducible refine wpList_store_mid rfl 43 (.tmp 9) (.tmp 7) rfl g 37 zP rfl rfl HTh0.out HIp.out zP_one ?_; refine Stop.mk ?_)
  refine Stop.go ?_
  have HS2 : Hid (AskS w g w.heap.size (w.heap.size + 1) f { A with step := RP.zero } (((w.alloc (.cells C 37)).alloc (.cells zP 43)).setCells g 37 zP.toList)) := Lib.hid (by rw [zP_list]; exact HS.out.putStep RP.zero_ok)
  generalize ((w.alloc (.cells C 37)).alloc (.cells zP 43)).setCells g 37 zP.toList = w2 at HS2 ⊢
  obtain ⟨gf, hgf⟩ : ∃ gf, gf = w.heap.size := ⟨_, rfl⟩
  obtain ⟨gr, hgr⟩ : ∃ gr, gr = w.heap.size + 1 := ⟨_, rfl⟩
  rw [← hgr, ← hgf] at HS2 ⊢
  clear hgf hgr HS HTh0
  have hty : w2.cell? ⟨gf, 116, none⟩ = some (.int .i64 (4)) := by rw [← HTy.out]; exact RF.tail_at HF.out HS2.out.box 4 _ rfl
  have hlt2 := HS2.out.area.lt
  have hfr : ∀ i, w2.frozen? ⟨g, i, none⟩ = false := HS2.out.area.free
  have h35 := HS2.out.area.now HS2.out.ok
  obtain ⟨NL, hNL⟩ : ∃ NL, NL = u8s f.nonce := ⟨_, rfl⟩
  have HNt : Hid (w2.rangeAt gf 96 NL) := Lib.hid (by rw [hNL]; exact RF.nonce_at HF.out HS2.out.box)
  have HIn : Hid ((Try.prog.info? 35).map (·.size) = some NL.length) := Lib.hid (by rw [hNL, u8s_len, HF.out.nl]; exact info_n16)
  have hca : w2.cell? ⟨gf, 113, none⟩ = some (.int .i64 f.addr) := RF.tail_at HF.out HS2.out.box 1 _ rfl
  go_wp2_with (with_reducible refine stop_dst 97 rfl ?_)
  refine Stop.go ?_
  refine wpList_load_mid rfl 35 (.tmp 96) rfl gf 96 rfl NL _ HNt.out Try.underlying35 rfl HIn.out ?_
  have hbl := built_rd f.nonce HF.out.nl f.addr
  obtain ⟨NB, hNB⟩ : ∃ NB, NB = (u8s f.nonce ++ [Value.int .i64 f.addr]).toArray := ⟨_, rfl⟩
  have HNb := Lib.hid hNB
  rw [← hNB, ← hNL] at hbl
  have HBld := Lib.hid hbl
  clear hNL hbl hNB
  go_wp2_with (with_reducible refine stop_build 78 _ rfl ?_)
  refine Stop.go ?_
  refine wpList_buildTo rfl 78 _ rfl _ rfl NB ?_ ?_
  · rw [List.map_toArray]; exact HBld.out
  go_wp2_with (with_reducible refine stop_dst 116 rfl ?_)
  refine Stop.go ?_
  have HS9 : Hid (AskS w g gf gr f { A with step := RP.zero, now := .reading f.nonce f.addr } (w2.setCell ⟨g, 35, none⟩ (Value.iface 78 (.agg NB)))) := Lib.hid (by rw [HNb.out]; exact HS2.out.putNow (.reading f.nonce f.addr) ⟨⟨HF.out.nl, HF.out.nb⟩, HF.out.i1⟩)
  generalize w2.setCell ⟨g, 35, none⟩ (Value.iface 78 (.agg NB)) = w9 at HS9 ⊢
  obtain ⟨SL, hSL⟩ : ∃ SL, SL = ({ A with step := RP.zero, now := .reading f.nonce f.addr }).step.cells := ⟨_, rfl⟩
  have hsl : SL.length = 67 := by rw [hSL]; exact RP.len HS9.out.ok.step
  have HR9 : Hid (w9.rangeAt g 37 SL) := Lib.hid (by rw [hSL]; exact HS9.out.area.step HS9.out.ok)
  have HO9 : Hid (SL.toArray.all (·.oneCell') = true) := Lib.hid (by rw [hSL]; exact RP.one _)
  have HI9 : Hid ((Try.prog.info? 43).map (·.size) = some SL.length) := Lib.hid (by rw [hsl]; exact info_sp)
  have HZ9 : Hid (zP.size = SL.toArray.size) := Lib.hid (by rw [show SL.toArray.size = 67 by rw [List.size_toArray, hsl]]; rfl)
  have HJ9 : Hid ((Try.prog.info? 43).map (·.size) = some SL.toArray.size) := Lib.hid (by rw [List.size_toArray, hsl]; exact info_sp)
  have HG9 : Hid (w9.heap[gr]? = some (.cells zP 43 (0, 0))) := Lib.hid HS9.out.res
  have HV9 : Hid (POST = fun e w' => e = .returned (.agg SL.toArray) ∧ AreaAt w' g ({ A with step := RP.zero, now := .reading f.nonce f.addr }) ∧ w.grownBy w' (some g)) := Lib.hid (by rw [HPOST.out, hSL]; rfl)
  have HF9 := Lib.hid (HS9.out.fin SL.toArray)
  clear hSL hsl
  refine wpList_load_mid rfl 43 (.tmp 115) rfl g 37 rfl SL _ HR9.out Try.underlying43 rfl HI9.out ?_
  go_wp2_with (with_reducible refine wpList_store_row rfl 43 (.tmp 4) (.tmp 116) rfl gr SL.toArray rfl rfl 43 _ HG9.out HJ9.out HZ9.out HO9.out ?_)
  rw [HV9.out]
  exact bodyPost_ret (results_cell_row (p := 4) (by kernel_rfl) _ _ gr 43 SL.toArray (0, 0) _ rfl HF9.out.2.2 Try.underlying43 rfl HJ9.out) rfl ⟨rfl, HF9.out.1, HF9.out.2.1⟩

set_option maxRecDepth 100000 in
set_option maxHeartbeats 4000000 in
theorem ask_result (A : RA) (f : RF) (g : Nat) (w : World) (h : AreaAt w g A) (hA : A.Ok) (hf : f.Ok) (hty : f.typ = 5) (hE : A.ask f = { A with step := RP.zero, now := A.last }) :
    Calls Try.prog 12 #[.pointer (some ⟨g, 0, none⟩), f.val] w (AskQ w g (A.ask f)) := by
  rw [hE]
  obtain ⟨POST, hPOST⟩ : ∃ Q : Ending → World → Prop, Q = AskQ w g { A with step := RP.zero, now := A.last } := ⟨_, rfl⟩
  rw [← hPOST]
  have HPOST := Lib.hid hPOST
  have HF := Lib.hid hf
  have HS := Lib.hid (AskS.start (f := f) h hA)
  unfold RF.val
  obtain ⟨C, hC⟩ : ∃ C, C = f.cells.toArray := ⟨_, rfl⟩
  have HC := Lib.hid hC
  rw [← hC] at HS ⊢
  have HIf : Hid ((Try.prog.info? 37).map (·.size) = some C.size) := Lib.hid (by rw [hC, List.size_toArray, RF.cells_len hf]; exact info_fr)
  have HIp : Hid ((Try.prog.info? 43).map (·.size) = some zP.size) := Lib.hid info_sp
  have HTh0 : Hid (((w.alloc (.cells C 37)).alloc (.cells zP 43)).there g 37 zP.size) := Lib.hid (HS.out.area.there hA (by decide))
  have HTy : Hid (f.typ = 5) := Lib.hid hty
  clear hC hPOST h hA hf hE hty
  go_enter Try.func12, Try.ntmps12
  go_wp2_with (with_reducible refine wpList_store_mid rfl 43 (.tmp 9) (.tmp 7) rfl g 37 zP rfl rfl HTh0.out HIp.out zP_one ?_; refine Stop.mk ?_)
  refine Stop.go ?_
  have HS2 : Hid (AskS w g w.heap.size (w.heap.size + 1) f { A with step := RP.zero } (((w.alloc (.cells C 37)).alloc (.cells zP 43)).setCells g 37 zP.toList)) := Lib.hid (by rw [zP_list]; exact HS.out.putStep RP.zero_ok)
  generalize ((w.alloc (.cells C 37)).alloc (.cells zP 43)).setCells g 37 zP.toList = w2 at HS2 ⊢
  obtain ⟨gf, hgf⟩ : ∃ gf, gf = w.heap.size := ⟨_, rfl⟩
  obtain ⟨gr, hgr⟩ : ∃ gr, gr = w.heap.size + 1 := ⟨_, rfl⟩
  rw [← hgr, ← hgf] at HS2 ⊢
  clear hgf hgr HS HTh0
  have hty : w2.cell? ⟨gf, 116, none⟩ = some (.int .i64 (5)) := by rw [← HTy.out]; exact RF.tail_at HF.out HS2.out.box 4 _ rfl
  have hlt2 := HS2.out.area.lt
  have hfr : ∀ i, w2.frozen? ⟨g, i, none⟩ = false := HS2.out.area.free
  have h35 := HS2.out.area.now HS2.out.ok
  obtain ⟨VL, hVL⟩ : ∃ VL, VL = A.last.val := ⟨_, rfl⟩
  have h36 : w2.cell? ⟨g, 36, none⟩ = some VL := by rw [hVL]; exact HS2.out.area.last HS2.out.ok
  have HVL := Lib.hid hVL
  have hv1 : VL.cells = #[VL] := by rw [hVL]; cases A.last <;> rfl
  have hv2 : VL.oneCell' = true := by rw [hVL]; cases A.last <;> rfl
  clear hVL
  go_wp2_with (with_reducible refine stop_store 112 _ _ rfl ?_)
  refine Stop.go ?_
  refine wpList_store_one rfl 20 (.tmp 112) (.tmp 110) rfl g 35 VL rfl rfl (HS2.out.area.there HS2.out.ok (by decide)) (by kernel_rfl) hv1 hv2 ?_
  go_wp2_with (with_reducible refine stop_dst 116 rfl ?_)
  refine Stop.go ?_
  have HS9 : Hid (AskS w g gf gr f { A with step := RP.zero, now := A.last } (w2.setCell ⟨g, 35, none⟩ VL)) := Lib.hid (by rw [HVL.out]; exact HS2.out.putNow A.last HS2.out.ok.last)
  generalize w2.setCell ⟨g, 35, none⟩ VL = w9 at HS9 ⊢
  obtain ⟨SL, hSL⟩ : ∃ SL, SL = ({ A with step := RP.zero, now := A.last }).step.cells := ⟨_, rfl⟩
  have hsl : SL.length = 67 := by rw [hSL]; exact RP.len HS9.out.ok.step
  have HR9 : Hid (w9.rangeAt g 37 SL) := Lib.hid (by rw [hSL]; exact HS9.out.area.step HS9.out.ok)
  have HO9 : Hid (SL.toArray.all (·.oneCell') = true) := Lib.hid (by rw [hSL]; exact RP.one _)
  have HI9 : Hid ((Try.prog.info? 43).map (·.size) = some SL.length) := Lib.hid (by rw [hsl]; exact info_sp)
  have HZ9 : Hid (zP.size = SL.toArray.size) := Lib.hid (by rw [show SL.toArray.size = 67 by rw [List.size_toArray, hsl]]; rfl)
  have HJ9 : Hid ((Try.prog.info? 43).map (·.size) = some SL.toArray.size) := Lib.hid (by rw [List.size_toArray, hsl]; exact info_sp)
  have HG9 : Hid (w9.heap[gr]? = some (.cells zP 43 (0, 0))) := Lib.hid HS9.out.res
  have HV9 : Hid (POST = fun e w' => e = .returned (.agg SL.toArray) ∧ AreaAt w' g ({ A with step := RP.zero, now := A.last }) ∧ w.grownBy w' (some g)) := Lib.hid (by rw [HPOST.out, hSL]; rfl)
  have HF9 := Lib.hid (HS9.out.fin SL.toArray)
  clear hSL hsl
  refine wpList_load_mid rfl 43 (.tmp 115) rfl g 37 rfl SL _ HR9.out Try.underlying43 rfl HI9.out ?_
  go_wp2_with (with_reducible refine wpList_store_row rfl 43 (.tmp 4) (.tmp 116) rfl gr SL.toArray rfl rfl 43 _ HG9.out HJ9.out HZ9.out HO9.out ?_)
  rw [HV9.out]
  exact bodyPost_ret (results_cell_row (p := 4) (by kernel_rfl) _ _ gr 43 SL.toArray (0, 0) _ rfl HF9.out.2.2 Try.underlying43 rfl HJ9.out) rfl ⟨rfl, HF9.out.1, HF9.out.2.1⟩

set_option maxRecDepth 100000 in
set_option maxHeartbeats 4000000 in
theorem ask_other (A : RA) (f : RF) (g : Nat) (w : World) (h : AreaAt w g A) (hA : A.Ok) (hf : f.Ok) (n1 : f.typ ≠ 1) (n3 : f.typ ≠ 3) (n2 : f.typ ≠ 2) (n4 : f.typ ≠ 4) (n5 : f.typ ≠ 5) (hE : A.ask f = { A with step := RP.zero, now := .other f.typ }) :
    Calls Try.prog 12 #[.pointer (some ⟨g, 0, none⟩), f.val] w (AskQ w g (A.ask f)) := by
  rw [hE]
  obtain ⟨POST, hPOST⟩ : ∃ Q : Ending → World → Prop, Q = AskQ w g { A with step := RP.zero, now := .other f.typ } := ⟨_, rfl⟩
  rw [← hPOST]
  have HPOST := Lib.hid hPOST
  have HF := Lib.hid hf
  have HS := Lib.hid (AskS.start (f := f) h hA)
  unfold RF.val
  obtain ⟨C, hC⟩ : ∃ C, C = f.cells.toArray := ⟨_, rfl⟩
  have HC := Lib.hid hC
  rw [← hC] at HS ⊢
  have HIf : Hid ((Try.prog.info? 37).map (·.size) = some C.size) := Lib.hid (by rw [hC, List.size_toArray, RF.cells_len hf]; exact info_fr)
  have HIp : Hid ((Try.prog.info? 43).map (·.size) = some zP.size) := Lib.hid info_sp
  have HTh0 : Hid (((w.alloc (.cells C 37)).alloc (.cells zP 43)).there g 37 zP.size) := Lib.hid (HS.out.area.there hA (by decide))
  have t1 : (f.typ == 1) = false := by simpa using n1
  have t3 : (f.typ == 3) = false := by simpa using n3
  have t2 : (f.typ == 2) = false := by simpa using n2
  have t4 : (f.typ == 4) = false := by simpa using n4
  have t5 : (f.typ == 5) = false := by simpa using n5
  clear n1 n2 n3 n4 n5
  clear hC hPOST h hA hf hE
  go_enter Try.func12, Try.ntmps12
  go_wp2_with (with_reducible refine wpList_store_mid rfl 43 (.tmp 9) (.tmp 7) rfl g 37 zP rfl rfl HTh0.out HIp.out zP_one ?_; refine Stop.mk ?_)
  refine Stop.go ?_
  have HS2 : Hid (AskS w g w.heap.size (w.heap.size + 1) f { A with step := RP.zero } (((w.alloc (.cells C 37)).alloc (.cells zP 43)).setCells g 37 zP.toList)) := Lib.hid (by rw [zP_list]; exact HS.out.putStep RP.zero_ok)
  generalize ((w.alloc (.cells C 37)).alloc (.cells zP 43)).setCells g 37 zP.toList = w2 at HS2 ⊢
  obtain ⟨gf, hgf⟩ : ∃ gf, gf = w.heap.size := ⟨_, rfl⟩
  obtain ⟨gr, hgr⟩ : ∃ gr, gr = w.heap.size + 1 := ⟨_, rfl⟩
  rw [← hgr, ← hgf] at HS2 ⊢
  clear hgf hgr HS HTh0
  have hty : w2.cell? ⟨gf, 116, none⟩ = some (.int .i64 (f.typ)) := by exact RF.tail_at HF.out HS2.out.box 4 _ rfl
  have hlt2 := HS2.out.area.lt
  have hfr : ∀ i, w2.frozen? ⟨g, i, none⟩ = false := HS2.out.area.free
  have h35 := HS2.out.area.now HS2.out.ok
  go_wp2_with (with_reducible refine stop_dst 116 rfl ?_)
  refine Stop.go ?_
  have HS9 : Hid (AskS w g gf gr f { A with step := RP.zero, now := .other f.typ } (w2.setCell ⟨g, 35, none⟩ (Value.iface 80 (.agg #[Value.int .i64 f.typ])))) := Lib.hid (HS2.out.putNow (.other f.typ) HF.out.i4)
  generalize w2.setCell ⟨g, 35, none⟩ (Value.iface 80 (.agg #[Value.int .i64 f.typ])) = w9 at HS9 ⊢
  obtain ⟨SL, hSL⟩ : ∃ SL, SL = ({ A with step := RP.zero, now := .other f.typ }).step.cells := ⟨_, rfl⟩
  have hsl : SL.length = 67 := by rw [hSL]; exact RP.len HS9.out.ok.step
  have HR9 : Hid (w9.rangeAt g 37 SL) := Lib.hid (by rw [hSL]; exact HS9.out.area.step HS9.out.ok)
  have HO9 : Hid (SL.toArray.all (·.oneCell') = true) := Lib.hid (by rw [hSL]; exact RP.one _)
  have HI9 : Hid ((Try.prog.info? 43).map (·.size) = some SL.length) := Lib.hid (by rw [hsl]; exact info_sp)
  have HZ9 : Hid (zP.size = SL.toArray.size) := Lib.hid (by rw [show SL.toArray.size = 67 by rw [List.size_toArray, hsl]]; rfl)
  have HJ9 : Hid ((Try.prog.info? 43).map (·.size) = some SL.toArray.size) := Lib.hid (by rw [List.size_toArray, hsl]; exact info_sp)
  have HG9 : Hid (w9.heap[gr]? = some (.cells zP 43 (0, 0))) := Lib.hid HS9.out.res
  have HV9 : Hid (POST = fun e w' => e = .returned (.agg SL.toArray) ∧ AreaAt w' g ({ A with step := RP.zero, now := .other f.typ }) ∧ w.grownBy w' (some g)) := Lib.hid (by rw [HPOST.out, hSL]; rfl)
  have HF9 := Lib.hid (HS9.out.fin SL.toArray)
  clear hSL hsl
  refine wpList_load_mid rfl 43 (.tmp 115) rfl g 37 rfl SL _ HR9.out Try.underlying43 rfl HI9.out ?_
  go_wp2_with (with_reducible refine wpList_store_row rfl 43 (.tmp 4) (.tmp 116) rfl gr SL.toArray rfl rfl 43 _ HG9.out HJ9.out HZ9.out HO9.out ?_)
  rw [HV9.out]
  exact bodyPost_ret (results_cell_row (p := 4) (by kernel_rfl) _ _ gr 43 SL.toArray (0, 0) _ rfl HF9.out.2.2 Try.underlying43 rfl HJ9.out) rfl ⟨rfl, HF9.out.1, HF9.out.2.1⟩
end Go.Proofs.Ytkdjimcpdbpemaa
