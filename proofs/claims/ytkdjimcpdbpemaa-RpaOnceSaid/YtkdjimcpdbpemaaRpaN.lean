/- rpa: Answer: the walks, a theorem for each branch. -/
import Derived.Test.YtkdjimcpdbpemaaRpaM
namespace Go.Proofs.Ytkdjimcpdbpemaa
open Go Go.RowKit
set_option linter.unusedVariables false

/-- The area, the result's box and another. -/
structure AnsS (w0 : World) (g gx : Nat) (A : RA) (X : Array Value) (T : TypeId) (w : World) : Prop where
  be : Below w0.heap.size w0 w
  area : AreaAt w g A
  box : HasB w gx X T
  res : HasB w w0.heap.size zF 37
  l0 : g < w0.heap.size
  l1 : w0.heap.size < gx
theorem AnsS.below {w0 w w' : World} {g gx : Nat} {A : RA} {X : Array Value} {T : TypeId} (h : AnsS w0 g gx A X T w) (hb : Below w.heap.size w w') : AnsS w0 g gx A X T w' :=
  ⟨h.be.trans (hb.mono h.be.size), h.area.below hb, h.box.below hb h.box.lt, h.res.below hb h.res.lt, h.l0, h.l1⟩
theorem AnsS.start {w : World} {g : Nat} {A : RA} (h : AreaAt w g A) (X : Array Value) (T : TypeId) : AnsS w g (w.heap.size + 1) A X T ((w.alloc (.cells zF 37)).alloc (.cells X T)) :=
  ⟨((Below.refl _ _).alloc (Nat.le_refl _) _).alloc (by simp) _, h.below (((Below.refl _ _).alloc (Nat.le_refl _) _).alloc (by simp) _), HasB.new' (by simp) _ _, (HasB.new w _ _).alloc _, h.lt, Nat.lt_succ_self _⟩
theorem AnsS.fin {w0 w : World} {g gx : Nat} {A : RA} {X : Array Value} {T : TypeId} (h : AnsS w0 g gx A X T w) (R : Array Value) : (w.setRow w0.heap.size R).heap[w0.heap.size]? = some (.cells R 37 (0, 0)) ∧ Below w0.heap.size w0 (w.setRow w0.heap.size R) ∧ HasB (w.setRow w0.heap.size R) gx X T ∧ AreaAt (w.setRow w0.heap.size R) g A := by
  have h0 := h.l0
  have h1 := h.l1
  exact ⟨setRow_heap _ _ _ R 37 (0, 0) h.res, below_setRow h.be (Nat.le_refl _) R, (setRow_other _ _ _ _ (by omega)).trans h.box, (setRow_other _ _ _ _ (by omega)).trans h.area⟩
theorem built_k (r : Int) : Try.prog.built 37 [(7, .int .i64 256), (6, .int .i64 r)] = some ({ RF.zero with typ := 256, res := r } : RF).cells.toArray := by
  rw [built_frame, fillF_typ RF.zero_ok, fillF_res (RF.with_typ RF.zero_ok (i64k (by decide)))]
  rfl
theorem built_w (r a : Int) (c : Nat) (hr : I64 r) (ha : I64 a) : Try.prog.built 37 [(7, .int .i64 768), (6, .int .i64 r), (4, .int .i64 a), (3, .int .u32 (c : Int))] = some ({ RF.zero with typ := 768, res := r, addr := a, ctr := c } : RF).cells.toArray := by
  have o1 := RF.with_typ RF.zero_ok (x := 768) (i64k (by decide))
  have o2 := RF.with_res o1 hr
  rw [built_frame, fillF_typ RF.zero_ok, fillF_res o1, fillF_addr o2, fillF_ctr (RF.with_addr o2 ha)]
  rfl
theorem built_c7 (n : List Nat) (hn : n.length = 16 ∧ ∀ c ∈ n, c < 256) : Try.prog.built 37 [(7, .int .i64 512), (2, .agg (u8s n).toArray), (6, .int .i64 7)] = some ({ RF.zero with typ := 512, nonce := n, res := 7 } : RF).cells.toArray := by
  have o1 := RF.with_typ RF.zero_ok (x := 512) (i64k (by decide))
  rw [built_frame, fillF_typ RF.zero_ok, fillF_nonce o1 n hn.1, fillF_res (RF.with_nonce o1 hn)]
  rfl
theorem built_c (n : List Nat) (c : Nat) (hn : n.length = 16 ∧ ∀ c ∈ n, c < 256) : Try.prog.built 37 [(7, .int .i64 512), (2, .agg (u8s n).toArray), (3, .int .u32 (c : Int))] = some ({ RF.zero with typ := 512, nonce := n, ctr := c } : RF).cells.toArray := by
  have o1 := RF.with_typ RF.zero_ok (x := 512) (i64k (by decide))
  rw [built_frame, fillF_typ RF.zero_ok, fillF_nonce o1 n hn.1, fillF_ctr (RF.with_nonce o1 hn)]
  rfl
theorem wrap_ok (n : Int) : I64 (IntKind.i64.wrap n) := by rw [IntKind.wrap_i64]; unfold I64; omega
theorem built_o (t : Int) (ht : I64 t) : Try.prog.built 37 [(7, .int .i64 t), (6, .int .i64 1)] = some ({ RF.zero with typ := t, res := 1 } : RF).cells.toArray := by
  rw [built_frame, fillF_typ RF.zero_ok, fillF_res (RF.with_typ RF.zero_ok ht)]
  rfl
theorem info_ct : (Try.prog.info? 76).map (·.size) = some 16 := by kernel_rfl
theorem one_rd (n : List Nat) (a : Int) : (u8s n ++ [Value.int .i64 a]).toArray.all (·.oneCell') = true := by
  apply all_oneCell_toArray
  intro v hv
  rcases List.mem_append.1 hv with q | q
  · exact u8s_one _ v q
  · simp at q; subst q; rfl
theorem info_rd : (Try.prog.info? 78).map (·.size) = some (16 + [Value.int .i64 0].length) := by kernel_rfl
set_option maxRecDepth 100000 in
set_option maxHeartbeats 4000000 in
theorem answer_none (A : RA) (d : List Nat) (ok : Bool) (F : FuncId) (caps : Array Value) (g : Nat) (w : World) (h : AreaAt w g A) (hA : A.Ok) (hn : A.now = .none) :
    Calls Try.prog 21 #[.pointer (some ⟨g, 0, none⟩), .func (.func F) #[] caps] w fun e w' => e = .returned (A.answer d ok).val ∧ Below w.heap.size w w' := by
  obtain ⟨POST, hPOST⟩ : ∃ Q : Ending → World → Prop, Q = fun e w' => e = .returned (A.answer d ok).val ∧ Below w.heap.size w w' := ⟨_, rfl⟩
  rw [← hPOST]
  have HA := Lib.hid hA
  have HN := Lib.hid hn
  have h35 : (w.alloc (.cells zF 37)).cell? ⟨g, 35, none⟩ = some .nilIface := by have := (h.below ((Below.refl _ _).alloc (Nat.le_refl _) (.cells zF 37))).now hA; rw [show RN.val _ = _ from congrArg RN.val hn] at this; exact this
  have ha_keying : ∀ w, (Instr.typeAssert .nilIface 20 71 true).run Try.prog w = .ok (.tuple #[(.agg #[.int .i64 0]), .bool false]) w := fun w => rfl
  have ha_writing : ∀ w, (Instr.typeAssert .nilIface 20 74 true).run Try.prog w = .ok (.tuple #[(.agg #[.int .i64 0, .int .i64 0]), .bool false]) w := fun w => rfl
  have ha_counting : ∀ w, (Instr.typeAssert .nilIface 20 76 true).run Try.prog w = .ok (.tuple #[(.agg #[Value.int .u8 0, Value.int .u8 0, Value.int .u8 0, Value.int .u8 0, Value.int .u8 0, Value.int .u8 0, Value.int .u8 0, Value.int .u8 0, Value.int .u8 0, Value.int .u8 0, Value.int .u8 0, Value.int .u8 0, Value.int .u8 0, Value.int .u8 0, Value.int .u8 0, Value.int .u8 0]), .bool false]) w := fun w => rfl
  have ha_reading : ∀ w, (Instr.typeAssert .nilIface 20 78 true).run Try.prog w = .ok (.tuple #[(.agg #[Value.int .u8 0, Value.int .u8 0, Value.int .u8 0, Value.int .u8 0, Value.int .u8 0, Value.int .u8 0, Value.int .u8 0, Value.int .u8 0, Value.int .u8 0, Value.int .u8 0, Value.int .u8 0, Value.int .u8 0, Value.int .u8 0, Value.int .u8 0, Value.int .u8 0, Value.int .u8 0, .int .i64 0]), .bool false]) w := fun w => rfl
  have ha_other : ∀ w, (Instr.typeAssert .nilIface 20 80 true).run Try.prog w = .ok (.tuple #[(.agg #[.int .i64 0]), .bool false]) w := fun w => rfl
  have hro : (RF.zero : RF).Ok := RF.zero_ok
  have hpo : POST = fun e w' => e = .returned (.agg (RF.zero : RF).cells.toArray) ∧ Below w.heap.size w w' := by rw [hPOST]; unfold RA.answer; rw [hn]; rfl
  obtain ⟨R, hR⟩ : ∃ R, R = (RF.zero : RF).cells.toArray := ⟨_, rfl⟩
  rw [← hR] at hpo
  have HPo := Lib.hid hpo
  have HIr : Hid ((Try.prog.info? 37).map (·.size) = some R.size) := Lib.hid (by rw [hR]; exact info_f hro)
  have HOr : Hid (zF.size = R.size) := Lib.hid (by rw [hR]; exact old_f hro)
  have HNr : Hid (R.all (·.oneCell') = true) := Lib.hid (by rw [hR]; exact RF.one _)
  have HS1 : Hid ((w.alloc (.cells zF 37)).heap[w.heap.size]? = some (.cells zF 37 (0, 0)) ∧ Below w.heap.size w (w.alloc (.cells zF 37))) := Lib.hid ⟨HasB.new w _ _, (Below.refl _ _).alloc (Nat.le_refl _) _⟩
  obtain rfl : R = zF := hR
  clear hPOST hpo h hA hn hro
  go_enter Try.func21, Try.ntmps21
  go_wp2_with (with_reducible refine wpList_store_row rfl 37 (.tmp 4) (.tmp 71) rfl w.heap.size zF rfl rfl 37 _ HS1.out.1 HIr.out HOr.out HNr.out ?_; rw [World.setRow_alloc_new])
  rw [HPo.out]
  exact bodyPost_ret (results_cell_row (p := 4) (by kernel_rfl) _ _ w.heap.size 37 zF (0, 0) _ rfl HS1.out.1 Try.underlying37 rfl HIr.out) rfl ⟨rfl, HS1.out.2⟩

set_option maxRecDepth 100000 in
set_option maxHeartbeats 4000000 in
theorem answer_key (A : RA) (d : List Nat) (ok : Bool) (F : FuncId) (caps : Array Value) (g : Nat) (w : World) (h : AreaAt w g A) (hA : A.Ok) (r : Int) (hn : A.now = .keying r) :
    Calls Try.prog 21 #[.pointer (some ⟨g, 0, none⟩), .func (.func F) #[] caps] w fun e w' => e = .returned (A.answer d ok).val ∧ Below w.heap.size w w' := by
  obtain ⟨POST, hPOST⟩ : ∃ Q : Ending → World → Prop, Q = fun e w' => e = .returned (A.answer d ok).val ∧ Below w.heap.size w w' := ⟨_, rfl⟩
  rw [← hPOST]
  have HA := Lib.hid hA
  have HN := Lib.hid hn
  have hr : I64 r := by have := hA.now; rw [hn] at this; exact this
  have h35 : (w.alloc (.cells zF 37)).cell? ⟨g, 35, none⟩ = some (Value.iface 71 (.agg #[.int .i64 r])) := by have := (h.below ((Below.refl _ _).alloc (Nat.le_refl _) (.cells zF 37))).now hA; rw [show RN.val _ = _ from congrArg RN.val hn] at this; exact this
  have HS := Lib.hid (AnsS.start h #[.int .i64 r] 71)
  have ha_keying : ∀ v w, (Instr.typeAssert (.iface 71 v) 20 71 true).run Try.prog w = .ok (.tuple #[v, .bool true]) w := fun v w => rfl
  have hro : ({ RF.zero with typ := 256, res := r } : RF).Ok := RF.with_res (RF.with_typ RF.zero_ok (x := 256) (i64k (by decide))) hr
  have hpo : POST = fun e w' => e = .returned (.agg ({ RF.zero with typ := 256, res := r } : RF).cells.toArray) ∧ Below w.heap.size w w' := by rw [hPOST]; unfold RA.answer; rw [hn]; rfl
  obtain ⟨R, hR⟩ : ∃ R, R = ({ RF.zero with typ := 256, res := r } : RF).cells.toArray := ⟨_, rfl⟩
  rw [← hR] at hpo
  have HPo := Lib.hid hpo
  have HIr : Hid ((Try.prog.info? 37).map (·.size) = some R.size) := Lib.hid (by rw [hR]; exact info_f hro)
  have HOr : Hid (zF.size = R.size) := Lib.hid (by rw [hR]; exact old_f hro)
  have HNr : Hid (R.all (·.oneCell') = true) := Lib.hid (by rw [hR]; exact RF.one _)
  have hbl := built_k r
  rw [← hR] at hbl
  have HBl := Lib.hid hbl
  clear hbl
  clear hPOST hpo h hA hn hR hro
  go_enter Try.func21, Try.ntmps21
  go_wp2_with (with_reducible refine stop_build 37 _ rfl ?_)
  refine Stop.go ?_
  generalize (w.alloc (.cells zF 37)).alloc (.cells #[.int .i64 r] 71) = w2 at HS ⊢
  obtain ⟨gx, hgx⟩ : ∃ gx, gx = w.heap.size + 1 := ⟨_, rfl⟩
  rw [← hgx] at HS ⊢
  clear hgx h35
  refine wpList_buildTo rfl 37 _ rfl _ rfl R ?_ ?_
  · rw [List.map_toArray]; exact HBl.out
  have HQz : Hid (w2.heap[w.heap.size]? = some (.cells zF 37 (0, 0))) := Lib.hid HS.out.res
  have HW := Lib.hid (HS.out.fin R)
  go_wp2_with (with_reducible refine wpList_store_row rfl 37 (.tmp 4) (.tmp 19) rfl w.heap.size R rfl rfl 37 _ HQz.out HIr.out HOr.out HNr.out ?_)
  rw [HPo.out]
  exact bodyPost_ret (results_cell_row (p := 4) (by kernel_rfl) _ _ w.heap.size 37 R (0, 0) _ rfl HW.out.1 Try.underlying37 rfl HIr.out) rfl ⟨rfl, HW.out.2.1⟩

set_option maxRecDepth 100000 in
set_option maxHeartbeats 4000000 in
theorem answer_other (A : RA) (d : List Nat) (ok : Bool) (F : FuncId) (caps : Array Value) (g : Nat) (w : World) (h : AreaAt w g A) (hA : A.Ok) (k : Int) (hn : A.now = .other k) :
    Calls Try.prog 21 #[.pointer (some ⟨g, 0, none⟩), .func (.func F) #[] caps] w fun e w' => e = .returned (A.answer d ok).val ∧ Below w.heap.size w w' := by
  obtain ⟨POST, hPOST⟩ : ∃ Q : Ending → World → Prop, Q = fun e w' => e = .returned (A.answer d ok).val ∧ Below w.heap.size w w' := ⟨_, rfl⟩
  rw [← hPOST]
  have HA := Lib.hid hA
  have HN := Lib.hid hn
  have hT : I64 (IntKind.i64.wrap (k * 256)) := by rw [IntKind.wrap_i64]; unfold I64; omega
  have h35 : (w.alloc (.cells zF 37)).cell? ⟨g, 35, none⟩ = some (Value.iface 80 (.agg #[.int .i64 k])) := by have := (h.below ((Below.refl _ _).alloc (Nat.le_refl _) (.cells zF 37))).now hA; rw [show RN.val _ = _ from congrArg RN.val hn] at this; exact this
  have HS := Lib.hid (AnsS.start h #[.int .i64 k] 80)
  have ha_keying : ∀ v w, (Instr.typeAssert (.iface 80 v) 20 71 true).run Try.prog w = .ok (.tuple #[(.agg #[.int .i64 0]), .bool false]) w := fun v w => rfl
  have ha_writing : ∀ v w, (Instr.typeAssert (.iface 80 v) 20 74 true).run Try.prog w = .ok (.tuple #[(.agg #[.int .i64 0, .int .i64 0]), .bool false]) w := fun v w => rfl
  have ha_counting : ∀ v w, (Instr.typeAssert (.iface 80 v) 20 76 true).run Try.prog w = .ok (.tuple #[(.agg #[Value.int .u8 0, Value.int .u8 0, Value.int .u8 0, Value.int .u8 0, Value.int .u8 0, Value.int .u8 0, Value.int .u8 0, Value.int .u8 0, Value.int .u8 0, Value.int .u8 0, Value.int .u8 0, Value.int .u8 0, Value.int .u8 0, Value.int .u8 0, Value.int .u8 0, Value.int .u8 0]), .bool false]) w := fun v w => rfl
  have ha_reading : ∀ v w, (Instr.typeAssert (.iface 80 v) 20 78 true).run Try.prog w = .ok (.tuple #[(.agg #[Value.int .u8 0, Value.int .u8 0, Value.int .u8 0, Value.int .u8 0, Value.int .u8 0, Value.int .u8 0, Value.int .u8 0, Value.int .u8 0, Value.int .u8 0, Value.int .u8 0, Value.int .u8 0, Value.int .u8 0, Value.int .u8 0, Value.int .u8 0, Value.int .u8 0, Value.int .u8 0, .int .i64 0]), .bool false]) w := fun v w => rfl
  have ha_other : ∀ v w, (Instr.typeAssert (.iface 80 v) 20 80 true).run Try.prog w = .ok (.tuple #[v, .bool true]) w := fun v w => rfl
  have hro : ({ RF.zero with typ := IntKind.i64.wrap (k * 256), res := 1 } : RF).Ok := RF.with_res (RF.with_typ RF.zero_ok hT) (x := 1) (i64k (by decide))
  have hpo : POST = fun e w' => e = .returned (.agg ({ RF.zero with typ := IntKind.i64.wrap (k * 256), res := 1 } : RF).cells.toArray) ∧ Below w.heap.size w w' := by rw [hPOST]; unfold RA.answer; rw [hn]; rfl
  obtain ⟨R, hR⟩ : ∃ R, R = ({ RF.zero with typ := IntKind.i64.wrap (k * 256), res := 1 } : RF).cells.toArray := ⟨_, rfl⟩
  rw [← hR] at hpo
  have HPo := Lib.hid hpo
  have HIr : Hid ((Try.prog.info? 37).map (·.size) = some R.size) := Lib.hid (by rw [hR]; exact info_f hro)
  have HOr : Hid (zF.size = R.size) := Lib.hid (by rw [hR]; exact old_f hro)
  have HNr : Hid (R.all (·.oneCell') = true) := Lib.hid (by rw [hR]; exact RF.one _)
  have hbl := built_o (IntKind.i64.wrap (k * 256)) hT
  rw [← hR] at hbl
  obtain ⟨t, ht⟩ : ∃ t, t = IntKind.i64.wrap (k * 256) := ⟨_, rfl⟩
  rw [← ht] at hbl
  have hw1 := ht.symm
  have hw2 : IntKind.i64.wrap (k * 2 ^ 8) = t := by rw [ht]; rfl
  have HBl := Lib.hid hbl
  clear hbl ht hT
  clear hPOST hpo h hA hn hR hro
  go_enter Try.func21, Try.ntmps21
  go_wp2_with (with_reducible refine stop_build 37 _ rfl ?_)
  refine Stop.go ?_
  generalize (w.alloc (.cells zF 37)).alloc (.cells #[.int .i64 k] 80) = w2 at HS ⊢
  obtain ⟨gx, hgx⟩ : ∃ gx, gx = w.heap.size + 1 := ⟨_, rfl⟩
  rw [← hgx] at HS ⊢
  clear hgx h35
  refine wpList_buildTo rfl 37 _ rfl _ rfl R ?_ ?_
  · rw [List.map_toArray]; exact HBl.out
  have HQz : Hid (w2.heap[w.heap.size]? = some (.cells zF 37 (0, 0))) := Lib.hid HS.out.res
  have HW := Lib.hid (HS.out.fin R)
  go_wp2_with (with_reducible refine wpList_store_row rfl 37 (.tmp 4) (.tmp 70) rfl w.heap.size R rfl rfl 37 _ HQz.out HIr.out HOr.out HNr.out ?_)
  rw [HPo.out]
  exact bodyPost_ret (results_cell_row (p := 4) (by kernel_rfl) _ _ w.heap.size 37 R (0, 0) _ rfl HW.out.1 Try.underlying37 rfl HIr.out) rfl ⟨rfl, HW.out.2.1⟩

set_option maxRecDepth 100000 in
set_option maxHeartbeats 4000000 in
theorem answer_write (A : RA) (d : List Nat) (ok : Bool) (F : FuncId) (caps : Array Value) (g : Nat) (w : World) (h : AreaAt w g A) (hA : A.Ok) (r a : Int) (hn : A.now = .writing r a) :
    Calls Try.prog 21 #[.pointer (some ⟨g, 0, none⟩), .func (.func F) #[] caps] w fun e w' => e = .returned (A.answer d ok).val ∧ Below w.heap.size w w' := by
  obtain ⟨POST, hPOST⟩ : ∃ Q : Ending → World → Prop, Q = fun e w' => e = .returned (A.answer d ok).val ∧ Below w.heap.size w w' := ⟨_, rfl⟩
  rw [← hPOST]
  have HA := Lib.hid hA
  have HN := Lib.hid hn
  have hr : I64 r ∧ I64 a := by have := hA.now; rw [hn] at this; exact this
  have h35 : (w.alloc (.cells zF 37)).cell? ⟨g, 35, none⟩ = some (Value.iface 74 (.agg #[.int .i64 r, .int .i64 a])) := by have := (h.below ((Below.refl _ _).alloc (Nat.le_refl _) (.cells zF 37))).now hA; rw [show RN.val _ = _ from congrArg RN.val hn] at this; exact this
  have HS := Lib.hid (AnsS.start h #[.int .i64 r, .int .i64 a] 74)
  have ha_keying : ∀ v w, (Instr.typeAssert (.iface 74 v) 20 71 true).run Try.prog w = .ok (.tuple #[(.agg #[.int .i64 0]), .bool false]) w := fun v w => rfl
  have ha_writing : ∀ v w, (Instr.typeAssert (.iface 74 v) 20 74 true).run Try.prog w = .ok (.tuple #[v, .bool true]) w := fun v w => rfl
  have hq : ({ RF.zero with typ := 768, res := r, addr := a, ctr := A.s.ctr } : RF).Ok := RF.with_ctr (RF.with_addr (RF.with_res (RF.with_typ RF.zero_ok (x := 768) (i64k (by decide))) hr.1) hr.2) hA.s.cb
  have hsq : ∀ f : RF, f.Ok → (A.signed f).Ok := fun f hf => by unfold RA.signed; split <;> first | exact RF.sign_ok hf _ | exact hf
  have hro : (A.signed { RF.zero with typ := 768, res := r, addr := a, ctr := A.s.ctr } : RF).Ok := hsq _ hq
  have hpo : POST = fun e w' => e = .returned (.agg (A.signed { RF.zero with typ := 768, res := r, addr := a, ctr := A.s.ctr } : RF).cells.toArray) ∧ Below w.heap.size w w' := by rw [hPOST]; unfold RA.answer; rw [hn]; rfl
  obtain ⟨R, hR⟩ : ∃ R, R = (A.signed { RF.zero with typ := 768, res := r, addr := a, ctr := A.s.ctr } : RF).cells.toArray := ⟨_, rfl⟩
  rw [← hR] at hpo
  have HPo := Lib.hid hpo
  have HIr : Hid ((Try.prog.info? 37).map (·.size) = some R.size) := Lib.hid (by rw [hR]; exact info_f hro)
  have HOr : Hid (zF.size = R.size) := Lib.hid (by rw [hR]; exact old_f hro)
  have HNr : Hid (R.all (·.oneCell') = true) := Lib.hid (by rw [hR]; exact RF.one _)
  obtain ⟨C, hC⟩ : ∃ C, C = ({ RF.zero with typ := 768, res := r, addr := a, ctr := A.s.ctr } : RF).cells.toArray := ⟨_, rfl⟩
  have hbl := built_w r a A.s.ctr hr.1 hr.2
  rw [← hC] at hbl
  have HBl := Lib.hid hbl
  have HSg : Hid (∀ w', AreaAt w' g A → Calls Try.prog 29 #[.pointer (some ⟨g, 0, none⟩), .agg C] w' fun e w'' => e = .returned (.agg R) ∧ Below w'.heap.size w' w'') := Lib.hid (fun w' h' => by rw [hC, hR]; exact signed_any A _ g w' h' hA hq)
  clear hC hbl hsq hq hr
  clear hPOST hpo h hA hn hR hro
  go_enter Try.func21, Try.ntmps21
  go_wp2_with fail
  generalize (w.alloc (.cells zF 37)).alloc (.cells #[.int .i64 r, .int .i64 a] 74) = w2 at HS ⊢
  obtain ⟨gx, hgx⟩ : ∃ gx, gx = w.heap.size + 1 := ⟨_, rfl⟩
  rw [← hgx] at HS ⊢
  clear hgx h35
  refine wp_region_held_drew (S := (fun w' => HasB w' gx #[.int .i64 r, .int .i64 a] 74 ∧ AreaAt w' g A)) (by kernel_rfl) (⟨HS.out.box, HS.out.area⟩) (fun hHeld => ?_)
  refine held_take 0 (v := ?_) rfl (by kernel_rfl) (by kernel_rfl) (by kernel_rfl) (fun _ _ _ h => h) (by rfl) (fun w hS => ?_) (by assumption) ?_
  rotate_left
  · try dsimp only at hS
    have l1 : w.cell? ⟨gx, 0, none⟩ = some (.int .i64 r) := hS.1.at 0
    have l2 : w.cell? ⟨gx, 1, none⟩ = some (.int .i64 a) := hS.1.at 1
    have l3 := hS.2.ctr HA.out
    have l4 := hS.1.lt
    have l5 := hS.2.lt
    go_simp <;> with_reducible rfl
  try simp only [Act.put, List.setIfInBounds_toArray, List.set_cons_zero, List.set_cons_succ]
  refine held_take 1 (v := ?_) rfl (by kernel_rfl) (by kernel_rfl) (by kernel_rfl) (fun _ _ _ h => h) (by rfl) (fun w hS => ?_) (by assumption) ?_
  rotate_left
  · try dsimp only at hS
    have l1 : w.cell? ⟨gx, 0, none⟩ = some (.int .i64 r) := hS.1.at 0
    have l2 : w.cell? ⟨gx, 1, none⟩ = some (.int .i64 a) := hS.1.at 1
    have l3 := hS.2.ctr HA.out
    have l4 := hS.1.lt
    have l5 := hS.2.lt
    go_simp <;> with_reducible rfl
  try simp only [Act.put, List.setIfInBounds_toArray, List.set_cons_zero, List.set_cons_succ]
  refine held_take 2 (v := ?_) rfl (by kernel_rfl) (by kernel_rfl) (by kernel_rfl) (fun _ _ _ h => h) (by rfl) (fun w hS => ?_) (by assumption) ?_
  rotate_left
  · try dsimp only at hS
    have l1 : w.cell? ⟨gx, 0, none⟩ = some (.int .i64 r) := hS.1.at 0
    have l2 : w.cell? ⟨gx, 1, none⟩ = some (.int .i64 a) := hS.1.at 1
    have l3 := hS.2.ctr HA.out
    have l4 := hS.1.lt
    have l5 := hS.2.lt
    go_simp <;> with_reducible rfl
  try simp only [Act.put, List.setIfInBounds_toArray, List.set_cons_zero, List.set_cons_succ]
  refine held_take 3 (v := ?_) rfl (by kernel_rfl) (by kernel_rfl) (by kernel_rfl) (fun _ _ _ h => h) (by rfl) (fun w hS => ?_) (by assumption) ?_
  rotate_left
  · try dsimp only at hS
    have l1 : w.cell? ⟨gx, 0, none⟩ = some (.int .i64 r) := hS.1.at 0
    have l2 : w.cell? ⟨gx, 1, none⟩ = some (.int .i64 a) := hS.1.at 1
    have l3 := hS.2.ctr HA.out
    have l4 := hS.1.lt
    have l5 := hS.2.lt
    go_simp <;> with_reducible rfl
  try simp only [Act.put, List.setIfInBounds_toArray, List.set_cons_zero, List.set_cons_succ]
  refine held_take 4 (v := ?_) rfl (by kernel_rfl) (by kernel_rfl) (by kernel_rfl) (fun _ _ _ h => h) (by rfl) (fun w hS => ?_) (by assumption) ?_
  rotate_left
  · try dsimp only at hS
    have l1 : w.cell? ⟨gx, 0, none⟩ = some (.int .i64 r) := hS.1.at 0
    have l2 : w.cell? ⟨gx, 1, none⟩ = some (.int .i64 a) := hS.1.at 1
    have l3 := hS.2.ctr HA.out
    have l4 := hS.1.lt
    have l5 := hS.2.lt
    go_simp <;> with_reducible rfl
  try simp only [Act.put, List.setIfInBounds_toArray, List.set_cons_zero, List.set_cons_succ]
  refine held_take 5 (v := ?_) rfl (by kernel_rfl) (by kernel_rfl) (by kernel_rfl) (fun _ _ _ h => h) (by rfl) (fun w hS => ?_) (by assumption) ?_
  rotate_left
  · try dsimp only at hS
    have l1 : w.cell? ⟨gx, 0, none⟩ = some (.int .i64 r) := hS.1.at 0
    have l2 : w.cell? ⟨gx, 1, none⟩ = some (.int .i64 a) := hS.1.at 1
    have l3 := hS.2.ctr HA.out
    have l4 := hS.1.lt
    have l5 := hS.2.lt
    go_simp <;> with_reducible rfl
  try simp only [Act.put, List.setIfInBounds_toArray, List.set_cons_zero, List.set_cons_succ]
  refine held_take 6 (v := ?_) rfl (by kernel_rfl) (by kernel_rfl) (by kernel_rfl) (fun _ _ _ h => h) (by rfl) (fun w hS => ?_) (by assumption) ?_
  rotate_left
  · try dsimp only at hS
    have l1 : w.cell? ⟨gx, 0, none⟩ = some (.int .i64 r) := hS.1.at 0
    have l2 : w.cell? ⟨gx, 1, none⟩ = some (.int .i64 a) := hS.1.at 1
    have l3 := hS.2.ctr HA.out
    have l4 := hS.1.lt
    have l5 := hS.2.lt
    go_simp <;> with_reducible rfl
  try simp only [Act.put, List.setIfInBounds_toArray, List.set_cons_zero, List.set_cons_succ]
  refine held_take 7 (v := ?_) rfl (by kernel_rfl) (by kernel_rfl) (by kernel_rfl) (fun _ _ _ h => h) (by rfl) (fun w hS => ?_) (by assumption) ?_
  rotate_left
  · try dsimp only at hS
    have l1 : w.cell? ⟨gx, 0, none⟩ = some (.int .i64 r) := hS.1.at 0
    have l2 : w.cell? ⟨gx, 1, none⟩ = some (.int .i64 a) := hS.1.at 1
    have l3 := hS.2.ctr HA.out
    have l4 := hS.1.lt
    have l5 := hS.2.lt
    go_simp <;> with_reducible rfl
  try simp only [Act.put, List.setIfInBounds_toArray, List.set_cons_zero, List.set_cons_succ]
  refine held_take 8 (v := ?_) rfl (by kernel_rfl) (by kernel_rfl) (by kernel_rfl) (fun _ _ _ h => h) (by rfl) (fun w hS => ?_) (by assumption) ?_
  rotate_left
  · try dsimp only at hS
    have l1 : w.cell? ⟨gx, 0, none⟩ = some (.int .i64 r) := hS.1.at 0
    have l2 : w.cell? ⟨gx, 1, none⟩ = some (.int .i64 a) := hS.1.at 1
    have l3 := hS.2.ctr HA.out
    have l4 := hS.1.lt
    have l5 := hS.2.lt
    go_simp <;> with_reducible rfl
  try simp only [Act.put, List.setIfInBounds_toArray, List.set_cons_zero, List.set_cons_succ]
  refine held_take 9 (v := ?_) rfl (by kernel_rfl) (by kernel_rfl) (by kernel_rfl) (fun _ _ _ h => h) (by rfl) (fun w hS => ?_) (by assumption) ?_
  rotate_left
  · try dsimp only at hS
    have l1 : w.cell? ⟨gx, 0, none⟩ = some (.int .i64 r) := hS.1.at 0
    have l2 : w.cell? ⟨gx, 1, none⟩ = some (.int .i64 a) := hS.1.at 1
    have l3 := hS.2.ctr HA.out
    have l4 := hS.1.lt
    have l5 := hS.2.lt
    go_simp <;> with_reducible rfl
  try simp only [Act.put, List.setIfInBounds_toArray, List.set_cons_zero, List.set_cons_succ]
  refine held_take 10 (v := (.agg C)) rfl (by kernel_rfl) (by kernel_rfl) (by kernel_rfl) (fun _ _ _ h => h) (by rfl) (fun w hS => ?_) (by assumption) ?_
  · exact yield_build _ _ 37 _ (by rfl) C (by rw [List.map_toArray]; exact HBl.out)
  try simp only [Act.put, List.setIfInBounds_toArray, List.set_cons_zero, List.set_cons_succ]
  refine held_one 11 rfl (by kernel_rfl) (fun K hK => ?_)
  go_simp
  refine (HSg.out _ (HS.out.below (Below.refl _ _).drew).area).mono ?_
  rintro e w3 ⟨rfl, hb3⟩
  have HS3 := Lib.hid (HS.out.below ((Below.refl _ _).drew.trans hb3))
  have HW := Lib.hid (HS3.out.fin R)
  have HQz : Hid (w3.heap[w.heap.size]? = some (.cells zF 37 (0, 0))) := Lib.hid HS3.out.res
  refine hK.out _ _ (fun w' => HasB w' gx #[.int .i64 r, .int .i64 a] 74 ∧ AreaAt w' g A) (fun _ h => h) ⟨HS3.out.box, HS3.out.area⟩ (fun hHeld => ?_)
  clear hK K
  try simp only [Act.put, List.setIfInBounds_toArray, List.set_cons_zero, List.set_cons_succ]
  refine held_one 12 rfl (by kernel_rfl) (fun K hK => ?_)
  refine (if_pos (by kernel_rfl)).mpr ?_
  refine wp_store_row 37 (.tmp 4) (.tmp 34) rfl w.heap.size R rfl rfl 37 _ HQz.out HIr.out HOr.out HNr.out ?_
  refine hK.out _ _ (fun w' => HasB w' gx #[.int .i64 r, .int .i64 a] 74 ∧ AreaAt w' g A) (fun _ h => h) ⟨HW.out.2.2.1, HW.out.2.2.2⟩ (fun hHeld => ?_)
  clear hK K
  try simp only [Act.put, List.setIfInBounds_toArray, List.set_cons_zero, List.set_cons_succ]
  refine held_done (by kernel_rfl) ?_
  go_wp2_with fail
  rw [HPo.out]
  exact bodyPost_ret (results_cell_row (p := 4) (by kernel_rfl) _ _ w.heap.size 37 R (0, 0) _ rfl HW.out.1 Try.underlying37 rfl HIr.out) rfl ⟨rfl, HW.out.2.1⟩

set_option maxRecDepth 100000 in
set_option maxHeartbeats 4000000 in
theorem answer_count0 (A : RA) (d : List Nat) (ok : Bool) (F : FuncId) (caps : Array Value) (g : Nat) (w : World) (h : AreaAt w g A) (hA : A.Ok) (n : List Nat) (hn : A.now = .counting n) (hh : A.s.has = false) :
    Calls Try.prog 21 #[.pointer (some ⟨g, 0, none⟩), .func (.func F) #[] caps] w fun e w' => e = .returned (A.answer d ok).val ∧ Below w.heap.size w w' := by
  obtain ⟨POST, hPOST⟩ : ∃ Q : Ending → World → Prop, Q = fun e w' => e = .returned (A.answer d ok).val ∧ Below w.heap.size w w' := ⟨_, rfl⟩
  rw [← hPOST]
  have HA := Lib.hid hA
  have HN := Lib.hid hn
  have hnn : n.length = 16 ∧ ∀ c ∈ n, c < 256 := by have := hA.now; rw [hn] at this; exact this
  have h35 : (w.alloc (.cells zF 37)).cell? ⟨g, 35, none⟩ = some (Value.iface 76 (.agg (u8s n).toArray)) := by have := (h.below ((Below.refl _ _).alloc (Nat.le_refl _) (.cells zF 37))).now hA; rw [show RN.val _ = _ from congrArg RN.val hn] at this; exact this
  have HS := Lib.hid (AnsS.start h (u8s n).toArray 76)
  have ha_keying : ∀ v w, (Instr.typeAssert (.iface 76 v) 20 71 true).run Try.prog w = .ok (.tuple #[(.agg #[.int .i64 0]), .bool false]) w := fun v w => rfl
  have ha_writing : ∀ v w, (Instr.typeAssert (.iface 76 v) 20 74 true).run Try.prog w = .ok (.tuple #[(.agg #[.int .i64 0, .int .i64 0]), .bool false]) w := fun v w => rfl
  have ha_counting : ∀ v w, (Instr.typeAssert (.iface 76 v) 20 76 true).run Try.prog w = .ok (.tuple #[v, .bool true]) w := fun v w => rfl
  have hro : ({ RF.zero with typ := 512, nonce := n, res := 7 } : RF).Ok := RF.with_res (RF.with_nonce (RF.with_typ RF.zero_ok (x := 512) (i64k (by decide))) hnn) (x := 7) (i64k (by decide))
  have hpo : POST = fun e w' => e = .returned (.agg ({ RF.zero with typ := 512, nonce := n, res := 7 } : RF).cells.toArray) ∧ Below w.heap.size w w' := by rw [hPOST]; unfold RA.answer; rw [hn]; simp only [hh, if_true]; rfl
  obtain ⟨R, hR⟩ : ∃ R, R = ({ RF.zero with typ := 512, nonce := n, res := 7 } : RF).cells.toArray := ⟨_, rfl⟩
  rw [← hR] at hpo
  have HPo := Lib.hid hpo
  have HIr : Hid ((Try.prog.info? 37).map (·.size) = some R.size) := Lib.hid (by rw [hR]; exact info_f hro)
  have HOr : Hid (zF.size = R.size) := Lib.hid (by rw [hR]; exact old_f hro)
  have HNr : Hid (R.all (·.oneCell') = true) := Lib.hid (by rw [hR]; exact RF.one _)
  have hbl := built_c7 n hnn
  rw [← hR] at hbl
  obtain ⟨NL, hNL⟩ : ∃ NL, NL = u8s n := ⟨_, rfl⟩
  rw [← hNL] at HS h35
  rw [← hNL] at hbl
  have HBl := Lib.hid hbl
  have hXs : NL.toArray.size = 16 := by rw [hNL, List.size_toArray, u8s_len, hnn.1]
  have HIx : Hid ((Try.prog.info? 76).map (·.size) = some NL.toArray.size) := Lib.hid (by rw [hXs]; exact info_ct)
  have HNx : Hid (NL.toArray.all (·.oneCell') = true) := Lib.hid (by rw [hNL]; exact u8_oneA _)
  have HG : Hid (((w.alloc (.cells zF 37)).alloc (.cells #[Value.int .u8 0, Value.int .u8 0, Value.int .u8 0, Value.int .u8 0, Value.int .u8 0, Value.int .u8 0, Value.int .u8 0, Value.int .u8 0, Value.int .u8 0, Value.int .u8 0, Value.int .u8 0, Value.int .u8 0, Value.int .u8 0, Value.int .u8 0, Value.int .u8 0, Value.int .u8 0] 76)).heap[w.heap.size + 1]? = some (.cells #[Value.int .u8 0, Value.int .u8 0, Value.int .u8 0, Value.int .u8 0, Value.int .u8 0, Value.int .u8 0, Value.int .u8 0, Value.int .u8 0, Value.int .u8 0, Value.int .u8 0, Value.int .u8 0, Value.int .u8 0, Value.int .u8 0, Value.int .u8 0, Value.int .u8 0, Value.int .u8 0] 76 (0, 0))) := Lib.hid (HasB.new' (by simp) _ _)
  have HSt : Hid (((w.alloc (.cells zF 37)).alloc (.cells #[Value.int .u8 0, Value.int .u8 0, Value.int .u8 0, Value.int .u8 0, Value.int .u8 0, Value.int .u8 0, Value.int .u8 0, Value.int .u8 0, Value.int .u8 0, Value.int .u8 0, Value.int .u8 0, Value.int .u8 0, Value.int .u8 0, Value.int .u8 0, Value.int .u8 0, Value.int .u8 0] 76)).setRow (w.heap.size + 1) NL.toArray = (w.alloc (.cells zF 37)).alloc (.cells NL.toArray 76)) := Lib.hid (by have := World.setRow_alloc_new (w.alloc (.cells zF 37)) #[Value.int .u8 0, Value.int .u8 0, Value.int .u8 0, Value.int .u8 0, Value.int .u8 0, Value.int .u8 0, Value.int .u8 0, Value.int .u8 0, Value.int .u8 0, Value.int .u8 0, Value.int .u8 0, Value.int .u8 0, Value.int .u8 0, Value.int .u8 0, Value.int .u8 0, Value.int .u8 0] NL.toArray 76; rw [show (w.alloc (.cells zF 37)).heap.size = w.heap.size + 1 by simp] at this; exact this)
  have HOx : Hid ((#[Value.int .u8 0, Value.int .u8 0, Value.int .u8 0, Value.int .u8 0, Value.int .u8 0, Value.int .u8 0, Value.int .u8 0, Value.int .u8 0, Value.int .u8 0, Value.int .u8 0, Value.int .u8 0, Value.int .u8 0, Value.int .u8 0, Value.int .u8 0, Value.int .u8 0, Value.int .u8 0] : Array Value).size = NL.toArray.size) := Lib.hid (by rw [hXs]; rfl)
  have HIn : Hid ((Try.prog.info? 35).map (·.size) = some NL.toArray.size) := Lib.hid (by rw [hNL, List.size_toArray, u8s_len, hnn.1]; exact info_n16)
  have HHas : Hid (∀ w', AreaAt w' g A → w'.cell? ⟨g, 33, none⟩ = some (.bool false)) := Lib.hid (fun w' h' => by rw [← hh]; exact h'.has hA)
  have hhas := HHas.out _ HS.out.area
  clear hbl hNL hnn hh hXs
  clear hPOST hpo h hA hn hR hro
  go_enter Try.func21, Try.ntmps21
  go_wp2_with (with_reducible refine wpList_store_row rfl 76 (.tmp 7) (.tmp 37) rfl (w.heap.size + 1) NL.toArray rfl rfl 76 _ HG.out HIx.out HOx.out HNx.out ?_; rw [HSt.out]; refine Stop.mk ?_)
  refine Stop.go ?_
  clear hhas
  generalize (w.alloc (.cells zF 37)).alloc (.cells NL.toArray 76) = w2 at HS ⊢
  obtain ⟨gx, hgx⟩ : ∃ gx, gx = w.heap.size + 1 := ⟨_, rfl⟩
  rw [← hgx] at HS ⊢
  clear hgx h35
  have hhas := HHas.out _ HS.out.area
  go_wp2_with (with_reducible refine stop_dst 45 rfl ?_)
  refine Stop.go ?_
  have HQx : Hid (w2.heap[gx]? = some (.cells NL.toArray 76 (0, 0))) := Lib.hid HS.out.box
  refine wpList_load_row rfl 35 (.tmp 44) rfl gx rfl 76 NL.toArray (0, 0) _ HQx.out Try.underlying35 rfl HIn.out ?_
  go_wp2_with (with_reducible refine stop_build 37 _ rfl ?_)
  refine Stop.go ?_
  refine wpList_buildTo rfl 37 _ rfl _ rfl R ?_ ?_
  · rw [List.map_toArray]; exact HBl.out
  have HQz : Hid (w2.heap[w.heap.size]? = some (.cells zF 37 (0, 0))) := Lib.hid HS.out.res
  have HW := Lib.hid (HS.out.fin R)
  go_wp2_with (with_reducible refine wpList_store_row rfl 37 (.tmp 4) (.tmp 46) rfl w.heap.size R rfl rfl 37 _ HQz.out HIr.out HOr.out HNr.out ?_)
  rw [HPo.out]
  exact bodyPost_ret (results_cell_row (p := 4) (by kernel_rfl) _ _ w.heap.size 37 R (0, 0) _ rfl HW.out.1 Try.underlying37 rfl HIr.out) rfl ⟨rfl, HW.out.2.1⟩

set_option maxRecDepth 100000 in
set_option maxHeartbeats 4000000 in
theorem answer_count1 (A : RA) (d : List Nat) (ok : Bool) (F : FuncId) (caps : Array Value) (g : Nat) (w : World) (h : AreaAt w g A) (hA : A.Ok) (n : List Nat) (hn : A.now = .counting n) (hh : A.s.has = true) :
    Calls Try.prog 21 #[.pointer (some ⟨g, 0, none⟩), .func (.func F) #[] caps] w fun e w' => e = .returned (A.answer d ok).val ∧ Below w.heap.size w w' := by
  obtain ⟨POST, hPOST⟩ : ∃ Q : Ending → World → Prop, Q = fun e w' => e = .returned (A.answer d ok).val ∧ Below w.heap.size w w' := ⟨_, rfl⟩
  rw [← hPOST]
  have HA := Lib.hid hA
  have HN := Lib.hid hn
  have hnn : n.length = 16 ∧ ∀ c ∈ n, c < 256 := by have := hA.now; rw [hn] at this; exact this
  have h35 : (w.alloc (.cells zF 37)).cell? ⟨g, 35, none⟩ = some (Value.iface 76 (.agg (u8s n).toArray)) := by have := (h.below ((Below.refl _ _).alloc (Nat.le_refl _) (.cells zF 37))).now hA; rw [show RN.val _ = _ from congrArg RN.val hn] at this; exact this
  have HS := Lib.hid (AnsS.start h (u8s n).toArray 76)
  have ha_keying : ∀ v w, (Instr.typeAssert (.iface 76 v) 20 71 true).run Try.prog w = .ok (.tuple #[(.agg #[.int .i64 0]), .bool false]) w := fun v w => rfl
  have ha_writing : ∀ v w, (Instr.typeAssert (.iface 76 v) 20 74 true).run Try.prog w = .ok (.tuple #[(.agg #[.int .i64 0, .int .i64 0]), .bool false]) w := fun v w => rfl
  have ha_counting : ∀ v w, (Instr.typeAssert (.iface 76 v) 20 76 true).run Try.prog w = .ok (.tuple #[v, .bool true]) w := fun v w => rfl
  have hq : ({ RF.zero with typ := 512, nonce := n, ctr := A.s.ctr } : RF).Ok := RF.with_ctr (RF.with_nonce (RF.with_typ RF.zero_ok (x := 512) (i64k (by decide))) hnn) hA.s.cb
  have hro : (RF.sign { RF.zero with typ := 512, nonce := n, ctr := A.s.ctr } A.s.key : RF).Ok := RF.sign_ok hq _
  have hpo : POST = fun e w' => e = .returned (.agg (RF.sign { RF.zero with typ := 512, nonce := n, ctr := A.s.ctr } A.s.key : RF).cells.toArray) ∧ Below w.heap.size w w' := by rw [hPOST]; unfold RA.answer; rw [hn]; simp only [hh]; rfl
  obtain ⟨R, hR⟩ : ∃ R, R = (RF.sign { RF.zero with typ := 512, nonce := n, ctr := A.s.ctr } A.s.key : RF).cells.toArray := ⟨_, rfl⟩
  rw [← hR] at hpo
  have HPo := Lib.hid hpo
  have HIr : Hid ((Try.prog.info? 37).map (·.size) = some R.size) := Lib.hid (by rw [hR]; exact info_f hro)
  have HOr : Hid (zF.size = R.size) := Lib.hid (by rw [hR]; exact old_f hro)
  have HNr : Hid (R.all (·.oneCell') = true) := Lib.hid (by rw [hR]; exact RF.one _)
  obtain ⟨C, hC⟩ : ∃ C, C = ({ RF.zero with typ := 512, nonce := n, ctr := A.s.ctr } : RF).cells.toArray := ⟨_, rfl⟩
  have hbl := built_c n A.s.ctr hnn
  rw [← hC] at hbl
  obtain ⟨NL, hNL⟩ : ∃ NL, NL = u8s n := ⟨_, rfl⟩
  rw [← hNL] at HS h35
  rw [← hNL] at hbl
  have HBl := Lib.hid hbl
  have hXs : NL.toArray.size = 16 := by rw [hNL, List.size_toArray, u8s_len, hnn.1]
  have HIx : Hid ((Try.prog.info? 76).map (·.size) = some NL.toArray.size) := Lib.hid (by rw [hXs]; exact info_ct)
  have HNx : Hid (NL.toArray.all (·.oneCell') = true) := Lib.hid (by rw [hNL]; exact u8_oneA _)
  have HG : Hid (((w.alloc (.cells zF 37)).alloc (.cells #[Value.int .u8 0, Value.int .u8 0, Value.int .u8 0, Value.int .u8 0, Value.int .u8 0, Value.int .u8 0, Value.int .u8 0, Value.int .u8 0, Value.int .u8 0, Value.int .u8 0, Value.int .u8 0, Value.int .u8 0, Value.int .u8 0, Value.int .u8 0, Value.int .u8 0, Value.int .u8 0] 76)).heap[w.heap.size + 1]? = some (.cells #[Value.int .u8 0, Value.int .u8 0, Value.int .u8 0, Value.int .u8 0, Value.int .u8 0, Value.int .u8 0, Value.int .u8 0, Value.int .u8 0, Value.int .u8 0, Value.int .u8 0, Value.int .u8 0, Value.int .u8 0, Value.int .u8 0, Value.int .u8 0, Value.int .u8 0, Value.int .u8 0] 76 (0, 0))) := Lib.hid (HasB.new' (by simp) _ _)
  have HSt : Hid (((w.alloc (.cells zF 37)).alloc (.cells #[Value.int .u8 0, Value.int .u8 0, Value.int .u8 0, Value.int .u8 0, Value.int .u8 0, Value.int .u8 0, Value.int .u8 0, Value.int .u8 0, Value.int .u8 0, Value.int .u8 0, Value.int .u8 0, Value.int .u8 0, Value.int .u8 0, Value.int .u8 0, Value.int .u8 0, Value.int .u8 0] 76)).setRow (w.heap.size + 1) NL.toArray = (w.alloc (.cells zF 37)).alloc (.cells NL.toArray 76)) := Lib.hid (by have := World.setRow_alloc_new (w.alloc (.cells zF 37)) #[Value.int .u8 0, Value.int .u8 0, Value.int .u8 0, Value.int .u8 0, Value.int .u8 0, Value.int .u8 0, Value.int .u8 0, Value.int .u8 0, Value.int .u8 0, Value.int .u8 0, Value.int .u8 0, Value.int .u8 0, Value.int .u8 0, Value.int .u8 0, Value.int .u8 0, Value.int .u8 0] NL.toArray 76; rw [show (w.alloc (.cells zF 37)).heap.size = w.heap.size + 1 by simp] at this; exact this)
  have HOx : Hid ((#[Value.int .u8 0, Value.int .u8 0, Value.int .u8 0, Value.int .u8 0, Value.int .u8 0, Value.int .u8 0, Value.int .u8 0, Value.int .u8 0, Value.int .u8 0, Value.int .u8 0, Value.int .u8 0, Value.int .u8 0, Value.int .u8 0, Value.int .u8 0, Value.int .u8 0, Value.int .u8 0] : Array Value).size = NL.toArray.size) := Lib.hid (by rw [hXs]; rfl)
  have HIn : Hid ((Try.prog.info? 35).map (·.size) = some NL.toArray.size) := Lib.hid (by rw [hNL, List.size_toArray, u8s_len, hnn.1]; exact info_n16)
  have HHas : Hid (∀ w', AreaAt w' g A → w'.cell? ⟨g, 33, none⟩ = some (.bool true)) := Lib.hid (fun w' h' => by rw [← hh]; exact h'.has hA)
  have HSg : Hid (∀ w', AreaAt w' g A → Calls Try.prog 29 #[.pointer (some ⟨g, 0, none⟩), .agg C] w' fun e w'' => e = .returned (.agg R) ∧ Below w'.heap.size w' w'') := Lib.hid (fun w' h' => by have := signed_any A { RF.zero with typ := 512, nonce := n, ctr := A.s.ctr } g w' h' hA hq; rw [show A.signed { RF.zero with typ := 512, nonce := n, ctr := A.s.ctr } = RF.sign { RF.zero with typ := 512, nonce := n, ctr := A.s.ctr } A.s.key by unfold RA.signed; rw [hh]; rfl] at this; rw [hC, hR]; exact this)
  have hhas := HHas.out _ HS.out.area
  clear hC hbl hNL hnn hh hq hXs
  clear hPOST hpo h hA hn hR hro
  go_enter Try.func21, Try.ntmps21
  go_wp2_with (with_reducible refine wpList_store_row rfl 76 (.tmp 7) (.tmp 37) rfl (w.heap.size + 1) NL.toArray rfl rfl 76 _ HG.out HIx.out HOx.out HNx.out ?_; rw [HSt.out]; refine Stop.mk ?_)
  refine Stop.go ?_
  clear hhas
  generalize (w.alloc (.cells zF 37)).alloc (.cells NL.toArray 76) = w2 at HS ⊢
  obtain ⟨gx, hgx⟩ : ∃ gx, gx = w.heap.size + 1 := ⟨_, rfl⟩
  rw [← hgx] at HS ⊢
  clear hgx h35
  have hhas := HHas.out _ HS.out.area
  go_wp2_with fail
  clear hhas
  refine wp_region_held_drew (S := (fun w' => HasB w' gx NL.toArray 76 ∧ AreaAt w' g A)) (by kernel_rfl) (⟨HS.out.box, HS.out.area⟩) (fun hHeld => ?_)
  refine held_take 0 (v := ?_) rfl (by kernel_rfl) (by kernel_rfl) (by kernel_rfl) (fun _ _ _ h => h) (by rfl) (fun w hS => ?_) (by assumption) ?_
  rotate_left
  · try dsimp only at hS
    have l3 := hS.2.ctr HA.out
    have l5 := hS.2.lt
    go_simp <;> with_reducible rfl
  try simp only [Act.put, List.setIfInBounds_toArray, List.set_cons_zero, List.set_cons_succ]
  refine held_take 1 (v := ?_) rfl (by kernel_rfl) (by kernel_rfl) (by kernel_rfl) (fun _ _ _ h => h) (by rfl) (fun w hS => ?_) (by assumption) ?_
  rotate_left
  · try dsimp only at hS
    have l3 := hS.2.ctr HA.out
    have l5 := hS.2.lt
    go_simp <;> with_reducible rfl
  try simp only [Act.put, List.setIfInBounds_toArray, List.set_cons_zero, List.set_cons_succ]
  refine held_take 2 (v := (.agg NL.toArray)) rfl (by kernel_rfl) (by kernel_rfl) (by kernel_rfl) (fun _ _ _ h => h) (by rfl) (fun w hS => ?_) (by assumption) ?_
  · exact yield_row _ _ 35 (.tmp 48) (by rfl) gx (by rfl) 76 NL.toArray (0, 0) _ hS.1 Try.underlying35 (by rfl) HIn.out
  try simp only [Act.put, List.setIfInBounds_toArray, List.set_cons_zero, List.set_cons_succ]
  refine held_take 3 (v := ?_) rfl (by kernel_rfl) (by kernel_rfl) (by kernel_rfl) (fun _ _ _ h => h) (by rfl) (fun w hS => ?_) (by assumption) ?_
  rotate_left
  · try dsimp only at hS
    have l3 := hS.2.ctr HA.out
    have l5 := hS.2.lt
    go_simp <;> with_reducible rfl
  try simp only [Act.put, List.setIfInBounds_toArray, List.set_cons_zero, List.set_cons_succ]
  refine held_take 4 (v := ?_) rfl (by kernel_rfl) (by kernel_rfl) (by kernel_rfl) (fun _ _ _ h => h) (by rfl) (fun w hS => ?_) (by assumption) ?_
  rotate_left
  · try dsimp only at hS
    have l3 := hS.2.ctr HA.out
    have l5 := hS.2.lt
    go_simp <;> with_reducible rfl
  try simp only [Act.put, List.setIfInBounds_toArray, List.set_cons_zero, List.set_cons_succ]
  refine held_take 5 (v := ?_) rfl (by kernel_rfl) (by kernel_rfl) (by kernel_rfl) (fun _ _ _ h => h) (by rfl) (fun w hS => ?_) (by assumption) ?_
  rotate_left
  · try dsimp only at hS
    have l3 := hS.2.ctr HA.out
    have l5 := hS.2.lt
    go_simp <;> with_reducible rfl
  try simp only [Act.put, List.setIfInBounds_toArray, List.set_cons_zero, List.set_cons_succ]
  refine held_take 6 (v := ?_) rfl (by kernel_rfl) (by kernel_rfl) (by kernel_rfl) (fun _ _ _ h => h) (by rfl) (fun w hS => ?_) (by assumption) ?_
  rotate_left
  · try dsimp only at hS
    have l3 := hS.2.ctr HA.out
    have l5 := hS.2.lt
    go_simp <;> with_reducible rfl
  try simp only [Act.put, List.setIfInBounds_toArray, List.set_cons_zero, List.set_cons_succ]
  refine held_take 7 (v := ?_) rfl (by kernel_rfl) (by kernel_rfl) (by kernel_rfl) (fun _ _ _ h => h) (by rfl) (fun w hS => ?_) (by assumption) ?_
  rotate_left
  · try dsimp only at hS
    have l3 := hS.2.ctr HA.out
    have l5 := hS.2.lt
    go_simp <;> with_reducible rfl
  try simp only [Act.put, List.setIfInBounds_toArray, List.set_cons_zero, List.set_cons_succ]
  refine held_take 8 (v := (.agg C)) rfl (by kernel_rfl) (by kernel_rfl) (by kernel_rfl) (fun _ _ _ h => h) (by rfl) (fun w hS => ?_) (by assumption) ?_
  · exact yield_build _ _ 37 _ (by rfl) C (by rw [List.map_toArray]; exact HBl.out)
  try simp only [Act.put, List.setIfInBounds_toArray, List.set_cons_zero, List.set_cons_succ]
  refine held_one 9 rfl (by kernel_rfl) (fun K hK => ?_)
  go_simp
  refine (HSg.out _ (HS.out.below (Below.refl _ _).drew).area).mono ?_
  rintro e w3 ⟨rfl, hb3⟩
  have HS3 := Lib.hid (HS.out.below ((Below.refl _ _).drew.trans hb3))
  have HW := Lib.hid (HS3.out.fin R)
  have HQz : Hid (w3.heap[w.heap.size]? = some (.cells zF 37 (0, 0))) := Lib.hid HS3.out.res
  refine hK.out _ _ (fun w' => HasB w' gx NL.toArray 76 ∧ AreaAt w' g A) (fun _ h => h) ⟨HS3.out.box, HS3.out.area⟩ (fun hHeld => ?_)
  clear hK K
  try simp only [Act.put, List.setIfInBounds_toArray, List.set_cons_zero, List.set_cons_succ]
  refine held_one 10 rfl (by kernel_rfl) (fun K hK => ?_)
  refine (if_pos (by kernel_rfl)).mpr ?_
  refine wp_store_row 37 (.tmp 4) (.tmp 56) rfl w.heap.size R rfl rfl 37 _ HQz.out HIr.out HOr.out HNr.out ?_
  refine hK.out _ _ (fun w' => HasB w' gx NL.toArray 76 ∧ AreaAt w' g A) (fun _ h => h) ⟨HW.out.2.2.1, HW.out.2.2.2⟩ (fun hHeld => ?_)
  clear hK K
  try simp only [Act.put, List.setIfInBounds_toArray, List.set_cons_zero, List.set_cons_succ]
  refine held_done (by kernel_rfl) ?_
  go_wp2_with fail
  rw [HPo.out]
  exact bodyPost_ret (results_cell_row (p := 4) (by kernel_rfl) _ _ w.heap.size 37 R (0, 0) _ rfl HW.out.1 Try.underlying37 rfl HIr.out) rfl ⟨rfl, HW.out.2.1⟩

set_option maxRecDepth 100000 in
set_option maxHeartbeats 4000000 in
theorem answer_read (A : RA) (d : List Nat) (ok : Bool) (F : FuncId) (caps : Array Value) (g : Nat) (w : World) (h : AreaAt w g A) (hA : A.Ok) (n : List Nat) (a : Int) (hn : A.now = .reading n a) (hd : d.length = 64 ∧ ∀ c ∈ d, c < 256) (hfm : ∀ args w', Sem.run Try.prog (callFunc F args) w' = .ok (.enter F args) w') (hcl : ∀ x w', Below w.heap.size w w' → Calls Try.prog F (#[.int .i64 x] ++ caps) w' fun e w'' => e = .returned (.tuple #[.agg (u8s d).toArray, .bool ok]) ∧ Below w'.heap.size w' w'') :
    Calls Try.prog 21 #[.pointer (some ⟨g, 0, none⟩), .func (.func F) #[] caps] w fun e w' => e = .returned (A.answer d ok).val ∧ Below w.heap.size w w' := by
  obtain ⟨POST, hPOST⟩ : ∃ Q : Ending → World → Prop, Q = fun e w' => e = .returned (A.answer d ok).val ∧ Below w.heap.size w w' := ⟨_, rfl⟩
  rw [← hPOST]
  have HA := Lib.hid hA
  have HN := Lib.hid hn
  have hnn : (n.length = 16 ∧ ∀ c ∈ n, c < 256) ∧ I64 a := by have := hA.now; rw [hn] at this; exact this
  have h35 : (w.alloc (.cells zF 37)).cell? ⟨g, 35, none⟩ = some (Value.iface 78 (.agg (u8s n ++ [Value.int .i64 a]).toArray)) := by have := (h.below ((Below.refl _ _).alloc (Nat.le_refl _) (.cells zF 37))).now hA; rw [show RN.val _ = _ from congrArg RN.val hn] at this; exact this
  have HS := Lib.hid (AnsS.start h (u8s n ++ [Value.int .i64 a]).toArray 78)
  have ha_keying : ∀ v w, (Instr.typeAssert (.iface 78 v) 20 71 true).run Try.prog w = .ok (.tuple #[(.agg #[.int .i64 0]), .bool false]) w := fun v w => rfl
  have ha_writing : ∀ v w, (Instr.typeAssert (.iface 78 v) 20 74 true).run Try.prog w = .ok (.tuple #[(.agg #[.int .i64 0, .int .i64 0]), .bool false]) w := fun v w => rfl
  have ha_counting : ∀ v w, (Instr.typeAssert (.iface 78 v) 20 76 true).run Try.prog w = .ok (.tuple #[(.agg #[Value.int .u8 0, Value.int .u8 0, Value.int .u8 0, Value.int .u8 0, Value.int .u8 0, Value.int .u8 0, Value.int .u8 0, Value.int .u8 0, Value.int .u8 0, Value.int .u8 0, Value.int .u8 0, Value.int .u8 0, Value.int .u8 0, Value.int .u8 0, Value.int .u8 0, Value.int .u8 0]), .bool false]) w := fun v w => rfl
  have ha_reading : ∀ v w, (Instr.typeAssert (.iface 78 v) 20 78 true).run Try.prog w = .ok (.tuple #[v, .bool true]) w := fun v w => rfl
  have hq : (A.readF n a d ok).Ok := by
    have o1 := RF.with_addr (RF.with_nonce (RF.with_typ RF.zero_ok (x := 1024) (i64k (by decide))) hnn.1) hnn.2
    unfold RA.readF
    split
    · exact RF.with_res o1 (x := 7) (i64k (by decide))
    · split
      · exact RF.sign_ok (RF.with_count (RF.with_data (RF.with_res o1 i64_0) hd) (x := 1) (i64k (by decide))) _
      · exact RF.sign_ok (RF.with_res o1 (x := 4) (i64k (by decide))) _
  have hro : (A.readF n a d ok : RF).Ok := hq
  have hpo : POST = fun e w' => e = .returned (.agg (A.readF n a d ok : RF).cells.toArray) ∧ Below w.heap.size w w' := by rw [hPOST]; unfold RA.answer; rw [hn]; rfl
  obtain ⟨R, hR⟩ : ∃ R, R = (A.readF n a d ok : RF).cells.toArray := ⟨_, rfl⟩
  rw [← hR] at hpo
  have HPo := Lib.hid hpo
  have HIr : Hid ((Try.prog.info? 37).map (·.size) = some R.size) := Lib.hid (by rw [hR]; exact info_f hro)
  have HOr : Hid (zF.size = R.size) := Lib.hid (by rw [hR]; exact old_f hro)
  have HNr : Hid (R.all (·.oneCell') = true) := Lib.hid (by rw [hR]; exact RF.one _)
  have HRd : Hid (∀ w', AnsS w g (w.heap.size + 1) A (u8s n ++ [Value.int .i64 a]).toArray 78 w' → Calls Try.prog 30 #[.pointer (some ⟨g, 0, none⟩), .agg (u8s n ++ [Value.int .i64 a]).toArray, .func (.func F) #[] caps] w' fun e w'' => e = .returned (.agg R) ∧ Below w'.heap.size w' w'') := Lib.hid (fun w' h' => by rw [hR]; exact read_any A n a d ok F caps g w' h'.area hA hnn.1 hnn.2 hd hfm (fun x w'' hb => hcl x w'' (h'.be.trans (hb.mono h'.be.size))))
  obtain ⟨X, hX⟩ : ∃ X, X = (u8s n ++ [Value.int .i64 a]).toArray := ⟨_, rfl⟩
  rw [← hX] at HS h35 HRd
  have HIx : Hid ((Try.prog.info? 78).map (·.size) = some X.size) := Lib.hid (by rw [hX]; simp only [List.size_toArray, List.length_append, u8s_len, hnn.1]; exact info_rd)
  have hXs : X.size = 17 := by rw [hX]; simp only [List.size_toArray, List.length_append, u8s_len, hnn.1]; rfl
  have HNx : Hid (X.all (·.oneCell') = true) := Lib.hid (by rw [hX]; exact one_rd _ _)
  have HG : Hid (((w.alloc (.cells zF 37)).alloc (.cells #[Value.int .u8 0, Value.int .u8 0, Value.int .u8 0, Value.int .u8 0, Value.int .u8 0, Value.int .u8 0, Value.int .u8 0, Value.int .u8 0, Value.int .u8 0, Value.int .u8 0, Value.int .u8 0, Value.int .u8 0, Value.int .u8 0, Value.int .u8 0, Value.int .u8 0, Value.int .u8 0, .int .i64 0] 78)).heap[w.heap.size + 1]? = some (.cells #[Value.int .u8 0, Value.int .u8 0, Value.int .u8 0, Value.int .u8 0, Value.int .u8 0, Value.int .u8 0, Value.int .u8 0, Value.int .u8 0, Value.int .u8 0, Value.int .u8 0, Value.int .u8 0, Value.int .u8 0, Value.int .u8 0, Value.int .u8 0, Value.int .u8 0, Value.int .u8 0, .int .i64 0] 78 (0, 0))) := Lib.hid (HasB.new' (by simp) _ _)
  have HSt : Hid (((w.alloc (.cells zF 37)).alloc (.cells #[Value.int .u8 0, Value.int .u8 0, Value.int .u8 0, Value.int .u8 0, Value.int .u8 0, Value.int .u8 0, Value.int .u8 0, Value.int .u8 0, Value.int .u8 0, Value.int .u8 0, Value.int .u8 0, Value.int .u8 0, Value.int .u8 0, Value.int .u8 0, Value.int .u8 0, Value.int .u8 0, .int .i64 0] 78)).setRow (w.heap.size + 1) X = (w.alloc (.cells zF 37)).alloc (.cells X 78)) := Lib.hid (by have := World.setRow_alloc_new (w.alloc (.cells zF 37)) #[Value.int .u8 0, Value.int .u8 0, Value.int .u8 0, Value.int .u8 0, Value.int .u8 0, Value.int .u8 0, Value.int .u8 0, Value.int .u8 0, Value.int .u8 0, Value.int .u8 0, Value.int .u8 0, Value.int .u8 0, Value.int .u8 0, Value.int .u8 0, Value.int .u8 0, Value.int .u8 0, .int .i64 0] X 78; rw [show (w.alloc (.cells zF 37)).heap.size = w.heap.size + 1 by simp] at this; exact this)
  have HOx : Hid ((#[Value.int .u8 0, Value.int .u8 0, Value.int .u8 0, Value.int .u8 0, Value.int .u8 0, Value.int .u8 0, Value.int .u8 0, Value.int .u8 0, Value.int .u8 0, Value.int .u8 0, Value.int .u8 0, Value.int .u8 0, Value.int .u8 0, Value.int .u8 0, Value.int .u8 0, Value.int .u8 0, .int .i64 0] : Array Value).size = X.size) := Lib.hid (by rw [hXs]; rfl)
  clear hX hnn hd hcl hq hfm hXs
  clear hPOST hpo h hA hn hR hro
  go_enter Try.func21, Try.ntmps21
  go_wp2_with (with_reducible refine wpList_store_row rfl 78 (.tmp 8) (.tmp 59) rfl (w.heap.size + 1) X rfl rfl 78 _ HG.out HIx.out HOx.out HNx.out ?_; rw [HSt.out]; refine Stop.mk ?_)
  refine Stop.go ?_
  generalize (w.alloc (.cells zF 37)).alloc (.cells X 78) = w2 at HS ⊢
  clear h35
  have HQx : Hid (w2.heap[w.heap.size + 1]? = some (.cells X 78 (0, 0))) := Lib.hid HS.out.box
  go_wp2_with (with_reducible refine stop_dst 61 rfl ?_)
  refine Stop.go ?_
  refine wpList_load_row rfl 78 (.tmp 8) rfl (w.heap.size + 1) rfl 78 X (0, 0) _ HQx.out Try.underlying78 rfl HIx.out ?_
  go_wp2_with fail
  refine (HRd.out w2 HS.out).mono ?_
  rintro e w3 ⟨rfl, hb3⟩
  have HS3 := Lib.hid (HS.out.below hb3)
  have HQz : Hid (w3.heap[w.heap.size]? = some (.cells zF 37 (0, 0))) := Lib.hid HS3.out.res
  have HW := Lib.hid (HS3.out.fin R)
  go_wp2_with (with_reducible refine wpList_store_row rfl 37 (.tmp 4) (.tmp 63) rfl w.heap.size R rfl rfl 37 _ HQz.out HIr.out HOr.out HNr.out ?_)
  rw [HPo.out]
  exact bodyPost_ret (results_cell_row (p := 4) (by kernel_rfl) _ _ w.heap.size 37 R (0, 0) _ rfl HW.out.1 Try.underlying37 rfl HIr.out) rfl ⟨rfl, HW.out.2.1⟩
theorem answer_any (A : RA) (d : List Nat) (ok : Bool) (F : FuncId) (caps : Array Value) (g : Nat) (w : World) (h : AreaAt w g A) (hA : A.Ok) (hd : d.length = 64 ∧ ∀ c ∈ d, c < 256) (hfm : ∀ args w', Sem.run Try.prog (callFunc F args) w' = .ok (.enter F args) w') (hcl : ∀ x w', Below w.heap.size w w' → Calls Try.prog F (#[.int .i64 x] ++ caps) w' fun e w'' => e = .returned (.tuple #[.agg (u8s d).toArray, .bool ok]) ∧ Below w'.heap.size w' w'') :
    Calls Try.prog 21 #[.pointer (some ⟨g, 0, none⟩), .func (.func F) #[] caps] w fun e w' => e = .returned (A.answer d ok).val ∧ Below w.heap.size w w' := by
  cases hn : A.now with
  | none => exact answer_none A d ok F caps g w h hA hn
  | keying r => exact answer_key A d ok F caps g w h hA r hn
  | writing r a => exact answer_write A d ok F caps g w h hA r a hn
  | counting n => cases hh : A.s.has with
    | true => exact answer_count1 A d ok F caps g w h hA n hn hh
    | false => exact answer_count0 A d ok F caps g w h hA n hn hh
  | reading n a => exact answer_read A d ok F caps g w h hA n a hn hd hfm hcl
  | other k => exact answer_other A d ok F caps g w h hA k hn
theorem RA.answer_ok {A : RA} (hA : A.Ok) {d : List Nat} (hd : d.length = 64 ∧ ∀ c ∈ d, c < 256) (ok : Bool) : (A.answer d ok).Ok := by
  have hs : ∀ f : RF, f.Ok → (A.signed f).Ok := fun f hf => by unfold RA.signed; split <;> first | exact RF.sign_ok hf _ | exact hf
  have hn := hA.now
  unfold RA.answer
  split <;> rename_i e <;> rw [e] at hn
  · exact RF.zero_ok
  · exact RF.with_res (RF.with_typ RF.zero_ok (x := 256) (i64k (by decide))) hn
  · exact hs _ (RF.with_ctr (RF.with_addr (RF.with_res (RF.with_typ RF.zero_ok (x := 768) (i64k (by decide))) hn.1) hn.2) hA.s.cb)
  · split
    · exact RF.with_res (RF.with_nonce (RF.with_typ RF.zero_ok (x := 512) (i64k (by decide))) hn) (x := 7) (i64k (by decide))
    · exact RF.sign_ok (RF.with_ctr (RF.with_nonce (RF.with_typ RF.zero_ok (x := 512) (i64k (by decide))) hn) hA.s.cb) _
  · have o1 := RF.with_addr (RF.with_nonce (RF.with_typ RF.zero_ok (x := 1024) (i64k (by decide))) hn.1) hn.2
    unfold RA.readF
    split
    · exact RF.with_res o1 (x := 7) (i64k (by decide))
    · split
      · exact RF.sign_ok (RF.with_count (RF.with_data (RF.with_res o1 i64_0) hd) (x := 1) (i64k (by decide))) _
      · exact RF.sign_ok (RF.with_res o1 (x := 4) (i64k (by decide))) _
  · exact RF.with_res (RF.with_typ RF.zero_ok (wrap_ok _)) (x := 1) (i64k (by decide))
end Go.Proofs.Ytkdjimcpdbpemaa
