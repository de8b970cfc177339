/- rpa: signed, read: the walks. -/
import Derived.Test.YtkdjimcpdbpemaaRpaL
namespace Go.Proofs.Ytkdjimcpdbpemaa
open Go Go.RowKit
set_option linter.unusedVariables false

theorem yield_build {P : Program} {w : World} (o : Oper) (ev : Operand → Value) (t : TypeId) (parts : Array (Nat × Operand)) (ho : o.op = .build t parts) (cells : Array Value)
    (hf : P.built t (parts.map fun (i, x) => (i, ev x)).toList = some cells) : (execOp ev o).run P w = .ok (.value (.agg cells)) w := by
  have := run_build (P := P) w t (parts.map fun (i, x) => (i, ev x)) cells hf
  unfold execOp
  simp only [ho, this, Sem.run_bind, Sem.run_pure, Result.andThen_ok]
theorem RF.putTail {w : World} {g : Nat} {T : TypeId} {f f' : RF} (hf : f.Ok) (h : HasB w g f.cells.toArray T) (k : Nat) (x : Value) (hk : k < 5) (he : f'.cells = u8s f.tag ++ (u8s f.data ++ (u8s f.nonce ++ f.tail.set k x))) : HasB (w.setCell ⟨g, 112 + k, none⟩ x) g f'.cells.toArray T := by
  have := h.set (112 + k) x
  rw [List.setIfInBounds_toArray, RF.set_tail hf k x hk, ← he] at this
  exact this
theorem RF.putRes {w : World} {g : Nat} {T : TypeId} {f : RF} (hf : f.Ok) (h : HasB w g f.cells.toArray T) (x : Int) : HasB (w.setCell ⟨g, 115, none⟩ (.int .i64 x)) g ({ f with res := x } : RF).cells.toArray T := RF.putTail hf h 3 _ (by decide) rfl
theorem RF.putCount {w : World} {g : Nat} {T : TypeId} {f : RF} (hf : f.Ok) (h : HasB w g f.cells.toArray T) (x : Int) : HasB (w.setCell ⟨g, 114, none⟩ (.int .i64 x)) g ({ f with count := x } : RF).cells.toArray T := RF.putTail hf h 2 _ (by decide) rfl
theorem RF.putTyp {w : World} {g : Nat} {T : TypeId} {f : RF} (hf : f.Ok) (h : HasB w g f.cells.toArray T) (x : Int) : HasB (w.setCell ⟨g, 116, none⟩ (.int .i64 x)) g ({ f with typ := x } : RF).cells.toArray T := RF.putTail hf h 4 _ (by decide) rfl
theorem RF.putCtr {w : World} {g : Nat} {T : TypeId} {f : RF} (hf : f.Ok) (h : HasB w g f.cells.toArray T) (x : Nat) : HasB (w.setCell ⟨g, 112, none⟩ (.int .u32 (x : Int))) g ({ f with ctr := x } : RF).cells.toArray T := RF.putTail hf h 0 _ (by decide) rfl
theorem RF.putData {w : World} {g : Nat} {T : TypeId} {f : RF} (hf : f.Ok) (h : HasB w g f.cells.toArray T) (d : List Nat) (hd : d.length = 64) : HasB (w.setCells g 32 (u8s d)) g ({ f with data := d } : RF).cells.toArray T := by
  unfold RF.cells at h ⊢
  exact h.put3 (by rw [u8s_len, hf.tl]) _ (by rw [u8s_len, u8s_len, hd, hf.dl])
theorem RF.with_res {f : RF} (hf : f.Ok) {x : Int} (hx : I64 x) : ({ f with res := x } : RF).Ok := ⟨hf.tl, hf.dl, hf.nl, hf.tb, hf.db, hf.nb, hf.cb, hf.i1, hf.i2, hx, hf.i4⟩
theorem RF.with_count {f : RF} (hf : f.Ok) {x : Int} (hx : I64 x) : ({ f with count := x } : RF).Ok := ⟨hf.tl, hf.dl, hf.nl, hf.tb, hf.db, hf.nb, hf.cb, hf.i1, hx, hf.i3, hf.i4⟩
theorem RF.with_typ {f : RF} (hf : f.Ok) {x : Int} (hx : I64 x) : ({ f with typ := x } : RF).Ok := ⟨hf.tl, hf.dl, hf.nl, hf.tb, hf.db, hf.nb, hf.cb, hf.i1, hf.i2, hf.i3, hx⟩
theorem RF.with_addr {f : RF} (hf : f.Ok) {x : Int} (hx : I64 x) : ({ f with addr := x } : RF).Ok := ⟨hf.tl, hf.dl, hf.nl, hf.tb, hf.db, hf.nb, hf.cb, hx, hf.i2, hf.i3, hf.i4⟩
theorem RF.with_ctr {f : RF} (hf : f.Ok) {x : Nat} (hx : x < 4294967296) : ({ f with ctr := x } : RF).Ok := ⟨hf.tl, hf.dl, hf.nl, hf.tb, hf.db, hf.nb, hx, hf.i1, hf.i2, hf.i3, hf.i4⟩
theorem RF.with_data {f : RF} (hf : f.Ok) {d : List Nat} (hd : d.length = 64 ∧ ∀ c ∈ d, c < 256) : ({ f with data := d } : RF).Ok := ⟨hf.tl, hd.1, hf.nl, hf.tb, hd.2, hf.nb, hf.cb, hf.i1, hf.i2, hf.i3, hf.i4⟩
theorem RF.with_nonce {f : RF} (hf : f.Ok) {n : List Nat} (hn : n.length = 16 ∧ ∀ c ∈ n, c < 256) : ({ f with nonce := n } : RF).Ok := ⟨hf.tl, hf.dl, hn.1, hf.tb, hf.db, hn.2, hf.cb, hf.i1, hf.i2, hf.i3, hf.i4⟩
theorem i64k {k : Int} (h : -9223372036854775808 ≤ k ∧ k < 9223372036854775808) : I64 k := by unfold I64; omega

set_option maxRecDepth 100000 in
set_option maxHeartbeats 4000000 in
theorem signed_any (A : RA) (f : RF) (g : Nat) (w : World) (h : AreaAt w g A) (hA : A.Ok) (hf : f.Ok) :
    Calls Try.prog 29 #[.pointer (some ⟨g, 0, none⟩), f.val] w fun e w' => e = .returned (A.signed f).val ∧ Below w.heap.size w w' := by
  obtain ⟨POST, hPOST⟩ : ∃ Q : Ending → World → Prop, Q = fun e w' => e = .returned (A.signed f).val ∧ Below w.heap.size w w' := ⟨_, rfl⟩
  rw [← hPOST]
  have HF := Lib.hid (fun w => rsign_any f A.s.key w hf hA.s.kl hA.s.kb)
  unfold RF.val at hPOST HF ⊢
  have hro : (A.signed f).Ok := by
    unfold RA.signed
    split
    · exact RF.sign_ok hf _
    · exact hf
  obtain ⟨C, hC⟩ : ∃ C, C = f.cells.toArray := ⟨_, rfl⟩
  obtain ⟨R, hR⟩ : ∃ R, R = (A.signed f).cells.toArray := ⟨_, rfl⟩
  obtain ⟨KL, hKL⟩ : ∃ KL, KL = u8s A.s.key := ⟨_, rfl⟩
  rw [← hR] at hPOST
  have HPOST := Lib.hid hPOST
  have hb1 : Below w.heap.size w ((w.alloc (.cells C 37)).alloc (.cells zF 37)) := ((Below.refl _ _).alloc (Nat.le_refl _) _).alloc (by simp) _
  have HB1 := Lib.hid hb1
  have HB : Hid (∀ w', Below (w.heap.size + 1) ((w.alloc (.cells C 37)).alloc (.cells zF 37)) w' → w'.heap[w.heap.size]? = some (.cells C 37 (0, 0))) := Lib.hid fun w' hb => ((HasB.new w C _).alloc _).below hb (by omega)
  have HRs : Hid (∀ w', Below ((w.alloc (.cells C 37)).alloc (.cells zF 37)).heap.size ((w.alloc (.cells C 37)).alloc (.cells zF 37)) w' → w'.heap[w.heap.size + 1]? = some (.cells zF 37 (0, 0))) := Lib.hid fun w' hb => (HasB.new' (w := w.alloc (.cells C 37)) (by simp) zF _).below hb (by simp)
  have HA1 : Hid (AreaAt ((w.alloc (.cells C 37)).alloc (.cells zF 37)) g A) := Lib.hid (h.below hb1)
  have hhas := HA1.out.has hA
  have HIf : Hid ((Try.prog.info? 37).map (·.size) = some C.size) := Lib.hid (by rw [hC]; exact info_f hf)
  have HIr : Hid ((Try.prog.info? 37).map (·.size) = some R.size) := Lib.hid (by rw [hR]; exact info_f hro)
  have HIk : Hid ((Try.prog.info? 22).map (·.size) = some KL.length) := Lib.hid (by rw [hKL, u8s_len, hA.s.kl]; exact info_k32)
  have HOr : Hid (zF.size = R.size) := Lib.hid (by rw [hR]; exact old_f hro)
  have HNr : Hid (R.all (·.oneCell') = true) := Lib.hid (by rw [hR]; exact RF.one _)
  have HK : Hid (∀ w', Below (w.heap.size + 1) ((w.alloc (.cells C 37)).alloc (.cells zF 37)) w' → w'.rangeAt g 1 KL) := Lib.hid fun w' hb => by rw [hKL]; exact AreaAt.key (HasB.below HA1.out hb (by have := h.lt; omega))
  rw [← hC, ← hKL] at HF
  rw [← hC]
  clear hPOST h hb1
  cases hh : A.s.has with
  | false =>
    rw [hh] at hhas
    have hrc : R = C := by rw [hR, hC]; unfold RA.signed; rw [hh]; rfl
    rw [hrc] at HPOST HIr HOr HNr
    have HQ : Hid (((w.alloc (.cells C 37)).alloc (.cells zF 37)).heap[w.heap.size]? = some (.cells C 37 (0, 0))) := Lib.hid (HB.out _ (Below.refl _ _))
    have HQr : Hid (((w.alloc (.cells C 37)).alloc (.cells zF 37)).heap[w.heap.size + 1]? = some (.cells zF 37 (0, 0))) := Lib.hid (HRs.out _ (Below.refl _ _))
    have HW : Hid ((((w.alloc (.cells C 37)).alloc (.cells zF 37)).setRow (w.heap.size + 1) C).heap[w.heap.size + 1]? = some (.cells C 37 (0, 0)) ∧ Below w.heap.size w (((w.alloc (.cells C 37)).alloc (.cells zF 37)).setRow (w.heap.size + 1) C)) := Lib.hid ⟨setRow_heap _ _ _ C 37 (0, 0) HQr.out, below_setRow HB1.out (by omega) C⟩
    clear hC hR hKL hA hf hro hh hrc
    go_enter Try.func29, Try.ntmps29
    go_wp2_with (first | (with_reducible refine wpList_load_row rfl 37 (.tmp 3) rfl w.heap.size rfl 37 C (0, 0) _ HQ.out Try.underlying37 rfl HIf.out ?_) | (with_reducible refine wpList_store_row rfl 37 (.tmp 4) (.tmp 11) rfl (w.heap.size + 1) C rfl rfl 37 _ HQr.out HIf.out HOr.out HNr.out ?_))
    rw [HPOST.out]
    exact bodyPost_ret (results_cell_row (p := 4) (by kernel_rfl) _ _ (w.heap.size + 1) 37 C (0, 0) _ rfl HW.out.1 Try.underlying37 rfl HIf.out) rfl ⟨rfl, HW.out.2⟩
  | true =>
    rw [hh] at hhas
    have hrc : (f.sign A.s.key).cells.toArray = R := by rw [hR]; unfold RA.signed; rw [hh]; rfl
    rw [hrc] at HF
    clear hC hR hKL hA hf hro hh hrc
    go_enter Try.func29, Try.ntmps29
    go_wp2_with fail
    generalize (w.alloc (.cells C 37)).alloc (.cells zF 37) = w1 at HB HRs HA1 HK HB1 hhas ⊢
    obtain ⟨gf, hgf⟩ : ∃ gf, gf = w.heap.size := ⟨_, rfl⟩
    obtain ⟨gr, hgr⟩ : ∃ gr, gr = w.heap.size + 1 := ⟨_, rfl⟩
    have hgl : w.heap.size ≤ gr := by omega
    have HGr : Hid (gr ≤ w1.heap.size) := Lib.hid (by have := lt_of_block (HRs.out w1 (Below.refl _ _)); omega)
    rw [← hgr] at HRs HB HK
    rw [← hgf] at HB
    rw [← hgr, ← hgf]
    clear hgf hgr
    refine wp_region_held_drew (S := (fun w' => Below gr w1 w')) (by kernel_rfl) ((Below.refl _ _).drew) (fun hHeld => ?_)
    refine held_take 0 (v := (.agg C)) rfl (by kernel_rfl) (by kernel_rfl) (by kernel_rfl) (fun _ _ _ h => h) (by rfl) (fun w hS => ?_) (by assumption) ?_
    · exact yield_row _ _ 37 (.tmp 3) (by rfl) gf (by rfl) 37 C (0, 0) _ (HB.out w hS) Try.underlying37 (by rfl) HIf.out
    try simp only [Act.put, List.setIfInBounds_toArray, List.set_cons_zero, List.set_cons_succ]
    refine held_take 1 (v := ?_) rfl (by kernel_rfl) (by kernel_rfl) (by kernel_rfl) (fun _ _ _ h => h) (by rfl) (fun w hS => ?_) (by assumption) ?_
    rotate_left
    · try dsimp only at hS
      go_simp <;> with_reducible rfl
    try simp only [Act.put, List.setIfInBounds_toArray, List.set_cons_zero, List.set_cons_succ]
    refine held_take 2 (v := ?_) rfl (by kernel_rfl) (by kernel_rfl) (by kernel_rfl) (fun _ _ _ h => h) (by rfl) (fun w hS => ?_) (by assumption) ?_
    rotate_left
    · try dsimp only at hS
      go_simp <;> with_reducible rfl
    try simp only [Act.put, List.setIfInBounds_toArray, List.set_cons_zero, List.set_cons_succ]
    refine held_take 3 (v := ?_) rfl (by kernel_rfl) (by kernel_rfl) (by kernel_rfl) (fun _ _ _ h => h) (by rfl) (fun w hS => ?_) (by assumption) ?_
    rotate_left
    · try dsimp only at hS
      go_simp <;> with_reducible rfl
    try simp only [Act.put, List.setIfInBounds_toArray, List.set_cons_zero, List.set_cons_succ]
    refine held_take 4 (v := ?_) rfl (by kernel_rfl) (by kernel_rfl) (by kernel_rfl) (fun _ _ _ h => h) (by rfl) (fun w hS => ?_) (by assumption) ?_
    rotate_left
    · try dsimp only at hS
      go_simp <;> with_reducible rfl
    try simp only [Act.put, List.setIfInBounds_toArray, List.set_cons_zero, List.set_cons_succ]
    refine held_take 5 (v := (.agg KL.toArray)) rfl (by kernel_rfl) (by kernel_rfl) (by kernel_rfl) (fun _ _ _ h => h) (by rfl) (fun w hS => ?_) (by assumption) ?_
    · exact yield_load_mid _ _ 22 (.tmp 16) (by rfl) g 1 (by rfl) KL _ (HK.out w hS) Try.underlying22 (by rfl) HIk.out
    try simp only [Act.put, List.setIfInBounds_toArray, List.set_cons_zero, List.set_cons_succ]
    refine held_one 6 rfl (by kernel_rfl) (fun K hK => ?_)
    go_simp
    refine (HF.out _).mono ?_
    rintro e w2 ⟨rfl, hb2⟩
    have hb2 : Below w1.heap.size w1 w2 := (Below.refl _ _).drew.trans hb2
    have HQ2 : Hid (w2.heap[gr]? = some (.cells zF 37 (0, 0))) := Lib.hid (HRs.out w2 hb2)
    have HB2 := Lib.hid hb2
    have HB2g : Hid (Below gr w1 w2) := Lib.hid (hb2.mono HGr.out)
    clear hb2
    refine hK.out _ _ (fun w' => Below gr w1 w') (fun _ h => h) HB2g.out (fun hHeld => ?_)
    clear hK K
    try simp only [Act.put, List.setIfInBounds_toArray, List.set_cons_zero, List.set_cons_succ]
    refine held_one 7 rfl (by kernel_rfl) (fun K hK => ?_)
    refine (if_pos (by kernel_rfl)).mpr ?_
    refine wp_store_row 37 (.tmp 4) (.tmp 18) rfl gr R rfl rfl 37 _ HQ2.out HIr.out HOr.out HNr.out ?_
    refine hK.out _ _ (fun w' => Below gr w1 w') (fun _ h => h) (below_setRow HB2g.out (Nat.le_refl _) R) (fun hHeld => ?_)
    clear hK K
    try simp only [Act.put, List.setIfInBounds_toArray, List.set_cons_zero, List.set_cons_succ]
    refine held_done (by kernel_rfl) ?_
    have HW : Hid ((w2.setRow gr R).heap[gr]? = some (.cells R 37 (0, 0)) ∧ Below w.heap.size w (w2.setRow gr R)) := Lib.hid ⟨setRow_heap _ _ _ R 37 (0, 0) HQ2.out, below_setRow (HB1.out.trans (HB2.out.mono HB1.out.size)) hgl R⟩
    go_wp2_with fail
    rw [HPOST.out]
    exact bodyPost_ret (results_cell_row (p := 4) (by kernel_rfl) _ _ gr 37 R (0, 0) _ rfl HW.out.1 Try.underlying37 rfl HIr.out) rfl ⟨rfl, HW.out.2⟩

/-- The area and the boxes of read. -/
structure RdS (w0 : World) (g gx gr gf : Nat) (A : RA) (X : Array Value) (f : RF) (w : World) : Prop where
  be : Below w0.heap.size w0 w
  area : AreaAt w g A
  arg : HasB w gx X 78
  res : HasB w gr zF 37
  box : HasB w gf f.cells.toArray 37
  ok : f.Ok
  l0 : g < w0.heap.size
  l1 : w0.heap.size ≤ gx
  l2 : gx < gr
  l3 : gr < gf
theorem RdS.below {w0 w w' : World} {g gx gr gf : Nat} {A : RA} {X : Array Value} {f : RF} (h : RdS w0 g gx gr gf A X f w) (hb : Below w.heap.size w w') : RdS w0 g gx gr gf A X f w' :=
  ⟨h.be.trans (hb.mono h.be.size), h.area.below hb, h.arg.below hb h.arg.lt, h.res.below hb h.res.lt, h.box.below hb h.box.lt, h.ok, h.l0, h.l1, h.l2, h.l3⟩
theorem RdS.put {w0 w w' : World} {g gx gr gf : Nat} {A : RA} {X : Array Value} {f f' : RF} (h : RdS w0 g gx gr gf A X f w) (hf : HasB w' gf f'.cells.toArray 37) (hok : f'.Ok) (hg : w.grownBy w' (some gf)) : RdS w0 g gx gr gf A X f' w' := by
  have h0 := h.l0
  have h1 := h.l1
  have h2 := h.l2
  have h3 := h.l3
  exact ⟨below_gb h.be hg h.be.size (by omega), HasB.kept h.area hg (by intro e; have := Option.some.inj e; omega), h.arg.kept hg (by intro e; have := Option.some.inj e; omega), h.res.kept hg (by intro e; have := Option.some.inj e; omega), hf, hok, h.l0, h.l1, h.l2, h.l3⟩
theorem RdS.putRes {w0 w : World} {g gx gr gf : Nat} {A : RA} {X : Array Value} {f : RF} (h : RdS w0 g gx gr gf A X f w) (x : Int) (hx : I64 x) : RdS w0 g gx gr gf A X { f with res := x } (w.setCell ⟨gf, 115, none⟩ (.int .i64 x)) :=
  h.put (RF.putRes h.ok h.box x) (RF.with_res h.ok hx) (gb_set (gb_refl _ _) _ _)
theorem RdS.putCount {w0 w : World} {g gx gr gf : Nat} {A : RA} {X : Array Value} {f : RF} (h : RdS w0 g gx gr gf A X f w) (x : Int) (hx : I64 x) : RdS w0 g gx gr gf A X { f with count := x } (w.setCell ⟨gf, 114, none⟩ (.int .i64 x)) :=
  h.put (RF.putCount h.ok h.box x) (RF.with_count h.ok hx) (gb_set (gb_refl _ _) _ _)
theorem RdS.putData {w0 w : World} {g gx gr gf : Nat} {A : RA} {X : Array Value} {f : RF} (h : RdS w0 g gx gr gf A X f w) (d : List Nat) (hd : d.length = 64 ∧ ∀ c ∈ d, c < 256) : RdS w0 g gx gr gf A X { f with data := d } (w.setCells gf 32 (u8s d)) :=
  h.put (RF.putData h.ok h.box d hd.1) (RF.with_data h.ok hd) (gb_cells _ _ (gb_refl _ _))
/-- What read lays into its result. -/
theorem RdS.fin {w0 w : World} {g gx gr gf : Nat} {A : RA} {X : Array Value} {f : RF} (h : RdS w0 g gx gr gf A X f w) (R : Array Value) : (w.setRow gr R).heap[gr]? = some (.cells R 37 (0, 0)) ∧ Below w0.heap.size w0 (w.setRow gr R) :=
  ⟨setRow_heap _ _ _ R 37 (0, 0) h.res, below_setRow h.be (by have := h.l1; have := h.l2; omega) R⟩
theorem built_ask (n : List Nat) (a : Int) (hn : n.length = 16 ∧ ∀ c ∈ n, c < 256) (ha : I64 a) : Try.prog.built 37 [(7, .int .i64 1024), (2, .agg (u8s n).toArray), (4, .int .i64 a)] = some ({ RF.zero with typ := 1024, nonce := n, addr := a } : RF).cells.toArray := by
  have o1 := RF.with_typ RF.zero_ok (x := 1024) (i64k (by decide))
  rw [built_frame, fillF_typ RF.zero_ok, fillF_nonce o1 n hn.1, fillF_addr (RF.with_nonce o1 hn)]
  rfl

set_option maxRecDepth 100000 in
set_option maxHeartbeats 4000000 in
theorem read_any (A : RA) (n : List Nat) (a : Int) (d : List Nat) (ok : Bool) (F : FuncId) (caps : Array Value) (g : Nat) (w : World) (h : AreaAt w g A) (hA : A.Ok) (hn : n.length = 16 ∧ ∀ c ∈ n, c < 256) (ha : I64 a) (hd : d.length = 64 ∧ ∀ c ∈ d, c < 256)
    (hfm : ∀ args w', Sem.run Try.prog (callFunc F args) w' = .ok (.enter F args) w')
    (hcl : ∀ x w', Below w.heap.size w w' → Calls Try.prog F (#[.int .i64 x] ++ caps) w' fun e w'' => e = .returned (.tuple #[.agg (u8s d).toArray, .bool ok]) ∧ Below w'.heap.size w' w'') :
    Calls Try.prog 30 #[.pointer (some ⟨g, 0, none⟩), .agg (u8s n ++ [Value.int .i64 a]).toArray, .func (.func F) #[] caps] w fun e w' => e = .returned (A.readF n a d ok).val ∧ Below w.heap.size w w' := by
  obtain ⟨POST, hPOST⟩ : ∃ Q : Ending → World → Prop, Q = fun e w' => e = .returned (A.readF n a d ok).val ∧ Below w.heap.size w w' := ⟨_, rfl⟩
  rw [← hPOST]
  have HPOST := Lib.hid hPOST
  have HA := Lib.hid hA
  have HCl := Lib.hid hcl
  have HDk := Lib.hid hd
  have HNk := Lib.hid hn
  have HAi := Lib.hid ha
  obtain ⟨X, hX⟩ : ∃ X, X = (u8s n ++ [Value.int .i64 a]).toArray := ⟨_, rfl⟩
  obtain ⟨NL, hNL⟩ : ∃ NL, NL = u8s n := ⟨_, rfl⟩
  obtain ⟨DL, hDL⟩ : ∃ DL, DL = u8s d := ⟨_, rfl⟩
  have hb1 : Below w.heap.size w ((w.alloc (.cells X 78)).alloc (.cells zF 37)) := ((Below.refl _ _).alloc (Nat.le_refl _) _).alloc (by simp) _
  have HB1 := Lib.hid hb1
  have HX1 : Hid (HasB ((w.alloc (.cells X 78)).alloc (.cells zF 37)) w.heap.size X 78) := Lib.hid ((HasB.new w X _).alloc _)
  have HR1 : Hid (HasB ((w.alloc (.cells X 78)).alloc (.cells zF 37)) (w.heap.size + 1) zF 37) := Lib.hid (HasB.new' (by simp) _ _)
  have HA1 : Hid (AreaAt ((w.alloc (.cells X 78)).alloc (.cells zF 37)) g A) := Lib.hid (h.below hb1)
  have HNt : Hid ((((w.alloc (.cells X 78)).alloc (.cells zF 37))).rangeAt w.heap.size 0 NL) := Lib.hid (by
    have := HX1.out
    rw [hX] at this ⊢
    rw [hNL]
    exact HasB.range3 (A := []) this rfl)
  have HX16 : Hid (∀ w', HasB w' w.heap.size X 78 → w'.cell? ⟨w.heap.size, 16, none⟩ = some (.int .i64 a)) := Lib.hid (fun w' hw => by
    rw [hX] at hw
    exact HasB.cell1 (A := u8s n) (C := []) hw (by rw [u8s_len, hn.1]))
  have HIn : Hid ((Try.prog.info? 35).map (·.size) = some NL.length) := Lib.hid (by rw [hNL, u8s_len, hn.1]; exact info_n16)
  have HId2 : Hid ((Try.prog.info? 34).map (·.size) = some DL.toArray.size) := Lib.hid (by rw [hDL, List.size_toArray, u8s_len, hd.1]; exact info_d64)
  have HOd : Hid (DL.toArray.all (·.oneCell') = true) := Lib.hid (by rw [hDL]; exact u8_oneA _)
  have HZd : Hid ((#[Value.int .u8 0, Value.int .u8 0, Value.int .u8 0, Value.int .u8 0, Value.int .u8 0, Value.int .u8 0, Value.int .u8 0, Value.int .u8 0, Value.int .u8 0, Value.int .u8 0, Value.int .u8 0, Value.int .u8 0, Value.int .u8 0, Value.int .u8 0, Value.int .u8 0, Value.int .u8 0, Value.int .u8 0, Value.int .u8 0, Value.int .u8 0, Value.int .u8 0, Value.int .u8 0, Value.int .u8 0, Value.int .u8 0, Value.int .u8 0, Value.int .u8 0, Value.int .u8 0, Value.int .u8 0, Value.int .u8 0, Value.int .u8 0, Value.int .u8 0, Value.int .u8 0, Value.int .u8 0, Value.int .u8 0, Value.int .u8 0, Value.int .u8 0, Value.int .u8 0, Value.int .u8 0, Value.int .u8 0, Value.int .u8 0, Value.int .u8 0, Value.int .u8 0, Value.int .u8 0, Value.int .u8 0, Value.int .u8 0, Value.int .u8 0, Value.int .u8 0, Value.int .u8 0, Value.int .u8 0, Value.int .u8 0, Value.int .u8 0, Value.int .u8 0, Value.int .u8 0, Value.int .u8 0, Value.int .u8 0, Value.int .u8 0, Value.int .u8 0, Value.int .u8 0, Value.int .u8 0, Value.int .u8 0, Value.int .u8 0, Value.int .u8 0, Value.int .u8 0, Value.int .u8 0, Value.int .u8 0] : Array Value).size = DL.toArray.size) := Lib.hid (by rw [show DL.toArray.size = 64 by rw [List.size_toArray, hDL, u8s_len, hd.1]]; rfl)
  have hbl := built_ask n a hn ha
  obtain ⟨C1, hC1⟩ : ∃ C1, C1 = ({ RF.zero with typ := 1024, nonce := n, addr := a } : RF).cells.toArray := ⟨_, rfl⟩
  rw [← hNL, ← hC1] at hbl
  have HBl := Lib.hid hbl
  have ho1 : ({ RF.zero with typ := 1024, nonce := n, addr := a } : RF).Ok := RF.with_addr (RF.with_nonce (RF.with_typ RF.zero_ok (i64k (by decide))) hn) ha
  have HI1 : Hid ((Try.prog.info? 37).map (·.size) = some C1.size) := Lib.hid (by rw [hC1]; exact info_f ho1)
  have HO1 : Hid (zF.size = C1.size) := Lib.hid (by rw [hC1]; exact old_f ho1)
  have HE1 : Hid (C1.all (·.oneCell') = true) := Lib.hid (by rw [hC1]; exact RF.one _)
  have HC1 := Lib.hid hC1
  have HOk1 := Lib.hid ho1
  have HLt := Lib.hid h.lt
  have HDL := Lib.hid hDL
  rw [← hDL] at HCl
  rw [← hX]
  clear hPOST h hA hcl hd hn ha hX hNL hDL hb1 hbl hC1 ho1
  go_enter Try.func30, Try.ntmps30
  go_wp2_with (with_reducible refine stop_dst 11 rfl ?_)
  refine Stop.go ?_
  generalize (w.alloc (.cells X 78)).alloc (.cells zF 37) = w1 at HB1 HX1 HR1 HA1 HNt ⊢
  obtain ⟨gx, hgx⟩ : ∃ gx, gx = w.heap.size := ⟨_, rfl⟩
  obtain ⟨gr, hgr⟩ : ∃ gr, gr = w.heap.size + 1 := ⟨_, rfl⟩
  have HGx : Hid (w.heap.size ≤ gx ∧ gx < gr) := Lib.hid (by omega)
  rw [← hgr] at HR1 ⊢
  rw [← hgx] at HX1 HX16 HNt ⊢
  clear hgx hgr
  refine wpList_load_mid rfl 35 (.tmp 10) rfl gx 0 rfl NL _ HNt.out Try.underlying35 rfl HIn.out ?_
  have hx := HX16.out w1 HX1.out
  go_wp2_with (with_reducible refine stop_build 37 _ rfl ?_)
  refine Stop.go ?_
  refine wpList_buildTo rfl 37 _ rfl _ rfl C1 ?_ ?_
  · rw [List.map_toArray]; exact HBl.out
  go_wp2_with (with_reducible refine wpList_store_row rfl 37 (.tmp 7) (.tmp 14) rfl w1.heap.size C1 rfl rfl 37 zF (heap_new w1 _) HI1.out HO1.out HE1.out ?_; rw [World.setRow_alloc_new]; refine Stop.mk ?_)
  refine Stop.go ?_
  have HS2 : Hid (RdS w g gx gr w1.heap.size A X { RF.zero with typ := 1024, nonce := n, addr := a } (w1.alloc (.cells C1 37))) := Lib.hid ⟨HB1.out.alloc HB1.out.size _, HA1.out.below ((Below.refl _ _).alloc (Nat.le_refl _) _), HX1.out.alloc _, HR1.out.alloc _, by rw [HC1.out]; exact HasB.new _ _ _, HOk1.out, HLt.out, HGx.out.1, HGx.out.2, HR1.out.lt⟩
  generalize w1.alloc (.cells C1 37) = w2 at HS2 ⊢
  obtain ⟨gf, hgf⟩ : ∃ gf, gf = w1.heap.size := ⟨_, rfl⟩
  rw [← hgf] at HS2 ⊢
  clear hgf hx HNt HA1 HR1 HX1 HB1
  have hhas := HS2.out.area.has HA.out
  have hfl : gf < w2.heap.size := HS2.out.box.lt
  have hff : w2.frozen? ⟨gf, 115, none⟩ = false := HS2.out.box.free 115
  have hfc : w2.cell? ⟨gf, 115, none⟩ = some (.int .i64 0) := RF.tail_at HS2.out.ok HS2.out.box 3 _ rfl
  cases hh : A.s.has with
  | false =>
    rw [hh] at hhas
    have HHh := Lib.hid hh
    clear hh
    go_wp2_with (with_reducible refine stop_dst 22 rfl ?_)
    refine Stop.go ?_
    have HS3 : Hid (RdS w g gx gr gf A X { RF.zero with typ := 1024, nonce := n, addr := a, res := 7 } (w2.setCell ⟨gf, 115, none⟩ (.int .i64 7))) := Lib.hid (HS2.out.putRes 7 (i64k (by decide)))
    generalize w2.setCell ⟨gf, 115, none⟩ (.int .i64 7) = w3 at HS3 ⊢
    clear hhas hfl hff hfc HS2
    have HQa : Hid (w3.heap[gf]? = some (.cells ({ RF.zero with typ := 1024, nonce := n, addr := a, res := 7 } : RF).cells.toArray 37 (0, 0))) := Lib.hid HS3.out.box
    obtain ⟨C, hC⟩ : ∃ C, C = ({ RF.zero with typ := 1024, nonce := n, addr := a, res := 7 } : RF).cells.toArray := ⟨_, rfl⟩
    rw [← hC] at HQa
    have HIf : Hid ((Try.prog.info? 37).map (·.size) = some C.size) := Lib.hid (by rw [hC]; exact info_f HS3.out.ok)
    have HOr : Hid (zF.size = C.size) := Lib.hid (by rw [hC]; exact old_f HS3.out.ok)
    have HNr : Hid (C.all (·.oneCell') = true) := Lib.hid (by rw [hC]; exact RF.one _)
    have hpo : POST = fun e w' => e = .returned (.agg C) ∧ Below w.heap.size w w' := by rw [HPOST.out, hC]; unfold RA.readF; rw [if_pos HHh.out]; rfl
    have HPo := Lib.hid hpo
    have HQz : Hid (w3.heap[gr]? = some (.cells zF 37 (0, 0))) := Lib.hid HS3.out.res
    have HW := Lib.hid (HS3.out.fin C)
    clear hC hpo
    refine wpList_load_row rfl 37 (.tmp 7) rfl gf rfl 37 C (0, 0) _ HQa.out Try.underlying37 rfl HIf.out ?_
    go_wp2_with (with_reducible refine wpList_store_row rfl 37 (.tmp 6) (.tmp 22) rfl gr C rfl rfl 37 _ HQz.out HIf.out HOr.out HNr.out ?_)
    rw [HPo.out]
    exact bodyPost_ret (results_cell_row (p := 6) (by kernel_rfl) _ _ gr 37 C (0, 0) _ rfl HW.out.1 Try.underlying37 rfl HIf.out) rfl ⟨rfl, HW.out.2⟩
  | true =>
    rw [hh] at hhas
    have HHh := Lib.hid hh
    have hx := HX16.out w2 HS2.out.arg
    clear hh
    go_wp2_with fail
    have HS3 : Hid (RdS w g gx gr gf A X { RF.zero with typ := 1024, nonce := n, addr := a, res := 4 } (w2.setCell ⟨gf, 115, none⟩ (.int .i64 4))) := Lib.hid (HS2.out.putRes 4 (i64k (by decide)))
    generalize w2.setCell ⟨gf, 115, none⟩ (.int .i64 4) = w3 at HS3 ⊢
    clear hhas hfl hff hfc HS2 hx
    refine (there_any A g a w3 HS3.out.area).mono ?_
    rintro e w4 ⟨rfl, rfl⟩
    by_cases hin : 0 ≤ a ∧ a < A.places
    · rw [decide_eq_true hin]
      have HIn2 := Lib.hid hin
      clear hin
      have hx := HX16.out w3 HS3.out.arg
      go_wp2_with fail
      refine (HCl.out a w3 HS3.out.be).mono ?_
      rintro e w4 ⟨rfl, hb⟩
      have HS4 := Lib.hid (HS3.out.below hb)
      clear hb hx HS3
      go_wp2_with (with_reducible refine wpList_store_row rfl 34 (.tmp 8) (.tmp 33) rfl w4.heap.size DL.toArray rfl rfl 34 _ (heap_new w4 _) HId2.out HZd.out HOd.out ?_; rw [World.setRow_alloc_new]; refine Stop.mk ?_)
      refine Stop.go ?_
      have HS5 : Hid (RdS w g gx gr gf A X { RF.zero with typ := 1024, nonce := n, addr := a, res := 4 } (w4.alloc (.cells DL.toArray 34))) := Lib.hid (HS4.out.below ((Below.refl _ _).alloc (Nat.le_refl _) _))
      have HD5 : Hid (HasB (w4.alloc (.cells DL.toArray 34)) w4.heap.size DL.toArray 34) := Lib.hid (HasB.new _ _ _)
      have HGd : Hid (w4.heap.size ≠ gf) := Lib.hid (by have := HS4.out.box.lt; omega)
      generalize w4.alloc (.cells DL.toArray 34) = w5 at HS5 HD5 ⊢
      obtain ⟨gd, hgd⟩ : ∃ gd, gd = w4.heap.size := ⟨_, rfl⟩
      rw [← hgd] at HD5 HGd ⊢
      clear hgd HS4
      cases ok with
      | false =>
        go_wp2_with (with_reducible refine stop_dst 41 rfl ?_)
        refine Stop.go ?_
        have HQa : Hid (w5.heap[gf]? = some (.cells ({ RF.zero with typ := 1024, nonce := n, addr := a, res := 4 } : RF).cells.toArray 37 (0, 0))) := Lib.hid HS5.out.box
        have hsg := signed_any A ({ RF.zero with typ := 1024, nonce := n, addr := a, res := 4 } : RF) g w5 HS5.out.area HA.out HS5.out.ok
        have hro := RF.sign_ok HS5.out.ok A.s.key
        rw [show A.signed ({ RF.zero with typ := 1024, nonce := n, addr := a, res := 4 } : RF) = ({ RF.zero with typ := 1024, nonce := n, addr := a, res := 4 } : RF).sign A.s.key by unfold RA.signed; rw [HHh.out]; rfl] at hsg
        unfold RF.val at hsg
        obtain ⟨R, hR⟩ : ∃ R, R = (({ RF.zero with typ := 1024, nonce := n, addr := a, res := 4 } : RF).sign A.s.key).cells.toArray := ⟨_, rfl⟩
        have HIr : Hid ((Try.prog.info? 37).map (·.size) = some R.size) := Lib.hid (by rw [hR]; exact info_f hro)
        have HOr : Hid (zF.size = R.size) := Lib.hid (by rw [hR]; exact old_f hro)
        have HNr : Hid (R.all (·.oneCell') = true) := Lib.hid (by rw [hR]; exact RF.one _)
        have hpo : POST = fun e w' => e = .returned (.agg R) ∧ Below w.heap.size w w' := by rw [HPOST.out, hR]; unfold RA.readF; rw [if_neg (by rw [HHh.out]; decide), if_neg (fun q => by cases q.2)]; rfl
        have HPo := Lib.hid hpo
        rw [← hR] at hsg
        obtain ⟨C, hC⟩ : ∃ C, C = ({ RF.zero with typ := 1024, nonce := n, addr := a, res := 4 } : RF).cells.toArray := ⟨_, rfl⟩
        rw [← hC] at HQa hsg
        have HIf : Hid ((Try.prog.info? 37).map (·.size) = some C.size) := Lib.hid (by rw [hC]; exact info_f HS5.out.ok)
        have HSg := Lib.hid hsg
        clear hR hro hpo hC hsg
        go_wp2_with (with_reducible refine wpList_load_row rfl 37 (.tmp 7) rfl gf rfl 37 C (0, 0) _ HQa.out Try.underlying37 rfl HIf.out ?_)
        refine HSg.out.mono ?_
        rintro e wz ⟨rfl, hbz⟩
        have HZ := Lib.hid (HS5.out.below hbz)
        have HQz : Hid (wz.heap[gr]? = some (.cells zF 37 (0, 0))) := Lib.hid HZ.out.res
        have HW := Lib.hid (HZ.out.fin R)
        clear hbz HQa
        go_wp2_with (with_reducible refine wpList_store_row rfl 37 (.tmp 6) (.tmp 42) rfl gr R rfl rfl 37 _ HQz.out HIr.out HOr.out HNr.out ?_)
        rw [HPo.out]
        exact bodyPost_ret (results_cell_row (p := 6) (by kernel_rfl) _ _ gr 37 R (0, 0) _ rfl HW.out.1 Try.underlying37 rfl HIr.out) rfl ⟨rfl, HW.out.2⟩
      | true =>
        go_wp2_with fail
        have hfl : gf < w5.heap.size := HS5.out.box.lt
        have hff : w5.frozen? ⟨gf, 115, none⟩ = false := HS5.out.box.free 115
        have hfc : w5.cell? ⟨gf, 115, none⟩ = some (.int .i64 4) := RF.tail_at HS5.out.ok HS5.out.box 3 _ rfl
        have HDr : Hid (∀ w', (w' = w5.drew ∨ ∃ f, RdS w g gx gr gf A X f w' ∧ HasB w' gd DL.toArray 34) → w'.heap[gd]? = some (.cells DL.toArray 34 (0, 0))) := Lib.hid (fun w' hw => by
          rcases hw with rfl | ⟨f, _, hw⟩
          · exact HD5.out
          · exact hw)
        have HS6 : Hid (RdS w g gx gr gf A X { RF.zero with typ := 1024, nonce := n, addr := a, res := 0 } (w5.setCell ⟨gf, 115, none⟩ (.int .i64 0)).drew) := Lib.hid ((HS5.out.below (Below.refl _ _).drew).putRes 0 i64_0)
        have HD6 : Hid (HasB (w5.setCell ⟨gf, 115, none⟩ (.int .i64 0)).drew gd DL.toArray 34) := Lib.hid (HD5.out.drew.set_other HGd.out _)
        have HTh6 : Hid ((w5.setCell ⟨gf, 115, none⟩ (.int .i64 0)).drew.there gf 32 DL.toArray.size) := Lib.hid (HasB.there HS6.out.box (by rw [RF.cells_len HS6.out.ok, HDL.out, List.size_toArray, u8s_len, HDk.out.1]; decide))
        have HS7 : Hid (RdS w g gx gr gf A X { RF.zero with typ := 1024, nonce := n, addr := a, res := 0, data := d } ((w5.setCell ⟨gf, 115, none⟩ (.int .i64 0)).drew.setCells gf 32 DL.toArray.toList)) := Lib.hid (by rw [HDL.out]; exact HS6.out.putData d HDk.out)
        have HD7 : Hid (HasB ((w5.setCell ⟨gf, 115, none⟩ (.int .i64 0)).drew.setCells gf 32 DL.toArray.toList) gd DL.toArray 34) := Lib.hid (HD6.out.kept (gb_cells _ _ (gb_refl _ _)) (by intro e; exact HGd.out (Option.some.inj e)))
        have hfl7 : gf < ((w5.setCell ⟨gf, 115, none⟩ (.int .i64 0)).drew.setCells gf 32 DL.toArray.toList).heap.size := HS7.out.box.lt
        have hff7 : ((w5.setCell ⟨gf, 115, none⟩ (.int .i64 0)).drew.setCells gf 32 DL.toArray.toList).frozen? ⟨gf, 114, none⟩ = false := HS7.out.box.free 114
        have hfc7 : ((w5.setCell ⟨gf, 115, none⟩ (.int .i64 0)).drew.setCells gf 32 DL.toArray.toList).cell? ⟨gf, 114, none⟩ = some (.int .i64 0) := RF.tail_at HS7.out.ok HS7.out.box 2 _ rfl
        have HS8 : Hid (RdS w g gx gr gf A X { RF.zero with typ := 1024, nonce := n, addr := a, res := 0, data := d, count := 1 } (((w5.setCell ⟨gf, 115, none⟩ (.int .i64 0)).drew.setCells gf 32 DL.toArray.toList).setCell ⟨gf, 114, none⟩ (.int .i64 1))) := Lib.hid (HS7.out.putCount 1 (i64k (by decide)))
        have HD8 : Hid (HasB (((w5.setCell ⟨gf, 115, none⟩ (.int .i64 0)).drew.setCells gf 32 DL.toArray.toList).setCell ⟨gf, 114, none⟩ (.int .i64 1)) gd DL.toArray 34) := Lib.hid (HD7.out.set_other HGd.out _)
        refine wp_region_held_drew (S := (fun w' => w' = w5.drew ∨ ∃ f, RdS w g gx gr gf A X f w' ∧ HasB w' gd DL.toArray 34)) (by kernel_rfl) ((.inl rfl)) (fun hHeld => ?_)
        refine held_take 0 (v := (.agg DL.toArray)) rfl (by kernel_rfl) (by kernel_rfl) (by kernel_rfl) (fun _ _ _ h => h) (by rfl) (fun w hS => ?_) (by assumption) ?_
        · exact yield_row _ _ 34 (.tmp 8) (by rfl) gd (by rfl) 34 DL.toArray (0, 0) _ (HDr.out w hS) Try.underlying34 (by rfl) HId2.out
        try simp only [Act.put, List.setIfInBounds_toArray, List.set_cons_zero, List.set_cons_succ]
        refine held_take 1 (v := ?_) rfl (by kernel_rfl) (by kernel_rfl) (by kernel_rfl) (fun _ _ _ h => h) (by rfl) (fun w hS => ?_) (by assumption) ?_
        rotate_left
        · try dsimp only at hS
          go_simp <;> with_reducible rfl
        try simp only [Act.put, List.setIfInBounds_toArray, List.set_cons_zero, List.set_cons_succ]
        refine held_one 2 rfl (by kernel_rfl) (fun K hK => ?_)
        go_simp
        refine hK.out _ _ (fun w' => ∃ f, RdS w g gx gr gf A X f w' ∧ HasB w' gd DL.toArray 34) (fun _ h => .inr h) ⟨_, HS6.out, HD6.out⟩ (fun hHeld => ?_)
        clear hK K
        try simp only [Act.put, List.setIfInBounds_toArray, List.set_cons_zero, List.set_cons_succ]
        refine held_take 3 (v := ?_) rfl (by kernel_rfl) (by kernel_rfl) (by kernel_rfl) (fun _ _ _ h => h) (by rfl) (fun w hS => ?_) (by assumption) ?_
        rotate_left
        · try dsimp only at hS
          go_simp <;> with_reducible rfl
        try simp only [Act.put, List.setIfInBounds_toArray, List.set_cons_zero, List.set_cons_succ]
        refine held_one 4 rfl (by kernel_rfl) (fun K hK => ?_)
        refine (if_pos (by kernel_rfl)).mpr ?_
        refine wp_store_mid 34 (.tmp 38) (.tmp 36) rfl gf 32 DL.toArray rfl rfl HTh6.out HId2.out HOd.out ?_
        refine hK.out _ _ (fun w' => ∃ f, RdS w g gx gr gf A X f w' ∧ HasB w' gd DL.toArray 34) (fun _ h => h) ⟨_, HS7.out, HD7.out⟩ (fun hHeld => ?_)
        clear hK K
        try simp only [Act.put, List.setIfInBounds_toArray, List.set_cons_zero, List.set_cons_succ]
        generalize (w5.setCell ⟨gf, 115, none⟩ (.int .i64 0)).drew.setCells gf 32 DL.toArray.toList = w7 at HS7 HD7 hfl7 hff7 hfc7 HS8 HD8 hHeld ⊢
        refine held_take 5 (v := ?_) rfl (by kernel_rfl) (by kernel_rfl) (by kernel_rfl) (fun _ _ _ h => h) (by rfl) (fun w hS => ?_) (by assumption) ?_
        rotate_left
        · try dsimp only at hS
          go_simp <;> with_reducible rfl
        try simp only [Act.put, List.setIfInBounds_toArray, List.set_cons_zero, List.set_cons_succ]
        refine held_one 6 rfl (by kernel_rfl) (fun K hK => ?_)
        go_simp
        refine hK.out _ _ (fun w' => ∃ f, RdS w g gx gr gf A X f w' ∧ HasB w' gd DL.toArray 34) (fun _ h => h) ⟨_, HS8.out, HD8.out⟩ (fun hHeld => ?_)
        clear hK K
        try simp only [Act.put, List.setIfInBounds_toArray, List.set_cons_zero, List.set_cons_succ]
        refine held_done (by kernel_rfl) ?_
        clear HD8
        generalize w7.setCell ⟨gf, 114, none⟩ (.int .i64 1) = w8 at HS8 ⊢
        clear hfl hff hfc HDr HS6 HD6 HTh6 HS7 HD7 hfl7 hff7 hfc7 HS5 HD5
        have HQa : Hid (w8.heap[gf]? = some (.cells ({ RF.zero with typ := 1024, nonce := n, addr := a, res := 0, data := d, count := 1 } : RF).cells.toArray 37 (0, 0))) := Lib.hid HS8.out.box
        have hsg := signed_any A ({ RF.zero with typ := 1024, nonce := n, addr := a, res := 0, data := d, count := 1 } : RF) g w8 HS8.out.area HA.out HS8.out.ok
        have hro := RF.sign_ok HS8.out.ok A.s.key
        rw [show A.signed ({ RF.zero with typ := 1024, nonce := n, addr := a, res := 0, data := d, count := 1 } : RF) = ({ RF.zero with typ := 1024, nonce := n, addr := a, res := 0, data := d, count := 1 } : RF).sign A.s.key by unfold RA.signed; rw [HHh.out]; rfl] at hsg
        unfold RF.val at hsg
        obtain ⟨R, hR⟩ : ∃ R, R = (({ RF.zero with typ := 1024, nonce := n, addr := a, res := 0, data := d, count := 1 } : RF).sign A.s.key).cells.toArray := ⟨_, rfl⟩
        have HIr : Hid ((Try.prog.info? 37).map (·.size) = some R.size) := Lib.hid (by rw [hR]; exact info_f hro)
        have HOr : Hid (zF.size = R.size) := Lib.hid (by rw [hR]; exact old_f hro)
        have HNr : Hid (R.all (·.oneCell') = true) := Lib.hid (by rw [hR]; exact RF.one _)
        have hpo : POST = fun e w' => e = .returned (.agg R) ∧ Below w.heap.size w w' := by rw [HPOST.out, hR]; unfold RA.readF; rw [if_neg (by rw [HHh.out]; decide), if_pos ⟨HIn2.out, rfl⟩]; rfl
        have HPo := Lib.hid hpo
        rw [← hR] at hsg
        obtain ⟨C, hC⟩ : ∃ C, C = ({ RF.zero with typ := 1024, nonce := n, addr := a, res := 0, data := d, count := 1 } : RF).cells.toArray := ⟨_, rfl⟩
        rw [← hC] at HQa hsg
        have HIf : Hid ((Try.prog.info? 37).map (·.size) = some C.size) := Lib.hid (by rw [hC]; exact info_f HS8.out.ok)
        have HSg := Lib.hid hsg
        clear hR hro hpo hC hsg
        go_wp2_with (with_reducible refine wpList_load_row rfl 37 (.tmp 7) rfl gf rfl 37 C (0, 0) _ HQa.out Try.underlying37 rfl HIf.out ?_)
        refine HSg.out.mono ?_
        rintro e wz ⟨rfl, hbz⟩
        have HZ := Lib.hid (HS8.out.below hbz)
        have HQz : Hid (wz.heap[gr]? = some (.cells zF 37 (0, 0))) := Lib.hid HZ.out.res
        have HW := Lib.hid (HZ.out.fin R)
        clear hbz HQa
        go_wp2_with (with_reducible refine wpList_store_row rfl 37 (.tmp 6) (.tmp 42) rfl gr R rfl rfl 37 _ HQz.out HIr.out HOr.out HNr.out ?_)
        rw [HPo.out]
        exact bodyPost_ret (results_cell_row (p := 6) (by kernel_rfl) _ _ gr 37 R (0, 0) _ rfl HW.out.1 Try.underlying37 rfl HIr.out) rfl ⟨rfl, HW.out.2⟩
    · rw [decide_eq_false hin]
      have HIn2 := Lib.hid hin
      clear hin
      go_wp2_with (with_reducible refine stop_dst 41 rfl ?_)
      refine Stop.go ?_
      have HQa : Hid (w3.heap[gf]? = some (.cells ({ RF.zero with typ := 1024, nonce := n, addr := a, res := 4 } : RF).cells.toArray 37 (0, 0))) := Lib.hid HS3.out.box
      have hsg := signed_any A ({ RF.zero with typ := 1024, nonce := n, addr := a, res := 4 } : RF) g w3 HS3.out.area HA.out HS3.out.ok
      have hro := RF.sign_ok HS3.out.ok A.s.key
      rw [show A.signed ({ RF.zero with typ := 1024, nonce := n, addr := a, res := 4 } : RF) = ({ RF.zero with typ := 1024, nonce := n, addr := a, res := 4 } : RF).sign A.s.key by unfold RA.signed; rw [HHh.out]; rfl] at hsg
      unfold RF.val at hsg
      obtain ⟨R, hR⟩ : ∃ R, R = (({ RF.zero with typ := 1024, nonce := n, addr := a, res := 4 } : RF).sign A.s.key).cells.toArray := ⟨_, rfl⟩
      have HIr : Hid ((Try.prog.info? 37).map (·.size) = some R.size) := Lib.hid (by rw [hR]; exact info_f hro)
      have HOr : Hid (zF.size = R.size) := Lib.hid (by rw [hR]; exact old_f hro)
      have HNr : Hid (R.all (·.oneCell') = true) := Lib.hid (by rw [hR]; exact RF.one _)
      have hpo : POST = fun e w' => e = .returned (.agg R) ∧ Below w.heap.size w w' := by rw [HPOST.out, hR]; unfold RA.readF; rw [if_neg (by rw [HHh.out]; decide), if_neg (fun q => HIn2.out q.1)]; rfl
      have HPo := Lib.hid hpo
      rw [← hR] at hsg
      obtain ⟨C, hC⟩ : ∃ C, C = ({ RF.zero with typ := 1024, nonce := n, addr := a, res := 4 } : RF).cells.toArray := ⟨_, rfl⟩
      rw [← hC] at HQa hsg
      have HIf : Hid ((Try.prog.info? 37).map (·.size) = some C.size) := Lib.hid (by rw [hC]; exact info_f HS3.out.ok)
      have HSg := Lib.hid hsg
      clear hR hro hpo hC hsg
      go_wp2_with (with_reducible refine wpList_load_row rfl 37 (.tmp 7) rfl gf rfl 37 C (0, 0) _ HQa.out Try.underlying37 rfl HIf.out ?_)
      refine HSg.out.mono ?_
      rintro e wz ⟨rfl, hbz⟩
      have HZ := Lib.hid (HS3.out.below hbz)
      have HQz : Hid (wz.heap[gr]? = some (.cells zF 37 (0, 0))) := Lib.hid HZ.out.res
      have HW := Lib.hid (HZ.out.fin R)
      clear hbz HQa
      go_wp2_with (with_reducible refine wpList_store_row rfl 37 (.tmp 6) (.tmp 42) rfl gr R rfl rfl 37 _ HQz.out HIr.out HOr.out HNr.out ?_)
      rw [HPo.out]
      exact bodyPost_ret (results_cell_row (p := 6) (by kernel_rfl) _ _ gr 37 R (0, 0) _ rfl HW.out.1 Try.underlying37 rfl HIr.out) rfl ⟨rfl, HW.out.2⟩
end Go.Proofs.Ytkdjimcpdbpemaa
