/- rpa: refuse: the walk. -/
import Derived.Test.YtkdjimcpdbpemaaRpaF
import Derived.Test.YtkdjimcpdbpemaaHeld
import Derived.Deep.QuietTactic
import Derived.BigQuiet
namespace Go.Proofs.Ytkdjimcpdbpemaa
open Go Go.RowKit
set_option linter.unusedVariables false

theorem yield_load_mid {P : Program} {w : World} (o : Oper) (ev : Operand → Value) (ty : TypeId) (x : Operand) (ho : o.op = .load ty x)
    (b off : Nat) (hx : ev x = .pointer (some ⟨b, off, none⟩)) (cs : List Value) (d : TypeDesc) (hc : w.rangeAt b off cs)
    (hu : P.underlying ty = some d) (hd : d.isRow = true) (hi : (P.info? ty).map (·.size) = some cs.length) : (execOp ev o).run P w = .ok (.value (.agg cs.toArray)) w := by
  unfold execOp
  simp only [ho, hx, Instr.loadAt, Instr.sureAddr, Sem.run_bind, Sem.run_pure, Result.andThen_ok, run_loadVar_mid w b off ty cs d hc hu hd hi]
theorem yield_row {P : Program} {w : World} (o : Oper) (ev : Operand → Value) (ty : TypeId) (x : Operand) (ho : o.op = .load ty x)
    (g : Nat) (hx : ev x = .pointer (some ⟨g, 0, none⟩)) (t : TypeId) (cs : Array Value) (fr : Nat × Nat) (d : TypeDesc) (hg : w.heap[g]? = some (.cells cs t fr))
    (hu : P.underlying ty = some d) (hd : (match d with | .struct _ | .array _ _ => true | _ => false) = true) (hi : (P.info? ty).map (·.size) = some cs.size) : (execOp ev o).run P w = .ok (.value (.agg cs)) w := by
  unfold execOp
  simp only [ho, hx, Instr.loadAt, Instr.sureAddr, Sem.run_bind, Sem.run_pure, Result.andThen_ok, run_loadVar_row w g t ty cs fr d hg hu hd hi]
theorem u8s_at (A B C : List Nat) (o : Nat) (h : A.length = o) : u8s (A ++ (B ++ C)) = u8s A ++ (u8s B ++ u8s C) := by simp [u8s_append]
theorem RF.tag_at {w : World} {g : Nat} {T : TypeId} {f : RF} (h : HasB w g f.cells.toArray T) : w.rangeAt g 0 (u8s f.tag) := by
  have h' : HasB w g ([] ++ (u8s f.tag ++ (u8s f.data ++ (u8s f.nonce ++ f.tail)))).toArray T := h
  exact h'.range3 rfl
theorem RF.data_at {w : World} {g : Nat} {T : TypeId} {f : RF} (hf : f.Ok) (h : HasB w g f.cells.toArray T) : w.rangeAt g 32 (u8s f.data) := by
  unfold RF.cells at h
  exact h.range3 (by rw [u8s_len, hf.tl])
theorem RF.nonce_at {w : World} {g : Nat} {T : TypeId} {f : RF} (hf : f.Ok) (h : HasB w g f.cells.toArray T) : w.rangeAt g 96 (u8s f.nonce) := by
  have h' : HasB w g ((u8s f.tag ++ u8s f.data) ++ (u8s f.nonce ++ f.tail)).toArray T := by
    rw [List.append_assoc]; exact h
  exact h'.range3 (by simp [u8s_len, hf.tl, hf.dl])
theorem RF.tail_at {w : World} {g : Nat} {T : TypeId} {f : RF} (hf : f.Ok) (h : HasB w g f.cells.toArray T) (k : Nat) (v : Value) (hk : f.tail[k]? = some v) : w.cell? ⟨g, 112 + k, none⟩ = some v := by
  have hl : k < 5 := (List.getElem?_eq_some_iff.1 hk).1
  rw [h.at, List.getElem?_toArray, RF.at_tail hf k hl]
  exact hk
theorem info_n16 : (Try.prog.info? 35).map (·.size) = some 16 := by kernel_rfl
theorem info_d64 : (Try.prog.info? 34).map (·.size) = some 64 := by kernel_rfl

set_option maxRecDepth 100000 in
set_option maxHeartbeats 4000000 in
theorem refuse_any (A : RA) (f : RF) (g : Nat) (w : World) (h : AreaAt w g A) (hA : A.Ok) (hf : f.Ok) :
    Calls Try.prog 25 #[.pointer (some ⟨g, 0, none⟩), f.val] w fun e w' => e = .returned (.int .i64 (A.refuse f)) ∧ Below w.heap.size w w' := by
  obtain ⟨POST, hPOST⟩ : ∃ Q : Ending → World → Prop, Q = fun e w' => e = .returned (.int .i64 (A.refuse f)) ∧ Below w.heap.size w w' := ⟨_, rfl⟩
  rw [← hPOST]
  have HPOST := Lib.hid hPOST
  have HT := Lib.hid (fun w => rtag_any f A.s.key w hf hA.s.kl hA.s.kb)
  have HE := Lib.hid (fun w => equal_any f.tag (f.tagBy A.s.key) hf.tb (macS_lt A.s.key _) hf.tl (tagBy_len f _) w)
  unfold RF.val at HT ⊢
  obtain ⟨C, hC⟩ : ∃ C, C = f.cells.toArray := ⟨_, rfl⟩
  obtain ⟨KL, hKL⟩ : ∃ KL, KL = u8s A.s.key := ⟨_, rfl⟩
  obtain ⟨TL, hTL⟩ : ∃ TL, TL = u8s f.tag := ⟨_, rfl⟩
  have HB : Hid (∀ w', Below (w.alloc (.cells C 37)).heap.size (w.alloc (.cells C 37)) w' → w'.heap[w.heap.size]? = some (.cells C 37 (0, 0))) := Lib.hid fun w' hb => (HasB.new w C _).below hb (HasB.new w C _).lt
  have HS : Hid (∀ w', Below (w.alloc (.cells C 37)).heap.size (w.alloc (.cells C 37)) w' → w'.rangeAt w.heap.size 0 TL) := Lib.hid fun w' hb => by
    have := HB.out w' hb
    rw [hC] at this; rw [hTL]
    exact RF.tag_at this
  have HA1 : Hid (AreaAt (w.alloc (.cells C 37)) g A) := Lib.hid (h.below ((Below.refl _ _).alloc (Nat.le_refl _) _))
  have HK : Hid (∀ w', Below (w.alloc (.cells C 37)).heap.size (w.alloc (.cells C 37)) w' → w'.rangeAt g 1 KL) := Lib.hid fun w' hb => by
    rw [hKL]; exact (HA1.out.below hb).key
  have HC5 : Hid (∀ w', Below (w.alloc (.cells C 37)).heap.size (w.alloc (.cells C 37)) w' → w'.cell? ⟨w.heap.size, 112, none⟩ = some (.int .u32 (f.ctr : Int)) ∧ w'.cell? ⟨w.heap.size, 113, none⟩ = some (.int .i64 f.addr) ∧ w'.cell? ⟨w.heap.size, 114, none⟩ = some (.int .i64 f.count)) := Lib.hid fun w' hb => by
    have := HB.out w' hb
    rw [hC] at this
    exact ⟨RF.tail_at hf this 0 _ rfl, RF.tail_at hf this 1 _ rfl, RF.tail_at hf this 2 _ rfl⟩
  have HIf : Hid ((Try.prog.info? 37).map (·.size) = some C.size) := Lib.hid (by rw [hC, List.size_toArray, RF.cells_len hf]; exact info_fr)
  have HIk : Hid ((Try.prog.info? 22).map (·.size) = some KL.length) := Lib.hid (by rw [hKL, u8s_len, hA.s.kl]; exact info_k32)
  have HIt : Hid ((Try.prog.info? 33).map (·.size) = some TL.length) := Lib.hid (by rw [hTL, u8s_len, hf.tl]; exact info_s32)
  rw [← hKL] at HT
  rw [← hTL] at HE
  rw [← hC] at HT ⊢
  have hhas := HA1.out.has hA
  have HOk := Lib.hid hA
  have hb1 : Below w.heap.size w (w.alloc (.cells C 37)) := (Below.refl _ _).alloc (Nat.le_refl _) _
  have HB1 := Lib.hid hb1
  clear hC hKL hTL h hA hf hPOST hb1
  cases hh : A.s.has with
  | false =>
    rw [hh] at hhas
    have hr : A.refuse f = 7 := by unfold RA.refuse; rw [if_pos hh]
    rw [hr] at HPOST
    clear hr hh
    go_enter Try.func25, Try.ntmps25
    go_wp2
    rw [HPOST.out]
    exact ⟨rfl, HB1.out⟩
  | true =>
    rw [hh] at hhas
    have HHh := Lib.hid hh
    obtain ⟨b, hb⟩ : ∃ b, b = decide (f.tag = f.tagBy A.s.key) := ⟨_, rfl⟩
    rw [← hb] at HE
    have HBt := Lib.hid hb
    clear hh hb
    go_enter Try.func25, Try.ntmps25
    go_wp2_with fail
    generalize w.alloc (.cells C 37) = w1 at HB HS HK HA1 HB1 HC5 hhas ⊢
    obtain ⟨gf, hgf⟩ : ∃ gf, gf = w.heap.size := ⟨_, rfl⟩
    rw [← hgf] at HB HS HC5 ⊢
    clear hgf
    refine wp_region_held_drew (S := (fun w' => Below w1.heap.size w1 w')) (by kernel_rfl) (((Below.refl _ _).drew)) (fun hHeld => ?_)
    refine held_take 0 (v := ?_) rfl (by kernel_rfl) (by kernel_rfl) (by kernel_rfl) (fun _ _ _ h => h) (by rfl) (fun w hS => ?_) (by assumption) ?_
    rotate_left
    · try dsimp only at hS
      go_simp <;> with_reducible rfl
    try simp only [Act.put, List.setIfInBounds_toArray, List.set_cons_zero, List.set_cons_succ]
    refine held_take 1 (v := (.agg TL.toArray)) rfl (by kernel_rfl) (by kernel_rfl) (by kernel_rfl) (fun _ _ _ h => h) (by rfl) (fun w hS => ?_) (by assumption) ?_
    · exact yield_load_mid _ _ 33 (.tmp 13) (by rfl) gf 0 (by rfl) TL _ (HS.out w hS) Try.underlying33 (by rfl) HIt.out
    try simp only [Act.put, List.setIfInBounds_toArray, List.set_cons_zero, List.set_cons_succ]
    refine held_take 2 (v := (.agg C)) rfl (by kernel_rfl) (by kernel_rfl) (by kernel_rfl) (fun _ _ _ h => h) (by rfl) (fun w hS => ?_) (by assumption) ?_
    · exact yield_row _ _ 37 (.tmp 3) (by rfl) gf (by rfl) 37 C (0, 0) _ (HB.out w hS) Try.underlying37 (by rfl) HIf.out
    try simp only [Act.put, List.setIfInBounds_toArray, List.set_cons_zero, List.set_cons_succ]
    refine held_take 3 (v := ?_) rfl (by kernel_rfl) (by kernel_rfl) (by kernel_rfl) (fun _ _ _ h => h) (by rfl) (fun w hS => ?_) (by assumption) ?_
    rotate_left
    · try dsimp only at hS
      go_simp <;> with_reducible rfl
    try simp only [Act.put, List.setIfInBounds_toArray, List.set_cons_zero, List.set_cons_succ]
    refine held_take 4 (v := ?_) rfl (by kernel_rfl) (by kernel_rfl) (by kernel_rfl) (fun _ _ _ h => h) (by rfl) (fun w hS => ?_) (by assumption) ?_
    rotate_left
    · try dsimp only at hS
      go_simp <;> with_reducible rfl
    try simp only [Act.put, List.setIfInBounds_toArray, List.set_cons_zero, List.set_cons_succ]
    refine held_take 5 (v := ?_) rfl (by kernel_rfl) (by kernel_rfl) (by kernel_rfl) (fun _ _ _ h => h) (by rfl) (fun w hS => ?_) (by assumption) ?_
    rotate_left
    · try dsimp only at hS
      go_simp <;> with_reducible rfl
    try simp only [Act.put, List.setIfInBounds_toArray, List.set_cons_zero, List.set_cons_succ]
    refine held_take 6 (v := ?_) rfl (by kernel_rfl) (by kernel_rfl) (by kernel_rfl) (fun _ _ _ h => h) (by rfl) (fun w hS => ?_) (by assumption) ?_
    rotate_left
    · try dsimp only at hS
      go_simp <;> with_reducible rfl
    try simp only [Act.put, List.setIfInBounds_toArray, List.set_cons_zero, List.set_cons_succ]
    refine held_take 7 (v := (.agg KL.toArray)) rfl (by kernel_rfl) (by kernel_rfl) (by kernel_rfl) (fun _ _ _ h => h) (by rfl) (fun w hS => ?_) (by assumption) ?_
    · exact yield_load_mid _ _ 22 (.tmp 19) (by rfl) g 1 (by rfl) KL _ (HK.out w hS) Try.underlying22 (by rfl) HIk.out
    try simp only [Act.put, List.setIfInBounds_toArray, List.set_cons_zero, List.set_cons_succ]
    refine held_one 8 rfl (by kernel_rfl) (fun K hK => ?_)
    go_simp
    refine (HT.out _).mono ?_
    rintro e w2 ⟨rfl, hb2⟩
    have hb2 : Below w1.heap.size w1 w2 := (Below.refl _ _).drew.trans hb2
    refine hK.out _ _ (fun w' => Below w1.heap.size w1 w') (fun _ h => h) hb2 (fun hHeld => ?_)
    clear hK K
    try simp only [Act.put, List.setIfInBounds_toArray, List.set_cons_zero, List.set_cons_succ]
    refine held_one 9 rfl (by kernel_rfl) (fun K hK => ?_)
    go_simp
    refine (HE.out _).mono ?_
    rintro e w3 ⟨rfl, hb3⟩
    have hb3 : Below w1.heap.size w1 w3 := hb2.trans (hb3.mono hb2.size)
    refine hK.out _ _ (fun w' => Below w1.heap.size w1 w') (fun _ h => h) hb3 (fun hHeld => ?_)
    clear hK K
    try simp only [Act.put, List.setIfInBounds_toArray, List.set_cons_zero, List.set_cons_succ]
    refine held_take 10 (v := ?_) rfl (by kernel_rfl) (by kernel_rfl) (by kernel_rfl) (fun _ _ _ h => h) (by rfl) (fun w hS => ?_) (by assumption) ?_
    rotate_left
    · try dsimp only at hS
      go_simp <;> with_reducible rfl
    try simp only [Act.put, List.setIfInBounds_toArray, List.set_cons_zero, List.set_cons_succ]
    refine held_take 11 (v := ?_) rfl (by kernel_rfl) (by kernel_rfl) (by kernel_rfl) (fun _ _ _ h => h) (by rfl) (fun w hS => ?_) (by assumption) ?_
    rotate_left
    · try dsimp only at hS
      go_simp <;> with_reducible rfl
    try simp only [Act.put, List.setIfInBounds_toArray, List.set_cons_zero, List.set_cons_succ]
    refine held_done (by kernel_rfl) ?_
    have HA3 := Lib.hid (HA1.out.below hb3)
    have hctr := HA3.out.ctr HOk.out
    have hcell := HC5.out w3 hb3
    have HB3 : Hid (Below w.heap.size w w3) := Lib.hid (HB1.out.trans (hb3.mono HB1.out.size))
    have hTh := Lib.hid (fun a n => there_any A g a (w3.drewN n) HA3.out)
    clear hhas hb3 hb2
    cases b
    · have hr : A.refuse f = 2 := by
        unfold RA.refuse
        rw [if_neg (by rw [HHh.out]; decide), if_pos (of_decide_eq_false HBt.out.symm)]
      rw [hr] at HPOST
      clear hr
      go_wp2_with fail
      rw [HPOST.out]
      exact ⟨rfl, HB3.out⟩
    · have ht : ¬ f.tag ≠ f.tagBy A.s.key := fun q => q (of_decide_eq_true HBt.out.symm)
      have hn7 : ¬ A.s.has = false := by rw [HHh.out]; decide
      by_cases h5 : A.s.ctr = 4294967295
      · have hr : A.refuse f = 5 := by unfold RA.refuse; rw [if_neg hn7, if_neg ht, if_pos h5]
        rw [hr] at HPOST
        have t5 : ((A.s.ctr : Int) == 4294967295) = true := by simp; omega
        clear hr ht hn7 h5
        go_wp2_with fail
        rw [HPOST.out]
        exact ⟨rfl, HB3.out⟩
      have t5 : ((A.s.ctr : Int) == 4294967295) = false := by simp; omega
      by_cases h3 : f.ctr ≠ A.s.ctr
      · have hr : A.refuse f = 3 := by unfold RA.refuse; rw [if_neg hn7, if_neg ht, if_neg h5, if_pos h3]
        rw [hr] at HPOST
        have t3 : ((f.ctr : Int) == (A.s.ctr : Int)) = false := by simp; omega
        clear hr ht hn7 h5 h3
        go_wp2_with fail
        go_quiet (fail)
        go_wp2_with fail
        rw [HPOST.out]
        exact ⟨rfl, below_drewN' HB3.out _⟩
      have t3 : ((f.ctr : Int) == (A.s.ctr : Int)) = true := by simp; omega
      have hr : A.refuse f = if ¬(0 ≤ f.addr ∧ f.addr < A.places) ∨ f.count ≠ 1 then 4 else 0 := by unfold RA.refuse; rw [if_neg hn7, if_neg ht, if_neg h5, if_neg h3]
      have HR := Lib.hid hr
      clear hr ht hn7 h5 h3
      go_wp2_with fail
      go_quiet (fail)
      go_wp2_with fail
      refine (hTh.out _ _).mono ?_
      rintro e w4 ⟨rfl, rfl⟩
      by_cases h4 : 0 ≤ f.addr ∧ f.addr < A.places
      · rw [decide_eq_true h4]
        by_cases h1 : f.count = 1
        · have hr : A.refuse f = 0 := by rw [HR.out, if_neg (fun q => q.elim (fun q => q h4) (fun q => q h1))]
          rw [hr] at HPOST
          have t1 : (f.count == 1) = true := by simp [h1]
          clear hr h4 h1
          go_wp2_with fail
          rw [HPOST.out]
          exact ⟨rfl, below_drewN' HB3.out _⟩
        · have hr : A.refuse f = 4 := by rw [HR.out, if_pos (.inr h1)]
          rw [hr] at HPOST
          have t1 : (f.count == 1) = false := by simp [h1]
          clear hr h4 h1
          go_wp2_with fail
          rw [HPOST.out]
          exact ⟨rfl, below_drewN' HB3.out _⟩
      · rw [decide_eq_false h4]
        have hr : A.refuse f = 4 := by rw [HR.out, if_pos (.inl h4)]
        rw [hr] at HPOST
        clear hr h4
        go_wp2_with fail
        rw [HPOST.out]
        exact ⟨rfl, below_drewN' HB3.out _⟩
end Go.Proofs.Ytkdjimcpdbpemaa
