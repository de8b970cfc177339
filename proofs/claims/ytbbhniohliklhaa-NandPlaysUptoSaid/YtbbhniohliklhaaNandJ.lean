/- nand: Erase. -/
import Derived.Test.YtbbhniohliklhaaNandI
import Derived.Lib.SliceRun
namespace Go.Proofs.Ytbbhniohliklhaa
open Go Go.RowKit
set_option linter.unusedVariables false

theorem HasB.setCells {g : Nat} {T : TypeId} : ∀ (vs : List Value) (o : Nat) {w : World} {D : Array Value}, HasB w g D T → ∃ D', HasB (w.setCells g o vs) g D' T ∧ D'.size = D.size ∧ ∀ j, D'[j]? = if o ≤ j ∧ j < o + vs.length ∧ j < D.size then vs[j - o]? else D[j]?
  | [], o, w, D, h => ⟨D, h, rfl, fun j => by rw [if_neg (by simp; omega)]⟩
  | v :: r, o, w, D, h => by
    obtain ⟨D', h1, h2, h3⟩ := HasB.setCells r (o + 1) (h.set o v)
    refine ⟨D', h1, by rw [h2]; simp, fun j => ?_⟩
    rw [h3]
    simp only [Array.size_setIfInBounds, List.length_cons]
    by_cases q : o = j
    · subst q
      rw [if_neg (by omega)]
      by_cases q2 : o < D.size
      · rw [if_pos (by omega), Array.getElem?_setIfInBounds, if_pos rfl, if_pos q2]; simp
      · rw [if_neg (by omega), Array.getElem?_setIfInBounds, if_pos rfl, if_neg q2]; simp; omega
    · by_cases q2 : o + 1 ≤ j ∧ j < o + 1 + r.length ∧ j < D.size
      · rw [if_pos q2, if_pos (by omega), show j - o = (j - (o + 1)) + 1 by omega, List.getElem?_cons_succ]
      · rw [if_neg q2, if_neg (by omega), Array.getElem?_setIfInBounds, if_neg q]
theorem gb_setCells {g : Nat} : ∀ (vs : List Value) (o : Nat) {a w : World}, a.grownBy w (some g) → a.grownBy (w.setCells g o vs) (some g)
  | [], _, _, _, h => h
  | v :: r, o, _, _, h => gb_setCells r (o + 1) (gb_set h o v)
theorem HasB.clear {w : World} {g n : Nat} {T : TypeId} {D : Array Value} (h : HasB w g D T) (hn : D.size = n) (z : Value) : HasB (w.setCells g 0 (List.replicate n z)) g (Array.replicate n z) T := by
  obtain ⟨D', h1, h2, h3⟩ := HasB.setCells (List.replicate n z) 0 h
  have : D' = Array.replicate n z := by
    apply Array.ext_getElem?
    intro j
    rw [h3]
    by_cases q : j < n
    · rw [if_pos (by simp; omega)]; simp [q, List.getElem?_replicate, Array.getElem?_replicate]
    · rw [if_neg (by simp; omega), Array.getElem?_eq_none (by omega), Array.getElem?_eq_none (by simp; omega)]
  rw [← this]
  exact h1
section
variable {P : Program} {ops : Array Oper} {rest : List Oper} {o : Oper} {a : Act} {w : World} {Q : Exit → Act → World → Prop}
/-- 'clear' of a slice that is a whole row. -/
theorem wpList_clear_row (hw : Region.wanted o (yielded ops a.tmps) = true) (s : Operand) (t e : TypeId) (ho : o.op = .call { callee := .builtin .clear, args := #[s], argTypes := #[t] })
    (ht : P.underlying t = some (.slice e)) (z : Value) (hv : ∀ w, (zeroValue e).run P w = .ok z w) (hz : z.cells = #[z]) (h1 : z.oneCell' = true)
    (g n c : Nat) (hs : a.eval s = .slice (some ⟨g, 0, none⟩) n c) (hn : 0 < n) (D : Array Value) (T : TypeId) (hD : HasB w g D T) (hDn : D.size = n)
    (h : ∀ w', HasB w' g (Array.replicate n z) T → w.grownBy w' (some g) → wpList P ops Q rest (a.put o.dst (.tuple #[])) w') : wpList P ops Q (o :: rest) a w := by
  have hr := Lib.run_clear_slice (P := P) w t e o.type z ht hv hz h1 g 0 n c hn (fun j hj => by rw [Nat.zero_add, hD.at]; simp [hDn, hj]) (fun j _ => hD.free _)
  refine wpList_wanted hw fun K hK => ?_
  unfold Oper.wp
  simp [execOp, ho, resolve, invoke, builtin, hs, hr, Result.andThen]
  exact hK _ _ (h _ (hD.clear hDn z) (gb_setCells _ _ (gb_refl _ _)))
end

theorem PgV.kept {S : Zone} {w w' : World} {v : Value} {l : List Nat} (h : PgV S w v l) {g : Nat} {C : Array Value} {T : TypeId} (hp : HasB w g C T) (hT : T ≠ 5) (hg : w.grownBy w' (some g)) : PgV S w' v l := by
  rcases h with h | ⟨h0, h1, h2⟩
  · exact .inl h
  · refine .inr ⟨h0, h1.kept hg ?_, h2⟩
    rcases h1.2 with ⟨_, q⟩ | ⟨g', cap, cur, rfl, e2, hh, r⟩
    · omega
    · refine .inr fun e => ?_
      have e := Option.some.inj e
      dsimp only at e
      subst e
      unfold HasB at hp
      rw [hp] at hh
      cases hh
      exact hT rfl
/-- All pages of a block are none. -/
theorem FlashX.clr {M : NMem} {S : Zone} {w w' : World} {g : Nat} {F : NF} {ex : Nat → Nat → Bool} (h : FlashX M S w g F ex) (n : Nat) (x : NB) (hx : F.bl[n]? = some x) (hD : HasB w' (M.pg n) (Array.replicate F.np (.slice none 0 0)) 29) (hg : w.grownBy w' (some (M.pg n))) :
    FlashX { M with vs := fun i j => if i = n then .slice none 0 0 else M.vs i j } S w' g { F with bl := F.bl.set n { x with pages := List.replicate F.np [] } } ex := by
  have hn : n < F.bl.length := (List.getElem?_eq_some_iff.1 hx).1
  have hget : ∀ i y, (F.bl.set n { x with pages := List.replicate F.np [] })[i]? = some y → (i = n ∧ y = { x with pages := List.replicate F.np [] }) ∨ (i ≠ n ∧ F.bl[i]? = some y) := by
    intro i y hy
    by_cases q : i = n
    · subst q
      rw [List.getElem?_set_self hn] at hy
      exact .inl ⟨rfl, (Option.some.inj hy).symm⟩
    · rw [List.getElem?_set_ne (by omega)] at hy
      exact .inr ⟨q, hy⟩
  obtain ⟨C, h1, h2, h3⟩ := h.blk
  obtain ⟨e1, D, e2, e3, e4⟩ := h.pgs n x hx
  refine ⟨?_, ?_, fun i y hy => ?_, ?_, ?_⟩
  · have := h.own.kept hg (fun e => hasB_ne h.own e2 (by decide) (Option.some.inj e))
    simpa [NF.cells] using this
  · refine ⟨C, h1.kept hg (fun e => hasB_ne h1 e2 (by decide) (Option.some.inj e)), by simp [h2], fun i y hy => ?_⟩
    rcases hget i y hy with ⟨rfl, rfl⟩ | ⟨hne, hy'⟩
    · obtain ⟨q1, q2⟩ := h3 i x hx
      exact ⟨q1, fun k k1 k5 => by
        rw [q2 k k1 k5]
        match k, k1, k5 with
        | 1, _, _ => rfl
        | 2, _, _ => rfl
        | 3, _, _ => rfl
        | 4, _, _ => rfl⟩
    · exact h3 i y hy'
  · rcases hget i y hy with ⟨rfl, rfl⟩ | ⟨hne, hy'⟩
    · refine ⟨by simp, _, hD, by simp, fun j l' hl => ?_⟩
      simp only [List.getElem?_replicate] at hl
      split at hl
      · obtain rfl := Option.some.inj hl
        exact ⟨by simp [Array.getElem?_replicate]; assumption, fun _ => .inl ⟨rfl, by simp⟩⟩
      · cases hl
    · obtain ⟨q1, D', q2, q3, q4⟩ := h.pgs i y hy'
      have hi : i < F.bl.length := (List.getElem?_eq_some_iff.1 hy').1
      have hne2 : M.pg i ≠ M.pg n := fun e => hne (h.inj i n hi hn e)
      refine ⟨q1, D', q2.kept hg (fun e => hne2 (Option.some.inj e)), q3, fun j l' hl => ⟨by rw [(q4 j l' hl).1]; simp [hne], fun he => ?_⟩⟩
      have := ((q4 j l' hl).2 he).kept e2 (by decide) hg
      simpa [hne] using this
  · simp only [List.length_set]; exact h.inj
  · simp only [List.length_set]; exact h.zone

def NB.erased (x : NB) (np : Nat) : NB := { x with half := false, pages := List.replicate np [], next := 0 }
/-- Erase, behind all tests. -/
def NF.half (F : NF) (n : Nat) (x : NB) : NF := F.tick.setB n { x with half := true }
def NF.erGo (F : NF) (n : Nat) (x : NB) : Int × NF :=
  if F.armed = 1 then (4, F.cut) else if F.tick.armed = 1 then (4, (F.half n x).cut) else
    (0, { ((F.half n x).tick).setB n (x.erased F.np) with er := IntKind.i64.wrap (F.er + 1) })
theorem FlashX.setHalf {M : NMem} {S : Zone} {w : World} {g : Nat} {F : NF} {ex : Nat → Nat → Bool} (h : FlashX M S w g F ex) (n : Nat) (x : NB) (hx : F.bl[n]? = some x) (b : Bool) : FlashX M S (w.setCell ⟨M.gl, 5 * n + 2, none⟩ (.bool b)) g (F.setB n { x with half := b }) ex :=
  h.setBlk n x { x with half := b } hx 2 (by omega) (by omega) (.bool b) rfl (fun j h1 h5 => by
    match j, h1, h5 with
    | 1, _, _ => rfl
    | 2, _, _ => rfl
    | 3, _, _ => rfl
    | 4, _, _ => rfl)
theorem FlashX.setNext {M : NMem} {S : Zone} {w : World} {g : Nat} {F : NF} {ex : Nat → Nat → Bool} (h : FlashX M S w g F ex) (n : Nat) (x : NB) (hx : F.bl[n]? = some x) (b : Int) : FlashX M S (w.setCell ⟨M.gl, 5 * n + 1, none⟩ (.int .i64 b)) g (F.setB n { x with next := b }) ex :=
  h.setBlk n x { x with next := b } hx 1 (by omega) (by omega) (.int .i64 b) rfl (fun j h1 h5 => by
    match j, h1, h5 with
    | 1, _, _ => rfl
    | 2, _, _ => rfl
    | 3, _, _ => rfl
    | 4, _, _ => rfl)
theorem setB_at {F : NF} {n : Nat} {x y : NB} (hx : F.bl[n]? = some x) : (F.setB n y).bl[n]? = some y := by
  have := lt_of_get hx
  simp [NF.setB, this]
theorem setB_setB (F : NF) (n : Nat) (y z : NB) : (F.setB n y).setB n z = F.setB n z := by simp [NF.setB]
theorem FlashX.erd {M : NMem} {S : Zone} {w : World} {g : Nat} {F : NF} {ex : Nat → Nat → Bool} (h : FlashX M S w g F ex) (v : Int) : FlashX M S (w.setCell ⟨g, 8, none⟩ (.int .i64 v)) g { F with er := v } ex := h.setOwn 8 _ (by simp [NF.cells]) rfl rfl
theorem FlashX.flash {M : NMem} {S : Zone} {w0 w : World} {g : Nat} {F : NF} (h : FlashX M S w g F noEx) (hl : S.lives w0) (hs : w0.heap.size ≤ w.heap.size) : FlashAt (S.grow w0 w) w g F := ⟨⟨M, h.mono (Zone.le_grow _ _ _)⟩, hl.grow hs⟩

set_option maxRecDepth 100000 in
set_option maxHeartbeats 4000000 in
theorem nerase_go {M : NMem} {S : Zone} {g : Nat} {F : NF} (n : Nat) (x : NB) (w : World) (h : FlashX M S w g F noEx) (hl : S.lives w) (hx : F.bl[n]? = some x) (hok : F.Ok) (hnp : 0 < F.np) (hm : F.mayE x.failed true = 0) :
    Calls Try.prog 17 #[.pointer (some ⟨g, 0, none⟩), .int .i64 (n : Int)] w fun e w' => e = .returned (.int .i64 (F.erGo n x).1) ∧ FlashAt (S.grow w w') w' g (F.erGo n x).2 ∧ Fr S w w' := by
  obtain ⟨POST, hPOST⟩ : ∃ Q : Ending → World → Prop, Q = fun e w' => e = .returned (.int .i64 (F.erGo n x).1) ∧ FlashAt (S.grow w w') w' g (F.erGo n x).2 ∧ Fr S w w' := ⟨_, rfl⟩
  rw [← hPOST]
  have HPOST := Lib.hid hPOST
  clear hPOST
  have HBk := Lib.hid (fun w (h : FlashX M S w g F noEx) => nblk_in n w h (lt_of_get hx) hok.nb)
  have HMy := Lib.hid (fun w (h : FlashX M S w g F noEx) => by have := nmay_any n x true w h hx; rwa [hm] at this)
  have HH := Lib.hid h
  have HL := Lib.hid hl
  have HX := Lib.hid hx
  have HOk := Lib.hid hok
  have HNp := Lib.hid hnp
  obtain ⟨gl, hgl⟩ : ∃ gl, gl = M.gl := ⟨_, rfl⟩
  have HGl := Lib.hid hgl
  obtain ⟨q, hq⟩ : ∃ q, q = 5 * n := ⟨_, rfl⟩
  rw [← hq, ← hgl] at HBk HMy
  have HQ := Lib.hid hq
  by_cases ha : F.armed = 1
  · have HE : Hid (F.erGo n x = (4, F.cut)) := Lib.hid (by unfold NF.erGo; rw [if_pos ha])
    have HA := Lib.hid ha
    clear h hl hx hok hnp hm ha hq hgl
    go_enter Try.func17, Try.ntmps17
    go_wp2_with fail
    refine (HBk.out _ HH.out).mono ?_
    rintro e w1 ⟨rfl, rfl⟩
    go_wp2_with fail
    refine (HMy.out _ HH.out).mono ?_
    rintro e w1 ⟨rfl, rfl⟩
    go_wp2_with fail
    refine wp_loop_rounds 3 ?_
    rw [rounds_succ]
    go_wp2_with fail
    refine (nstep_cut _ HH.out HA.out).mono ?_
    rintro e w2 ⟨rfl, hf2, hg2⟩
    have HF2 := Lib.hid hf2
    have HFr2 : Hid (Fr S w w2) := Lib.hid (Fr.grown hg2 HH.out.zone.1)
    clear hf2 hg2
    go_wp2_with fail
    rw [HPOST.out, HE.out]
    exact ⟨rfl, HF2.out.flash HL.out HFr2.out.size, HFr2.out⟩
  · have hz := h.zone
    have HZ := Lib.hid hz
    have HA := Lib.hid (show 0 ≤ F.armed ∧ F.armed ≤ 9223372036854775807 ∧ ¬ F.armed = 1 from ⟨hok.a0, hok.a1, ha⟩)
    have HST : Hid (∀ w2, FlashX M S w2 g F.tick noEx → w2.cell? ⟨gl, q + 2, none⟩ = some (.bool x.half) ∧ w2.frozen? ⟨gl, q + 2, none⟩ = false ∧ FlashX M S (w2.setCell ⟨gl, q + 2, none⟩ (.bool true)) g (F.half n x) noEx ∧ Fr S w2 (w2.setCell ⟨gl, q + 2, none⟩ (.bool true))) := Lib.hid (fun w2 h2 => by
      have hx2 : F.tick.bl[n]? = some x := hx
      obtain ⟨-, -, b2, -⟩ := h2.bcells hx2
      rw [hgl, hq]
      exact ⟨b2, h2.bfree _, h2.setHalf n x hx2 true, Fr.grown (gb_set (gb_refl _ _) _ _) h2.zone.2.1⟩)
    by_cases ha2 : F.tick.armed = 1
    · have HE : Hid (F.erGo n x = (4, (F.half n x).cut)) := Lib.hid (by unfold NF.erGo; rw [if_neg ha, if_pos ha2])
      have HA2 : Hid ((F.half n x).armed = 1) := Lib.hid ha2
      clear h hl hx hok hnp hm ha hq hgl hz ha2
      go_enter Try.func17, Try.ntmps17
      go_wp2_with fail
      refine (HBk.out _ HH.out).mono ?_
      rintro e w1 ⟨rfl, rfl⟩
      go_wp2_with fail
      refine (HMy.out _ HH.out).mono ?_
      rintro e w1 ⟨rfl, rfl⟩
      go_wp2_with fail
      refine wp_loop_rounds 3 ?_
      rw [rounds_succ]
      go_wp2_with fail
      refine (nstep_yes _ HH.out HA.out.1 HA.out.2.1 HA.out.2.2).mono ?_
      rintro e w2 ⟨rfl, hf2, hg2⟩
      have hfr2 : Fr S w w2 := Fr.grown hg2 HH.out.zone.1
      obtain ⟨b2, f2, hf3, hg3⟩ := HST.out _ hf2
      have HF3 := Lib.hid hf3
      have HFr3 := Lib.hid (hfr2.trans' hg3)
      clear hf2 hg2 hfr2 hf3 hg3
      go_wp2_with fail
      rw [rounds_succ]
      go_wp2_with fail
      refine (nstep_cut _ HF3.out HA2.out).mono ?_
      rintro e w4 ⟨rfl, hf4, hg4⟩
      have HF4 := Lib.hid hf4
      have HFr4 : Hid (Fr S w w4) := Lib.hid (HFr3.out.trans' (Fr.grown hg4 HZ.out.1))
      clear hf4 hg4 b2 f2
      go_wp2_with fail
      rw [HPOST.out, HE.out]
      exact ⟨rfl, HF4.out.flash HL.out HFr4.out.size, HFr4.out⟩
    · have HE : Hid (F.erGo n x = (0, { ((F.half n x).tick).setB n (x.erased F.np) with er := IntKind.i64.wrap (F.er + 1) })) := Lib.hid (by unfold NF.erGo; rw [if_neg ha, if_neg ha2])
      have HA2 : Hid (¬ (F.half n x).armed = 1) := Lib.hid ha2
      have hta := NF.ticks_armed hok.a0 hok.a1 1
      have HA3 : Hid (0 ≤ (F.half n x).armed ∧ (F.half n x).armed ≤ 9223372036854775807) := Lib.hid hta
      have HST2 : Hid (∀ w2, FlashX M S w2 g (F.half n x).tick noEx → w2.cell? ⟨gl, q + 2, none⟩ = some (.bool true) ∧ w2.frozen? ⟨gl, q + 2, none⟩ = false ∧ FlashX M S (w2.setCell ⟨gl, q + 2, none⟩ (.bool false)) g ((F.half n x).tick.setB n { x with half := false }) noEx ∧ Fr S w2 (w2.setCell ⟨gl, q + 2, none⟩ (.bool false))) := Lib.hid (fun w2 h2 => by
        have hx2 : (F.half n x).tick.bl[n]? = some { x with half := true } := setB_at (F := F.tick) (x := x) hx
        obtain ⟨-, -, b2, -⟩ := h2.bcells hx2
        rw [hgl, hq]
        exact ⟨b2, h2.bfree _, h2.setHalf n _ hx2 false, Fr.grown (gb_set (gb_refl _ _) _ _) h2.zone.2.1⟩)
      clear h hl hx hok hnp hm ha hq hgl hz ha2 hta
      go_enter Try.func17, Try.ntmps17
      go_wp2_with fail
      refine (HBk.out _ HH.out).mono ?_
      rintro e w1 ⟨rfl, rfl⟩
      go_wp2_with fail
      refine (HMy.out _ HH.out).mono ?_
      rintro e w1 ⟨rfl, rfl⟩
      go_wp2_with fail
      refine wp_loop_rounds 3 ?_
      rw [rounds_succ]
      go_wp2_with fail
      refine (nstep_yes _ HH.out HA.out.1 HA.out.2.1 HA.out.2.2).mono ?_
      rintro e w2 ⟨rfl, hf2, hg2⟩
      have hfr2 : Fr S w w2 := Fr.grown hg2 HH.out.zone.1
      obtain ⟨b2, f2, hf3, hg3⟩ := HST.out _ hf2
      have HF3 := Lib.hid hf3
      have HFr3 := Lib.hid (hfr2.trans' hg3)
      clear hf2 hg2 hfr2 hf3 hg3
      go_wp2_with fail
      rw [rounds_succ]
      go_wp2_with fail
      refine (nstep_yes _ HF3.out HA3.out.1 HA3.out.2 HA2.out).mono ?_
      rintro e w4 ⟨rfl, hf4, hg4⟩
      have hfr4 : Fr S w w4 := HFr3.out.trans' (Fr.grown hg4 HZ.out.1)
      clear b2 f2
      obtain ⟨b2, f2, hf5, hg5⟩ := HST2.out _ hf4
      have HF5 := Lib.hid hf5
      have HFr5 := Lib.hid (hfr4.trans' hg5)
      clear hf4 hg4 hfr4 hf5 hg5
      go_wp2_with fail
      generalize w4.setCell ⟨gl, q + 2, none⟩ (.bool false) = w5 at HF5 HFr5 ⊢
      clear b2 f2 HF3 HFr3 w4
      have hx5 : ((F.half n x).tick.setB n { x with half := false }).bl[n]? = some { x with half := false } := setB_at (F := (F.half n x).tick) (x := { x with half := true }) (setB_at (F := F.tick) (x := x) HX.out)
      obtain ⟨b0, -⟩ := HF5.out.bcells hx5
      obtain ⟨-, D, hD, hDs, -⟩ := HF5.out.pgs n _ hx5
      obtain ⟨np, hnp⟩ : ∃ np, np = F.np := ⟨_, rfl⟩
      rw [show ((F.half n x).tick.setB n { x with half := false }).np = np from hnp.symm] at b0 hDs
      rw [← HQ.out, ← HGl.out] at b0
      have HD := Lib.hid hD
      have HDs := Lib.hid hDs
      have hnp0 : 0 < np := by rw [hnp]; exact HNp.out
      have HNp2 := Lib.hid hnp
      have HX5 := Lib.hid hx5
      clear hx5 hD hDs hnp
      obtain ⟨pgn, hpgn⟩ : ∃ pgn, pgn = M.pg n := ⟨_, rfl⟩
      rw [← hpgn] at b0 HD
      have HPn := Lib.hid hpgn
      clear hpgn
      rw [rounds_succ]
      go_wp2_with (with_reducible refine wpList_clear_row rfl (.tmp 36) 65 29 rfl Try.underlying65 (.slice none 0 0) (by intro w; simp [go_sem]) rfl rfl pgn np np rfl hnp0 D 29 HD.out HDs.out (fun w6 hD6 hg6 => Stop.mk ?_))
      refine Stop.go ?_
      have hx6 : ((F.half n x).tick.setB n { x with half := false }).bl[n]? = some { x with half := false } := HX5.out
      have hD6' : HasB w6 (M.pg n) (Array.replicate ((F.half n x).tick.setB n { x with half := false }).np (.slice none 0 0)) 29 := by
        rw [show ((F.half n x).tick.setB n { x with half := false }).np = np from HNp2.out.symm, ← HPn.out]; exact hD6
      have hg6' : w5.grownBy w6 (some (M.pg n)) := by rw [← HPn.out]; exact ⟨hg6.os, hg6.tape, hg6.output, hg6.size, hg6.block⟩
      have hf6 := HF5.out.clr n _ hx6 hD6' hg6'
      have hfr6 : Fr S w w6 := HFr5.out.trans' (HF5.out.frPg hx6 hg6')
      have hx7 := setB_at (F := (F.half n x).tick.setB n { x with half := false }) (y := { x with half := false, pages := List.replicate ((F.half n x).tick.setB n { x with half := false }).np [] }) hx6
      have hf7 := hf6.setNext n _ hx7 0
      obtain ⟨-, b1, -⟩ := hf6.bcells hx7
      have f1 := hf6.bfree (5 * n + 1)
      have hfr7 : Fr S w (w6.setCell ⟨M.gl, 5 * n + 1, none⟩ (.int .i64 0)) := hfr6.trans' (Fr.grown (gb_set (gb_refl _ _) _ _) HZ.out.2.1)
      dsimp only at b1 f1 hf7 hfr7
      rw [← HQ.out, ← HGl.out] at b1 f1 hf7 hfr7
      have HF7 := Lib.hid hf7
      have HFr7 := Lib.hid hfr7
      clear hx6 hD6' hg6' hf6 hfr6 hx7 hf7 hfr7 hD6 hg6 b0 HD HF5 HFr5
      go_wp2_with fail
      generalize w6.setCell ⟨gl, q + 1, none⟩ (.int .i64 0) = w7 at HF7 HFr7 ⊢
      clear b1 f1
      obtain ⟨-, -, -, -, -, -, -, -, c8⟩ := HF7.out.gcells
      have f8 := HF7.out.gfree 8
      have hf8 := HF7.out.erd (IntKind.i64.wrap (F.er + 1))
      have HF8 := Lib.hid hf8
      have HFr8 : Hid (Fr S w (w7.setCell ⟨g, 8, none⟩ (.int .i64 (IntKind.i64.wrap (F.er + 1))))) := Lib.hid (HFr7.out.trans' (Fr.grown (gb_set (gb_refl _ _) _ _) HZ.out.1))
      have c8' : w7.cell? ⟨g, 8, none⟩ = some (.int .i64 F.er) := c8
      clear hf8 c8
      obtain ⟨er, her⟩ : ∃ er, er = F.er := ⟨_, rfl⟩
      have HEr := Lib.hid her
      rw [← her] at c8'
      clear her
      refine (nadd_any g 8 er _ c8' f8).mono ?_
      rintro e w8 ⟨rfl, rfl⟩
      clear c8' f8
      go_wp2_with fail
      rw [HPOST.out, HE.out, HEr.out]
      refine ⟨rfl, ?_, HFr8.out⟩
      have := HF8.out.flash HL.out HFr8.out.size
      refine Eq.mp ?_ this
      simp [NF.setB, NF.tick, NF.half, NB.erased]
/-- Erase, whole. -/
def NF.erE (F : NF) (n : Nat) (x : NB) : Int × NF := if F.mayE x.failed true ≠ 0 then (F.mayE x.failed true, F) else F.erGo n x
theorem nerase_err {M : NMem} {S : Zone} {g : Nat} {F : NF} (n : Nat) (x : NB) (w : World) (h : FlashX M S w g F noEx) (hx : F.bl[n]? = some x) (hok : F.Ok) (hm : F.mayE x.failed true ≠ 0) :
    Calls Try.prog 17 #[.pointer (some ⟨g, 0, none⟩), .int .i64 (n : Int)] w fun e w' => e = .returned (.int .i64 (F.mayE x.failed true)) ∧ w = w' := by
  have HBk := Lib.hid (fun w (h : FlashX M S w g F noEx) => nblk_in n w h (lt_of_get hx) hok.nb)
  have HMy := Lib.hid (fun w (h : FlashX M S w g F noEx) => nmay_any n x true w h hx)
  have HH := Lib.hid h
  generalize F.mayE x.failed true = m at HMy hm ⊢
  have hm2 : (m == 0) = false := by simpa using hm
  have hm3 : (m != 0) = true := by simp [bne, hm2]
  clear h hx hok hm
  go_enter Try.func17, Try.ntmps17
  go_wp2_with fail
  refine (HBk.out _ HH.out).mono ?_
  rintro e w1 ⟨rfl, rfl⟩
  go_wp2_with fail
  refine (HMy.out _ HH.out).mono ?_
  rintro e w1 ⟨rfl, rfl⟩
  go_wp2_with fail
  go_ret
  exact ⟨rfl, rfl⟩
theorem nerase_out {M : NMem} {S : Zone} {g : Nat} {F : NF} (n : Int) (w : World) (h : FlashX M S w g F noEx) (hn : n < 0 ∨ (F.bl.length : Int) ≤ n) (hok : F.Ok) :
    Calls Try.prog 17 #[.pointer (some ⟨g, 0, none⟩), .int .i64 n] w fun e w' => e = .returned (.int .i64 (F.mayE false false)) ∧ w = w' := by
  have HBk := Lib.hid (fun w (h : FlashX M S w g F noEx) => nblk_out n w h hn hok.nb)
  have HM := Lib.hid (fun w (h : FlashX M S w g F noEx) => nmay_nil w h)
  have HH := Lib.hid h
  have hm0 : F.mayE false false ≠ 0 := by
    unfold NF.mayE
    cases F.off <;> simp
  generalize F.mayE false false = m at HM hm0 ⊢
  have hm2 : (m == 0) = false := by simpa using hm0
  have hm3 : (m != 0) = true := by simp [bne, hm2]
  clear h hn hok hm0
  go_enter Try.func17, Try.ntmps17
  go_wp2_with fail
  refine (HBk.out _ HH.out).mono ?_
  rintro e w1 ⟨rfl, rfl⟩
  go_wp2_with fail
  refine (HM.out _ HH.out).mono ?_
  rintro e w1 ⟨rfl, rfl⟩
  go_wp2_with fail
  go_ret
  exact ⟨rfl, rfl⟩
theorem nmode_out {M : NMem} {S : Zone} {g : Nat} {F : NF} (n : Int) (one : Bool) (w : World) (h : FlashX M S w g F noEx) (hn : n < 0 ∨ (F.bl.length : Int) ≤ n) (hok : F.Ok) :
    Calls Try.prog 10 #[.pointer (some ⟨g, 0, none⟩), .int .i64 n, .bool one] w fun e w' => e = .returned (.int .i64 (F.mayE false false)) ∧ w = w' := by
  have HBk := Lib.hid (fun w (h : FlashX M S w g F noEx) => nblk_out n w h hn hok.nb)
  have HM := Lib.hid (fun w (h : FlashX M S w g F noEx) => nmay_nil w h)
  have HH := Lib.hid h
  have hm0 : F.mayE false false ≠ 0 := by
    unfold NF.mayE
    cases F.off <;> simp
  generalize F.mayE false false = m at HM hm0 ⊢
  have hm2 : (m == 0) = false := by simpa using hm0
  have hm3 : (m != 0) = true := by simp [bne, hm2]
  clear h hn hok hm0
  go_enter Try.func10, Try.ntmps10
  go_wp2_with fail
  refine (HBk.out _ HH.out).mono ?_
  rintro e w1 ⟨rfl, rfl⟩
  go_wp2_with fail
  refine (HM.out _ HH.out).mono ?_
  rintro e w1 ⟨rfl, rfl⟩
  go_wp2_with fail
  go_ret
  exact ⟨rfl, rfl⟩
end Go.Proofs.Ytbbhniohliklhaa
