/- nand: the reference: Mode, Erase. -/
import Derived.Test.YtbbhniohliklhaaNandRB
namespace Go.Proofs.Ytbbhniohliklhaa
open Go Go.RowKit
set_option linter.unusedVariables false

section
variable {M : RMem} {S : Zone} {g : Nat} {F : NF} {ex : Nat → Nat → Bool}
theorem rmode_out (n : Int) (one : Bool) (w : World) (h : RefX M S w g F ex) (hn : n < 0 ∨ (F.bl.length : Int) ≤ n) :
    Calls Try.prog 37 #[.pointer (some ⟨g, 0, none⟩), .int .i64 n, .bool one] w fun e w' => e = .returned (.int .i64 (F.mayE false false)) ∧ w = w' := by
  obtain ⟨-, -, -, c3, -⟩ := h.gcells
  have HI := Lib.hid (fun w (h : RefX M S w g F ex) => ris_out n w h hn)
  have HH := Lib.hid h
  unfold NF.mayE
  generalize F.off = off at *
  clear h hn
  cases off with
  | true =>
    go_enter Try.func37, Try.ntmps37
    go_wp2_with fail
    go_ret
    exact ⟨rfl, rfl⟩
  | false =>
    go_enter Try.func37, Try.ntmps37
    go_wp2_with fail
    refine (HI.out _ HH.out).mono ?_
    rintro e w1 ⟨rfl, rfl⟩
    go_wp2_with fail
    go_ret
    exact ⟨rfl, rfl⟩
theorem rmode_any (n : Nat) (x : NB) (one : Bool) (w : World) (h : RefX M S w g F ex) (hx : F.bl[n]? = some x) (hg : F.Good) :
    Calls Try.prog 37 #[.pointer (some ⟨g, 0, none⟩), .int .i64 (n : Int), .bool one] w fun e w' => e = .returned (.int .i64 (F.modeE x)) ∧ RefX M S w' g (F.modeF n x one) ex ∧ Fr S w w' := by
  obtain ⟨c0, -, -, c3, -⟩ := h.gcells
  obtain ⟨-, b1, -, b3⟩ := h.bcells hx
  have f1 := h.bfree (4 * n + 1)
  have hn := lt_of_get hx
  have HI := Lib.hid (fun w (h : RefX M S w g F ex) => ris_in n w h hn)
  have HNx := Lib.hid (fun w (h : RefX M S w g F ex) => rnext_any n x w h hx hg)
  have HH := Lib.hid h
  have HN : Hid (RefX M S (w.setCell ⟨M.gb, 4 * n + 1, none⟩ (.bool one)) g (F.setB n { x with one := one }) ex) := Lib.hid (h.setBlk n x { x with one := one } hx 1 (by omega) (by omega) (.bool one) rfl rfl (fun j h1 h5 => by
    match j, h1, h5 with
    | 1, _, _ => rfl
    | 2, _, _ => rfl
    | 3, _, _ => rfl))
  have HF : Hid (Fr S w (w.setCell ⟨M.gb, 4 * n + 1, none⟩ (.bool one))) := Lib.hid (h.frBlk (gb_set (gb_refl _ _) _ _))
  rw [Nat.mul_comm 4 n] at b1 b3 f1 HN HF
  have hb0 : (0 : Int) ≤ (n : Int) ∧ (n : Int) < (F.bl.length : Int) := by omega
  have hE : F.modeE x = if F.off then 4 else if x.failed then 7 else if !(x.nextI == 0) then 6 else 0 := by
    unfold NF.modeE NF.mayE NB.busy NB.nextI
    cases F.off <;> cases x.failed <;> cases x.half <;> simp
  have hFm : F.modeF n x one = if F.modeE x = 0 then F.setB n { x with one := one } else F := rfl
  rw [hFm]
  generalize F.modeE x = E at *
  generalize F.off = off at *
  generalize x.failed = fl at *
  generalize x.nextI = nx at *
  generalize F.bl.length = L at *
  clear h hx hn hg hFm
  cases off with
  | true =>
    obtain rfl : E = 4 := hE
    rw [if_neg (by decide)]
    clear HN HF
    go_enter Try.func37, Try.ntmps37
    go_wp2_with fail
    go_ret
    exact ⟨rfl, HH.out, Fr.refl _ _⟩
  | false =>
    cases fl with
    | true =>
      obtain rfl : E = 7 := hE
      rw [if_neg (by decide)]
      clear HN HF
      go_enter Try.func37, Try.ntmps37
      go_wp2_with fail
      refine (HI.out _ HH.out).mono ?_
      rintro e w1 ⟨rfl, rfl⟩
      go_wp2_with fail
      go_ret
      exact ⟨rfl, HH.out, Fr.refl _ _⟩
    | false =>
      by_cases hz : nx = 0
      · obtain rfl : E = 0 := by rw [hE, hz]; rfl
        rw [if_pos rfl]
        have hz1 : (nx == 0) = true := by simp [hz]
        have hz2 : (nx != 0) = false := by simp [hz]
        clear hE hz
        go_enter Try.func37, Try.ntmps37
        go_wp2_with fail
        refine (HI.out _ HH.out).mono ?_
        rintro e w1 ⟨rfl, rfl⟩
        go_wp2_with fail
        refine (HNx.out _ HH.out).mono ?_
        rintro e w1 ⟨rfl, rfl⟩
        go_wp2_with fail
        go_ret
        exact ⟨rfl, HN.out, HF.out⟩
      · have hz1 : (nx == 0) = false := by simpa using hz
        have hz2 : (nx != 0) = true := by simp [bne, hz1]
        obtain rfl : E = 6 := by rw [hE, hz1]; rfl
        rw [if_neg (by decide)]
        clear HN HF hE hz
        go_enter Try.func37, Try.ntmps37
        go_wp2_with fail
        refine (HI.out _ HH.out).mono ?_
        rintro e w1 ⟨rfl, rfl⟩
        go_wp2_with fail
        refine (HNx.out _ HH.out).mono ?_
        rintro e w1 ⟨rfl, rfl⟩
        go_wp2_with fail
        go_ret
        exact ⟨rfl, HH.out, Fr.refl _ _⟩
theorem RefX.setHalf {w : World} (h : RefX M S w g F ex) (n : Nat) (x : NB) (hx : F.bl[n]? = some x) (b : Bool) : RefX M S (w.setCell ⟨M.gb, 4 * n + 2, none⟩ (.bool b)) g (F.setB n { x with half := b }) ex :=
  h.setBlk n x { x with half := b } hx 2 (by omega) (by omega) (.bool b) rfl rfl (fun j h1 h5 => by
    match j, h1, h5 with
    | 1, _, _ => rfl
    | 2, _, _ => rfl
    | 3, _, _ => rfl)
theorem RefX.setErd {w : World} (h : RefX M S w g F ex) (v : Int) : RefX M S (w.setCell ⟨g, 8, none⟩ (.int .i64 v)) g { F with er := v } ex := h.setOwn 8 _ (by simp [NF.rcells]) rfl
/-- A block's pages are let go. -/
theorem RefX.setNil {w : World} (h : RefX M S w g F ex) (n : Nat) (x x' : NB) (hx : F.bl[n]? = some x) (h0 : x'.next = 0) (h1 : x'.one = x.one) (h2 : x'.half = x.half) (h3 : x'.failed = x.failed) :
    RefX { M with vl := fun i => if i = n then .slice none 0 0 else M.vl i } S (w.setCell ⟨M.gb, 4 * n, none⟩ (.slice none 0 0)) g (F.setB n x') ex := by
  have hn : n < F.bl.length := lt_of_get hx
  have hget : ∀ i y, (F.setB n x').bl[i]? = some y → (i = n ∧ y = x') ∨ (i ≠ n ∧ F.bl[i]? = some y) := by
    intro i y hy
    simp only [NF.setB] at hy
    by_cases q : i = n
    · subst q
      rw [List.getElem?_set_self hn] at hy
      exact .inl ⟨rfl, (Option.some.inj hy).symm⟩
    · rw [List.getElem?_set_ne (by omega)] at hy
      exact .inr ⟨q, hy⟩
  obtain ⟨C, k1, k2, k3⟩ := h.blk
  refine ⟨?_, ?_, fun i y hy => ?_, ?_, h.zone⟩
  · have := h.own.set_other (p := ⟨M.gb, 4 * n, none⟩) (hasB_ne h.own k1 (by decide)) (.slice none 0 0)
    simpa [NF.rcells, NF.setB] using this
  · refine ⟨C.setIfInBounds (4 * n) (.slice none 0 0), k1.set _ _, by simp [NF.setB, k2], fun i y hy => ?_⟩
    rcases hget i y hy with ⟨rfl, rfl⟩ | ⟨hne, hy'⟩
    · obtain ⟨e1, e2⟩ := k3 i x hx
      refine ⟨by rw [Array.getElem?_setIfInBounds, if_pos rfl, if_pos (by omega)]; simp, fun j hj1 hj5 => ?_⟩
      rw [Array.getElem?_setIfInBounds, if_neg (by omega), e2 j hj1 hj5]
      match j, hj1, hj5 with
      | 1, _, _ => simp [NB.rcell, h1]
      | 2, _, _ => simp [NB.rcell, h2]
      | 3, _, _ => simp [NB.rcell, h3]
    · obtain ⟨e1, e2⟩ := k3 i y hy'
      refine ⟨by rw [Array.getElem?_setIfInBounds, if_neg (by omega), e1]; simp [hne], fun j hj1 hj5 => ?_⟩
      rw [Array.getElem?_setIfInBounds, if_neg (by omega)]
      exact e2 j hj1 hj5
  · rcases hget i y hy with ⟨rfl, rfl⟩ | ⟨hne, hy'⟩
    · rw [h0]
      refine ⟨?_, ?_, fun j l hj => by simp at hj⟩
      · simp only [if_true]
        exact World.ownsRow_nil _ _ _ _
      · intro k hk
        simp [Value.ownBlock] at hk
    · obtain ⟨q1, q2, q3⟩ := h.rows i y hy'
      simp only [hne, if_false]
      exact ⟨own_setT q1 k1 (by decide) _ _, q2, fun j l hj hl he => (q3 j l hj hl he).set (p := ⟨M.gb, 4 * n, none⟩) k1 (by decide) _⟩
  · intro i j k hi hj
    dsimp only
    by_cases e1 : i = n
    · rw [if_pos e1]; intro q; simp [Value.ownBlock] at q
    · by_cases e2 : j = n
      · rw [if_pos e2]; intro _ q; simp [Value.ownBlock] at q
      · rw [if_neg e1, if_neg e2]
        simp only [NF.setB, List.length_set] at hi hj
        exact h.apart i j k hi hj
theorem RefX.op {w w' : World} (h : RefX M S w' g F noEx) (hl : S.lives w) (hfr : Fr S w w') (hg : F.Good) : RefG (S.grow w w') w' g F ∧ Fr S w w' :=
  ⟨⟨⟨M, h.mono (Zone.le_grow _ _ _)⟩, hl.grow hfr.size, hg⟩, hfr⟩

theorem rerase_out (n : Int) (w : World) (h : RefX M S w g F ex) (hn : n < 0 ∨ (F.bl.length : Int) ≤ n) :
    Calls Try.prog 36 #[.pointer (some ⟨g, 0, none⟩), .int .i64 n] w fun e w' => e = .returned (.int .i64 (F.mayE false false)) ∧ w = w' := by
  obtain ⟨-, -, -, c3, -⟩ := h.gcells
  have HI := Lib.hid (fun w (h : RefX M S w g F ex) => ris_out n w h hn)
  have HH := Lib.hid h
  unfold NF.mayE
  generalize F.off = off at *
  clear h hn
  cases off with
  | true =>
    go_enter Try.func36, Try.ntmps36
    go_wp2_with fail
    go_ret
    exact ⟨rfl, rfl⟩
  | false =>
    go_enter Try.func36, Try.ntmps36
    go_wp2_with fail
    refine (HI.out _ HH.out).mono ?_
    rintro e w1 ⟨rfl, rfl⟩
    go_wp2_with fail
    go_ret
    exact ⟨rfl, rfl⟩
theorem rerase_err (n : Nat) (x : NB) (w : World) (h : RefX M S w g F ex) (hx : F.bl[n]? = some x) (he : F.mayE x.failed true ≠ 0) :
    Calls Try.prog 36 #[.pointer (some ⟨g, 0, none⟩), .int .i64 (n : Int)] w fun e w' => e = .returned (.int .i64 (F.mayE x.failed true)) ∧ w = w' := by
  obtain ⟨c0, -, -, c3, -⟩ := h.gcells
  obtain ⟨-, -, -, b3⟩ := h.bcells hx
  have hn := lt_of_get hx
  have HI := Lib.hid (fun w (h : RefX M S w g F ex) => ris_in n w h hn)
  have HH := Lib.hid h
  rw [Nat.mul_comm 4 n] at b3
  have hb0 : (0 : Int) ≤ (n : Int) ∧ (n : Int) < (F.bl.length : Int) := by omega
  have hE : F.mayE x.failed true = if F.off then 4 else if x.failed then 7 else 0 := by unfold NF.mayE; cases F.off <;> simp
  generalize F.mayE x.failed true = E at *
  generalize F.off = off at *
  generalize x.failed = fl at *
  generalize F.bl.length = L at *
  clear h hx hn
  cases off with
  | true =>
    obtain rfl : E = 4 := hE
    clear he
    go_enter Try.func36, Try.ntmps36
    go_wp2_with fail
    go_ret
    exact ⟨rfl, rfl⟩
  | false =>
    cases fl with
    | true =>
      obtain rfl : E = 7 := hE
      clear he
      go_enter Try.func36, Try.ntmps36
      go_wp2_with fail
      refine (HI.out _ HH.out).mono ?_
      rintro e w1 ⟨rfl, rfl⟩
      go_wp2_with fail
      go_ret
      exact ⟨rfl, rfl⟩
    | false => exact absurd hE he
end
set_option maxRecDepth 100000 in
set_option maxHeartbeats 4000000 in
theorem rerase_go {M : RMem} {S : Zone} {g : Nat} {F : NF} (n : Nat) (x : NB) (w : World) (h : RefX M S w g F noEx) (hl : S.lives w) (hx : F.bl[n]? = some x) (hg : F.Good) (hm : F.mayE x.failed true = 0) :
    Calls Try.prog 36 #[.pointer (some ⟨g, 0, none⟩), .int .i64 (n : Int)] w fun e w' => e = .returned (.int .i64 (F.erGo n x).1) ∧ RefG (S.grow w w') w' g (F.erGo n x).2 ∧ Fr S w w' := by
  obtain ⟨POST, hPOST⟩ : ∃ Q : Ending → World → Prop, Q = fun e w' => e = .returned (.int .i64 (F.erGo n x).1) ∧ RefG (S.grow w w') w' g (F.erGo n x).2 ∧ Fr S w w' := ⟨_, rfl⟩
  rw [← hPOST]
  have HPOST := Lib.hid hPOST
  clear hPOST
  have hoff : F.off = false := by unfold NF.mayE at hm; cases h : F.off <;> simp [h] at hm ⊢
  have hfl : x.failed = false := by unfold NF.mayE at hm; rw [hoff] at hm; cases h : x.failed <;> simp [h] at hm ⊢
  obtain ⟨c0, -, -, c3, -⟩ := h.gcells
  obtain ⟨-, -, -, b3⟩ := h.bcells hx
  rw [hoff] at c3
  rw [hfl] at b3
  have hn := lt_of_get hx
  have HI := Lib.hid (fun w (h : RefX M S w g F noEx) => ris_in n w h hn)
  have HH := Lib.hid h
  have HL := Lib.hid hl
  have HX := Lib.hid hx
  have HG := Lib.hid hg
  have HEg := Lib.hid (hg.erGo hx)
  have hb0 : (0 : Int) ≤ (n : Int) ∧ (n : Int) < (F.bl.length : Int) := by omega
  obtain ⟨gb, hgb⟩ : ∃ gb, gb = M.gb := ⟨_, rfl⟩
  rw [← hgb] at b3 c0
  have HGb := Lib.hid hgb
  rw [Nat.mul_comm 4 n] at b3
  have hz := h.zone
  have HZ := Lib.hid hz
  by_cases ha : F.armed = 1
  · have HE : Hid (F.erGo n x = (4, F.cut)) := Lib.hid (by unfold NF.erGo; rw [if_pos ha])
    have HA := Lib.hid ha
    clear h hl hx hg hm ha hgb hoff hfl hn hz
    generalize F.bl.length = L at *
    go_enter Try.func36, Try.ntmps36
    go_wp2_with fail
    refine (HI.out _ HH.out).mono ?_
    rintro e w1 ⟨rfl, rfl⟩
    go_wp2_with fail
    refine (rstep_cut _ HH.out HA.out).mono ?_
    rintro e w2 ⟨rfl, hf2, hg2⟩
    have HF2 := Lib.hid hf2
    have HFr2 : Hid (Fr S w w2) := Lib.hid (Fr.grown hg2 HH.out.zone.1)
    clear hf2 hg2
    go_wp2_with fail
    rw [HPOST.out]
    have hEg := HEg.out
    rw [HE.out] at hEg ⊢
    exact ⟨rfl, HF2.out.op HL.out HFr2.out hEg⟩
  · have HA := Lib.hid (show 0 ≤ F.armed ∧ F.armed ≤ 9223372036854775807 ∧ ¬ F.armed = 1 from ⟨hg.a0, hg.a1, ha⟩)
    have HST : Hid (∀ w2, RefX M S w2 g F.tick noEx → w2.cell? ⟨g, 0, none⟩ = some (.slice (some ⟨gb, 0, none⟩) F.bl.length F.bl.length) ∧ w2.cell? ⟨gb, n * 4 + 2, none⟩ = some (.bool x.half) ∧ w2.frozen? ⟨gb, n * 4 + 2, none⟩ = false ∧ RefX M S (w2.setCell ⟨gb, n * 4 + 2, none⟩ (.bool true)) g (F.half n x) noEx ∧ Fr S w2 (w2.setCell ⟨gb, n * 4 + 2, none⟩ (.bool true))) := Lib.hid (fun w2 h2 => by
      have hx2 : F.tick.bl[n]? = some x := hx
      obtain ⟨d0, -⟩ := h2.gcells
      obtain ⟨-, -, b2, -⟩ := h2.bcells hx2
      rw [hgb, Nat.mul_comm n 4]
      exact ⟨d0, b2, h2.bfree _, h2.setHalf n x hx2 true, h2.frBlk (gb_set (gb_refl _ _) _ _)⟩)
    by_cases ha2 : F.tick.armed = 1
    · have HE : Hid (F.erGo n x = (4, (F.half n x).cut)) := Lib.hid (by unfold NF.erGo; rw [if_neg ha, if_pos ha2])
      have HA2 : Hid ((F.half n x).armed = 1) := Lib.hid ha2
      clear h hl hx hg hm ha hgb hoff hfl hn hz ha2
      generalize F.bl.length = L at *
      go_enter Try.func36, Try.ntmps36
      go_wp2_with fail
      refine (HI.out _ HH.out).mono ?_
      rintro e w1 ⟨rfl, rfl⟩
      go_wp2_with fail
      refine (rstep_yes _ HH.out HA.out.1 HA.out.2.1 HA.out.2.2).mono ?_
      rintro e w2 ⟨rfl, hf2, hg2⟩
      have hfr2 : Fr S w w2 := Fr.grown hg2 HZ.out.1
      clear c0 b3
      obtain ⟨c0, b2, f2, hf3, hg3⟩ := HST.out _ hf2
      have HF3 := Lib.hid hf3
      have HFr3 := Lib.hid (hfr2.trans' hg3)
      clear hf2 hg2 hfr2 hf3 hg3
      go_wp2_with fail
      refine (rstep_cut _ HF3.out HA2.out).mono ?_
      rintro e w4 ⟨rfl, hf4, hg4⟩
      have HF4 := Lib.hid hf4
      have HFr4 : Hid (Fr S w w4) := Lib.hid (HFr3.out.trans' (Fr.grown hg4 HZ.out.1))
      clear hf4 hg4 b2 f2 c0
      go_wp2_with fail
      rw [HPOST.out]
      have hEg := HEg.out
      rw [HE.out] at hEg ⊢
      exact ⟨rfl, HF4.out.op HL.out HFr4.out hEg⟩
    · have HE : Hid (F.erGo n x = (0, { ((F.half n x).tick).setB n (x.erased F.np) with er := IntKind.i64.wrap (F.er + 1) })) := Lib.hid (by unfold NF.erGo; rw [if_neg ha, if_neg ha2])
      have HA2 : Hid (¬ (F.half n x).armed = 1) := Lib.hid ha2
      have hta := NF.ticks_armed hg.a0 hg.a1 1
      have HA3 : Hid (0 ≤ (F.half n x).armed ∧ (F.half n x).armed ≤ 9223372036854775807) := Lib.hid hta
      have hbl : (F.half n x).bl.length = F.bl.length := by simp [NF.half, NF.setB, NF.tick]
      have HST2 : Hid (∀ w2, RefX M S w2 g (F.half n x).tick noEx → w2.cell? ⟨g, 0, none⟩ = some (.slice (some ⟨gb, 0, none⟩) F.bl.length F.bl.length) ∧ w2.cell? ⟨gb, n * 4 + 2, none⟩ = some (.bool true) ∧ w2.frozen? ⟨gb, n * 4 + 2, none⟩ = false ∧ RefX M S (w2.setCell ⟨gb, n * 4 + 2, none⟩ (.bool false)) g ((F.half n x).tick.setB n { x with half := false }) noEx ∧ Fr S w2 (w2.setCell ⟨gb, n * 4 + 2, none⟩ (.bool false))) := Lib.hid (fun w2 h2 => by
        have hx2 : (F.half n x).tick.bl[n]? = some { x with half := true } := setB_at (F := F.tick) (x := x) hx
        obtain ⟨d0, -⟩ := h2.gcells
        rw [show (F.half n x).tick.bl.length = F.bl.length from hbl] at d0
        obtain ⟨-, -, b2, -⟩ := h2.bcells hx2
        rw [hgb, Nat.mul_comm n 4]
        exact ⟨d0, b2, h2.bfree _, h2.setHalf n _ hx2 false, h2.frBlk (gb_set (gb_refl _ _) _ _)⟩)
      have HST3 : Hid (∀ w2, RefX M S w2 g ((F.half n x).tick.setB n { x with half := false }) noEx → w2.cell? ⟨g, 0, none⟩ = some (.slice (some ⟨gb, 0, none⟩) F.bl.length F.bl.length) ∧ (∃ v, w2.cell? ⟨gb, n * 4, none⟩ = some v) ∧ w2.frozen? ⟨gb, n * 4, none⟩ = false ∧ RefX { M with vl := fun i => if i = n then .slice none 0 0 else M.vl i } S (w2.setCell ⟨gb, n * 4, none⟩ (.slice none 0 0)) g ((F.half n x).tick.setB n (x.erased F.np)) noEx ∧ Fr S w2 (w2.setCell ⟨gb, n * 4, none⟩ (.slice none 0 0))) := Lib.hid (fun w2 h2 => by
        have hx2 : ((F.half n x).tick.setB n { x with half := false }).bl[n]? = some { x with half := false } := setB_at (F := (F.half n x).tick) (x := { x with half := true }) (setB_at (F := F.tick) (x := x) hx)
        obtain ⟨d0, -⟩ := h2.gcells
        rw [show ((F.half n x).tick.setB n { x with half := false }).bl.length = F.bl.length by simp [NF.half, NF.setB, NF.tick]] at d0
        obtain ⟨b0, -⟩ := h2.bcells hx2
        rw [hgb, Nat.mul_comm n 4]
        have := h2.setNil n { x with half := false } (x.erased F.np) hx2 rfl rfl rfl rfl
        rw [setB_setB] at this
        exact ⟨d0, ⟨_, b0⟩, h2.bfree _, this, h2.frBlk (gb_set (gb_refl _ _) _ _)⟩)
      clear h hl hx hg hm ha hgb hoff hfl hn hz ha2 hta hbl
      generalize F.bl.length = L at *
      go_enter Try.func36, Try.ntmps36
      go_wp2_with fail
      refine (HI.out _ HH.out).mono ?_
      rintro e w1 ⟨rfl, rfl⟩
      go_wp2_with fail
      refine (rstep_yes _ HH.out HA.out.1 HA.out.2.1 HA.out.2.2).mono ?_
      rintro e w2 ⟨rfl, hf2, hg2⟩
      have hfr2 : Fr S w w2 := Fr.grown hg2 HZ.out.1
      clear c0 b3
      obtain ⟨c0, b2, f2, hf3, hg3⟩ := HST.out _ hf2
      have HF3 := Lib.hid hf3
      have HFr3 := Lib.hid (hfr2.trans' hg3)
      clear hf2 hg2 hfr2 hf3 hg3
      go_wp2_with fail
      refine (rstep_yes _ HF3.out HA3.out.1 HA3.out.2 HA2.out).mono ?_
      rintro e w4 ⟨rfl, hf4, hg4⟩
      have hfr4 : Fr S w w4 := HFr3.out.trans' (Fr.grown hg4 HZ.out.1)
      clear b2 f2 c0
      obtain ⟨c0, b2, f2, hf5, hg5⟩ := HST2.out _ hf4
      obtain ⟨d0, ⟨vo, e0⟩, e1, hf6, hg6⟩ := HST3.out _ hf5
      obtain ⟨-, -, -, -, -, -, -, -, c8⟩ := hf6.gcells
      have f8 := hf6.gfree 8
      obtain ⟨er, her⟩ : ∃ er, er = F.er := ⟨_, rfl⟩
      obtain ⟨e2, he2⟩ : ∃ e2, e2 = IntKind.i64.wrap (er + 1) := ⟨_, rfl⟩
      have hs3 : wrap64 (er + 1) = e2 := by rw [he2, IntKind.wrap_i64]; unfold wrap64; omega
      rw [show ((F.half n x).tick.setB n (x.erased F.np)).er = er from her.symm] at c8
      have HF7 := Lib.hid (hf6.setErd e2)
      have HFr7 : Hid (Fr S w ((((w4.setCell ⟨gb, n * 4 + 2, none⟩ (.bool false)).setCell ⟨gb, n * 4, none⟩ (.slice none 0 0)).setCell ⟨g, 8, none⟩ (.int .i64 e2)))) := Lib.hid (((hfr4.trans' hg5).trans' hg6).trans' (Fr.grown (gb_set (gb_refl _ _) _ _) HZ.out.1))
      have HEr := Lib.hid her
      have HE2 := Lib.hid he2
      clear hf4 hg4 hfr4 hf5 hg5 hf6 hg6 HST HST2 HST3 her he2
      go_wp2_with fail
      rw [HPOST.out]
      have hEg := HEg.out
      rw [HE.out] at hEg ⊢
      rw [← HEr.out, ← HE2.out] at hEg ⊢
      exact ⟨rfl, HF7.out.op HL.out HFr7.out hEg⟩
end Go.Proofs.Ytbbhniohliklhaa
