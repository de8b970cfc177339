/- nand: the reference: Flip. -/
import Derived.Test.YtbbhniohliklhaaNandRD
namespace Go.Proofs.Ytbbhniohliklhaa
open Go Go.RowKit
set_option linter.unusedVariables false

section
variable {M : RMem} {S : Zone} {w : World} {g : Nat} {F : NF} {ex : Nat → Nat → Bool}
theorem RMem.row_set (M : RMem) (n k p : Nat) (v : Value) (hp : p < k) : (M.row n k).set p v = (RMem.mk M.gb M.vl (fun i j => if i = n ∧ j = p then v else M.vs i j)).row n k := by
  unfold RMem.row
  apply List.ext_getElem?
  intro j
  rw [List.getElem?_set]
  by_cases q : p = j
  · subst q
    rw [if_pos rfl, if_pos (by simp [hp])]
    simp [hp]
  · rw [if_neg q]
    by_cases hj : j < k
    · simp [hj]; intro e; exact absurd e.symm q
    · simp [hj]
theorem RMem.row_other (M : RMem) (n i k p : Nat) (v : Value) (hi : i ≠ n) : (RMem.mk M.gb M.vl (fun i j => if i = n ∧ j = p then v else M.vs i j)).row i k = M.row i k := by
  unfold RMem.row
  simp [hi]
/-- A page's value is set. -/
theorem RefX.setPg (h : RefX M S w g F ex) (n p : Nat) (x : NB) (hx : F.bl[n]? = some x) (hp : p < x.next.toNat) (gr cr : Nat) (hv : M.vl n = .slice (some ⟨gr, 0, none⟩) x.next.toNat cr) (v : Value) (l : List Nat) :
    RefX ⟨M.gb, M.vl, fun i j => if i = n ∧ j = p then v else M.vs i j⟩ S (w.setCell ⟨gr, p, none⟩ v) g (F.setB n { x with pages := x.pages.set p l }) (fun i j => ex i j || (i == n && j == p)) ∧ S gr := by
  have hn : n < F.bl.length := lt_of_get hx
  have hget : ∀ i y, (F.setB n { x with pages := x.pages.set p l }).bl[i]? = some y → (i = n ∧ y = { x with pages := x.pages.set p l }) ∨ (i ≠ n ∧ F.bl[i]? = some y) := by
    intro i y hy
    simp only [NF.setB] at hy
    by_cases q : i = n
    · subst q
      rw [List.getElem?_set_self hn] at hy
      exact .inl ⟨rfl, (Option.some.inj hy).symm⟩
    · rw [List.getElem?_set_ne (by omega)] at hy
      exact .inr ⟨q, hy⟩
  obtain ⟨C, k1, k2, k3⟩ := h.blk
  obtain ⟨r1, r2, r3⟩ := h.rows n x hx
  rw [hv] at r1
  obtain ⟨D, hD⟩ := own_has r1
  have hst := r1.stored p v
  rw [M.row_set n _ p v hp] at hst
  refine ⟨⟨?_, ?_, fun i y hy => ?_, ?_, h.zone⟩, r2 gr (by rw [hv]; rfl)⟩
  · have := h.own.set_other (p := ⟨gr, p, none⟩) (hasB_ne h.own hD (by decide)) v
    simpa [NF.rcells, NF.setB] using this
  · refine ⟨C, k1.set_other (p := ⟨gr, p, none⟩) (hasB_ne k1 hD (by decide)) v, by simp [NF.setB, k2], fun i y hy => ?_⟩
    rcases hget i y hy with ⟨rfl, rfl⟩ | ⟨hne, hy'⟩
    · obtain ⟨e1, e2⟩ := k3 i x hx
      exact ⟨e1, fun j j1 j4 => by
        rw [e2 j j1 j4]
        match j, j1, j4 with
        | 1, _, _ => rfl
        | 2, _, _ => rfl
        | 3, _, _ => rfl⟩
    · exact k3 i y hy'
  · rcases hget i y hy with ⟨rfl, rfl⟩ | ⟨hne, hy'⟩
    · refine ⟨by rw [hv]; exact hst.1, r2, fun j l' hj hl he => ?_⟩
      have hjp : j ≠ p := by
        intro e
        subst e
        simp at he
      dsimp only at hl
      rw [List.getElem?_set_ne (by omega)] at hl
      have := (r3 j l' hj hl (by simpa [hjp] using he)).set (p := ⟨gr, p, none⟩) hD (by decide) v
      simpa [hjp] using this
    · obtain ⟨q1, q2, q3⟩ := h.rows i y hy'
      have hi : i < F.bl.length := lt_of_get hy'
      rw [M.row_other n i _ p v hne]
      refine ⟨q1.kept hst.2 ?_, q2, fun j l' hj hl he => ?_⟩
      · cases hb : (M.vl i).ownBlock with
        | none => exact .inl rfl
        | some b =>
          refine .inr fun e => ?_
          have hb2 : b = gr := by simpa using e
          exact hne (h.apart i n b hi hn hb (by rw [hv, hb2]; rfl))
      · have := (q3 j l' hj hl (by simpa [hne] using he)).set (p := ⟨gr, p, none⟩) hD (by decide) v
        simpa [hne] using this
  · simp only [NF.setB, List.length_set]; exact h.apart
theorem RefX.close {S' : Zone} {n p k : Nat} (h : RefX M S w g F (exK n p k)) (hS : S.le S') (hv : 0 < k → ∀ x l, F.bl[n]? = some x → x.pages[p]? = some l → PgV S' w (M.vs n p) l) : RefX M S' w g F noEx := by
  refine ⟨h.own, h.blk, fun i x hx => ?_, h.apart, ⟨hS _ h.zone.1, hS _ h.zone.2⟩⟩
  obtain ⟨h1, h2, h3⟩ := h.rows i x hx
  refine ⟨h1, fun k hk => hS k (h2 k hk), fun j l hj hl _ => ?_⟩
  by_cases q : exK n p k i j = false
  · exact (h3 j l hj hl q).mono hS
  · simp [exK] at q
    obtain ⟨q1, rfl, rfl⟩ := q
    exact hv q1 x l hx hl
end
set_option maxRecDepth 100000 in
set_option maxHeartbeats 4000000 in
theorem rflip_yes {M : RMem} {S : Zone} {g : Nat} {F : NF} (n p k : Nat) (x : NB) (l : List Nat) (w : World) (h : RefX M S w g F noEx) (hl : S.lives w) (hx : F.bl[n]? = some x) (hp : x.pages[p]? = some l) (hg : F.Good) (hpn : (p : Int) < x.next) (hk : k < F.ch * 73 * 8) :
    Calls Try.prog 53 #[.pointer (some ⟨g, 0, none⟩), .int .i64 (n : Int), .int .i64 (p : Int), .int .i64 (k : Int)] w fun e w' => e = .returned (.bool true) ∧ RefG (S.grow w w') w' g (F.flipF n p x l k) ∧ Fr S w w' := by
  obtain ⟨POST, hPOST⟩ : ∃ Q : Ending → World → Prop, Q = fun e w' => e = .returned (.bool true) ∧ RefG (S.grow w w') w' g (F.flipF n p x l k) ∧ Fr S w w' := ⟨_, rfl⟩
  rw [← hPOST]
  have HPOST := Lib.hid hPOST
  clear hPOST
  have HGf := Lib.hid (hg.flipF hx hp hpn k)
  have hgx := hg.at' hx
  have hpo := hgx.pg l (List.mem_of_getElem? hp)
  have hod := hgx.od p l hp
  have hnx := hgx.nx
  obtain ⟨c0, -⟩ := h.gcells
  obtain ⟨b0, -⟩ := h.bcells hx
  obtain ⟨hr, -, hpv⟩ := h.rows n x hx
  have hn := lt_of_get hx
  have hb0 : (0 : Int) ≤ (n : Int) ∧ (n : Int) < (F.bl.length : Int) := by omega
  have hc1 := hg.c1
  have hc8 := hg.c8
  obtain ⟨m, hm⟩ : ∃ m : Nat, x.next = m := ⟨x.next.toNat, by omega⟩
  have hmt : x.next.toNat = m := by omega
  rw [hmt] at hr hpv
  have hpm : p < m := by omega
  obtain ⟨N, hN⟩ : ∃ N, N = F.ch * 73 := ⟨_, rfl⟩
  have HN := Lib.hid hN
  have hN2 : N ≤ 584 := by omega
  have hN1 : 73 ≤ N := by omega
  have hne : l ≠ [] := fun e => by have := hod.1 e; omega
  have hraw : F.raw l = l := by unfold NF.raw; rw [if_neg hne]
  have hll : l.length = N := by rcases hpo.1 with q | q; exact absurd q hne; rw [q, hN]
  obtain ⟨gr, cr, hv⟩ := own_shape hr (by omega)
  have hrow := hr
  rw [hv] at hrow b0
  have hcell := hrow.cellAt p (by omega)
  rw [RMem.row_at _ _ _ _ hpm] at hcell
  have hfrz := hrow.frozenAt p
  rcases hpv p l hpm hp rfl with ⟨e, _⟩ | ⟨h0, hown, _⟩
  · exact absurd e hne
  obtain ⟨gp, cp, hvp⟩ := own_shape hown h0
  rw [hvp] at hown hcell
  rw [hll] at hown hcell
  have HBy := Lib.hid (bytes_of_own hown hpo.2)
  obtain ⟨Q, hQ⟩ : ∃ Q, Q = k / 8 := ⟨_, rfl⟩
  obtain ⟨r, hr'⟩ : ∃ r, r = k % 8 := ⟨_, rfl⟩
  have hQN : Q < N := by omega
  obtain ⟨V, hV⟩ : ∃ V, V = l.getD Q 0 := ⟨_, rfl⟩
  have hol : Q < l.length := by rw [hll]; exact hQN
  have hV8 : V < 256 := by
    rw [hV]
    simp [List.getD, hol]; exact hpo.2 _ (List.getElem_mem _)
  have hr8 : r < 8 := by omega
  have hpw : 2 ^ r < 256 := Nat.pow_lt_pow_right (show 1 < 2 by omega) (show r < 8 by omega)
  have hX : bits .xor .u8 (V : Int) ((2 ^ r : Nat) : Int) = ((V ^^^ 2 ^ r : Nat) : Int) := u8_xor_nat _ _ hV8 hpw
  obtain ⟨Y, hY⟩ : ∃ Y, Y = V ^^^ 2 ^ r := ⟨_, rfl⟩
  obtain ⟨R, hR⟩ : ∃ R, R = 2 ^ r := ⟨_, rfl⟩
  have hR2 : (2 : Int) ^ r % 256 = (R : Int) := by
    rw [show (2 : Int) ^ r = ((2 ^ r : Nat) : Int) by simp, ← hR]; rw [← hR] at hpw; omega
  have hW : IntKind.u8.wrap ((2 : Int) ^ r) = (R : Int) := by rw [IntKind.wrap_u8]; exact hR2
  rw [← hY, ← hR] at hX
  have HFl : Hid (l.set Q Y = flipL (F.raw l) k) := Lib.hid (by unfold flipL; rw [hraw, hY, hV, hQ, hr'])
  have HLl := Lib.hid hll
  have HLc := Lib.hid hpo.2
  have HV := Lib.hid hV
  have t5 : (k : Int) / 8 = (Q : Int) := by omega
  have t6 : (k : Int) % 8 = (r : Int) := by omega
  have t7 : (0 : Int) ≤ (Q : Int) ∧ (Q : Int) < (N : Int) := by omega
  have iw : IntKind.i64.wrap (Q : Int) = (Q : Int) := wr64' _ (by omega) (by omega)
  have tm : (k : Int).tmod 8 = (r : Int) := by rw [Int.tmod_eq_emod_of_nonneg (by omega)]; exact t6
  have hpk : (0 : Int) ≤ (p : Int) ∧ (p : Int) < (m : Int) := by omega
  have hpm' : (p : Int) < (m : Int) := by omega
  have hset := h.setPg n p x hx (by omega) gr cr (by rw [hv, hmt])
  have HH := Lib.hid h
  have HL := Lib.hid hl
  have HX := Lib.hid hx
  have HPp := Lib.hid hp
  have HV2 := Lib.hid hv
  have HM := Lib.hid hmt
  have HPm := Lib.hid (lt_of_get hp)
  rw [Nat.mul_comm 4 n] at b0
  have hE0 : Hid ((w.alloc (.cells #[] 5)).ownsRow w.heap.size 5 1 (.slice (some ⟨w.heap.size, 0, none⟩) 0 0) 0 (u8s [])) := Lib.hid (own_empty (Nat.le_refl _))
  have hal : Below w.heap.size w (w.alloc (.cells #[] 5)) := (Below.refl _ _).alloc (Nat.le_refl _) _
  have c0' : (w.alloc (.cells #[] 5)).cell? ⟨g, 0, none⟩ = some (.slice (some ⟨M.gb, 0, none⟩) F.bl.length F.bl.length) := (hal.cell (p := ⟨g, 0, none⟩) (block_lt_of_cell c0)).trans c0
  have b0' : (w.alloc (.cells #[] 5)).cell? ⟨M.gb, n * 4, none⟩ = some (.slice (some ⟨gr, 0, none⟩) m cr) := (hal.cell (p := ⟨M.gb, n * 4, none⟩) (block_lt_of_cell b0)).trans b0
  have hcell' : (w.alloc (.cells #[] 5)).cell? ⟨gr, p, none⟩ = some (.slice (some ⟨gp, 0, none⟩) N cp) := (hal.cell (p := ⟨gr, p, none⟩) (block_lt_of_cell hcell)).trans hcell
  generalize F.bl.length = L at *
  generalize M.gb = gb at *
  clear hal h hl hx hp hg hpn hgx hpo hod hnx hr hpv hn hm hN hne hraw hll hv hrow hown hvp h0 hQ hr' hV hol hpw hY hR hmt hset hc1 hc8 hk
  go_enter Try.func53, Try.ntmps53
  go_wp2_with (at_builtin; refine Stop.mk ?_)
  refine Stop.go ?_
  refine wpList_app_u8 rfl _ _ 29 rfl w.heap.size 5 Try.underlying29 Try.infoU8 (.slice (some ⟨w.heap.size, 0, none⟩) 0 0) 0 [] rfl hE0.out (some ⟨gp, 0, none⟩) N cp l rfl (HBy.out.alloc _) (fun h => by cases h) (by omega) (by simp) ?_
  intro v w1 hown1 hgrow1
  rw [Nat.zero_add, List.nil_append] at hown1
  have hb1 : Below w.heap.size w w1 := ((Below.refl _ _).alloc (Nat.le_refl _) _).grown hgrow1 (by simp) (fun k hk => by simp [Value.ownBlock] at hk; omega)
  obtain ⟨gx, cx, rfl⟩ := own_shape hown1 (by omega)
  have hcx : w1.cell? ⟨gx, Q, none⟩ = some (.int .u8 (V : Int)) := by
    rw [hown1.cellAt Q (by omega)]
    have : Q < l.length := by rw [HLl.out]; exact hQN
    rw [HV.out]
    simp [u8s, List.getD, this]
  have hfx := hown1.frozenAt Q
  have hst := (hown1.stored Q (.int .u8 (Y : Int))).1
  rw [u8s_set, HFl.out] at hst
  have hgx := (hown1.lt gx rfl).1
  have hb2 : Below w.heap.size w (w1.setCell ⟨gx, Q, none⟩ (.int .u8 (Y : Int))) := hb1.setCell (p := ⟨gx, Q, none⟩) hgx _
  have hX2 := HH.out.below hb2
  have d0 : (w1.setCell ⟨gx, Q, none⟩ (.int .u8 (Y : Int))).cell? ⟨g, 0, none⟩ = some (.slice (some ⟨gb, 0, none⟩) L L) := (hb2.cell (p := ⟨g, 0, none⟩) (block_lt_of_cell c0)).trans c0
  have d1 : (w1.setCell ⟨gx, Q, none⟩ (.int .u8 (Y : Int))).cell? ⟨gb, n * 4, none⟩ = some (.slice (some ⟨gr, 0, none⟩) m cr) := (hb2.cell (p := ⟨gb, n * 4, none⟩) (block_lt_of_cell b0)).trans b0
  have d2 : (w1.setCell ⟨gx, Q, none⟩ (.int .u8 (Y : Int))).cell? ⟨gr, p, none⟩ = some (.slice (some ⟨gp, 0, none⟩) N cp) := (hb2.cell (p := ⟨gr, p, none⟩) (block_lt_of_cell hcell)).trans hcell
  have d3 : (w1.setCell ⟨gx, Q, none⟩ (.int .u8 (Y : Int))).frozen? ⟨gr, p, none⟩ = false := (hb2.frozen (p := ⟨gr, p, none⟩) (block_lt_of_cell hcell)).trans hfrz
  obtain ⟨hset, hSg⟩ := hX2.setPg n p x HX.out (by rw [HM.out]; exact hpm) gr cr (by rw [HV2.out, HM.out]) (.slice (some ⟨gx, 0, none⟩) N cx) (flipL (F.raw l) k)
  rw [exOne] at hset
  have hfr3 : Fr S w ((w1.setCell ⟨gx, Q, none⟩ (.int .u8 (Y : Int))).setCell ⟨gr, p, none⟩ (.slice (some ⟨gx, 0, none⟩) N cx)) := (Fr.below hb2).trans' (Fr.grown (gb_set (gb_refl _ _) _ _) hSg)
  have hne : gr ≠ gx := by
    have h1 := HL.out _ hSg
    omega
  have hrow3 : ((w1.setCell ⟨gx, Q, none⟩ (.int .u8 (Y : Int))).setCell ⟨gr, p, none⟩ (.slice (some ⟨gx, 0, none⟩) N cx)).ownsRow w.heap.size 5 1 (.slice (some ⟨gx, 0, none⟩) N cx) N (u8s (flipL (F.raw l) k)) := hst.kept (gb_set (gb_refl _ (some gr)) p _) (.inr (fun e => by simp [Value.ownBlock] at e; exact hne e.symm))
  have hfll : (flipL (F.raw l) k).length = N := by rw [← HFl.out]; simp [HLl.out]
  have HEnd : Hid (RefG (S.grow w ((w1.setCell ⟨gx, Q, none⟩ (.int .u8 (Y : Int))).setCell ⟨gr, p, none⟩ (.slice (some ⟨gx, 0, none⟩) N cx))) ((w1.setCell ⟨gx, Q, none⟩ (.int .u8 (Y : Int))).setCell ⟨gr, p, none⟩ (.slice (some ⟨gx, 0, none⟩) N cx)) g (F.flipF n p x l k) ∧ Fr S w ((w1.setCell ⟨gx, Q, none⟩ (.int .u8 (Y : Int))).setCell ⟨gr, p, none⟩ (.slice (some ⟨gx, 0, none⟩) N cx))) := Lib.hid (by
    refine ⟨⟨⟨_, RefX.close hset (Zone.le_grow _ _ _) fun _ y l' hy hl' => ?_⟩, HL.out.grow hfr3.size, HGf.out⟩, hfr3⟩
    have hy2 := setB_at (F := F) (y := { x with pages := x.pages.set p (flipL (F.raw l) k) }) HX.out
    have : some y = some { x with pages := x.pages.set p (flipL (F.raw l) k) } := hy.symm.trans hy2
    obtain rfl := Option.some.inj this
    dsimp only at hl'
    rw [List.getElem?_set_self HPm.out] at hl'
    obtain rfl := Option.some.inj hl'
    refine .inr ⟨by omega, ?_, fun j hj => ?_⟩
    · dsimp only
      rw [if_pos ⟨rfl, rfl⟩, hfll]
      exact own_zero hrow3
    · simp [Value.ownBlock] at hj
      subst hj
      have := hrow3.lt gx rfl
      exact .inr ⟨this.1, this.2⟩)
  clear hX2 hset hSg hfr3 hrow3 hfll hst hb1 hb2 hown1 hgrow1 hgx hne hE0 c0 b0 hcell hfrz c0' b0' hcell'
  go_wp2_with fail
  rw [HPOST.out]
  exact ⟨rfl, HEnd.out⟩
end Go.Proofs.Ytbbhniohliklhaa
