/- nand: the reference: Page, Read. -/
import Derived.Test.YtbbhniohliklhaaNandRC
namespace Go.Proofs.Ytbbhniohliklhaa
open Go Go.RowKit
set_option linter.unusedVariables false

theorem ffTo_set (N k : Nat) (h : k < N) : (ffTo N k).set k 255 = ffTo N (k + 1) := by
  unfold ffTo
  rw [List.set_append_right _ _ (by simp)]
  obtain ⟨m, hm⟩ : ∃ m, N - k = m + 1 := ⟨N - k - 1, by omega⟩
  rw [hm, show N - (k + 1) = m by omega, List.length_replicate, Nat.sub_self, List.replicate_succ, List.set_cons_zero, List.replicate_succ', List.append_assoc]
  rfl
theorem ffTo_zero (N : Nat) : ffTo N 0 = List.replicate N 0 := by simp [ffTo]
/-- What Page gives. -/
def PageV (F : NF) (w : World) (l : List Nat) (e : Ending) (w' : World) : Prop :=
  (∃ a cap, e = .returned (.tuple #[.slice a (F.ch * 73) cap, .bool true]) ∧ Bytes w' a (F.ch * 73) (F.raw l) ∧ ∀ ad, a = some ad → ∃ C, HasB w' ad.block C 5) ∧ Below w.heap.size w w'
theorem own_has {w : World} {base : Nat} {e : TypeId} {g n cap : Nat} {xs : List Value} (h : w.ownsRow base e 1 (.slice (some ⟨g, 0, none⟩) n cap) n xs) : ∃ C, HasB w g C e := by
  rcases h.2 with ⟨q, _⟩ | ⟨g', cap', cur, q, _, hh, _⟩
  · cases q
  · cases q; exact ⟨cur, hh⟩
section
variable {M : RMem} {S : Zone} {g : Nat} {F : NF}
theorem rpage_out (n p : Int) (w : World) (h : RefX M S w g F noEx) (hn : n < 0 ∨ (F.bl.length : Int) ≤ n) : Calls Try.prog 54 #[.pointer (some ⟨g, 0, none⟩), .int .i64 n, .int .i64 p] w fun e w' => e = .returned (.tuple #[.slice none 0 0, .bool false]) ∧ w = w' := by
  have HI := Lib.hid (fun w (h : RefX M S w g F noEx) => ris_out n w h hn)
  have HH := Lib.hid h
  clear h hn
  go_enter Try.func54, Try.ntmps54
  go_wp2_with fail
  refine (HI.out _ HH.out).mono ?_
  rintro e w1 ⟨rfl, rfl⟩
  go_wp2_with fail
  go_ret2
  exact ⟨rfl, rfl⟩
theorem rpage_no (n : Nat) (p : Int) (x : NB) (w : World) (h : RefX M S w g F noEx) (hx : F.bl[n]? = some x) (hg : F.Good) (hh : F.has x p = false) : Calls Try.prog 54 #[.pointer (some ⟨g, 0, none⟩), .int .i64 (n : Int), .int .i64 p] w fun e w' => e = .returned (.tuple #[.slice none 0 0, .bool false]) ∧ w = w' := by
  have HI := Lib.hid (fun w (h : RefX M S w g F noEx) => ris_in n w h (lt_of_get hx))
  have HHas := Lib.hid (fun w (h : RefX M S w g F noEx) => rhas_any n x w h hx hg.ok)
  have HH := Lib.hid h
  have hq : p < 0 ∨ ((F.many x : Nat) : Int) ≤ p := by
    unfold NF.has at hh
    simp at hh
    omega
  generalize F.many x = m at *
  clear h hx hg hh
  by_cases t1 : p < 0
  · clear hq
    go_enter Try.func54, Try.ntmps54
    go_wp2_with fail
    refine (HI.out _ HH.out).mono ?_
    rintro e w1 ⟨rfl, rfl⟩
    go_wp2_with fail
    go_ret2
    exact ⟨rfl, rfl⟩
  · have t2 : ((m : Nat) : Int) ≤ p := by omega
    clear hq
    go_enter Try.func54, Try.ntmps54
    go_wp2_with fail
    refine (HI.out _ HH.out).mono ?_
    rintro e w1 ⟨rfl, rfl⟩
    go_wp2_with fail
    refine (HHas.out _ HH.out).mono ?_
    rintro e w1 ⟨rfl, rfl⟩
    go_wp2_with fail
    go_ret2
    exact ⟨rfl, rfl⟩
set_option maxRecDepth 100000 in
set_option maxHeartbeats 4000000 in
theorem rpage_yes (n p : Nat) (x : NB) (l : List Nat) (w : World) (h : RefX M S w g F noEx) (hx : F.bl[n]? = some x) (hp : x.pages[p]? = some l) (hg : F.Good) (hh : F.has x p = true) : Calls Try.prog 54 #[.pointer (some ⟨g, 0, none⟩), .int .i64 (n : Int), .int .i64 (p : Int)] w (PageV F w l) := by
  obtain ⟨POST, hPOST⟩ : ∃ Q, Q = PageV F w l := ⟨_, rfl⟩
  rw [← hPOST]
  have HPOST := Lib.hid hPOST
  clear hPOST
  have HI := Lib.hid (fun w (h : RefX M S w g F noEx) => ris_in n w h (lt_of_get hx))
  have HHas := Lib.hid (fun w (h : RefX M S w g F noEx) => rhas_any n x w h hx hg.ok)
  have HH := Lib.hid h
  have hq := NF.has_iff.1 hh
  have hgx := hg.at' hx
  have hpo := hgx.pg l (List.mem_of_getElem? hp)
  have hod := hgx.od p l hp
  have hnx := hgx.nx
  obtain ⟨c0, -, c2, -⟩ := h.gcells
  obtain ⟨b0, -⟩ := h.bcells hx
  obtain ⟨hr, -, hpv⟩ := h.rows n x hx
  have hn := lt_of_get hx
  have hb0 : (0 : Int) ≤ (n : Int) ∧ (n : Int) < (F.bl.length : Int) := by omega
  have hc1 := hg.c1
  have hc8 := hg.c8
  obtain ⟨gb, hgb⟩ : ∃ gb, gb = M.gb := ⟨_, rfl⟩
  rw [← hgb] at c0 b0
  rw [Nat.mul_comm 4 n] at b0
  obtain ⟨k, hk⟩ : ∃ k : Nat, x.next = k := ⟨x.next.toNat, by omega⟩
  rw [hk] at hr hod hnx hpv
  rw [show ((k : Int)).toNat = k by omega] at hr hpv
  obtain ⟨N, hN⟩ : ∃ N, N = F.ch * 73 := ⟨_, rfl⟩
  have HN := Lib.hid hN
  have i1 : (F.ch : Int) * 73 = (N : Int) := by omega
  have hN2 : N ≤ 584 := by omega
  have hN1 : 73 ≤ N := by omega
  generalize F.many x = m at *
  by_cases hlt : p < k
  · have hlt' : (p : Int) < (k : Int) := by omega
    have hne : l ≠ [] := fun e => by have := hod.1 e; omega
    have hraw : F.raw l = l := by unfold NF.raw; rw [if_neg hne]
    have hll : l.length = N := by rcases hpo.1 with q | q; exact absurd q hne; rw [q, hN]
    obtain ⟨gr, cr, hv⟩ := own_shape hr (by omega)
    rw [hv] at hr b0
    have hcell := hr.cellAt p (by omega)
    rw [RMem.row_at _ _ _ _ hlt] at hcell
    have hpg := hpv p l hlt hp rfl
    rcases hpg with ⟨e, _⟩ | ⟨h0, hown, _⟩
    · exact absurd e hne
    · obtain ⟨gp, cp, hvp⟩ := own_shape hown h0
      rw [hvp] at hown hcell
      rw [hll] at hown hcell
      have HBy := Lib.hid (bytes_of_own hown hpo.2)
      have HHs := Lib.hid (own_has hown)
      have HRaw := Lib.hid hraw
      have hpk : (0 : Int) ≤ (p : Int) ∧ (p : Int) < (k : Int) := by omega
      have t1 : ¬ ((p : Int) < 0) := by omega
      have t2 : ¬ ((p : Int) ≥ (m : Int)) := by omega
      generalize F.bl.length = L at *
      clear h hx hp hg hh hq hgx hpo hod hr hpv hn hgb hk hN hv hvp hown hne hraw hll c2
      go_enter Try.func54, Try.ntmps54
      go_wp2_with fail
      refine (HI.out _ HH.out).mono ?_
      rintro e w1 ⟨rfl, rfl⟩
      go_wp2_with fail
      refine (HHas.out _ HH.out).mono ?_
      rintro e w1 ⟨rfl, rfl⟩
      go_wp2_with fail
      rw [HPOST.out]
      unfold PageV
      rw [← HN.out, HRaw.out]
      exact ⟨⟨_, _, rfl, HBy.out, fun ad e => by cases e; exact HHs.out⟩, Below.refl _ _⟩
  · have hlt' : ¬ ((p : Int) < (k : Int)) := by omega
    have hle : l = [] := hod.2 (by omega)
    have hraw : F.raw l = List.replicate N 255 := by unfold NF.raw; rw [if_pos hle, hN]
    have HRaw := Lib.hid hraw
    obtain ⟨ar, cr, hv⟩ := own_form hr
    rw [hv] at b0
    have t1 : ¬ ((p : Int) < 0) := by omega
    have t2 : ¬ ((p : Int) ≥ (m : Int)) := by omega
    generalize F.bl.length = L at *
    clear h hx hp hg hh hq hgx hpo hod hr hpv hn hgb hk hN hv hle hraw
    go_enter Try.func54, Try.ntmps54
    go_wp2_with fail
    refine (HI.out _ HH.out).mono ?_
    rintro e w1 ⟨rfl, rfl⟩
    go_wp2_with fail
    refine (HHas.out _ HH.out).mono ?_
    rintro e w1 ⟨rfl, rfl⟩
    go_wp2_with (at_make; refine Stop.mk ?_)
    refine Stop.go ?_
    refine wpList_make_u8 rfl _ _ 29 rfl w.heap.size 5 Try.underlying29 Try.infoU8 N rfl rfl (by omega) (Nat.le_refl _) ?_
    intro w2 hown2 hg2
    have HB2 : Hid (Below w.heap.size w w2) := Lib.hid ((Below.refl _ _).grown hg2 (Nat.le_refl _) (fun k hk => by simp at hk))
    rw [← ffTo_zero N] at hown2
    have HO2 := Lib.hid hown2
    obtain ⟨gn, hgn⟩ : ∃ gn, gn = w.heap.size := ⟨_, rfl⟩
    have HGn := Lib.hid hgn
    rw [← hgn] at HO2 HB2 ⊢
    clear hown2 hg2 hgn c0 c2 b0
    go_wp2_with fail
    go_loopw [9] (fun i wr => ∃ j : Nat, j ≤ N ∧ i = .int .i64 (j : Int) ∧ Hid (wr.ownsRow gn 5 1 (.slice (some ⟨gn, 0, none⟩) N N) N (u8s (ffTo N j))) ∧ Hid (Below gn w wr)) (fun i _ => N - (intOf i).toNat)
    case atStart => exact ⟨0, Nat.zero_le _, rfl, HO2, HB2⟩
    case round =>
      clear HO2 HB2
      obtain ⟨j, hj, rfl, HO, HB⟩ := hrel
      obtain ⟨wo, rfl⟩ : ∃ wo : World, wo = wr := ⟨_, rfl⟩
      by_cases hjl : j < N
      · have hjl' : (j : Int) < (N : Int) := by omega
        have hj0 : (0 : Int) ≤ (j : Int) ∧ (j : Int) < (N : Int) := by omega
        have hst := (HO.out.stored j (.int .u8 ((255 : Nat) : Int))).1
        rw [u8s_set, ffTo_set N j hjl] at hst
        have hck : wo.cell? ⟨gn, j, none⟩ = some (.int .u8 (((ffTo N j).getD j 0 : Nat) : Int)) := by
          rw [HO.out.cellAt j (by omega)]
          have : j < (ffTo N j).length := by rw [ffTo_len N j hj]; exact hjl
          simp [u8s, List.getD, this]
        have hfr := HO.out.frozenAt j
        have HO3 : Hid ((wo.setCell ⟨gn, j, none⟩ (.int .u8 255)).ownsRow gn 5 1 (.slice (some ⟨gn, 0, none⟩) N N) N (u8s (ffTo N (j + 1)))) := Lib.hid hst
        have HB3 : Hid (Below gn w (wo.setCell ⟨gn, j, none⟩ (.int .u8 255))) := Lib.hid (HB.out.setCell (p := ⟨gn, j, none⟩) (Nat.le_refl _) _)
        generalize (ffTo N j).getD j 0 = old at hck
        clear hst
        go_wp2_with fail
        go_roundw
        case rel => exact ⟨j + 1, by omega, by simp, HO3, HB3⟩
        case measure => simp [intOf]; omega
      · obtain rfl : j = N := by omega
        have hfin := HO.out
        rw [ffTo_all] at hfin
        have HFin := Lib.hid hfin
        clear hfin HO
        go_wp2_with fail
        rw [HPOST.out]
        unfold PageV
        rw [HRaw.out, ← HGn.out, ← HN.out]
        exact ⟨⟨_, _, rfl, bytes_of_own HFin.out (fun c hc => by have := List.eq_of_mem_replicate hc; omega), fun ad e => by cases e; exact own_has HFin.out⟩, HB.out⟩

theorem RefX.readF {w : World} (h : RefX M S w g F noEx) : RefX M S (w.setCell ⟨g, 7, none⟩ (.int .i64 (IntKind.i64.wrap (F.rd + 1)))) g F.readF noEx := h.setOwn 7 _ (by simp [NF.rcells, NF.readF]) rfl
/-- What Read gives. -/
def RReadV (S : Zone) (w : World) (g : Nat) (l : List Nat) (er : Int) (F : NF) (e : Ending) (w' : World) : Prop :=
  (∃ a cap, e = .returned (.tuple #[.slice a l.length cap, .int .i64 er]) ∧ Bytes w' a l.length l) ∧ RefG S w' g F ∧ Fr S w w'
set_option maxRecDepth 100000 in
theorem rread_ok (n p : Nat) (x : NB) (l : List Nat) (w : World) (h : RefX M S w g F noEx) (hl : S.lives w) (hx : F.bl[n]? = some x) (hp : x.pages[p]? = some l) (hg : F.Good) (he : F.readE x p = 0) : Calls Try.prog 43 #[.pointer (some ⟨g, 0, none⟩), .int .i64 (n : Int), .int .i64 (p : Int)] w (RReadV S w g (F.raw l) 0 F.readF) := by
  obtain ⟨POST, hPOST⟩ : ∃ Q, Q = RReadV S w g (F.raw l) 0 F.readF := ⟨_, rfl⟩
  rw [← hPOST]
  have HPOST := Lib.hid hPOST
  clear hPOST
  have hoff : F.off = false := by unfold NF.readE at he; cases h : F.off <;> simp [h] at he ⊢
  have hhas : F.has x p = true := by unfold NF.readE at he; cases h : F.has x p <;> simp [h, hoff] at he ⊢
  have hhalf : x.half = false := by unfold NF.readE at he; cases h : x.half <;> simp [h, hoff, hhas] at he ⊢
  have HP := Lib.hid (rpage_yes n p x l w h hx hp hg hhas)
  obtain ⟨-, -, -, c3, -⟩ := h.gcells
  rw [hoff] at c3
  have hlen := NF.raw_len ((hg.at' hx).pg l (List.mem_of_getElem? hp))
  have hn := lt_of_get hx
  have hb0 : (0 : Int) ≤ (n : Int) ∧ (n : Int) < (F.bl.length : Int) := by omega
  have HST : Hid (∀ w2, RefX M S w2 g F noEx → w2.cell? ⟨g, 0, none⟩ = some (.slice (some ⟨M.gb, 0, none⟩) F.bl.length F.bl.length) ∧ w2.cell? ⟨M.gb, n * 4 + 2, none⟩ = some (.bool false) ∧ w2.cell? ⟨g, 7, none⟩ = some (.int .i64 F.rd) ∧ w2.frozen? ⟨g, 7, none⟩ = false) := Lib.hid (fun w2 h2 => by
    obtain ⟨d0, -, -, -, -, -, -, d7, -⟩ := h2.gcells
    obtain ⟨-, -, b2, -⟩ := h2.bcells hx
    rw [hhalf] at b2
    rw [Nat.mul_comm n 4]
    exact ⟨d0, b2, d7, h2.gfree 7⟩)
  have HH := Lib.hid h
  have HL := Lib.hid hl
  have HG := Lib.hid hg
  have HLen := Lib.hid hlen
  obtain ⟨rd, hrd⟩ : ∃ rd, rd = F.rd := ⟨_, rfl⟩
  rw [← hrd] at HST
  obtain ⟨r2, hr2⟩ : ∃ r2, r2 = IntKind.i64.wrap (rd + 1) := ⟨_, rfl⟩
  have hs3 : wrap64 (rd + 1) = r2 := by rw [hr2, IntKind.wrap_i64]; unfold wrap64; omega
  have HSet : Hid (∀ w2, RefX M S w2 g F noEx → RefX M S (w2.setCell ⟨g, 7, none⟩ (.int .i64 r2)) g F.readF noEx) := Lib.hid (fun w2 h2 => by rw [hr2, hrd]; exact h2.readF)
  generalize F.bl.length = L at *
  generalize M.gb = gb at *
  clear h hl hx hp hg he hoff hhas hhalf hlen hn hrd hr2
  go_enter Try.func43, Try.ntmps43
  go_wp2_with fail
  refine HP.out.mono ?_
  rintro e w1 ⟨⟨a, cap, rfl, hby, hty⟩, hb1⟩
  have hX1 := HH.out.below hb1
  obtain ⟨d0, d2, d7, e7⟩ := HST.out w1 hX1
  have HX2 := Lib.hid (HSet.out w1 hX1)
  have HFr2 : Hid (Fr S w (w1.setCell ⟨g, 7, none⟩ (.int .i64 r2))) := Lib.hid ((Fr.below hb1).trans' (Fr.grown (gb_set (gb_refl _ _) _ _) HH.out.zone.1))
  have HBy : Hid (Bytes (w1.setCell ⟨g, 7, none⟩ (.int .i64 r2)) a (F.ch * 73) (F.raw l)) := Lib.hid (by
    refine ⟨hby.1, hby.2.1, fun h0 => ?_⟩
    obtain ⟨b, off, e, hlt, hc⟩ := hby.2.2 h0
    refine ⟨b, off, e, by simpa using hlt, fun i hi => ?_⟩
    have hci := hc i hi
    obtain ⟨C, hC⟩ := hty _ e
    have hne : b ≠ g := hasB_ne hC hX1.own (by decide)
    rw [World.cell?_setCell_other (h := by intro e; simp at e)]
    exact hci)
  clear hby hb1 hX1 hty
  go_wp2_with fail
  rw [HPOST.out]
  refine ⟨⟨a, cap, by rw [HLen.out]; rfl, by rw [HLen.out]; exact HBy.out⟩, ⟨⟨M, HX2.out⟩, fun k hk => Nat.lt_of_lt_of_le (HL.out k hk) HFr2.out.size, HG.out.readF⟩, HFr2.out⟩
theorem rread_err (n : Nat) (p : Int) (x : NB) (w : World) (h : RefX M S w g F noEx) (hl : S.lives w) (hx : F.bl[n]? = some x) (hg : F.Good) (he : F.readE x p ≠ 0) : Calls Try.prog 43 #[.pointer (some ⟨g, 0, none⟩), .int .i64 (n : Int), .int .i64 p] w (RReadV S w g [] (F.readE x p) F) := by
  obtain ⟨POST, hPOST⟩ : ∃ Q, Q = RReadV S w g [] (F.readE x p) F := ⟨_, rfl⟩
  rw [← hPOST]
  have HPOST := Lib.hid hPOST
  clear hPOST
  have hnil : ∀ w, Bytes w none 0 [] := fun w => ⟨rfl, by simp, fun h => by omega⟩
  have HNil := Lib.hid hnil
  have HG := Lib.hid hg
  have HL := Lib.hid hl
  obtain ⟨c0, -, -, c3, -⟩ := h.gcells
  have hn := lt_of_get hx
  have hb0 : (0 : Int) ≤ (n : Int) ∧ (n : Int) < (F.bl.length : Int) := by omega
  have hE : F.readE x p = if F.off then 4 else if !F.has x p then 1 else if x.half then 8 else 0 := rfl
  cases hoff : F.off with
  | true =>
    rw [hoff] at c3
    have hE4 : F.readE x p = 4 := by rw [hE, hoff]; rfl
    have HE4 := Lib.hid hE4
    have HH := Lib.hid h
    clear h hx hg hl hE he hoff hnil hn hE4
    go_enter Try.func43, Try.ntmps43
    go_wp2_with fail
    rw [HPOST.out, HE4.out]
    exact ⟨⟨none, 0, rfl, HNil.out _⟩, ⟨⟨M, HH.out⟩, HL.out, HG.out⟩, Fr.refl _ _⟩
  | false =>
    rw [hoff] at c3
    cases hh : F.has x p with
    | false =>
      have hE4 : F.readE x p = 1 := by rw [hE, hoff, hh]; rfl
      have HE4 := Lib.hid hE4
      have HP := Lib.hid (rpage_no n p x w h hx hg hh)
      have HH := Lib.hid h
      clear h hx hg hl hE he hoff hnil hn hE4 hh
      go_enter Try.func43, Try.ntmps43
      go_wp2_with fail
      refine HP.out.mono ?_
      rintro e w1 ⟨rfl, rfl⟩
      go_wp2_with fail
      rw [HPOST.out, HE4.out]
      exact ⟨⟨none, 0, rfl, HNil.out _⟩, ⟨⟨M, HH.out⟩, HL.out, HG.out⟩, Fr.refl _ _⟩
    | true =>
      have hhalf : x.half = true := by
        rw [hE, hoff, hh] at he
        cases q : x.half
        · rw [q] at he; simp at he
        · rfl
      have hE4 : F.readE x p = 8 := by rw [hE, hoff, hh, hhalf]; rfl
      have HE4 := Lib.hid hE4
      have hq := NF.has_iff.1 hh
      obtain ⟨p, rfl⟩ : ∃ q : Nat, p = q := ⟨p.toNat, by omega⟩
      have hgx := hg.at' hx
      have hpn : p < x.pages.length := by rw [hgx.pl]; have := F.many_le x; omega
      have HP := Lib.hid (rpage_yes n p x _ w h hx (List.getElem?_eq_getElem hpn) hg hh)
      have HST : Hid (∀ w2, RefX M S w2 g F noEx → w2.cell? ⟨g, 0, none⟩ = some (.slice (some ⟨M.gb, 0, none⟩) F.bl.length F.bl.length) ∧ w2.cell? ⟨M.gb, n * 4 + 2, none⟩ = some (.bool true)) := Lib.hid (fun w2 h2 => by
        obtain ⟨d0, -⟩ := h2.gcells
        obtain ⟨-, -, b2, -⟩ := h2.bcells hx
        rw [hhalf] at b2
        rw [Nat.mul_comm n 4]
        exact ⟨d0, b2⟩)
      have HH := Lib.hid h
      generalize F.bl.length = L at *
      clear h hx hg hl hE he hoff hnil hn hE4 hh hq hgx hhalf
      go_enter Try.func43, Try.ntmps43
      go_wp2_with fail
      refine HP.out.mono ?_
      rintro e w1 ⟨⟨a, cap, rfl, hby, hty⟩, hb1⟩
      have HX1 := Lib.hid (HH.out.below hb1)
      obtain ⟨d0, d2⟩ := HST.out w1 HX1.out
      have HFr1 : Hid (Fr S w w1) := Lib.hid (Fr.below hb1)
      clear hby hty hb1
      go_wp2_with fail
      rw [HPOST.out, HE4.out]
      exact ⟨⟨none, 0, rfl, HNil.out _⟩, ⟨⟨M, HX1.out⟩, fun k hk => Nat.lt_of_lt_of_le (HL.out k hk) HFr1.out.size, HG.out⟩, HFr1.out⟩
theorem rread_out (n p : Int) (w : World) (h : RefX M S w g F noEx) (hl : S.lives w) (hg : F.Good) (hn : n < 0 ∨ (F.bl.length : Int) ≤ n) : Calls Try.prog 43 #[.pointer (some ⟨g, 0, none⟩), .int .i64 n, .int .i64 p] w (RReadV S w g [] (if F.off then 4 else 1) F) := by
  obtain ⟨POST, hPOST⟩ : ∃ Q, Q = RReadV S w g [] (if F.off then 4 else 1) F := ⟨_, rfl⟩
  rw [← hPOST]
  have HPOST := Lib.hid hPOST
  clear hPOST
  have hnil : ∀ w, Bytes w none 0 [] := fun w => ⟨rfl, by simp, fun h => by omega⟩
  have HNil := Lib.hid hnil
  have HG := Lib.hid hg
  have HL := Lib.hid hl
  have HP := Lib.hid (rpage_out n p w h hn)
  have HH := Lib.hid h
  obtain ⟨c0, -, -, c3, -⟩ := h.gcells
  cases hoff : F.off with
  | true =>
    rw [hoff] at c3
    have HOff := Lib.hid hoff
    clear h hg hl hoff hnil hn
    go_enter Try.func43, Try.ntmps43
    go_wp2_with fail
    rw [HPOST.out, HOff.out]
    exact ⟨⟨none, 0, rfl, HNil.out _⟩, ⟨⟨M, HH.out⟩, HL.out, HG.out⟩, Fr.refl _ _⟩
  | false =>
    rw [hoff] at c3
    have HOff := Lib.hid hoff
    clear h hg hl hoff hnil hn
    go_enter Try.func43, Try.ntmps43
    go_wp2_with fail
    refine HP.out.mono ?_
    rintro e w1 ⟨rfl, rfl⟩
    go_wp2_with fail
    rw [HPOST.out, HOff.out]
    exact ⟨⟨none, 0, rfl, HNil.out _⟩, ⟨⟨M, HH.out⟩, HL.out, HG.out⟩, Fr.refl _ _⟩
end
end Go.Proofs.Ytbbhniohliklhaa
