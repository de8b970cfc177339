/- nand: Flip, Count, Shape. -/
import Derived.Test.YtbbhniohliklhaaNandK
import Derived.Laws.BitsAllLaws
namespace Go.Proofs.Ytbbhniohliklhaa
open Go Go.RowKit
set_option linter.unusedVariables false

/-- A page's bytes, one bit turned. -/
def flipL (l : List Nat) (k : Nat) : List Nat := l.set (k / 8) (l.getD (k / 8) 0 ^^^ 2 ^ (k % 8))
theorem flipL_len (l : List Nat) (k : Nat) : (flipL l k).length = l.length := by simp [flipL]
theorem flipL_lt {l : List Nat} (h : ∀ c ∈ l, c < 256) (k : Nat) : ∀ c ∈ flipL l k, c < 256 := by
  intro c hc
  unfold flipL at hc
  rcases List.mem_or_eq_of_mem_set hc with q | q
  · exact h c q
  · rw [q]
    have h1 : l.getD (k / 8) 0 < 256 := by
      rcases Nat.lt_or_ge (k / 8) l.length with q2 | q2
      · simp [List.getD, q2]; exact h _ (List.getElem_mem _)
      · simp [List.getD, List.getElem?_eq_none q2]
    exact Nat.xor_lt_two_pow (n := 8) h1 (Nat.pow_lt_pow_right (by omega) (Nat.mod_lt _ (by omega)))
def NF.flipB (F : NF) (x : NB) (p k : Int) : Bool := F.has x p && !x.half && decide (p < x.next) && decide (0 ≤ k) && decide (k < ((F.ch * 73 * 8 : Nat) : Int))
def NF.flipF (F : NF) (n p : Nat) (x : NB) (l : List Nat) (k : Nat) : NF := F.setB n { x with pages := x.pages.set p (flipL (F.raw l) k) }
theorem exOne (n p : Nat) : (fun i j => noEx i j || (i == n && j == p)) = exK n p 1 := by funext i j; simp [exK, noEx]

theorem own_zero {w : World} {base : Nat} {e : TypeId} {v : Value} {n : Nat} {xs : List Value} (h : w.ownsRow base e 1 v n xs) : w.ownsRow 0 e 1 v n xs := by
  refine ⟨h.1, h.2.imp id ?_⟩
  rintro ⟨g, cap, cur, e1, _, r⟩
  exact ⟨g, cap, cur, e1, Nat.zero_le _, r⟩
set_option maxRecDepth 100000 in
set_option maxHeartbeats 4000000 in
theorem nflip_ok {M : NMem} {S : Zone} {g : Nat} {F : NF} (n p k : Nat) (x : NB) (l : List Nat) (w : World) (h : FlashX M S w g F noEx) (hl : S.lives w) (hx : F.bl[n]? = some x) (hp : x.pages[p]? = some l) (hok : F.Ok) (he : F.flipB x p k = true) :
    Calls Try.prog 23 #[.pointer (some ⟨g, 0, none⟩), .int .i64 (n : Int), .int .i64 (p : Int), .int .i64 (k : Int)] w fun e w' => e = .returned (.bool true) ∧ FlashAt (S.grow w w') w' g (F.flipF n p x l k) ∧ Fr S w w' := by
  obtain ⟨POST, hPOST⟩ : ∃ Q : Ending → World → Prop, Q = fun e w' => e = .returned (.bool true) ∧ FlashAt (S.grow w w') w' g (F.flipF n p x l k) ∧ Fr S w w' := ⟨_, rfl⟩
  rw [← hPOST]
  have HPOST := Lib.hid hPOST
  clear hPOST
  unfold NF.flipB at he
  simp only [Bool.and_eq_true, decide_eq_true_eq, Bool.not_eq_true'] at he
  obtain ⟨⟨⟨⟨hhas, hhalf⟩, hpn⟩, hk0⟩, hk1⟩ := he
  obtain ⟨-, -, -, -, -, c5, -⟩ := h.gcells
  obtain ⟨b0, b1, b2, -⟩ := h.bcells hx
  rw [hhalf] at b2
  have HBk := Lib.hid (fun w (h : FlashX M S w g F noEx) => nblk_in n w h (lt_of_get hx) hok.nb)
  have HPg := Lib.hid (fun w (h : FlashX M S w g F noEx) => by have := npage_any n x p w h hx hok.np; rwa [hhas] at this)
  have hraw := nraw_any n p x l _ h hx hp rfl (hok.pgAt hx hp) hok.c1 hok.c8
  have HRL := Lib.hid (NF.raw_len (hok.pgAt hx hp))
  have HRl := Lib.hid (NF.raw_lt (hok.pgAt hx hp))
  have HH := Lib.hid h
  have HL := Lib.hid hl
  have HX := Lib.hid hx
  have HPp := Lib.hid hp
  have hc1 := hok.c1
  have hc8 := hok.c8
  have hplen : p < F.np := by
    have := (h.pgs n x hx).1
    have := lt_of_get hp
    omega
  have hnp := hok.np
  obtain ⟨N, hN⟩ : ∃ N, N = F.ch * 73 := ⟨_, rfl⟩
  have i1 : (8 : Int) * (F.ch : Int) * 73 = (N : Int) * 8 := by omega
  have HN := Lib.hid hN
  have hkN : k < N * 8 := by omega
  have hN2 : N ≤ 584 := by omega
  have hN1 : 73 ≤ N := by omega
  rw [← hN] at hraw HRL
  obtain ⟨gl, hgl⟩ : ∃ gl, gl = M.gl := ⟨_, rfl⟩
  obtain ⟨q, hq⟩ : ∃ q, q = 5 * n := ⟨_, rfl⟩
  obtain ⟨pgn, hpgn⟩ : ∃ pgn, pgn = M.pg n := ⟨_, rfl⟩
  rw [← hq, ← hgl] at HBk HPg hraw b0 b1 b2
  rw [← hpgn] at b0
  have HRaw := Lib.hid hraw
  have HGl := Lib.hid hgl
  have HQ := Lib.hid hq
  have HPn := Lib.hid hpgn
  generalize x.next = nx at b1 hpn
  clear h hl hx hp hok hhas hhalf hraw hgl hq hpgn hN hk1
  generalize F.ch = ch at *
  obtain ⟨np, hnp2⟩ : ∃ np, np = F.np := ⟨_, rfl⟩
  rw [← hnp2] at b0 hplen hnp
  have HNp := Lib.hid hnp2
  clear hnp2
  have t1 : (0 : Int) ≤ (p : Int) ∧ (p : Int) < (np : Int) := by omega
  have t2 : ¬ ((p : Int) ≥ nx) := by omega
  have t3 : ¬ ((k : Int) < 0) := by omega
  have t4 : ¬ ((k : Int) ≥ (N : Int) * 8) := by omega
  go_enter Try.func23, Try.ntmps23
  go_wp2_with fail
  refine (HBk.out _ HH.out).mono ?_
  rintro e w1 ⟨rfl, rfl⟩
  go_wp2_with fail
  refine (HPg.out _ HH.out).mono ?_
  rintro e w1 ⟨rfl, rfl⟩
  go_wp2_with fail
  refine HRaw.out.mono ?_
  rintro e w1 ⟨⟨v, rfl, hown⟩, hb1⟩
  obtain ⟨gb, cap, tail, rfl, hrow, ht1, ht2, ht3, ht4⟩ := own_tail hown (by omega)
  obtain ⟨old, hold⟩ : ∃ old, old = F.raw l := ⟨_, rfl⟩
  rw [← hold] at HRL HRl hown
  have HOld := Lib.hid hold
  clear hold hrow
  obtain ⟨Q, hQ⟩ : ∃ Q, Q = k / 8 := ⟨_, rfl⟩
  obtain ⟨r, hr⟩ : ∃ r, r = k % 8 := ⟨_, rfl⟩
  have hQN : Q < N := by omega
  have hcell : w1.drew.cell? ⟨gb, Q, none⟩ = some (.int .u8 ((old.getD Q 0 : Nat) : Int)) := by
    have hol : Q < old.length := by rw [HRL.out]; exact hQN
    refine (hown.cellAt Q (by omega)).trans ?_
    simp [u8s, List.getD, hol]
  have hfr : w1.drew.frozen? ⟨gb, Q, none⟩ = false := hown.frozenAt Q
  obtain ⟨V, hV⟩ : ∃ V, V = old.getD Q 0 := ⟨_, rfl⟩
  have hV8 : V < 256 := by
    rw [hV]
    have hol : Q < old.length := by rw [HRL.out]; exact hQN
    simp [List.getD, hol]; exact HRl.out _ (List.getElem_mem _)
  have hr8 : r < 8 := by omega
  have hpw : 2 ^ r < 256 := Nat.pow_lt_pow_right (show 1 < 2 by omega) (show r < 8 by omega)
  have hX : bits .xor .u8 (V : Int) ((2 ^ r : Nat) : Int) = ((V ^^^ 2 ^ r : Nat) : Int) := u8_xor_nat _ _ hV8 hpw
  obtain ⟨Y, hY⟩ : ∃ Y, Y = V ^^^ 2 ^ r := ⟨_, rfl⟩
  obtain ⟨R, hR⟩ : ∃ R, R = 2 ^ r := ⟨_, rfl⟩
  have hR2 : (2 : Int) ^ r % 256 = (R : Int) := by
    rw [show (2 : Int) ^ r = ((2 ^ r : Nat) : Int) by simp, ← hR]; rw [← hR] at hpw; omega
  have hW : IntKind.u8.wrap ((2 : Int) ^ r) = (R : Int) := by rw [IntKind.wrap_u8]; exact hR2
  rw [← hY, ← hR] at hX
  rw [← hV] at hcell
  have hst := (hown.stored Q (.int .u8 (Y : Int))).1.drew
  rw [u8s_set] at hst
  have hfl : old.set Q Y = flipL (F.raw l) k := by unfold flipL; rw [hY, hV, hQ, hr, HOld.out]
  rw [hfl] at hst
  have HSt : Hid ((w1.setCell ⟨gb, Q, none⟩ (.int .u8 (Y : Int))).drew.ownsRow w.heap.size 5 1 (.slice (some ⟨gb, 0, none⟩) N cap) N (u8s (flipL (F.raw l) k))) := Lib.hid hst
  have HB1 := Lib.hid hb1
  have t5 : (k : Int) / 8 = (Q : Int) := by omega
  have t6 : (k : Int) % 8 = (r : Int) := by omega
  have iw : IntKind.i64.wrap (Q : Int) = (Q : Int) := wr64' _ (by omega) (by omega)
  have tm : (k : Int).tmod 8 = (r : Int) := by rw [Int.tmod_eq_emod_of_nonneg (by omega)]; exact t6
  have tn : min r 8 = r := by omega
  have t7 : (0 : Int) ≤ (Q : Int) ∧ (Q : Int) < (N : Int) := by omega
  clear hfl hst hV hY hR hQ hr hpw hown hb1 ht1 ht3 b0 b1 b2 c5
  go_wp2_with fail
  refine wp_region_held_drew (S := (fun _ => True)) (by kernel_rfl) (trivial) (fun hHeld => ?_)
  refine held_take 0 (v := ?_) rfl (by kernel_rfl) (by kernel_rfl) (by kernel_rfl) (fun _ _ _ h => h) (by rfl) (fun w hS => ?_) (by assumption) ?_
  rotate_left
  · try dsimp only at hS
    go_simp <;> with_reducible rfl
  try simp only [Act.put, List.setIfInBounds_toArray, List.set_cons_zero, List.set_cons_succ]
  refine held_take 1 (v := ?_) rfl (by kernel_rfl) (by kernel_rfl) (by kernel_rfl) (fun _ _ _ h => h) (by rfl) (fun w hS => ?_) (by assumption) ?_
  rotate_left
  · try dsimp only at hS
    go_simp <;> with_reducible rfl
  try simp only [Act.put, List.setIfInBounds_toArray, List.set_cons_zero, List.set_cons_succ]
  refine held_take 2 (v := ?_) rfl (by kernel_rfl) (by kernel_rfl) (by kernel_rfl) (fun _ _ _ h => h) (by rfl) (fun w hS => ?_) (by assumption) ?_
  rotate_left
  · try dsimp only at hS
    go_simp <;> with_reducible rfl
  try simp only [Act.put, List.setIfInBounds_toArray, List.set_cons_zero, List.set_cons_succ]
  refine held_take 3 (v := ?_) rfl (by kernel_rfl) (by kernel_rfl) (by kernel_rfl) (fun _ _ _ h => h) (by rfl) (fun w hS => ?_) (by assumption) ?_
  rotate_left
  · try dsimp only at hS
    go_simp <;> with_reducible rfl
  try simp only [Act.put, List.setIfInBounds_toArray, List.set_cons_zero, List.set_cons_succ]
  refine held_take 5 (v := ?_) rfl (by kernel_rfl) (by kernel_rfl) (by kernel_rfl) (fun _ _ _ h => h) (by rfl) (fun w hS => ?_) (by assumption) ?_
  rotate_left
  · try dsimp only at hS
    go_simp <;> with_reducible rfl
  try simp only [Act.put, List.setIfInBounds_toArray, List.set_cons_zero, List.set_cons_succ]
  refine held_take 6 (v := ?_) rfl (by kernel_rfl) (by kernel_rfl) (by kernel_rfl) (fun _ _ _ h => h) (by rfl) (fun w hS => ?_) (by assumption) ?_
  rotate_left
  · try dsimp only at hS
    go_simp <;> with_reducible rfl
  try simp only [Act.put, List.setIfInBounds_toArray, List.set_cons_zero, List.set_cons_succ]
  refine held_take 7 (v := ?_) rfl (by kernel_rfl) (by kernel_rfl) (by kernel_rfl) (fun _ _ _ h => h) (by rfl) (fun w hS => ?_) (by assumption) ?_
  rotate_left
  · try dsimp only at hS
    go_simp <;> with_reducible rfl
  try simp only [Act.put, List.setIfInBounds_toArray, List.set_cons_zero, List.set_cons_succ]
  refine held_one 4 rfl (by kernel_rfl) (fun K hK => ?_)
  go_simp
  refine hK.out _ _ (fun _ => True) (fun _ h => h) trivial (fun hHeld => ?_)
  clear hK K
  try simp only [Act.put, List.setIfInBounds_toArray, List.set_cons_zero, List.set_cons_succ]
  refine held_take 8 (v := ?_) rfl (by kernel_rfl) (by kernel_rfl) (by kernel_rfl) (fun _ _ _ h => h) (by rfl) (fun w hS => ?_) (by assumption) ?_
  rotate_left
  · try dsimp only at hS
    go_simp <;> with_reducible rfl
  try simp only [Act.put, List.setIfInBounds_toArray, List.set_cons_zero, List.set_cons_succ]
  refine held_take 9 (v := ?_) rfl (by kernel_rfl) (by kernel_rfl) (by kernel_rfl) (fun _ _ _ h => h) (by rfl) (fun w hS => ?_) (by assumption) ?_
  rotate_left
  · try dsimp only at hS
    go_simp <;> with_reducible rfl
  try simp only [Act.put, List.setIfInBounds_toArray, List.set_cons_zero, List.set_cons_succ]
  refine held_one 10 rfl (by kernel_rfl) (fun K hK => ?_)
  go_simp
  refine hK.out _ _ (fun _ => True) (fun _ h => h) trivial (fun hHeld => ?_)
  clear hK K
  try simp only [Act.put, List.setIfInBounds_toArray, List.set_cons_zero, List.set_cons_succ]
  refine held_done (by kernel_rfl) ?_
  obtain ⟨w2, hw2⟩ : ∃ w2, w2 = (w1.setCell ⟨gb, Q, none⟩ (.int .u8 (Y : Int))).drew := ⟨_, rfl⟩
  rw [← hw2] at HSt ⊢
  have hbb : Below gb w1 w2 := by rw [hw2]; exact ((Below.refl gb w1).setCell (Nat.le_refl _) _).drew
  have HFr2 : Hid (Fr S w w2) := Lib.hid ((Fr.below HB1.out).belowB (B := gb) hbb ht4)
  have hf2 : FlashX M S w2 g F noEx := (HH.out.below HB1.out).same (SameOn.belowB hbb (fun j hj => Nat.lt_of_lt_of_le (HL.out j hj) ht4))
  obtain ⟨b0, -⟩ := hf2.bcells HX.out
  have p0 := hf2.pcell HX.out HPp.out
  have f0 := hf2.pfree HX.out p
  have hput := hf2.setPg n p x HX.out (by rw [← HNp.out]; exact hplen) (.slice (some ⟨gb, 0, none⟩) N cap) (flipL (F.raw l) k)
  rw [exOne] at hput
  obtain ⟨_, D, hD, -⟩ := hf2.pgs n _ HX.out
  have hset := HSt.out.kept (gb_set (gb_refl w2 (some (M.pg n))) p (.slice (some ⟨gb, 0, none⟩) N cap)) (.inr (fun e => by
    simp [Value.ownBlock] at e
    obtain ⟨g', cap', cur, e1, e2⟩ : ∃ g' cap' cur, Value.slice (some ⟨gb, 0, none⟩) N cap = .slice (some ⟨g', 0, none⟩) N cap' ∧ w2.heap[g']? = some (.cells cur 5 (0, 0)) := by
      rcases HSt.out.2 with ⟨q, _⟩ | ⟨g', cap', cur, q1, _, q2, _⟩
      · cases q
      · exact ⟨g', cap', cur, q1, q2⟩
    cases e1
    exact hasB_ne (show HasB w2 gb cur 5 from e2) hD (by decide) e))
  have hfr3 : Fr S w (w2.setCell ⟨M.pg n, p, none⟩ (.slice (some ⟨gb, 0, none⟩) N cap)) := HFr2.out.trans' (hf2.frPg HX.out (gb_set (gb_refl _ _) _ _))
  have hend : FlashAt (S.grow w (w2.setCell ⟨M.pg n, p, none⟩ (.slice (some ⟨gb, 0, none⟩) N cap))) (w2.setCell ⟨M.pg n, p, none⟩ (.slice (some ⟨gb, 0, none⟩) N cap)) g (F.flipF n p x l k) := by
    refine ⟨⟨_, FlashX.close hput (Zone.le_grow _ _ _) fun _ y l' hy hl' => ?_⟩, HL.out.grow hfr3.size⟩
    have hy2 := setB_at (F := F) (y := { x with pages := x.pages.set p (flipL (F.raw l) k) }) HX.out
    have : some y = some { x with pages := x.pages.set p (flipL (F.raw l) k) } := hy.symm.trans hy2
    obtain rfl := Option.some.inj this
    have hpl2 : p < x.pages.length := lt_of_get HPp.out
    dsimp only at hl'
    rw [List.getElem?_set_self hpl2] at hl'
    obtain rfl := Option.some.inj hl'
    have hlen : (flipL (F.raw l) k).length = N := by rw [flipL_len, ← HOld.out, HRL.out]
    refine .inr ⟨by omega, ?_, fun j hj => ?_⟩
    · dsimp only
      rw [if_pos ⟨rfl, rfl⟩, hlen]
      exact own_zero hset
    · simp [Value.ownBlock] at hj
      subst hj
      have := hset.lt gb rfl
      exact .inr ⟨ht4, this.2⟩
  rw [← HPn.out] at p0 f0 hend hfr3 b0
  rw [← HQ.out, ← HGl.out, ← HNp.out] at b0
  have HEnd := Lib.hid hend
  have HFr3 := Lib.hid hfr3
  have t8 : (0 : Int) ≤ (p : Int) ∧ (p : Int) < (np : Int) := by omega
  clear hw2 hbb hf2 hput hD hset hfr3 hend hcell hfr hX hR2 t5 t6 t7 iw tm tn
  go_wp2_with fail
  rw [HPOST.out]
  exact ⟨rfl, HEnd.out, HFr3.out⟩
end Go.Proofs.Ytbbhniohliklhaa
