/- nand: the reference's flash in memory. -/
import Derived.Test.YtbbhniohliklhaaNandU
import Derived.Test.YtbbhniohliklhaaAppW
namespace Go.Proofs.Ytbbhniohliklhaa
open Go Go.RowKit
set_option linter.unusedVariables false

structure RMem where
  gb : Nat
  vl : Nat → Value
  vs : Nat → Nat → Value
def NB.rcell (x : NB) : Nat → Value
  | 1 => .bool x.one
  | 2 => .bool x.half
  | _ => .bool x.failed
def NF.rcells (F : NF) (gb : Nat) : Array Value := #[.slice (some ⟨gb, 0, none⟩) F.bl.length F.bl.length, .int .i64 (F.np : Int), .int .i64 (F.ch : Int), .bool F.off, .int .i64 F.armed, .int .i64 F.st, .int .i64 F.pr, .int .i64 F.rd, .int .i64 F.er]
/-- The values of a block's pages. -/
def RMem.row (M : RMem) (i n : Nat) : List Value := (List.range n).map (M.vs i)
theorem RMem.row_len (M : RMem) (i n : Nat) : (M.row i n).length = n := by simp [RMem.row]
theorem RMem.row_at (M : RMem) (i n j : Nat) (h : j < n) : (M.row i n)[j]? = some (M.vs i j) := by simp [RMem.row, h]

/-- The reference's flash in memory, in the zone S; of the pages that ex names nothing is said. -/
structure RefX (M : RMem) (S : Zone) (w : World) (g : Nat) (F : NF) (ex : Nat → Nat → Bool) : Prop where
  own : HasB w g (F.rcells M.gb) 77
  blk : ∃ C, HasB w M.gb C 86 ∧ C.size = 4 * F.bl.length ∧ ∀ i x, F.bl[i]? = some x → C[4 * i]? = some (M.vl i) ∧ ∀ k, 1 ≤ k → k < 4 → C[4 * i + k]? = some (x.rcell k)
  rows : ∀ i x, F.bl[i]? = some x → w.ownsRow 0 29 1 (M.vl i) x.next.toNat (M.row i x.next.toNat) ∧ (∀ k, (M.vl i).ownBlock = some k → S k) ∧ ∀ j l, j < x.next.toNat → x.pages[j]? = some l → ex i j = false → PgV S w (M.vs i j) l
  apart : ∀ i j k, i < F.bl.length → j < F.bl.length → (M.vl i).ownBlock = some k → (M.vl j).ownBlock = some k → i = j
  zone : S g ∧ S M.gb
/-- In a zone all of which lies there; good. -/
def RefG (S : Zone) (w : World) (g : Nat) (F : NF) : Prop := (∃ M, RefX M S w g F noEx) ∧ S.lives w ∧ F.Good

section
variable {M : RMem} {S : Zone} {w w' : World} {g : Nat} {F : NF} {ex : Nat → Nat → Bool}
theorem RefX.same (h : RefX M S w g F ex) (hs : SameOn S w w') : RefX M S w' g F ex := by
  refine ⟨h.own.same hs h.zone.1, ?_, fun i x hx => ?_, h.apart, h.zone⟩
  · obtain ⟨C, h1, h2, h3⟩ := h.blk
    exact ⟨C, h1.same hs h.zone.2, h2, h3⟩
  · obtain ⟨h1, h2, h3⟩ := h.rows i x hx
    exact ⟨own_same h1 hs h2, h2, fun j l hj hl he => (h3 j l hj hl he).same hs⟩
theorem RefX.below (h : RefX M S w g F ex) (hb : Below w.heap.size w w') : RefX M S w' g F ex := h.same (SameOn.below hb)
theorem RefX.mono {S' : Zone} (h : RefX M S w g F ex) (hS : S.le S') : RefX M S' w g F ex :=
  ⟨h.own, h.blk, fun i x hx => by
    obtain ⟨h1, h2, h3⟩ := h.rows i x hx
    exact ⟨h1, fun k hk => hS k (h2 k hk), fun j l hj hl he => (h3 j l hj hl he).mono hS⟩, h.apart, ⟨hS _ h.zone.1, hS _ h.zone.2⟩⟩
theorem RefX.gcells (h : RefX M S w g F ex) : w.cell? ⟨g, 0, none⟩ = some (.slice (some ⟨M.gb, 0, none⟩) F.bl.length F.bl.length) ∧ w.cell? ⟨g, 1, none⟩ = some (.int .i64 (F.np : Int)) ∧ w.cell? ⟨g, 2, none⟩ = some (.int .i64 (F.ch : Int)) ∧ w.cell? ⟨g, 3, none⟩ = some (.bool F.off) ∧ w.cell? ⟨g, 4, none⟩ = some (.int .i64 F.armed) ∧ w.cell? ⟨g, 5, none⟩ = some (.int .i64 F.st) ∧ w.cell? ⟨g, 6, none⟩ = some (.int .i64 F.pr) ∧ w.cell? ⟨g, 7, none⟩ = some (.int .i64 F.rd) ∧ w.cell? ⟨g, 8, none⟩ = some (.int .i64 F.er) := HasB.nine' h.own
theorem RefX.gfree (h : RefX M S w g F ex) (i : Nat) : w.frozen? ⟨g, i, none⟩ = false := h.own.free i
theorem RefX.bcells (h : RefX M S w g F ex) {n : Nat} {x : NB} (hx : F.bl[n]? = some x) : w.cell? ⟨M.gb, 4 * n, none⟩ = some (M.vl n) ∧ w.cell? ⟨M.gb, 4 * n + 1, none⟩ = some (.bool x.one) ∧ w.cell? ⟨M.gb, 4 * n + 2, none⟩ = some (.bool x.half) ∧ w.cell? ⟨M.gb, 4 * n + 3, none⟩ = some (.bool x.failed) := by
  obtain ⟨C, h1, _, h3⟩ := h.blk
  obtain ⟨e1, e2⟩ := h3 n x hx
  exact ⟨(h1.at _).trans e1, (h1.at _).trans (e2 1 (by omega) (by omega)), (h1.at _).trans (e2 2 (by omega) (by omega)), (h1.at _).trans (e2 3 (by omega) (by omega))⟩
theorem RefX.bfree (h : RefX M S w g F ex) (i : Nat) : w.frozen? ⟨M.gb, i, none⟩ = false := by
  obtain ⟨C, h1, _, _⟩ := h.blk
  exact h1.free i
end
/-- A row of another type stays. -/
theorem own_setT {w : World} {base : Nat} {e T : TypeId} {v : Value} {n : Nat} {xs : List Value} {g : Nat} {C : Array Value} (h : w.ownsRow base e 1 v n xs) (hp : HasB w g C T) (hT : T ≠ e) (k : Nat) (u : Value) : (w.setCell ⟨g, k, none⟩ u).ownsRow base e 1 v n xs := by
  refine ⟨h.1, ?_⟩
  rcases h.2 with q | ⟨g', cap, cur, e1, e2, hh, r⟩
  · exact .inl q
  · refine .inr ⟨g', cap, cur, e1, e2, ?_, r⟩
    have hne : g' ≠ g := by
      intro e
      subst e
      unfold HasB at hp
      rw [hp] at hh
      cases hh
      exact hT rfl
    exact (Below.heap_setCell w ⟨g, k, none⟩ u g' hne).trans hh
section
variable {M : RMem} {S : Zone} {w : World} {g : Nat} {F F' : NF} {ex : Nat → Nat → Bool}
theorem RefX.setOwn (h : RefX M S w g F ex) (k : Nat) (v : Value) (hc : (F.rcells M.gb).setIfInBounds k v = F'.rcells M.gb) (hbl : F'.bl = F.bl) : RefX M S (w.setCell ⟨g, k, none⟩ v) g F' ex := by
  refine ⟨by rw [← hc]; exact h.own.set k v, ?_, fun i x hx => ?_, by rw [hbl]; exact h.apart, h.zone⟩
  · obtain ⟨C, h1, h2, h3⟩ := h.blk
    refine ⟨C, h1.set_other (hasB_ne h1 h.own (by decide)) _, by rw [hbl]; exact h2, ?_⟩
    rw [hbl]; exact h3
  · rw [hbl] at hx
    obtain ⟨h1, h2, h3⟩ := h.rows i x hx
    exact ⟨own_setT h1 h.own (by decide) k v, h2, fun j l hj hl he => (h3 j l hj hl he).set (p := ⟨g, k, none⟩) h.own (by decide) v⟩
/-- A field of a block is set. -/
theorem RefX.setBlk (h : RefX M S w g F ex) (n : Nat) (x x' : NB) (hx : F.bl[n]? = some x) (k : Nat) (hk1 : 1 ≤ k) (hk4 : k < 4) (v : Value) (hp : x'.pages = x.pages) (hn' : x'.next = x.next) (hv : ∀ j, 1 ≤ j → j < 4 → x'.rcell j = if j = k then v else x.rcell j) :
    RefX M S (w.setCell ⟨M.gb, 4 * n + k, none⟩ v) g (F.setB n x') ex := by
  have hn : n < F.bl.length := lt_of_get hx
  have hget : ∀ i y, (F.setB n x').bl[i]? = some y → (i = n ∧ y = x') ∨ (i ≠ n ∧ F.bl[i]? = some y) := by
    intro i y hy
    simp only [NF.setB] at hy
    by_cases q : i = n
    · subst q
      rw [List.getElem?_set_self hn] at hy
      exact .inl ⟨rfl, (Option.some.inj hy).symm⟩
    · rw [List.getElem?_set_ne (by omega)] at hy
      exact .inr ⟨q, hy⟩
  obtain ⟨C, h1, h2, h3⟩ := h.blk
  refine ⟨?_, ?_, fun i y hy => ?_, ?_, h.zone⟩
  · have := h.own.set_other (p := ⟨M.gb, 4 * n + k, none⟩) (hasB_ne h.own h1 (by decide)) v
    simpa [NF.rcells, NF.setB] using this
  · refine ⟨C.setIfInBounds (4 * n + k) v, h1.set _ v, by simp [NF.setB, h2], fun i y hy => ?_⟩
    rcases hget i y hy with ⟨rfl, rfl⟩ | ⟨hne, hy'⟩
    · obtain ⟨e1, e2⟩ := h3 i x hx
      refine ⟨by rw [Array.getElem?_setIfInBounds, if_neg (by omega)]; exact e1, fun j hj1 hj5 => ?_⟩
      rw [Array.getElem?_setIfInBounds, hv j hj1 hj5]
      by_cases q : j = k
      · rw [if_pos (by omega), if_pos (by omega), if_pos q]
      · rw [if_neg (by omega), if_neg q]; exact e2 j hj1 hj5
    · obtain ⟨e1, e2⟩ := h3 i y hy'
      refine ⟨by rw [Array.getElem?_setIfInBounds, if_neg (by omega)]; exact e1, fun j hj1 hj5 => ?_⟩
      rw [Array.getElem?_setIfInBounds, if_neg (by omega)]
      exact e2 j hj1 hj5
  · have main : ∀ z, F.bl[i]? = some z → y.pages = z.pages → y.next = z.next → (w.setCell ⟨M.gb, 4 * n + k, none⟩ v).ownsRow 0 29 1 (M.vl i) y.next.toNat (M.row i y.next.toNat) ∧ (∀ k, (M.vl i).ownBlock = some k → S k) ∧ ∀ j l, j < y.next.toNat → y.pages[j]? = some l → ex i j = false → PgV S (w.setCell ⟨M.gb, 4 * n + k, none⟩ v) (M.vs i j) l := by
      intro z hz e1 e2
      obtain ⟨q1, q2, q3⟩ := h.rows i z hz
      rw [e1, e2]
      exact ⟨own_setT q1 h1 (by decide) _ v, q2, fun j l hj hl he => (q3 j l hj hl he).set (p := ⟨M.gb, 4 * n + k, none⟩) h1 (by decide) v⟩
    rcases hget i y hy with ⟨rfl, rfl⟩ | ⟨hne, hy'⟩
    · exact main x hx hp hn'
    · exact main y hy' rfl rfl
  · simp only [NF.setB, List.length_set]; exact h.apart
theorem RefX.frBlk {w' : World} (h : RefX M S w g F ex) (hg : w.grownBy w' (some M.gb)) : Fr S w w' := Fr.grown hg h.zone.2
theorem RefX.frOwn {w' : World} (h : RefX M S w g F ex) (hg : w.grownBy w' (some g)) : Fr S w w' := Fr.grown hg h.zone.1
end

/-! ### What tells alone -/
section
variable {M : RMem} {S : Zone} {g : Nat} {F : NF} {ex : Nat → Nat → Bool}
theorem ris_any (n : Int) (w : World) (h : RefX M S w g F ex) : Calls Try.prog 50 #[.pointer (some ⟨g, 0, none⟩), .int .i64 n] w fun e w' => e = .returned (.bool (decide (0 ≤ n) && decide (n < (F.bl.length : Int)))) ∧ w = w' := by
  obtain ⟨c0, -⟩ := h.gcells
  generalize F.bl.length = L at *
  clear h
  by_cases t1 : 0 ≤ n
  · go_enter Try.func50, Try.ntmps50
    go_wp2_with fail
    go_ret
    exact ⟨by simp [t1], rfl⟩
  · go_enter Try.func50, Try.ntmps50
    go_wp2_with fail
    go_ret
    exact ⟨by simp; omega, rfl⟩
theorem ris_in (n : Nat) (w : World) (h : RefX M S w g F ex) (hn : n < F.bl.length) : Calls Try.prog 50 #[.pointer (some ⟨g, 0, none⟩), .int .i64 (n : Int)] w fun e w' => e = .returned (.bool true) ∧ w = w' := by
  have := ris_any (n : Int) w h
  rwa [show (decide (0 ≤ (n : Int)) && decide ((n : Int) < (F.bl.length : Int))) = true by simp; omega] at this
theorem ris_out (n : Int) (w : World) (h : RefX M S w g F ex) (hn : n < 0 ∨ (F.bl.length : Int) ≤ n) : Calls Try.prog 50 #[.pointer (some ⟨g, 0, none⟩), .int .i64 n] w fun e w' => e = .returned (.bool false) ∧ w = w' := by
  have := ris_any n w h
  rwa [show (decide (0 ≤ n) && decide (n < (F.bl.length : Int))) = false by simp; omega] at this
theorem rhas_any (n : Nat) (x : NB) (w : World) (h : RefX M S w g F ex) (hx : F.bl[n]? = some x) (hok : F.Ok) : Calls Try.prog 51 #[.pointer (some ⟨g, 0, none⟩), .int .i64 (n : Int)] w fun e w' => e = .returned (.int .i64 ((F.many x : Nat) : Int)) ∧ w = w' := by
  obtain ⟨c0, c1, -⟩ := h.gcells
  obtain ⟨-, b1, -, -⟩ := h.bcells hx
  have hn := lt_of_get hx
  have hm := hok.np
  have hb0 : (0 : Int) ≤ (n : Int) ∧ (n : Int) < (F.bl.length : Int) := by omega
  have hd : (F.np : Int).tdiv 2 = ((F.np / 2 : Nat) : Int) := by rw [Int.tdiv_eq_ediv_of_nonneg (by omega)]; omega
  obtain ⟨q, hq⟩ : ∃ q, q = F.np / 2 := ⟨_, rfl⟩
  have e1 : F.many x = if x.one then q else F.np := by rw [hq]; rfl
  have hd2 : (F.np : Int) / 2 = (q : Int) := by omega
  rw [← hq] at hd
  have hq2 : q ≤ 256 := by omega
  rw [e1]
  rw [Nat.mul_comm 4 n] at b1
  generalize F.np = N at *
  generalize x.one = o at b1 ⊢
  generalize F.bl.length = L at *
  clear h hx hq e1 hok
  cases o with
  | true =>
    go_enter Try.func51, Try.ntmps51
    go_wp2_with fail
    go_ret
    exact ⟨rfl, rfl⟩
  | false =>
    go_enter Try.func51, Try.ntmps51
    go_wp2_with fail
    go_ret
    exact ⟨rfl, rfl⟩
theorem rnext_out (n : Int) (w : World) (h : RefX M S w g F ex) (hn : n < 0 ∨ (F.bl.length : Int) ≤ n) : Calls Try.prog 45 #[.pointer (some ⟨g, 0, none⟩), .int .i64 n] w fun e w' => e = .returned (.int .i64 (-1)) ∧ w = w' := by
  have HI := Lib.hid (fun w (h : RefX M S w g F ex) => ris_out n w h hn)
  have HH := Lib.hid h
  clear h hn
  go_enter Try.func45, Try.ntmps45
  go_wp2_with fail
  refine (HI.out _ HH.out).mono ?_
  rintro e w1 ⟨rfl, rfl⟩
  go_wp2_with fail
  go_ret
  exact ⟨rfl, rfl⟩
theorem rnext_any (n : Nat) (x : NB) (w : World) (h : RefX M S w g F ex) (hx : F.bl[n]? = some x) (hg : F.Good) : Calls Try.prog 45 #[.pointer (some ⟨g, 0, none⟩), .int .i64 (n : Int)] w fun e w' => e = .returned (.int .i64 x.nextI) ∧ w = w' := by
  obtain ⟨c0, -⟩ := h.gcells
  obtain ⟨b0, -, b2, -⟩ := h.bcells hx
  have hn := lt_of_get hx
  have HI := Lib.hid (fun w (h : RefX M S w g F ex) => ris_in n w h hn)
  have HH := Lib.hid h
  obtain ⟨hr, -⟩ := h.rows n x hx
  have hnx := (hg.at' hx).nx
  obtain ⟨a, cap, hv⟩ := own_form hr
  rw [hv] at b0
  unfold NB.nextI
  obtain ⟨k, hk⟩ : ∃ k : Nat, x.next = k := ⟨x.next.toNat, by omega⟩
  rw [hk] at b0 ⊢
  rw [show ((k : Int)).toNat = k by omega] at b0
  have hb0 : (0 : Int) ≤ (n : Int) ∧ (n : Int) < (F.bl.length : Int) := by omega
  rw [Nat.mul_comm 4 n] at b0 b2
  generalize F.bl.length = L at *
  generalize x.half = hf at b2 ⊢
  clear h hx hr hv hg hnx hk
  cases hf with
  | true =>
    go_enter Try.func45, Try.ntmps45
    go_wp2_with fail
    refine (HI.out _ HH.out).mono ?_
    rintro e w1 ⟨rfl, rfl⟩
    go_wp2_with fail
    go_ret
    exact ⟨rfl, rfl⟩
  | false =>
    go_enter Try.func45, Try.ntmps45
    go_wp2_with fail
    refine (HI.out _ HH.out).mono ?_
    rintro e w1 ⟨rfl, rfl⟩
    go_wp2_with fail
    go_ret
    exact ⟨rfl, rfl⟩
end
end Go.Proofs.Ytbbhniohliklhaa
