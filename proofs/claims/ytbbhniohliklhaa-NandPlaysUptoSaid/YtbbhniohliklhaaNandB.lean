/- nand: block, many, page, may, Off. -/
import Derived.Test.YtbbhniohliklhaaNandA
namespace Go.Proofs.Ytbbhniohliklhaa
open Go Go.RowKit
set_option linter.unusedVariables false

theorem wr64' (n : Int) (h1 : -9223372036854775808 ≤ n) (h2 : n ≤ 9223372036854775807) : IntKind.i64.wrap n = n := by rw [IntKind.wrap_i64]; omega
theorem HasB.nine' {w : World} {g : Nat} {a0 a1 a2 a3 a4 a5 a6 a7 a8 : Value} {T : TypeId} (h : HasB w g #[a0, a1, a2, a3, a4, a5, a6, a7, a8] T) :
    w.cell? ⟨g, 0, none⟩ = some a0 ∧ w.cell? ⟨g, 1, none⟩ = some a1 ∧ w.cell? ⟨g, 2, none⟩ = some a2 ∧ w.cell? ⟨g, 3, none⟩ = some a3 ∧ w.cell? ⟨g, 4, none⟩ = some a4 ∧ w.cell? ⟨g, 5, none⟩ = some a5 ∧ w.cell? ⟨g, 6, none⟩ = some a6 ∧ w.cell? ⟨g, 7, none⟩ = some a7 ∧ w.cell? ⟨g, 8, none⟩ = some a8 :=
  ⟨h.at 0, h.at 1, h.at 2, h.at 3, h.at 4, h.at 5, h.at 6, h.at 7, h.at 8⟩
section
variable {M : NMem} {S : Zone} {w : World} {g : Nat} {F : NF} {ex : Nat → Nat → Bool}
theorem FlashX.gcells (h : FlashX M S w g F ex) : w.cell? ⟨g, 0, none⟩ = some (.bool F.off) ∧ w.cell? ⟨g, 1, none⟩ = some (.int .i64 F.armed) ∧ w.cell? ⟨g, 2, none⟩ = some (.int .i64 F.st) ∧ w.cell? ⟨g, 3, none⟩ = some (.slice (some ⟨M.gl, 0, none⟩) F.bl.length F.bl.length) ∧ w.cell? ⟨g, 4, none⟩ = some (.int .i64 (F.np : Int)) ∧ w.cell? ⟨g, 5, none⟩ = some (.int .i64 (F.ch : Int)) ∧ w.cell? ⟨g, 6, none⟩ = some (.int .i64 F.pr) ∧ w.cell? ⟨g, 7, none⟩ = some (.int .i64 F.rd) ∧ w.cell? ⟨g, 8, none⟩ = some (.int .i64 F.er) := HasB.nine' h.own
theorem FlashX.gfree (h : FlashX M S w g F ex) (i : Nat) : w.frozen? ⟨g, i, none⟩ = false := h.own.free i
theorem FlashX.bcells (h : FlashX M S w g F ex) {n : Nat} {x : NB} (hx : F.bl[n]? = some x) : w.cell? ⟨M.gl, 5 * n, none⟩ = some (.slice (some ⟨M.pg n, 0, none⟩) F.np F.np) ∧ w.cell? ⟨M.gl, 5 * n + 1, none⟩ = some (.int .i64 x.next) ∧ w.cell? ⟨M.gl, 5 * n + 2, none⟩ = some (.bool x.half) ∧ w.cell? ⟨M.gl, 5 * n + 3, none⟩ = some (.bool x.one) ∧ w.cell? ⟨M.gl, 5 * n + 4, none⟩ = some (.bool x.failed) := by
  obtain ⟨C, h1, _, h3⟩ := h.blk
  obtain ⟨e1, e2⟩ := h3 n x hx
  exact ⟨(h1.at _).trans e1, (h1.at _).trans (e2 1 (by omega) (by omega)), (h1.at _).trans (e2 2 (by omega) (by omega)), (h1.at _).trans (e2 3 (by omega) (by omega)), (h1.at _).trans (e2 4 (by omega) (by omega))⟩
theorem FlashX.bfree (h : FlashX M S w g F ex) (i : Nat) : w.frozen? ⟨M.gl, i, none⟩ = false := by
  obtain ⟨C, h1, _, _⟩ := h.blk
  exact h1.free i
theorem FlashX.pcell (h : FlashX M S w g F ex) {n p : Nat} {x : NB} (hx : F.bl[n]? = some x) {l : List Nat} (hl : x.pages[p]? = some l) : w.cell? ⟨M.pg n, p, none⟩ = some (M.vs n p) := by
  obtain ⟨_, D, e2, _, e4⟩ := h.pgs n x hx
  exact (e2.at _).trans (e4 p l hl).1
theorem FlashX.pfree (h : FlashX M S w g F ex) {n : Nat} {x : NB} (hx : F.bl[n]? = some x) (p : Nat) : w.frozen? ⟨M.pg n, p, none⟩ = false := by
  obtain ⟨_, D, e2, _, _⟩ := h.pgs n x hx
  exact e2.free p
end

/-- Whether there is such a block. -/
theorem nblk_in {M : NMem} {S : Zone} {g : Nat} {F : NF} {ex : Nat → Nat → Bool} (n : Nat) (w : World) (h : FlashX M S w g F ex) (hn : n < F.bl.length) (hm : F.bl.length ≤ 1024) :
    Calls Try.prog 28 #[.pointer (some ⟨g, 0, none⟩), .int .i64 (n : Int)] w fun e w' => e = .returned (.pointer (some ⟨M.gl, 5 * n, none⟩)) ∧ w = w' := by
  obtain ⟨-, -, -, c3, -⟩ := h.gcells
  obtain ⟨L, hL⟩ : ∃ L, L = F.bl.length := ⟨_, rfl⟩
  rw [← hL] at c3 hn hm
  have t1 : ¬ ((n : Int) < 0) := by omega
  have t2 : ¬ ((n : Int) ≥ (L : Int)) := by omega
  have t3 : (0 : Int) ≤ (n : Int) ∧ (n : Int) < (L : Int) := by omega
  clear hL h
  go_enter Try.func28, Try.ntmps28
  go_wp2_with fail
  go_ret
  exact ⟨by rw [Nat.mul_comm 5 n]; rfl, rfl⟩
theorem nblk_out {M : NMem} {S : Zone} {g : Nat} {F : NF} {ex : Nat → Nat → Bool} (n : Int) (w : World) (h : FlashX M S w g F ex) (hn : n < 0 ∨ (F.bl.length : Int) ≤ n) (hm : F.bl.length ≤ 1024) :
    Calls Try.prog 28 #[.pointer (some ⟨g, 0, none⟩), .int .i64 n] w fun e w' => e = .returned (.pointer none) ∧ w = w' := by
  obtain ⟨-, -, -, c3, -⟩ := h.gcells
  obtain ⟨L, hL⟩ : ∃ L, L = F.bl.length := ⟨_, rfl⟩
  rw [← hL] at c3 hn hm
  clear hL h
  by_cases t1 : n < 0
  · clear hn
    go_enter Try.func28, Try.ntmps28
    go_wp2_with fail
    go_ret
    exact ⟨rfl, rfl⟩
  · have t2 : n ≥ (L : Int) := by omega
    clear hn
    go_enter Try.func28, Try.ntmps28
    go_wp2_with fail
    go_ret
    exact ⟨rfl, rfl⟩
theorem noff_any {M : NMem} {S : Zone} {g : Nat} {F : NF} {ex : Nat → Nat → Bool} (w : World) (h : FlashX M S w g F ex) :
    Calls Try.prog 14 #[.pointer (some ⟨g, 0, none⟩)] w fun e w' => e = .returned (.bool F.off) ∧ w = w' := by
  obtain ⟨c0, -⟩ := h.gcells
  generalize F.off = o at c0 ⊢
  clear h
  go_enter Try.func14, Try.ntmps14
  go_wp2_with fail
  go_ret
  exact ⟨rfl, rfl⟩
def NF.many (F : NF) (x : NB) : Nat := if x.one then F.np / 2 else F.np
theorem nmany_any {M : NMem} {S : Zone} {g : Nat} {F : NF} {ex : Nat → Nat → Bool} (n : Nat) (x : NB) (w : World) (h : FlashX M S w g F ex) (hx : F.bl[n]? = some x) (hm : F.np ≤ 256) :
    Calls Try.prog 46 #[.pointer (some ⟨g, 0, none⟩), .pointer (some ⟨M.gl, 5 * n, none⟩)] w fun e w' => e = .returned (.int .i64 ((F.many x : Nat) : Int)) ∧ w = w' := by
  obtain ⟨-, -, -, -, c4, -⟩ := h.gcells
  obtain ⟨-, -, -, b3, -⟩ := h.bcells hx
  have hd : (F.np : Int).tdiv 2 = ((F.np / 2 : Nat) : Int) := by rw [Int.tdiv_eq_ediv_of_nonneg (by omega)]; omega
  obtain ⟨q, hq⟩ : ∃ q, q = F.np / 2 := ⟨_, rfl⟩
  have e1 : F.many x = if x.one then q else F.np := by rw [hq]; rfl
  rw [← hq] at hd
  have hq2 : q ≤ 256 := by omega
  rw [e1]
  generalize F.np = N at c4 hd hm ⊢
  generalize x.one = o at b3 ⊢
  clear h hx hq e1
  cases o with
  | true =>
    go_enter Try.func46, Try.ntmps46
    go_wp2_with fail
    go_ret
    exact ⟨rfl, rfl⟩
  | false =>
    go_enter Try.func46, Try.ntmps46
    go_wp2_with fail
    go_ret
    exact ⟨rfl, rfl⟩
/-- Whether a block has a page. -/
def NF.has (F : NF) (x : NB) (p : Int) : Bool := decide (0 ≤ p) && decide (p < (F.many x : Nat))
theorem npage_any {M : NMem} {S : Zone} {g : Nat} {F : NF} {ex : Nat → Nat → Bool} (n : Nat) (x : NB) (p : Int) (w : World) (h : FlashX M S w g F ex) (hx : F.bl[n]? = some x) (hm : F.np ≤ 256) :
    Calls Try.prog 30 #[.pointer (some ⟨g, 0, none⟩), .pointer (some ⟨M.gl, 5 * n, none⟩), .int .i64 p] w fun e w' => e = .returned (.bool (F.has x p)) ∧ w = w' := by
  have hc := fun w (h : FlashX M S w g F ex) => nmany_any n x w h hx hm
  unfold NF.has
  by_cases t1 : 0 ≤ p
  · obtain ⟨q, hq⟩ : ∃ q, q = F.many x := ⟨_, rfl⟩
    rw [← hq] at hc ⊢
    have HC := Lib.hid hc
    have HH := Lib.hid h
    clear hc h hq
    go_enter Try.func30, Try.ntmps30
    go_wp2_with fail
    refine (HC.out _ HH.out).mono ?_
    rintro e w1 ⟨rfl, rfl⟩
    go_wp2_with fail
    go_ret
    refine ⟨?_, rfl⟩
    simp [t1]
  · clear hc h
    go_enter Try.func30, Try.ntmps30
    go_wp2_with fail
    go_ret
    refine ⟨?_, rfl⟩
    simp [show decide (0 ≤ p) = false by simpa using t1]
theorem npage_nil {M : NMem} {S : Zone} {g : Nat} {F : NF} {ex : Nat → Nat → Bool} (p : Int) (w : World) (h : FlashX M S w g F ex) :
    Calls Try.prog 30 #[.pointer (some ⟨g, 0, none⟩), .pointer none, .int .i64 p] w fun e w' => e = .returned (.bool false) ∧ w = w' := by
  clear h
  go_enter Try.func30, Try.ntmps30
  go_wp2_with fail
  go_ret
  exact ⟨rfl, rfl⟩
/-- What may be against a change. -/
def NF.mayE (F : NF) (fail is : Bool) : Int := if F.off then 4 else if !is then 1 else if fail then 7 else 0
theorem nmay_any {M : NMem} {S : Zone} {g : Nat} {F : NF} {ex : Nat → Nat → Bool} (n : Nat) (x : NB) (is : Bool) (w : World) (h : FlashX M S w g F ex) (hx : F.bl[n]? = some x) :
    Calls Try.prog 29 #[.pointer (some ⟨g, 0, none⟩), .pointer (some ⟨M.gl, 5 * n, none⟩), .bool is] w fun e w' => e = .returned (.int .i64 (F.mayE x.failed is)) ∧ w = w' := by
  obtain ⟨-, -, -, -, b4⟩ := h.bcells hx
  have HC := Lib.hid (fun w (h : FlashX M S w g F ex) => noff_any w h)
  have HH := Lib.hid h
  unfold NF.mayE
  generalize F.off = o at HC ⊢
  generalize x.failed = f at b4 ⊢
  clear h
  go_enter Try.func29, Try.ntmps29
  go_wp2_with fail
  refine (HC.out _ HH.out).mono ?_
  rintro e w1 ⟨rfl, rfl⟩
  cases o with
  | true =>
    go_wp2_with fail
    go_ret
    exact ⟨rfl, rfl⟩
  | false =>
    cases is with
    | false =>
      go_wp2_with fail
      go_ret
      exact ⟨rfl, rfl⟩
    | true =>
      cases f with
      | true =>
        go_wp2_with fail
        go_ret
        exact ⟨rfl, rfl⟩
      | false =>
        go_wp2_with fail
        go_ret
        exact ⟨rfl, rfl⟩
theorem nmay_nil {M : NMem} {S : Zone} {g : Nat} {F : NF} {ex : Nat → Nat → Bool} (w : World) (h : FlashX M S w g F ex) :
    Calls Try.prog 29 #[.pointer (some ⟨g, 0, none⟩), .pointer none, .bool false] w fun e w' => e = .returned (.int .i64 (F.mayE false false)) ∧ w = w' := by
  have HC := Lib.hid (fun w (h : FlashX M S w g F ex) => noff_any w h)
  have HH := Lib.hid h
  unfold NF.mayE
  generalize F.off = o at HC ⊢
  clear h
  go_enter Try.func29, Try.ntmps29
  go_wp2_with fail
  refine (HC.out _ HH.out).mono ?_
  rintro e w1 ⟨rfl, rfl⟩
  cases o with
  | true =>
    go_wp2_with fail
    go_ret
    exact ⟨rfl, rfl⟩
  | false =>
    go_wp2_with fail
    go_ret
    exact ⟨rfl, rfl⟩
end Go.Proofs.Ytbbhniohliklhaa
