/- nand: what is kept; Next, One, Failed, Fail, Mode. -/
import Derived.Test.YtbbhniohliklhaaNandE
namespace Go.Proofs.Ytbbhniohliklhaa
open Go Go.RowKit
set_option linter.unusedVariables false

/-- A flash that may be. -/
structure NF.Ok (F : NF) : Prop where
  nb : F.bl.length ≤ 1024
  np : F.np ≤ 256
  c1 : 1 ≤ F.ch
  c8 : F.ch ≤ 8
  a0 : 0 ≤ F.armed
  a1 : F.armed ≤ 9223372036854775807
  pg : ∀ x ∈ F.bl, ∀ l ∈ x.pages, pgOk F.ch l
  nx : ∀ x ∈ F.bl, 0 ≤ x.next ∧ x.next ≤ F.np
theorem NF.Ok.nxAt {F : NF} (h : F.Ok) {n : Nat} {x : NB} (hx : F.bl[n]? = some x) : 0 ≤ x.next ∧ x.next ≤ F.np := h.nx x (List.mem_of_getElem? hx)
theorem NF.Ok.pgAt {F : NF} (h : F.Ok) {n p : Nat} {x : NB} {l : List Nat} (hx : F.bl[n]? = some x) (hl : x.pages[p]? = some l) : pgOk F.ch l := h.pg x (List.mem_of_getElem? hx) l (List.mem_of_getElem? hl)
def NF.setB (F : NF) (n : Nat) (x : NB) : NF := { F with bl := F.bl.set n x }
theorem NF.Ok.setB {F : NF} (h : F.Ok) (n : Nat) (x : NB) (hp : ∀ l ∈ x.pages, pgOk F.ch l) (hn : 0 ≤ x.next ∧ x.next ≤ F.np) : (F.setB n x).Ok := by
  refine ⟨by simp [NF.setB, h.nb], h.np, h.c1, h.c8, h.a0, h.a1, fun y hy => ?_, fun y hy => ?_⟩
  · rcases List.mem_or_eq_of_mem_set hy with q | q
    · exact h.pg y q
    · rw [q]; exact hp
  · rcases List.mem_or_eq_of_mem_set hy with q | q
    · exact h.nx y q
    · rw [q]; exact hn
theorem lt_of_get {α : Type} {l : List α} {n : Nat} {x : α} (h : l[n]? = some x) : n < l.length := (List.getElem?_eq_some_iff.1 h).1

/-- Next. -/
def NB.nextI (x : NB) : Int := if x.half then -1 else x.next
theorem nnext_any {M : NMem} {S : Zone} {g : Nat} {F : NF} {ex : Nat → Nat → Bool} (n : Nat) (x : NB) (w : World) (h : FlashX M S w g F ex) (hx : F.bl[n]? = some x) (hok : F.Ok) :
    Calls Try.prog 12 #[.pointer (some ⟨g, 0, none⟩), .int .i64 (n : Int)] w fun e w' => e = .returned (.int .i64 x.nextI) ∧ w = w' := by
  obtain ⟨-, b1, b2, -⟩ := h.bcells hx
  have HB := Lib.hid (fun w (h : FlashX M S w g F ex) => nblk_in n w h (lt_of_get hx) hok.nb)
  have HH := Lib.hid h
  unfold NB.nextI
  generalize x.next = nx at b1 ⊢
  generalize x.half = hf at b2 ⊢
  clear h hx hok
  go_enter Try.func12, Try.ntmps12
  go_wp2_with fail
  refine (HB.out _ HH.out).mono ?_
  rintro e w1 ⟨rfl, rfl⟩
  generalize 5 * n = q at b1 b2 ⊢
  cases hf with
  | true =>
    go_wp2_with fail
    go_ret
    exact ⟨rfl, rfl⟩
  | false =>
    go_wp2_with fail
    go_ret
    exact ⟨rfl, rfl⟩
theorem nnext_out {M : NMem} {S : Zone} {g : Nat} {F : NF} {ex : Nat → Nat → Bool} (n : Int) (w : World) (h : FlashX M S w g F ex) (hn : n < 0 ∨ (F.bl.length : Int) ≤ n) (hok : F.Ok) :
    Calls Try.prog 12 #[.pointer (some ⟨g, 0, none⟩), .int .i64 n] w fun e w' => e = .returned (.int .i64 (-1)) ∧ w = w' := by
  have HB := Lib.hid (fun w (h : FlashX M S w g F ex) => nblk_out n w h hn hok.nb)
  have HH := Lib.hid h
  clear h hok hn
  go_enter Try.func12, Try.ntmps12
  go_wp2_with fail
  refine (HB.out _ HH.out).mono ?_
  rintro e w1 ⟨rfl, rfl⟩
  go_wp2_with fail
  go_ret
  exact ⟨rfl, rfl⟩
theorem none_any {M : NMem} {S : Zone} {g : Nat} {F : NF} {ex : Nat → Nat → Bool} (n : Nat) (x : NB) (w : World) (h : FlashX M S w g F ex) (hx : F.bl[n]? = some x) (hok : F.Ok) :
    Calls Try.prog 21 #[.pointer (some ⟨g, 0, none⟩), .int .i64 (n : Int)] w fun e w' => e = .returned (.bool x.one) ∧ w = w' := by
  obtain ⟨-, -, -, b3, -⟩ := h.bcells hx
  have HB := Lib.hid (fun w (h : FlashX M S w g F ex) => nblk_in n w h (lt_of_get hx) hok.nb)
  have HH := Lib.hid h
  generalize x.one = hf at b3 ⊢
  clear h hx hok
  go_enter Try.func21, Try.ntmps21
  go_wp2_with fail
  refine (HB.out _ HH.out).mono ?_
  rintro e w1 ⟨rfl, rfl⟩
  generalize 5 * n = q at b3 ⊢
  go_wp2_with fail
  go_ret
  exact ⟨rfl, rfl⟩
theorem none_out {M : NMem} {S : Zone} {g : Nat} {F : NF} {ex : Nat → Nat → Bool} (n : Int) (w : World) (h : FlashX M S w g F ex) (hn : n < 0 ∨ (F.bl.length : Int) ≤ n) (hok : F.Ok) :
    Calls Try.prog 21 #[.pointer (some ⟨g, 0, none⟩), .int .i64 n] w fun e w' => e = .returned (.bool false) ∧ w = w' := by
  have HB := Lib.hid (fun w (h : FlashX M S w g F ex) => nblk_out n w h hn hok.nb)
  have HH := Lib.hid h
  clear h hok hn
  go_enter Try.func21, Try.ntmps21
  go_wp2_with fail
  refine (HB.out _ HH.out).mono ?_
  rintro e w1 ⟨rfl, rfl⟩
  go_wp2_with fail
  go_ret
  exact ⟨rfl, rfl⟩
theorem nfailed_any {M : NMem} {S : Zone} {g : Nat} {F : NF} {ex : Nat → Nat → Bool} (n : Nat) (x : NB) (w : World) (h : FlashX M S w g F ex) (hx : F.bl[n]? = some x) (hok : F.Ok) :
    Calls Try.prog 19 #[.pointer (some ⟨g, 0, none⟩), .int .i64 (n : Int)] w fun e w' => e = .returned (.bool x.failed) ∧ w = w' := by
  obtain ⟨-, -, -, -, b4⟩ := h.bcells hx
  have HB := Lib.hid (fun w (h : FlashX M S w g F ex) => nblk_in n w h (lt_of_get hx) hok.nb)
  have HH := Lib.hid h
  generalize x.failed = hf at b4 ⊢
  clear h hx hok
  go_enter Try.func19, Try.ntmps19
  go_wp2_with fail
  refine (HB.out _ HH.out).mono ?_
  rintro e w1 ⟨rfl, rfl⟩
  generalize 5 * n = q at b4 ⊢
  go_wp2_with fail
  go_ret
  exact ⟨rfl, rfl⟩
theorem nfail_out {M : NMem} {S : Zone} {g : Nat} {F : NF} {ex : Nat → Nat → Bool} (n : Int) (w : World) (h : FlashX M S w g F ex) (hn : n < 0 ∨ (F.bl.length : Int) ≤ n) (hok : F.Ok) :
    Calls Try.prog 18 #[.pointer (some ⟨g, 0, none⟩), .int .i64 n] w fun e w' => e = .returned (.bool false) ∧ w = w' := by
  have HB := Lib.hid (fun w (h : FlashX M S w g F ex) => nblk_out n w h hn hok.nb)
  have HH := Lib.hid h
  clear h hok hn
  go_enter Try.func18, Try.ntmps18
  go_wp2_with fail
  refine (HB.out _ HH.out).mono ?_
  rintro e w1 ⟨rfl, rfl⟩
  go_wp2_with fail
  go_ret
  exact ⟨rfl, rfl⟩
theorem FlashX.frBlk {M : NMem} {S : Zone} {w w' : World} {g : Nat} {F : NF} {ex : Nat → Nat → Bool} (h : FlashX M S w g F ex) (hg : w.grownBy w' (some M.gl)) : Fr S w w' := Fr.grown hg h.zone.2.1
theorem FlashX.frOwn {M : NMem} {S : Zone} {w w' : World} {g : Nat} {F : NF} {ex : Nat → Nat → Bool} (h : FlashX M S w g F ex) (hg : w.grownBy w' (some g)) : Fr S w w' := Fr.grown hg h.zone.1
theorem FlashX.frPg {M : NMem} {S : Zone} {w w' : World} {g : Nat} {F : NF} {ex : Nat → Nat → Bool} (h : FlashX M S w g F ex) {n : Nat} {x : NB} (hx : F.bl[n]? = some x) (hg : w.grownBy w' (some (M.pg n))) : Fr S w w' := Fr.grown hg (h.zone.2.2 n (lt_of_get hx))

/-- Fail. -/
theorem nfail_any {M : NMem} {S : Zone} {g : Nat} {F : NF} {ex : Nat → Nat → Bool} (n : Nat) (x : NB) (w : World) (h : FlashX M S w g F ex) (hx : F.bl[n]? = some x) (hok : F.Ok) :
    Calls Try.prog 18 #[.pointer (some ⟨g, 0, none⟩), .int .i64 (n : Int)] w fun e w' => e = .returned (.bool true) ∧ FlashX M S w' g (F.setB n { x with failed := true }) ex ∧ Fr S w w' := by
  obtain ⟨-, -, -, -, b4⟩ := h.bcells hx
  have f4 := h.bfree (5 * n + 4)
  have HB := Lib.hid (fun w (h : FlashX M S w g F ex) => nblk_in n w h (lt_of_get hx) hok.nb)
  have HH := Lib.hid h
  have HN : Hid (FlashX M S (w.setCell ⟨M.gl, 5 * n + 4, none⟩ (.bool true)) g (F.setB n { x with failed := true }) ex) := Lib.hid (h.setBlk n x { x with failed := true } hx 4 (by omega) (by omega) (.bool true) rfl (fun j h1 h5 => by
    match j, h1, h5 with
    | 1, _, _ => rfl
    | 2, _, _ => rfl
    | 3, _, _ => rfl
    | 4, _, _ => rfl))
  have HF : Hid (Fr S w (w.setCell ⟨M.gl, 5 * n + 4, none⟩ (.bool true))) := Lib.hid (h.frBlk (gb_set (gb_refl _ _) _ _))
  clear h hx hok
  go_enter Try.func18, Try.ntmps18
  go_wp2_with fail
  refine (HB.out _ HH.out).mono ?_
  rintro e w1 ⟨rfl, rfl⟩
  generalize 5 * n = q at b4 f4 HN HF ⊢
  go_wp2_with fail
  go_ret
  exact ⟨rfl, HN.out, HF.out⟩

/-- Mode. -/
def NB.busy (x : NB) : Bool := x.half || !(x.next == 0)
def NF.modeE (F : NF) (x : NB) : Int := if F.mayE x.failed true ≠ 0 then F.mayE x.failed true else if x.busy then 6 else 0
def NF.modeF (F : NF) (n : Nat) (x : NB) (one : Bool) : NF := if F.modeE x = 0 then F.setB n { x with one := one } else F
theorem nmode_any {M : NMem} {S : Zone} {g : Nat} {F : NF} {ex : Nat → Nat → Bool} (n : Nat) (x : NB) (one : Bool) (w : World) (h : FlashX M S w g F ex) (hx : F.bl[n]? = some x) (hok : F.Ok) :
    Calls Try.prog 10 #[.pointer (some ⟨g, 0, none⟩), .int .i64 (n : Int), .bool one] w fun e w' => e = .returned (.int .i64 (F.modeE x)) ∧ FlashX M S w' g (F.modeF n x one) ex ∧ Fr S w w' := by
  obtain ⟨-, b1, b2, b3, -⟩ := h.bcells hx
  have f3 := h.bfree (5 * n + 3)
  have HB := Lib.hid (fun w (h : FlashX M S w g F ex) => nblk_in n w h (lt_of_get hx) hok.nb)
  have HM := Lib.hid (fun w (h : FlashX M S w g F ex) => nmay_any n x true w h hx)
  have HH := Lib.hid h
  have HN : Hid (FlashX M S (w.setCell ⟨M.gl, 5 * n + 3, none⟩ (.bool one)) g (F.setB n { x with one := one }) ex) := Lib.hid (h.setBlk n x { x with one := one } hx 3 (by omega) (by omega) (.bool one) rfl (fun j h1 h5 => by
    match j, h1, h5 with
    | 1, _, _ => rfl
    | 2, _, _ => rfl
    | 3, _, _ => rfl
    | 4, _, _ => rfl))
  have HF : Hid (Fr S w (w.setCell ⟨M.gl, 5 * n + 3, none⟩ (.bool one))) := Lib.hid (h.frBlk (gb_set (gb_refl _ _) _ _))
  have hE : F.modeE x = if F.mayE x.failed true ≠ 0 then F.mayE x.failed true else if x.busy then 6 else 0 := rfl
  have hFm : F.modeF n x one = if F.modeE x = 0 then F.setB n { x with one := one } else F := rfl
  have hbz : x.busy = (x.half || !(x.next == 0)) := rfl
  rw [hFm]
  clear hFm
  obtain ⟨me, hme⟩ : ∃ me, me = F.mayE x.failed true := ⟨_, rfl⟩
  rw [← hme] at hE HM
  rw [hE]
  clear hE
  rw [hbz]
  clear hbz hok hx h hme
  generalize F.setB n { x with one := one } = F' at HN ⊢
  generalize x.next = nx at b1 ⊢
  generalize x.half = hf at b2 ⊢
  by_cases hm0 : me = 0
  · subst hm0
    simp only [ne_eq, not_true_eq_false, if_false]
    cases hf with
    | true =>
      simp only [Bool.true_or, if_true]
      rw [if_neg (by decide)]
      clear HN HF
      go_enter Try.func10, Try.ntmps10
      go_wp2_with fail
      refine (HB.out _ HH.out).mono ?_
      rintro e w1 ⟨rfl, rfl⟩
      go_wp2_with fail
      refine (HM.out _ HH.out).mono ?_
      rintro e w1 ⟨rfl, rfl⟩
      generalize 5 * n = q at b1 b2 b3 ⊢
      go_wp2_with fail
      go_ret
      exact ⟨rfl, HH.out, Fr.refl _ _⟩
    | false =>
      simp only [Bool.false_or]
      by_cases hn0 : nx = 0
      · subst hn0
        simp only [beq_self_eq_true, Bool.not_true, Bool.false_eq_true, if_false, if_true]
        go_enter Try.func10, Try.ntmps10
        go_wp2_with fail
        refine (HB.out _ HH.out).mono ?_
        rintro e w1 ⟨rfl, rfl⟩
        go_wp2_with fail
        refine (HM.out _ HH.out).mono ?_
        rintro e w1 ⟨rfl, rfl⟩
        generalize 5 * n = q at b1 b2 b3 f3 HN HF ⊢
        go_wp2_with fail
        go_ret
        exact ⟨rfl, HN.out, HF.out⟩
      · have hnb : (nx == 0) = false := by simpa using hn0
        simp only [hnb, Bool.not_false, if_true]
        rw [if_neg (by decide)]
        clear HN HF
        go_enter Try.func10, Try.ntmps10
        go_wp2_with fail
        refine (HB.out _ HH.out).mono ?_
        rintro e w1 ⟨rfl, rfl⟩
        go_wp2_with fail
        refine (HM.out _ HH.out).mono ?_
        rintro e w1 ⟨rfl, rfl⟩
        generalize 5 * n = q at b1 b2 b3 ⊢
        go_wp2_with fail
        go_ret
        exact ⟨rfl, HH.out, Fr.refl _ _⟩
  · simp only [ne_eq, hm0, not_false_eq_true, if_true, if_false]
    clear HN HF
    go_enter Try.func10, Try.ntmps10
    go_wp2_with fail
    refine (HB.out _ HH.out).mono ?_
    rintro e w1 ⟨rfl, rfl⟩
    go_wp2_with fail
    refine (HM.out _ HH.out).mono ?_
    rintro e w1 ⟨rfl, rfl⟩
    go_wp2_with fail
    go_ret
    exact ⟨rfl, HH.out, Fr.refl _ _⟩
end Go.Proofs.Ytbbhniohliklhaa
