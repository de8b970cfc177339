/- nand: Flip refused; Count; Shape. -/
import Derived.Test.YtbbhniohliklhaaNandL
namespace Go.Proofs.Ytbbhniohliklhaa
open Go Go.RowKit
set_option linter.unusedVariables false

theorem nflip_no {M : NMem} {S : Zone} {g : Nat} {F : NF} (n : Nat) (p k : Int) (x : NB) (w : World) (h : FlashX M S w g F noEx) (hx : F.bl[n]? = some x) (hok : F.Ok) (he : F.flipB x p k = false) :
    Calls Try.prog 23 #[.pointer (some ⟨g, 0, none⟩), .int .i64 (n : Int), .int .i64 p, .int .i64 k] w fun e w' => e = .returned (.bool false) ∧ w = w' := by
  obtain ⟨-, -, -, -, -, c5, -⟩ := h.gcells
  obtain ⟨-, b1, b2, -⟩ := h.bcells hx
  have HBk := Lib.hid (fun w (h : FlashX M S w g F noEx) => nblk_in n w h (lt_of_get hx) hok.nb)
  have HPg := Lib.hid (fun w (h : FlashX M S w g F noEx) => npage_any n x p w h hx hok.np)
  have HH := Lib.hid h
  have hc1 := hok.c1
  have hc8 := hok.c8
  have hE : F.flipB x p k = (F.has x p && !x.half && decide (p < x.next) && decide (0 ≤ k) && decide (k < ((F.ch * 73 * 8 : Nat) : Int))) := rfl
  rw [he] at hE
  clear he
  obtain ⟨N, hN⟩ : ∃ N, N = F.ch * 73 := ⟨_, rfl⟩
  have i1 : (8 : Int) * (F.ch : Int) * 73 = (N : Int) * 8 := by omega
  have hN2 : N ≤ 584 := by omega
  rw [← hN] at hE
  generalize F.has x p = has at HPg hE
  generalize x.half = hf at b2 hE
  generalize x.next = nx at b1 hE
  obtain ⟨q, hq⟩ : ∃ q, q = 5 * n := ⟨_, rfl⟩
  rw [← hq] at HBk HPg b1 b2
  obtain ⟨gl, hgl⟩ : ∃ gl, gl = M.gl := ⟨_, rfl⟩
  rw [← hgl] at HBk HPg b1 b2
  generalize F.ch = ch at *
  clear h hx hok hq hN hgl
  cases has with
  | false =>
    clear hE
    go_enter Try.func23, Try.ntmps23
    go_wp2_with fail
    refine (HBk.out _ HH.out).mono ?_
    rintro e w1 ⟨rfl, rfl⟩
    go_wp2_with fail
    refine (HPg.out _ HH.out).mono ?_
    rintro e w1 ⟨rfl, rfl⟩
    go_wp2_with fail
    go_ret
    exact ⟨rfl, rfl⟩
  | true =>
    cases hf with
    | true =>
      clear hE
      go_enter Try.func23, Try.ntmps23
      go_wp2_with fail
      refine (HBk.out _ HH.out).mono ?_
      rintro e w1 ⟨rfl, rfl⟩
      go_wp2_with fail
      refine (HPg.out _ HH.out).mono ?_
      rintro e w1 ⟨rfl, rfl⟩
      go_wp2_with fail
      go_ret
      exact ⟨rfl, rfl⟩
    | false =>
      by_cases t1 : p < nx
      · by_cases t2 : 0 ≤ k
        · by_cases t3 : k < (N : Int) * 8
          · exfalso
            have t4 : k < ((N * 8 : Nat) : Int) := by omega
            simp [t1, t2] at hE
            omega
          · clear hE
            have t3' : (N : Int) * 8 ≤ k := by omega
            go_enter Try.func23, Try.ntmps23
            go_wp2_with fail
            refine (HBk.out _ HH.out).mono ?_
            rintro e w1 ⟨rfl, rfl⟩
            go_wp2_with fail
            refine (HPg.out _ HH.out).mono ?_
            rintro e w1 ⟨rfl, rfl⟩
            go_wp2_with fail
            go_ret
            exact ⟨rfl, rfl⟩
        · clear hE
          have t2' : k < 0 := by omega
          go_enter Try.func23, Try.ntmps23
          go_wp2_with fail
          refine (HBk.out _ HH.out).mono ?_
          rintro e w1 ⟨rfl, rfl⟩
          go_wp2_with fail
          refine (HPg.out _ HH.out).mono ?_
          rintro e w1 ⟨rfl, rfl⟩
          go_wp2_with fail
          go_ret
          exact ⟨rfl, rfl⟩
      · clear hE
        have t1' : nx ≤ p := by omega
        go_enter Try.func23, Try.ntmps23
        go_wp2_with fail
        refine (HBk.out _ HH.out).mono ?_
        rintro e w1 ⟨rfl, rfl⟩
        go_wp2_with fail
        refine (HPg.out _ HH.out).mono ?_
        rintro e w1 ⟨rfl, rfl⟩
        go_wp2_with fail
        go_ret
        exact ⟨rfl, rfl⟩
theorem nflip_out {M : NMem} {S : Zone} {g : Nat} {F : NF} (n p k : Int) (w : World) (h : FlashX M S w g F noEx) (hn : n < 0 ∨ (F.bl.length : Int) ≤ n) (hok : F.Ok) :
    Calls Try.prog 23 #[.pointer (some ⟨g, 0, none⟩), .int .i64 n, .int .i64 p, .int .i64 k] w fun e w' => e = .returned (.bool false) ∧ w = w' := by
  have HBk := Lib.hid (fun w (h : FlashX M S w g F noEx) => nblk_out n w h hn hok.nb)
  have HPg := Lib.hid (fun w (h : FlashX M S w g F noEx) => npage_nil p w h)
  have HH := Lib.hid h
  clear h hn hok
  go_enter Try.func23, Try.ntmps23
  go_wp2_with fail
  refine (HBk.out _ HH.out).mono ?_
  rintro e w1 ⟨rfl, rfl⟩
  go_wp2_with fail
  refine (HPg.out _ HH.out).mono ?_
  rintro e w1 ⟨rfl, rfl⟩
  go_wp2_with fail
  go_ret
  exact ⟨rfl, rfl⟩
theorem nload_any (g k : Nat) (u : Int) (w : World) (hc : w.cell? ⟨g, k, none⟩ = some (.int .i64 u)) :
    Calls Try.prog 55 #[.pointer (some ⟨g, k, none⟩)] w fun e w' => e = .returned (.int .i64 u) ∧ w = w' := by
  have hl := run_call_load (P := Try.prog) Try.func57 (by kernel_rfl) (by kernel_rfl) (by kernel_rfl) .i64 (by kernel_rfl) hc
  go_enter Try.func55, Try.ntmps55
  go_wp2_with fail
  go_ret
  exact ⟨rfl, rfl⟩
theorem ncount_any {M : NMem} {S : Zone} {g : Nat} {F : NF} (w : World) (h : FlashX M S w g F noEx) :
    Calls Try.prog 44 #[.pointer (some ⟨g, 0, none⟩)] w fun e w' => e = .returned (.tuple #[.int .i64 F.st, .int .i64 F.pr, .int .i64 F.rd, .int .i64 F.er]) ∧ Below w.heap.size w w' := by
  obtain ⟨-, -, c2, -, -, -, c6, c7, c8⟩ := h.gcells
  generalize F.st = st at *
  generalize F.pr = pr at *
  generalize F.rd = rd at *
  generalize F.er = er at *
  clear h
  go_enter Try.func44, Try.ntmps44
  go_wp2_with fail
  go_quiet ((go_at_call 55; exact quietC (nload_any _ _ _ _ (by first | exact c2 | exact c6 | exact c7 | exact c8))))
  go_wp2_with fail
  exact bodyPost_ret (v := .tuple #[.int .i64 st, .int .i64 pr, .int .i64 rd, .int .i64 er]) (by simp [results, Try.results44, go_sem]) rfl ⟨rfl, below_drewN' (Below.refl _ _) _⟩
theorem nshape_any {M : NMem} {S : Zone} {g : Nat} {F : NF} (w : World) (h : FlashX M S w g F noEx) :
    Calls Try.prog 27 #[.pointer (some ⟨g, 0, none⟩)] w fun e w' => e = .returned (.tuple #[.int .i64 (F.bl.length : Int), .int .i64 (F.np : Int), .int .i64 (F.ch : Int)]) ∧ Below w.heap.size w w' := by
  obtain ⟨-, -, -, c3, c4, c5, -⟩ := h.gcells
  generalize F.bl.length = L at *
  generalize F.np = np at *
  generalize F.ch = ch at *
  clear h
  go_enter Try.func27, Try.ntmps27
  go_wp2_with fail
  go_quiet (fail)
  go_wp2_with fail
  exact bodyPost_ret (v := .tuple #[.int .i64 (L : Int), .int .i64 (np : Int), .int .i64 (ch : Int)]) (by simp [results, Try.results27, go_sem]) rfl ⟨rfl, below_drewN' (Below.refl _ _) _⟩
end Go.Proofs.Ytbbhniohliklhaa
