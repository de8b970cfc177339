/- nand: the reference: Flip whole. -/
import Derived.Test.YtbbhniohliklhaaNandRE
namespace Go.Proofs.Ytbbhniohliklhaa
open Go Go.RowKit
set_option linter.unusedVariables false

section
variable {M : RMem} {S : Zone} {g : Nat} {F : NF}
theorem rflip_no (n p : Nat) (k : Int) (x : NB) (w : World) (h : RefX M S w g F noEx) (hx : F.bl[n]? = some x) (hg : F.Good) (hpn : ¬ ((p : Int) < x.next)) :
    Calls Try.prog 53 #[.pointer (some ⟨g, 0, none⟩), .int .i64 (n : Int), .int .i64 (p : Int), .int .i64 k] w fun e w' => e = .returned (.bool false) ∧ w = w' := by
  obtain ⟨c0, -⟩ := h.gcells
  obtain ⟨b0, -⟩ := h.bcells hx
  obtain ⟨hr, -, -⟩ := h.rows n x hx
  have hn := lt_of_get hx
  have hb0 : (0 : Int) ≤ (n : Int) ∧ (n : Int) < (F.bl.length : Int) := by omega
  have hnx := (hg.at' hx).nx
  obtain ⟨m, hm⟩ : ∃ m : Nat, x.next = m := ⟨x.next.toNat, by omega⟩
  have hmt : x.next.toNat = m := by omega
  rw [hmt] at hr
  obtain ⟨ar, cr, hv⟩ := own_form hr
  rw [hv] at b0
  rw [Nat.mul_comm 4 n] at b0
  have t1 : (p : Int) ≥ (m : Int) := by omega
  generalize F.bl.length = L at *
  generalize M.gb = gb at *
  clear h hx hg hpn hr hn hm hmt hv
  go_enter Try.func53, Try.ntmps53
  go_wp2_with fail
  go_ret
  exact ⟨rfl, rfl⟩
theorem rFlip_out (n p k : Int) (w : World) (h : RefX M S w g F noEx) (hn : n < 0 ∨ (F.bl.length : Int) ≤ n) :
    Calls Try.prog 39 #[.pointer (some ⟨g, 0, none⟩), .int .i64 n, .int .i64 p, .int .i64 k] w fun e w' => e = .returned (.bool false) ∧ w = w' := by
  have HI := Lib.hid (fun w (h : RefX M S w g F noEx) => ris_out n w h hn)
  have HH := Lib.hid h
  clear h hn
  go_enter Try.func39, Try.ntmps39
  go_wp2_with fail
  refine (HI.out _ HH.out).mono ?_
  rintro e w1 ⟨rfl, rfl⟩
  go_wp2_with fail
  go_ret
  exact ⟨rfl, rfl⟩
set_option maxRecDepth 100000 in
set_option maxHeartbeats 4000000 in
theorem rFlip_any (n : Nat) (p k : Int) (x : NB) (w : World) (h : RefX M S w g F noEx) (hl : S.lives w) (hx : F.bl[n]? = some x) (hg : F.Good) :
    Calls Try.prog 39 #[.pointer (some ⟨g, 0, none⟩), .int .i64 (n : Int), .int .i64 p, .int .i64 k] w fun e w' => e = .returned (.bool (F.flip n p k).1) ∧ RefG (S.grow w w') w' g (F.flip n p k).2 ∧ Fr S w w' := by
  obtain ⟨POST, hPOST⟩ : ∃ Q : Ending → World → Prop, Q = fun e w' => e = .returned (.bool (F.flip n p k).1) ∧ RefG (S.grow w w') w' g (F.flip n p k).2 ∧ Fr S w w' := ⟨_, rfl⟩
  rw [← hPOST]
  have HPOST := Lib.hid hPOST
  clear hPOST
  have hat : F.at (n : Int) = some x := by unfold NF.at; rw [if_pos (by omega)]; exact hx
  obtain ⟨c0, -, c2, -⟩ := h.gcells
  obtain ⟨-, -, b2, -⟩ := h.bcells hx
  have hn := lt_of_get hx
  have hb0 : (0 : Int) ≤ (n : Int) ∧ (n : Int) < (F.bl.length : Int) := by omega
  have HI := Lib.hid (fun w (h : RefX M S w g F noEx) => ris_in n w h hn)
  have HHas := Lib.hid (fun w (h : RefX M S w g F noEx) => rhas_any n x w h hx hg.ok)
  have hc1 := hg.c1
  have hc8 := hg.c8
  obtain ⟨N, hN⟩ : ∃ N, N = F.ch * 73 := ⟨_, rfl⟩
  have i1 : (8 : Int) * (F.ch : Int) * 73 = (N : Int) * 8 := by omega
  have hN2 : N ≤ 584 := by omega
  rw [Nat.mul_comm 4 n] at b2
  have hsame : RefG (S.grow w w) w g F ∧ Fr S w w := h.op hl (Fr.refl _ _) hg
  have HSame := Lib.hid hsame
  have hFE : F.flip n p k = if F.flipB x p k = true then (true, F.flipF n p.toNat x (x.pages.getD p.toNat []) k.toNat) else (false, F) := by
    unfold NF.flip
    rw [hat]
    rfl
  have hB : F.flipB x p k = (F.has x p && !x.half && decide (p < x.next) && decide (0 ≤ k) && decide (k < ((N * 8 : Nat) : Int))) := by unfold NF.flipB; rw [hN]
  have hhas := @NF.has_iff F x p
  by_cases q1 : x.half = true
  · have hb : F.flipB x p k = false := by rw [hB, q1]; simp
    rw [hb] at hFE
    have HE : Hid (F.flip n p k = (false, F)) := Lib.hid hFE
    rw [q1] at b2
    have HH := Lib.hid h
    generalize F.bl.length = L at *
    generalize M.gb = gb at *
    clear h hl hx hg hat hn hN hsame hFE hB hhas q1 hb
    go_enter Try.func39, Try.ntmps39
    go_wp2_with fail
    refine (HI.out _ HH.out).mono ?_
    rintro e w1 ⟨rfl, rfl⟩
    go_wp2_with fail
    rw [HPOST.out, HE.out]
    exact ⟨rfl, HSame.out⟩
  have q1 : x.half = false := by simpa using q1
  rw [q1] at b2
  by_cases q2 : p < 0
  · have hb : F.flipB x p k = false := by rw [hB, show F.has x p = false by unfold NF.has; simp; omega]; rfl
    rw [hb] at hFE
    have HE : Hid (F.flip n p k = (false, F)) := Lib.hid hFE
    have HH := Lib.hid h
    generalize F.bl.length = L at *
    generalize M.gb = gb at *
    clear h hl hx hg hat hn hN hsame hFE hB hhas q1 hb
    go_enter Try.func39, Try.ntmps39
    go_wp2_with fail
    refine (HI.out _ HH.out).mono ?_
    rintro e w1 ⟨rfl, rfl⟩
    go_wp2_with fail
    rw [HPOST.out, HE.out]
    exact ⟨rfl, HSame.out⟩
  by_cases q3 : ((F.many x : Nat) : Int) ≤ p
  · have hb : F.flipB x p k = false := by rw [hB, show F.has x p = false by unfold NF.has; simp; omega]; rfl
    rw [hb] at hFE
    have HE : Hid (F.flip n p k = (false, F)) := Lib.hid hFE
    have HH := Lib.hid h
    generalize F.many x = m at *
    generalize F.bl.length = L at *
    generalize M.gb = gb at *
    clear h hl hx hg hat hn hN hsame hFE hB hhas q1 hb
    go_enter Try.func39, Try.ntmps39
    go_wp2_with fail
    refine (HI.out _ HH.out).mono ?_
    rintro e w1 ⟨rfl, rfl⟩
    go_wp2_with fail
    refine (HHas.out _ HH.out).mono ?_
    rintro e w1 ⟨rfl, rfl⟩
    go_wp2_with fail
    rw [HPOST.out, HE.out]
    exact ⟨rfl, HSame.out⟩
  have q3' : ¬ (p ≥ ((F.many x : Nat) : Int)) := by omega
  by_cases q4 : k < 0
  · have hb : F.flipB x p k = false := by rw [hB, show decide (0 ≤ k) = false by simp; omega]; simp
    rw [hb] at hFE
    have HE : Hid (F.flip n p k = (false, F)) := Lib.hid hFE
    have HH := Lib.hid h
    generalize F.many x = m at *
    generalize F.bl.length = L at *
    generalize M.gb = gb at *
    clear h hl hx hg hat hn hN hsame hFE hB hhas q1 hb q3
    go_enter Try.func39, Try.ntmps39
    go_wp2_with fail
    refine (HI.out _ HH.out).mono ?_
    rintro e w1 ⟨rfl, rfl⟩
    go_wp2_with fail
    refine (HHas.out _ HH.out).mono ?_
    rintro e w1 ⟨rfl, rfl⟩
    go_wp2_with fail
    rw [HPOST.out, HE.out]
    exact ⟨rfl, HSame.out⟩
  by_cases q5 : (N : Int) * 8 ≤ k
  · have hb : F.flipB x p k = false := by rw [hB, show decide (k < ((N * 8 : Nat) : Int)) = false by simp; omega]; simp
    rw [hb] at hFE
    have HE : Hid (F.flip n p k = (false, F)) := Lib.hid hFE
    have HH := Lib.hid h
    generalize F.many x = m at *
    generalize F.bl.length = L at *
    generalize M.gb = gb at *
    clear h hl hx hg hat hn hN hsame hFE hB hhas q1 hb q3
    go_enter Try.func39, Try.ntmps39
    go_wp2_with fail
    refine (HI.out _ HH.out).mono ?_
    rintro e w1 ⟨rfl, rfl⟩
    go_wp2_with fail
    refine (HHas.out _ HH.out).mono ?_
    rintro e w1 ⟨rfl, rfl⟩
    go_wp2_with fail
    rw [HPOST.out, HE.out]
    exact ⟨rfl, HSame.out⟩
  have q5' : ¬ (k ≥ (N : Int) * 8) := by omega
  obtain ⟨p, rfl⟩ : ∃ q : Nat, p = q := ⟨p.toNat, by omega⟩
  obtain ⟨k, rfl⟩ : ∃ q : Nat, k = q := ⟨k.toNat, by omega⟩
  have hhp : F.has x p = true := hhas.2 ⟨by omega, by omega⟩
  by_cases q6 : (p : Int) < x.next
  · have hgx := hg.at' hx
    have hpn : p < x.pages.length := by rw [hgx.pl]; have := F.many_le x; omega
    have hp : x.pages[p]? = some x.pages[p] := List.getElem?_eq_getElem hpn
    have HY := Lib.hid (rflip_yes n p k x _ w h hl hx hp hg q6 (by omega))
    have hb : F.flipB x p k = true := by
      rw [hB, hhp, q1]
      simp [q6]
      omega
    rw [hb] at hFE
    have HE : Hid (F.flip n p k = (true, F.flipF n p x x.pages[p] k)) := Lib.hid (by
      rw [hFE]
      simp [List.getD, hpn])
    have HH := Lib.hid h
    generalize F.many x = m at *
    generalize F.bl.length = L at *
    generalize M.gb = gb at *
    clear h hl hx hg hat hn hN hsame hFE hB hhas q1 hb q3 q5 q6 hgx hp hhp
    go_enter Try.func39, Try.ntmps39
    go_wp2_with fail
    refine (HI.out _ HH.out).mono ?_
    rintro e w1 ⟨rfl, rfl⟩
    go_wp2_with fail
    refine (HHas.out _ HH.out).mono ?_
    rintro e w1 ⟨rfl, rfl⟩
    go_wp2_with fail
    refine HY.out.mono ?_
    rintro e w1 ⟨rfl, hR, hF⟩
    have HR := Lib.hid hR
    have HF := Lib.hid hF
    clear hR hF
    go_wp2_with fail
    rw [HPOST.out, HE.out]
    exact ⟨rfl, HR.out, HF.out⟩
  · have HY := Lib.hid (fun w (h : RefX M S w g F noEx) => rflip_no n p k x w h hx hg q6)
    have hb : F.flipB x p k = false := by
      rw [hB, show decide ((p : Int) < x.next) = false by simpa using q6]
      simp
    rw [hb] at hFE
    have HE : Hid (F.flip n p k = (false, F)) := Lib.hid hFE
    have HH := Lib.hid h
    generalize F.many x = m at *
    generalize F.bl.length = L at *
    generalize M.gb = gb at *
    clear h hl hx hg hat hn hN hsame hFE hB hhas q1 hb q3 q5 q6 hhp
    go_enter Try.func39, Try.ntmps39
    go_wp2_with fail
    refine (HI.out _ HH.out).mono ?_
    rintro e w1 ⟨rfl, rfl⟩
    go_wp2_with fail
    refine (HHas.out _ HH.out).mono ?_
    rintro e w1 ⟨rfl, rfl⟩
    go_wp2_with fail
    refine (HY.out _ HH.out).mono ?_
    rintro e w1 ⟨rfl, rfl⟩
    go_wp2_with fail
    rw [HPOST.out, HE.out]
    exact ⟨rfl, HSame.out⟩
end
end Go.Proofs.Ytbbhniohliklhaa
