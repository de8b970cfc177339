/- token: Each, over whatever function value. -/
import Derived.Test.YtjadkfgkidejbaaTokG
import Derived.Test.YtjadkfgkidejbaaRowsC
namespace Go.Proofs.Ytjadkfgkidejbaa
open Go.RowKit
set_option linter.unusedVariables false

set_option maxRecDepth 100000 in
set_option maxHeartbeats 4000000 in
theorem each_any (F : FuncId) (caps : Array Value) (hfm : ∀ args w', Sem.run Try.prog (callFunc F args) w' = .ok (.enter F args) w')
    (a : Option Addr) (n cap : Nat) (ls : List (List Nat)) (hn : ls.length = n) (hln : n ≤ 1000000) (hll : ∀ x ∈ ls, x.length ≤ 1000000) (go : Nat → Bool) (Inv : Nat → World → Prop)
    (hInv : ∀ i w w', Inv i w → Below w.heap.size w w' → Inv i w') (hread : ∀ i w, Inv i w → RowsR w a ls)
    (hcl : ∀ i x v w, ls[i]? = some x → Inv i w → (∃ b cp, v = .slice b x.length cp ∧ Bytes w b x.length x ∧ (b = none → cp = 0) ∧ x.length ≤ cp) → Calls Try.prog F (#[.int .i64 (i : Nat), v] ++ caps) w fun e w' => e = .returned (.bool (go i)) ∧ Inv (i + 1) w')
    (w : World) (h0 : Inv 0 w) :
    Calls Try.prog 19 #[.slice a n cap, .func (.func F) #[] caps] w fun e w' => e = .returned (.tuple #[]) ∧ ∃ j, j ≤ n ∧ Inv j w' ∧ (j = n ∨ ∃ i, j = i + 1 ∧ go i = false) ∧ ∀ i, i + 1 < j → go i = true := by
  have HInv := Lib.hid hInv
  have HRead := Lib.hid hread
  have HCl := Lib.hid hcl
  have HN := Lib.hid hn
  have HL := Lib.hid hll
  have H0 := Lib.hid h0
  clear hInv hread hcl hn hll h0
  obtain ⟨POST, hPOST⟩ : ∃ Q : Ending → World → Prop, Q = fun e w' => e = .returned (.tuple #[]) ∧ ∃ j, j ≤ n ∧ Inv j w' ∧ (j = n ∨ ∃ i, j = i + 1 ∧ go i = false) ∧ ∀ i, i + 1 < j → go i = true := ⟨_, rfl⟩
  rw [← hPOST]
  have HPOST := Lib.hid hPOST
  clear hPOST
  go_enter Try.func19, Try.ntmps19
  go_wp2_with fail
  go_loopw [8] (fun i wr => ∃ k : Nat, k ≤ n ∧ i = .int .i64 (k : Int) ∧ Hid (Inv k wr) ∧ Hid (∀ i, i < k → go i = true)) (fun i _ => n - (intOf i).toNat)
  case atStart => exact ⟨0, by omega, rfl, H0, Lib.hid (fun i h => by omega)⟩
  case round =>
    obtain ⟨k, hk, rfl, HI, HG⟩ := hrel
    obtain ⟨wo, rfl⟩ : ∃ wo : World, wo = wr := ⟨_, rfl⟩
    by_cases hlt : k < n
    · have hkl : k < ls.length := by rw [HN.out]; exact hlt
      obtain ⟨x, hx⟩ : ∃ x, ls[k]? = some x := ⟨_, List.getElem?_eq_getElem hkl⟩
      have hxl : x.length ≤ 1000000 := HL.out x (by rw [List.getElem?_eq_getElem hkl] at hx; rw [← Option.some.inj hx]; exact List.getElem_mem _)
      obtain ⟨g, off, b, cp, rfl, hg, hc, hy, hy2, hy3, hy4⟩ := HRead.out k wo HI.out k x hx
      have t1 : (k : Int) < (n : Int) := by omega
      have t2 : (0 : Int) ≤ (k : Int) := by omega
      have t3 : ((k : Int)).toNat = k := by omega
      obtain ⟨m, hm⟩ : ∃ m, m = x.length := ⟨_, rfl⟩
      rw [← hm] at hc hy hy3 hxl
      have HX := Lib.hid hx
      have HM := Lib.hid hm
      have HY := Lib.hid hy
      clear hx hm hy
      go_wp2_with (go_at_call 82; refine (clone_any b m cp x _ HY.out hy2 hxl hy3 hy4).mono ?_; rintro e w2 ⟨⟨v, rfl, b2, cp2, rfl, hz, hz2, hz3, _⟩, hb2⟩; have HZ := Lib.hid hz; have HB2 := Lib.hid hb2; clear hz hb2)
      have hcall := HCl.out k x (.slice b2 m cp2) w2 HX.out (HInv.out k wo w2 HI.out HB2.out) ⟨b2, cp2, by rw [← HM.out], by rw [← HM.out]; exact HZ.out, hz2, by rw [← HM.out]; exact hz3⟩
      refine hcall.mono ?_
      rintro e w3 ⟨rfl, hI3⟩
      have HI3 := Lib.hid hI3
      clear hcall hI3
      cases hgo : go k with
      | true =>
        have HG2 : Hid (∀ i, i < k + 1 → go i = true) := Lib.hid (fun i hi => by
          by_cases e : i = k
          · rw [e]; exact hgo
          · exact HG.out i (by omega))
        clear hgo
        go_wp2
        go_roundw
        case rel => exact ⟨k + 1, by omega, by go_num, HI3, HG2⟩
        case measure => simp [intOf]; omega
      | false =>
        have hfin : POST (.returned (.tuple #[])) w3 := by
          rw [HPOST.out]
          exact ⟨rfl, k + 1, by omega, HI3.out, .inr ⟨k, rfl, hgo⟩, fun i h => HG.out i (by omega)⟩
        have HFin := Lib.hid hfin
        clear hfin hgo
        go_wp2
        refine bodyPost_ret (results_none (by kernel_rfl) _ _ _) rfl ?_
        exact HFin.out
    · obtain rfl : k = n := by omega
      have hfin : POST (.returned (.tuple #[])) wo := by
        rw [HPOST.out]
        exact ⟨rfl, k, Nat.le_refl _, HI.out, .inl rfl, fun i h => HG.out i (by omega)⟩
      have HFin := Lib.hid hfin
      clear hfin
      go_wp2
      go_end0
      exact HFin.out

end Go.Proofs.Ytjadkfgkidejbaa
