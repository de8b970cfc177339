/- sha: the law's joined: parts behind one another, or too many. -/
import Derived.Test.YtodipcolblbooaaShaO
namespace Go.Proofs.Ytodipcolblbooaa
open Go Go.RowKit
set_option linter.unusedVariables false

/-- What joined returns: the bytes behind one another, if they are few. -/
def JoinedR (ls : List (List Nat)) (n : Nat) (e : Ending) (w : World) : Prop :=
  ∃ (v : Value) (ok : Bool), e = .returned (.tuple #[v, .bool ok]) ∧ (ok = true → (∃ va vc, v = .slice va (sumLen ls n) vc ∧ Bytes w va (sumLen ls n) (flatTo ls n) ∧ (va = none → vc = 0)) ∧ sumLen ls n ≤ 4096 ∧ n ≤ 500 ∧ ∀ x ∈ ls, x.length ≤ 4096)
theorem joined_no {ls : List (List Nat)} {n : Nat} {w : World} (v : Value) : JoinedR ls n (.returned (.tuple #[v, .bool false])) w := ⟨v, false, rfl, fun h => by simp at h⟩

set_option maxRecDepth 100000 in
set_option maxHeartbeats 4000000 in
theorem joined_any (a : Option Addr) (n cap : Nat) (ls : List (List Nat)) (w : World) (hR : RowsR w a ls) (hl : ls.length = n) (hb : ∀ x ∈ ls, ∀ c ∈ x, c < 256) (hT : sumLen ls n + n ≤ 1048576) :
    Calls Try.prog 7 #[.slice a n cap] w fun e w' => JoinedR ls n e w' ∧ Below w.heap.size w w' := by
  have HR := Lib.hid hR
  have HBt := Lib.hid hb
  have HLn := Lib.hid hl
  clear hR hb hl
  obtain ⟨POST, hPOST⟩ : ∃ POST : Ending → World → Prop, POST = fun e w' => JoinedR ls n e w' ∧ Below w.heap.size w w' := ⟨_, rfl⟩
  rw [← hPOST]
  have HPost := Lib.hid hPOST
  clear hPOST
  have HNil : Hid (w.ownsRow w.heap.size 5 1 (.slice none 0 0) 0 (u8s [])) := Lib.hid (World.ownsRow_nil w w.heap.size 5 1)
  go_enter Try.func7, Try.ntmps7
  go_wp2_with fail
  go_loopw [4, 5] (fun x i wr => ∃ (k : Nat) (v : Value), k ≤ n ∧ i = .int .i64 (k : Int) ∧ x = v ∧ Hid (wr.ownsRow w.heap.size 5 1 v (sumLen ls k) (u8s (flatTo ls k))) ∧ Hid (∀ j, j < k → (ls.getD j []).length ≤ 4096) ∧ Hid (Below w.heap.size w wr)) (fun _ i _ => n - (intOf i).toNat)
  case atStart => exact ⟨0, _, by omega, rfl, rfl, HNil, Lib.hid (fun j hj => by omega), Lib.hid (Below.refl _ _)⟩
  case round =>
    clear HNil
    obtain ⟨k, v, hk, rfl, rfl, HP, HM, HB⟩ := hrel
    obtain ⟨wo, rfl⟩ : ∃ wo : World, wo = wr := ⟨_, rfl⟩
    obtain ⟨a4, cp4, rfl⟩ := own_form HP.out
    have hsk : sumLen ls k ≤ sumLen ls n := by
      have := sumLen_mono ls k (n - k)
      rw [show k + (n - k) = n by omega] at this; exact this
    have HSt : Hid (sumLen ls (k + 1) = sumLen ls k + (ls.getD k []).length) := Lib.hid rfl
    obtain ⟨S, hS⟩ : ∃ S, S = sumLen ls k := ⟨_, rfl⟩
    rw [← hS] at HP HSt hsk ⊢
    have HSe := Lib.hid hS
    clear hS
    by_cases hlt : k < n
    · obtain ⟨x, hx⟩ : ∃ x, ls[k]? = some x := ⟨_, List.getElem?_eq_getElem (by have := HLn.out; omega)⟩
      obtain ⟨g, off, b, cp, rfl, hgl, hc, hy, hbn, hxc, hcm⟩ := (HR.out.below HB.out) k x hx
      have hgx : (ls.getD k []).length = x.length := by simp [List.getD, hx]
      have HX := Lib.hid hx
      have HY := Lib.hid hy
      have HGx := Lib.hid hgx
      have HBn := Lib.hid hbn
      have t1 : (k : Int) < (n : Int) := by omega
      have t0 : (0 : Int) ≤ (k : Int) := by omega
      obtain ⟨L, hL⟩ : ∃ L, L = x.length := ⟨_, rfl⟩
      rw [← hL] at hc hxc
      have HL := Lib.hid hL
      have hLT : S + L ≤ 1048576 := by
        have := sumLen_mono ls (k + 1) (n - (k + 1))
        rw [show k + 1 + (n - (k + 1)) = n by omega, sumLen, hgx, ← hL, ← HSe.out] at this
        omega
      clear hx hy hgx hL hbn
      by_cases h4 : 4096 < L
      · have t2 : 4096 < (L : Int) := by omega
        go_wp2_with fail
        rw [HPost.out]
        exact ⟨joined_no _, HB.out⟩
      · have t2 : ¬ (4096 < (L : Int)) := by omega
        go_wp2_with (at_builtin; refine Stop.mk ?_)
        refine Stop.go ?_
        refine wpList_app_u8 rfl _ _ 22 rfl w.heap.size 5 Try.underlying22 (by kernel_rfl) (.slice a4 S cp4) S _ rfl HP.out b L cp x rfl (by rw [HL.out]; exact HY.out) HBn.out (by omega) HB.out.size ?_
        intro v7 w7 hown7 hgrow7
        have HB7 : Hid (Below w.heap.size w w7) := Lib.hid (HB.out.grown hgrow7 HB.out.size (fun q hq => (HP.out.lt q hq).1))
        have HP7 : Hid (w7.ownsRow w.heap.size 5 1 v7 (sumLen ls (k + 1)) (u8s (flatTo ls (k + 1)))) := Lib.hid (by
          rw [flatTo_step HX.out, HSt.out, HGx.out, ← HL.out]; exact hown7)
        have HM7 : Hid (∀ j, j < k + 1 → (ls.getD j []).length ≤ 4096) := Lib.hid (fun j hj => by
          by_cases hjk : j = k
          · rw [hjk, HGx.out, ← HL.out]; omega
          · exact HM.out j (by omega))
        obtain ⟨a7, cp7, rfl⟩ := own_form hown7
        clear hown7 hgrow7 HB HP HM
        go_wp2_with fail
        go_roundw
        case rel => exact ⟨k + 1, _, by omega, by go_num, rfl, by rw [HSt.out, HGx.out, ← HL.out] at HP7 ⊢; exact HP7, HM7, HB7⟩
        case measure => simp [intOf]; omega
    · obtain rfl : k = n := by omega
      have t1 : ¬ ((k : Int) < (k : Int)) := by omega
      by_cases h4 : S ≤ 4096
      · have t2 : (S : Int) ≤ 4096 := by omega
        by_cases h5 : k ≤ 500
        · have t3 : (k : Int) ≤ 500 := by omega
          go_wp2_with fail
          rw [HPost.out]
          refine ⟨⟨_, true, rfl, fun _ => ⟨⟨a4, cp4, by rw [← HSe.out], ?_, ?_⟩, by rw [← HSe.out]; exact h4, h5, ?_⟩⟩, HB.out⟩
          · obtain ⟨a', c', he, hb'⟩ := bytes_of_own' HP.out (flatTo_lt HBt.out k)
            simp at he
            obtain ⟨rfl, rfl⟩ := he
            rw [← HSe.out]; exact hb'
          · intro q
            rcases HP.out.2 with ⟨h, _⟩ | ⟨g', cap', cur, h, _⟩
            · simp at h; exact h.2.2
            · simp at h; rw [h.1] at q; cases q
          · intro x hx
            obtain ⟨i, hi, rfl⟩ := List.getElem_of_mem hx
            have := HM.out i (by have := HLn.out; omega)
            simpa [List.getD, hi] using this
        · have t3 : ¬ ((k : Int) ≤ 500) := by omega
          go_wp2_with fail
          rw [HPost.out]
          exact ⟨joined_no _, HB.out⟩
      · have t2 : ¬ ((S : Int) ≤ 4096) := by omega
        go_wp2_with fail
        rw [HPost.out]
        exact ⟨joined_no _, HB.out⟩
end Go.Proofs.Ytodipcolblbooaa
