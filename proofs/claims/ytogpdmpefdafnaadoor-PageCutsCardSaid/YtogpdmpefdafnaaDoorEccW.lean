/- ecc: Words. -/
import Derived.Test.YtogpdmpefdafnaaDoorEccV
import Derived.Test.YtogpdmpefdafnaaDoorRowsB
namespace Go.Proofs.YtogpdmpefdafnaaDoor
open Go Go.RowKit
set_option linter.unusedVariables false

theorem Bytes.dropAt {w : World} {b off len : Nat} {l : List Nat} (h : Bytes w (some ⟨b, off, none⟩) len l) (k : Nat) (hk : k ≤ len) : Bytes w (some ⟨b, off + k, none⟩) (len - k) (l.drop k) := by
  refine ⟨by simp [h.1], fun c hc => h.2.1 c (List.mem_of_mem_drop hc), fun h0 => ?_⟩
  obtain ⟨b', off', he, hlt, hc⟩ := h.2.2 (by omega)
  simp at he
  obtain ⟨rfl, rfl⟩ := he
  refine ⟨b, off + k, rfl, hlt, fun i hi => ?_⟩
  have := hc (k + i) (by omega)
  rw [show off + k + i = off + (k + i) by omega, this]
  simp [List.getD]

/-- A slice of bytes that a call has made: fresh, and what it holds. -/
def FreshB (B : Nat) (w : World) (v : Value) (l : List Nat) : Prop := ∃ a cap, v = .slice a l.length cap ∧ Bytes w a l.length l ∧ (a = none → cap = 0) ∧ l.length ≤ cap ∧ cap ≤ maxLen ∧ (0 < l.length → ∀ ad, a = some ad → B ≤ ad.block)
theorem FreshB.of_own {B : Nat} {e : TypeId} {w : World} {v : Value} {n : Nat} {l : List Nat} (h : w.ownsRow B e 1 v n (u8s l)) (hl : ∀ c ∈ l, c < 256) : FreshB B w v l := by
  have hn : l.length = n := by simpa [u8s] using h.1
  subst hn
  have hlt := h.lt
  rcases h.2 with ⟨rfl, h0⟩ | ⟨g, cap, cur, rfl, hg, _, h1, h2, _⟩
  · exact ⟨none, 0, by rw [h0], ⟨rfl, hl, fun h => by omega⟩, fun _ => rfl, by omega, by unfold maxLen; omega, fun h => by omega⟩
  · exact ⟨some ⟨g, 0, none⟩, cap, rfl, bytes_of_own h hl, fun h => by simp at h, h1, h2, fun _ ad e => by cases e; exact hg⟩

set_option maxRecDepth 100000 in
set_option maxHeartbeats 4000000 in
theorem wordsB_own (a : Option Addr) (len cap : Nat) (l : List Nat) (w : World) (hi : Bytes w a len l) (hl : len ≤ 100000) (hc : len ≤ cap) (hT : Deb w) :
    Calls Tryd.prog 10 #[.slice a len cap] w fun e w' => (∃ v, e = .returned v ∧ w'.ownsRow w.heap.size 5 1 v ((len + 7) / 8) (u8s (wordsOf l))) ∧ Below w.heap.size w w' := by
  have HIn := Lib.hid hi
  have hll := hi.1
  have HT := Lib.hid hT
  clear hi hT
  obtain ⟨POST, hPOST⟩ : ∃ Q : Ending → World → Prop, Q = fun e w' => (∃ v, e = .returned v ∧ w'.ownsRow w.heap.size 5 1 v ((len + 7) / 8) (u8s (wordsOf l))) ∧ Below w.heap.size w w' := ⟨_, rfl⟩
  rw [← hPOST]
  have HPOST := Lib.hid hPOST
  clear hPOST
  obtain ⟨M, hM⟩ : ∃ M, M = (len + 7) / 8 := ⟨_, rfl⟩
  have HW : Hid (wordsTo l M = wordsOf l) := Lib.hid (by unfold wordsOf; rw [hll, hM])
  have HMe := Lib.hid hM
  have hM1 : 8 * M ≤ len + 7 := by omega
  have hM2 : len ≤ 8 * M := by omega
  clear hM
  go_enter Tryd.func10, Tryd.ntmps10
  go_wp2_with fail
  go_loopw [3, 4] (fun v i wr => ∃ k : Nat, k ≤ M ∧ i = .int .i64 ((8 * k : Nat) : Int) ∧ Hid (wr.ownsRow w.heap.size 5 1 v k (u8s (wordsTo l k))) ∧ Hid (Below w.heap.size w wr)) (fun _ i _ => len + 8 - (intOf i).toNat)
  case atStart => exact ⟨0, by omega, rfl, Lib.hid ⟨rfl, .inl ⟨rfl, rfl⟩⟩, Lib.hid (Below.refl _ _)⟩
  case round =>
    obtain ⟨k, hk, rfl, HO, HB⟩ := hrel
    obtain ⟨wo, rfl⟩ : ∃ wo : World, wo = wr := ⟨_, rfl⟩
    by_cases hlt : 8 * k < len
    · have hx := (HIn.out.below HB.out (Nat.le_refl _))
      obtain ⟨b, off, rfl, hbl, hcell⟩ := hx.2.2 (by omega)
      clear hcell
      have hd := hx.dropAt (8 * k) (by omega)
      have HD := Lib.hid hd
      have hX := wordAt_lt HIn.out.2.1 k
      obtain ⟨X, hXe⟩ : ∃ X, X = wordAt l k := ⟨_, rfl⟩
      have HX : Hid (X = le (l.drop (8 * k)) 8) := Lib.hid hXe
      rw [← hXe] at hX
      have hS := wordsTo_succ l k
      rw [← hXe] at hS
      have HS := Lib.hid hS
      have HC := Ecc.chk_lt X
      have hT2 : Deb wo := Deb.below HT.out HB.out (Nat.le_refl _)
      have HT2 := Lib.hid hT2
      have hsz := HB.out.size
      obtain ⟨k8, hk8⟩ : ∃ k8, k8 = 8 * k := ⟨_, rfl⟩
      rw [← hk8] at hlt HD HX ⊢
      have t1 : (0 : Int) ≤ (k8 : Int) := by omega
      have t2 : (k8 : Int) ≤ (len : Int) := by omega
      have t3 : (k8 : Int) < (len : Int) := by omega
      have t4 : ¬ cap = k8 := by omega
      have t5 : (k8 : Int) ≤ (cap : Int) := by omega
      have HK8 := Lib.hid hk8
      clear hx hd hXe hS hT2 hk8
      go_wp2_with (first | (go_at_call 15; refine (get_any b (off + k8) _ _ _ _ HD.out (by omega)).mono ?_; rintro e w1 ⟨rfl, rfl⟩; rw [← HX.out]) | (go_at_call 14; refine (check_any X hX _ HT2.out).mono ?_; rintro e w1 ⟨rfl, rfl⟩) | (at_builtin; refine Stop.mk ?_))
      refine Stop.go ?_
      refine wpList_app_u8 rfl _ _ 22 rfl w.heap.size 5 Tryd.underlying22 Tryd.infoU8 u3 k (wordsTo l k) rfl (HO.out.alloc _) _ 1 1 [Ecc.chk X] rfl (bytes_lit1 HC) (fun h => by simp at h) (by omega) (by simp; omega) ?_
      intro v2 w2 hown2 hgrow2
      rw [← HS.out] at hown2
      have HO2 := Lib.hid hown2
      have HB2 := Lib.hid ((HB.out.alloc hsz _).grown hgrow2 (by simp; omega) (fun j hj => (HO.out.lt j hj).1))
      have hk9 : k8 = 8 * k := HK8.out
      clear hown2 hgrow2 HK8
      subst hk9
      go_wp2
      go_roundw
      case rel => exact ⟨k + 1, by omega, by go_num, HO2, HB2⟩
      case measure => simp [intOf]; omega
    · obtain rfl : k = M := by omega
      have hfin : POST (.returned u3) wo := by
        rw [HPOST.out]
        refine ⟨⟨u3, rfl, ?_⟩, HB.out⟩
        rw [← HW.out, ← HMe.out]
        exact HO.out
      have HFin := Lib.hid hfin
      obtain ⟨k8, hk8⟩ : ∃ k8, k8 = 8 * k := ⟨_, rfl⟩
      rw [← hk8] at hlt ⊢
      have hend : decide ((k8 : Int) < (len : Int)) = false := by simp; omega
      have hlt2 : ¬ ((k8 : Int) < (len : Int)) := by omega
      clear hfin hk8 hM1 hM2
      go_wp2
      exact HFin.out

theorem wordsB_any (a : Option Addr) (len cap : Nat) (l : List Nat) (w : World) (hi : Bytes w a len l) (hl : len ≤ 100000) (hc : len ≤ cap) (hT : Deb w) :
    Calls Tryd.prog 10 #[.slice a len cap] w fun e w' => (∃ v, e = .returned v ∧ FreshB w.heap.size w' v (wordsOf l)) ∧ Below w.heap.size w w' :=
  (wordsB_own a len cap l w hi hl hc hT).mono fun e w' ⟨⟨v, h1, h2⟩, h3⟩ => ⟨⟨v, h1, FreshB.of_own h2 (wordsTo_lt l _)⟩, h3⟩

end Go.Proofs.YtogpdmpefdafnaaDoor
