/- page: the reference's Lay; Lay of whatever. -/
import Derived.Test.YtfefjabdfelhnaaDoorPageC
import Derived.Test.YtfefjabdfelhnaaDoorAppZ
namespace Go.Proofs.YtfefjabdfelhnaaDoor
open Go Go.RowKit
set_option linter.unusedVariables false

set_option maxRecDepth 100000 in
set_option maxHeartbeats 8000000 in
theorem rlay_ok (a : Option Addr) (len cap : Nat) (l : List Nat) (c : Nat) (w : World) (hi : Bytes w a len l) (hnil : a = none → cap = 0) (h1 : 1 ≤ c) (h8 : c ≤ 8) (hl : len ≤ 64 * c) :
    Calls Tryd.prog 17 #[.slice a len cap, .int .i64 (c : Int)] w fun e w' => LayP w.heap.size w' (layTo (padTo l (64 * c)) c) 0 e ∧ Below w.heap.size w w' := by
  have HI := Lib.hid hi
  have hll := hi.1
  obtain ⟨N, hN⟩ : ∃ N, N = 64 * c := ⟨_, rfl⟩
  obtain ⟨D, hD⟩ : ∃ D, D = N - len := ⟨_, rfl⟩
  have HPad : Hid ([] ++ l ++ List.replicate D 0 = padTo l N) := Lib.hid (by unfold padTo; rw [hll, hD, List.nil_append])
  have HP8 := Lib.hid (padTo_lt hi.2.1 N)
  have HPl := Lib.hid (padTo_len l N (by omega))
  obtain ⟨P, hP⟩ : ∃ P, P = padTo l N := ⟨_, rfl⟩
  rw [← hP] at HPad HP8 HPl
  have HLay : Hid (layTo (padTo l (64 * c)) c = layTo P c) := Lib.hid (by rw [hP, hN])
  obtain ⟨POST, hPOST⟩ : ∃ Q : Ending → World → Prop, Q = fun e w' => LayP w.heap.size w' (layTo (padTo l (64 * c)) c) 0 e ∧ Below w.heap.size w w' := ⟨_, rfl⟩
  rw [← hPOST]
  have HPOST := Lib.hid hPOST
  have HN := Lib.hid hN
  have HD : Hid (len + D = N) := Lib.hid (by omega)
  have t1 : (64 : Int) * (c : Int) = (N : Int) := by omega
  have t2 : (len : Int) ≤ (N : Int) := by omega
  have t3 : ¬ ((c : Int) < 1) := by omega
  have t4 : (c : Int) ≤ 8 := by omega
  have t5 : (N : Int) ≤ 512 := by omega
  have t6 : (N : Int) - (len : Int) = (D : Int) := by omega
  have hN5 : N ≤ 512 := by omega
  have hD5 : D ≤ 512 := by omega
  have hl5 : len ≤ 512 := by omega
  have hN1 : 1 ≤ N := by omega
  clear hi hP hPOST hN hl hD
  go_enter Tryd.func17, Tryd.ntmps17
  go_wp2_with (at_builtin; refine Stop.mk ?_)
  refine Stop.go ?_
  refine wpList_app_u8 rfl _ _ 22 rfl w.heap.size 5 Tryd.underlying22 Tryd.infoU8 (.slice (some ⟨w.heap.size, 0, none⟩) 0 0) 0 [] rfl (own_empty (Nat.le_refl _)) a len cap l rfl (HI.out.alloc _) hnil (by omega) (by simp) ?_
  intro v1 w1 hown1 hgrow1
  rw [Nat.zero_add] at hown1
  have HO1 := Lib.hid hown1
  have HB1 : Hid (Below w.heap.size w w1) := Lib.hid (((Below.refl _ _).alloc (Nat.le_refl _) _).grown hgrow1 (by simp) (fun k hk => by simp [Value.ownBlock] at hk; omega))
  have hs1 := HB1.out.size
  clear hown1 hgrow1
  go_wp2_with (at_builtin; refine Stop.mk ?_)
  refine Stop.go ?_
  refine wpList_app_zeros rfl _ _ 22 3 rfl w.heap.size 5 .i64 Tryd.underlying22 Tryd.underlying3 Tryd.infoU8 v1 len ([] ++ l) rfl HO1.out D rfl (by omega) hs1 ?_
  intro v2 w2 hown2 hgrow2
  rw [HPad.out, HD.out] at hown2
  obtain ⟨gp, cp, rfl⟩ := own_shape hown2 (by omega)
  have HB2 : Hid (Below w.heap.size w w2) := Lib.hid (HB1.out.grown hgrow2 hs1 (fun k hk => (HO1.out.lt k hk).1))
  have HP2 := Lib.hid hown2
  have hgp := hown2.lt gp rfl
  have hs2 := HB2.out.size
  have hcp : N ≤ cp := by
    rcases hown2.2 with ⟨h, _⟩ | ⟨g, c', cur, h, _, _, h1, _⟩
    · simp at h
    · simp at h; omega
  clear hown2 hgrow2
  go_wp2_with fail
  go_loopw [7, 8] (fun v i wr => ∃ k : Nat, k ≤ c ∧ i = .int .i64 (k : Int) ∧ Hid (wr.ownsRow w2.heap.size 5 1 v (layTo P k).length (u8s (layTo P k))) ∧ Hid (wr.ownsRow w.heap.size 5 1 (.slice (some ⟨gp, 0, none⟩) N cp) N (u8s P)) ∧ Hid (Below w2.heap.size w2 wr)) (fun _ i _ => c - (intOf i).toNat)
  case atStart => exact ⟨0, by omega, rfl, Lib.hid ⟨rfl, .inl ⟨rfl, rfl⟩⟩, HP2, Lib.hid (Below.refl _ _)⟩
  case round =>
    obtain ⟨k, hk, rfl, HO, HR, HB⟩ := hrel
    obtain ⟨wo, rfl⟩ : ∃ wo : World, wo = wr := ⟨_, rfl⟩
    have hso := HB.out.size
    by_cases hlt : k < c
    · obtain ⟨q, hq⟩ : ∃ q, q = 64 * k := ⟨_, rfl⟩
      have hch : Bytes wo (some ⟨gp, q, none⟩) 64 (chunkAt P k) := by
        have h0 := bytes_of_own HR.out HP8.out
        have := h0.part q 64 (by have := HN.out; omega)
        rw [Nat.zero_add] at this
        unfold chunkAt
        rw [← hq]
        exact this
      have HCh := Lib.hid hch
      have HCl := Lib.hid (chunk_len P k (by rw [HPl.out]; have := HN.out; omega))
      have HWl : Hid ((wordsOf (chunkAt P k)).length = 8) := Lib.hid (by unfold wordsOf; rw [wordsTo_len, HCl.out])
      have HLl := Lib.hid (layTo_len P k (by rw [HPl.out]; have := HN.out; omega))
      have HNext : Hid (layTo P k ++ chunkAt P k ++ wordsOf (chunkAt P k) ++ [0] = layTo P (k + 1)) := Lib.hid (by rw [layTo]; unfold layChunk; simp)
      have hLk : (layTo P k).length ≤ 1000 := by rw [HLl.out]; omega
      obtain ⟨L, hL⟩ : ∃ L, L = (layTo P k).length := ⟨_, rfl⟩
      have HO1' : Hid (wo.ownsRow w2.heap.size 5 1 u7 L (u8s (layTo P k))) := Lib.hid (by rw [hL]; exact HO.out)
      rw [← hL] at hLk
      have HLe := Lib.hid hL
      have t10 : (k : Int) < (c : Int) := by omega
      have t11 : (0 : Int) ≤ (q : Int) := by omega
      have t12 : (q : Int) + 64 ≤ (N : Int) := by have := HN.out; omega
      have t13 : ((q : Int)).toNat = q := by omega
      have t14 : ((q : Int) + 64).toNat = q + 64 := by omega
      have t15 : q + 64 ≤ N := by have := HN.out; omega
      have t16 : q + 64 - q = 64 := by omega
      have t17 : (64 : Int) * (k : Int) = (q : Int) := by omega
      have t18 : q + 64 ≤ cp := by omega
      have t19 : (q : Int) + 64 ≤ (cp : Int) := by omega
      have t20 : ¬ cp = q := by omega
      have HQ := Lib.hid hq
      clear hch hL hq
      go_wp2_with (at_builtin; refine Stop.mk ?_)
      refine Stop.go ?_
      refine wpList_app_u8 rfl _ _ 22 rfl w2.heap.size 5 Tryd.underlying22 Tryd.infoU8 u7 L (layTo P k) rfl HO1'.out (some ⟨gp, q, none⟩) 64 (cp - q) (chunkAt P k) rfl HCh.out (fun h => by simp at h) (by omega) (by omega) ?_
      intro v4 w4 hown4 hgrow4
      have hne4 : some gp ≠ u7.ownBlock := by
        intro h
        have := (HO.out.lt _ h.symm).1
        omega
      have HR4 := Lib.hid (HR.out.kept hgrow4 (.inr hne4))
      have HB4 : Hid (Below w2.heap.size w2 w4) := Lib.hid (HB.out.grown hgrow4 (by omega) (fun j hj => by have := (HO.out.lt j hj).1; omega))
      have HO4 := Lib.hid hown4
      have hch4 : Bytes w4 (some ⟨gp, q, none⟩) 64 (chunkAt P k) := by
        have h0 := bytes_of_own HR4.out HP8.out
        have := h0.part q 64 t15
        rw [Nat.zero_add] at this
        unfold chunkAt
        rw [← HQ.out]
        exact this
      have HCh4 := Lib.hid hch4
      have hs4 := HB4.out.size
      clear hown4 hgrow4 hne4 hch4
      go_wp2_with fail
      refine (rwordsB_any (some ⟨gp, q, none⟩) 64 (cp - q) (chunkAt P k) _ HCh4.out (by omega) (by omega)).mono ?_
      rintro e w5 ⟨⟨v5, rfl, a5, c5, rfl, hy5, hn5, _⟩, hb5⟩
      have HO5 := Lib.hid (own_below HO4.out hb5 (Nat.le_refl _))
      have HY5 := Lib.hid hy5
      have HR5 := Lib.hid (own_below HR4.out hb5 (Nat.le_refl _))
      have HB5 : Hid (Below w2.heap.size w2 w5) := Lib.hid (HB4.out.trans (hb5.mono (by omega)))
      have hs5 := HB5.out.size
      obtain ⟨m, hm⟩ : ∃ m, m = (wordsOf (chunkAt P k)).length := ⟨_, rfl⟩
      have hm8 : m = 8 := by rw [hm, HWl.out]
      have HM8 := Lib.hid hm8
      have hmle : m ≤ 8 := by omega
      rw [← hm] at HY5
      clear hb5 hy5 hm8
      go_wp2_with (at_builtin; refine Stop.mk ?_)
      refine Stop.go ?_
      refine wpList_app_u8 rfl _ _ 22 rfl w2.heap.size 5 Tryd.underlying22 Tryd.infoU8 v4 (L + 64) (layTo P k ++ chunkAt P k) rfl HO5.out a5 m c5 (wordsOf (chunkAt P k)) (by rw [hm]; rfl) HY5.out hn5 (by omega) (by omega) ?_
      intro v6 w6 hown6 hgrow6
      have hne6 : some gp ≠ v4.ownBlock := by
        intro h
        have := (HO5.out.lt _ h.symm).1
        omega
      have HR6 := Lib.hid (HR5.out.kept hgrow6 (.inr hne6))
      have HB6 : Hid (Below w2.heap.size w2 w6) := Lib.hid (HB5.out.grown hgrow6 (by omega) (fun j hj => by have := (HO5.out.lt j hj).1; omega))
      have HO6 := Lib.hid hown6
      have hs6 := HB6.out.size
      clear hown6 hgrow6 hne6 hm
      go_wp2_with (at_builtin; refine Stop.mk ?_)
      refine Stop.go ?_
      refine wpList_app_u8 rfl _ _ 22 rfl w2.heap.size 5 Tryd.underlying22 Tryd.infoU8 v6 (L + 64 + m) (layTo P k ++ chunkAt P k ++ wordsOf (chunkAt P k)) rfl (HO6.out.alloc _) (some ⟨w6.heap.size, 0, none⟩) 1 1 [0] rfl (bytes_lit1 (x := 0) (by omega)) (fun h => by simp at h) (by omega) (by simp; omega) ?_
      intro v7 w7 hown7 hgrow7
      rw [HNext.out] at hown7
      have hne7 : some gp ≠ v6.ownBlock := by
        intro h
        have := (HO6.out.lt _ h.symm).1
        omega
      have HR7 := Lib.hid ((HR6.out.alloc _).kept hgrow7 (.inr hne7))
      have HB7 : Hid (Below w2.heap.size w2 w7) := Lib.hid ((HB6.out.alloc (by omega) _).grown hgrow7 (by simp; omega) (fun j hj => by have := (HO6.out.lt j hj).1; omega))
      have HO7 : Hid (w7.ownsRow w2.heap.size 5 1 v7 (layTo P (k + 1)).length (u8s (layTo P (k + 1)))) := Lib.hid (by
        have hl := layTo_len P (k + 1) (by rw [HPl.out]; have := HN.out; omega)
        have h2 := HLl.out
        have h3 := HLe.out
        have h4 := HM8.out
        rw [hl, show 73 * (k + 1) = L + 64 + m + 1 by omega]
        exact hown7)
      clear hown7 hgrow7 hne7
      go_wp2
      go_roundw
      case rel => exact ⟨k + 1, by omega, by go_num, HO7, HR7, HB7⟩
      case measure => simp [intOf]; omega
    · obtain rfl : k = c := by omega
      have hfin : POST (.returned (.tuple #[u7, .int .i64 0])) wo := by
        rw [HPOST.out]
        exact ⟨⟨u7, rfl, by rw [HLay.out]; exact own_mono HO.out hs2⟩, HB2.out.trans (HB.out.mono hs2)⟩
      have HFin := Lib.hid hfin
      clear hfin
      go_wp2
      first | exact HFin.out | (go_ret2; exact HFin.out)

theorem layOk_not {len : Nat} {l : List Nat} {c : Int} (hl : l.length = len) (h : layOk l c = false) : (c < 1) ∨ (1 ≤ c ∧ 8 < c) ∨ (1 ≤ c ∧ c ≤ 8 ∧ 64 * c < (len : Int)) := by
  unfold layOk at h
  rw [hl] at h
  simp only [Bool.and_eq_false_iff, decide_eq_false_iff_not] at h
  omega
theorem layOk_yes {len : Nat} {l : List Nat} {c : Int} (hl : l.length = len) (h : layOk l c = true) : ∃ n : Nat, c = n ∧ 1 ≤ n ∧ n ≤ 8 ∧ len ≤ 64 * n := by
  unfold layOk at h
  rw [hl] at h
  simp only [Bool.and_eq_true, decide_eq_true_eq] at h
  exact ⟨c.toNat, by omega, by omega, by omega, by omega⟩

theorem lay_page (a : Option Addr) (len cap : Nat) (l : List Nat) (c : Int) (w : World) (hi : Bytes w a len l) (hl : len ≤ 1000000) (hc : I64 c) (hT : Deb w) :
    Calls Tryd.prog 16 #[.slice a len cap, .int .i64 c] w fun e w' => LayP w.heap.size w' (layL5 l c) (layE5 l c) e ∧ Below w.heap.size w w' := by
  unfold layL5 layE5
  cases h : layOk l c with
  | true =>
    obtain ⟨n, rfl, h1, h2, h3⟩ := layOk_yes hi.1 h
    simp only [if_true, Int.toNat_natCast, show (64 * (n : Int)).toNat = 64 * n by omega]
    exact lay_ok a len cap l n w hi h1 h2 h3 hT
  | false =>
    simp only [Bool.false_eq_true, if_false]
    have hcs := layOk_not hi.1 h
    have HF : Hid (LayP w.heap.size w [] 1 (.returned (.tuple #[.slice none 0 0, .int .i64 1])) ∧ Below w.heap.size w w) := Lib.hid ⟨⟨_, rfl, ⟨rfl, .inl ⟨rfl, rfl⟩⟩⟩, Below.refl _ _⟩
    unfold I64 at hc
    clear hi hT h
    rcases hcs with h | ⟨h, h2⟩ | ⟨h, h2, h3⟩
    · go_enter Tryd.func16, Tryd.ntmps16
      go_wp2
      go_ret2
      exact HF.out
    · go_enter Tryd.func16, Tryd.ntmps16
      go_wp2
      go_ret2
      exact HF.out
    · go_enter Tryd.func16, Tryd.ntmps16
      go_wp2
      go_ret2
      exact HF.out
theorem rlay_page (a : Option Addr) (len cap : Nat) (l : List Nat) (c : Int) (w : World) (hi : Bytes w a len l) (hnil : a = none → cap = 0) (hl : len ≤ 1000000) (hc : I64 c) :
    Calls Tryd.prog 17 #[.slice a len cap, .int .i64 c] w fun e w' => LayP w.heap.size w' (layL5 l c) (layE5 l c) e ∧ Below w.heap.size w w' := by
  unfold layL5 layE5
  cases h : layOk l c with
  | true =>
    obtain ⟨n, rfl, h1, h2, h3⟩ := layOk_yes hi.1 h
    simp only [if_true, Int.toNat_natCast, show (64 * (n : Int)).toNat = 64 * n by omega]
    exact rlay_ok a len cap l n w hi hnil h1 h2 h3
  | false =>
    simp only [Bool.false_eq_true, if_false]
    have hcs := layOk_not hi.1 h
    have HF : Hid (LayP w.heap.size w [] 1 (.returned (.tuple #[.slice none 0 0, .int .i64 1])) ∧ Below w.heap.size w w) := Lib.hid ⟨⟨_, rfl, ⟨rfl, .inl ⟨rfl, rfl⟩⟩⟩, Below.refl _ _⟩
    unfold I64 at hc
    clear hi hnil h
    rcases hcs with h | ⟨h, h2⟩ | ⟨h, h2, h3⟩
    · go_enter Tryd.func17, Tryd.ntmps17
      go_wp2
      go_ret2
      exact HF.out
    · go_enter Tryd.func17, Tryd.ntmps17
      go_wp2
      go_ret2
      exact HF.out
    · go_enter Tryd.func17, Tryd.ntmps17
      go_wp2
      go_ret2
      exact HF.out

end Go.Proofs.YtfefjabdfelhnaaDoor
