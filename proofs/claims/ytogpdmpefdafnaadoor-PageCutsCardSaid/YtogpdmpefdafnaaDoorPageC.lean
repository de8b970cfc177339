/- page: Lay. -/
import Derived.Test.YtogpdmpefdafnaaDoorPageB
namespace Go.Proofs.YtogpdmpefdafnaaDoor
open Go Go.RowKit
set_option linter.unusedVariables false

theorem u8size : (Tryd.prog.info? 5).map (·.size) = some 1 := by kernel_rfl
theorem overlay_pad (l : List Nat) (N : Nat) (h : l.length ≤ N) : overlay (List.replicate N 0) l = padTo l N := by
  unfold overlay padTo
  simp only [List.length_replicate]
  rw [List.take_of_length_le h, List.drop_replicate, Nat.min_eq_left h]
theorem Bytes.part {w : World} {b off len : Nat} {l : List Nat} (h : Bytes w (some ⟨b, off, none⟩) len l) (k m : Nat) (hk : k + m ≤ len) : Bytes w (some ⟨b, off + k, none⟩) m ((l.drop k).take m) := (h.dropAt k (by omega)).take (by omega)

theorem chunk_of_row {w : World} {g : Nat} {P : List Nat} {t : TypeId} {fr : Nat × Nat} {N : Nat} (h : w.heap[g]? = some (.cells (u8s P).toArray t fr)) (h8 : ∀ c ∈ P, c < 256) (hl : P.length = N) (q k : Nat) (hq : q = 64 * k) (hN : q + 64 ≤ N) : Bytes w (some ⟨g, q, none⟩) 64 (chunkAt P k) := by
  have hby := bytes_of_row h h8
  rw [hl] at hby
  have := hby.part q 64 hN
  rw [Nat.zero_add] at this
  unfold chunkAt
  rw [← hq]
  exact this

/-- What Lay hands back. -/
def LayP (B : Nat) (w : World) (l : List Nat) (er : Int) (e : Ending) : Prop := ∃ v, e = .returned (.tuple #[v, .int .i64 er]) ∧ w.ownsRow B 5 1 v l.length (u8s l)

set_option maxRecDepth 100000 in
set_option maxHeartbeats 8000000 in
theorem lay_ok (a : Option Addr) (len cap : Nat) (l : List Nat) (c : Nat) (w : World) (hi : Bytes w a len l) (h1 : 1 ≤ c) (h8 : c ≤ 8) (hl : len ≤ 64 * c) (hT : Deb w) :
    Calls Tryd.prog 7 #[.slice a len cap, .int .i64 (c : Int)] w fun e w' => LayP w.heap.size w' (layTo (padTo l (64 * c)) c) 0 e ∧ Below w.heap.size w w' := by
  have HI := Lib.hid hi
  have HT := Lib.hid hT
  have hll := hi.1
  obtain ⟨N, hN⟩ : ∃ N, N = 64 * c := ⟨_, rfl⟩
  have HPad : Hid (overlay (List.replicate N 0) l = padTo l N) := Lib.hid (overlay_pad l N (by omega))
  have HP8 := Lib.hid (padTo_lt hi.2.1 N)
  have HPl := Lib.hid (padTo_len l N (by omega))
  obtain ⟨P, hP⟩ : ∃ P, P = padTo l N := ⟨_, rfl⟩
  rw [← hP] at HPad HP8 HPl
  have HLay : Hid (layTo (padTo l (64 * c)) c = layTo P c) := Lib.hid (by rw [hP, hN])
  obtain ⟨POST, hPOST⟩ : ∃ Q : Ending → World → Prop, Q = fun e w' => LayP w.heap.size w' (layTo (padTo l (64 * c)) c) 0 e ∧ Below w.heap.size w w' := ⟨_, rfl⟩
  rw [← hPOST]
  have HPOST := Lib.hid hPOST
  have HN := Lib.hid hN
  have t1 : (64 : Int) * (c : Int) = (N : Int) := by omega
  have t2 : (len : Int) ≤ (N : Int) := by omega
  have t3 : ¬ ((c : Int) < 1) := by omega
  have t4 : (c : Int) ≤ 8 := by omega
  have t5 : (N : Int) ≤ 512 := by omega
  have hN5 : N ≤ 512 := by omega
  have hN1 : 1 ≤ N := by omega
  clear hi hT hP hPOST hN hl
  go_enter Tryd.func7, Tryd.ntmps7
  go_wp2_with (at_make; refine Stop.mk ?_)
  refine Stop.go ?_
  refine wpList_make_u8 rfl _ _ 22 rfl w.heap.size 5 Tryd.underlying22 Tryd.infoU8 N rfl rfl (by omega) (Nat.le_refl _) ?_
  intro w2 hown2 hgrow2
  have hrow2 := own_full hown2
  have hb2 : Below w.heap.size w w2 := (Below.refl _ _).grown hgrow2 (Nat.le_refl _) (fun k hk => by simp at hk)
  have HY2 := Lib.hid (HI.out.below hb2 (Nat.le_refl _))
  have HRow2 := Lib.hid hrow2
  have HB2 := Lib.hid hb2
  have HRep : Hid (N = (List.replicate N 0).length) := Lib.hid (by simp)
  have hs2 : w.heap.size < w2.heap.size := lt_of_block hrow2
  clear hown2 hgrow2 hrow2 hb2
  go_wp2_with (with_reducible refine wpList_copy_u8 rfl (.tmp 26) (.tmp 27) 22 22 rfl 5 Tryd.underlying22 u8size a N N len cap w.heap.size rfl rfl (List.replicate N 0) 5 HRow2.out HRep.out l HY2.out w.heap.size w2 (Below.refl _ _) (Nat.le_refl _) (fun w3 HRow3 hb3 => Stop.mk ?_))
  refine Stop.go ?_
  have HB3 : Hid (Below w.heap.size w w3) := Lib.hid (HB2.out.trans hb3)
  have hrow3 : w3.heap[w.heap.size]? = some (.cells (u8s P).toArray 5 (0, 0)) := by rw [← HPad.out]; exact HRow3.out
  have HR3 := Lib.hid hrow3
  have hs3 := lt_of_block hrow3
  clear hb3 HRow3 hrow3 HY2 HRow2 HB2 HRep
  go_wp2_with fail
  go_loopw [7, 8] (fun v i wr => ∃ k : Nat, k ≤ c ∧ i = .int .i64 ((64 * k : Nat) : Int) ∧ Hid (wr.ownsRow (w.heap.size + 1) 5 1 v (layTo P k).length (u8s (layTo P k))) ∧ Hid (wr.heap[w.heap.size]? = some (.cells (u8s P).toArray 5 (0, 0))) ∧ Hid (Below w.heap.size w wr)) (fun _ i _ => 600 - (intOf i).toNat)
  case atStart => exact ⟨0, by omega, rfl, Lib.hid ⟨rfl, .inl ⟨rfl, rfl⟩⟩, HR3, HB3⟩
  case round =>
    obtain ⟨k, hk, rfl, HO, HR, HB⟩ := hrel
    obtain ⟨wo, rfl⟩ : ∃ wo : World, wo = wr := ⟨_, rfl⟩
    obtain ⟨q, hq⟩ : ∃ q, q = 64 * k := ⟨_, rfl⟩
    have hlo := lt_of_block HR.out
    by_cases hlt : k < c
    · have hby := bytes_of_row HR.out HP8.out
      rw [HPl.out] at hby
      have hck : chunkAt P k = (P.drop q).take 64 := by unfold chunkAt; rw [hq]
      have hch := hby.part q 64 (by have := HN.out; omega)
      rw [← hck, Nat.zero_add] at hch
      have HCh := Lib.hid hch
      have HCl := Lib.hid (chunk_len P k (by rw [HPl.out]; have := HN.out; omega))
      have HWl : Hid ((wordsOf (chunkAt P k)).length = 8) := Lib.hid (by unfold wordsOf; rw [wordsTo_len, HCl.out])
      have HLl := Lib.hid (layTo_len P k (by rw [HPl.out]; have := HN.out; omega))
      have HNext : Hid (layTo P k ++ chunkAt P k ++ wordsOf (chunkAt P k) ++ [0] = layTo P (k + 1)) := Lib.hid (by rw [layTo]; unfold layChunk; simp)
      have hLk : (layTo P k).length ≤ 1000 := by rw [HLl.out]; omega
      obtain ⟨L, hL⟩ : ∃ L, L = (layTo P k).length := ⟨_, rfl⟩
      have HO1 : Hid (wo.ownsRow (w.heap.size + 1) 5 1 u7 L (u8s (layTo P k))) := Lib.hid (by rw [hL]; exact HO.out)
      rw [← hL] at hLk
      have HLe := Lib.hid hL
      have HTo := Lib.hid (Deb.below HT.out HB.out (Nat.le_refl _))
      have t10 : (q : Int) < (N : Int) := by have := HN.out; omega
      have t11 : (0 : Int) ≤ (q : Int) := by omega
      have t12 : (q : Int) + 64 ≤ (N : Int) := by have := HN.out; omega
      have t13 : ((q : Int)).toNat = q := by omega
      have t14 : ((q : Int) + 64).toNat = q + 64 := by omega
      have t15 : q + 64 ≤ N := by have := HN.out; omega
      have t16 : q + 64 - q = 64 := by omega
      have HQ := Lib.hid hq
      rw [← hq]
      clear hby hck hch hL hq
      go_wp2_with (at_builtin; refine Stop.mk ?_)
      refine Stop.go ?_
      refine wpList_app_u8 rfl _ _ 22 rfl (w.heap.size + 1) 5 Tryd.underlying22 Tryd.infoU8 u7 L (layTo P k) rfl HO1.out _ 64 64 (chunkAt P k) rfl HCh.out (fun h => by simp at h) (by omega) (by omega) ?_
      intro v4 w4 hown4 hgrow4
      have hne4 : some w.heap.size ≠ u7.ownBlock := by
        intro h
        have := (HO.out.lt _ h.symm).1
        omega
      have HR4 : Hid (w4.heap[w.heap.size]? = some (.cells (u8s P).toArray 5 (0, 0))) := Lib.hid ((hgrow4.block _ hlo hne4).trans HR.out)
      have HB4 : Hid (Below w.heap.size w w4) := Lib.hid (HB.out.grown hgrow4 (by omega) (fun j hj => by have := (HO.out.lt j hj).1; omega))
      have HO4 := Lib.hid hown4
      have HCh4 := Lib.hid (chunk_of_row HR4.out HP8.out HPl.out q k HQ.out t15)
      have HT4 := Lib.hid (Deb.below HT.out HB4.out (Nat.le_refl _))
      have hs4 := lt_of_block HR4.out
      clear hown4 hgrow4 hne4
      go_wp2_with fail
      refine (wordsB_any (some ⟨w.heap.size, q, none⟩) 64 64 (chunkAt P k) _ HCh4.out (by omega) (by omega) HT4.out).mono ?_
      rintro e w5 ⟨⟨v5, rfl, a5, c5, rfl, hy5, hn5, _⟩, hb5⟩
      have HO5 := Lib.hid (own_below HO4.out hb5 (Nat.le_refl _))
      have HY5 := Lib.hid hy5
      have HR5 : Hid (w5.heap[w.heap.size]? = some (.cells (u8s P).toArray 5 (0, 0))) := Lib.hid ((hb5.block _ hs4).trans HR4.out)
      have HB5 : Hid (Below w.heap.size w w5) := Lib.hid (HB4.out.trans (hb5.mono (by omega)))
      have hs5 := lt_of_block HR5.out
      obtain ⟨m, hm⟩ : ∃ m, m = (wordsOf (chunkAt P k)).length := ⟨_, rfl⟩
      have hm8 : m = 8 := by rw [hm, HWl.out]
      have HM := Lib.hid hm
      have HM8 := Lib.hid hm8
      have hmle : m ≤ 8 := by omega
      rw [← hm] at HY5
      clear hb5 hy5 hm8
      go_wp2_with (at_builtin; refine Stop.mk ?_)
      refine Stop.go ?_
      refine wpList_app_u8 rfl _ _ 22 rfl (w.heap.size + 1) 5 Tryd.underlying22 Tryd.infoU8 v4 (L + 64) (layTo P k ++ chunkAt P k) rfl HO5.out a5 m c5 (wordsOf (chunkAt P k)) (by rw [hm]; rfl) HY5.out hn5 (by omega) (by omega) ?_
      intro v6 w6 hown6 hgrow6
      have hne6 : some w.heap.size ≠ v4.ownBlock := by
        intro h
        have := (HO5.out.lt _ h.symm).1
        omega
      have HR6 : Hid (w6.heap[w.heap.size]? = some (.cells (u8s P).toArray 5 (0, 0))) := Lib.hid ((hgrow6.block _ hs5 hne6).trans HR5.out)
      have HB6 : Hid (Below w.heap.size w w6) := Lib.hid (HB5.out.grown hgrow6 (by omega) (fun j hj => by have := (HO5.out.lt j hj).1; omega))
      have HO6 := Lib.hid hown6
      have hs6 := lt_of_block HR6.out
      clear hown6 hgrow6 hne6 hm
      go_wp2_with (at_builtin; refine Stop.mk ?_)
      refine Stop.go ?_
      refine wpList_app_u8 rfl _ _ 22 rfl (w.heap.size + 1) 5 Tryd.underlying22 Tryd.infoU8 v6 (L + 64 + m) (layTo P k ++ chunkAt P k ++ wordsOf (chunkAt P k)) rfl (HO6.out.alloc _) (some ⟨w6.heap.size, 0, none⟩) 1 1 [0] rfl (bytes_lit1 (x := 0) (by omega)) (fun h => by simp at h) (by omega) (by simp; omega) ?_
      intro v7 w7 hown7 hgrow7
      rw [HNext.out] at hown7
      have hne7 : some w.heap.size ≠ v6.ownBlock := by
        intro h
        have := (HO6.out.lt _ h.symm).1
        omega
      have HR7 : Hid (w7.heap[w.heap.size]? = some (.cells (u8s P).toArray 5 (0, 0))) := Lib.hid ((hgrow7.block _ (by simp; omega) hne7).trans (((Below.refl w6.heap.size w6).alloc (Nat.le_refl _) _).block _ hs6 |>.trans HR6.out))
      have HB7 : Hid (Below w.heap.size w w7) := Lib.hid ((HB6.out.alloc (by omega) _).grown hgrow7 (by simp; omega) (fun j hj => by have := (HO6.out.lt j hj).1; omega))
      have HO7 : Hid (w7.ownsRow (w.heap.size + 1) 5 1 v7 (layTo P (k + 1)).length (u8s (layTo P (k + 1)))) := Lib.hid (by
        have hl := layTo_len P (k + 1) (by rw [HPl.out]; have := HN.out; omega)
        have h2 := HLl.out
        have h3 := HLe.out
        have h4 := HM8.out
        rw [hl, show 73 * (k + 1) = L + 64 + m + 1 by omega]
        exact hown7)
      clear hown7 hgrow7 hne7
      go_wp2
      go_roundw
      case rel => exact ⟨k + 1, by omega, by have := HQ.out; go_num, HO7, HR7, HB7⟩
      case measure => have := HQ.out; simp [intOf]; omega
    · obtain rfl : k = c := by omega
      have hfin : POST (.returned (.tuple #[u7, .int .i64 0])) wo := by
        rw [HPOST.out]
        exact ⟨⟨u7, rfl, by rw [HLay.out]; exact own_mono HO.out (by omega)⟩, HB.out⟩
      have HFin := Lib.hid hfin
      have t10 : ¬ ((q : Int) < (N : Int)) := by have := HN.out; omega
      have t11 : (q : Int) ≤ 600 := by have := HN.out; omega
      rw [← hq]
      clear hfin hq
      go_wp2
      first | exact HFin.out | (go_ret2; exact HFin.out)

end Go.Proofs.YtogpdmpefdafnaaDoor
