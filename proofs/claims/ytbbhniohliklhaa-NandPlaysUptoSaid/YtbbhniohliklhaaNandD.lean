/- nand: slices.Clone, slices.Repeat; raw. -/
import Derived.Test.YtbbhniohliklhaaNandC
import Derived.Test.YtbbhniohliklhaaHeld
import Derived.Lib.EndianBits
namespace Go.Proofs.Ytbbhniohliklhaa
open Go Go.RowKit
set_option linter.unusedVariables false

theorem u8size : (Try.prog.info? 5).map (·.size) = some 1 := by kernel_rfl

set_option maxRecDepth 100000 in
set_option maxHeartbeats 2000000 in
theorem nclone_any (ad : Addr) (len cap : Nat) (l : List Nat) (w : World) (hi : Bytes w (some ad) len l) (hl : len ≤ 1000000) :
    Calls Try.prog 47 #[.slice (some ad) len cap] w fun e w' => (∃ v, e = .returned v ∧ w'.ownsRow w.heap.size 5 1 v len (u8s l)) ∧ Below w.heap.size w w' := by
  have heq := fun w => Lib.run_eql_slice_nil (P := Try.prog) w 29 5 (some ad) len cap 0 0 Try.underlying29
  obtain ⟨POST, hPOST⟩ : ∃ Q : Ending → World → Prop, Q = fun e w' => (∃ v, e = .returned v ∧ w'.ownsRow w.heap.size 5 1 v len (u8s l)) ∧ Below w.heap.size w w' := ⟨_, rfl⟩
  rw [← hPOST]
  have HPOST := Lib.hid hPOST
  have HI := Lib.hid hi
  clear hPOST hi
  go_enter Try.func47, Try.ntmps47
  go_wp2_with (first | (at_builtin; refine Stop.mk ?_) | (at_make; refine Stop.mk ?_))
  refine Stop.go ?_
  refine wpList_app_u8 rfl _ _ 29 rfl w.heap.size 5 Try.underlying29 Try.infoU8 (.slice (some ⟨w.heap.size, 0, none⟩) 0 0) 0 [] rfl (own_empty (Nat.le_refl _)) (some ad) len cap l rfl (HI.out.alloc _) (fun h => by cases h) (by omega) (by simp) ?_
  intro v w1 hown hgrow
  rw [Nat.zero_add, List.nil_append] at hown
  have hb : Below w.heap.size w w1 := ((Below.refl _ _).alloc (Nat.le_refl _) _).grown hgrow (by simp) (fun k hk => by simp [Value.ownBlock] at hk; omega)
  have HO := Lib.hid hown
  have HB := Lib.hid hb
  clear hown hgrow hb
  go_wp2
  rw [HPOST.out]
  exact ⟨⟨_, rfl, HO.out⟩, HB.out⟩

theorem nmul64_any (N : Nat) (w : World) (hN : N ≤ 1000) :
    Calls Try.prog 59 #[.int .u64 1, .int .u64 (N : Int)] w fun e w' => e = .returned (.tuple #[.int .u64 0, .int .u64 (N : Int)]) ∧ w = w' := by
  have a1 : bits .and .u64 (1 : Int) 4294967295 = 1 := by decide
  have a2 : bits .and .u64 (N : Int) 4294967295 = (N : Int) := by
    have h := bits_nat .u64 64 (by decide) wraps_u64 N 4294967295 (by omega) (by omega)
    have h2 := h.1
    rw [show (4294967295 : Int) = ((4294967295 : Nat) : Int) by rfl]
    rw [h2, show (4294967295 : Nat) = 2 ^ 32 - 1 by rfl, Nat.and_two_pow_sub_one_eq_mod, Nat.mod_eq_of_lt (by omega)]
  have a3 : (N : Int) / 4294967296 = 0 := by omega
  have a4 : bits .and .u64 (0 : Int) 4294967295 = 0 := by decide
  go_enter Try.func59, Try.ntmps59
  go_wp2_with fail
  go_ret2
  exact ⟨rfl, rfl⟩
theorem nmul_any (N : Nat) (w : World) (hN : N ≤ 1000) :
    Calls Try.prog 56 #[.int .u64 1, .int .u64 (N : Int)] w fun e w' => e = .returned (.tuple #[.int .u64 0, .int .u64 (N : Int)]) ∧ w = w' := by
  have HC := Lib.hid (fun w => nmul64_any N w hN)
  go_enter Try.func56, Try.ntmps56
  go_wp2_with fail
  refine (HC.out _).mono ?_
  rintro e w1 ⟨rfl, rfl⟩
  go_wp2_with fail
  go_ret2
  exact ⟨rfl, rfl⟩
/-- Bytes FF so far, then 0. -/
def ffTo (N n : Nat) : List Nat := List.replicate n 255 ++ List.replicate (N - n) 0
theorem ffTo_len (N n : Nat) (h : n ≤ N) : (ffTo N n).length = N := by simp [ffTo]; omega
theorem ffTo_splice (N n m : Nat) (h : n + m ≤ N) : splice (u8s (ffTo N n)) n (u8s (List.replicate m 255)) = u8s (ffTo N (n + m)) := by
  unfold splice ffTo
  simp only [u8s, List.map_append, List.map_replicate, List.length_replicate, List.take_append, List.drop_append, List.take_replicate, List.drop_replicate, Nat.min_self]
  rw [show n - n = 0 by omega, show min 0 (N - n) = 0 by omega, show n - (n + m) = 0 by omega, show n + m - n = m by omega]
  simp only [List.replicate_zero, List.append_nil, List.nil_append]
  rw [← List.append_assoc, List.replicate_append_replicate, show N - n - m = N - (n + m) by omega]
theorem ffTo_all (N : Nat) : ffTo N N = List.replicate N 255 := by simp [ffTo]
theorem ffTo_one (N : Nat) (h : 1 ≤ N) : overlay (List.replicate N 0) [255] = ffTo N 1 := by
  unfold overlay ffTo
  simp only [List.length_replicate, List.length_cons, List.length_nil, List.drop_replicate]
  rw [List.take_of_length_le (by simp; omega), show min (0 + 1) N = 1 by omega]
  rfl

set_option maxRecDepth 100000 in
set_option maxHeartbeats 4000000 in
theorem nrepeat_any (b : Nat) (N : Nat) (w : World) (hi : Bytes w (some ⟨b, 0, none⟩) 1 [255]) (h1 : 1 ≤ N) (hN : N ≤ 1000) :
    Calls Try.prog 48 #[.slice (some ⟨b, 0, none⟩) 1 1, .int .i64 (N : Int)] w fun e w' => (∃ v, e = .returned v ∧ w'.ownsRow w.heap.size 5 1 v N (u8s (List.replicate N 255))) ∧ Below w.heap.size w w' := by
  have HC := Lib.hid (fun w => nmul_any N w hN)
  obtain ⟨POST, hPOST⟩ : ∃ Q : Ending → World → Prop, Q = fun e w' => (∃ v, e = .returned v ∧ w'.ownsRow w.heap.size 5 1 v N (u8s (List.replicate N 255))) ∧ Below w.heap.size w w' := ⟨_, rfl⟩
  rw [← hPOST]
  have HPOST := Lib.hid hPOST
  have HI := Lib.hid hi
  have t1 : ¬ ((N : Int) < 0) := by omega
  have t2 : (0 : Int) ≤ (N : Int) := by omega
  have e1 : IntKind.u64.wrap (N : Int) = (N : Int) := wraps_u64 _ (by omega) (by omega)
  have e2 : IntKind.i64.wrap (N : Int) = (N : Int) := wr64' _ (by omega) (by omega)
  have HOne := Lib.hid (ffTo_one N h1)
  clear hPOST hi
  go_enter Try.func48, Try.ntmps48
  go_wp2_with fail
  refine (HC.out _).mono ?_
  rintro e w1 ⟨rfl, rfl⟩
  go_wp2_with (at_make; refine Stop.mk ?_)
  refine Stop.go ?_
  refine wpList_make_u8 rfl _ _ 29 rfl w.heap.size 5 Try.underlying29 Try.infoU8 N rfl rfl (by omega) (Nat.le_refl _) ?_
  intro w2 hown2 hgrow2
  have hrow2 := own_full hown2
  have hb2 : Below w.heap.size w w2 := (Below.refl _ _).grown hgrow2 (Nat.le_refl _) (fun k hk => by simp at hk)
  have HI2 := Lib.hid (HI.out.below hb2 (Nat.le_refl _))
  have HRow2 := Lib.hid hrow2
  have HB2 := Lib.hid hb2
  have HRep : Hid (N = (List.replicate N 0).length) := Lib.hid (by simp)
  clear hown2 hgrow2 hrow2 hb2
  go_wp2_with (with_reducible refine wpList_copy_u8 rfl (.tmp 31) (.tmp 32) 29 29 rfl 5 Try.underlying29 u8size (some ⟨b, 0, none⟩) N N 1 1 w.heap.size rfl rfl (List.replicate N 0) 5 HRow2.out HRep.out [255] HI2.out w.heap.size w2 (Below.refl _ _) (Nat.le_refl _) (fun w3 HRow3 hb3 => Stop.mk ?_))
  refine Stop.go ?_
  have HB3 : Hid (Below w.heap.size w w3) := Lib.hid (HB2.out.trans hb3)
  have hrow3 := HRow3.out
  rw [HOne.out] at hrow3
  have HR3 := Lib.hid hrow3
  clear hb3 HRow3 hrow3 HI2 HRow2 HB2 HRep HOne
  go_wp2_with fail
  go_loopw [8] (fun i wr => ∃ n : Nat, 1 ≤ n ∧ n ≤ N ∧ i = .int .i64 (n : Int) ∧ Hid (wr.heap[w.heap.size]? = some (.cells (u8s (ffTo N n)).toArray 5 (0, 0))) ∧ Hid (Below w.heap.size w wr)) (fun i _ => N - (intOf i).toNat)
  case atStart => exact ⟨1, by omega, h1, rfl, HR3, HB3⟩
  case round =>
    clear HR3 HB3
    obtain ⟨n, hn1, hnN, rfl, HR, HB⟩ := hrel
    obtain ⟨wo, rfl⟩ : ∃ wo : World, wo = wr := ⟨_, rfl⟩
    by_cases hlt : n < N
    · have t3 : (n : Int) < (N : Int) := by omega
      have t4 : (0 : Int) ≤ (n : Int) ∧ (n : Int) ≤ (N : Int) := by omega
      have t5 : ((n : Int)).toNat = n := by omega
      obtain ⟨m, hm⟩ : ∃ m, m = min n (N - n) := ⟨_, rfl⟩
      have tN : ¬ (N = n) := by omega
      have hspl := ffTo_splice N n m (by omega)
      have hcn : (u8s (List.replicate m 255)).length = Nat.min n (N - n) := by rw [u8s_len, List.length_replicate]; exact hm
      have hlenm : (u8s (List.replicate m 255)).length = m := by rw [u8s_len, List.length_replicate]
      have hfit : n + (u8s (List.replicate m 255)).length ≤ (u8s (ffTo N n)).length := by rw [u8s_len, u8s_len, List.length_replicate, ffTo_len N n hnN]; omega
      have HRd : Hid (wo.drew.heap[w.heap.size]? = some (.cells (u8s (ffTo N n)).toArray 5 (0, 0))) := HR
      have HBd : Hid (Below w.heap.size w wo.drew) := Lib.hid HB.out.drew
      have HSrc : Hid (∀ (j : Nat) (v : Value), (u8s (List.replicate m 255))[j]? = some v → wo.drew.cell? ((⟨w.heap.size, 0, none⟩ : Addr).add j) = some v) := Lib.hid (fun j v hj => by
        have hjm : j < m := by have := (List.getElem?_eq_some_iff.1 hj).1; rwa [hlenm] at this
        rw [Go.WideShapes.add_plain, Nat.zero_add, cell_of_row _ _ _ _ _ _ HRd.out]
        rw [← hj]
        simp [u8s, ffTo, List.getElem?_append, List.getElem?_replicate, show j < n by omega, hjm])
      have hm1 : 1 ≤ m := by omega
      have hmN : n + m ≤ N := by omega
      obtain ⟨k2, hk2⟩ : ∃ k2, k2 = n + m := ⟨_, rfl⟩
      have hw2 : IntKind.i64.wrap ((n : Int) + (m : Int)) = (k2 : Int) := by rw [wr64' _ (by omega) (by omega)]; omega
      rw [← hk2] at hspl hmN
      have hkn : n < k2 := by omega
      clear hk2
      clear hm
      go_wp2_with fail
      refine wp_region_held_drew (S := (fun _ => True)) (by kernel_rfl) (trivial) (fun hHeld => ?_)
      refine held_take 0 (v := ?_) rfl (by kernel_rfl) (by kernel_rfl) (by kernel_rfl) (fun _ _ _ h => h) (by rfl) (fun w hS => ?_) (by assumption) ?_
      rotate_left
      · try dsimp only at hS
        go_simp <;> with_reducible rfl
      try simp only [Act.put, List.setIfInBounds_toArray, List.set_cons_zero, List.set_cons_succ]
      refine held_take 1 (v := ?_) rfl (by kernel_rfl) (by kernel_rfl) (by kernel_rfl) (fun _ _ _ h => h) (by rfl) (fun w hS => ?_) (by assumption) ?_
      rotate_left
      · try dsimp only at hS
        go_simp <;> with_reducible rfl
      try simp only [Act.put, List.setIfInBounds_toArray, List.set_cons_zero, List.set_cons_succ]
      refine held_take 2 (v := ?_) rfl (by kernel_rfl) (by kernel_rfl) (by kernel_rfl) (fun _ _ _ h => h) (by rfl) (fun w hS => ?_) (by assumption) ?_
      rotate_left
      · try dsimp only at hS
        go_simp <;> with_reducible rfl
      try simp only [Act.put, List.setIfInBounds_toArray, List.set_cons_zero, List.set_cons_succ]
      refine held_take 3 (v := ?_) rfl (by kernel_rfl) (by kernel_rfl) (by kernel_rfl) (fun _ _ _ h => h) (by rfl) (fun w hS => ?_) (by assumption) ?_
      rotate_left
      · try dsimp only at hS
        go_simp <;> with_reducible rfl
      try simp only [Act.put, List.setIfInBounds_toArray, List.set_cons_zero, List.set_cons_succ]
      refine held_take 4 (v := ?_) rfl (by kernel_rfl) (by kernel_rfl) (by kernel_rfl) (fun _ _ _ h => h) (by rfl) (fun w hS => ?_) (by assumption) ?_
      rotate_left
      · try dsimp only at hS
        go_simp <;> with_reducible rfl
      try simp only [Act.put, List.setIfInBounds_toArray, List.set_cons_zero, List.set_cons_succ]
      refine held_take 5 (v := ?_) rfl (by kernel_rfl) (by kernel_rfl) (by kernel_rfl) (fun _ _ _ h => h) (by rfl) (fun w hS => ?_) (by assumption) ?_
      rotate_left
      · try dsimp only at hS
        go_simp <;> with_reducible rfl
      try simp only [Act.put, List.setIfInBounds_toArray, List.set_cons_zero, List.set_cons_succ]
      refine held_take 6 (v := ?_) rfl (by kernel_rfl) (by kernel_rfl) (by kernel_rfl) (fun _ _ _ h => h) (by rfl) (fun w hS => ?_) (by assumption) ?_
      rotate_left
      · try dsimp only at hS
        go_simp <;> with_reducible rfl
      try simp only [Act.put, List.setIfInBounds_toArray, List.set_cons_zero, List.set_cons_succ]
      refine held_one 7 rfl (by kernel_rfl) (fun K hK => ?_)
      refine step_copy_splice rfl (.tmp 41) (.tmp 44) 29 29 rfl 5 Try.underlying29 u8size (some ⟨w.heap.size, n, none⟩) (some ⟨w.heap.size, 0, none⟩) (N - n) (N - n) n N rfl rfl w.heap.size n (u8s (ffTo N n)) 5 HRd.out (u8s (List.replicate m 255)) hcn (fun _ => ⟨rfl, _, rfl, HSrc.out⟩) hfit (u8s_one _) w.heap.size w HBd.out (Nat.le_refl _) ?_
      intro w4 hg4 hb4
      rw [hspl] at hg4
      rw [hlenm]
      refine hK.out _ _ (fun _ => True) (fun _ _ => trivial) trivial (fun hHeld => ?_)
      clear hK K
      try simp only [Act.put, List.setIfInBounds_toArray, List.set_cons_zero, List.set_cons_succ]
      refine held_take 8 (v := ?_) rfl (by kernel_rfl) (by kernel_rfl) (by kernel_rfl) (fun _ _ _ h => h) (by rfl) (fun w hS => ?_) (by assumption) ?_
      rotate_left
      · try dsimp only at hS
        go_simp <;> with_reducible rfl
      try simp only [Act.put, List.setIfInBounds_toArray, List.set_cons_zero, List.set_cons_succ]
      refine held_take 9 (v := ?_) rfl (by kernel_rfl) (by kernel_rfl) (by kernel_rfl) (fun _ _ _ h => h) (by rfl) (fun w hS => ?_) (by assumption) ?_
      rotate_left
      · try dsimp only at hS
        go_simp <;> with_reducible rfl
      try simp only [Act.put, List.setIfInBounds_toArray, List.set_cons_zero, List.set_cons_succ]
      refine held_done (by kernel_rfl) ?_
      have HR4 := hg4
      have HB4 := Lib.hid hb4
      clear hg4 hb4 hcn hfit
      go_wp2_with fail
      go_roundw
      case rel => exact ⟨k2, by omega, hmN, rfl, HR4, HB4⟩
      case measure => simp [intOf]; omega
    · obtain rfl : n = N := by omega
      have hrow := HR.out
      rw [ffTo_all] at hrow
      have HO : Hid (wo.ownsRow w.heap.size 5 1 (.slice (some ⟨w.heap.size, 0, none⟩) n n) n (u8s (List.replicate n 255))) := Lib.hid (by
        refine ⟨by simp [u8s], .inr ⟨w.heap.size, n, _, rfl, Nat.le_refl _, hrow, Nat.le_refl _, by unfold maxLen; omega, by simp [u8s], by simp [u8s]⟩⟩)
      clear hrow HR
      go_wp2_with fail
      rw [HPOST.out]
      exact ⟨⟨_, rfl, HO.out⟩, HB.out⟩
end Go.Proofs.Ytbbhniohliklhaa
