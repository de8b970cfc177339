/- ecc: nought. -/
import Derived.Test.YtogpdmpefdafnaaDoorEccU
import Derived.Test.YtogpdmpefdafnaaDoorHeld
namespace Go.Proofs.YtogpdmpefdafnaaDoor
open Go Go.RowKit
set_option linter.unusedVariables false

/-! ### two arrays of bytes (natural numbers) are compared -/
def toU (l : List Nat) : List UInt8 := l.map fun n => UInt8.ofNat n
theorem toU_cell {l : List Nat} (h : ∀ c ∈ l, c < 256) : (toU l).map Go.Extern.Stop.cell = u8s l := by
  unfold toU u8s
  rw [List.map_map]
  refine List.map_congr_left fun x hx => ?_
  have := h x hx
  simp [Function.comp, Go.Extern.Stop.cell, Nat.mod_eq_of_lt this]
theorem toU_inj {xs ys : List Nat} (hx : ∀ c ∈ xs, c < 256) (hy : ∀ c ∈ ys, c < 256) (h : toU xs = toU ys) : xs = ys := by
  have e : ∀ l : List Nat, (∀ c ∈ l, c < 256) → (toU l).map UInt8.toNat = l := by
    intro l hl
    unfold toU
    rw [List.map_map]
    have hid := List.map_id l
    have hc : l.map (UInt8.toNat ∘ fun n => UInt8.ofNat n) = l.map id := List.map_congr_left fun x hx => by
      simp [Function.comp, Nat.mod_eq_of_lt (hl x hx)]
    rw [hc, hid]
  have h2 := congrArg (List.map UInt8.toNat) h
  rwa [e xs hx, e ys hy] at h2
theorem toU_beq {xs ys : List Nat} (hx : ∀ c ∈ xs, c < 256) (hy : ∀ c ∈ ys, c < 256) : (toU xs == toU ys) = decide (xs = ys) := by
  rw [Bool.eq_iff_iff]
  simp only [beq_iff_eq, decide_eq_true_eq]
  exact ⟨fun h => toU_inj hx hy h, fun h => by rw [h]⟩
theorem eql_u8s (t : TypeId) (n : Nat) (ht : Tryd.prog.underlying t = some (.array n 5)) (xs ys : List Nat) (hx : ∀ c ∈ xs, c < 256) (hy : ∀ c ∈ ys, c < 256) (lx : xs.length = n) (ly : ys.length = n) (w : World) :
    (binOp .eql t (.agg (u8s xs).toArray) (.agg (u8s ys).toArray)).run Tryd.prog w = .ok (.bool (decide (xs = ys))) w := by
  have h := run_eql_bytes (P := Tryd.prog) w t 5 n ht Tryd.underlying5 (fun w => by kernel_rfl) (toU xs) (toU ys) (by simp [toU, lx]) (by simp [toU, ly])
  rw [toU_cell hx, toU_cell hy, toU_beq hx hy] at h
  exact h

theorem digits_zero : ∀ (m y : Nat), y < 256 ^ m → (∀ j, j < m → byteN y j = 0) → y = 0
  | 0, y, h, _ => by simp at h; exact h
  | m + 1, y, h, hd => by
    have h0 := hd 0 (by omega)
    unfold byteN at h0
    simp only [Nat.pow_zero, Nat.div_one] at h0
    have h1 : y / 256 = 0 := digits_zero m (y / 256) (by rw [Nat.pow_succ] at h; exact Nat.div_lt_of_lt_mul (by omega)) (fun j hj => by
      have := hd (j + 1) (by omega)
      unfold byteN at this ⊢
      rw [Nat.div_div_eq_div_mul, Nat.mul_comm 256, ← Nat.pow_succ]
      exact this)
    omega
/-- A number whose bytes from k on are 0. -/
theorem nought_iff (x k : Nat) (hk : k ≤ 8) (hx : x < 18446744073709551616) : decide (bytesN x 8 = (bytesN x 8).take k ++ List.replicate (8 - k) 0) = decide (x < 256 ^ k) := by
  rw [Bool.eq_iff_iff]
  simp only [decide_eq_true_eq]
  have hlen := bytesN_len x 8
  constructor
  · intro h
    have hz : ∀ j, k ≤ j → j < 8 → byteN x j = 0 := by
      intro j h1 h2
      have e := bytesN_get x 8 j h2
      rw [h] at e
      have e2 : ((bytesN x 8).take k ++ List.replicate (8 - k) 0).getD j 0 = 0 := by
        simp only [List.getD]
        rw [List.getElem?_append_right (by simp [hlen]; omega)]
        simp only [List.getElem?_replicate]
        split <;> rfl
      omega
    have h8 : x / 256 ^ k < 256 ^ (8 - k) := by
      apply Nat.div_lt_of_lt_mul
      rw [← Nat.pow_add, show k + (8 - k) = 8 by omega]
      exact hx
    have hq := digits_zero (8 - k) (x / 256 ^ k) h8 (fun j hj => by
      have := hz (k + j) (by omega) (by omega)
      unfold byteN at this ⊢
      rw [Nat.div_div_eq_div_mul, ← Nat.pow_add]
      exact this)
    rcases Nat.lt_or_ge x (256 ^ k) with q | q
    · exact q
    · have := Nat.div_pos q (Nat.pow_pos (by omega))
      omega
  · intro h
    apply List.ext_getElem?
    intro j
    by_cases hj : j < 8
    · by_cases hjk : j < k
      · rw [List.getElem?_append_left (by simp [hlen]; omega), List.getElem?_take_of_lt hjk]
      · rw [List.getElem?_append_right (by simp [hlen]; omega)]
        have hb : byteN x j = 0 := by
          unfold byteN
          have : 256 ^ k ≤ 256 ^ j := Nat.pow_le_pow_right (by omega) (by omega)
          rw [Nat.div_eq_of_lt (by omega)]
        have e1 : (bytesN x 8)[j]? = some 0 := by simp [bytesN, hj, hb]
        rw [e1, List.getElem?_replicate, if_pos (by simp [hlen]; omega)]
    · rw [List.getElem?_eq_none (by omega), List.getElem?_eq_none (by simp [hlen]; omega)]

theorem zeros_drop (k : Nat) : List.drop k (u8s (List.replicate 8 0)) = u8s (List.replicate (8 - k) 0) := by
  unfold u8s
  rw [← List.map_drop, List.drop_replicate]

set_option maxRecDepth 100000 in
set_option maxHeartbeats 2000000 in
theorem nought_any (x k : Nat) (hk : k ≤ 8) (hx : x < 18446744073709551616) (w : World) :
    Calls Tryd.prog 18 #[.agg (arr8 x), .int .i64 (k : Int)] w fun e w' => e = .returned (.bool (decide (x < 256 ^ k))) ∧ Below w.heap.size w w' := by
  have hlen8 := bytesN_len x 8
  have htk : ((bytesN x 8).take k).length = k := by simp [hlen8]; omega
  have hZ : (((w.alloc (.cells (arr8 x) 45)).alloc (.cells (u8s (List.replicate 8 0)).toArray 45)).drew).heap[w.heap.size + 1]? = some (.cells (u8s (List.replicate 8 0)).toArray 45 (0, 0)) := heap_alloc2_new w _ _
  have hA : (((w.alloc (.cells (arr8 x) 45)).alloc (.cells (u8s (List.replicate 8 0)).toArray 45)).drew).heap[w.heap.size]? = some (.cells (arr8 x) 45 (0, 0)) := heap_alloc2_old w _ _
  have hsrc : ∀ j v, (u8s ((bytesN x 8).take k))[j]? = some v → (((w.alloc (.cells (arr8 x) 45)).alloc (.cells (u8s (List.replicate 8 0)).toArray 45)).drew).cell? ((⟨w.heap.size, 0, none⟩ : Addr).add j) = some v := by
    intro j v hj
    rw [Go.WideShapes.add_plain, Nat.zero_add, cell_of_row _ _ j _ _ _ hA]
    have hjk : j < k := by
      have := (List.getElem?_eq_some_iff.1 hj).1
      simp [u8s, hlen8] at this
      omega
    have : (arr8 x)[j]? = (u8s (bytesN x 8))[j]? := by rw [← arr8_list]; simp
    rw [this, ← hj]
    simp [u8s, List.getElem?_take_of_lt hjk]
  have HZ := Lib.hid hZ
  have HSrc := Lib.hid hsrc
  have HA := Lib.hid hA
  have HLen : Hid ((u8s ((bytesN x 8).take k)).length = Nat.min k 8) := Lib.hid (by rw [u8s_len, htk]; exact (Nat.min_eq_left hk).symm)
  have HFit : Hid (0 + (u8s ((bytesN x 8).take k)).length ≤ (u8s (List.replicate 8 0)).length) := Lib.hid (by rw [u8s_len, htk]; simp [u8s]; exact hk)
  have HSp : Hid (splice (u8s (List.replicate 8 0)) 0 (u8s ((bytesN x 8).take k)) = u8s ((bytesN x 8).take k ++ List.replicate (8 - k) 0)) := Lib.hid (by
    unfold splice
    rw [u8s_len, htk, Nat.zero_add, zeros_drop k, List.take_zero, List.nil_append, u8s_append])
  have HEql := Lib.hid (fun w' => eql_u8s 45 8 Tryd.underlying45 (bytesN x 8) ((bytesN x 8).take k ++ List.replicate (8 - k) 0) (bytesN_lt x 8) (by
    intro c hc
    rcases List.mem_append.1 hc with q | q
    · exact bytesN_lt x 8 c (List.mem_of_mem_take q)
    · have := List.eq_of_mem_replicate q; omega) hlen8 (by simp [hlen8]; omega) w')
  have hno := nought_iff x k hk hx
  obtain ⟨r, hr⟩ : ∃ r, r = decide (x < 256 ^ k) := ⟨_, rfl⟩
  rw [← hr] at hno ⊢
  have HNought := Lib.hid hno
  clear hno hr
  have HI := Lib.hid info_arr8
  have t1 : (0 : Int) ≤ (k : Int) := by omega
  have t2 : (k : Int) ≤ 8 := by omega
  clear hlen8 htk hZ hsrc hA
  go_enter Tryd.func18, Tryd.ntmps18
  go_wp2_with fail
  refine wp_region_held_drew (S := (fun _ => True)) (by kernel_rfl) (trivial) (fun hHeld => ?_)
  refine held_take 0 (v := ?_) rfl (by kernel_rfl) (by kernel_rfl) (by kernel_rfl) (fun _ _ _ h => h) (by rfl) (fun w hS => ?_) (by assumption) ?_
  rotate_left
  · try dsimp only at hS
    go_simp <;> with_reducible rfl
  try simp only [Act.put, List.setIfInBounds_toArray, List.set_cons_zero, List.set_cons_succ]
  refine held_take 1 (v := ?_) rfl (by kernel_rfl) (by kernel_rfl) (by kernel_rfl) (fun _ _ _ h => h) (by rfl) (fun w hS => ?_) (by assumption) ?_
  rotate_left
  · try dsimp only at hS
    go_simp <;> with_reducible rfl
  try simp only [Act.put, List.setIfInBounds_toArray, List.set_cons_zero, List.set_cons_succ]
  refine held_take 2 (v := ?_) rfl (by kernel_rfl) (by kernel_rfl) (by kernel_rfl) (fun _ _ _ h => h) (by rfl) (fun w hS => ?_) (by assumption) ?_
  rotate_left
  · try dsimp only at hS
    go_simp <;> with_reducible rfl
  try simp only [Act.put, List.setIfInBounds_toArray, List.set_cons_zero, List.set_cons_succ]
  refine held_one 3 rfl (by kernel_rfl) (fun K hK => ?_)
  refine step_copy_splice rfl _ _ 22 22 rfl 5 Tryd.underlying22 (by kernel_rfl) _ _ 8 8 k 8 rfl rfl (w.heap.size + 1) 0 (u8s (List.replicate 8 0)) 45 HZ.out (u8s ((bytesN x 8).take k)) HLen.out (fun _ => ⟨rfl, _, rfl, HSrc.out⟩) HFit.out (u8s_one _) (w.heap.size + 1) _ (Below.refl _ _) (Nat.le_refl _) ?_
  intro w2 hcell hbel
  have HCell := Lib.hid hcell.out
  have HBel := Lib.hid hbel
  clear hcell hbel
  refine hK.out _ _ (fun _ => True) (fun _ h => h) trivial (fun hHeld => ?_)
  clear hK K
  try simp only [Act.put, List.setIfInBounds_toArray, List.set_cons_zero, List.set_cons_succ]
  refine held_done (by kernel_rfl) ?_
  have hA2 : w2.heap[w.heap.size]? = some (.cells (arr8 x) 45 (0, 0)) := (HBel.out.block w.heap.size (by omega)).trans HA.out
  have hC2 : w2.heap[w.heap.size + 1]? = some (.cells (u8s ((bytesN x 8).take k ++ List.replicate (8 - k) 0)).toArray 45 (0, 0)) := by rw [← HSp.out]; exact HCell.out
  have HA2 := Lib.hid hA2
  have HC2 := Lib.hid hC2
  have HB2 := Lib.hid ((((Below.refl w.heap.size w).alloc (Nat.le_refl _) (.cells (arr8 x) 45)).alloc (by simp) (.cells (u8s (List.replicate 8 0)).toArray 45)).drew.trans (HBel.out.mono (by omega)))
  clear hA2 hC2
  have heql : ∀ w', (binOp .eql 45 (.agg (arr8 x)) (.agg (u8s ((bytesN x 8).take k ++ List.replicate (8 - k) 0)).toArray)).run Tryd.prog w' = .ok (.bool r) w' := fun w' => by
    rw [← HNought.out]; exact HEql.out w'
  obtain ⟨D, hD⟩ : ∃ D, D = (u8s ((bytesN x 8).take k ++ List.replicate (8 - k) 0)).toArray := ⟨_, rfl⟩
  have hDs : (Tryd.prog.info? 45).map (·.size) = some D.size := by rw [hD, HI.out]; simp [u8s_len, bytesN_len]; omega
  have hAs : (Tryd.prog.info? 45).map (·.size) = some (arr8 x).size := by rw [HI.out]; rfl
  rw [← hD] at heql HC2
  obtain ⟨E, hE⟩ : ∃ E, E = arr8 x := ⟨_, rfl⟩
  rw [← hE] at heql HA2 hAs ⊢
  have HDs := Lib.hid hDs
  have HAs := Lib.hid hAs
  clear hD hE hDs hAs HSp HA HZ HSrc HCell HEql HLen HFit HNought
  go_wp2_with (first | (with_reducible refine wpList_load_row rfl 45 (.tmp 2) rfl w.heap.size rfl 45 E (0, 0) _ HA2.out Tryd.underlying45 rfl HAs.out ?_) | (with_reducible refine wpList_load_row rfl 45 (.tmp 5) rfl (w.heap.size + 1) rfl 45 D (0, 0) _ HC2.out Tryd.underlying45 rfl HDs.out ?_))
  go_ret
  exact ⟨rfl, HB2.out⟩

end Go.Proofs.YtogpdmpefdafnaaDoor
