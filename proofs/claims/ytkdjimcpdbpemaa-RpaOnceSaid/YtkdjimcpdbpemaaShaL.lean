/- sha: Sum with a key. -/
import Derived.Test.YtkdjimcpdbpemaaShaK
namespace Go.Proofs.Ytkdjimcpdbpemaa
open Go Go.RowKit
set_option linter.unusedVariables false

/-- Two rows in a row of rows that has just been made. -/
theorem rows_two {w : World} {x y : List Nat} {bx byy : Option Addr} {cx cy : Nat} {T : TypeId} (hx : Bytes w bx x.length x) (hy : Bytes w byy y.length y) (nx : bx = none → cx = 0) (ny : byy = none → cy = 0) (lx : x.length ≤ cx) (ly : y.length ≤ cy) (mx : cx ≤ maxLen) (my : cy ≤ maxLen) :
    RowsR (w.alloc (.cells #[.slice bx x.length cx, .slice byy y.length cy] T)) (some ⟨w.heap.size, 0, none⟩) [x, y] := by
  intro k z hz
  have hlt : w.heap.size < (w.alloc (.cells #[.slice bx x.length cx, .slice byy y.length cy] T)).heap.size := by simp
  match k, hz with
  | 0, hz =>
    have : x = z := by simpa using hz
    subst this
    exact ⟨_, 0, bx, cx, rfl, hlt, HasB.at (HasB.new w _ T) 0, hx.alloc _, nx, lx, mx⟩
  | 1, hz =>
    have : y = z := by simpa using hz
    subst this
    exact ⟨_, 0, byy, cy, rfl, hlt, HasB.at (HasB.new w _ T) 1, hy.alloc _, ny, ly, my⟩
  | k + 2, hz => simp at hz
theorem rows_one {w : World} {x : List Nat} {bx : Option Addr} {cx : Nat} {T : TypeId} (hx : Bytes w bx x.length x) (nx : bx = none → cx = 0) (lx : x.length ≤ cx) (mx : cx ≤ maxLen) :
    RowsR (w.alloc (.cells #[.slice bx x.length cx] T)) (some ⟨w.heap.size, 0, none⟩) [x] := by
  intro k z hz
  have hlt : w.heap.size < (w.alloc (.cells #[.slice bx x.length cx] T)).heap.size := by simp
  match k, hz with
  | 0, hz =>
    have : x = z := by simpa using hz
    subst this
    exact ⟨_, 0, bx, cx, rfl, hlt, HasB.at (HasB.new w _ T) 0, hx.alloc _, nx, lx, mx⟩
  | k + 1, hz => simp at hz

set_option maxRecDepth 100000 in
set_option maxHeartbeats 4000000 in
theorem sum1_any (B g : Nat) (key l : List Nat) (w : World) (hK : KeyOk key) (h : DigL w B g true key l) (hl8 : ∀ c ∈ l, c < 256) (hn : l.length ≤ 100000000) :
    Calls Try.prog 41 #[.pointer (some ⟨g, 0, none⟩)] w fun e w' => e = .returned (.agg (u8s (shaL (xorK key 92 ++ shaL l))).toArray) ∧ Below w.heap.size w w' := by
  obtain ⟨v, hH, hown⟩ := h
  have HH := Lib.hid hH
  have HOw := Lib.hid hown
  have HK : Hid (key.length = 64 ∧ ∀ x ∈ key, x < 256) := Lib.hid hK
  obtain ⟨C, hC⟩ : ∃ C, C = (u8s (shaL l)).toArray := ⟨_, rfl⟩
  have hCs : C.size = 32 := by rw [hC]; simp [u8s_len, shaL_len]
  have HI : Hid ((Try.prog.info? 33).map (·.size) = some C.size) := Lib.hid (by rw [hCs]; exact info_s32)
  have HOne : Hid (C.all (·.oneCell') = true) := Lib.hid (by
    rw [hC]
    simp only [List.all_toArray, List.all_eq_true]
    exact u8s_one _)
  have HOld : Hid ((u8s (List.replicate 32 0)).toArray.size = C.size) := Lib.hid (by rw [hCs]; rfl)
  have HC := Lib.hid hC
  obtain ⟨CK, hCK⟩ : ∃ C, C = (u8s (shaL (xorK key 92 ++ shaL l))).toArray := ⟨_, rfl⟩
  have hCKs : CK.size = 32 := by rw [hCK]; simp [u8s_len, shaL_len]
  have HI2 : Hid ((Try.prog.info? 33).map (·.size) = some CK.size) := Lib.hid (by rw [hCKs]; exact info_s32)
  have HOne2 : Hid (CK.all (·.oneCell') = true) := Lib.hid (by
    rw [hCK]
    simp only [List.all_toArray, List.all_eq_true]
    exact u8s_one _)
  have HOld2 : Hid ((u8s (List.replicate 32 0)).toArray.size = CK.size) := Lib.hid (by rw [hCKs]; rfl)
  have HCK := Lib.hid hCK
  have HTL : Hid ((∀ x ∈ [xorK key 92, shaL l], ∀ c ∈ x, c < 256) ∧ (∀ x ∈ [xorK key 92, shaL l], x.length ≤ 100000) ∧ sumLen [xorK key 92, shaL l] 2 ≤ 100000000) := Lib.hid (by
    refine ⟨fun x hx => ?_, fun x hx => ?_, ?_⟩
    · simp at hx
      rcases hx with rfl | rfl
      · exact xorK_lt hK.2 (by omega)
      · exact shaL_lt l
    · simp at hx
      rcases hx with rfl | rfl
      · rw [xorK_len, hK.1]; omega
      · rw [shaL_len]; omega
    · simp [sumLen, xorK_len, hK.1, shaL_len])
  rw [← hCK]
  clear hH hown hC hCs hK hCK hCKs
  go_enter Try.func41, Try.ntmps41
  go_wp2_with fail
  obtain ⟨wa, hwa⟩ : ∃ wa, wa = w.alloc (.cells (u8s (List.replicate 32 0)).toArray 33) := ⟨_, rfl⟩
  have e0 : w.alloc (.cells #[.int .u8 0, .int .u8 0, .int .u8 0, .int .u8 0, .int .u8 0, .int .u8 0, .int .u8 0, .int .u8 0, .int .u8 0, .int .u8 0, .int .u8 0, .int .u8 0, .int .u8 0, .int .u8 0, .int .u8 0, .int .u8 0, .int .u8 0, .int .u8 0, .int .u8 0, .int .u8 0, .int .u8 0, .int .u8 0, .int .u8 0, .int .u8 0, .int .u8 0, .int .u8 0, .int .u8 0, .int .u8 0, .int .u8 0, .int .u8 0, .int .u8 0, .int .u8 0] 33) = wa := by rw [hwa]; rfl
  rw [e0]
  have HQ : Hid (HasB wa w.heap.size (u8s (List.replicate 32 0)).toArray 33) := Lib.hid (by rw [hwa]; exact HasB.new _ _ _)
  have HBa : Hid (Below w.heap.size w wa) := Lib.hid (by rw [hwa]; exact (Below.refl _ _).alloc (Nat.le_refl _) _)
  have hHa : HeadU wa g 109 (runB H0 l).list (v :: .int .u64 (l.length : Int) :: .bool true :: u8s key) := HasB.below HH.out HBa.out (HasB.lt HH.out)
  have hMa : MidW wa B g 109 (runB H0 l) (restB l) l.length (.bool true :: u8s key) := ⟨v, hHa, own_below HOw.out HBa.out (Nat.le_refl _)⟩
  have hsz : wa.heap.size = w.heap.size + 1 := by rw [hwa]; simp
  have HHa := Lib.hid hHa
  have HMa := Lib.hid hMa
  have HSz := Lib.hid hsz
  clear e0 hwa hHa hMa hsz
  go_wp2_with fail
  refine (end_any B g 109 (by decide) (runB H0 l) (restB l) l.length _ _ (runB_ok H0_ok l) HMa.out (restB_lt hl8) (by rw [restB_len]; omega) hn).mono ?_
  rintro e w1 ⟨rfl, hb1⟩
  rw [show (u8s (endS (runB H0 l) (restB l) l.length)).toArray = C by rw [HC.out]; rfl]
  have hHw : HeadU w1 g 109 (runB H0 l).list (v :: .int .u64 (l.length : Int) :: .bool true :: u8s key) := HasB.below HHa.out hb1 (HasB.lt HHa.out)
  obtain ⟨g3, hg3⟩ : ∃ g3, g3 = w1.heap.size := ⟨_, rfl⟩
  obtain ⟨w3, hw3⟩ : ∃ w3, w3 = w1.alloc (.cells C 33) := ⟨_, rfl⟩
  have hk : w3.cell? ⟨g, 10, none⟩ = some (.bool true) := by rw [hw3]; exact HeadU.tail (HasB.alloc hHw _) 2
  have HRgD : Hid (w3.drew.rangeAt g 11 (u8s key)) := Lib.hid (by rw [hw3]; exact head_range (st_len _) (w := w1.alloc (.cells C 33)) (HasB.alloc hHw _))
  have HGlD : Hid (g < w3.drew.heap.size) := Lib.hid (by rw [hw3]; exact HasB.lt (HasB.alloc hHw _))
  have hQ3 : HasB w3 w.heap.size (u8s (List.replicate 32 0)).toArray 33 := by rw [hw3]; exact HasB.alloc (HasB.below HQ.out hb1 (by have := HSz.out; omega)) _
  have hC3 : HasB w3 g3 C 33 := by rw [hw3, hg3]; exact HasB.new _ _ _
  have hB3 : Below w.heap.size w w3 := by
    rw [hw3]
    have q := HBa.out.trans (hb1.mono (by have := HSz.out; omega))
    exact q.alloc q.size _
  have HTwo : Hid (∀ (gv cv : Nat) (wp : World), wp.ownsRow w3.drew.heap.size 5 1 (.slice (some ⟨gv, 0, none⟩) 64 cv) 64 (u8s (xorK key 92)) → Below w3.drew.heap.size w3.drew wp → RowsR (wp.alloc (.cells #[.slice (some ⟨gv, 0, none⟩) 64 cv, .slice (some ⟨g3, 0, none⟩) 32 32] 50)) (some ⟨wp.heap.size, 0, none⟩) [xorK key 92, shaL l] ∧ ∀ wq, Below (wp.alloc (.cells #[.slice (some ⟨gv, 0, none⟩) 64 cv, .slice (some ⟨g3, 0, none⟩) 32 32] 50)).heap.size (wp.alloc (.cells #[.slice (some ⟨gv, 0, none⟩) 64 cv, .slice (some ⟨g3, 0, none⟩) 32 32] 50)) wq → wq.heap[w.heap.size]? = some (.cells (u8s (List.replicate 32 0)).toArray 33 (0, 0)) ∧ (wq.setRow w.heap.size CK).heap[w.heap.size]? = some (.cells CK 33 (0, 0)) ∧ Below w.heap.size w (wq.setRow w.heap.size CK)) := Lib.hid (fun gv cv wp ho hb => by
    have hcv : 64 ≤ cv ∧ cv ≤ maxLen := by
      rcases ho.2 with ⟨h, _⟩ | ⟨g', cap', cur, h, _, _, h3, h4, _⟩
      · simp at h
      · simp at h; obtain ⟨_, rfl⟩ := h; exact ⟨h3, h4⟩
    have hx : Bytes wp (some ⟨gv, 0, none⟩) (xorK key 92).length (xorK key 92) := by
      have := bytes_of_own ho (xorK_lt HK.out.2 (by omega))
      rw [xorK_len, HK.out.1]; exact this
    have hC3' : HasB wp g3 C 33 := HasB.below (show HasB w3.drew g3 C _ from hC3) hb (HasB.lt hC3)
    have hy : Bytes wp (some ⟨g3, 0, none⟩) (shaL l).length (shaL l) := by
      rw [HC.out] at hC3'
      exact bytes_of_row hC3' (shaL_lt l)
    have e1 : (xorK key 92).length = 64 := by rw [xorK_len, HK.out.1]
    have e2 : (shaL l).length = 32 := shaL_len l
    have hr := rows_two (T := 50) hx hy (cx := cv) (cy := 32) (by simp) (by simp) (by omega) (by omega) hcv.2 (by unfold maxLen; omega)
    rw [e1, e2] at hr
    refine ⟨hr, fun wq hq => ?_⟩
    have hl3 : w.heap.size < w3.heap.size := HasB.lt hQ3
    have hq1 : HasB wq w.heap.size (u8s (List.replicate 32 0)).toArray 33 := by
      have a1 : HasB wp w.heap.size _ _ := HasB.below (show HasB w3.drew w.heap.size _ _ from hQ3) hb hl3
      have a2 := HasB.alloc a1 (.cells #[.slice (some ⟨gv, 0, none⟩) 64 cv, .slice (some ⟨g3, 0, none⟩) 32 32] 50)
      exact HasB.below a2 hq (HasB.lt a2)
    have hsz : w3.heap.size ≤ wp.heap.size := hb.size
    have hB' : Below w.heap.size w wp := hB3.drew.trans (hb.mono (show w.heap.size ≤ w3.drew.heap.size from by show w.heap.size ≤ w3.heap.size; omega))
    have hB'' : Below w.heap.size w (wp.alloc (.cells #[.slice (some ⟨gv, 0, none⟩) 64 cv, .slice (some ⟨g3, 0, none⟩) 32 32] 50)) := hB'.alloc (by omega) _
    exact ⟨hq1, setRow_heap _ w.heap.size _ CK 33 (0, 0) hq1, below_setRow (hB''.trans (hq.mono (by simp; omega))) (Nat.le_refl _) CK⟩)
  have HW3 := Lib.hid hw3
  have HG3 := Lib.hid hg3
  clear hb1 hHw hQ3 hC3 hB3 hw3 hg3
  go_wp2_with (first | (with_reducible refine wpList_store_row rfl 33 (.tmp 3) (.tmp 7) rfl w1.heap.size C rfl rfl 33 (u8s (List.replicate 32 0)).toArray (heap_new w1 _) HI.out HOld.out HOne.out ?_; rw [World.setRow_alloc_new, ← HW3.out, ← HG3.out]))
  refine wp_region_held_drew (S := (fun _ => True)) (by kernel_rfl) (trivial) (fun hHeld => ?_)
  refine held_take 0 (v := ?_) rfl (by kernel_rfl) (by kernel_rfl) (by kernel_rfl) (fun _ _ _ h => h) (by rfl) (fun w hS => ?_) (by assumption) ?_
  rotate_left
  · try dsimp only at hS
    go_simp <;> with_reducible rfl
  try simp only [Act.put, List.setIfInBounds_toArray, List.set_cons_zero, List.set_cons_succ]
  refine held_take 2 (v := ?_) rfl (by kernel_rfl) (by kernel_rfl) (by kernel_rfl) (fun _ _ _ h => h) (by rfl) (fun w hS => ?_) (by assumption) ?_
  rotate_left
  · try dsimp only at hS
    go_simp <;> with_reducible rfl
  try simp only [Act.put, List.setIfInBounds_toArray, List.set_cons_zero, List.set_cons_succ]
  refine held_one 1 rfl (by kernel_rfl) (fun K hK => ?_)
  go_simp
  refine Calls.mono (pad_any g key 92 _ HK.out.1 HK.out.2 (by omega) HRgD.out HGlD.out) ?_
  rintro e wp ⟨⟨v, rfl, hown⟩, hb⟩
  obtain ⟨gv, cv, rfl⟩ := own_shape hown (by omega)
  have HP := Lib.hid (HTwo.out gv cv wp hown hb)
  refine hK.out _ _ (fun _ => True) (fun _ h => h) trivial (fun hHeld => ?_)
  clear hK K
  try simp only [Act.put, List.setIfInBounds_toArray, List.set_cons_zero, List.set_cons_succ]
  refine held_one 3 rfl (by kernel_rfl) (fun K hK => ?_)
  go_simp
  refine hK.out _ _ (fun _ => True) (fun _ h => h) trivial (fun hHeld => ?_)
  clear hK K
  try simp only [Act.put, List.setIfInBounds_toArray, List.set_cons_zero, List.set_cons_succ]
  refine held_one 4 rfl (by kernel_rfl) (fun K hK => ?_)
  go_simp
  refine Calls.mono (of_any (some ⟨wp.heap.size, 0, none⟩) 2 2 [xorK key 92, shaL l] _ HP.out.1 rfl HTL.out.1 HTL.out.2.1 HTL.out.2.2 (by omega)) ?_
  rintro e wq ⟨rfl, hbq⟩
  rw [show (u8s (shaL (flatTo [xorK key 92, shaL l] 2))).toArray = CK by rw [HCK.out]; simp [flatTo]]
  have HQq := Lib.hid (HP.out.2 wq hbq)
  refine hK.out _ _ (fun _ => True) (fun _ h => h) trivial (fun hHeld => ?_)
  clear hK K
  try simp only [Act.put, List.setIfInBounds_toArray, List.set_cons_zero, List.set_cons_succ]
  refine held_one 5 rfl (by kernel_rfl) (fun K hK => ?_)
  refine (if_pos (by kernel_rfl)).mpr ?_
  refine wp_store_row 33 (.tmp 2) (.tmp 16) rfl w.heap.size CK rfl rfl 33 _ HQq.out.1 HI2.out HOld2.out HOne2.out ?_
  refine hK.out _ _ (fun _ => True) (fun _ h => h) trivial (fun hHeld => ?_)
  clear hK K
  try simp only [Act.put, List.setIfInBounds_toArray, List.set_cons_zero, List.set_cons_succ]
  refine held_done (by kernel_rfl) ?_
  go_wp2_with fail
  exact bodyPost_ret (results_cell_row (p := 2) (by kernel_rfl) _ _ w.heap.size 33 CK (0, 0) _ rfl HQq.out.2.1 Try.underlying33 rfl HI2.out) rfl ⟨rfl, HQq.out.2.2⟩

end Go.Proofs.Ytkdjimcpdbpemaa
