/- sha: New, Write, Sum without a key, all, Of. -/
import Derived.Test.YtkdjimcpdbpemaaShaZ0
import Derived.Test.YtkdjimcpdbpemaaRowsD
namespace Go.Proofs.Ytkdjimcpdbpemaa
open Go Go.RowKit
set_option linter.unusedVariables false

def zeros64 : List Nat := List.replicate 64 0
theorem zeros_ok : KeyOk zeros64 := ⟨rfl, fun x hx => by have := List.eq_of_mem_replicate hx; omega⟩
theorem digz_new (w : World) (kd : Bool) (Z : Array Value) (hZ : Z = (cellsU (List.replicate 8 0) ++ (Value.slice none 0 0 :: Value.int .u64 0 :: Value.bool kd :: u8s zeros64)).toArray) : DigZ (w.alloc (.cells Z 109)) w.heap.size kd zeros64 := by
  subst hZ
  exact ⟨List.replicate 8 0, _, _, rfl, HasB.new _ _ _⟩

set_option maxRecDepth 100000 in
set_option maxHeartbeats 4000000 in
theorem snew_any (w : World) :
    Calls Try.prog 49 #[] w fun e w' => e = .returned (.pointer (some ⟨w.heap.size, 0, none⟩)) ∧ DigL w' w.heap.size w.heap.size false zeros64 [] ∧ Below w.heap.size w w' := by
  go_enter Try.func49, Try.ntmps49
  go_wp2_with fail
  refine (reset_any w.heap.size w.heap.size false zeros64 _ (digz_new w false _ (by kernel_rfl)) zeros_ok (Nat.le_refl _) (by simp)).mono ?_
  rintro e w1 ⟨rfl, hD, hb⟩
  have HD := Lib.hid hD
  have HB : Hid (Below w.heap.size w w1) := Lib.hid (((Below.refl _ _).alloc (Nat.le_refl _) _).trans hb)
  clear hD hb
  go_wp2_with fail
  go_ret
  exact ⟨rfl, HD.out, HB.out⟩

set_option maxRecDepth 100000 in
set_option maxHeartbeats 4000000 in
theorem sum0_any (B g : Nat) (key l : List Nat) (w : World) (h : DigL w B g false key l) (hl8 : ∀ c ∈ l, c < 256) (hn : l.length ≤ 100000000) :
    Calls Try.prog 41 #[.pointer (some ⟨g, 0, none⟩)] w fun e w' => e = .returned (.agg (u8s (shaL l)).toArray) ∧ Below w.heap.size w w' := by
  obtain ⟨v, hH, hown⟩ := h
  have HH := Lib.hid hH
  have HOw := Lib.hid hown
  obtain ⟨C, hC⟩ : ∃ C, C = (u8s (shaL l)).toArray := ⟨_, rfl⟩
  have hCs : C.size = 32 := by rw [hC]; simp [u8s_len, shaL, endS, outS_len]
  have HI : Hid ((Try.prog.info? 33).map (·.size) = some C.size) := Lib.hid (by rw [hCs]; exact info_s32)
  have HOne : Hid (C.all (·.oneCell') = true) := Lib.hid (by
    rw [hC]
    simp only [List.all_toArray, List.all_eq_true]
    exact u8s_one _)
  have HOld : Hid ((u8s (List.replicate 32 0)).toArray.size = C.size) := Lib.hid (by rw [hCs]; rfl)
  have HC := Lib.hid hC
  rw [← hC]
  clear hH hown hC hCs
  go_enter Try.func41, Try.ntmps41
  go_wp2_with fail
  obtain ⟨wa, hwa⟩ : ∃ wa, wa = w.alloc (.cells (u8s (List.replicate 32 0)).toArray 33) := ⟨_, rfl⟩
  have e0 : w.alloc (.cells #[.int .u8 0, .int .u8 0, .int .u8 0, .int .u8 0, .int .u8 0, .int .u8 0, .int .u8 0, .int .u8 0, .int .u8 0, .int .u8 0, .int .u8 0, .int .u8 0, .int .u8 0, .int .u8 0, .int .u8 0, .int .u8 0, .int .u8 0, .int .u8 0, .int .u8 0, .int .u8 0, .int .u8 0, .int .u8 0, .int .u8 0, .int .u8 0, .int .u8 0, .int .u8 0, .int .u8 0, .int .u8 0, .int .u8 0, .int .u8 0, .int .u8 0, .int .u8 0] 33) = wa := by rw [hwa]; rfl
  rw [e0]
  have HQ : Hid (wa.heap[w.heap.size]? = some (.cells (u8s (List.replicate 32 0)).toArray 33 (0, 0))) := Lib.hid (by rw [hwa]; exact HasB.new _ _ _)
  have HBa : Hid (Below w.heap.size w wa) := Lib.hid (by rw [hwa]; exact (Below.refl _ _).alloc (Nat.le_refl _) _)
  have hHa : HeadU wa g 109 (runB H0 l).list (v :: .int .u64 (l.length : Int) :: .bool false :: u8s key) := HasB.below HH.out HBa.out (HasB.lt HH.out)
  have hMa : MidW wa B g 109 (runB H0 l) (restB l) l.length (.bool false :: u8s key) := ⟨v, hHa, own_below HOw.out HBa.out (Nat.le_refl _)⟩
  have hsz : wa.heap.size = w.heap.size + 1 := by rw [hwa]; simp
  have HHa := Lib.hid hHa
  have HMa := Lib.hid hMa
  have HSz := Lib.hid hsz
  clear e0 hwa hHa hMa hsz
  go_wp2_with fail
  refine (end_any B g 109 (by decide) (runB H0 l) (restB l) l.length _ _ (runB_ok H0_ok l) HMa.out (restB_lt hl8) (by rw [restB_len]; omega) hn).mono ?_
  rintro e w1 ⟨rfl, hb1⟩
  rw [show (u8s (endS (runB H0 l) (restB l) l.length)).toArray = C by rw [HC.out]; rfl]
  have hk : ∀ Z, (w1.alloc (.cells Z 33)).cell? ⟨g, 10, none⟩ = some (.bool false) := fun Z => HeadU.tail (HasB.alloc (HasB.below HHa.out hb1 (HasB.lt HHa.out)) _) 2
  have HQ1 : Hid (w1.heap[w.heap.size]? = some (.cells (u8s (List.replicate 32 0)).toArray 33 (0, 0))) := Lib.hid ((hb1.block w.heap.size (by have := HSz.out; omega)).trans HQ.out)
  have HB1 : Hid (Below w.heap.size w w1) := Lib.hid (HBa.out.trans (hb1.mono (by have := HSz.out; omega)))
  have HL1 : Hid (w.heap.size < w1.heap.size) := Lib.hid (by have := hb1.size; have := HSz.out; omega)
  have HQ2 : Hid ((w1.alloc (.cells C 33)).heap[w.heap.size]? = some (.cells (u8s (List.replicate 32 0)).toArray 33 (0, 0))) := Lib.hid (HasB.alloc (show HasB w1 w.heap.size _ _ from HQ1.out) _)
  have HQ3 : Hid ((w1.alloc (.cells C 33)).heap[w1.heap.size]? = some (.cells C 33 (0, 0))) := Lib.hid (heap_new _ _)
  have HSet : Hid (((w1.alloc (.cells C 33)).setRow w.heap.size C).heap[w.heap.size]? = some (.cells C 33 (0, 0)) ∧ Below w.heap.size w ((w1.alloc (.cells C 33)).setRow w.heap.size C)) := Lib.hid ⟨setRow_heap _ w.heap.size _ C 33 (0, 0) HQ2.out, below_setRow (HB1.out.alloc HB1.out.size _) (Nat.le_refl _) C⟩
  clear hb1
  go_wp2_with (first | (with_reducible refine wpList_store_row rfl 33 (.tmp 3) (.tmp 7) rfl w1.heap.size C rfl rfl 33 (u8s (List.replicate 32 0)).toArray (heap_new w1 _) HI.out HOld.out HOne.out ?_; rw [World.setRow_alloc_new]) | (with_reducible refine wpList_load_row rfl 33 (.tmp 3) rfl w1.heap.size rfl 33 C (0, 0) _ HQ3.out Try.underlying33 rfl HI.out ?_) | (with_reducible refine wpList_store_row rfl 33 (.tmp 2) (.tmp 17) rfl w.heap.size C rfl rfl 33 _ HQ2.out HI.out HOld.out HOne.out ?_))
  exact bodyPost_ret (results_cell_row (p := 2) (by kernel_rfl) _ _ w.heap.size 33 C (0, 0) _ rfl HSet.out.1 Try.underlying33 rfl HI.out) rfl ⟨rfl, HSet.out.2⟩

end Go.Proofs.Ytkdjimcpdbpemaa
