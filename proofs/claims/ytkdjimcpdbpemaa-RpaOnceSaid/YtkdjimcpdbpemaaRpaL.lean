/- rpa: known: the walk. -/
import Derived.Test.YtkdjimcpdbpemaaRpaK
namespace Go.Proofs.Ytkdjimcpdbpemaa
open Go Go.RowKit
set_option linter.unusedVariables false

/-- An area of a law's own, and boxes beside it. -/
structure KnS (w0 w : World) (g : Nat) (A : RA) (bs : List (Nat × Array Value × TypeId)) : Prop where
  be : Below w0.heap.size w0 w
  lg : w0.heap.size ≤ g
  area : AreaAt w g A
  ok : A.Ok
  box : ∀ b ∈ bs, HasB w b.1 b.2.1 b.2.2 ∧ b.1 ≠ g ∧ w0.heap.size ≤ b.1
theorem KnS.at {w0 w : World} {g : Nat} {A : RA} {bs : List (Nat × Array Value × TypeId)} (h : KnS w0 w g A bs) {k : Nat} {C : Array Value} {T : TypeId} (hm : (k, C, T) ∈ bs) : HasB w k C T := (h.box _ hm).1
theorem KnS.call {w0 w w' : World} {g : Nat} {A A' : RA} {bs : List (Nat × Array Value × TypeId)} (h : KnS w0 w g A bs) (ha : AreaAt w' g A') (hok : A'.Ok) (hg : w.grownBy w' (some g)) : KnS w0 w' g A' bs :=
  ⟨below_gb h.be hg h.be.size h.lg, h.lg, ha, hok, fun b hb => ⟨(h.box b hb).1.kept hg (fun e => (h.box b hb).2.1 (Option.some.inj e)), (h.box b hb).2⟩⟩
theorem KnS.below {w0 w w' : World} {g : Nat} {A : RA} {bs : List (Nat × Array Value × TypeId)} (h : KnS w0 w g A bs) (hb : Below w.heap.size w w') : KnS w0 w' g A bs :=
  ⟨h.be.trans (hb.mono h.be.size), h.lg, h.area.below hb, h.ok, fun b hm => ⟨(h.box b hm).1.below hb (h.box b hm).1.lt, (h.box b hm).2⟩⟩
theorem KnS.made {w0 w : World} {g : Nat} {A : RA} {bs : List (Nat × Array Value × TypeId)} (h : KnS w0 w g A bs) (C : Array Value) (T : TypeId) : KnS w0 (w.alloc (.cells C T)) g A ((w.heap.size, C, T) :: bs) := by
  have h1 := h.below ((Below.refl w.heap.size w).alloc (Nat.le_refl _) (.cells C T))
  refine ⟨h1.be, h1.lg, h1.area, h1.ok, fun b hm => ?_⟩
  rcases List.mem_cons.1 hm with rfl | hm
  · exact ⟨HasB.new w C T, by have := h.area.lt; show w.heap.size ≠ g; omega, h.be.size⟩
  · exact h1.box b hm
theorem KnS.drew {w0 w : World} {g : Nat} {A : RA} {bs : List (Nat × Array Value × TypeId)} (h : KnS w0 w g A bs) (n : Nat) : KnS w0 (w.drewN n) g A bs := ⟨below_drewN' h.be n, h.lg, h.area, h.ok, h.box⟩
theorem KnS.put {w0 w w' : World} {g : Nat} {A : RA} {k : Nat} {C C' : Array Value} {T : TypeId} {bs : List (Nat × Array Value × TypeId)} (h : KnS w0 w g A ((k, C, T) :: bs)) (hn : ∀ b ∈ bs, b.1 ≠ k) (hC : HasB w' k C' T) (hg : w.grownBy w' (some k)) : KnS w0 w' g A ((k, C', T) :: bs) := by
  have hk := h.box (k, C, T) List.mem_cons_self
  refine ⟨below_gb h.be hg h.be.size hk.2.2, h.lg, HasB.kept h.area hg (fun e => hk.2.1 (Option.some.inj e).symm), h.ok, fun b hm => ?_⟩
  rcases List.mem_cons.1 hm with rfl | hm
  · exact ⟨hC, hk.2⟩
  · have hb := h.box b (List.mem_cons_of_mem _ hm)
    exact ⟨hb.1.kept hg (fun e => hn b hm (Option.some.inj e)), hb.2⟩
theorem info_p {p : RP} (hp : p.Ok) : (Try.prog.info? 43).map (·.size) = some p.cells.toArray.size := by rw [List.size_toArray, RP.len hp]; exact info_sp
theorem info_f {f : RF} (hf : f.Ok) : (Try.prog.info? 37).map (·.size) = some f.cells.toArray.size := by rw [List.size_toArray, RF.cells_len hf]; exact info_fr
theorem old_p {p : RP} (hp : p.Ok) : zP.size = p.cells.toArray.size := by rw [show p.cells.toArray.size = 67 by rw [List.size_toArray, RP.len hp]]; rfl
theorem old_f {f : RF} (hf : f.Ok) : zF.size = f.cells.toArray.size := by rw [show f.cells.toArray.size = 117 by rw [List.size_toArray, RF.cells_len hf]]; rfl

def kdK : List Nat := 7 :: List.replicate 31 0
def kdD (c : Nat) : List Nat := c :: List.replicate 63 0
def kdF1 : RF := { RF.zero with typ := 1, data := kdD 7 }
def kdF2 : RF := { RF.zero with typ := 3, addr := 2, count := 1, data := kdD 9 }
def kdF3 : RF := kdF2.sign kdK
theorem kdF1_ok : kdF1.Ok := ⟨rfl, rfl, rfl, by decide, by decide, by decide, by decide, i64_0, i64_0, i64_0, by unfold I64; show -9223372036854775808 ≤ (1 : Int) ∧ (1 : Int) < 9223372036854775808; omega⟩
theorem kdF2_ok : kdF2.Ok := ⟨rfl, rfl, rfl, by decide, by decide, by decide, by decide, by unfold I64; show -9223372036854775808 ≤ (2 : Int) ∧ (2 : Int) < 9223372036854775808; omega, by unfold I64; show -9223372036854775808 ≤ (1 : Int) ∧ (1 : Int) < 9223372036854775808; omega, i64_0, by unfold I64; show -9223372036854775808 ≤ (3 : Int) ∧ (3 : Int) < 9223372036854775808; omega⟩
theorem kdF3_ok : kdF3.Ok := RF.sign_ok kdF2_ok kdK
def kdA0 : RA := RA.new 4 RS.zero
def kdP1 : RP := ⟨true, false, 0, (kdD 7).take 32 ++ List.replicate 32 0⟩
def kdA1 : RA := { kdA0 with now := .keying 0, last := .keying 0, step := kdP1 }
theorem kd_ask1 : kdA0.ask kdF1 = kdA1 := rfl
def kdA2 : RA := ⟨4, ⟨kdK, true, 0⟩, .keying 0, .keying 0, RP.zero⟩
theorem kd_done1 : kdA1.done kdP1 true = kdA2 := by
  unfold RA.done
  rw [if_neg (by decide)]
  rfl
def kdP3 : RP := ⟨false, true, 2, kdD 9⟩
def kdA3 : RA := { kdA2 with now := .writing 0 2, last := .writing 0 2, step := kdP3 }
theorem kd_ref3 : kdA2.refuse kdF3 = 0 := by
  unfold RA.refuse
  rw [if_neg (by decide), if_neg (fun q => q (RF.tagBy_sign kdF2 rfl kdK).symm), if_neg (by decide), if_neg (fun q => q rfl), if_neg (fun q => q.elim (fun q => q ⟨by decide, by decide⟩) (fun q => q rfl))]
theorem kd3 : kdF3.typ = 3 := rfl
theorem kd_step3 : kdA2.askStep kdF3 = kdP3 := by
  unfold RA.askStep
  rw [if_neg (by decide), if_pos kd3, if_pos kd_ref3]
  rfl
theorem kd_ask3 : kdA2.ask kdF3 = kdA3 := by
  have hn : kdA2.askNow kdF3 = .writing 0 2 := by
    unfold RA.askNow
    rw [if_neg (by decide), if_pos kd3, kd_ref3]
    rfl
  unfold RA.ask
  rw [hn, kd_step3, if_pos (.inr rfl)]
  rfl
def kdA4 : RA := ⟨4, ⟨kdK, true, 1⟩, .writing 0 2, .writing 0 2, RP.zero⟩
theorem kd_done3 : kdA3.done kdP3 true = kdA4 := by
  unfold RA.done
  rw [if_neg (by decide)]
  rfl
theorem kd_step5 : kdA4.askStep kdF3 = RP.zero := by
  have hr : kdA4.refuse kdF3 = 3 := by
    unfold RA.refuse
    rw [if_neg (by decide), if_neg (fun q => q (RF.tagBy_sign kdF2 rfl kdK).symm), if_neg (by decide), if_pos (by decide)]
  unfold RA.askStep
  rw [if_neg (by decide), if_pos kd3, if_neg (by rw [hr]; decide)]
theorem kdP1_ok : kdP1.Ok := ⟨rfl, by decide, i64_0⟩
theorem kdP3_ok : kdP3.Ok := ⟨rfl, by decide, by unfold I64; show -9223372036854775808 ≤ (2 : Int) ∧ (2 : Int) < 9223372036854775808; omega⟩
theorem kdA0_ok : kdA0.Ok := RA.new_ok (by decide) RS.zero_ok
theorem kdA1_ok : kdA1.Ok := kd_ask1 ▸ RA.ask_ok kdA0_ok kdF1_ok
theorem kdA2_ok : kdA2.Ok := kd_done1 ▸ RA.done_ok kdA1_ok kdP1_ok true
theorem kdA3_ok : kdA3.Ok := kd_ask3 ▸ RA.ask_ok kdA2_ok kdF3_ok
theorem kdA4_ok : kdA4.Ok := kd_done3 ▸ RA.done_ok kdA3_ok kdP3_ok true
theorem kd_built1 : Try.prog.built 37 [(7, .int .i64 1), (1, .agg (u8s (kdD 7)).toArray)] = some kdF1.cells.toArray := by
  rw [built_frame, fillF_typ RF.zero_ok, fillF_data (f := { RF.zero with typ := 1 }) ⟨rfl, rfl, rfl, by decide, by decide, by decide, by decide, i64_0, i64_0, i64_0, kdF1_ok.i4⟩ (kdD 7) rfl]
  rfl
theorem kd_built2 : Try.prog.built 37 [(7, .int .i64 3), (4, .int .i64 2), (5, .int .i64 1), (1, .agg (u8s (kdD 9)).toArray)] = some kdF2.cells.toArray := by
  rw [built_frame, fillF_typ RF.zero_ok, fillF_addr (f := { RF.zero with typ := 3 }) ⟨rfl, rfl, rfl, by decide, by decide, by decide, by decide, i64_0, i64_0, i64_0, kdF2_ok.i4⟩, fillF_count (f := { RF.zero with typ := 3, addr := 2 }) ⟨rfl, rfl, rfl, by decide, by decide, by decide, by decide, kdF2_ok.i1, i64_0, i64_0, kdF2_ok.i4⟩, fillF_data (f := { RF.zero with typ := 3, addr := 2, count := 1 }) ⟨rfl, rfl, rfl, by decide, by decide, by decide, by decide, kdF2_ok.i1, kdF2_ok.i2, i64_0, kdF2_ok.i4⟩ (kdD 9) rfl]
  rfl
theorem info_32 : (Try.prog.info? 22).map (·.size) = some 32 := by kernel_rfl

set_option maxRecDepth 100000 in
set_option maxHeartbeats 4000000 in
theorem known_any (w : World) : Calls Try.prog 8 #[] w fun e w' => e = .returned (.bool true) ∧ Below w.heap.size w w' := by
  obtain ⟨POST, hPOST⟩ : ∃ Q : Ending → World → Prop, Q = fun e w' => e = .returned (.bool true) ∧ Below w.heap.size w w' := ⟨_, rfl⟩
  rw [← hPOST]
  have HPOST := Lib.hid hPOST
  clear hPOST
  have HN1 : Hid (∃ N, N = kdF1.cells.toArray) := Lib.hid ⟨_, rfl⟩
  obtain ⟨N1, hN1⟩ := HN1.out
  obtain ⟨N2, hN2⟩ : ∃ N, N = kdF2.cells.toArray := ⟨_, rfl⟩
  obtain ⟨N3, hN3⟩ : ∃ N, N = kdF3.cells.toArray := ⟨_, rfl⟩
  obtain ⟨P1, hP1⟩ : ∃ N, N = kdP1.cells.toArray := ⟨_, rfl⟩
  obtain ⟨P3, hP3⟩ : ∃ N, N = kdP3.cells.toArray := ⟨_, rfl⟩
  have hb1 := kd_built1
  have hb2 := kd_built2
  have HF := Lib.hid (fun w => rsign_any kdF2 kdK w kdF2_ok rfl (by decide))
  have HQ1 := Lib.hid (fun g w h => ask_any kdA0 kdF1 g w h kdA0_ok kdF1_ok)
  have HD1 := Lib.hid (fun g w h => done_any kdA1 kdP1 true g w h kdA1_ok kdP1_ok)
  have HQ3 := Lib.hid (fun g w h => ask_any kdA2 kdF3 g w h kdA2_ok kdF3_ok)
  have HD3 := Lib.hid (fun g w h => done_any kdA3 kdP3 true g w h kdA3_ok kdP3_ok)
  have HQ5 := Lib.hid (fun g w h => ask_any kdA4 kdF3 g w h kdA4_ok kdF3_ok)
  rw [show kdA0.askStep kdF1 = kdP1 from rfl, kd_ask1] at HQ1
  rw [kd_done1] at HD1
  rw [kd_step3, kd_ask3] at HQ3
  rw [kd_done3] at HD3
  rw [kd_step5] at HQ5
  rw [show kdF2.sign kdK = kdF3 from rfl] at HF
  unfold RF.val RP.val at HQ1 HQ3 HQ5
  unfold RP.val at HD1 HD3
  unfold RF.val at HF
  rw [show RP.zero.cells.toArray = zP from rfl] at HQ5
  rw [← hN1] at hb1 HQ1
  rw [← hN2] at hb2 HF
  rw [← hN3] at HF HQ3 HQ5
  rw [← hP1] at HQ1 HD1
  rw [← hP3] at HQ3 HD3
  have HB1 := Lib.hid hb1
  have HB2 := Lib.hid hb2
  have HIp1 : Hid ((Try.prog.info? 43).map (·.size) = some P1.size) := Lib.hid (by rw [hP1]; exact info_p kdP1_ok)
  have HIp3 : Hid ((Try.prog.info? 43).map (·.size) = some P3.size) := Lib.hid (by rw [hP3]; exact info_p kdP3_ok)
  have HIz : Hid ((Try.prog.info? 43).map (·.size) = some zP.size) := Lib.hid info_sp
  have HIf : Hid ((Try.prog.info? 37).map (·.size) = some N3.size) := Lib.hid (by rw [hN3]; exact info_f kdF3_ok)
  have HO1 : Hid (zP.size = P1.size) := Lib.hid (by rw [hP1]; exact old_p kdP1_ok)
  have HO3 : Hid (zP.size = P3.size) := Lib.hid (by rw [hP3]; exact old_p kdP3_ok)
  have HOf : Hid (zF.size = N3.size) := Lib.hid (by rw [hN3]; exact old_f kdF3_ok)
  have HE1 : Hid (P1.all (·.oneCell') = true) := Lib.hid (by rw [hP1]; exact RP.one _)
  have HE3 : Hid (P3.all (·.oneCell') = true) := Lib.hid (by rw [hP3]; exact RP.one _)
  have HEf : Hid (N3.all (·.oneCell') = true) := Lib.hid (by rw [hN3]; exact RF.one _)
  have HP1 := Lib.hid hP1
  have HP3 := Lib.hid hP3
  clear hb1 hb2 hN1 hN2 hN3 hP1 hP3 HN1
  go_enter Try.func8, Try.ntmps8
  go_wp2_with fail
  refine (new_zero 4 w (by decide)).mono ?_
  rintro e w1 ⟨g, rfl, hge, hA, hb⟩
  have H1 : Hid (KnS w w1 g kdA0 []) := Lib.hid ⟨hb, hge, hA, kdA0_ok, by simp⟩
  clear hb hge hA
  go_wp2_with (with_reducible refine stop_build 37 _ rfl ?_)
  refine Stop.go ?_
  refine wpList_buildTo rfl 37 _ rfl _ rfl N1 ?_ ?_
  · rw [List.map_toArray]; exact HB1.out
  go_wp2_with fail
  refine (HQ1.out g w1 H1.out.area).mono ?_
  rintro e w2 ⟨rfl, hA, hg⟩
  have H2 : Hid (KnS w w2 g kdA1 []) := Lib.hid (H1.out.call hA kdA1_ok hg)
  clear hA hg H1
  go_wp2_with (with_reducible refine wpList_store_row rfl 43 (.tmp 3) (.tmp 21) rfl w2.heap.size P1 rfl rfl 43 zP (heap_new w2 _) HIp1.out HO1.out HE1.out ?_; rw [World.setRow_alloc_new]; refine Stop.mk ?_)
  refine Stop.go ?_
  have H3 : Hid (KnS w (w2.alloc (.cells P1 43)) g kdA1 [(w2.heap.size, P1, 43)]) := Lib.hid (H2.out.made P1 _)
  generalize w2.alloc (.cells P1 43) = w3 at H3 ⊢
  obtain ⟨gs, hgs⟩ : ∃ gs, gs = w2.heap.size := ⟨_, rfl⟩
  rw [← hgs] at H3 ⊢
  clear hgs H2
  have hB3 : Hid (w3.heap[gs]? = some (.cells P1 43 (0, 0))) := Lib.hid (H3.out.at (by simp))
  go_wp2_with (with_reducible refine wpList_load_row rfl 43 (.tmp 3) rfl gs rfl 43 P1 (0, 0) _ hB3.out Try.underlying43 rfl HIp1.out ?_)
  refine (HD1.out g w3 H3.out.area).mono ?_
  rintro e w4 ⟨rfl, hA, hg⟩
  have H4 : Hid (KnS w w4 g kdA2 [(gs, P1, 43)]) := Lib.hid (H3.out.call hA kdA2_ok hg)
  clear hA hg H3 hB3
  go_wp2_with (with_reducible refine stop_build 37 _ rfl ?_)
  refine Stop.go ?_
  refine wpList_buildTo rfl 37 _ rfl _ rfl N2 ?_ ?_
  · rw [List.map_toArray]; exact HB2.out
  go_wp2_with fail
  refine (HF.out w4).mono ?_
  rintro e w5 ⟨rfl, hb⟩
  have H5 : Hid (KnS w w5 g kdA2 [(gs, P1, 43)]) := Lib.hid (H4.out.below hb)
  clear hb H4
  go_wp2_with (with_reducible refine wpList_store_row rfl 37 (.tmp 4) (.tmp 28) rfl w5.heap.size N3 rfl rfl 37 zF (heap_new w5 _) HIf.out HOf.out HEf.out ?_; rw [World.setRow_alloc_new]; refine Stop.mk ?_)
  refine Stop.go ?_
  have H6 : Hid (KnS w (w5.alloc (.cells N3 37)) g kdA2 [(w5.heap.size, N3, 37), (gs, P1, 43)]) := Lib.hid (H5.out.made N3 _)
  generalize w5.alloc (.cells N3 37) = w6 at H6 ⊢
  obtain ⟨gf, hgf⟩ : ∃ gf, gf = w5.heap.size := ⟨_, rfl⟩
  rw [← hgf] at H6 ⊢
  clear hgf H5
  have hB6 : Hid (w6.heap[gf]? = some (.cells N3 37 (0, 0))) := Lib.hid (H6.out.at (by simp))
  go_wp2_with (with_reducible refine wpList_load_row rfl 37 (.tmp 4) rfl gf rfl 37 N3 (0, 0) _ hB6.out Try.underlying37 rfl HIf.out ?_)
  refine (HQ3.out g w6 H6.out.area).mono ?_
  rintro e w7 ⟨rfl, hA, hg⟩
  have H7 : Hid (KnS w w7 g kdA3 [(gf, N3, 37), (gs, P1, 43)]) := Lib.hid (H6.out.call hA kdA3_ok hg)
  clear hA hg H6 hB6
  go_wp2_with (with_reducible refine wpList_store_row rfl 43 (.tmp 5) (.tmp 31) rfl w7.heap.size P3 rfl rfl 43 zP (heap_new w7 _) HIp3.out HO3.out HE3.out ?_; rw [World.setRow_alloc_new]; refine Stop.mk ?_)
  refine Stop.go ?_
  have H8 : Hid (KnS w (w7.alloc (.cells P3 43)) g kdA3 [(w7.heap.size, P3, 43), (gf, N3, 37), (gs, P1, 43)]) := Lib.hid (H7.out.made P3 _)
  generalize w7.alloc (.cells P3 43) = w8 at H8 ⊢
  obtain ⟨gt, hgt⟩ : ∃ gt, gt = w7.heap.size := ⟨_, rfl⟩
  rw [← hgt] at H8 ⊢
  clear hgt H7
  have hB8 : Hid (w8.heap[gt]? = some (.cells P3 43 (0, 0))) := Lib.hid (H8.out.at (by simp))
  go_wp2_with (with_reducible refine wpList_load_row rfl 43 (.tmp 5) rfl gt rfl 43 P3 (0, 0) _ hB8.out Try.underlying43 rfl HIp3.out ?_)
  refine (HD3.out g w8 H8.out.area).mono ?_
  rintro e w9 ⟨rfl, hA, hg⟩
  have H9 : Hid (KnS w w9 g kdA4 [(gt, P3, 43), (gf, N3, 37), (gs, P1, 43)]) := Lib.hid (H8.out.call hA kdA4_ok hg)
  clear hA hg H8 hB8
  have hB9 : Hid (w9.heap[gf]? = some (.cells N3 37 (0, 0))) := Lib.hid (H9.out.at (by simp))
  go_wp2_with (with_reducible refine wpList_load_row rfl 37 (.tmp 4) rfl gf rfl 37 N3 (0, 0) _ hB9.out Try.underlying37 rfl HIf.out ?_)
  refine (HQ5.out g w9 H9.out.area).mono ?_
  rintro e wa ⟨rfl, hA, hg⟩
  have Ha : Hid (KnS w wa g (kdA4.ask kdF3) [(gt, P3, 43), (gf, N3, 37), (gs, P1, 43)]) := Lib.hid (H9.out.call hA (RA.ask_ok kdA4_ok kdF3_ok) hg)
  clear hA hg H9 hB9
  go_wp2_with (with_reducible refine wpList_store_row rfl 43 (.tmp 6) (.tmp 37) rfl wa.heap.size zP rfl rfl 43 zP (heap_new wa _) HIz.out rfl zP_one ?_; rw [World.setRow_alloc_new]; refine Stop.mk ?_)
  refine Stop.go ?_
  have Hb : Hid (KnS w (wa.alloc (.cells zP 43)) g (kdA4.ask kdF3) [(wa.heap.size, zP, 43), (gt, P3, 43), (gf, N3, 37), (gs, P1, 43)]) := Lib.hid (Ha.out.made zP _)
  generalize wa.alloc (.cells zP 43) = wb at Hb ⊢
  obtain ⟨gu, hgu⟩ : ∃ gu, gu = wa.heap.size := ⟨_, rfl⟩
  rw [← hgu] at Hb ⊢
  clear hgu Ha
  have hs0 : wb.cell? ⟨gs, 0, none⟩ = some (.bool true) := by rw [HasB.at (Hb.out.at (by simp : (gs, P1, 43) ∈ _)) 0, HP1.out]; rfl
  have ht1 : wb.cell? ⟨gt, 1, none⟩ = some (.bool true) := by rw [HasB.at (Hb.out.at (by simp : (gt, P3, 43) ∈ _)) 1, HP3.out]; rfl
  have ht2 : wb.cell? ⟨gt, 2, none⟩ = some (.int .i64 2) := by rw [HasB.at (Hb.out.at (by simp : (gt, P3, 43) ∈ _)) 2, HP3.out]; rfl
  have ht3 : wb.cell? ⟨gt, 3, none⟩ = some (.int .u8 9) := by rw [HasB.at (Hb.out.at (by simp : (gt, P3, 43) ∈ _)) 3, HP3.out]; rfl
  have hst := state_any (kdA4.ask kdF3) g wb Hb.out.area Hb.out.ok
  unfold RS.val at hst
  obtain ⟨SL, hSL⟩ : ∃ SL, SL = (kdA4.ask kdF3).s.cells.toArray := ⟨_, rfl⟩
  have hfl : ∀ w, (Instr.field 31 (.agg SL) 2).run Try.prog w = .ok (.int .u32 1) w := fun w => by rw [hSL]; rfl
  rw [← hSL] at hst
  have HSt := Lib.hid hst
  clear hst hSL
  go_wp2_with fail
  refine HSt.out.mono ?_
  rintro e wc ⟨rfl, hb⟩
  have Hc := Lib.hid (Hb.out.below hb)
  have hu1 : wc.cell? ⟨gu, 1, none⟩ = some (.bool false) := by rw [HasB.at (Hc.out.at (by simp : (gu, zP, 43) ∈ _)) 1]; rfl
  clear hs0 ht1 ht2 ht3 hb
  go_wp2_with fail
  rw [HPOST.out]
  exact ⟨rfl, Hc.out.be⟩
end Go.Proofs.Ytkdjimcpdbpemaa
