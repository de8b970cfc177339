/- nand: NandFails. -/
import Derived.Test.YtbbhniohliklhaaNandO
namespace Go.Proofs.Ytbbhniohliklhaa
open Go Go.RowKit
set_option linter.unusedVariables false

/-- Two blocks of four pages; n pages of the second one hold x. -/
def FlP (x : List Nat) (fl : Bool) (n : Nat) (F : NF) : Prop :=
  F.off = false ∧ F.armed = 0 ∧ F.np = 4 ∧ F.ch = 1 ∧ ∃ b0 b, F.bl = [b0, b] ∧ b0.failed = false ∧ b.next = n ∧ b.half = false ∧ b.failed = fl ∧ b.one = false ∧ b.pages = List.replicate n x ++ List.replicate (4 - n) []
theorem flp_new (x : List Nat) : FlP x false 0 (NF.new 2 4 1) := ⟨rfl, rfl, rfl, rfl, NB.new 4, NB.new 4, rfl, rfl, rfl, rfl, rfl, rfl, rfl⟩
theorem flp_at {x : List Nat} {n : Nat} {fl : Bool} {F : NF} (h : FlP x fl n F) : ∃ b0 b, F.at 1 = some b ∧ F.at 0 = some b0 ∧ F.bl = [b0, b] ∧ b0.failed = false ∧ b.next = n ∧ b.half = false ∧ b.failed = fl ∧ b.one = false ∧ b.pages = List.replicate n x ++ List.replicate (4 - n) [] := by
  obtain ⟨h1, h2, h3, h4, b0, b, h5, r⟩ := h
  exact ⟨b0, b, by unfold NF.at; rw [h5]; rfl, by unfold NF.at; rw [h5]; rfl, h5, r⟩
theorem flp_has {x : List Nat} {n : Nat} {fl : Bool} {F : NF} (h : FlP x fl n F) {b : NB} (hb : b.one = false) (t : Int) : F.has b t = (decide (0 ≤ t) && decide (t < 4)) := by
  unfold NF.has NF.many
  rw [hb, h.2.2.1]
  rfl
theorem flp_set (x : List Nat) (n : Nat) (hn : n < 4) : (List.replicate n x ++ List.replicate (4 - n) []).set n x = List.replicate (n + 1) x ++ List.replicate (4 - (n + 1)) [] := by
  match n, hn with
  | 0, _ => rfl
  | 1, _ => rfl
  | 2, _ => rfl
  | 3, _ => rfl
theorem flp_prog {x : List Nat} {n : Nat} {F : NF} (h : FlP x false n F) (hx : x.length = 73) (hn : n < 4) : (F.prog 1 n x).1 = 0 ∧ FlP x false (n + 1) (F.prog 1 n x).2 := by
  obtain ⟨b0, b, ha, -, hb, hf0, hnx, hh, hf, ho, hp⟩ := flp_at h
  have hhas := flp_has h ho n
  obtain ⟨h1, h2, h3, h4, -⟩ := h
  unfold NF.prog
  rw [ha]
  dsimp only
  have hE : F.progE b n x.length = 0 := by
    unfold NF.progE
    rw [hh, hf, h4, hx, hhas, hnx]
    simp [NF.mayE, h1, hn]
    intro q; omega
  rw [hE]
  simp only [ne_eq, not_true_eq_false, if_false]
  rw [h4]
  unfold NF.progGo
  rw [if_neg (by simp [NF.ticks, h2])]
  unfold NF.progGo
  refine ⟨rfl, ?_⟩
  have hraw : chunkTo x (F.raw []) 1 = x := chunkTo_all (N := 73) hx (by unfold NF.raw; rw [if_pos rfl, h4]; simp) (by omega)
  refine ⟨h1, by simp [NF.done, NF.progK, NF.ticks, NF.tick, NF.setB, h2]; omega, h3, h4, b0, b.prog n x, ?_, hf0, ?_, hh, hf, ho, ?_⟩
  · show ((F.progK (1 : Int).toNat ((n : Int)).toNat b x (F.raw []) (0 + 1)).done).bl = _
    unfold NF.progK
    rw [if_neg (by omega)]
    simp only [NF.done, NF.setB, NF.ticks, NF.tick, hb]
    rw [show (0 + 1 : Nat) = 1 by rfl, hraw]
    rfl
  · simp [NB.prog]
  · simp only [NB.prog]
    rw [hp, flp_set x n hn]
theorem flp_fail {x : List Nat} {n : Nat} {F : NF} (h : FlP x false n F) : (F.fail 1).1 = true ∧ FlP x true n (F.fail 1).2 := by
  obtain ⟨b0, b, ha, -, hb, hf0, hnx, hh, hf, ho, hp⟩ := flp_at h
  obtain ⟨h1, h2, h3, h4, -⟩ := h
  unfold NF.fail
  rw [ha]
  exact ⟨rfl, h1, h2, h3, h4, b0, { b with failed := true }, by simp [NF.setB, hb], hf0, hnx, hh, rfl, ho, hp⟩
theorem flp_fail2 {x : List Nat} {n : Nat} {fl : Bool} {F : NF} (h : FlP x fl n F) : F.fail 2 = (false, F) ∧ F.fail (-1) = (false, F) ∧ F.failedAt 1 = fl ∧ F.failedAt 0 = false ∧ F.nextAt 1 = n := by
  obtain ⟨b0, b, ha, ha0, hb, hf0, hnx, hh, hf, ho, hp⟩ := flp_at h
  refine ⟨?_, ?_, ?_, ?_, ?_⟩
  · unfold NF.fail NF.at; rw [hb]; rfl
  · unfold NF.fail NF.at; rfl
  · unfold NF.failedAt; rw [ha]; exact hf
  · unfold NF.failedAt; rw [ha0]; exact hf0
  · unfold NF.nextAt NB.nextI; rw [ha]; dsimp only; rw [hh, hnx]; rfl
theorem flp_no {x : List Nat} {n : Nat} {F : NF} (h : FlP x true n F) (hx : x.length = 73) : (n < 4 → F.prog 1 n x = (7, F)) ∧ F.erase 1 = (7, F) ∧ F.mode 1 true = (7, F) := by
  obtain ⟨b0, b, ha, ha0, hb, hf0, hnx, hh, hf, ho, hp⟩ := flp_at h
  have hhas := flp_has h ho n
  obtain ⟨h1, h2, h3, h4, -⟩ := h
  refine ⟨fun hn => ?_, ?_, ?_⟩
  · unfold NF.prog
    rw [ha]
    dsimp only
    have hE : F.progE b n x.length = 7 := by
      unfold NF.progE
      rw [hh, hf, h4, hx, hhas, hnx]
      have : ((n : Int) < 4) := by omega
      simp [NF.mayE, h1, this]
    rw [hE]; rfl
  · unfold NF.erase NF.erE
    rw [ha]
    dsimp only
    rw [hf]
    simp [NF.mayE, h1]
  · unfold NF.mode NF.modeE NF.modeF NF.modeE
    rw [ha]
    dsimp only
    rw [hf]
    simp [NF.mayE, h1]
theorem flp_read {x : List Nat} {n : Nat} {fl : Bool} {F : NF} (h : FlP x fl n F) (hx : x.length = 73) (hn : n ≤ 4) (i : Nat) (hi : i < n) : F.read 1 i = (x, 0, F.readF) ∧ FlP x fl n F.readF := by
  obtain ⟨b0, b, ha, ha0, hb, hf0, hnx, hh, hf, ho, hp⟩ := flp_at h
  have hhas := flp_has h ho i
  have hI := h
  obtain ⟨h1, h2, h3, h4, -⟩ := h
  refine ⟨?_, h1, h2, h3, h4, b0, b, hb, hf0, hnx, hh, hf, ho, hp⟩
  unfold NF.read
  rw [ha]
  dsimp only
  have hE : F.readE b i = 0 := by
    unfold NF.readE
    rw [h1, hhas, hh]
    have : ((i : Int) < 4) := by omega
    simp [this]
  rw [hE]
  simp only [ne_eq, not_true_eq_false, if_false]
  have hg : b.pages.getD ((i : Int)).toNat [] = x := by
    rw [hp]
    simp [List.getD, List.getElem?_append, hi]
  rw [hg]
  unfold NF.raw
  rw [if_neg (by intro e; rw [e] at hx; simp at hx)]

/-- What the law keeps. -/
def FlpI (B : Nat) (w : World) (g gx : Nat) (x : List Nat) (fl : Bool) (n : Nat) (wr : World) : Prop := ∃ S F, Law B w S wr g F ∧ FlP x fl n F ∧ BytesO S wr (some ⟨gx, 0, none⟩) 73 x

section
variable {B : Nat} {w : World} {g gx n : Nat} {x : List Nat} {fl : Bool} {wr : World}
theorem flpI_prog (h : FlpI B w g gx x false n wr) (hx : x.length = 73) (hn : n < 4) : Calls Try.prog 11 #[.pointer (some ⟨g, 0, none⟩), .int .i64 1, .int .i64 (n : Int), .slice (some ⟨gx, 0, none⟩) 73 73] wr fun e w' => e = .returned (.int .i64 0) ∧ FlpI B w g gx x false (n + 1) w' := by
  obtain ⟨S, F, hL, hP, hX⟩ := h
  obtain ⟨q1, q2⟩ := flp_prog hP hx hn
  have hpr := fprog_any 1 n (some ⟨gx, 0, none⟩) 73 73 x wr hL.fl hX.1 hX.out (by omega) (by omega)
  rw [q1] at hpr
  refine hpr.mono ?_
  rintro e w' ⟨rfl, ho⟩
  exact ⟨rfl, _, _, hL.op ho, q2, hX.op ho⟩
theorem flpI_prog7 (h : FlpI B w g gx x true n wr) (hx : x.length = 73) (hn : n < 4) : Calls Try.prog 11 #[.pointer (some ⟨g, 0, none⟩), .int .i64 1, .int .i64 (n : Int), .slice (some ⟨gx, 0, none⟩) 73 73] wr fun e w' => e = .returned (.int .i64 7) ∧ FlpI B w g gx x true n w' := by
  obtain ⟨S, F, hL, hP, hX⟩ := h
  have hpr := fprog_any 1 n (some ⟨gx, 0, none⟩) 73 73 x wr hL.fl hX.1 hX.out (by omega) (by omega)
  rw [(flp_no hP hx).1 hn] at hpr
  refine hpr.mono ?_
  rintro e w' ⟨rfl, ho⟩
  exact ⟨rfl, _, _, hL.op ho, hP, hX.op ho⟩
theorem flpI_erase (h : FlpI B w g gx x true n wr) (hx : x.length = 73) : Calls Try.prog 17 #[.pointer (some ⟨g, 0, none⟩), .int .i64 1] wr fun e w' => e = .returned (.int .i64 7) ∧ FlpI B w g gx x true n w' := by
  obtain ⟨S, F, hL, hP, hX⟩ := h
  have hpr := ferase_any 1 wr hL.fl
  rw [(flp_no hP hx).2.1] at hpr
  refine hpr.mono ?_
  rintro e w' ⟨rfl, ho⟩
  exact ⟨rfl, _, _, hL.op ho, hP, hX.op ho⟩
theorem flpI_mode (h : FlpI B w g gx x true n wr) (hx : x.length = 73) : Calls Try.prog 10 #[.pointer (some ⟨g, 0, none⟩), .int .i64 1, .bool true] wr fun e w' => e = .returned (.int .i64 7) ∧ FlpI B w g gx x true n w' := by
  obtain ⟨S, F, hL, hP, hX⟩ := h
  have hpr := fmode_any 1 true wr hL.fl
  rw [(flp_no hP hx).2.2] at hpr
  refine hpr.mono ?_
  rintro e w' ⟨rfl, ho⟩
  exact ⟨rfl, _, _, hL.op ho, hP, hX.op ho⟩
theorem flpI_fail (h : FlpI B w g gx x false n wr) : Calls Try.prog 18 #[.pointer (some ⟨g, 0, none⟩), .int .i64 1] wr fun e w' => e = .returned (.bool true) ∧ FlpI B w g gx x true n w' := by
  obtain ⟨S, F, hL, hP, hX⟩ := h
  have hpr := ffail_any 1 wr hL.fl
  rw [(flp_fail hP).1] at hpr
  refine hpr.mono ?_
  rintro e w' ⟨rfl, ho⟩
  exact ⟨rfl, _, _, hL.op ho, (flp_fail hP).2, hX.op ho⟩
theorem flpI_failNo (h : FlpI B w g gx x fl n wr) (m : Int) (hm : m = 2 ∨ m = -1) : Calls Try.prog 18 #[.pointer (some ⟨g, 0, none⟩), .int .i64 m] wr fun e w' => e = .returned (.bool false) ∧ FlpI B w g gx x fl n w' := by
  obtain ⟨S, F, hL, hP, hX⟩ := h
  have hpr := ffail_any m wr hL.fl
  have : F.fail m = (false, F) := by
    rcases hm with rfl | rfl
    · exact (flp_fail2 hP).1
    · exact (flp_fail2 hP).2.1
  rw [this] at hpr
  refine hpr.mono ?_
  rintro e w' ⟨rfl, ho⟩
  exact ⟨rfl, _, _, hL.op ho, hP, hX.op ho⟩
theorem flpI_failed (h : FlpI B w g gx x fl n wr) : Calls Try.prog 19 #[.pointer (some ⟨g, 0, none⟩), .int .i64 1] wr fun e w' => e = .returned (.bool fl) ∧ wr = w' := by
  obtain ⟨S, F, hL, hP, hX⟩ := h
  have hpr := ffailed_any 1 wr hL.fl
  rwa [(flp_fail2 hP).2.2.1] at hpr
theorem flpI_failed0 (h : FlpI B w g gx x fl n wr) : Calls Try.prog 19 #[.pointer (some ⟨g, 0, none⟩), .int .i64 0] wr fun e w' => e = .returned (.bool false) ∧ wr = w' := by
  obtain ⟨S, F, hL, hP, hX⟩ := h
  have hpr := ffailed_any 0 wr hL.fl
  rwa [(flp_fail2 hP).2.2.2.1] at hpr
theorem flpI_next (h : FlpI B w g gx x fl n wr) : Calls Try.prog 12 #[.pointer (some ⟨g, 0, none⟩), .int .i64 1] wr fun e w' => e = .returned (.int .i64 (n : Int)) ∧ wr = w' := by
  obtain ⟨S, F, hL, hP, hX⟩ := h
  have hpr := fnext_any 1 wr hL.fl
  rwa [(flp_fail2 hP).2.2.2.2] at hpr
theorem flpI_read (h : FlpI B w g gx x fl n wr) (hx : x.length = 73) (hn : n ≤ 4) (i : Nat) (hi : i < n) : Calls Try.prog 16 #[.pointer (some ⟨g, 0, none⟩), .int .i64 1, .int .i64 (i : Int)] wr fun e w' => (∃ a cap, e = .returned (.tuple #[.slice a 73 cap, .int .i64 0]) ∧ Bytes w' a 73 x) ∧ FlpI B w g gx x fl n w' := by
  obtain ⟨S, F, hL, hP, hX⟩ := h
  obtain ⟨q1, q2⟩ := flp_read hP hx hn i hi
  have hpr := fread_any 1 i wr hL.fl
  rw [q1] at hpr
  refine hpr.mono ?_
  rintro e w' ⟨⟨v, rfl, hv⟩, hf, hfr⟩
  obtain ⟨a, cap, rfl, -, hby, hcap⟩ := readV_out hv hL.fl.1.2
  rw [hx] at hby
  exact ⟨⟨a, cap, by rw [hx], hby⟩, S, _, hL.fr hf hfr, q2, hX.same hfr⟩
theorem FlpI.bytes (h : FlpI B w g gx x fl n wr) : Bytes wr (some ⟨gx, 0, none⟩) 73 x := by
  obtain ⟨S, F, hL, hP, hX⟩ := h
  exact hX.1
theorem FlpI.be (h : FlpI B w g gx x fl n wr) : Below B w wr := by
  obtain ⟨S, F, hL, hP, hX⟩ := h
  exact hL.be
end

set_option maxRecDepth 100000 in
set_option maxHeartbeats 4000000 in
theorem nfails_go (p fill : Nat) (w : World) (hp : p ≤ 4) (hf : fill < 256) :
    Calls Try.prog 5 #[.int .i64 (p : Int), .int .u8 (fill : Int)] w fun e w' => e = .returned (.bool true) ∧ Below w.heap.size w w' := by
  obtain ⟨POST, hPOST⟩ : ∃ Q : Ending → World → Prop, Q = fun e w' => e = .returned (.bool true) ∧ Below w.heap.size w w' := ⟨_, rfl⟩
  rw [← hPOST]
  have HPOST := Lib.hid hPOST
  clear hPOST
  have t1 : 0 ≤ (p : Int) := by omega
  have t2 : (p : Int) ≤ 4 := by omega
  have hnew := fun w => fnew_any 2 4 1 w (by omega) (by omega) (by omega) (by omega) (by omega) (by omega) (by omega)
  have HNew := Lib.hid hnew
  clear hnew
  obtain ⟨x, hx⟩ : ∃ x, x = (List.replicate 73 0).set 5 fill := ⟨_, rfl⟩
  have HXE := Lib.hid hx
  have HXl : Hid (x.length = 73) := Lib.hid (by rw [hx]; simp)
  have HXc : Hid (∀ c ∈ x, c < 256) := Lib.hid (by
    intro c hc
    rw [hx] at hc
    rcases List.mem_or_eq_of_mem_set hc with q | q
    · have := List.eq_of_mem_replicate q; omega
    · omega)
  clear hx
  go_enter Try.func5, Try.ntmps5
  go_wp2_with fail
  refine (nknown_any _).mono ?_
  rintro e w1 ⟨rfl, hb⟩
  have HB := Lib.hid hb
  clear hb
  go_wp2_with fail
  refine (HNew.out _).mono ?_
  rintro e w2 ⟨⟨g, rfl, hg⟩, hb2⟩
  have HL := Lib.hid (Law.first HB.out hg hb2)
  obtain ⟨S, hS⟩ : ∃ S : Zone, S = fun k => w1.heap.size ≤ k ∧ k < w2.heap.size := ⟨_, rfl⟩
  rw [← hS] at HL
  clear hg hb2 hS
  go_wp2_with (at_make; refine Stop.mk ?_)
  refine Stop.go ?_
  refine wpList_make_u8 rfl _ _ 29 rfl w2.heap.size 5 Try.underlying29 Try.infoU8 73 rfl rfl (by omega) (Nat.le_refl _) ?_
  intro w3 hown hg3
  have hb3 : Below w2.heap.size w2 w3 := (Below.refl _ _).grown hg3 (Nat.le_refl _) (fun k hk => by simp at hk)
  have hL3 := HL.out.below hb3
  have hst := hown.stored 5 (.int .u8 (fill : Int))
  rw [u8s_set, ← HXE.out] at hst
  have hc5 := hown.cellAt 5 (by omega)
  have hf5 := hown.frozenAt 5
  have hb4 : Below w2.heap.size w3 (w3.setCell ⟨w2.heap.size, 5, none⟩ (.int .u8 (fill : Int))) := (Below.refl w2.heap.size w3).setCell (p := ⟨w2.heap.size, 5, none⟩) (Nat.le_refl _) _
  have hL4 : Law w.heap.size w S (w3.setCell ⟨w2.heap.size, 5, none⟩ (.int .u8 (fill : Int))) g (NF.new 2 4 1) := by
    refine ⟨HL.out.fl.below (hb3.trans hb4), HL.out.lo, HL.out.be.trans ((hb3.trans hb4).mono HL.out.size), HL.out.sz⟩
  have hX4 : BytesO S (w3.setCell ⟨w2.heap.size, 5, none⟩ (.int .u8 (fill : Int))) (some ⟨w2.heap.size, 0, none⟩) 73 x := bytesO_made hst.1 HXc.out HL.out.fl.1.2
  obtain ⟨gx, hgx⟩ : ∃ gx, gx = w2.heap.size := ⟨_, rfl⟩
  rw [← hgx] at hX4 hL4 hc5 hf5 ⊢
  have HI : Hid (FlpI w.heap.size w g gx x false 0 (w3.setCell ⟨gx, 5, none⟩ (.int .u8 (fill : Int)))) := Lib.hid ⟨S, _, hL4, flp_new x, hX4⟩
  have hc5' : w3.cell? ⟨gx, 5, none⟩ = some (.int .u8 0) := hc5.trans (by simp [u8s])
  clear hgx hX4 hL4 hb4 hst hL3 hb3 hown hg3 hc5 HL HB HNew
  go_wp2_with fail
  generalize w3.setCell ⟨gx, 5, none⟩ (.int .u8 (fill : Int)) = w4 at HI ⊢
  clear hc5' hf5
  go_loopw [8] (fun i wr => ∃ k : Nat, k ≤ p ∧ i = .int .i64 (k : Int) ∧ Hid (FlpI w.heap.size w g gx x false k wr)) (fun i _ => p - (intOf i).toNat)
  case atStart => exact ⟨0, Nat.zero_le _, rfl, HI⟩
  case round =>
    clear HI
    obtain ⟨k, hk, rfl, HI⟩ := hrel
    obtain ⟨wo, rfl⟩ : ∃ wo : World, wo = wr := ⟨_, rfl⟩
    by_cases hlt : k < p
    · have hlt' : (k : Int) < (p : Int) := by omega
      go_wp2_with fail
      refine (flpI_prog HI.out HXl.out (by omega)).mono ?_
      rintro e w6 ⟨rfl, hI6⟩
      have HI6 := Lib.hid hI6
      clear hI6 HI
      go_wp2_with fail
      go_roundw
      case rel => exact ⟨k + 1, by omega, by simp, HI6⟩
      case measure => simp [intOf]; omega
    · have hkp : k = p := by omega
      rw [hkp] at HI ⊢
      clear hkp hlt hk
      go_wp2_with fail
      refine (flpI_fail HI.out).mono ?_
      rintro e w6 ⟨rfl, hI6⟩
      have HI6 := Lib.hid hI6
      clear hI6 HI
      go_wp2_with fail
      refine (flpI_failNo HI6.out 2 (by omega)).mono ?_
      rintro e w7 ⟨rfl, hI7⟩
      have HI7 := Lib.hid hI7
      clear hI7 HI6
      go_wp2_with fail
      refine (flpI_failNo HI7.out (-1) (by omega)).mono ?_
      rintro e w8 ⟨rfl, hI8⟩
      have HI8 := Lib.hid hI8
      clear hI8 HI7
      go_wp2_with fail
      refine (flpI_failed HI8.out).mono ?_
      rintro e w9 ⟨rfl, rfl⟩
      go_wp2_with fail
      refine (flpI_failed0 HI8.out).mono ?_
      rintro e w9 ⟨rfl, rfl⟩
      by_cases hp4 : p < 4
      · have hp4' : (p : Int) < 4 := by omega
        go_wp2_with fail
        refine (flpI_prog7 HI8.out HXl.out hp4).mono ?_
        rintro e w9 ⟨rfl, hI9⟩
        have HI9 := Lib.hid hI9
        clear hI9 HI8
        go_wp2_with fail
        refine (flpI_erase HI9.out HXl.out).mono ?_
        rintro e w10 ⟨rfl, hI10⟩
        have HI10 := Lib.hid hI10
        clear hI10 HI9
        go_wp2_with fail
        refine (flpI_mode HI10.out HXl.out).mono ?_
        rintro e w11 ⟨rfl, hI11⟩
        have HI11 := Lib.hid hI11
        clear hI11 HI10
        go_wp2_with fail
        go_loopw [9] (fun i wr => ∃ k : Nat, k ≤ p ∧ i = .int .i64 (k : Int) ∧ Hid (FlpI w.heap.size w g gx x true p wr)) (fun i _ => p - (intOf i).toNat)
        case atStart => exact ⟨0, Nat.zero_le _, rfl, HI11⟩
        case round =>
          clear HI11
          obtain ⟨j, hj, rfl, HI⟩ := hrel
          obtain ⟨wo, rfl⟩ : ∃ wo : World, wo = wr := ⟨_, rfl⟩
          by_cases hlt : j < p
          · have hlt' : (j : Int) < (p : Int) := by omega
            go_wp2_with fail
            refine (flpI_read HI.out HXl.out hp j hlt).mono ?_
            rintro e wq ⟨⟨aq, cq, rfl, hbq⟩, hIq⟩
            have HIq := Lib.hid hIq
            have r1 := run_str (P := Try.prog) hbq 29 5 9 Try.underlying29 Try.underlying5 Try.underlying9 cq
            have r2 := run_str (P := Try.prog) HIq.out.bytes 29 5 9 Try.underlying29 Try.underlying5 Try.underlying9 73
            clear hIq HI hbq
            go_wp2_with fail
            go_roundw
            case rel => exact ⟨j + 1, by omega, by simp, HIq⟩
            case measure => simp [intOf]; omega
          · go_wp2_with fail
            refine (flpI_next HI.out).mono ?_
            rintro e wq ⟨rfl, rfl⟩
            go_wp2_with fail
            rw [HPOST.out]
            exact ⟨rfl, HI.out.be⟩
      · have hp4' : ¬ ((p : Int) < 4) := by omega
        go_wp2_with fail
        refine (flpI_erase HI8.out HXl.out).mono ?_
        rintro e w10 ⟨rfl, hI10⟩
        have HI10 := Lib.hid hI10
        clear hI10 HI8
        go_wp2_with fail
        refine (flpI_mode HI10.out HXl.out).mono ?_
        rintro e w11 ⟨rfl, hI11⟩
        have HI11 := Lib.hid hI11
        clear hI11 HI10
        go_wp2_with fail
        go_loopw [9] (fun i wr => ∃ k : Nat, k ≤ p ∧ i = .int .i64 (k : Int) ∧ Hid (FlpI w.heap.size w g gx x true p wr)) (fun i _ => p - (intOf i).toNat)
        case atStart => exact ⟨0, Nat.zero_le _, rfl, HI11⟩
        case round =>
          clear HI11
          obtain ⟨j, hj, rfl, HI⟩ := hrel
          obtain ⟨wo, rfl⟩ : ∃ wo : World, wo = wr := ⟨_, rfl⟩
          by_cases hlt : j < p
          · have hlt' : (j : Int) < (p : Int) := by omega
            go_wp2_with fail
            refine (flpI_read HI.out HXl.out hp j hlt).mono ?_
            rintro e wq ⟨⟨aq, cq, rfl, hbq⟩, hIq⟩
            have HIq := Lib.hid hIq
            have r1 := run_str (P := Try.prog) hbq 29 5 9 Try.underlying29 Try.underlying5 Try.underlying9 cq
            have r2 := run_str (P := Try.prog) HIq.out.bytes 29 5 9 Try.underlying29 Try.underlying5 Try.underlying9 73
            clear hIq HI hbq
            go_wp2_with fail
            go_roundw
            case rel => exact ⟨j + 1, by omega, by simp, HIq⟩
            case measure => simp [intOf]; omega
          · go_wp2_with fail
            refine (flpI_next HI.out).mono ?_
            rintro e wq ⟨rfl, rfl⟩
            go_wp2_with fail
            rw [HPOST.out]
            exact ⟨rfl, HI.out.be⟩

theorem nfails_any (p fill : Int) (w : World) (hf : (Lit.int .u8 fill).wf = true) :
    Calls Try.prog 5 #[.int .i64 p, .int .u8 fill] w fun e w' => e = .returned (.bool true) ∧ Below w.heap.size w w' := by
  obtain ⟨fill, rfl, hfl⟩ := nat_u8 hf
  by_cases t1 : 0 ≤ p
  · by_cases t2 : p ≤ 4
    · obtain ⟨p, rfl⟩ : ∃ q : Nat, p = q := ⟨p.toNat, by omega⟩
      exact nfails_go p fill w (by omega) hfl
    · have t2' : 4 < p := by omega
      obtain ⟨POST, hPOST⟩ : ∃ Q : Ending → World → Prop, Q = fun e w' => e = .returned (.bool true) ∧ Below w.heap.size w w' := ⟨_, rfl⟩
      rw [← hPOST]
      have HPOST := Lib.hid hPOST
      clear hPOST hf
      go_enter Try.func5, Try.ntmps5
      go_wp2_with fail
      refine (nknown_any _).mono ?_
      rintro e w1 ⟨rfl, hb⟩
      have HB := Lib.hid hb
      clear hb
      go_wp2_with fail
      rw [HPOST.out]
      exact ⟨rfl, HB.out⟩
  · have t1' : p < 0 := by omega
    obtain ⟨POST, hPOST⟩ : ∃ Q : Ending → World → Prop, Q = fun e w' => e = .returned (.bool true) ∧ Below w.heap.size w w' := ⟨_, rfl⟩
    rw [← hPOST]
    have HPOST := Lib.hid hPOST
    clear hPOST hf
    go_enter Try.func5, Try.ntmps5
    go_wp2_with fail
    refine (nknown_any _).mono ?_
    rintro e w1 ⟨rfl, hb⟩
    have HB := Lib.hid hb
    clear hb
    go_wp2_with fail
    rw [HPOST.out]
    exact ⟨rfl, HB.out⟩
end Go.Proofs.Ytbbhniohliklhaa
