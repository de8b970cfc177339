/- nand: NandCuts: what is kept. -/
import Derived.Test.YtbbhniohliklhaaNandO
namespace Go.Proofs.Ytbbhniohliklhaa
open Go Go.RowKit
set_option linter.unusedVariables false

/-- One block of two pages; the first one reads C. -/
def CutP (ch : Nat) (C : List Nat) (k : Nat) (half off : Bool) (armed : Int) (F : NF) : Prop :=
  F.off = off ∧ F.armed = armed ∧ F.np = 2 ∧ F.ch = ch ∧ ∃ b, F.bl = [b] ∧ b.next = k ∧ b.half = half ∧ b.failed = false ∧ b.one = false ∧ F.raw (b.pages.getD 0 []) = C
theorem cutp_at {ch : Nat} {C : List Nat} {k : Nat} {half off : Bool} {armed : Int} {F : NF} (h : CutP ch C k half off armed F) : ∃ b, F.at 0 = some b ∧ F.bl = [b] ∧ b.next = k ∧ b.half = half ∧ b.failed = false ∧ b.one = false ∧ F.raw (b.pages.getD 0 []) = C := by
  obtain ⟨h1, h2, h3, h4, b, h5, r⟩ := h
  exact ⟨b, by unfold NF.at; rw [h5]; rfl, h5, r⟩
theorem cutp_new (ch : Nat) : CutP ch (List.replicate (ch * 73) 255) 0 false false 0 (NF.new 1 2 ch) :=
  ⟨rfl, rfl, rfl, rfl, NB.new 2, rfl, rfl, rfl, rfl, rfl, rfl⟩
theorem cutp_has {ch : Nat} {C : List Nat} {k : Nat} {half off : Bool} {armed : Int} {F : NF} (h : CutP ch C k half off armed F) {b : NB} (hb : b.one = false) : F.has b 0 = true := by
  unfold NF.has NF.many
  rw [hb, h.2.2.1]
  rfl
theorem cutp_arm {ch : Nat} {C : List Nat} {k : Nat} {half off : Bool} {armed : Int} {F : NF} (h : CutP ch C k half off armed F) (n : Int) (hn : 1 ≤ n) : CutP ch C k half off n (F.arm n) := by
  obtain ⟨h1, h2, h3, h4, r⟩ := h
  exact ⟨h1, by simp only [NF.arm]; omega, h3, h4, r⟩
theorem cutp_on {ch : Nat} {C : List Nat} {k : Nat} {half off : Bool} {armed : Int} {F : NF} (h : CutP ch C k half off armed F) : CutP ch C k half false armed F.on := by
  obtain ⟨h1, h2, h3, h4, r⟩ := h
  exact ⟨rfl, h2, h3, h4, r⟩
theorem cutp_cut {ch : Nat} {C : List Nat} {k : Nat} {half off : Bool} {armed : Int} {F : NF} (h : CutP ch C k half off armed F) : CutP ch C k half true 0 F.cut := by
  obtain ⟨h1, h2, h3, h4, r⟩ := h
  exact ⟨rfl, rfl, h3, h4, r⟩
theorem cutp_read {ch : Nat} {C : List Nat} {k : Nat} {armed : Int} {F : NF} (h : CutP ch C k false false armed F) : F.read 0 0 = (C, 0, F.readF) ∧ CutP ch C k false false armed F.readF := by
  obtain ⟨b, ha, hb, hn, hh, hf, ho, hc⟩ := cutp_at h
  have hhas := cutp_has h ho
  obtain ⟨h1, h2, h3, h4, r⟩ := h
  refine ⟨?_, h1, h2, h3, h4, r⟩
  unfold NF.read
  rw [ha]
  dsimp only
  have hE : F.readE b 0 = 0 := by unfold NF.readE; rw [h1, hhas, hh]; rfl
  rw [hE]
  simp only [ne_eq, not_true_eq_false, if_false]
  rw [show (0 : Int).toNat = 0 by rfl, hc]
theorem cutp_bad {ch : Nat} {C : List Nat} {k : Nat} {armed : Int} {F : NF} (h : CutP ch C k true false armed F) : F.read 0 0 = ([], 8, F) := by
  obtain ⟨b, ha, hb, hn, hh, hf, ho, hc⟩ := cutp_at h
  have hhas := cutp_has h ho
  obtain ⟨h1, h2, h3, h4, r⟩ := h
  unfold NF.read
  rw [ha]
  dsimp only
  have hE : F.readE b 0 = 8 := by unfold NF.readE; rw [h1, hhas, hh]; rfl
  rw [hE]
  rfl
theorem cutp_next {ch : Nat} {C : List Nat} {k : Nat} {half off : Bool} {armed : Int} {F : NF} (h : CutP ch C k half off armed F) : F.nextAt 0 = if half then -1 else (k : Int) := by
  obtain ⟨b, ha, hb, hn, hh, hf, ho, hc⟩ := cutp_at h
  unfold NF.nextAt NB.nextI
  rw [ha]
  dsimp only
  rw [hh, hn]
theorem ticks_val {F : NF} (m : Nat) : ∀ k, k ≤ m → F.armed = (m : Int) + 1 → (F.ticks k).armed = (m : Int) + 1 - k
  | 0, _, h => by simp [NF.ticks, h]
  | k + 1, hk, h => by
    have := ticks_val m k (by omega) h
    simp only [NF.ticks, NF.tick]
    rw [this]
    omega
theorem progGo_cut (F : NF) (n p : Nat) (x : NB) (raw old : List Nat) (m : Nat) (ha : F.armed = (m : Int) + 1) : ∀ j k, j + k > m → k ≤ m → F.progGo n p x raw old j k = (4, (F.progK n p x raw old m).cut)
  | 0, k, h1, h2 => by omega
  | j + 1, k, h1, h2 => by
    unfold NF.progGo
    have hv := ticks_val m k h2 ha
    by_cases e : k = m
    · subst e
      rw [if_pos (by omega)]
    · rw [if_neg (by omega)]
      exact progGo_cut F n p x raw old m ha j (k + 1) (by omega) (by omega)
/-- A program whose power goes at the chunk behind m ones. -/
theorem cutp_prog {ch m : Nat} {F : NF} (h : CutP ch (List.replicate (ch * 73) 255) 0 false false ((m : Int) + 1) F) (hg : F.Good) (hm : m < ch) (raw : List Nat) (hr : raw.length = ch * 73) :
    (F.prog 0 0 raw).1 = 4 ∧ CutP ch (chunkTo raw (List.replicate (ch * 73) 255) m) (if m = 0 then 0 else 1) false true 0 (F.prog 0 0 raw).2 := by
  obtain ⟨b, ha, hb, hn, hh, hf, ho, hc⟩ := cutp_at h
  have hhas := cutp_has h ho
  obtain ⟨h1, h2, h3, h4, r⟩ := h
  have hE : F.progE b 0 raw.length = 0 := by
    unfold NF.progE
    rw [hh, hf, h4, hr, hhas, hn]
    simp [NF.mayE, h1]
  have hp : F.prog 0 0 raw = (4, (F.progK 0 0 b raw (F.raw []) m).cut) := by
    unfold NF.prog
    rw [ha]
    dsimp only
    rw [hE]
    simp only [ne_eq, not_true_eq_false, if_false]
    rw [h4]
    exact progGo_cut F _ _ b raw _ m h2 ch 0 (by omega) (by omega)
  rw [hp]
  have hff : F.raw [] = List.replicate (ch * 73) 255 := by unfold NF.raw; rw [if_pos rfl, h4]
  refine ⟨rfl, ?_⟩
  rw [hff]
  obtain ⟨t1, t2, t3⟩ := F.ticks_bl m
  unfold NF.progK
  by_cases e : m = 0
  · subst e
    rw [if_pos rfl]
    simp only [if_true]
    refine ⟨rfl, rfl, h3, h4, b, hb, hn, hh, hf, ho, ?_⟩
    rw [chunkTo_zero]
    exact hc
  · rw [if_neg e, if_neg e]
    refine ⟨rfl, rfl, t2.trans h3, t3.trans h4, b.prog 0 (chunkTo raw (List.replicate (ch * 73) 255) m), ?_, ?_, hh, hf, ho, ?_⟩
    · simp [NF.cut, NF.setB, t1, hb]
    · simp [NB.prog]
    · have hgb := hg.at' (n := 0) (x := b) (by rw [hb]; rfl)
      have hl := chunkTo_len (old := List.replicate (ch * 73) 255) (N := ch * 73) (k := m) hr (by simp) (by omega)
      have hpl : (b.prog 0 (chunkTo raw (List.replicate (ch * 73) 255) m)).pages.getD 0 [] = chunkTo raw (List.replicate (ch * 73) 255) m := by
        have : 0 < b.pages.length := by rw [hgb.pl, h3]; omega
        simp [NB.prog, List.getD, this]
      rw [hpl]
      unfold NF.raw
      rw [if_neg (by intro q; rw [q] at hl; simp at hl; omega)]
theorem cutp_er1 {ch : Nat} {C : List Nat} {k : Nat} {half : Bool} {F : NF} (h : CutP ch C k half false 1 F) : (F.erase 0).1 = 4 ∧ CutP ch C k half true 0 (F.erase 0).2 := by
  have hcut := cutp_cut h
  obtain ⟨b, ha, hb, hn, hh, hf, ho, hc⟩ := cutp_at h
  obtain ⟨h1, h2, h3, h4, r⟩ := h
  unfold NF.erase NF.erE NF.erGo
  rw [ha]
  dsimp only
  rw [hf, show F.mayE false true = 0 by unfold NF.mayE; rw [h1]; rfl, if_neg (by decide), if_pos h2]
  exact ⟨rfl, hcut⟩
theorem cutp_er2 {ch : Nat} {C : List Nat} {k : Nat} {half : Bool} {F : NF} (h : CutP ch C k half false 2 F) : (F.erase 0).1 = 4 ∧ CutP ch C k true true 0 (F.erase 0).2 := by
  obtain ⟨b, ha, hb, hn, hh, hf, ho, hc⟩ := cutp_at h
  obtain ⟨h1, h2, h3, h4, r⟩ := h
  unfold NF.erase NF.erE NF.erGo
  rw [ha]
  dsimp only
  rw [hf, show F.mayE false true = 0 by unfold NF.mayE; rw [h1]; rfl, if_neg (by decide), if_neg (by omega), if_pos (show F.tick.armed = 1 by simp only [NF.tick]; omega)]
  refine ⟨rfl, rfl, rfl, h3, h4, { b with half := true }, ?_, hn, rfl, hf, ho, hc⟩
  simp [NF.cut, NF.half, NF.setB, NF.tick, hb]
theorem cutp_er0 {ch : Nat} {C : List Nat} {k : Nat} {half : Bool} {F : NF} (h : CutP ch C k half false 0 F) : (F.erase 0).1 = 0 ∧ CutP ch (List.replicate (ch * 73) 255) 0 false false 0 (F.erase 0).2 := by
  obtain ⟨b, ha, hb, hn, hh, hf, ho, hc⟩ := cutp_at h
  obtain ⟨h1, h2, h3, h4, r⟩ := h
  unfold NF.erase NF.erE NF.erGo
  rw [ha]
  dsimp only
  rw [hf, show F.mayE false true = 0 by unfold NF.mayE; rw [h1]; rfl, if_neg (by decide), if_neg (by omega), if_neg (show ¬ F.tick.armed = 1 by simp only [NF.tick]; omega)]
  refine ⟨rfl, h1, by simp only [NF.half, NF.setB, NF.tick]; omega, h3, h4, b.erased F.np, ?_, rfl, rfl, hf, ho, ?_⟩
  · simp [NF.half, NF.setB, NF.tick, hb]
  · unfold NF.raw
    rw [if_pos (by simp [NB.erased, h3])]
    rw [show ∀ (G : NF), ({ G with er := IntKind.i64.wrap (F.er + 1) } : NF).ch = G.ch from fun _ => rfl]
    simp [NF.half, NF.setB, NF.tick, h4]

/-- What the law keeps: the flash, the bytes x, and other ones. -/
def CutI (B : Nat) (w : World) (g : Nat) (ax ay : Option Addr) (N : Nat) (X Y : List Nat) (ch : Nat) (C : List Nat) (k : Nat) (half off : Bool) (armed : Int) (wr : World) : Prop :=
  ∃ S F, Law B w S wr g F ∧ CutP ch C k half off armed F ∧ BytesO S wr ax N X ∧ BytesO S wr ay N Y
section
variable {B : Nat} {w : World} {g : Nat} {ax ay : Option Addr} {N : Nat} {X Y : List Nat} {ch : Nat} {C : List Nat} {k : Nat} {half off : Bool} {armed : Int} {wr : World}
theorem cutI_arm (h : CutI B w g ax ay N X Y ch C k half off armed wr) (n : Int) (h1 : 1 ≤ n) (h2 : n ≤ 1000) : Calls Try.prog 13 #[.pointer (some ⟨g, 0, none⟩), .int .i64 n] wr fun e w' => e = .returned (.tuple #[]) ∧ CutI B w g ax ay N X Y ch C k half off n w' := by
  obtain ⟨S, F, hL, hP, hX, hY⟩ := h
  refine (farm_any n wr hL.fl (by omega)).mono ?_
  rintro e w' ⟨rfl, ho⟩
  exact ⟨rfl, _, _, hL.op ho, cutp_arm hP n h1, hX.op ho, hY.op ho⟩
theorem cutI_on (h : CutI B w g ax ay N X Y ch C k half off armed wr) : Calls Try.prog 15 #[.pointer (some ⟨g, 0, none⟩)] wr fun e w' => e = .returned (.tuple #[]) ∧ CutI B w g ax ay N X Y ch C k half false armed w' := by
  obtain ⟨S, F, hL, hP, hX, hY⟩ := h
  refine (fon_any wr hL.fl).mono ?_
  rintro e w' ⟨rfl, ho⟩
  exact ⟨rfl, _, _, hL.op ho, cutp_on hP, hX.op ho, hY.op ho⟩
theorem cutI_off (h : CutI B w g ax ay N X Y ch C k half off armed wr) : Calls Try.prog 14 #[.pointer (some ⟨g, 0, none⟩)] wr fun e w' => e = .returned (.bool off) ∧ wr = w' := by
  obtain ⟨S, F, hL, hP, hX, hY⟩ := h
  have := foff_any wr hL.fl
  rwa [hP.1] at this
theorem cutI_prog {m : Nat} {a0 : Addr} {cap : Nat} (h : CutI B w g (some a0) ay N X Y ch (List.replicate (ch * 73) 255) 0 false false ((m : Int) + 1) wr) (hm : m < ch) (hN : N = ch * 73) (hc8 : ch ≤ 8) (hcap : N ≤ cap) : Calls Try.prog 11 #[.pointer (some ⟨g, 0, none⟩), .int .i64 0, .int .i64 0, .slice (some a0) N cap] wr fun e w' => e = .returned (.int .i64 4) ∧ CutI B w g (some a0) ay N X Y ch (chunkTo X (List.replicate (ch * 73) 255) m) (if m = 0 then 0 else 1) false true 0 w' := by
  obtain ⟨S, F, hL, hP, hX, hY⟩ := h
  have hr : X.length = ch * 73 := by rw [hX.1.1, hN]
  obtain ⟨q1, q2⟩ := cutp_prog hP hL.fl.2 hm X hr
  have hp := fprog_any 0 0 (some a0) N cap X wr hL.fl hX.1 hX.out hcap (by omega)
  rw [q1] at hp
  refine hp.mono ?_
  rintro e w' ⟨rfl, ho⟩
  exact ⟨rfl, _, _, hL.op ho, q2, hX.op ho, hY.op ho⟩
theorem cutI_read (h : CutI B w g ax ay N X Y ch C k false false armed wr) (hC : C.length = N) (h0 : 0 < N) : Calls Try.prog 16 #[.pointer (some ⟨g, 0, none⟩), .int .i64 0, .int .i64 0] wr fun e w' => ∃ b cap, e = .returned (.tuple #[.slice (some b) N cap, .int .i64 0]) ∧ N ≤ cap ∧ Bytes w' (some b) N C ∧ CutI B w g ax ay N X Y ch C k false false armed w' ∧ CutI B w g ax (some b) N X C ch C k false false armed w' := by
  obtain ⟨S, F, hL, hP, hX, hY⟩ := h
  obtain ⟨q1, q2⟩ := cutp_read hP
  have hp := fread_any 0 0 wr hL.fl
  rw [q1] at hp
  refine hp.mono ?_
  rintro e w' ⟨⟨v, rfl, hv⟩, hf, hfr⟩
  obtain ⟨a, cap, rfl, hbo, hby, hcap⟩ := readV_out hv hL.fl.1.2
  rw [hC] at hbo hby hcap
  obtain ⟨b, off, rfl, _⟩ := hby.at0 h0
  exact ⟨⟨b, off, none⟩, cap, by rw [hC], hcap, hby, ⟨S, _, hL.fr hf hfr, q2, hX.same hfr, hY.same hfr⟩, ⟨S, _, hL.fr hf hfr, q2, hX.same hfr, hbo h0⟩⟩
theorem cutI_bad (h : CutI B w g ax ay N X Y ch C k true false armed wr) : Calls Try.prog 16 #[.pointer (some ⟨g, 0, none⟩), .int .i64 0, .int .i64 0] wr fun e w' => (∃ v, e = .returned (.tuple #[v, .int .i64 8])) ∧ CutI B w g ax ay N X Y ch C k true false armed w' := by
  obtain ⟨S, F, hL, hP, hX, hY⟩ := h
  have hp := fread_any 0 0 wr hL.fl
  rw [cutp_bad hP] at hp
  refine hp.mono ?_
  rintro e w' ⟨⟨v, rfl, hv⟩, hf, hfr⟩
  exact ⟨⟨v, rfl⟩, S, _, hL.fr hf hfr, hP, hX.same hfr, hY.same hfr⟩
theorem cutI_next (h : CutI B w g ax ay N X Y ch C k half off armed wr) : Calls Try.prog 12 #[.pointer (some ⟨g, 0, none⟩), .int .i64 0] wr fun e w' => e = .returned (.int .i64 (if half then -1 else (k : Int))) ∧ wr = w' := by
  obtain ⟨S, F, hL, hP, hX, hY⟩ := h
  have := fnext_any 0 wr hL.fl
  rwa [cutp_next hP] at this
theorem cutI_er1 (h : CutI B w g ax ay N X Y ch C k half false 1 wr) : Calls Try.prog 17 #[.pointer (some ⟨g, 0, none⟩), .int .i64 0] wr fun e w' => e = .returned (.int .i64 4) ∧ CutI B w g ax ay N X Y ch C k half true 0 w' := by
  obtain ⟨S, F, hL, hP, hX, hY⟩ := h
  have hp := ferase_any 0 wr hL.fl
  rw [(cutp_er1 hP).1] at hp
  refine hp.mono ?_
  rintro e w' ⟨rfl, ho⟩
  exact ⟨rfl, _, _, hL.op ho, (cutp_er1 hP).2, hX.op ho, hY.op ho⟩
theorem cutI_er2 (h : CutI B w g ax ay N X Y ch C k half false 2 wr) : Calls Try.prog 17 #[.pointer (some ⟨g, 0, none⟩), .int .i64 0] wr fun e w' => e = .returned (.int .i64 4) ∧ CutI B w g ax ay N X Y ch C k true true 0 w' := by
  obtain ⟨S, F, hL, hP, hX, hY⟩ := h
  have hp := ferase_any 0 wr hL.fl
  rw [(cutp_er2 hP).1] at hp
  refine hp.mono ?_
  rintro e w' ⟨rfl, ho⟩
  exact ⟨rfl, _, _, hL.op ho, (cutp_er2 hP).2, hX.op ho, hY.op ho⟩
theorem cutI_er0 (h : CutI B w g ax ay N X Y ch C k half false 0 wr) : Calls Try.prog 17 #[.pointer (some ⟨g, 0, none⟩), .int .i64 0] wr fun e w' => e = .returned (.int .i64 0) ∧ CutI B w g ax ay N X Y ch (List.replicate (ch * 73) 255) 0 false false 0 w' := by
  obtain ⟨S, F, hL, hP, hX, hY⟩ := h
  have hp := ferase_any 0 wr hL.fl
  rw [(cutp_er0 hP).1] at hp
  refine hp.mono ?_
  rintro e w' ⟨rfl, ho⟩
  exact ⟨rfl, _, _, hL.op ho, (cutp_er0 hP).2, hX.op ho, hY.op ho⟩
theorem CutI.bx (h : CutI B w g ax ay N X Y ch C k half off armed wr) : Bytes wr ax N X ∧ Bytes wr ay N Y := by
  obtain ⟨S, F, hL, hP, hX, hY⟩ := h
  exact ⟨hX.1, hY.1⟩
theorem CutI.be (h : CutI B w g ax ay N X Y ch C k half off armed wr) : Below B w wr := by
  obtain ⟨S, F, hL, hP, hX, hY⟩ := h
  exact hL.be
theorem CutI.below (h : CutI B w g ax ay N X Y ch C k half off armed wr) {w' : World} (hb : Below wr.heap.size wr w') : CutI B w g ax ay N X Y ch C k half off armed w' := by
  obtain ⟨S, F, hL, hP, hX, hY⟩ := h
  exact ⟨S, F, hL.below hb, hP, hX.below hb, hY.below hb⟩
end
end Go.Proofs.Ytbbhniohliklhaa
