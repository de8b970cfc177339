/- nand: NandApart: what is kept. -/
import Derived.Test.YtbbhniohliklhaaNandU
namespace Go.Proofs.Ytbbhniohliklhaa
open Go Go.RowKit
set_option linter.unusedVariables false

/-- A flash with its power on, of four blocks, of which one is b. -/
def ApP (o : Nat) (b : NB) (F : NF) : Prop := F.off = false ∧ F.armed = 0 ∧ F.np = 4 ∧ F.ch = 2 ∧ F.bl[o]? = some b
theorem ap_setB {o : Nat} {b : NB} {F : NF} (h : ApP o b F) {m : Nat} (hm : m ≠ o) (x : NB) : ApP o b (F.setB m x) := by
  obtain ⟨h1, h2, h3, h4, h5⟩ := h
  exact ⟨h1, h2, h3, h4, by simp only [NF.setB]; rw [List.getElem?_set_ne hm]; exact h5⟩
theorem ap_tick {o : Nat} {b : NB} {F : NF} (h : ApP o b F) : ApP o b F.tick := by
  obtain ⟨h1, h2, h3, h4, h5⟩ := h
  exact ⟨h1, by simp only [NF.tick]; omega, h3, h4, h5⟩
theorem ap_ticks {o : Nat} {b : NB} {F : NF} (h : ApP o b F) : ∀ k, ApP o b (F.ticks k)
  | 0 => h
  | k + 1 => ap_tick (ap_ticks h k)
theorem ap_progK {o : Nat} {b : NB} {F : NF} (h : ApP o b F) {n : Nat} (hn : n ≠ o) (p : Nat) (x : NB) (raw old : List Nat) (k : Nat) : ApP o b (F.progK n p x raw old k) := by
  unfold NF.progK
  split
  · exact h
  · exact ap_setB (ap_ticks h k) hn _
theorem ap_progGo {o : Nat} {b : NB} {F : NF} (h : ApP o b F) {n : Nat} (hn : n ≠ o) (p : Nat) (x : NB) (raw old : List Nat) : ∀ m k, ApP o b (F.progGo n p x raw old m k).2
  | 0, k => by
    have := ap_progK h hn p x raw old k
    obtain ⟨h1, h2, h3, h4, h5⟩ := this
    exact ⟨h1, h2, h3, h4, h5⟩
  | m + 1, k => by
    unfold NF.progGo
    rw [if_neg (by rw [(ap_ticks h k).2.1]; decide)]
    exact ap_progGo h hn p x raw old m (k + 1)
theorem ap_prog {o : Nat} {b : NB} {F : NF} (h : ApP o b F) {n : Int} (hn : n ≠ o) (p : Int) (raw : List Nat) : ApP o b (F.prog n p raw).2 := by
  unfold NF.prog
  cases ha : F.at n with
  | none => exact h
  | some x =>
    obtain ⟨m, rfl, hm⟩ := NF.at_some ha
    dsimp only
    split
    · exact h
    · exact ap_progGo h (by omega) _ x raw _ _ _
theorem ap_erase {o : Nat} {b : NB} {F : NF} (h : ApP o b F) {n : Int} (hn : n ≠ o) : ApP o b (F.erase n).2 := by
  unfold NF.erase
  cases ha : F.at n with
  | none => exact h
  | some x =>
    obtain ⟨m, rfl, hm⟩ := NF.at_some ha
    dsimp only
    unfold NF.erE
    split
    · exact h
    · unfold NF.erGo
      rw [if_neg (by rw [h.2.1]; decide), if_neg (by rw [(ap_tick h).2.1]; decide)]
      have h1 : ApP o b (F.half ((m : Int)).toNat x) := ap_setB (ap_tick h) (by omega) _
      have h2 := ap_setB (ap_tick h1) (m := ((m : Int)).toNat) (by omega) (x.erased F.np)
      obtain ⟨q1, q2, q3, q4, q5⟩ := h2
      exact ⟨q1, q2, q3, q4, q5⟩
theorem ap_mode {o : Nat} {b : NB} {F : NF} (h : ApP o b F) {n : Int} (hn : n ≠ o) (one : Bool) : ApP o b (F.mode n one).2 := by
  unfold NF.mode
  cases ha : F.at n with
  | none => exact h
  | some x =>
    obtain ⟨m, rfl, hm⟩ := NF.at_some ha
    dsimp only
    unfold NF.modeF
    split
    · exact ap_setB h (by omega) _
    · exact h
theorem ap_fail {o : Nat} {b : NB} {F : NF} (h : ApP o b F) {n : Int} (hn : n ≠ o) : ApP o b (F.fail n).2 := by
  unfold NF.fail
  cases ha : F.at n with
  | none => exact h
  | some x =>
    obtain ⟨m, rfl, hm⟩ := NF.at_some ha
    exact ap_setB h (by omega) _
theorem ap_flip {o : Nat} {b : NB} {F : NF} (h : ApP o b F) {n : Int} (hn : n ≠ o) (p k : Int) : ApP o b (F.flip n p k).2 := by
  unfold NF.flip
  cases ha : F.at n with
  | none => exact h
  | some x =>
    obtain ⟨m, rfl, hm⟩ := NF.at_some ha
    dsimp only
    split
    · exact ap_setB h (by omega) _
    · exact h
/-- What is told of a block. -/
def NB.solo (b : NB) : NF := ⟨false, 0, 0, [b], 4, 2, 0, 0, 0⟩
def NB.tellR (b : NB) (p : Int) : List Nat × Int := ((b.solo.read 0 p).1, (b.solo.read 0 p).2.1)
theorem ap_at {o : Nat} {b : NB} {F : NF} (h : ApP o b F) : F.at (o : Int) = some b := by
  unfold NF.at
  rw [if_pos (by omega)]
  exact h.2.2.2.2
theorem ap_read {o : Nat} {b : NB} {F : NF} (h : ApP o b F) (p : Int) : (F.read o p).1 = (b.tellR p).1 ∧ (F.read o p).2.1 = (b.tellR p).2 ∧ ApP o b (F.read o p).2.2 := by
  obtain ⟨h1, h2, h3, h4, h5⟩ := h
  have ha := ap_at ⟨h1, h2, h3, h4, h5⟩
  have e1 : F.readE b p = b.solo.readE b p := by
    unfold NF.readE NF.has NF.many
    rw [h1, h3]
    rfl
  unfold NB.tellR
  dsimp only
  have hb : b.solo.at 0 = some b := rfl
  unfold NF.read
  rw [ha, hb]
  dsimp only
  rw [← e1]
  split
  · exact ⟨rfl, rfl, h1, h2, h3, h4, h5⟩
  · refine ⟨?_, rfl, h1, h2, h3, h4, h5⟩
    unfold NF.raw
    rw [h4]
    rfl
theorem ap_tell {o : Nat} {b : NB} {F : NF} (h : ApP o b F) : F.nextAt o = b.nextI ∧ F.oneAt o = b.one ∧ F.failedAt o = b.failed := by
  have ha := ap_at h
  unfold NF.nextAt NF.oneAt NF.failedAt
  rw [ha]
  exact ⟨rfl, rfl, rfl⟩
/-- At the beginning, one page of the block programmed. -/
theorem ap_first (o : Nat) (ho : o < 4) (raw : List Nat) (hr : raw.length = 146) : ∃ b : NB, b.failed = false ∧ ApP o b ((NF.new 4 4 2).prog o 0 raw).2 := by
  have ha : (NF.new 4 4 2).at (o : Int) = some (NB.new 4) := by
    match o, ho with
    | 0, _ => rfl
    | 1, _ => rfl
    | 2, _ => rfl
    | 3, _ => rfl
  unfold NF.prog
  rw [ha]
  dsimp only
  have hE : (NF.new 4 4 2).progE (NB.new 4) 0 raw.length = 0 := by rw [hr]; rfl
  rw [hE]
  simp only [ne_eq, not_true_eq_false, if_false]
  have h4 : (NF.new 4 4 2).ch = 2 := rfl
  rw [h4]
  refine ⟨(NB.new 4).prog 0 (chunkTo raw ((NF.new 4 4 2).raw []) 2), rfl, ?_⟩
  unfold NF.progGo
  rw [if_neg (by decide)]
  unfold NF.progGo
  rw [if_neg (by decide)]
  unfold NF.progGo
  refine ⟨rfl, rfl, rfl, rfl, ?_⟩
  show ((NF.progK (NF.new 4 4 2) ((o : Int)).toNat (0 : Int).toNat (NB.new 4) raw ((NF.new 4 4 2).raw []) 2).done).bl[o]? = _
  unfold NF.progK
  rw [if_neg (by decide)]
  rw [show ((o : Int)).toNat = o by omega, show (0 : Int).toNat = 0 by rfl]
  simp only [NF.done, NF.setB]
  rw [List.getElem?_set_self]
  rw [show ((NF.new 4 4 2).ticks 2).bl = (NF.new 4 4 2).bl from rfl]
  simpa [NF.new] using ho

/-- Bytes that stay, or none at all. -/
def BytesP (S : Zone) (w : World) (a : Option Addr) (len : Nat) (l : List Nat) : Prop := Bytes w a len l ∧ (0 < len → BytesO S w a len l)
theorem BytesP.of {S S' : Zone} {w w' : World} {a : Option Addr} {len : Nat} {l : List Nat} (h : BytesP S w a len l) (hf : BytesO S w a len l → BytesO S' w' a len l) : BytesP S' w' a len l := by
  by_cases h0 : 0 < len
  · have := hf (h.2 h0)
    exact ⟨this.1, fun _ => this⟩
  · exact ⟨⟨h.1.1, h.1.2.1, fun q => absurd q h0⟩, fun q => absurd q h0⟩
/-- What the law keeps: the flash, what was read, what is programmed. -/
def ApI (B : Nat) (w : World) (g o : Nat) (b : NB) (aw : Option Addr) (W : List Nat) (ax : Option Addr) (X : List Nat) (wr : World) : Prop := ∃ S F, Law B w S wr g F ∧ ApP o b F ∧ BytesP S wr aw W.length W ∧ BytesP S wr ax X.length X
section
variable {B : Nat} {w : World} {g o : Nat} {b : NB} {aw ax : Option Addr} {W X : List Nat} {wr : World}
theorem ApI.below (h : ApI B w g o b aw W ax X wr) {w' : World} (hb : Below wr.heap.size wr w') : ApI B w g o b aw W ax X w' := by
  obtain ⟨S, F, hL, hP, hX, hY⟩ := h
  exact ⟨S, F, hL.below hb, hP, hX.of fun q => q.below hb, hY.of fun q => q.below hb⟩
theorem ApI.be (h : ApI B w g o b aw W ax X wr) : Below B w wr := by
  obtain ⟨S, F, hL, hP, hX, hY⟩ := h
  exact hL.be
theorem ApI.bytes (h : ApI B w g o b aw W ax X wr) : Bytes wr aw W.length W := by
  obtain ⟨S, F, hL, hP, hX, hY⟩ := h
  exact hX.1
theorem apI_op {F' : NF} (S : Zone) (F : NF) (hL : Law B w S wr g F) (hX : BytesP S wr aw W.length W) (hY : BytesP S wr ax X.length X) {w' : World} (ho : OpW S wr g F' w') (hP : ApP o b F') : ApI B w g o b aw W ax X w' :=
  ⟨_, _, hL.op ho, hP, hX.of fun q => q.op ho, hY.of fun q => q.op ho⟩
/-- What an act programs, at hand. -/
theorem apI_raw (h : ApI B w g o b aw W ax X wr) {x : NAct} {ch : Nat} {w0 : World} (hx : x.wf w) (hw : B = w.heap.size) {e : Ending} {w' : World} (hr : RawR x ch wr e w') : ∃ a c, e = .returned (.slice a (x.bytes ch).length c) ∧ (x.bytes ch).length ≤ c ∧ ApI B w g o b aw W a (x.bytes ch) w' := by
  obtain ⟨S, F, hL, hP, hX, hY⟩ := h
  obtain ⟨⟨a, c, rfl, hby, hc, hn, hwh⟩, hb⟩ := hr
  refine ⟨a, c, rfl, hc, S, F, hL.below hb, hP, hX.of fun q => q.below hb, hby, fun h0 => ⟨hby, fun ad ha => ?_⟩⟩
  obtain ⟨bb, off, e2, hlt, _⟩ := hby.2.2 h0
  have e3 : ad = ⟨bb, off, none⟩ := by rw [e2] at ha; exact (Option.some.inj ha).symm
  have hlt' : ad.block < w'.heap.size := by rw [e3]; exact hlt
  refine ⟨fun q => ?_, hlt'⟩
  rcases hwh with ⟨hra, h1⟩ | hfr
  · have hxb := hx.2.2.2.2.2.1
    obtain ⟨b3, o3, e4, hl3, _⟩ := hxb.2.2 h1
    have : ad = ⟨b3, o3, none⟩ := by rw [← hra, ha] at e4; exact Option.some.inj e4
    have := hL.lo _ q
    rw [‹ad = ⟨b3, o3, none⟩›] at this
    dsimp only at this
    omega
  · have := hfr ad ha
    have := hL.fl.1.2 _ q
    omega
theorem apI_prog (h : ApI B w g o b aw W ax X wr) (n p : Int) (hn : n ≠ o) (cap : Nat) (h0 : 0 < X.length) (hlc : X.length ≤ cap) (hlen : X.length ≤ 1000000) : Calls Try.prog 11 #[.pointer (some ⟨g, 0, none⟩), .int .i64 n, .int .i64 p, .slice ax X.length cap] wr fun e w' => (∃ z, e = .returned (.int .i64 z)) ∧ ApI B w g o b aw W aw W w' := by
  obtain ⟨S, F, hL, hP, hX, hY⟩ := h
  refine (fprog_any n p ax X.length cap X wr hL.fl hY.1 (hY.2 h0).out hlc hlen).mono ?_
  rintro e w' ⟨rfl, ho⟩
  exact ⟨⟨_, rfl⟩, apI_op S F hL hX hX ho (ap_prog hP hn p X)⟩
theorem NAct.bytes_pos (x : NAct) : 0 < (x.bytes 2).length := by
  unfold NAct.bytes
  split
  · assumption
  · simp [fillL]
theorem NAct.bytes_le (x : NAct) (h : x.raw.length ≤ 1000000) : (x.bytes 2).length ≤ 1000000 := by
  unfold NAct.bytes
  split
  · exact h
  · simp [fillL]
theorem apI_erase (h : ApI B w g o b aw W ax X wr) (n : Int) (hn : n ≠ o) : Calls Try.prog 17 #[.pointer (some ⟨g, 0, none⟩), .int .i64 n] wr fun e w' => (∃ z, e = .returned (.int .i64 z)) ∧ ApI B w g o b aw W ax X w' := by
  obtain ⟨S, F, hL, hP, hX, hY⟩ := h
  refine (ferase_any n wr hL.fl).mono ?_
  rintro e w' ⟨rfl, ho⟩
  exact ⟨⟨_, rfl⟩, apI_op S F hL hX hY ho (ap_erase hP hn)⟩
theorem apI_mode (h : ApI B w g o b aw W ax X wr) (n : Int) (one : Bool) (hn : n ≠ o) : Calls Try.prog 10 #[.pointer (some ⟨g, 0, none⟩), .int .i64 n, .bool one] wr fun e w' => (∃ z, e = .returned (.int .i64 z)) ∧ ApI B w g o b aw W ax X w' := by
  obtain ⟨S, F, hL, hP, hX, hY⟩ := h
  refine (fmode_any n one wr hL.fl).mono ?_
  rintro e w' ⟨rfl, ho⟩
  exact ⟨⟨_, rfl⟩, apI_op S F hL hX hY ho (ap_mode hP hn one)⟩
theorem apI_fail (h : ApI B w g o b aw W ax X wr) (n : Int) (hn : n ≠ o) : Calls Try.prog 18 #[.pointer (some ⟨g, 0, none⟩), .int .i64 n] wr fun e w' => (∃ z, e = .returned (.bool z)) ∧ ApI B w g o b aw W ax X w' := by
  obtain ⟨S, F, hL, hP, hX, hY⟩ := h
  refine (ffail_any n wr hL.fl).mono ?_
  rintro e w' ⟨rfl, ho⟩
  exact ⟨⟨_, rfl⟩, apI_op S F hL hX hY ho (ap_fail hP hn)⟩
theorem apI_flip (h : ApI B w g o b aw W ax X wr) (n p k : Int) (hn : n ≠ o) : Calls Try.prog 23 #[.pointer (some ⟨g, 0, none⟩), .int .i64 n, .int .i64 p, .int .i64 k] wr fun e w' => (∃ z, e = .returned (.bool z)) ∧ ApI B w g o b aw W ax X w' := by
  obtain ⟨S, F, hL, hP, hX, hY⟩ := h
  refine (fflip_any n p k wr hL.fl).mono ?_
  rintro e w' ⟨rfl, ho⟩
  exact ⟨⟨_, rfl⟩, apI_op S F hL hX hY ho (ap_flip hP hn p k)⟩
theorem apI_next (h : ApI B w g o b aw W ax X wr) (n : Int) : Calls Try.prog 12 #[.pointer (some ⟨g, 0, none⟩), .int .i64 n] wr fun e w' => (∃ z, e = .returned (.int .i64 z)) ∧ wr = w' := by
  obtain ⟨S, F, hL, hP, hX, hY⟩ := h
  refine (fnext_any n wr hL.fl).mono ?_
  rintro e w' ⟨rfl, rfl⟩
  exact ⟨⟨_, rfl⟩, rfl⟩
theorem apI_tell (h : ApI B w g o b aw W ax X wr) : Calls Try.prog 12 #[.pointer (some ⟨g, 0, none⟩), .int .i64 (o : Int)] wr fun e w' => e = .returned (.int .i64 b.nextI) ∧ wr = w' := by
  obtain ⟨S, F, hL, hP, hX, hY⟩ := h
  have := fnext_any o wr hL.fl
  rwa [(ap_tell hP).1] at this
theorem apI_one (h : ApI B w g o b aw W ax X wr) : Calls Try.prog 21 #[.pointer (some ⟨g, 0, none⟩), .int .i64 (o : Int)] wr fun e w' => e = .returned (.bool b.one) ∧ wr = w' := by
  obtain ⟨S, F, hL, hP, hX, hY⟩ := h
  have := fone_any o wr hL.fl
  rwa [(ap_tell hP).2.1] at this
theorem apI_failed (h : ApI B w g o b aw W ax X wr) : Calls Try.prog 19 #[.pointer (some ⟨g, 0, none⟩), .int .i64 (o : Int)] wr fun e w' => e = .returned (.bool b.failed) ∧ wr = w' := by
  obtain ⟨S, F, hL, hP, hX, hY⟩ := h
  have := ffailed_any o wr hL.fl
  rwa [(ap_tell hP).2.2] at this
/-- A read: what the block tells. -/
theorem apI_read (h : ApI B w g o b aw W ax X wr) (p : Int) : Calls Try.prog 16 #[.pointer (some ⟨g, 0, none⟩), .int .i64 (o : Int), .int .i64 p] wr fun e w' => (∃ a cap, e = .returned (.tuple #[.slice a (b.tellR p).1.length cap, .int .i64 (b.tellR p).2]) ∧ Bytes w' a (b.tellR p).1.length (b.tellR p).1 ∧ ApI B w g o b a (b.tellR p).1 a (b.tellR p).1 w') ∧ ApI B w g o b aw W ax X w' := by
  obtain ⟨S, F, hL, hP, hX, hY⟩ := h
  obtain ⟨q1, q2, q3⟩ := ap_read hP p
  have hp := fread_any o p wr hL.fl
  rw [q1, q2] at hp
  refine hp.mono ?_
  rintro e w' ⟨⟨v, rfl, hv⟩, hf, hfr⟩
  obtain ⟨a, cap, rfl, hbo, hby, hcap⟩ := readV_out hv hL.fl.1.2
  exact ⟨⟨a, cap, rfl, hby, S, _, hL.fr hf hfr, q3, ⟨hby, hbo⟩, ⟨hby, hbo⟩⟩, S, _, hL.fr hf hfr, q3, hX.of fun q => q.same hfr, hY.of fun q => q.same hfr⟩
end
end Go.Proofs.Ytbbhniohliklhaa
