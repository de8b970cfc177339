/- nand: the nand's flash and the reference's, both in memory: what an operation on one of them keeps. -/
import Derived.Test.YtbbhniohliklhaaNandRI
namespace Go.Proofs.Ytbbhniohliklhaa
open Go Go.RowKit
set_option linter.unusedVariables false

/-- Both, apart. -/
structure Duo (Sn Sr : Zone) (w : World) (g h : Nat) (F F' : NF) : Prop where
  fl : FlashG Sn w g F
  rf : RefG Sr w h F'
  dj : ∀ k, Sn k → ¬ Sr k
/-- Both, in zones that have grown out of Z since w1; bytes beside them. -/
def DuoI (Z : Zone) (w1 : World) (g h : Nat) (F F' : NF) (ax : Option Addr) (X : List Nat) (w : World) : Prop :=
  ∃ Sn Sr, Duo Sn Sr w g h F F' ∧ (∀ k, Sn k ∨ Sr k → Z k ∨ w1.heap.size ≤ k) ∧ Fr Z w1 w ∧ Bytes w ax X.length X ∧ ∀ ad, ax = some ad → ¬ Sn ad.block ∧ ¬ Sr ad.block ∧ ad.block < w.heap.size
theorem bytes_none (w : World) : Bytes w none 0 [] := ⟨rfl, by simp, fun h => by simp at h⟩
section
variable {Z Sn Sr : Zone} {w1 w w' : World} {g h : Nat} {F F' : NF} {ax : Option Addr} {X : List Nat}
theorem Duo.start (d : Duo Sn Sr w g h F F') : DuoI (fun k => Sn k ∨ Sr k) w g h F F' none [] w := ⟨Sn, Sr, d, fun _ q => .inl q, Fr.refl _ _, bytes_none _, fun ad e => by cases e⟩
theorem Duo.below (d : Duo Sn Sr w g h F F') (hb : Below w.heap.size w w') : Duo Sn Sr w' g h F F' := ⟨d.fl.below hb, d.rf.same (SameOn.below hb), d.dj⟩
theorem DuoI.below (d : DuoI Z w1 g h F F' ax X w) (hb : Below w.heap.size w w') : DuoI Z w1 g h F F' ax X w' := by
  obtain ⟨Sn, Sr, d, hz, hf, hx, ho⟩ := d
  exact ⟨Sn, Sr, d.below hb, hz, hf.trans' (Fr.below hb), hx.below hb (Nat.le_refl _), fun ad e => ⟨(ho ad e).1, (ho ad e).2.1, Nat.lt_of_lt_of_le (ho ad e).2.2 hb.size⟩⟩
theorem DuoI.bytes (d : DuoI Z w1 g h F F' ax X w) {ay : Option Addr} {Y : List Nat} (hy : Bytes w ay Y.length Y) (ho : ∀ ad, ay = some ad → (¬ Z ad.block ∧ ad.block < w1.heap.size)) : DuoI Z w1 g h F F' ay Y w := by
  obtain ⟨Sn, Sr, d, hz, hf, -⟩ := d
  refine ⟨Sn, Sr, d, hz, hf, hy, fun ad e => ?_⟩
  have hn : ¬ (Sn ad.block ∨ Sr ad.block) := fun q => by
    rcases hz _ q with q | q
    · exact (ho ad e).1 q
    · have := (ho ad e).2; omega
  exact ⟨fun q => hn (.inl q), fun q => hn (.inr q), Nat.lt_of_lt_of_le (ho ad e).2 hf.size⟩
/-- Bytes made since w. -/
theorem DuoI.made (d : DuoI Z w1 g h F F' ax X w) (hb : Below w.heap.size w w') {ay : Option Addr} {Y : List Nat} (hy : Bytes w' ay Y.length Y) (ho : ∀ ad, ay = some ad → w.heap.size ≤ ad.block ∧ ad.block < w'.heap.size) : DuoI Z w1 g h F F' ay Y w' := by
  obtain ⟨Sn, Sr, d, hz, hf, -⟩ := d
  refine ⟨Sn, Sr, d.below hb, hz, hf.trans' (Fr.below hb), hy, fun ad e => ⟨fun q => ?_, fun q => ?_, (ho ad e).2⟩⟩
  · have := d.fl.1.2 _ q; have := (ho ad e).1; omega
  · have := d.rf.2.1 _ q; have := (ho ad e).1; omega
theorem Zone.grow_new {S : Zone} {k : Nat} (q : S.grow w w' k) : S k ∨ w.heap.size ≤ k := q.imp id And.left
/-- An operation of the nand's. -/
theorem DuoI.opN (Sn Sr : Zone) (d : Duo Sn Sr w g h F F') (hz : ∀ k, Sn k ∨ Sr k → Z k ∨ w1.heap.size ≤ k) (hf : Fr Z w1 w) (hx : Bytes w ax X.length X) (ho : ∀ ad, ax = some ad → ¬ Sn ad.block ∧ ¬ Sr ad.block ∧ ad.block < w.heap.size) {F2 : NF} (o : OpW Sn w g F2 w') : DuoI Z w1 g h F2 F' ax X w' := by
  have hs : SameOn Sr w w' := o.2.sameOn (fun k q1 q2 => d.dj k q2 q1)
  have hfr : Fr Z w1 w' := hf.trans o.2 fun k hk q => (hz k (.inl q)).resolve_right (by omega)
  refine ⟨Sn.grow w w', Sr, ⟨o.1, d.rf.same hs, fun k q1 q2 => ?_⟩, fun k q => ?_, hfr, hx.fr o.2 (fun ad e => (ho ad e).1), fun ad e => ⟨fun q => ?_, (ho ad e).2.1, Nat.lt_of_lt_of_le (ho ad e).2.2 o.2.size⟩⟩
  · rcases Zone.grow_new q1 with q | q
    · exact d.dj k q q2
    · have := d.rf.2.1 k q2; omega
  · rcases q with q | q
    · rcases Zone.grow_new q with q | q
      · exact hz k (.inl q)
      · exact .inr (Nat.le_trans hf.size q)
    · exact hz k (.inr q)
  · rcases Zone.grow_new q with q | q
    · exact (ho ad e).1 q
    · have := (ho ad e).2.2; omega
/-- An operation of the reference's. -/
theorem DuoI.opR (Sn Sr : Zone) (d : Duo Sn Sr w g h F F') (hz : ∀ k, Sn k ∨ Sr k → Z k ∨ w1.heap.size ≤ k) (hf : Fr Z w1 w) (hx : Bytes w ax X.length X) (ho : ∀ ad, ax = some ad → ¬ Sn ad.block ∧ ¬ Sr ad.block ∧ ad.block < w.heap.size) {F2 : NF} (o : OpR Sr w h F2 w') : DuoI Z w1 g h F F2 ax X w' := by
  have hs : SameOn Sn w w' := o.2.sameOn (fun k q1 q2 => d.dj k q1 q2)
  have hfr : Fr Z w1 w' := hf.trans o.2 fun k hk q => (hz k (.inr q)).resolve_right (by omega)
  refine ⟨Sn, Sr.grow w w', ⟨d.fl.same hs, o.1, fun k q1 q2 => ?_⟩, fun k q => ?_, hfr, hx.fr o.2 (fun ad e => (ho ad e).2.1), fun ad e => ⟨(ho ad e).1, fun q => ?_, Nat.lt_of_lt_of_le (ho ad e).2.2 o.2.size⟩⟩
  · rcases Zone.grow_new q2 with q | q
    · exact d.dj k q1 q
    · have := d.fl.1.2 k q1; omega
  · rcases q with q | q
    · exact hz k (.inl q)
    · rcases Zone.grow_new q with q | q
      · exact hz k (.inr q)
      · exact .inr (Nat.le_trans hf.size q)
  · rcases Zone.grow_new q with q | q
    · exact (ho ad e).2.1 q
    · have := (ho ad e).2.2; omega
/-- What grew out of what had grown. -/
theorem DuoI.trans {Z0 : Zone} {w0 : World} (hz : ∀ k, Sn k ∨ Sr k → Z0 k ∨ w0.heap.size ≤ k) (hf : Fr Z0 w0 w1) (d : DuoI (fun k => Sn k ∨ Sr k) w1 g h F F' ax X w) : DuoI Z0 w0 g h F F' none [] w := by
  obtain ⟨Sn2, Sr2, d, hz2, hf2, -⟩ := d
  refine ⟨Sn2, Sr2, d, fun k q => ?_, hf.trans hf2 fun k hk q => (hz k q).resolve_right (by omega), bytes_none _, fun ad e => by cases e⟩
  rcases hz2 k q with q | q
  · exact hz k q
  · exact .inr (Nat.le_trans hf.size q)
theorem DuoI.fr (d : DuoI Z w1 g h F F' ax X w) : Fr Z w1 w := d.choose_spec.choose_spec.2.2.1

theorem duo_prog (d : DuoI Z w1 g h F F' ax X w) (n p : Int) (cap : Nat) (hc : X.length ≤ cap) (hl : X.length ≤ 1000000) : Calls Try.prog 11 #[.pointer (some ⟨g, 0, none⟩), .int .i64 n, .int .i64 p, .slice ax X.length cap] w fun e w' => e = .returned (.int .i64 (F.prog n p X).1) ∧ DuoI Z w1 g h (F.prog n p X).2 F' ax X w' := by
  obtain ⟨Sn, Sr, d, hz, hf, hx, ho⟩ := d
  refine (fprog_any n p ax X.length cap X w d.fl hx (fun ad e => (ho ad e).1) hc hl).mono ?_
  rintro e w' ⟨rfl, o⟩
  exact ⟨rfl, DuoI.opN Sn Sr d hz hf hx ho o⟩
theorem duo_rprog (d : DuoI Z w1 g h F F' ax X w) (n p : Int) (cap : Nat) (hl : X.length ≤ 1000000) : Calls Try.prog 35 #[.pointer (some ⟨h, 0, none⟩), .int .i64 n, .int .i64 p, .slice ax X.length cap] w fun e w' => e = .returned (.int .i64 (F'.prog n p X).1) ∧ DuoI Z w1 g h F (F'.prog n p X).2 ax X w' := by
  obtain ⟨Sn, Sr, d, hz, hf, hx, ho⟩ := d
  refine (rprog_all n p ax X.length cap X w d.rf hx (fun ad e => (ho ad e).2.1) hl).mono ?_
  rintro e w' ⟨rfl, o⟩
  exact ⟨rfl, DuoI.opR Sn Sr d hz hf hx ho o⟩
theorem duo_erase (d : DuoI Z w1 g h F F' ax X w) (n : Int) : Calls Try.prog 17 #[.pointer (some ⟨g, 0, none⟩), .int .i64 n] w fun e w' => e = .returned (.int .i64 (F.erase n).1) ∧ DuoI Z w1 g h (F.erase n).2 F' ax X w' := by
  obtain ⟨Sn, Sr, d, hz, hf, hx, ho⟩ := d
  refine (ferase_any n w d.fl).mono ?_
  rintro e w' ⟨rfl, o⟩
  exact ⟨rfl, DuoI.opN Sn Sr d hz hf hx ho o⟩
theorem duo_rerase (d : DuoI Z w1 g h F F' ax X w) (n : Int) : Calls Try.prog 36 #[.pointer (some ⟨h, 0, none⟩), .int .i64 n] w fun e w' => e = .returned (.int .i64 (F'.erase n).1) ∧ DuoI Z w1 g h F (F'.erase n).2 ax X w' := by
  obtain ⟨Sn, Sr, d, hz, hf, hx, ho⟩ := d
  refine (rerase_all n w d.rf).mono ?_
  rintro e w' ⟨rfl, o⟩
  exact ⟨rfl, DuoI.opR Sn Sr d hz hf hx ho o⟩
theorem duo_mode (d : DuoI Z w1 g h F F' ax X w) (n : Int) (one : Bool) : Calls Try.prog 10 #[.pointer (some ⟨g, 0, none⟩), .int .i64 n, .bool one] w fun e w' => e = .returned (.int .i64 (F.mode n one).1) ∧ DuoI Z w1 g h (F.mode n one).2 F' ax X w' := by
  obtain ⟨Sn, Sr, d, hz, hf, hx, ho⟩ := d
  refine (fmode_any n one w d.fl).mono ?_
  rintro e w' ⟨rfl, o⟩
  exact ⟨rfl, DuoI.opN Sn Sr d hz hf hx ho o⟩
theorem duo_rmode (d : DuoI Z w1 g h F F' ax X w) (n : Int) (one : Bool) : Calls Try.prog 37 #[.pointer (some ⟨h, 0, none⟩), .int .i64 n, .bool one] w fun e w' => e = .returned (.int .i64 (F'.mode n one).1) ∧ DuoI Z w1 g h F (F'.mode n one).2 ax X w' := by
  obtain ⟨Sn, Sr, d, hz, hf, hx, ho⟩ := d
  refine (rmode_all n one w d.rf).mono ?_
  rintro e w' ⟨rfl, o⟩
  exact ⟨rfl, DuoI.opR Sn Sr d hz hf hx ho o⟩
theorem duo_fail (d : DuoI Z w1 g h F F' ax X w) (n : Int) : Calls Try.prog 18 #[.pointer (some ⟨g, 0, none⟩), .int .i64 n] w fun e w' => e = .returned (.bool (F.fail n).1) ∧ DuoI Z w1 g h (F.fail n).2 F' ax X w' := by
  obtain ⟨Sn, Sr, d, hz, hf, hx, ho⟩ := d
  refine (ffail_any n w d.fl).mono ?_
  rintro e w' ⟨rfl, o⟩
  exact ⟨rfl, DuoI.opN Sn Sr d hz hf hx ho o⟩
theorem duo_rfail (d : DuoI Z w1 g h F F' ax X w) (n : Int) : Calls Try.prog 38 #[.pointer (some ⟨h, 0, none⟩), .int .i64 n] w fun e w' => e = .returned (.bool (F'.fail n).1) ∧ DuoI Z w1 g h F (F'.fail n).2 ax X w' := by
  obtain ⟨Sn, Sr, d, hz, hf, hx, ho⟩ := d
  refine (rfail_all n w d.rf).mono ?_
  rintro e w' ⟨rfl, o⟩
  exact ⟨rfl, DuoI.opR Sn Sr d hz hf hx ho o⟩
theorem duo_flip (d : DuoI Z w1 g h F F' ax X w) (n p k : Int) : Calls Try.prog 23 #[.pointer (some ⟨g, 0, none⟩), .int .i64 n, .int .i64 p, .int .i64 k] w fun e w' => e = .returned (.bool (F.flip n p k).1) ∧ DuoI Z w1 g h (F.flip n p k).2 F' ax X w' := by
  obtain ⟨Sn, Sr, d, hz, hf, hx, ho⟩ := d
  refine (fflip_any n p k w d.fl).mono ?_
  rintro e w' ⟨rfl, o⟩
  exact ⟨rfl, DuoI.opN Sn Sr d hz hf hx ho o⟩
theorem duo_rflip (d : DuoI Z w1 g h F F' ax X w) (n p k : Int) : Calls Try.prog 39 #[.pointer (some ⟨h, 0, none⟩), .int .i64 n, .int .i64 p, .int .i64 k] w fun e w' => e = .returned (.bool (F'.flip n p k).1) ∧ DuoI Z w1 g h F (F'.flip n p k).2 ax X w' := by
  obtain ⟨Sn, Sr, d, hz, hf, hx, ho⟩ := d
  refine (rflip_all n p k w d.rf).mono ?_
  rintro e w' ⟨rfl, o⟩
  exact ⟨rfl, DuoI.opR Sn Sr d hz hf hx ho o⟩
theorem duo_arm (d : DuoI Z w1 g h F F' ax X w) (n : Int) (hn : n ≤ 9223372036854775807) : Calls Try.prog 13 #[.pointer (some ⟨g, 0, none⟩), .int .i64 n] w fun e w' => e = .returned (.tuple #[]) ∧ DuoI Z w1 g h (F.arm n) F' ax X w' := by
  obtain ⟨Sn, Sr, d, hz, hf, hx, ho⟩ := d
  refine (farm_any n w d.fl hn).mono ?_
  rintro e w' ⟨rfl, o⟩
  exact ⟨rfl, DuoI.opN Sn Sr d hz hf hx ho o⟩
theorem duo_rarm (d : DuoI Z w1 g h F F' ax X w) (n : Int) (hn : n ≤ 9223372036854775807) : Calls Try.prog 40 #[.pointer (some ⟨h, 0, none⟩), .int .i64 n] w fun e w' => e = .returned (.tuple #[]) ∧ DuoI Z w1 g h F (F'.arm n) ax X w' := by
  obtain ⟨Sn, Sr, d, hz, hf, hx, ho⟩ := d
  refine (rarm_all n w d.rf hn).mono ?_
  rintro e w' ⟨rfl, o⟩
  exact ⟨rfl, DuoI.opR Sn Sr d hz hf hx ho o⟩
theorem duo_cut (d : DuoI Z w1 g h F F' ax X w) : Calls Try.prog 41 #[.pointer (some ⟨g, 0, none⟩)] w fun e w' => e = .returned (.tuple #[]) ∧ DuoI Z w1 g h F.cut F' ax X w' := by
  obtain ⟨Sn, Sr, d, hz, hf, hx, ho⟩ := d
  refine (fcut_any w d.fl).mono ?_
  rintro e w' ⟨rfl, o⟩
  exact ⟨rfl, DuoI.opN Sn Sr d hz hf hx ho o⟩
theorem duo_rcut (d : DuoI Z w1 g h F F' ax X w) : Calls Try.prog 42 #[.pointer (some ⟨h, 0, none⟩)] w fun e w' => e = .returned (.tuple #[]) ∧ DuoI Z w1 g h F F'.cut ax X w' := by
  obtain ⟨Sn, Sr, d, hz, hf, hx, ho⟩ := d
  refine (rcut_all w d.rf).mono ?_
  rintro e w' ⟨rfl, o⟩
  exact ⟨rfl, DuoI.opR Sn Sr d hz hf hx ho o⟩
theorem duo_on (d : DuoI Z w1 g h F F' ax X w) : Calls Try.prog 15 #[.pointer (some ⟨g, 0, none⟩)] w fun e w' => e = .returned (.tuple #[]) ∧ DuoI Z w1 g h F.on F' ax X w' := by
  obtain ⟨Sn, Sr, d, hz, hf, hx, ho⟩ := d
  refine (fon_any w d.fl).mono ?_
  rintro e w' ⟨rfl, o⟩
  exact ⟨rfl, DuoI.opN Sn Sr d hz hf hx ho o⟩
theorem duo_ron (d : DuoI Z w1 g h F F' ax X w) : w.cell? ⟨h, 3, none⟩ = some (.bool F'.off) ∧ w.frozen? ⟨h, 3, none⟩ = false ∧ DuoI Z w1 g h F F'.on ax X (w.setCell ⟨h, 3, none⟩ (.bool false)) := by
  obtain ⟨Sn, Sr, d, hz, hf, hx, ho⟩ := d
  obtain ⟨o, c, f⟩ := d.rf.on
  exact ⟨c, f, DuoI.opR Sn Sr d hz hf hx ho o⟩
theorem duo_rnext (d : DuoI Z w1 g h F F' ax X w) (n : Int) : Calls Try.prog 45 #[.pointer (some ⟨h, 0, none⟩), .int .i64 n] w fun e w' => e = .returned (.int .i64 (F'.nextAt n)) ∧ w = w' := by
  obtain ⟨Sn, Sr, d, -⟩ := d
  exact rnext_all n w d.rf
end
end Go.Proofs.Ytbbhniohliklhaa
