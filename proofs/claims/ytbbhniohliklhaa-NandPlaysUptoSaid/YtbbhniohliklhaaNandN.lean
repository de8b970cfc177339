/- nand: what each operation does, over any block's number; a good flash stays one. -/
import Derived.Test.YtbbhniohliklhaaNandM
namespace Go.Proofs.Ytbbhniohliklhaa
open Go Go.RowKit
set_option linter.unusedVariables false

structure NB.Good (np ch : Nat) (x : NB) : Prop where
  pl : x.pages.length = np
  pg : ∀ l ∈ x.pages, pgOk ch l
  nx : 0 ≤ x.next ∧ x.next ≤ np
  od : ∀ (j : Nat) l, x.pages[j]? = some l → (l = [] ↔ x.next ≤ j)
structure NF.Good (F : NF) : Prop where
  nb : F.bl.length ≤ 1024
  np2 : 2 ≤ F.np
  np : F.np ≤ 256
  c1 : 1 ≤ F.ch
  c8 : F.ch ≤ 8
  a0 : 0 ≤ F.armed
  a1 : F.armed ≤ 9223372036854775807
  bl : ∀ x ∈ F.bl, x.Good F.np F.ch
theorem NF.Good.ok {F : NF} (h : F.Good) : F.Ok := ⟨h.nb, h.np, h.c1, h.c8, h.a0, h.a1, fun x hx => (h.bl x hx).pg, fun x hx => (h.bl x hx).nx⟩
theorem NF.Good.at' {F : NF} (h : F.Good) {n : Nat} {x : NB} (hx : F.bl[n]? = some x) : x.Good F.np F.ch := h.bl x (List.mem_of_getElem? hx)
theorem NF.Good.setB {F : NF} (h : F.Good) (n : Nat) (x : NB) (hx : x.Good F.np F.ch) : (F.setB n x).Good :=
  ⟨by simp [NF.setB, h.nb], h.np2, h.np, h.c1, h.c8, h.a0, h.a1, fun y hy => by
    rcases List.mem_or_eq_of_mem_set hy with q | q
    · exact h.bl y q
    · rw [q]; exact hx⟩
theorem NF.Good.tick {F : NF} (h : F.Good) : F.tick.Good := by
  have := h.a0
  have := h.a1
  exact ⟨h.nb, h.np2, h.np, h.c1, h.c8, by simp only [NF.tick]; omega, by simp only [NF.tick]; omega, h.bl⟩
theorem NF.Good.cut {F : NF} (h : F.Good) : F.cut.Good := ⟨h.nb, h.np2, h.np, h.c1, h.c8, by simp [NF.cut], by simp [NF.cut], h.bl⟩
theorem NF.Good.on {F : NF} (h : F.Good) : F.on.Good := ⟨h.nb, h.np2, h.np, h.c1, h.c8, h.a0, h.a1, h.bl⟩
theorem NF.Good.arm {F : NF} (h : F.Good) (n : Int) (hn : n ≤ 9223372036854775807) : (F.arm n).Good := ⟨h.nb, h.np2, h.np, h.c1, h.c8, by simp only [NF.arm]; omega, by simp only [NF.arm]; omega, h.bl⟩
theorem NF.Good.done {F : NF} (h : F.Good) : F.done.Good := ⟨h.nb, h.np2, h.np, h.c1, h.c8, h.a0, h.a1, h.bl⟩
theorem NF.Good.readF {F : NF} (h : F.Good) : F.readF.Good := ⟨h.nb, h.np2, h.np, h.c1, h.c8, h.a0, h.a1, h.bl⟩
theorem NF.Good.ticks {F : NF} (h : F.Good) : ∀ k, (F.ticks k).Good
  | 0 => h
  | k + 1 => (h.ticks k).tick
theorem NF.new_good {nb np ch : Nat} (h1 : nb ≤ 1024) (h0 : 2 ≤ np) (h2 : np ≤ 256) (h3 : 1 ≤ ch) (h4 : ch ≤ 8) : (NF.new nb np ch).Good := by
  refine ⟨by simp [NF.new, h1], h0, h2, h3, h4, by simp [NF.new], by simp [NF.new], fun x hx => ?_⟩
  rw [List.eq_of_mem_replicate hx]
  refine ⟨by simp [NB.new, NF.new], fun l hl => ?_, by simp [NB.new, NF.new], fun j l hl => ?_⟩
  · rw [List.eq_of_mem_replicate hl]
    exact ⟨.inl rfl, by simp⟩
  · obtain ⟨_, rfl⟩ := NB.new_at hl
    simp [NB.new]
/-- A page that is set. -/
theorem NB.Good.set {np ch : Nat} {x : NB} (h : x.Good np ch) (p : Nat) (l : List Nat) (hl : l.length = ch * 73) (hc : 1 ≤ ch) (hlt : ∀ c ∈ l, c < 256) (nx : Int) (hp : p < np) (hn : nx = x.next ∧ (p : Int) < x.next ∨ x.next = p ∧ nx = (p : Int) + 1) : NB.Good np ch { x with pages := x.pages.set p l, next := nx } := by
  have hne : l ≠ [] := by intro e; rw [e] at hl; simp at hl; omega
  refine ⟨by simp [h.pl], fun y hy => ?_, ?_, fun j y hy => ?_⟩
  · rcases List.mem_or_eq_of_mem_set hy with q | q
    · exact h.pg y q
    · rw [q]; exact ⟨.inr hl, hlt⟩
  · have := h.nx
    dsimp only
    omega
  · dsimp only at hy ⊢
    by_cases q : j = p
    · subst q
      rw [List.getElem?_set_self (by rw [h.pl]; exact hp)] at hy
      obtain rfl := Option.some.inj hy
      refine ⟨fun e => absurd e hne, fun e => ?_⟩
      omega
    · rw [List.getElem?_set_ne (by omega)] at hy
      rw [h.od j y hy]
      omega
theorem NF.many_le (F : NF) (x : NB) : F.many x ≤ F.np := by unfold NF.many; split <;> omega
theorem NF.has_iff {F : NF} {x : NB} {p : Int} : F.has x p = true ↔ 0 ≤ p ∧ p < (F.many x : Nat) := by simp [NF.has]

theorem NF.Good.progK {F : NF} (h : F.Good) {n p : Nat} {x : NB} (hx : F.bl[n]? = some x) (hp : p < F.np) (hn : x.next = p) {raw old : List Nat} (hr : raw.length = F.ch * 73) (ho : old.length = F.ch * 73) (hrc : ∀ c ∈ raw, c < 256) (hoc : ∀ c ∈ old, c < 256) {k : Nat} (hk : k ≤ F.ch) : (F.progK n p x raw old k).Good := by
  unfold NF.progK
  split
  · exact h
  · obtain ⟨a, b, c⟩ := F.ticks_bl k
    refine (h.ticks k).setB n _ ?_
    rw [b, c]
    exact (h.at' hx).set p _ (chunkTo_len hr ho (by omega)) h.c1 (chunkTo_lt hrc hoc k) _ hp (.inr ⟨hn, rfl⟩)
theorem NF.Good.progGo {F : NF} (h : F.Good) {n p : Nat} {x : NB} (hx : F.bl[n]? = some x) (hp : p < F.np) (hn : x.next = p) {raw old : List Nat} (hr : raw.length = F.ch * 73) (ho : old.length = F.ch * 73) (hrc : ∀ c ∈ raw, c < 256) (hoc : ∀ c ∈ old, c < 256) : ∀ (m k : Nat), m + k = F.ch → (F.progGo n p x raw old m k).2.Good
  | 0, k, e => (h.progK hx hp hn hr ho hrc hoc (by omega)).done
  | m + 1, k, e => by
    unfold NF.progGo
    split
    · exact (h.progK hx hp hn hr ho hrc hoc (by omega)).cut
    · exact h.progGo hx hp hn hr ho hrc hoc m (k + 1) (by omega)
theorem NF.Good.erGo {F : NF} (h : F.Good) {n : Nat} {x : NB} (hx : F.bl[n]? = some x) : (F.erGo n x).2.Good := by
  have hg := h.at' hx
  have hh : (F.half n x).Good := h.tick.setB n _ ⟨hg.pl, hg.pg, hg.nx, hg.od⟩
  unfold NF.erGo
  split
  · exact h.cut
  · split
    · exact hh.cut
    · have : (((F.half n x).tick).setB n (x.erased F.np)).Good := hh.tick.setB n _ ⟨by simp [NB.erased, NF.tick, NF.half, NF.setB], fun l hl => by
        rw [List.eq_of_mem_replicate hl]
        exact ⟨.inl rfl, by simp⟩, by simp [NB.erased], fun j l hl => by
        have hm := List.mem_of_getElem? hl
        rw [List.eq_of_mem_replicate hm]
        simp [NB.erased]⟩
      exact ⟨this.nb, this.np2, this.np, this.c1, this.c8, this.a0, this.a1, this.bl⟩
theorem NF.Good.modeF {F : NF} (h : F.Good) {n : Nat} {x : NB} (hx : F.bl[n]? = some x) (one : Bool) : (F.modeF n x one).Good := by
  have hg := h.at' hx
  unfold NF.modeF
  split
  · exact h.setB n _ ⟨hg.pl, hg.pg, hg.nx, hg.od⟩
  · exact h
theorem NF.Good.failF {F : NF} (h : F.Good) {n : Nat} {x : NB} (hx : F.bl[n]? = some x) : (F.setB n { x with failed := true }).Good := by
  have hg := h.at' hx
  exact h.setB n _ ⟨hg.pl, hg.pg, hg.nx, hg.od⟩
theorem NF.Good.flipF {F : NF} (h : F.Good) {n p : Nat} {x : NB} {l : List Nat} (hx : F.bl[n]? = some x) (hp : x.pages[p]? = some l) (hn : (p : Int) < x.next) (k : Nat) : (F.flipF n p x l k).Good := by
  have hg := h.at' hx
  have ho := hg.pg l (List.mem_of_getElem? hp)
  have hpl : p < F.np := by have := lt_of_get hp; rw [hg.pl] at this; exact this
  exact h.setB n _ (hg.set p _ (by rw [flipL_len, NF.raw_len ho]) h.c1 (flipL_lt (NF.raw_lt ho) k) x.next hpl (.inl ⟨rfl, hn⟩))

/-! ### The operations, over whatever number of a block -/
def NF.at (F : NF) (n : Int) : Option NB := if 0 ≤ n then F.bl[n.toNat]? else none
theorem NF.at_none {F : NF} {n : Int} (h : F.at n = none) : n < 0 ∨ (F.bl.length : Int) ≤ n := by
  unfold NF.at at h
  split at h
  · rw [List.getElem?_eq_none_iff] at h; omega
  · omega
theorem NF.at_some {F : NF} {n : Int} {x : NB} (h : F.at n = some x) : ∃ m : Nat, n = m ∧ F.bl[m]? = some x := by
  unfold NF.at at h
  split at h
  · exact ⟨n.toNat, by omega, h⟩
  · cases h
def NF.prog (F : NF) (n p : Int) (raw : List Nat) : Int × NF :=
  match F.at n with
  | none => (F.mayE false false, F)
  | some x => if F.progE x p raw.length ≠ 0 then (F.progE x p raw.length, F) else F.progGo n.toNat p.toNat x raw (F.raw []) F.ch 0
def NF.erase (F : NF) (n : Int) : Int × NF :=
  match F.at n with
  | none => (F.mayE false false, F)
  | some x => F.erE n.toNat x
def NF.mode (F : NF) (n : Int) (one : Bool) : Int × NF :=
  match F.at n with
  | none => (F.mayE false false, F)
  | some x => (F.modeE x, F.modeF n.toNat x one)
def NF.fail (F : NF) (n : Int) : Bool × NF :=
  match F.at n with
  | none => (false, F)
  | some x => (true, F.setB n.toNat { x with failed := true })
def NF.flip (F : NF) (n p k : Int) : Bool × NF :=
  match F.at n with
  | none => (false, F)
  | some x => if F.flipB x p k = true then (true, F.flipF n.toNat p.toNat x (x.pages.getD p.toNat []) k.toNat) else (false, F)
def NF.read (F : NF) (n p : Int) : List Nat × Int × NF :=
  match F.at n with
  | none => ([], if F.off then 4 else 1, F)
  | some x => if F.readE x p ≠ 0 then ([], F.readE x p, F) else (F.raw (x.pages.getD p.toNat []), 0, F.readF)
def NF.nextAt (F : NF) (n : Int) : Int := match F.at n with | none => -1 | some x => x.nextI
def NF.oneAt (F : NF) (n : Int) : Bool := match F.at n with | none => false | some x => x.one
def NF.failedAt (F : NF) (n : Int) : Bool := match F.at n with | none => false | some x => x.failed

/-- A flash in memory, good, in its zone. -/
def FlashG (S : Zone) (w : World) (g : Nat) (F : NF) : Prop := FlashAt S w g F ∧ F.Good
/-- What an operation leaves. -/
def OpW (S : Zone) (w : World) (g : Nat) (F : NF) (w' : World) : Prop := FlashG (S.grow w w') w' g F ∧ Fr S w w'
theorem FlashX.op {M : NMem} {S : Zone} {w w' : World} {g : Nat} {F : NF} (h : FlashX M S w' g F noEx) (hl : S.lives w) (hfr : Fr S w w') (hg : F.Good) : OpW S w g F w' := ⟨⟨h.flash hl hfr.size, hg⟩, hfr⟩
theorem FlashG.op {S : Zone} {w : World} {g : Nat} {F : NF} (h : FlashG S w g F) : OpW S w g F w := by
  obtain ⟨⟨⟨M, h⟩, hl⟩, hg⟩ := h
  exact h.op hl (Fr.refl _ _) hg
theorem FlashG.opBelow {S : Zone} {w w' : World} {g : Nat} {F : NF} (h : FlashG S w g F) (hb : Below w.heap.size w w') : OpW S w g F w' := by
  obtain ⟨⟨⟨M, h⟩, hl⟩, hg⟩ := h
  exact (h.below hb).op hl (Fr.below hb) hg
theorem FlashG.same {S : Zone} {w w' : World} {g : Nat} {F : NF} (h : FlashG S w g F) (hs : SameOn S w w') : FlashG S w' g F := ⟨h.1.same hs, h.2⟩
theorem FlashG.below {S : Zone} {w w' : World} {g : Nat} {F : NF} (h : FlashG S w g F) (hb : Below w.heap.size w w') : FlashG S w' g F := h.same (SameOn.below hb)

theorem fprog_any {S : Zone} {g : Nat} {F : NF} (n p : Int) (a : Option Addr) (len cap : Nat) (raw : List Nat) (w : World) (h : FlashG S w g F) (hr : Bytes w a len raw) (ho : OutA S a) (hlc : len ≤ cap) (hlen : len ≤ 1000000) :
    Calls Try.prog 11 #[.pointer (some ⟨g, 0, none⟩), .int .i64 n, .int .i64 p, .slice a len cap] w fun e w' => e = .returned (.int .i64 (F.prog n p raw).1) ∧ OpW S w g (F.prog n p raw).2 w' := by
  have hop := h.op
  obtain ⟨⟨⟨M, hx⟩, hl⟩, hg⟩ := h
  unfold NF.prog
  cases ha : F.at n with
  | none =>
    refine (nprog_out n p a len cap w hx (NF.at_none ha) hg.ok).mono ?_
    rintro e w' ⟨rfl, rfl⟩
    exact ⟨rfl, hop⟩
  | some x =>
    obtain ⟨m, rfl, hm⟩ := NF.at_some ha
    dsimp only
    rw [hr.1]
    by_cases he : F.progE x p len ≠ 0
    · rw [if_pos he]
      refine (nprog_err m p x a len cap w hx hm hg.ok hlen he).mono ?_
      rintro e w' ⟨rfl, rfl⟩
      exact ⟨rfl, hop⟩
    · rw [if_neg he]
      have he : F.progE x p len = 0 := Classical.not_not.1 he
      unfold NF.progE at he
      split at he
      · contradiction
      · rename_i hmay0
        have hmay : F.mayE x.failed (F.has x p && len == F.ch * 73) = 0 := Classical.not_not.1 hmay0
        clear hmay0
        split at he
        · exact absurd he (by decide)
        · rename_i hb
          have his : (F.has x p && len == F.ch * 73) = true := by
            cases q : (F.has x p && len == F.ch * 73) with
            | true => rfl
            | false =>
              rw [q] at hmay
              unfold NF.mayE at hmay
              cases h1 : F.off <;> simp [h1] at hmay
          rw [his] at hmay
          simp only [Bool.and_eq_true, beq_iff_eq] at his
          obtain ⟨hhas, hN⟩ := his
          have hb' : (x.half || !(x.next == p)) = false := by simpa using hb
          simp only [Bool.or_eq_false_iff, Bool.not_eq_false', beq_iff_eq] at hb'
          obtain ⟨hhalf, hnext⟩ := hb'
          have hq := NF.has_iff.1 hhas
          obtain ⟨p, rfl⟩ : ∃ q : Nat, p = q := ⟨p.toNat, by omega⟩
          have hgx := hg.at' hm
          have hpn : p < F.np := by have := F.many_le x; omega
          obtain ⟨l, hpl⟩ : ∃ l, x.pages[p]? = some l := ⟨_, List.getElem?_eq_getElem (by rw [hgx.pl]; exact hpn)⟩
          have hle : l = [] := (hgx.od p l hpl).2 (by omega)
          subst hle
          have hNpos : 0 < len := by have := hg.c1; omega
          obtain ⟨rb, ro, rfl, hrb, _⟩ := hr.2.2 hNpos
          have hok0 : pgOk F.ch [] := ⟨.inl rfl, by simp⟩
          have := nprog_go m p x [] rb ro len cap raw w hx hl hm hpl hg.ok hhas hN hr (ho _ rfl) hlc hmay hhalf hnext
          refine this.mono ?_
          rintro e w' ⟨rfl, h1, h2⟩
          refine ⟨rfl, ⟨h1, ?_⟩, h2⟩
          exact hg.progGo hm hpn hnext (by rw [hr.1]; exact hN) (NF.raw_len hok0) hr.2.1 (NF.raw_lt hok0) F.ch 0 (by omega)
theorem ferase_any {S : Zone} {g : Nat} {F : NF} (n : Int) (w : World) (h : FlashG S w g F) :
    Calls Try.prog 17 #[.pointer (some ⟨g, 0, none⟩), .int .i64 n] w fun e w' => e = .returned (.int .i64 (F.erase n).1) ∧ OpW S w g (F.erase n).2 w' := by
  have hop := h.op
  obtain ⟨⟨⟨M, hx⟩, hl⟩, hg⟩ := h
  unfold NF.erase
  cases ha : F.at n with
  | none =>
    refine (nerase_out n w hx (NF.at_none ha) hg.ok).mono ?_
    rintro e w' ⟨rfl, rfl⟩
    exact ⟨rfl, hop⟩
  | some x =>
    obtain ⟨m, rfl, hm⟩ := NF.at_some ha
    dsimp only
    unfold NF.erE
    by_cases he : F.mayE x.failed true ≠ 0
    · rw [if_pos he]
      refine (nerase_err m x w hx hm hg.ok he).mono ?_
      rintro e w' ⟨rfl, rfl⟩
      exact ⟨rfl, hop⟩
    · rw [if_neg he]
      refine (nerase_go m x w hx hl hm hg.ok (by have := hg.np2; omega) (Classical.not_not.1 he)).mono ?_
      rintro e w' ⟨rfl, h1, h2⟩
      exact ⟨rfl, ⟨h1, hg.erGo hm⟩, h2⟩
theorem fmode_any {S : Zone} {g : Nat} {F : NF} (n : Int) (one : Bool) (w : World) (h : FlashG S w g F) :
    Calls Try.prog 10 #[.pointer (some ⟨g, 0, none⟩), .int .i64 n, .bool one] w fun e w' => e = .returned (.int .i64 (F.mode n one).1) ∧ OpW S w g (F.mode n one).2 w' := by
  have hop := h.op
  obtain ⟨⟨⟨M, hx⟩, hl⟩, hg⟩ := h
  unfold NF.mode
  cases ha : F.at n with
  | none =>
    refine (nmode_out n one w hx (NF.at_none ha) hg.ok).mono ?_
    rintro e w' ⟨rfl, rfl⟩
    exact ⟨rfl, hop⟩
  | some x =>
    obtain ⟨m, rfl, hm⟩ := NF.at_some ha
    refine (nmode_any m x one w hx hm hg.ok).mono ?_
    rintro e w' ⟨rfl, h1, h2⟩
    exact ⟨rfl, h1.op hl h2 (hg.modeF hm one)⟩
theorem ffail_any {S : Zone} {g : Nat} {F : NF} (n : Int) (w : World) (h : FlashG S w g F) :
    Calls Try.prog 18 #[.pointer (some ⟨g, 0, none⟩), .int .i64 n] w fun e w' => e = .returned (.bool (F.fail n).1) ∧ OpW S w g (F.fail n).2 w' := by
  have hop := h.op
  obtain ⟨⟨⟨M, hx⟩, hl⟩, hg⟩ := h
  unfold NF.fail
  cases ha : F.at n with
  | none =>
    refine (nfail_out n w hx (NF.at_none ha) hg.ok).mono ?_
    rintro e w' ⟨rfl, rfl⟩
    exact ⟨rfl, hop⟩
  | some x =>
    obtain ⟨m, rfl, hm⟩ := NF.at_some ha
    refine (nfail_any m x w hx hm hg.ok).mono ?_
    rintro e w' ⟨rfl, h1, h2⟩
    exact ⟨rfl, h1.op hl h2 (hg.failF hm)⟩
theorem fflip_any {S : Zone} {g : Nat} {F : NF} (n p k : Int) (w : World) (h : FlashG S w g F) :
    Calls Try.prog 23 #[.pointer (some ⟨g, 0, none⟩), .int .i64 n, .int .i64 p, .int .i64 k] w fun e w' => e = .returned (.bool (F.flip n p k).1) ∧ OpW S w g (F.flip n p k).2 w' := by
  have hop := h.op
  obtain ⟨⟨⟨M, hx⟩, hl⟩, hg⟩ := h
  unfold NF.flip
  cases ha : F.at n with
  | none =>
    refine (nflip_out n p k w hx (NF.at_none ha) hg.ok).mono ?_
    rintro e w' ⟨rfl, rfl⟩
    exact ⟨rfl, hop⟩
  | some x =>
    obtain ⟨m, rfl, hm⟩ := NF.at_some ha
    dsimp only
    by_cases he : F.flipB x p k = true
    · rw [if_pos he]
      have he2 := he
      unfold NF.flipB at he2
      simp only [Bool.and_eq_true, decide_eq_true_eq, Bool.not_eq_true'] at he2
      obtain ⟨⟨⟨⟨hhas, hhalf⟩, hpn⟩, hk0⟩, hk1⟩ := he2
      have hq := NF.has_iff.1 hhas
      obtain ⟨p, rfl⟩ : ∃ q : Nat, p = q := ⟨p.toNat, by omega⟩
      obtain ⟨k, rfl⟩ : ∃ q : Nat, k = q := ⟨k.toNat, by omega⟩
      have hgx := hg.at' hm
      have hpn2 : p < F.np := by have := F.many_le x; omega
      obtain ⟨l, hpl⟩ : ∃ l, x.pages[p]? = some l := ⟨_, List.getElem?_eq_getElem (by rw [hgx.pl]; exact hpn2)⟩
      have hgd : x.pages.getD ((p : Int)).toNat [] = l := by simp [List.getD, hpl]
      rw [hgd]
      refine (nflip_ok m p k x l w hx hl hm hpl hg.ok he).mono ?_
      rintro e w' ⟨rfl, h1, h2⟩
      exact ⟨rfl, ⟨h1, hg.flipF hm hpl hpn k⟩, h2⟩
    · rw [if_neg he]
      refine (nflip_no m p k x w hx hm hg.ok (by simpa using he)).mono ?_
      rintro e w' ⟨rfl, rfl⟩
      exact ⟨rfl, hop⟩
/-- What a read gives. -/
def ReadV (w : World) (v : Value) (l : List Nat) (w' : World) : Prop := ∃ a cap, v = .slice a l.length cap ∧ Bytes w' a l.length l ∧ l.length ≤ cap ∧ (a = none → cap = 0) ∧ ∀ ad, a = some ad → w.heap.size ≤ ad.block ∧ ad.off = 0 ∧ ad.spot = none
theorem fread_any {S : Zone} {g : Nat} {F : NF} (n p : Int) (w : World) (h : FlashG S w g F) :
    Calls Try.prog 16 #[.pointer (some ⟨g, 0, none⟩), .int .i64 n, .int .i64 p] w fun e w' => (∃ v, e = .returned (.tuple #[v, .int .i64 (F.read n p).2.1]) ∧ ReadV w v (F.read n p).1 w') ∧ FlashG S w' g (F.read n p).2.2 ∧ Fr S w w' := by
  have hop := h
  obtain ⟨⟨⟨M, hx⟩, hl⟩, hg⟩ := h
  have hnil : ∀ w, ReadV w (.slice none 0 0) [] w := fun w => ⟨none, 0, rfl, ⟨rfl, by simp, fun h => by simp at h⟩, Nat.le_refl _, fun _ => rfl, fun ad e => by cases e⟩
  unfold NF.read
  cases ha : F.at n with
  | none =>
    refine (nread_out n p w hx (NF.at_none ha) hg.ok).mono ?_
    rintro e w' ⟨rfl, rfl⟩
    exact ⟨⟨_, rfl, hnil _⟩, hop, Fr.refl _ _⟩
  | some x =>
    obtain ⟨m, rfl, hm⟩ := NF.at_some ha
    dsimp only
    by_cases he : F.readE x p ≠ 0
    · rw [if_pos he]
      refine (nread_err m p x w hx hm hg.ok he).mono ?_
      rintro e w' ⟨rfl, rfl⟩
      exact ⟨⟨_, rfl, hnil _⟩, hop, Fr.refl _ _⟩
    · rw [if_neg he]
      have he : F.readE x p = 0 := Classical.not_not.1 he
      have hhas : F.has x p = true := by
        unfold NF.readE at he
        cases h1 : F.off <;> cases h2 : F.has x p <;> simp [h1, h2] at he ⊢
      have hq := NF.has_iff.1 hhas
      obtain ⟨p, rfl⟩ : ∃ q : Nat, p = q := ⟨p.toNat, by omega⟩
      have hgx := hg.at' hm
      have hpn2 : p < F.np := by have := F.many_le x; omega
      obtain ⟨l, hpl⟩ : ∃ l, x.pages[p]? = some l := ⟨_, List.getElem?_eq_getElem (by rw [hgx.pl]; exact hpn2)⟩
      have hgd : x.pages.getD ((p : Int)).toNat [] = l := by simp [List.getD, hpl]
      rw [hgd]
      have hpo := hgx.pg l (List.mem_of_getElem? hpl)
      refine (nread_ok m p x l w hx hl hm hpl hg.ok he).mono ?_
      rintro e w' ⟨⟨v, rfl, hown⟩, h1, h2⟩
      have hlen := NF.raw_len hpo
      obtain ⟨gb, cap, tail, rfl, hrow, ht1, ht2, ht3, ht4⟩ := own_tail hown (by have := hg.c1; omega)
      rw [← hlen] at hown ht2
      refine ⟨⟨_, rfl, ?_⟩, ⟨h1, hg.readF⟩, h2⟩
      refine ⟨some ⟨gb, 0, none⟩, cap, by rw [hlen], bytes_of_own hown (NF.raw_lt hpo), ht2, ?_, ?_⟩
      · intro e; cases e
      · intro ad e; cases e; exact ⟨ht4, rfl, rfl⟩
theorem fnext_any {S : Zone} {g : Nat} {F : NF} (n : Int) (w : World) (h : FlashG S w g F) :
    Calls Try.prog 12 #[.pointer (some ⟨g, 0, none⟩), .int .i64 n] w fun e w' => e = .returned (.int .i64 (F.nextAt n)) ∧ w = w' := by
  obtain ⟨⟨⟨M, hx⟩, hl⟩, hg⟩ := h
  unfold NF.nextAt
  cases ha : F.at n with
  | none => exact nnext_out n w hx (NF.at_none ha) hg.ok
  | some x =>
    obtain ⟨m, rfl, hm⟩ := NF.at_some ha
    exact nnext_any m x w hx hm hg.ok
theorem fone_any {S : Zone} {g : Nat} {F : NF} (n : Int) (w : World) (h : FlashG S w g F) :
    Calls Try.prog 21 #[.pointer (some ⟨g, 0, none⟩), .int .i64 n] w fun e w' => e = .returned (.bool (F.oneAt n)) ∧ w = w' := by
  obtain ⟨⟨⟨M, hx⟩, hl⟩, hg⟩ := h
  unfold NF.oneAt
  cases ha : F.at n with
  | none => exact none_out n w hx (NF.at_none ha) hg.ok
  | some x =>
    obtain ⟨m, rfl, hm⟩ := NF.at_some ha
    exact none_any m x w hx hm hg.ok
theorem ffailed_any {S : Zone} {g : Nat} {F : NF} (n : Int) (w : World) (h : FlashG S w g F) :
    Calls Try.prog 19 #[.pointer (some ⟨g, 0, none⟩), .int .i64 n] w fun e w' => e = .returned (.bool (F.failedAt n)) ∧ w = w' := by
  obtain ⟨⟨⟨M, hx⟩, hl⟩, hg⟩ := h
  unfold NF.failedAt
  cases ha : F.at n with
  | none =>
    have HB := Lib.hid (fun w (h : FlashX M S w g F noEx) => nblk_out n w h (NF.at_none ha) hg.nb)
    have HH := Lib.hid hx
    clear hx hl hg ha
    go_enter Try.func19, Try.ntmps19
    go_wp2_with fail
    refine (HB.out _ HH.out).mono ?_
    rintro e w1 ⟨rfl, rfl⟩
    go_wp2_with fail
    go_ret
    exact ⟨rfl, rfl⟩
  | some x =>
    obtain ⟨m, rfl, hm⟩ := NF.at_some ha
    exact nfailed_any m x w hx hm hg.ok
theorem foff_any {S : Zone} {g : Nat} {F : NF} (w : World) (h : FlashG S w g F) :
    Calls Try.prog 14 #[.pointer (some ⟨g, 0, none⟩)] w fun e w' => e = .returned (.bool F.off) ∧ w = w' := by
  obtain ⟨⟨⟨M, hx⟩, hl⟩, hg⟩ := h
  exact noff_any w hx
theorem farm_any {S : Zone} {g : Nat} {F : NF} (n : Int) (w : World) (h : FlashG S w g F) (hn : n ≤ 9223372036854775807) :
    Calls Try.prog 13 #[.pointer (some ⟨g, 0, none⟩), .int .i64 n] w fun e w' => e = .returned (.tuple #[]) ∧ OpW S w g (F.arm n) w' := by
  obtain ⟨⟨⟨M, hx⟩, hl⟩, hg⟩ := h
  refine (narm_any n w hx).mono ?_
  rintro e w' ⟨rfl, h1, h2⟩
  exact ⟨rfl, h1.op hl (Fr.grown h2 hx.zone.1) (hg.arm n hn)⟩
theorem fcut_any {S : Zone} {g : Nat} {F : NF} (w : World) (h : FlashG S w g F) :
    Calls Try.prog 41 #[.pointer (some ⟨g, 0, none⟩)] w fun e w' => e = .returned (.tuple #[]) ∧ OpW S w g F.cut w' := by
  obtain ⟨⟨⟨M, hx⟩, hl⟩, hg⟩ := h
  refine (ncut_any w hx).mono ?_
  rintro e w' ⟨rfl, h1, h2⟩
  exact ⟨rfl, h1.op hl (Fr.grown h2 hx.zone.1) hg.cut⟩
theorem fon_any {S : Zone} {g : Nat} {F : NF} (w : World) (h : FlashG S w g F) :
    Calls Try.prog 15 #[.pointer (some ⟨g, 0, none⟩)] w fun e w' => e = .returned (.tuple #[]) ∧ OpW S w g F.on w' := by
  obtain ⟨⟨⟨M, hx⟩, hl⟩, hg⟩ := h
  refine (non_any w hx).mono ?_
  rintro e w' ⟨rfl, h1, h2⟩
  exact ⟨rfl, h1.op hl (Fr.grown h2 hx.zone.1) hg.on⟩
theorem fcount_any {S : Zone} {g : Nat} {F : NF} (w : World) (h : FlashG S w g F) :
    Calls Try.prog 44 #[.pointer (some ⟨g, 0, none⟩)] w fun e w' => e = .returned (.tuple #[.int .i64 F.st, .int .i64 F.pr, .int .i64 F.rd, .int .i64 F.er]) ∧ Below w.heap.size w w' := by
  obtain ⟨⟨⟨M, hx⟩, hl⟩, hg⟩ := h
  exact ncount_any w hx
theorem fshape_any {S : Zone} {g : Nat} {F : NF} (w : World) (h : FlashG S w g F) :
    Calls Try.prog 27 #[.pointer (some ⟨g, 0, none⟩)] w fun e w' => e = .returned (.tuple #[.int .i64 (F.bl.length : Int), .int .i64 (F.np : Int), .int .i64 (F.ch : Int)]) ∧ Below w.heap.size w w' := by
  obtain ⟨⟨⟨M, hx⟩, hl⟩, hg⟩ := h
  exact nshape_any w hx
/-- New, of a right shape. -/
theorem fnew_any (nb np ch : Nat) (w : World) (h1 : 1 ≤ nb) (h2 : nb ≤ 1024) (h3 : 2 ≤ np) (h4 : np ≤ 256) (h5 : np % 2 = 0) (h6 : 1 ≤ ch) (h7 : ch ≤ 8) :
    Calls Try.prog 9 #[.int .i64 (nb : Int), .int .i64 (np : Int), .int .i64 (ch : Int)] w fun e w' => (∃ g, e = .returned (.tuple #[.pointer (some ⟨g, 0, none⟩), .int .i64 0]) ∧ FlashG (fun k => w.heap.size ≤ k ∧ k < w'.heap.size) w' g (NF.new nb np ch)) ∧ Below w.heap.size w w' := by
  refine (nnew_ok nb np ch w h1 h2 h3 h4 h5 h6 h7).mono ?_
  rintro e w' ⟨⟨g, rfl, h⟩, hb⟩
  exact ⟨⟨g, rfl, h, NF.new_good h2 h3 h4 h6 h7⟩, hb⟩
end Go.Proofs.Ytbbhniohliklhaa
