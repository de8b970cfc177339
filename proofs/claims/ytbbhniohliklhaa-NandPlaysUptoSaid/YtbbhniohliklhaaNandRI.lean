/- nand: the reference: what each operation does, over any block's number. -/
import Derived.Test.YtbbhniohliklhaaNandRH
namespace Go.Proofs.Ytbbhniohliklhaa
open Go Go.RowKit
set_option linter.unusedVariables false

def OpR (S : Zone) (w : World) (g : Nat) (F : NF) (w' : World) : Prop := RefG (S.grow w w') w' g F ∧ Fr S w w'
theorem RefG.same {S : Zone} {w w' : World} {g : Nat} {F : NF} (h : RefG S w g F) (hs : SameOn S w w') : RefG S w' g F := by
  obtain ⟨⟨M, hx⟩, hl, hg⟩ := h
  exact ⟨⟨M, hx.same hs⟩, fun k hk => Nat.lt_of_lt_of_le (hl k hk) hs.1, hg⟩
theorem RefG.op {S : Zone} {w : World} {g : Nat} {F : NF} (h : RefG S w g F) : OpR S w g F w := by
  obtain ⟨⟨M, h⟩, hl, hg⟩ := h
  exact h.op hl (Fr.refl _ _) hg
theorem rprog_all {S : Zone} {g : Nat} {F : NF} (n p : Int) (a : Option Addr) (len cap : Nat) (raw : List Nat) (w : World) (h : RefG S w g F) (hr : Bytes w a len raw) (ho : OutA S a) (hlen : len ≤ 1000000) :
    Calls Try.prog 35 #[.pointer (some ⟨g, 0, none⟩), .int .i64 n, .int .i64 p, .slice a len cap] w fun e w' => e = .returned (.int .i64 (F.prog n p raw).1) ∧ OpR S w g (F.prog n p raw).2 w' := by
  have hop := h.op
  obtain ⟨⟨M, hx⟩, hl, hg⟩ := h
  unfold NF.prog
  cases ha : F.at n with
  | none =>
    refine (rprog_out n p a len cap w hx (NF.at_none ha)).mono ?_
    rintro e w' ⟨rfl, rfl⟩
    exact ⟨rfl, hop⟩
  | some x =>
    obtain ⟨m, rfl, hm⟩ := NF.at_some ha
    dsimp only
    rw [hr.1]
    by_cases he : F.progE x p len ≠ 0
    · rw [if_pos he]
      refine (rprog_err m p x a len cap w hx hm hg hlen he).mono ?_
      rintro e w' ⟨rfl, rfl⟩
      exact ⟨rfl, hop⟩
    · rw [if_neg he]
      have he : F.progE x p len = 0 := Classical.not_not.1 he
      unfold NF.progE at he
      split at he
      · contradiction
      · rename_i hmay0
        have hmay : F.mayE x.failed (F.has x p && len == F.ch * 73) = 0 := Classical.not_not.1 hmay0
        clear hmay0
        split at he
        · exact absurd he (by decide)
        · rename_i hb
          have his : (F.has x p && len == F.ch * 73) = true := by
            cases q : (F.has x p && len == F.ch * 73) with
            | true => rfl
            | false =>
              rw [q] at hmay
              unfold NF.mayE at hmay
              cases h1 : F.off <;> simp [h1] at hmay
          rw [his] at hmay
          simp only [Bool.and_eq_true, beq_iff_eq] at his
          obtain ⟨hhas, hN⟩ := his
          have hb' : (x.half || !(x.next == p)) = false := by simpa using hb
          simp only [Bool.or_eq_false_iff, Bool.not_eq_false', beq_iff_eq] at hb'
          obtain ⟨hhalf, hnext⟩ := hb'
          have hq := NF.has_iff.1 hhas
          obtain ⟨p, rfl⟩ : ∃ q : Nat, p = q := ⟨p.toNat, by omega⟩
          have hgx := hg.at' hm
          have hpn : p < F.np := by have := F.many_le x; omega
          have hNpos : 0 < len := by have := hg.c1; omega
          obtain ⟨rb, ro, rfl, hrb, _⟩ := hr.2.2 hNpos
          have hraw : F.raw [] = List.replicate len 255 := by unfold NF.raw; rw [if_pos rfl, hN]
          rw [hraw]
          exact rprog_go m p x rb ro len cap raw w hx hl hm (by rw [hgx.pl]; exact hpn) hg hhas hN hr (ho _ rfl) hmay hhalf hnext
theorem rerase_all {S : Zone} {g : Nat} {F : NF} (n : Int) (w : World) (h : RefG S w g F) :
    Calls Try.prog 36 #[.pointer (some ⟨g, 0, none⟩), .int .i64 n] w fun e w' => e = .returned (.int .i64 (F.erase n).1) ∧ OpR S w g (F.erase n).2 w' := by
  have hop := h.op
  obtain ⟨⟨M, hx⟩, hl, hg⟩ := h
  unfold NF.erase
  cases ha : F.at n with
  | none =>
    refine (rerase_out n w hx (NF.at_none ha)).mono ?_
    rintro e w' ⟨rfl, rfl⟩
    exact ⟨rfl, hop⟩
  | some x =>
    obtain ⟨m, rfl, hm⟩ := NF.at_some ha
    dsimp only
    unfold NF.erE
    by_cases he : F.mayE x.failed true ≠ 0
    · rw [if_pos he]
      refine (rerase_err m x w hx hm he).mono ?_
      rintro e w' ⟨rfl, rfl⟩
      exact ⟨rfl, hop⟩
    · rw [if_neg he]
      exact rerase_go m x w hx hl hm hg (Classical.not_not.1 he)
theorem rmode_all {S : Zone} {g : Nat} {F : NF} (n : Int) (one : Bool) (w : World) (h : RefG S w g F) :
    Calls Try.prog 37 #[.pointer (some ⟨g, 0, none⟩), .int .i64 n, .bool one] w fun e w' => e = .returned (.int .i64 (F.mode n one).1) ∧ OpR S w g (F.mode n one).2 w' := by
  have hop := h.op
  obtain ⟨⟨M, hx⟩, hl, hg⟩ := h
  unfold NF.mode
  cases ha : F.at n with
  | none =>
    refine (rmode_out n one w hx (NF.at_none ha)).mono ?_
    rintro e w' ⟨rfl, rfl⟩
    exact ⟨rfl, hop⟩
  | some x =>
    obtain ⟨m, rfl, hm⟩ := NF.at_some ha
    refine (rmode_any m x one w hx hm hg).mono ?_
    rintro e w' ⟨rfl, h1, h2⟩
    exact ⟨rfl, h1.op hl h2 (hg.modeF hm one)⟩
theorem rfail_all {S : Zone} {g : Nat} {F : NF} (n : Int) (w : World) (h : RefG S w g F) :
    Calls Try.prog 38 #[.pointer (some ⟨g, 0, none⟩), .int .i64 n] w fun e w' => e = .returned (.bool (F.fail n).1) ∧ OpR S w g (F.fail n).2 w' := by
  have hop := h.op
  obtain ⟨⟨M, hx⟩, hl, hg⟩ := h
  unfold NF.fail
  cases ha : F.at n with
  | none =>
    refine (rfail_out n w hx (NF.at_none ha)).mono ?_
    rintro e w' ⟨rfl, rfl⟩
    exact ⟨rfl, hop⟩
  | some x =>
    obtain ⟨m, rfl, hm⟩ := NF.at_some ha
    refine (rfail_any m x w hx hm).mono ?_
    rintro e w' ⟨rfl, h1, h2⟩
    exact ⟨rfl, h1.op hl h2 (hg.failF hm)⟩
theorem rflip_all {S : Zone} {g : Nat} {F : NF} (n p k : Int) (w : World) (h : RefG S w g F) :
    Calls Try.prog 39 #[.pointer (some ⟨g, 0, none⟩), .int .i64 n, .int .i64 p, .int .i64 k] w fun e w' => e = .returned (.bool (F.flip n p k).1) ∧ OpR S w g (F.flip n p k).2 w' := by
  have hop := h.op
  obtain ⟨⟨M, hx⟩, hl, hg⟩ := h
  cases ha : F.at n with
  | none =>
    unfold NF.flip
    rw [ha]
    refine (rFlip_out n p k w hx (NF.at_none ha)).mono ?_
    rintro e w' ⟨rfl, rfl⟩
    exact ⟨rfl, hop⟩
  | some x =>
    obtain ⟨m, rfl, hm⟩ := NF.at_some ha
    exact rFlip_any m p k x w hx hl hm hg
theorem rread_all {S : Zone} {g : Nat} {F : NF} (n p : Int) (w : World) (h : RefG S w g F) :
    Calls Try.prog 43 #[.pointer (some ⟨g, 0, none⟩), .int .i64 n, .int .i64 p] w (RReadV S w g (F.read n p).1 (F.read n p).2.1 (F.read n p).2.2) := by
  obtain ⟨⟨M, hx⟩, hl, hg⟩ := h
  unfold NF.read
  cases ha : F.at n with
  | none => exact rread_out n p w hx hl hg (NF.at_none ha)
  | some x =>
    obtain ⟨m, rfl, hm⟩ := NF.at_some ha
    dsimp only
    by_cases he : F.readE x p ≠ 0
    · rw [if_pos he]
      exact rread_err m p x w hx hl hm hg he
    · rw [if_neg he]
      have he : F.readE x p = 0 := Classical.not_not.1 he
      have hhas : F.has x p = true := by
        unfold NF.readE at he
        cases h1 : F.off <;> cases h2 : F.has x p <;> simp [h1, h2] at he ⊢
      have hq := NF.has_iff.1 hhas
      obtain ⟨p, rfl⟩ : ∃ q : Nat, p = q := ⟨p.toNat, by omega⟩
      have hgx := hg.at' hm
      have hpn2 : p < F.np := by have := F.many_le x; omega
      obtain ⟨l, hpl⟩ : ∃ l, x.pages[p]? = some l := ⟨_, List.getElem?_eq_getElem (by rw [hgx.pl]; exact hpn2)⟩
      have hgd : x.pages.getD ((p : Int)).toNat [] = l := by simp [List.getD, hpl]
      rw [hgd]
      exact rread_ok m p x l w hx hl hm hpl hg he
theorem rnext_all {S : Zone} {g : Nat} {F : NF} (n : Int) (w : World) (h : RefG S w g F) :
    Calls Try.prog 45 #[.pointer (some ⟨g, 0, none⟩), .int .i64 n] w fun e w' => e = .returned (.int .i64 (F.nextAt n)) ∧ w = w' := by
  obtain ⟨⟨M, hx⟩, hl, hg⟩ := h
  unfold NF.nextAt
  cases ha : F.at n with
  | none => exact rnext_out n w hx (NF.at_none ha)
  | some x =>
    obtain ⟨m, rfl, hm⟩ := NF.at_some ha
    exact rnext_any m x w hx hm hg
theorem rcut_all {S : Zone} {g : Nat} {F : NF} (w : World) (h : RefG S w g F) :
    Calls Try.prog 42 #[.pointer (some ⟨g, 0, none⟩)] w fun e w' => e = .returned (.tuple #[]) ∧ OpR S w g F.cut w' := by
  obtain ⟨⟨M, hx⟩, hl, hg⟩ := h
  refine (rcut_any w hx).mono ?_
  rintro e w' ⟨rfl, h1, h2⟩
  exact ⟨rfl, h1.op hl (Fr.grown h2 hx.zone.1) hg.cut⟩
theorem rarm_all {S : Zone} {g : Nat} {F : NF} (n : Int) (w : World) (h : RefG S w g F) (hn : n ≤ 9223372036854775807) :
    Calls Try.prog 40 #[.pointer (some ⟨g, 0, none⟩), .int .i64 n] w fun e w' => e = .returned (.tuple #[]) ∧ OpR S w g (F.arm n) w' := by
  obtain ⟨⟨M, hx⟩, hl, hg⟩ := h
  refine (rarm_any n w hx).mono ?_
  rintro e w' ⟨rfl, h1, h2⟩
  exact ⟨rfl, h1.op hl (Fr.grown h2 hx.zone.1) (hg.arm n hn)⟩
/-- 'Off = false'. -/
theorem RefG.on {S : Zone} {g : Nat} {F : NF} {w : World} (h : RefG S w g F) : OpR S w g F.on (w.setCell ⟨g, 3, none⟩ (.bool false)) ∧ w.cell? ⟨g, 3, none⟩ = some (.bool F.off) ∧ w.frozen? ⟨g, 3, none⟩ = false := by
  obtain ⟨⟨M, hx⟩, hl, hg⟩ := h
  obtain ⟨-, -, -, c3, -⟩ := hx.gcells
  exact ⟨(hx.setOwn (F' := F.on) 3 (.bool false) (by simp [NF.rcells, NF.on]) rfl).op hl (Fr.grown (gb_set (gb_refl _ _) _ _) hx.zone.1) hg.on, c3, hx.gfree 3⟩
end Go.Proofs.Ytbbhniohliklhaa
