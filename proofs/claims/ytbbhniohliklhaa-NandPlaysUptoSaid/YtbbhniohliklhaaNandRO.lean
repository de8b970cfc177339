/- nand: NandPlays. -/
import Derived.Test.YtbbhniohliklhaaNandRN
namespace Go.Proofs.Ytbbhniohliklhaa
open Go Go.RowKit
set_option linter.unusedVariables false

def PlayI (w : World) (g h : Nat) (sh : Nat × Nat × Nat) (wr : World) : Prop := ∃ F, DuoI (fun _ => False) w g h F F none [] wr ∧ F.sh = sh
section
variable {w wr w' : World} {g h : Nat} {sh : Nat × Nat × Nat}
theorem play_below (P : PlayI w g h sh wr) : Below w.heap.size w wr := by
  obtain ⟨F, d, -⟩ := P
  have := d.fr
  exact ⟨this.os, this.tape, this.output, this.size, fun k hk => this.block k hk (fun q => q)⟩
theorem PlayI.below (P : PlayI w g h sh wr) (hb : Below wr.heap.size wr w') : PlayI w g h sh w' := by
  obtain ⟨F, d, e⟩ := P
  exact ⟨F, d.below hb, e⟩
theorem play_next {Sn Sr : Zone} {F : NF} (hz : ∀ k, Sn k ∨ Sr k → False ∨ w.heap.size ≤ k) (hf : Fr (fun _ => False) w wr) (hs : F.sh = sh) {e : Ending} (hr : StepR Sn Sr wr g h F e w') : e = .returned (.bool true) ∧ PlayI w g h sh w' := by
  obtain ⟨rfl, F2, d, e2⟩ := hr
  exact ⟨rfl, F2, DuoI.trans hz hf d, e2.trans hs⟩
theorem play_step (P : PlayI w g h sh wr) {z : NAct} (hx : z.wf w) (hle : z.raw.length ≤ 1000000) :
    Calls Try.prog 25 #[.pointer (some ⟨g, 0, none⟩), .pointer (some ⟨h, 0, none⟩), z.agg] wr fun e w' => e = .returned (.bool true) ∧ PlayI w g h sh w' := by
  have hbe := play_below P
  obtain ⟨F, ⟨Sn, Sr, d, hz, hf, -⟩, hs⟩ := P
  refine (lstep_any z wr d (hx.below hbe) hle fun h0 ad e => ?_).mono fun e w' hr => play_next hz hf hs hr
  obtain ⟨b, o, e2, hlt, _⟩ := hx.2.2.2.2.2.1.2.2 h0
  rw [e] at e2
  cases e2
  exact ⟨fun q => by
    rcases hz _ q with q | q
    · exact q
    · dsimp only at q; omega, Nat.lt_of_lt_of_le hlt hbe.size⟩
theorem play_looks (P : PlayI w g h sh wr) (n p : Int) :
    Calls Try.prog 26 #[.pointer (some ⟨g, 0, none⟩), .pointer (some ⟨h, 0, none⟩), .int .i64 n, .int .i64 p] wr fun e w' => e = .returned (.bool true) ∧ PlayI w g h sh w' := by
  obtain ⟨F, ⟨Sn, Sr, d, hz, hf, -⟩, hs⟩ := P
  exact (llooks_any n p wr d).mono fun e w' hr => play_next hz hf hs hr
theorem play_shape {nb np ch : Nat} (P : PlayI w g h (nb, np, ch) wr) :
    Calls Try.prog 27 #[.pointer (some ⟨g, 0, none⟩)] wr fun e w' => e = .returned (.tuple #[.int .i64 (nb : Int), .int .i64 (np : Int), .int .i64 (ch : Int)]) ∧ Below w.heap.size w w' := by
  have hbe := play_below P
  obtain ⟨F, ⟨Sn, Sr, d, hz, hf, -⟩, hs⟩ := P
  simp only [NF.sh, Prod.mk.injEq] at hs
  obtain ⟨h1, h2, h3⟩ := hs
  refine (fshape_any wr d.fl).mono ?_
  rintro e w' ⟨rfl, hb⟩
  rw [h1, h2, h3]
  exact ⟨rfl, hbe.trans (hb.mono hbe.size)⟩
end
set_option maxRecDepth 100000 in
set_option maxHeartbeats 8000000 in
theorem nplays_go (nb np ch : Nat) (a : Option Addr) (len cap : Nat) (xs : List NAct) (w : World) (h1 : 1 ≤ nb) (h2 : nb ≤ 1024) (h3 : 2 ≤ np) (h4 : np ≤ 256) (h5 : np % 2 = 0) (h6 : 1 ≤ ch) (h7 : ch ≤ 8) (hi : Rws 8 NAct.cells w a len xs) (hw : ∀ x ∈ xs, x.wf w) (hb : rawSum xs len + len ≤ 1048576) (hfe : fewS xs len = true) :
    Calls Try.prog 7 #[.int .i64 (nb : Int), .int .i64 (np : Int), .int .i64 (ch : Int), .slice a len cap] w fun e w' => e = .returned (.bool true) ∧ Below w.heap.size w w' := by
  obtain ⟨POST, hPOST⟩ : ∃ Q : Ending → World → Prop, Q = fun e w' => e = .returned (.bool true) ∧ Below w.heap.size w w' := ⟨_, rfl⟩
  rw [← hPOST]
  have HPOST := Lib.hid hPOST
  clear hPOST
  have HI := Lib.hid hi
  have HW := Lib.hid hw
  have hfew := fun w' (hb' : Below w.heap.size w w') => nfew_any a len cap xs w' (hi.below hb') hb
  rw [hfe] at hfew
  have HFew := Lib.hid hfew
  have hl200 : len ≤ 200 := by unfold fewS at hfe; simp at hfe; exact hfe.1
  have HFs : Hid (rawSum xs len ≤ 16384) := Lib.hid (by unfold fewS at hfe; simp at hfe; exact hfe.2)
  have HNew := Lib.hid (fun w => fnew_any nb np ch w h1 h2 h3 h4 h5 h6 h7)
  have HNewR := Lib.hid (fun w => rnew_ok nb np ch w h1 h2 h3 h4 h5 h6 h7)
  clear hi hw hb hfew hfe h1 h2 h3 h4 h5 h6 h7
  go_enter Try.func7, Try.ntmps7
  go_wp2_with fail
  refine (nknown_any _).mono ?_
  rintro e w1 ⟨rfl, hb⟩
  have HB := Lib.hid hb
  clear hb
  go_wp2_with fail
  refine (HFew.out _ HB.out).mono ?_
  rintro e w1' ⟨rfl, rfl⟩
  go_wp2_with fail
  refine (HNew.out _).mono ?_
  rintro e w2 ⟨⟨g, rfl, hg⟩, hb2⟩
  have HG := Lib.hid hg
  have HB2 := Lib.hid hb2
  clear hg hb2
  go_wp2_with fail
  refine (HNewR.out _).mono ?_
  rintro e w3 ⟨⟨h, rfl, hr⟩, hb3⟩
  have HP : Hid (PlayI w g h (nb, np, ch) w3) := Lib.hid (by
    have hs1 := HB.out.size
    have hs2 := HB2.out.size
    refine ⟨NF.new nb np ch, ⟨_, _, ⟨HG.out.below hb3, hr, fun k q1 q2 => by omega⟩, fun k q => ?_, ?_, bytes_none _, fun ad e => by cases e⟩, by simp [NF.sh, NF.new]⟩
    · right; rcases q with q | q <;> omega
    · have := (HB.out.trans (HB2.out.mono hs1)).trans (hb3.mono (Nat.le_trans hs1 hs2))
      exact ⟨this.os, this.tape, this.output, this.size, fun k hk _ => this.block k hk⟩)
  clear hr hb3 HG HB2 HB HNew HNewR HFew
  go_wp2_with fail
  go_loopw [13] (fun i wr => ∃ k : Nat, k ≤ len ∧ i = .int .i64 (k : Int) ∧ Hid (PlayI w g h (nb, np, ch) wr)) (fun i _ => len - (intOf i).toNat)
  case atStart => exact ⟨0, Nat.zero_le _, rfl, HP⟩
  case round =>
    clear HP
    obtain ⟨k, hk, rfl, HP⟩ := hrel
    obtain ⟨wo, rfl⟩ : ∃ wo : World, wo = wr := ⟨_, rfl⟩
    by_cases hlt : k < len
    · obtain ⟨bb, off, rfl, hbl, -⟩ := HI.out.2 (by omega)
      have hkl : k < xs.length := by rw [HI.out.1]; exact hlt
      have hx : xs[k]? = some xs[k] := List.getElem?_eq_getElem hkl
      obtain ⟨z, hz⟩ : ∃ z, z = xs[k] := ⟨_, rfl⟩
      rw [← hz] at hx
      have HZw : Hid (z.wf w) := Lib.hid (HW.out z (List.mem_of_getElem? hx))
      have HZl : Hid (z.raw.length ≤ 1000000) := Lib.hid (by
        have h1 := rawSum_one hlt hx
        have h2 := HFs.out
        omega)
      have HC := Lib.hid (fun w' (hb' : Below w.heap.size w w') => (NAct.eightAt HI.out hb' hlt hx).2)
      have hlt' : (k : Int) < (len : Int) := by omega
      have hb0 : (0 : Int) ≤ (k : Int) ∧ (k : Int) < (len : Int) := by omega
      have k0 : ∀ w', Below w.heap.size w w' → w'.cell? ⟨bb, off + k * 8, none⟩ = some (.int .i64 z.op) := fun w' h => (HC.out w' h).1
      have k1 : ∀ w', Below w.heap.size w w' → w'.cell? ⟨bb, off + k * 8 + 1, none⟩ = some (.int .i64 z.blk) := fun w' h => (HC.out w' h).2.1
      have k2 : ∀ w', Below w.heap.size w w' → w'.cell? ⟨bb, off + k * 8 + 2, none⟩ = some (.int .i64 z.page) := fun w' h => (HC.out w' h).2.2.1
      have k3 : ∀ w', Below w.heap.size w w' → w'.cell? ⟨bb, off + k * 8 + 3, none⟩ = some (.bool z.own) := fun w' h => (HC.out w' h).2.2.2.1
      have k4 : ∀ w', Below w.heap.size w w' → w'.cell? ⟨bb, off + k * 8 + 4, none⟩ = some (.int .u8 z.fill) := fun w' h => (HC.out w' h).2.2.2.2.1
      have k5 : ∀ w', Below w.heap.size w w' → w'.cell? ⟨bb, off + k * 8 + 5, none⟩ = some (.slice z.ra z.raw.length z.rc) := fun w' h => (HC.out w' h).2.2.2.2.2.1
      have k6 : ∀ w', Below w.heap.size w w' → w'.cell? ⟨bb, off + k * 8 + 6, none⟩ = some (.bool z.one) := fun w' h => (HC.out w' h).2.2.2.2.2.2.1
      have k7 : ∀ w', Below w.heap.size w w' → w'.cell? ⟨bb, off + k * 8 + 7, none⟩ = some (.int .i64 z.n) := fun w' h => (HC.out w' h).2.2.2.2.2.2.2
      have HPd : Hid (PlayI w g h (nb, np, ch) wo.drew) := Lib.hid (HP.out.below (Below.refl _ _).drew)
      clear hz hx hbl hkl
      go_wp2_with fail
      refine wp_region_held_drew (S := (fun w' => Below w.heap.size w w')) (by kernel_rfl) ((play_below HP.out).drew) (fun hHeld => ?_)
      refine held_take 0 (v := ?_) rfl (by kernel_rfl) (by kernel_rfl) (by kernel_rfl) (fun _ _ _ h => h) (by rfl) (fun w hS => ?_) (by assumption) ?_
      rotate_left
      · try dsimp only at hS
        go_simp <;> with_reducible rfl
      try simp only [Act.put, List.setIfInBounds_toArray, List.set_cons_zero, List.set_cons_succ]
      refine held_take 1 (v := ?_) rfl (by kernel_rfl) (by kernel_rfl) (by kernel_rfl) (fun _ _ _ h => h) (by rfl) (fun w hS => ?_) (by assumption) ?_
      rotate_left
      · try dsimp only at hS
        go_simp <;> with_reducible rfl
      try simp only [Act.put, List.setIfInBounds_toArray, List.set_cons_zero, List.set_cons_succ]
      refine held_take 2 (v := ?_) rfl (by kernel_rfl) (by kernel_rfl) (by kernel_rfl) (fun _ _ _ h => h) (by rfl) (fun w hS => ?_) (by assumption) ?_
      rotate_left
      · try dsimp only at hS
        go_simp <;> with_reducible rfl
      try simp only [Act.put, List.setIfInBounds_toArray, List.set_cons_zero, List.set_cons_succ]
      refine held_take 3 (v := ?_) rfl (by kernel_rfl) (by kernel_rfl) (by kernel_rfl) (fun _ _ _ h => h) (by rfl) (fun w hS => ?_) (by assumption) ?_
      rotate_left
      · try dsimp only at hS
        go_simp <;> with_reducible rfl
      try simp only [Act.put, List.setIfInBounds_toArray, List.set_cons_zero, List.set_cons_succ]
      refine held_take 4 (v := ?_) rfl (by kernel_rfl) (by kernel_rfl) (by kernel_rfl) (fun _ _ _ h => h) (by rfl) (fun w hS => ?_) (by assumption) ?_
      rotate_left
      · try dsimp only at hS
        go_simp <;> with_reducible rfl
      try simp only [Act.put, List.setIfInBounds_toArray, List.set_cons_zero, List.set_cons_succ]
      refine held_take 5 (v := ?_) rfl (by kernel_rfl) (by kernel_rfl) (by kernel_rfl) (fun _ _ _ h => h) (by rfl) (fun w hS => ?_) (by assumption) ?_
      rotate_left
      · try dsimp only at hS
        go_simp <;> with_reducible rfl
      try simp only [Act.put, List.setIfInBounds_toArray, List.set_cons_zero, List.set_cons_succ]
      refine held_one 6 rfl (by kernel_rfl) (fun K hK => ?_)
      go_simp
      refine Calls.mono (play_step (HPd.out) HZw.out HZl.out) ?_
      rintro e w4 ⟨rfl, hP1⟩
      have HP1 := Lib.hid hP1
      clear hP1
      refine hK.out _ _ (fun w' => Below w.heap.size w w') (fun _ h => h) (play_below HP1.out) (fun hHeld => ?_)
      clear hK K
      try simp only [Act.put, List.setIfInBounds_toArray, List.set_cons_zero, List.set_cons_succ]
      refine held_take 7 (v := ?_) rfl (by kernel_rfl) (by kernel_rfl) (by kernel_rfl) (fun _ _ _ h => h) (by rfl) (fun w hS => ?_) (by assumption) ?_
      rotate_left
      · try dsimp only at hS
        go_simp <;> with_reducible rfl
      try simp only [Act.put, List.setIfInBounds_toArray, List.set_cons_zero, List.set_cons_succ]
      refine held_take 8 (v := ?_) rfl (by kernel_rfl) (by kernel_rfl) (by kernel_rfl) (fun _ _ _ h => h) (by rfl) (fun w hS => ?_) (by assumption) ?_
      rotate_left
      · try dsimp only at hS
        go_simp <;> with_reducible rfl
      try simp only [Act.put, List.setIfInBounds_toArray, List.set_cons_zero, List.set_cons_succ]
      refine held_take 9 (v := ?_) rfl (by kernel_rfl) (by kernel_rfl) (by kernel_rfl) (fun _ _ _ h => h) (by rfl) (fun w hS => ?_) (by assumption) ?_
      rotate_left
      · try dsimp only at hS
        go_simp <;> with_reducible rfl
      try simp only [Act.put, List.setIfInBounds_toArray, List.set_cons_zero, List.set_cons_succ]
      refine held_take 10 (v := ?_) rfl (by kernel_rfl) (by kernel_rfl) (by kernel_rfl) (fun _ _ _ h => h) (by rfl) (fun w hS => ?_) (by assumption) ?_
      rotate_left
      · try dsimp only at hS
        go_simp <;> with_reducible rfl
      try simp only [Act.put, List.setIfInBounds_toArray, List.set_cons_zero, List.set_cons_succ]
      refine held_take 11 (v := ?_) rfl (by kernel_rfl) (by kernel_rfl) (by kernel_rfl) (fun _ _ _ h => h) (by rfl) (fun w hS => ?_) (by assumption) ?_
      rotate_left
      · try dsimp only at hS
        go_simp <;> with_reducible rfl
      try simp only [Act.put, List.setIfInBounds_toArray, List.set_cons_zero, List.set_cons_succ]
      refine held_take 12 (v := ?_) rfl (by kernel_rfl) (by kernel_rfl) (by kernel_rfl) (fun _ _ _ h => h) (by rfl) (fun w hS => ?_) (by assumption) ?_
      rotate_left
      · try dsimp only at hS
        go_simp <;> with_reducible rfl
      try simp only [Act.put, List.setIfInBounds_toArray, List.set_cons_zero, List.set_cons_succ]
      refine held_take 13 (v := ?_) rfl (by kernel_rfl) (by kernel_rfl) (by kernel_rfl) (fun _ _ _ h => h) (by rfl) (fun w hS => ?_) (by assumption) ?_
      rotate_left
      · try dsimp only at hS
        go_simp <;> with_reducible rfl
      try simp only [Act.put, List.setIfInBounds_toArray, List.set_cons_zero, List.set_cons_succ]
      refine held_take 14 (v := ?_) rfl (by kernel_rfl) (by kernel_rfl) (by kernel_rfl) (fun _ _ _ h => h) (by rfl) (fun w hS => ?_) (by assumption) ?_
      rotate_left
      · try dsimp only at hS
        go_simp <;> with_reducible rfl
      try simp only [Act.put, List.setIfInBounds_toArray, List.set_cons_zero, List.set_cons_succ]
      refine held_take 15 (v := ?_) rfl (by kernel_rfl) (by kernel_rfl) (by kernel_rfl) (fun _ _ _ h => h) (by rfl) (fun w hS => ?_) (by assumption) ?_
      rotate_left
      · try dsimp only at hS
        go_simp <;> with_reducible rfl
      try simp only [Act.put, List.setIfInBounds_toArray, List.set_cons_zero, List.set_cons_succ]
      refine held_take 16 (v := ?_) rfl (by kernel_rfl) (by kernel_rfl) (by kernel_rfl) (fun _ _ _ h => h) (by rfl) (fun w hS => ?_) (by assumption) ?_
      rotate_left
      · try dsimp only at hS
        go_simp <;> with_reducible rfl
      try simp only [Act.put, List.setIfInBounds_toArray, List.set_cons_zero, List.set_cons_succ]
      refine held_take 17 (v := ?_) rfl (by kernel_rfl) (by kernel_rfl) (by kernel_rfl) (fun _ _ _ h => h) (by rfl) (fun w hS => ?_) (by assumption) ?_
      rotate_left
      · try dsimp only at hS
        go_simp <;> with_reducible rfl
      try simp only [Act.put, List.setIfInBounds_toArray, List.set_cons_zero, List.set_cons_succ]
      refine held_take 18 (v := ?_) rfl (by kernel_rfl) (by kernel_rfl) (by kernel_rfl) (fun _ _ _ h => h) (by rfl) (fun w hS => ?_) (by assumption) ?_
      rotate_left
      · try dsimp only at hS
        go_simp <;> with_reducible rfl
      try simp only [Act.put, List.setIfInBounds_toArray, List.set_cons_zero, List.set_cons_succ]
      refine held_take 19 (v := ?_) rfl (by kernel_rfl) (by kernel_rfl) (by kernel_rfl) (fun _ _ _ h => h) (by rfl) (fun w hS => ?_) (by assumption) ?_
      rotate_left
      · try dsimp only at hS
        go_simp <;> with_reducible rfl
      try simp only [Act.put, List.setIfInBounds_toArray, List.set_cons_zero, List.set_cons_succ]
      refine held_take 20 (v := ?_) rfl (by kernel_rfl) (by kernel_rfl) (by kernel_rfl) (fun _ _ _ h => h) (by rfl) (fun w hS => ?_) (by assumption) ?_
      rotate_left
      · try dsimp only at hS
        go_simp <;> with_reducible rfl
      try simp only [Act.put, List.setIfInBounds_toArray, List.set_cons_zero, List.set_cons_succ]
      refine held_one 21 rfl (by kernel_rfl) (fun K hK => ?_)
      go_simp
      refine Calls.mono (play_looks HP1.out z.blk z.page) ?_
      rintro e w5 ⟨rfl, hP2⟩
      have HP2 := Lib.hid hP2
      clear hP2
      refine hK.out _ _ (fun w' => Below w.heap.size w w') (fun _ h => h) (play_below HP2.out) (fun hHeld => ?_)
      clear hK K
      try simp only [Act.put, List.setIfInBounds_toArray, List.set_cons_zero, List.set_cons_succ]
      refine held_take 22 (v := ?_) rfl (by kernel_rfl) (by kernel_rfl) (by kernel_rfl) (fun _ _ _ h => h) (by rfl) (fun w hS => ?_) (by assumption) ?_
      rotate_left
      · try dsimp only at hS
        go_simp <;> with_reducible rfl
      try simp only [Act.put, List.setIfInBounds_toArray, List.set_cons_zero, List.set_cons_succ]
      refine held_take 23 (v := ?_) rfl (by kernel_rfl) (by kernel_rfl) (by kernel_rfl) (fun _ _ _ h => h) (by rfl) (fun w hS => ?_) (by assumption) ?_
      rotate_left
      · try dsimp only at hS
        go_simp <;> with_reducible rfl
      try simp only [Act.put, List.setIfInBounds_toArray, List.set_cons_zero, List.set_cons_succ]
      refine held_done (by kernel_rfl) ?_
      go_wp2_with fail
      go_roundw
      case rel => exact ⟨k + 1, by omega, by simp, HP2⟩
      case measure => simp [intOf]; omega
    · obtain rfl : k = len := by omega
      go_wp2_with fail
      refine (play_shape HP.out).mono ?_
      rintro e w6 ⟨rfl, hb6⟩
      have HB6 := Lib.hid hb6
      clear hb6
      go_wp2_with fail
      rw [HPOST.out]
      exact ⟨rfl, HB6.out⟩
set_option maxRecDepth 100000 in
theorem nplays_bad (b p c : Int) (a : Option Addr) (len cap : Nat) (xs : List NAct) (w : World) (h : b < 1 ∨ 1024 < b ∨ p < 2 ∨ 256 < p ∨ ¬ p.tmod 2 = 0 ∨ c < 1 ∨ 8 < c) (hi : Rws 8 NAct.cells w a len xs) (hb : rawSum xs len + len ≤ 1048576) :
    Calls Try.prog 7 #[.int .i64 b, .int .i64 p, .int .i64 c, .slice a len cap] w fun e w' => e = .returned (.bool true) ∧ Below w.heap.size w w' := by
  obtain ⟨POST, hPOST⟩ : ∃ Q : Ending → World → Prop, Q = fun e w' => e = .returned (.bool true) ∧ Below w.heap.size w w' := ⟨_, rfl⟩
  rw [← hPOST]
  have HPOST := Lib.hid hPOST
  clear hPOST
  have HFew := Lib.hid (fun w' (hb' : Below w.heap.size w w') => nfew_any a len cap xs w' (hi.below hb') hb)
  have HN := Lib.hid (fun w => nnew_bad b p c w h)
  have HR := Lib.hid (fun w => rnew_bad b p c w h)
  clear h hi hb
  generalize fewS xs len = few at HFew
  go_enter Try.func7, Try.ntmps7
  go_wp2_with fail
  refine (nknown_any _).mono ?_
  rintro e w1 ⟨rfl, hb⟩
  have HB := Lib.hid hb
  clear hb
  go_wp2_with fail
  refine (HFew.out _ HB.out).mono ?_
  rintro e w1' ⟨rfl, rfl⟩
  cases few with
  | false =>
    go_wp2_with fail
    rw [HPOST.out]
    exact ⟨rfl, HB.out⟩
  | true =>
    go_wp2_with fail
    refine (HN.out _).mono ?_
    rintro e w2 ⟨rfl, rfl⟩
    go_wp2_with fail
    refine (HR.out _).mono ?_
    rintro e w2 ⟨rfl, rfl⟩
    go_wp2_with fail
    rw [HPOST.out]
    exact ⟨rfl, HB.out⟩
set_option maxRecDepth 100000 in
theorem nplays_many (b p c : Int) (a : Option Addr) (len cap : Nat) (xs : List NAct) (w : World) (hi : Rws 8 NAct.cells w a len xs) (hb : rawSum xs len + len ≤ 1048576) (hfe : fewS xs len = false) :
    Calls Try.prog 7 #[.int .i64 b, .int .i64 p, .int .i64 c, .slice a len cap] w fun e w' => e = .returned (.bool true) ∧ Below w.heap.size w w' := by
  obtain ⟨POST, hPOST⟩ : ∃ Q : Ending → World → Prop, Q = fun e w' => e = .returned (.bool true) ∧ Below w.heap.size w w' := ⟨_, rfl⟩
  rw [← hPOST]
  have HPOST := Lib.hid hPOST
  clear hPOST
  have hfew := fun w' (hb' : Below w.heap.size w w') => nfew_any a len cap xs w' (hi.below hb') hb
  rw [hfe] at hfew
  have HFew := Lib.hid hfew
  clear hi hb hfe hfew
  go_enter Try.func7, Try.ntmps7
  go_wp2_with fail
  refine (nknown_any _).mono ?_
  rintro e w1 ⟨rfl, hb⟩
  have HB := Lib.hid hb
  clear hb
  go_wp2_with fail
  refine (HFew.out _ HB.out).mono ?_
  rintro e w1' ⟨rfl, rfl⟩
  go_wp2_with fail
  rw [HPOST.out]
  exact ⟨rfl, HB.out⟩
theorem nplays_any (b p c : Int) (a : Option Addr) (len cap : Nat) (xs : List NAct) (w : World) (hi : Rws 8 NAct.cells w a len xs) (hw : ∀ x ∈ xs, x.wf w) (hb : rawSum xs len + len ≤ 1048576) :
    Calls Try.prog 7 #[.int .i64 b, .int .i64 p, .int .i64 c, .slice a len cap] w fun e w' => e = .returned (.bool true) ∧ Below w.heap.size w w' := by
  by_cases h : b < 1 ∨ 1024 < b ∨ p < 2 ∨ 256 < p ∨ ¬ p.tmod 2 = 0 ∨ c < 1 ∨ 8 < c
  · exact nplays_bad b p c a len cap xs w h hi hb
  · by_cases hfe : fewS xs len = true
    · simp only [not_or, Classical.not_not] at h
      obtain ⟨q1, q2, q3, q4, q5, q6, q7⟩ := h
      obtain ⟨nb, rfl⟩ : ∃ n : Nat, b = n := ⟨b.toNat, by omega⟩
      obtain ⟨np, rfl⟩ : ∃ n : Nat, p = n := ⟨p.toNat, by omega⟩
      obtain ⟨ch, rfl⟩ : ∃ n : Nat, c = n := ⟨c.toNat, by omega⟩
      have q5' : ((np % 2 : Nat) : Int) = 0 := q5
      exact nplays_go nb np ch a len cap xs w (by omega) (by omega) (by omega) (by omega) (by omega) (by omega) (by omega) hi hw hb hfe
    · exact nplays_many b p c a len cap xs w hi hb (by simpa using hfe)
end Go.Proofs.Ytbbhniohliklhaa
