/- crc: sums by tables: fill, use, Seven, Sixteen, Uses. -/
import Derived.Test.YtogpdmpefdafnaaCrcT
import Derived.Test.YtogpdmpefdafnaaOnceA
namespace Go.Proofs.Ytogpdmpefdafnaa
open Go Go.RowKit
set_option linter.unusedVariables false

def T7 (c : Nat) : Nat := Crc.st7 0 c / 2
def T16 (c : Nat) : Nat := Crc.st16 0 c
theorem T7_lt (c : Nat) (h : c < 256) : T7 c < 128 := by
  have := Crc.fold7_lt [c] 0 (by omega) (by simp; omega)
  simp at this
  unfold T7; omega
theorem T16_lt (c : Nat) (h : c < 256) : T16 c < 65536 := by
  have := Crc.fold16_lt [c] 0 (by omega) (by simp; omega)
  simpa [T16] using this

theorem seven0 (c : Nat) (hc : c < 256) (w : World) :
    Calls Try.prog 63 #[.int .u8 0, .int .u8 c] w fun e w' => e = .returned (.int .u8 (T7 c : Nat)) ∧ w' = w := by
  refine (seven_step 0 c (by omega) hc w).mono ?_
  rintro e w' ⟨rfl, rfl⟩
  exact ⟨rfl, rfl⟩
theorem sixteen0 (c : Nat) (hc : c < 256) (w : World) :
    Calls Try.prog 64 #[.int .u16 0, .int .u8 c] w fun e w' => e = .returned (.int .u16 (T16 c : Nat)) ∧ w' = w := by
  refine (sixteen_step 0 c (by omega) hc w).mono ?_
  rintro e w' ⟨rfl, rfl⟩
  exact ⟨rfl, rfl⟩

/-- The cells of a Sums: the Once's two words, so much of its tables, the uses. -/
def SumsC (d m u : Int) (n n6 : Nat) (C : Array Value) : Prop :=
  C.size = 516 ∧ C[0]? = some (.int .u32 d) ∧ C[1]? = some (.int .i32 m) ∧ C[515]? = some (.int .i64 u) ∧ (∀ i, i < n → C[3 + i]? = some (.int .u8 (T7 i : Nat))) ∧ (∀ i, i < n6 → C[259 + i]? = some (.int .u16 (T16 i : Nat)))

theorem SumsC.set7 {d m u : Int} {n n6 : Nat} {C : Array Value} (h : SumsC d m u n n6 C) (hn : n < 256) : SumsC d m u (n + 1) n6 (C.setIfInBounds (3 + n) (.int .u8 (T7 n : Nat))) := by
  obtain ⟨h0, h1, h2, h3, h4, h5⟩ := h
  refine ⟨by simpa using h0, ?_, ?_, ?_, fun i hi => ?_, fun i hi => ?_⟩
  · rw [Array.getElem?_setIfInBounds, if_neg (by omega)]; exact h1
  · rw [Array.getElem?_setIfInBounds, if_neg (by omega)]; exact h2
  · rw [Array.getElem?_setIfInBounds, if_neg (by omega)]; exact h3
  · rw [Array.getElem?_setIfInBounds]
    by_cases he : i = n
    · subst he; rw [if_pos rfl, if_pos (by omega)]
    · rw [if_neg (by omega)]; exact h4 i (by omega)
  · rw [Array.getElem?_setIfInBounds, if_neg (by omega)]; exact h5 i hi
theorem SumsC.set16 {d m u : Int} {n n6 : Nat} {C : Array Value} (h : SumsC d m u n n6 C) (hn : n6 < 256) (hn2 : n ≤ 256) : SumsC d m u n (n6 + 1) (C.setIfInBounds (259 + n6) (.int .u16 (T16 n6 : Nat))) := by
  obtain ⟨h0, h1, h2, h3, h4, h5⟩ := h
  refine ⟨by simpa using h0, ?_, ?_, ?_, fun i hi => ?_, fun i hi => ?_⟩
  · rw [Array.getElem?_setIfInBounds, if_neg (by omega)]; exact h1
  · rw [Array.getElem?_setIfInBounds, if_neg (by omega)]; exact h2
  · rw [Array.getElem?_setIfInBounds, if_neg (by omega)]; exact h3
  · rw [Array.getElem?_setIfInBounds, if_neg (by omega)]; exact h4 i hi
  · rw [Array.getElem?_setIfInBounds]
    by_cases he : i = n6
    · subst he; rw [if_pos rfl, if_pos (by omega)]
    · rw [if_neg (by omega)]; exact h5 i (by omega)
theorem SumsC.setD {d m u : Int} {n n6 : Nat} {C : Array Value} (h : SumsC d m u n n6 C) (d' : Int) : SumsC d' m u n n6 (C.setIfInBounds 0 (.int .u32 d')) := by
  obtain ⟨h0, h1, h2, h3, h4, h5⟩ := h
  refine ⟨by simpa using h0, ?_, ?_, ?_, fun i hi => ?_, fun i hi => ?_⟩
  · rw [Array.getElem?_setIfInBounds, if_pos rfl, if_pos (by omega)]
  · rw [Array.getElem?_setIfInBounds, if_neg (by omega)]; exact h2
  · rw [Array.getElem?_setIfInBounds, if_neg (by omega)]; exact h3
  · rw [Array.getElem?_setIfInBounds, if_neg (by omega)]; exact h4 i hi
  · rw [Array.getElem?_setIfInBounds, if_neg (by omega)]; exact h5 i hi
theorem SumsC.setM {d m u : Int} {n n6 : Nat} {C : Array Value} (h : SumsC d m u n n6 C) (m' : Int) : SumsC d m' u n n6 (C.setIfInBounds 1 (.int .i32 m')) := by
  obtain ⟨h0, h1, h2, h3, h4, h5⟩ := h
  refine ⟨by simpa using h0, ?_, ?_, ?_, fun i hi => ?_, fun i hi => ?_⟩
  · rw [Array.getElem?_setIfInBounds, if_neg (by omega)]; exact h1
  · rw [Array.getElem?_setIfInBounds, if_pos rfl, if_pos (by omega)]
  · rw [Array.getElem?_setIfInBounds, if_neg (by omega)]; exact h3
  · rw [Array.getElem?_setIfInBounds, if_neg (by omega)]; exact h4 i hi
  · rw [Array.getElem?_setIfInBounds, if_neg (by omega)]; exact h5 i hi
theorem SumsC.setU {d m u : Int} {n n6 : Nat} {C : Array Value} (h : SumsC d m u n n6 C) (hn : n ≤ 256) (hn6 : n6 ≤ 256) (u' : Int) : SumsC d m u' n n6 (C.setIfInBounds 515 (.int .i64 u')) := by
  obtain ⟨h0, h1, h2, h3, h4, h5⟩ := h
  refine ⟨by simpa using h0, ?_, ?_, ?_, fun i hi => ?_, fun i hi => ?_⟩
  · rw [Array.getElem?_setIfInBounds, if_neg (by omega)]; exact h1
  · rw [Array.getElem?_setIfInBounds, if_neg (by omega)]; exact h2
  · rw [Array.getElem?_setIfInBounds, if_pos rfl, if_pos (by omega)]
  · rw [Array.getElem?_setIfInBounds, if_neg (by omega)]; exact h4 i hi
  · rw [Array.getElem?_setIfInBounds, if_neg (by omega)]; exact h5 i hi

/-- A Sums in the world. -/
def SumsW (w : World) (g : Nat) (d m u : Int) (n n6 : Nat) : Prop := ∃ C, HasB w g C 124 ∧ SumsC d m u n n6 C
theorem SumsW.lt {w : World} {g : Nat} {d m u : Int} {n n6 : Nat} (h : SumsW w g d m u n n6) : g < w.heap.size := by obtain ⟨C, h, _⟩ := h; exact h.lt
theorem SumsW.free {w : World} {g : Nat} {d m u : Int} {n n6 : Nat} (h : SumsW w g d m u n n6) (i : Nat) : w.frozen? ⟨g, i, none⟩ = false := by obtain ⟨C, h, _⟩ := h; exact h.free i
theorem SumsW.at {w : World} {g : Nat} {d m u : Int} {n n6 : Nat} (h : SumsW w g d m u n n6) :
    w.cell? ⟨g, 0, none⟩ = some (.int .u32 d) ∧ w.cell? ⟨g, 1, none⟩ = some (.int .i32 m) ∧ w.cell? ⟨g, 515, none⟩ = some (.int .i64 u) ∧ (∀ i, i < n → w.cell? ⟨g, 3 + i, none⟩ = some (.int .u8 (T7 i : Nat))) ∧ (∀ i, i < n6 → w.cell? ⟨g, 259 + i, none⟩ = some (.int .u16 (T16 i : Nat))) := by
  obtain ⟨C, hb, h0, h1, h2, h3, h4, h5⟩ := h
  refine ⟨by rw [hb.at]; exact h1, by rw [hb.at]; exact h2, by rw [hb.at]; exact h3, fun i hi => by rw [hb.at]; exact h4 i hi, fun i hi => by rw [hb.at]; exact h5 i hi⟩
theorem SumsW.some {w : World} {g : Nat} {d m u : Int} {n n6 : Nat} (h : SumsW w g d m u n n6) (i : Nat) (hi : i < 516) : ∃ v, w.cell? ⟨g, i, none⟩ = some v := by
  obtain ⟨C, hb, h0, _⟩ := h
  exact ⟨C[i]'(by omega), by rw [hb.at]; exact Array.getElem?_eq_getElem (by omega)⟩
theorem SumsW.drew {w : World} {g : Nat} {d m u : Int} {n n6 : Nat} (h : SumsW w g d m u n n6) : SumsW w.drew g d m u n n6 := h
theorem SumsW.kept {w w' : World} {g : Nat} {d m u : Int} {n n6 : Nat} (h : SumsW w g d m u n n6) (hb : Below w.heap.size w w') : SumsW w' g d m u n n6 := by
  obtain ⟨C, h1, h2⟩ := h
  exact ⟨C, h1.below hb h1.lt, h2⟩
theorem SumsW.set7 {w : World} {g : Nat} {d m u : Int} {n n6 : Nat} (h : SumsW w g d m u n n6) (hn : n < 256) : SumsW (w.setCell ⟨g, 3 + n, none⟩ (.int .u8 (T7 n : Nat))) g d m u (n + 1) n6 := by
  obtain ⟨C, h1, h2⟩ := h; exact ⟨_, h1.set _ _, h2.set7 hn⟩
theorem SumsW.set16 {w : World} {g : Nat} {d m u : Int} {n n6 : Nat} (h : SumsW w g d m u n n6) (hn : n6 < 256) (hn2 : n ≤ 256) : SumsW (w.setCell ⟨g, 259 + n6, none⟩ (.int .u16 (T16 n6 : Nat))) g d m u n (n6 + 1) := by
  obtain ⟨C, h1, h2⟩ := h; exact ⟨_, h1.set _ _, h2.set16 hn hn2⟩
theorem SumsW.setD {w : World} {g : Nat} {d m u : Int} {n n6 : Nat} (h : SumsW w g d m u n n6) (d' : Int) : SumsW (w.setCell ⟨g, 0, none⟩ (.int .u32 d')) g d' m u n n6 := by
  obtain ⟨C, h1, h2⟩ := h; exact ⟨_, h1.set _ _, h2.setD d'⟩
theorem SumsW.setM {w : World} {g : Nat} {d m u : Int} {n n6 : Nat} (h : SumsW w g d m u n n6) (m' : Int) : SumsW (w.setCell ⟨g, 1, none⟩ (.int .i32 m')) g d m' u n n6 := by
  obtain ⟨C, h1, h2⟩ := h; exact ⟨_, h1.set _ _, h2.setM m'⟩
theorem SumsW.setU {w : World} {g : Nat} {d m u : Int} {n n6 : Nat} (h : SumsW w g d m u n n6) (hn : n ≤ 256) (hn6 : n6 ≤ 256) (u' : Int) : SumsW (w.setCell ⟨g, 515, none⟩ (.int .i64 u')) g d m u' n n6 := by
  obtain ⟨C, h1, h2⟩ := h; exact ⟨_, h1.set _ _, h2.setU hn hn6 u'⟩

set_option maxRecDepth 100000 in
set_option maxHeartbeats 4000000 in
theorem fill_any (g : Nat) (d m u : Int) (w : World) (h : SumsW w g d m u 0 0) :
    Calls Try.prog 89 #[.pointer (some ⟨g, 0, none⟩)] w fun e w' => e = .returned (.tuple #[]) ∧ SumsW w' g d m u 256 256 ∧ w.grownBy w' (some g) := by
  have HS := Lib.hid h
  have HG := Lib.hid (gb_refl w (some g))
  clear h
  go_enter Try.func89, Try.ntmps89
  go_wp2_with fail
  go_loopw [3] (fun i wr => ∃ k : Nat, k ≤ 256 ∧ i = .int .i64 (k : Int) ∧ Hid (SumsW wr g d m u k k) ∧ Hid (w.grownBy wr (some g))) (fun i _ => 256 - (intOf i).toNat)
  case atStart => exact ⟨0, by omega, rfl, HS, HG⟩
  case round =>
    obtain ⟨k, hk, rfl, HSk, HGk⟩ := hrel
    obtain ⟨wo, rfl⟩ : ∃ wo : World, wo = wr := ⟨_, rfl⟩
    by_cases hlt : k < 256
    · have t1 : (k : Int) < 256 := by omega
      have t2 : IntKind.u8.wrap (k : Int) = (k : Int) := by rw [IntKind.wrap_u8]; omega
      have t3 : (0 : Int) ≤ (k : Int) ∧ (k : Int) < 256 := by omega
      have t4 : (0 : Int) ≤ (k : Int) := by omega
      obtain ⟨v1, hv1⟩ := HSk.out.some (3 + k) (by omega)
      have hf1 := HSk.out.free (3 + k)
      have HS1 := Lib.hid (HSk.out.set7 hlt)
      obtain ⟨v2, hv2⟩ := HS1.out.some (259 + k) (by omega)
      have hf2 := HS1.out.free (259 + k)
      have HS2 := Lib.hid (HS1.out.set16 hlt (by omega))
      have HG2 := Lib.hid (gb_set (gb_set HGk.out (3 + k) (.int .u8 (T7 k : Nat))) (259 + k) (.int .u16 (T16 k : Nat)))
      go_wp2_with fail
      go_still_tail 8, (by kernel_rfl)
      still_call (seven0 k hlt _)
      repeat still_step
      refine wpStill_nil ?_
      change wpList _ _ _ _ _ wo.drew
      go_wp2_with fail
      go_still_tail 8, (by kernel_rfl)
      still_call (sixteen0 k hlt _)
      repeat still_step
      refine wpStill_nil ?_
      change wpList _ _ _ _ _ (wo.setCell ⟨g, 3 + k, none⟩ (.int .u8 (T7 k : Nat))).drew.drew
      go_wp2_with fail
      go_roundw
      case rel => exact ⟨k + 1, by omega, by go_num, HS2, Lib.hid (gb_drew (gb_drew HG2.out))⟩
      case measure => simp [intOf]; omega
    · obtain rfl : k = 256 := by omega
      go_wp2
      go_end0
      exact ⟨rfl, HSk.out, HGk.out⟩

set_option maxRecDepth 100000 in
set_option maxHeartbeats 4000000 in
/-- '(*sync.Once).Do', not yet done. -/
theorem do_first (g : Nat) (u : Int) (w : World) (h : SumsW w g 0 0 u 0 0) :
    Calls Try.prog 88 #[.pointer (some ⟨g, 0, none⟩), .func (.func 89) #[.pointer (some ⟨g, 0, none⟩)] #[]] w fun e w' => e = .returned (.tuple #[]) ∧ SumsW w' g 1 0 u 256 256 ∧ w.grownBy w' (some g) := by
  have HS := Lib.hid h
  obtain ⟨c0, c1, _⟩ := h.at
  have f0 := h.free 0
  have f1 := h.free 1
  have hl := run_call_load (P := Try.prog) Try.func106 (by kernel_rfl) (by kernel_rfl) (by kernel_rfl) .u32 (by kernel_rfl) c0
  have hnot : ∀ (x : Bool) (w : World), (Op.unary .not (.bool x)).run Try.prog w = .ok (.bool (!x)) w := fun _ _ => rfl
  have hfill := (fill_any g 0 1 u (w.setCell ⟨g, 1, none⟩ (.int .i32 1)) (h.setM 1)).mono (R' := fun e w' => e = .returned (.tuple #[]) ∧ (SumsW w' g 0 1 u 256 256 ∧ w.grownBy w' (some g)) ∧ w'.cell? ⟨g, 0, none⟩ = some (.int .u32 0) ∧ w'.cell? ⟨g, 1, none⟩ = some (.int .i32 1) ∧ w'.frozen? ⟨g, 0, none⟩ = false ∧ w'.frozen? ⟨g, 1, none⟩ = false) (fun e w' ⟨a, b, c⟩ => ⟨a, ⟨b, gb_trans (gb_set (gb_refl w (some g)) 1 _) c⟩, b.at.1, b.at.2.1, b.free 0, b.free 1⟩)
  have HF := Lib.hid hfill
  clear h hfill
  go_enter Try.func88, Try.ntmps88
  go_wp2_with (first | (go_at_call 103; refine (slow_any g (.pointer (some ⟨g, 0, none⟩)) (fun w' => SumsW w' g 0 1 u 256 256 ∧ w.grownBy w' (some g)) _ c0 c1 f0 f1 HF.out).mono ?_; rintro e w' ⟨rfl, w1, ⟨hS1, hG1⟩, rfl⟩) | (go_at_call 102; go_in))
  go_end0
  exact ⟨rfl, (hS1.drew.setD 1).setM 0, gb_set (gb_set (gb_drew hG1) 0 _) 1 _⟩

/-- '(*sync.Once).Do', done already. -/
theorem do_done (g : Nat) (fv : Value) (w : World) (h0 : w.cell? ⟨g, 0, none⟩ = some (.int .u32 1)) :
    Calls Try.prog 88 #[.pointer (some ⟨g, 0, none⟩), fv] w fun e w' => e = .returned (.tuple #[]) ∧ w' = w := by
  have hl := run_call_load (P := Try.prog) Try.func106 (by kernel_rfl) (by kernel_rfl) (by kernel_rfl) .u32 (by kernel_rfl) h0
  have hnot : ∀ (x : Bool) (w : World), (Op.unary .not (.bool x)).run Try.prog w = .ok (.bool (!x)) w := fun _ _ => rfl
  go_enter Try.func88, Try.ntmps88
  go_wp2
  go_end0
  exact ⟨rfl, rfl⟩

/-- A Sums that was not used yet, or was: u uses. -/
def SumsU (w : World) (g : Nat) (u : Int) : Prop := SumsW w g 0 0 u 0 0 ∨ SumsW w g 1 0 u 256 256
theorem SumsU.kept {w w' : World} {g : Nat} {u : Int} (h : SumsU w g u) (hb : Below w.heap.size w w') : SumsU w' g u := h.imp (fun h => h.kept hb) (fun h => h.kept hb)
theorem SumsU.lt {w : World} {g : Nat} {u : Int} (h : SumsU w g u) : g < w.heap.size := by rcases h with h | h <;> exact h.lt

theorem once_any (g : Nat) (u : Int) (w : World) (h : SumsU w g u) :
    Calls Try.prog 88 #[.pointer (some ⟨g, 0, none⟩), .func (.func 89) #[.pointer (some ⟨g, 0, none⟩)] #[]] w fun e w' => e = .returned (.tuple #[]) ∧ SumsW w' g 1 0 u 256 256 ∧ w.grownBy w' (some g) := by
  rcases h with h | h
  · exact do_first g u w h
  · refine (do_done g _ w h.at.1).mono ?_
    rintro e w' ⟨rfl, rfl⟩
    exact ⟨rfl, h, gb_refl _ _⟩

set_option maxRecDepth 100000 in
set_option maxHeartbeats 4000000 in
theorem use_any (g : Nat) (u : Int) (w : World) (h : SumsU w g u) (hu0 : 0 ≤ u) (hu : u ≤ 1000000) :
    Calls Try.prog 65 #[.pointer (some ⟨g, 0, none⟩)] w fun e w' => e = .returned (.tuple #[]) ∧ SumsW w' g 1 0 (u + 1) 256 256 ∧ w.grownBy w' (some g) := by
  have HS := Lib.hid h
  clear h
  have hmf : ∀ (fn : Fn) (first cap : Array Value) (w : World), (Instr.makeFunc fn first cap).run Try.prog w = .ok (.func fn first cap) w := fun _ _ _ _ => rfl
  go_enter Try.func65, Try.ntmps65
  go_wp2_with fail
  refine (once_any g u _ HS.out).mono ?_
  rintro e w' ⟨rfl, hS, hG⟩
  have hadd := run_call_add (P := Try.prog) Try.func94 (by kernel_rfl) (by kernel_rfl) (by kernel_rfl) .i64 (by kernel_rfl) (y := 1) (s := u + 1) hS.at.2.2.1 (hS.free 515) (by simp [go_sem]; rw [IntKind.wrap_i64]; omega)
  have HS' := Lib.hid (hS.setU (by omega) (by omega) (u + 1))
  have HG' := Lib.hid (gb_set hG 515 (.int .i64 (u + 1)))
  clear hS hG
  go_wp2
  go_end0
  exact ⟨rfl, HS'.out, HG'.out⟩

theorem st7_table (s c : Nat) (hs : s < 128) (hc : c < 256) : T7 (2 * s ^^^ c) = Crc.st7 (2 * s) c / 2 := by
  unfold T7 Crc.st7
  rw [Nat.zero_xor]
theorem mul256_xor (a b : Nat) : 256 * (a ^^^ b) = (256 * a) ^^^ (256 * b) := by
  have := Nat.shiftLeft_xor_distrib (a := a) (b := b) (i := 8)
  simpa [Nat.shiftLeft_eq, Nat.mul_comm] using this
theorem split8 (s : Nat) : s = (256 * (s / 256)) ^^^ (s % 256) := by
  apply Nat.eq_of_testBit_eq
  intro i
  rw [Nat.testBit_xor, show (256 : Nat) = 2 ^ 8 by rfl, Nat.mul_comm, Nat.testBit_mul_two_pow, Nat.testBit_mod_two_pow, Nat.testBit_div_two_pow]
  by_cases h : i < 8
  · simp [h, show ¬ 8 ≤ i by omega]
  · simp [h, show 8 ≤ i by omega]
theorem st16_table (s c : Nat) (hs : s < 65536) (hc : c < 256) : (256 * s % 65536) ^^^ T16 (s / 256 ^^^ c) = Crc.st16 s c := by
  have e2 : s ^^^ 256 * c = (256 * (s / 256 ^^^ c)) ^^^ (s % 256) := by
    rw [mul256_xor]
    have e1 := split8 s
    generalize s / 256 = A at *
    generalize s % 256 = B at *
    rw [e1, Nat.xor_assoc, Nat.xor_comm B, ← Nat.xor_assoc]
  have e3 : Crc.rds 16 4129 8 (s % 256) = 2 ^ 8 * (s % 256) := Crc.rds_small 16 4129 8 (s % 256) (by omega)
  unfold T16 Crc.st16 Crc.r16
  rw [Nat.zero_xor, e2, Crc.rds_xor, e3, Nat.xor_comm]
  congr 1
  omega

set_option maxRecDepth 100000 in
set_option maxHeartbeats 4000000 in
theorem sseven_any (g : Nat) (u : Int) (a : Option Addr) (len cap : Nat) (l : List Nat) (w : World) (h : SumsU w g u) (hu0 : 0 ≤ u) (hu : u ≤ 1000000) (hi : Bytes w a len l) (hm : len ≤ 1000000) (ho : 0 < len → ∀ ad, a = some ad → ad.block ≠ g) :
    Calls Try.prog 31 #[.pointer (some ⟨g, 0, none⟩), .slice a len cap] w fun e w' => e = .returned (.int .u8 (Crc.sum7 l : Nat)) ∧ SumsU w' g (u + 1) ∧ w.grownBy w' (some g) := by
  have HS := Lib.hid h
  have HI := Lib.hid hi
  have HO := Lib.hid ho
  clear h hi ho
  go_enter Try.func31, Try.ntmps31
  go_wp2_with fail
  refine (use_any g u _ HS.out hu0 hu).mono ?_
  rintro e w1 ⟨rfl, hS, hG⟩
  have HS1 := Lib.hid hS
  have HG1 := Lib.hid hG
  have hi1 : Bytes w1 a len l := ⟨HI.out.1, HI.out.2.1, fun h0 => by
    obtain ⟨b, off, he, hlt, hc⟩ := HI.out.2.2 h0
    have hne := HO.out h0 _ he
    exact ⟨b, off, he, Nat.lt_of_lt_of_le hlt HG1.out.size, fun i hi => by
      rw [← hc i hi]
      exact World.cell?_of_block (HG1.out.block b hlt (by intro q; cases q; exact hne rfl))⟩⟩
  obtain ⟨hz, hcl, hc⟩ := hi1
  have HZ := Lib.hid hz
  have HT := Lib.hid HS1.out.at.2.2.2.1
  clear hS hG hz
  go_wp2_with fail
  go_loop [5, 12] (fun x i => ∃ k : Nat, k ≤ len ∧ i = .int .i64 k ∧ x = .int .u8 (half7 l k : Nat)) (fun _ i => len - (intOf i).toNat)
  case atStart => exact ⟨0, by omega, rfl, by simp [half7]⟩
  case round =>
    obtain ⟨k, hk, rfl, rfl⟩ := hrel
    by_cases hlt : k < len
    · obtain ⟨b, off, rfl, hbl, hcell⟩ := hc (by omega)
      have hcellk := hcell k hlt
      have hkl : k < l.length := by rw [HZ.out]; exact hlt
      have hb : ∀ c ∈ l.take k, c < 256 := fun c hc' => hcl c (List.mem_of_mem_take hc')
      have hf := Crc.fold7_lt (l.take k) 0 (by omega) hb
      have hev := fold7_even (l.take k) 0 (by omega)
      have h7 : half7 l k < 128 := by unfold half7; omega
      have HN : Hid (Crc.st7 (2 * half7 l k) (l.getD k 0) / 2 = half7 l (k + 1)) := by
        unfold Hid half7
        rw [take_snoc l k hkl, List.foldl_append, show 2 * ((l.take k).foldl Crc.st7 0 / 2) = (l.take k).foldl Crc.st7 0 by omega]; rfl
      obtain ⟨z, hz⟩ : ∃ z, z = l.getD k 0 := ⟨_, rfl⟩
      have hzl : z < 256 := by rw [hz]; exact hcl _ (by rw [List.getD, List.getElem?_eq_getElem hkl]; exact List.getElem_mem _)
      rw [← hz] at hcellk HN
      clear hz hcell hc hb hf hev
      have HX : bits .xor .u8 ((half7 l k : Int) * 2) (z : Int) = ((2 * half7 l k ^^^ z : Nat) : Int) := by
        rw [show (half7 l k : Int) * 2 = ((2 * half7 l k : Nat) : Int) by simp; omega, u8_xor_nat _ _ (by omega) hzl]
      obtain ⟨y, hy⟩ : ∃ y, y = 2 * half7 l k ^^^ z := ⟨_, rfl⟩
      have hyl : y < 256 := by rw [hy]; exact Nat.xor_lt_two_pow (n := 8) (by omega) hzl
      have hcy := HT.out y hyl
      rw [hy, st7_table _ _ h7 hzl, HN.out, ← hy] at hcy
      rw [← hy] at HX
      obtain ⟨s, hs⟩ : ∃ s, s = half7 l k := ⟨_, rfl⟩
      rw [← hs] at HX h7 ⊢
      clear hy HN hs
      have t1 : (y : Int) < 256 := by omega
      have t2 : (0 : Int) ≤ (y : Int) := by omega
      go_wp2_with fail
      go_round
      case rel => exact ⟨k + 1, by omega, by go_num, rfl⟩
      case measure => simp [intOf]; omega
    · obtain rfl : k = len := by omega
      have HA : Hid (half7 l k = Crc.sum7 l) := by unfold Hid half7 Crc.sum7; rw [List.take_of_length_le (by rw [HZ.out]; exact Nat.le_refl _)]
      go_wp2
      go_ret
      exact ⟨by rw [← HA.out]; rfl, .inr HS1.out, HG1.out⟩

set_option maxRecDepth 100000 in
set_option maxHeartbeats 4000000 in
theorem ssixteen_any (g : Nat) (u : Int) (a : Option Addr) (len cap : Nat) (l : List Nat) (w : World) (h : SumsU w g u) (hu0 : 0 ≤ u) (hu : u ≤ 1000000) (hi : Bytes w a len l) (hm : len ≤ 1000000) (ho : 0 < len → ∀ ad, a = some ad → ad.block ≠ g) :
    Calls Try.prog 32 #[.pointer (some ⟨g, 0, none⟩), .slice a len cap] w fun e w' => e = .returned (.int .u16 (Crc.sum16 l : Nat)) ∧ SumsU w' g (u + 1) ∧ w.grownBy w' (some g) := by
  have HS := Lib.hid h
  have HI := Lib.hid hi
  have HO := Lib.hid ho
  clear h hi ho
  go_enter Try.func32, Try.ntmps32
  go_wp2_with fail
  refine (use_any g u _ HS.out hu0 hu).mono ?_
  rintro e w1 ⟨rfl, hS, hG⟩
  have HS1 := Lib.hid hS
  have HG1 := Lib.hid hG
  have hi1 : Bytes w1 a len l := ⟨HI.out.1, HI.out.2.1, fun h0 => by
    obtain ⟨b, off, he, hlt, hc⟩ := HI.out.2.2 h0
    have hne := HO.out h0 _ he
    exact ⟨b, off, he, Nat.lt_of_lt_of_le hlt HG1.out.size, fun i hi => by
      rw [← hc i hi]
      exact World.cell?_of_block (HG1.out.block b hlt (by intro q; cases q; exact hne rfl))⟩⟩
  obtain ⟨hz, hcl, hc⟩ := hi1
  have HZ := Lib.hid hz
  have HT := Lib.hid HS1.out.at.2.2.2.2
  clear hS hG hz
  go_wp2_with fail
  go_loop [5, 12] (fun x i => ∃ k : Nat, k ≤ len ∧ i = .int .i64 k ∧ x = .int .u16 (part16 l k : Nat)) (fun _ i => len - (intOf i).toNat)
  case atStart => exact ⟨0, by omega, rfl, rfl⟩
  case round =>
    obtain ⟨k, hk, rfl, rfl⟩ := hrel
    by_cases hlt : k < len
    · obtain ⟨b, off, rfl, hbl, hcell⟩ := hc (by omega)
      have hcellk := hcell k hlt
      have hkl : k < l.length := by rw [HZ.out]; exact hlt
      have hb : ∀ c ∈ l.take k, c < 256 := fun c hc' => hcl c (List.mem_of_mem_take hc')
      have h7 : part16 l k < 65536 := Crc.fold16_lt (l.take k) 0 (by omega) hb
      have HN : Hid (Crc.st16 (part16 l k) (l.getD k 0) = part16 l (k + 1)) := by
        unfold Hid part16
        rw [take_snoc l k hkl, List.foldl_append]; rfl
      obtain ⟨z, hz⟩ : ∃ z, z = l.getD k 0 := ⟨_, rfl⟩
      have hzl : z < 256 := by rw [hz]; exact hcl _ (by rw [List.getD, List.getElem?_eq_getElem hkl]; exact List.getElem_mem _)
      rw [← hz] at hcellk HN
      clear hz hcell hc hb
      obtain ⟨s, hs⟩ : ∃ s, s = part16 l k := ⟨_, rfl⟩
      rw [← hs] at h7 HN ⊢
      obtain ⟨hh, hhe⟩ : ∃ hh, hh = s / 256 := ⟨_, rfl⟩
      have hhl : hh < 256 := by omega
      have hdiv : (s : Int) / 256 = (hh : Int) := by omega
      obtain ⟨A, hA⟩ : ∃ A, A = 256 * s % 65536 := ⟨_, rfl⟩
      have hmulA : IntKind.u16.wrap ((s : Int) * 256) = (A : Int) := by rw [IntKind.wrap_u16]; omega
      have HX : bits .xor .u8 (hh : Int) (z : Int) = ((hh ^^^ z : Nat) : Int) := u8_xor_nat _ _ hhl hzl
      obtain ⟨y, hy⟩ : ∃ y, y = hh ^^^ z := ⟨_, rfl⟩
      have hyl : y < 256 := by rw [hy]; exact Nat.xor_lt_two_pow (n := 8) hhl hzl
      have hcy := HT.out y hyl
      have hst := st16_table s z h7 hzl
      rw [← hhe, ← hA, ← hy, HN.out] at hst
      have HY : bits .xor .u16 (A : Int) ((T16 y : Nat) : Int) = ((part16 l (k + 1) : Nat) : Int) := by
        rw [u16_xor_nat _ _ (by omega) (T16_lt y hyl), hst]
      rw [← hy] at HX
      obtain ⟨Z, hZ⟩ : ∃ Z, Z = T16 y := ⟨_, rfl⟩
      rw [← hZ] at hcy HY
      clear hy HN hs hhe hA hst hZ
      have t1 : (y : Int) < 256 := by omega
      have t2 : (0 : Int) ≤ (y : Int) := by omega
      go_wp2_with fail
      go_round
      case rel => exact ⟨k + 1, by omega, by go_num, rfl⟩
      case measure => simp [intOf]; omega
    · obtain rfl : k = len := by omega
      have HA : Hid (part16 l k = Crc.sum16 l) := by unfold Hid part16 Crc.sum16; rw [List.take_of_length_le (by rw [HZ.out]; exact Nat.le_refl _)]
      go_wp2
      go_ret
      exact ⟨by rw [← HA.out]; rfl, .inr HS1.out, HG1.out⟩

theorem uses_any (g : Nat) (u : Int) (w : World) (h : SumsU w g u) :
    Calls Try.prog 33 #[.pointer (some ⟨g, 0, none⟩)] w fun e w' => e = .returned (.int .i64 u) ∧ w' = w := by
  have hc : w.cell? ⟨g, 515, none⟩ = some (.int .i64 u) := by rcases h with h | h <;> exact h.at.2.2.1
  have hl := run_call_load (P := Try.prog) Try.func90 (by kernel_rfl) (by kernel_rfl) (by kernel_rfl) .i64 (by kernel_rfl) hc
  clear h
  go_enter Try.func33, Try.ntmps33
  go_wp2
  go_ret
  exact ⟨rfl, rfl⟩

end Go.Proofs.Ytogpdmpefdafnaa
