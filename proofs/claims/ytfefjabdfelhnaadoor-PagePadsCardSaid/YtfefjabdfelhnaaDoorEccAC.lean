/- ecc: the law's flip. -/
import Derived.Test.YtfefjabdfelhnaaDoorEccAA
import Derived.Test.YtfefjabdfelhnaaDoorEccAB
namespace Go.Proofs.YtfefjabdfelhnaaDoor
open Go Go.RowKit
set_option linter.unusedVariables false

/-- Two rows of bytes that the call has made. -/
def Two (B : Nat) (w : World) (gx n capx : Nat) (x : List Nat) (gc m capc : Nat) (c : List Nat) : Prop :=
  w.ownsRow B 5 1 (.slice (some ⟨gx, 0, none⟩) n capx) n (u8s x) ∧ w.ownsRow B 5 1 (.slice (some ⟨gc, 0, none⟩) m capc) m (u8s c) ∧ gx ≠ gc

theorem own_at {w : World} {B : Nat} {e : TypeId} {g n cap : Nat} {l : List Nat} (h : w.ownsRow B e 1 (.slice (some ⟨g, 0, none⟩) n cap) n (u8s l)) (p : Nat) (hp : p < n) : w.cell? ⟨g, p, none⟩ = some (.int .u8 ((l.getD p 0 : Nat) : Int)) := by
  have hn : l.length = n := by simpa [u8s] using h.1
  have hpl : p < l.length := by omega
  rw [h.cellAt p (by omega)]
  simp [u8s, List.getD, hpl]

set_option maxRecDepth 100000 in
theorem flip_two {B : Nat} {w : World} {gx n capx gc m capc : Nat} {x c : List Nat} (M i k : Nat) (h : Two B w gx n capx x gc m capc c) (hx : ∀ v ∈ x, v < 256) (hc : ∀ v ∈ c, v < 256) (hn : n = 8 * M) (hm : m = M) (hi : i < M) (hM : M ≤ 1000000) (hk : k < 72) (hcn : n ≤ capx) (hcm : m ≤ capc) (hB : B ≤ w.heap.size) :
    Calls Tryd.prog 14 #[.slice (some ⟨gx, 0, none⟩) n capx, .slice (some ⟨gc, 0, none⟩) m capc, .int .i64 (i : Int), .int .i64 (k : Int)] w fun e w' => e = .returned (.tuple #[]) ∧ Two B w' gx n capx (flipX x i k) gc m capc (flipC c i k) ∧ Below B w w' := by
  obtain ⟨h1, h2, h3⟩ := h
  by_cases h6 : k < 64
  · obtain ⟨q, hq⟩ : ∃ q, q = k / 8 := ⟨_, rfl⟩
    obtain ⟨r, hr⟩ : ∃ r, r = k % 8 := ⟨_, rfl⟩
    obtain ⟨Q, hQ⟩ : ∃ Q, Q = 8 * i + q := ⟨_, rfl⟩
    have hcell := own_at h1 Q (by omega)
    have hfr := h1.frozenAt Q
    obtain ⟨V, hV⟩ : ∃ V, V = x.getD Q 0 := ⟨_, rfl⟩
    have hV8 : V < 256 := by rw [hV]; exact getD_byte hx Q
    have hp : 2 ^ r < 256 := Nat.pow_lt_pow_right (show 1 < 2 by omega) (show r < 8 by omega)
    have hX : bits .xor .u8 (V : Int) ((2 ^ r : Nat) : Int) = ((V ^^^ 2 ^ r : Nat) : Int) := u8_xor_nat _ _ hV8 hp
    obtain ⟨Y, hY⟩ : ∃ Y, Y = V ^^^ 2 ^ r := ⟨_, rfl⟩
    obtain ⟨R, hR⟩ : ∃ R, R = 2 ^ r := ⟨_, rfl⟩
    have hR2 : (2 : Int) ^ r % 256 = (R : Int) := by
      rw [show (2 : Int) ^ r = ((2 ^ r : Nat) : Int) by simp, ← hR]; rw [← hR] at hp; omega
    rw [← hY, ← hR] at hX
    rw [← hV] at hcell
    have hst := h1.stored Q (.int .u8 (Y : Int))
    rw [u8s_set] at hst
    have hfin : Two B (w.setCell ⟨gx, Q, none⟩ (.int .u8 (Y : Int))) gx n capx (flipX x i k) gc m capc (flipC c i k) ∧ Below B w (w.setCell ⟨gx, Q, none⟩ (.int .u8 (Y : Int))) := by
      rw [show flipC c i k = c by unfold flipC; rw [if_pos h6]]
      refine ⟨⟨?_, h2.kept hst.2 (.inr (by simp [Value.ownBlock]; exact fun h => h3 h.symm)), h3⟩, (Below.refl _ _).setCell (by have := h1.lt gx rfl; exact this.1) _⟩
      have e1 : flipX x i k = x.set Q Y := by unfold flipX; rw [if_pos h6, hY, hV, hQ, hq, hr]
      rw [e1]
      exact hst.1
    have HFin : Hid (Two B (w.setCell ⟨gx, Q, none⟩ (.int .u8 (Y : Int))) gx n capx (flipX x i k) gc m capc (flipC c i k) ∧ Below B w (w.setCell ⟨gx, Q, none⟩ (.int .u8 (Y : Int)))) := Lib.hid hfin
    have t1 : (k : Int) / 8 = (q : Int) := by omega
    have t2 : (k : Int) % 8 = (r : Int) := by omega
    have t3 : (8 : Int) * (i : Int) + (q : Int) = (Q : Int) := by omega
    have t4 : (Q : Int) < (n : Int) := by omega
    have t5 : (0 : Int) ≤ (Q : Int) := by omega
    have t6 : (Q : Int) ≤ 10000000 := by omega
    have t7 : r < 8 := by omega
    have t8 : (k : Int) < 64 := by omega
    have t9 : Q < n := by omega
    clear hfin hst hV hY hR hQ hq hr hp h1 h2 hn hm
    go_enter Tryd.func14, Tryd.ntmps14
    go_wp2
    go_end0
    exact ⟨rfl, HFin.out⟩
  · obtain ⟨r, rfl⟩ : ∃ r, k = r + 64 := ⟨k - 64, by omega⟩
    have hcell := own_at h2 i (by omega)
    have hfr := h2.frozenAt i
    obtain ⟨V, hV⟩ : ∃ V, V = c.getD i 0 := ⟨_, rfl⟩
    have hV8 : V < 256 := by rw [hV]; exact getD_byte hc i
    have hp : 2 ^ r < 256 := Nat.pow_lt_pow_right (show 1 < 2 by omega) (show r < 8 by omega)
    have hX : bits .xor .u8 (V : Int) ((2 ^ r : Nat) : Int) = ((V ^^^ 2 ^ r : Nat) : Int) := u8_xor_nat _ _ hV8 hp
    obtain ⟨Y, hY⟩ : ∃ Y, Y = V ^^^ 2 ^ r := ⟨_, rfl⟩
    obtain ⟨R, hR⟩ : ∃ R, R = 2 ^ r := ⟨_, rfl⟩
    have hR2 : (2 : Int) ^ r % 256 = (R : Int) := by
      rw [show (2 : Int) ^ r = ((2 ^ r : Nat) : Int) by simp, ← hR]; rw [← hR] at hp; omega
    rw [← hY, ← hR] at hX
    rw [← hV] at hcell
    have hst := h2.stored i (.int .u8 (Y : Int))
    rw [u8s_set] at hst
    have hfin : Two B (w.setCell ⟨gc, i, none⟩ (.int .u8 (Y : Int))) gx n capx (flipX x i (r + 64)) gc m capc (flipC c i (r + 64)) ∧ Below B w (w.setCell ⟨gc, i, none⟩ (.int .u8 (Y : Int))) := by
      refine ⟨⟨?_, ?_, h3⟩, (Below.refl _ _).setCell (by have := h2.lt gc rfl; exact this.1) _⟩
      · have e1 : flipX x i (r + 64) = x := by unfold flipX; rw [if_neg h6]
        rw [e1]
        exact h1.kept hst.2 (.inr (by simp [Value.ownBlock]; exact h3))
      · have e1 : flipC c i (r + 64) = c.set i Y := by unfold flipC; rw [if_neg h6, hY, hV, Nat.add_sub_cancel]
        rw [e1]
        exact hst.1
    have HFin : Hid (Two B (w.setCell ⟨gc, i, none⟩ (.int .u8 (Y : Int))) gx n capx (flipX x i (r + 64)) gc m capc (flipC c i (r + 64)) ∧ Below B w (w.setCell ⟨gc, i, none⟩ (.int .u8 (Y : Int)))) := Lib.hid hfin
    have t4 : (i : Int) < (m : Int) := by omega
    have t7 : r < 8 := by omega
    have t8 : ¬ ((r : Int) + 64 < 64) := by omega
    clear hfin hst hV hY hR hp h1 h2 hn hm
    go_enter Tryd.func14, Tryd.ntmps14
    go_wp2
    go_end0
    exact ⟨rfl, HFin.out⟩

end Go.Proofs.YtfefjabdfelhnaaDoor
