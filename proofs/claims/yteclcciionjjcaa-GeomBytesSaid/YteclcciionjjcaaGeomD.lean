/- geom.Fits. -/
import Derived.Test.YteclcciionjjcaaGeomC
namespace Go.Proofs.Yteclcciionjjcaa
open Go.RowKit
set_option linter.unusedVariables false

theorem HasB.nine {w : World} {g : Nat} {a0 a1 a2 a3 a4 a5 a6 a7 a8 : Value} {T : TypeId} (h : HasB w g #[a0, a1, a2, a3, a4, a5, a6, a7, a8] T) :
    g < w.heap.size ∧ w.cell? ⟨g, 0, none⟩ = some a0 ∧ w.cell? ⟨g, 1, none⟩ = some a1 ∧ w.cell? ⟨g, 2, none⟩ = some a2 ∧ w.cell? ⟨g, 3, none⟩ = some a3 ∧ w.cell? ⟨g, 4, none⟩ = some a4 ∧ w.cell? ⟨g, 5, none⟩ = some a5 ∧ w.cell? ⟨g, 6, none⟩ = some a6 ∧ w.cell? ⟨g, 7, none⟩ = some a7 ∧ w.cell? ⟨g, 8, none⟩ = some a8 :=
  ⟨h.lt, h.at 0, h.at 1, h.at 2, h.at 3, h.at 4, h.at 5, h.at 6, h.at 7, h.at 8⟩
theorem HasB.four {w : World} {g : Nat} {a0 a1 a2 a3 : Value} {T : TypeId} (h : HasB w g #[a0, a1, a2, a3] T) :
    g < w.heap.size ∧ w.cell? ⟨g, 0, none⟩ = some a0 ∧ w.cell? ⟨g, 1, none⟩ = some a1 ∧ w.cell? ⟨g, 2, none⟩ = some a2 ∧ w.cell? ⟨g, 3, none⟩ = some a3 :=
  ⟨h.lt, h.at 0, h.at 1, h.at 2, h.at 3⟩

theorem sizesV_at (c : Cfg) (a b d e : Int) (k : Nat) (h : k < 8) : ∃ z : Int, (sizesV c a b d e)[k]? = some (.int .i64 z) := by
  match k, h with
  | 0, _ => exact ⟨_, rfl⟩
  | 1, _ => exact ⟨_, rfl⟩
  | 2, _ => exact ⟨_, rfl⟩
  | 3, _ => exact ⟨_, rfl⟩
  | 4, _ => exact ⟨_, rfl⟩
  | 5, _ => exact ⟨_, rfl⟩
  | 6, _ => exact ⟨_, rfl⟩
  | 7, _ => exact ⟨_, rfl⟩

theorem sizesV_bd (c : Cfg) (a b d e : Int) (hok : OkC c) (ha : 0 ≤ a ∧ a ≤ 32) (hb : 0 ≤ b ∧ b ≤ 32) (hd : 0 ≤ d ∧ d ≤ 32) (he : 0 ≤ e ∧ e ≤ 32) (k : Nat) (h : k < 8) (z : Int) (hz : (sizesV c a b d e)[k]? = some (.int .i64 z)) : -4194304 ≤ z ∧ z ≤ 4194304 := by
  obtain ⟨c1, c2, c3, c4, c5, c6, c7, c8, c9, c10, c11, c12, c13, c14, c15, c16, c17, c18, c19, c20, c21, c22⟩ := hok
  obtain ⟨m1, m2⟩ := mul_in ha.1 ha.2 c15 (by omega)
  obtain ⟨m3, m4⟩ := mul_in hb.1 hb.2 c15 (by omega)
  obtain ⟨m5, m6⟩ := mul_in hd.1 hd.2 c15 (by omega)
  obtain ⟨m7, m8⟩ := mul_in he.1 he.2 c15 (by omega)
  match k, h with
  | 0, _ => simp [sizesV] at hz; omega
  | 1, _ => simp [sizesV] at hz; omega
  | 2, _ => simp [sizesV] at hz; omega
  | 3, _ => simp [sizesV] at hz; omega
  | 4, _ => simp [sizesV] at hz; omega
  | 5, _ => simp [sizesV] at hz; omega
  | 6, _ => simp [sizesV] at hz; omega
  | 7, _ => simp [sizesV] at hz; omega

/-- Sizes of the general areas that leave the user's one a group at least. -/
def SizesOk (c : Cfg) (a b d e : Int) : Prop := 0 ≤ a ∧ 0 ≤ b ∧ 0 ≤ d ∧ 0 ≤ e ∧ a + b + d + e < c.user / c.group

def FitsAt (c : Cfg) (a b d e : Int) (x : Ending) : Prop := ∃ r : Bool, x = .returned (.bool r) ∧ (r = true → checkOf c = 0 ∧ SizesOk c a b d e)

theorem checkOf_two (c : Cfg) : checkOf c = 0 ∨ checkOf c = 1 := by
  unfold checkOf
  split
  · exact .inl rfl
  · exact .inr rfl

end Go.Proofs.Yteclcciionjjcaa
