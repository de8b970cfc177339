/- areas: reckon. -/
import Derived.Test.YtdbnadhmkfhdkaaAreasB
import Derived.Test.YtdbnadhmkfhdkaaOnceB
namespace Go.Proofs.Ytdbnadhmkfhdkaa
open Go Go.RowKit
set_option linter.unusedVariables false

theorem TabW.szAt {w : World} {g : Nat} {c : Cfg} {s n : Stg} {od om : Int} {sz fi : List Value} (h : TabW w g c s n od om sz fi) (k : Nat) (hk : k < 8) : w.cell? ⟨g, 24 + k, none⟩ = sz[k]? := by
  have := h.1.at (24 + k)
  rw [this]
  simp only [List.getElem?_toArray, tabL]
  rw [List.getElem?_append_right (by show 24 ≤ 24 + k; omega), show 24 + k - (preL c s n od om).length = k from by show 24 + k - 24 = k; omega, List.getElem?_append_left (by rw [h.2.1]; exact hk)]
theorem TabW.fiAt {w : World} {g : Nat} {c : Cfg} {s n : Stg} {od om : Int} {sz fi : List Value} (h : TabW w g c s n od om sz fi) (k : Nat) (hk : k < 8) : w.cell? ⟨g, 32 + k, none⟩ = fi[k]? := by
  have := h.1.at (32 + k)
  rw [this]
  simp only [List.getElem?_toArray, tabL]
  rw [List.getElem?_append_right (by show 24 ≤ 32 + k; omega), show 32 + k - (preL c s n od om).length = 8 + k from by show 32 + k - 24 = 8 + k; omega, List.getElem?_append_right (by rw [h.2.1]; omega), h.2.1, show 8 + k - 8 = k by omega]
theorem TabW.setFi {w : World} {g : Nat} {c : Cfg} {s n : Stg} {od om : Int} {sz fi : List Value} (h : TabW w g c s n od om sz fi) (k : Nat) (v : Value) : TabW (w.setCell ⟨g, 32 + k, none⟩ v) g c s n od om sz (fi.set k v) := by
  refine ⟨?_, h.2.1, by rw [List.length_set]; exact h.2.2⟩
  have q := h.1.set (32 + k) v
  have e : (tabL c s n od om sz fi).toArray.setIfInBounds (32 + k) v = (tabL c s n od om sz (fi.set k v)).toArray := by
    rw [List.setIfInBounds_toArray]
    unfold tabL
    rw [List.set_append_right _ _ (by show 24 ≤ 32 + k; omega), show 32 + k - (preL c s n od om).length = 8 + k from by show 32 + k - 24 = 8 + k; omega, List.set_append_right _ _ (by rw [h.2.1]; omega), h.2.1, show 8 + k - 8 = k by omega]
  rw [e] at q
  exact q
theorem TabW.setSz {w : World} {g : Nat} {c : Cfg} {s n : Stg} {od om : Int} {sz fi : List Value} (h : TabW w g c s n od om sz fi) (k : Nat) (hk : k < 8) (v : Value) : TabW (w.setCell ⟨g, 24 + k, none⟩ v) g c s n od om (sz.set k v) fi := by
  refine ⟨?_, by rw [List.length_set]; exact h.2.1, h.2.2⟩
  have q := h.1.set (24 + k) v
  have e : (tabL c s n od om sz fi).toArray.setIfInBounds (24 + k) v = (tabL c s n od om (sz.set k v) fi).toArray := by
    rw [List.setIfInBounds_toArray]
    unfold tabL
    rw [List.set_append_right _ _ (by show 24 ≤ 24 + k; omega), show 24 + k - (preL c s n od om).length = k from by show 24 + k - 24 = k; omega, List.set_append_left _ _ (by rw [h.2.1]; omega)]
  rw [e] at q
  exact q
theorem TabW.setOd {w : World} {g : Nat} {c : Cfg} {s n : Stg} {od om : Int} {sz fi : List Value} (h : TabW w g c s n od om sz fi) (z : Int) : TabW (w.setCell ⟨g, 21, none⟩ (.int .u32 z)) g c s n z om sz fi := by
  refine ⟨?_, h.2.1, h.2.2⟩
  have q := h.1.set 21 (.int .u32 z)
  have e : (tabL c s n od om sz fi).toArray.setIfInBounds 21 (.int .u32 z) = (tabL c s n z om sz fi).toArray := by simp [tabL, preL, Cfg.cells, Stg.cells]
  rw [e] at q
  exact q
theorem TabW.setOm {w : World} {g : Nat} {c : Cfg} {s n : Stg} {od om : Int} {sz fi : List Value} (h : TabW w g c s n od om sz fi) (z : Int) : TabW (w.setCell ⟨g, 22, none⟩ (.int .i32 z)) g c s n od z sz fi := by
  refine ⟨?_, h.2.1, h.2.2⟩
  have q := h.1.set 22 (.int .i32 z)
  have e : (tabL c s n od om sz fi).toArray.setIfInBounds 22 (.int .i32 z) = (tabL c s n od z sz fi).toArray := by simp [tabL, preL, Cfg.cells, Stg.cells]
  rw [e] at q
  exact q
theorem TabW.oCells {w : World} {g : Nat} {c : Cfg} {s n : Stg} {od om : Int} {sz fi : List Value} (h : TabW w g c s n od om sz fi) : w.cell? ⟨g, 21, none⟩ = some (.int .u32 od) ∧ w.cell? ⟨g, 22, none⟩ = some (.int .i32 om) := ⟨h.1.at 21, h.1.at 22⟩

def ordN (k : Nat) : Nat := [0, 4, 5, 6, 7, 1, 2, 3].getD k 0
theorem ordN_lt (k : Nat) (h : k < 8) : ordN k < 8 := by
  match k, h with
  | 0, _ => decide
  | 1, _ => decide
  | 2, _ => decide
  | 3, _ => decide
  | 4, _ => decide
  | 5, _ => decide
  | 6, _ => decide
  | 7, _ => decide
def szV (c : Cfg) (n : Stg) : Array Value := sizesV c n.a n.b n.d n.e
def szI (c : Cfg) (n : Stg) (q : Nat) : Int := valI (szV c n)[q]?
def preA (c : Cfg) (n : Stg) : Nat → Int
  | 0 => 0
  | k + 1 => preA c n k + szI c n (ordN k)
def fiTo (c : Cfg) (n : Stg) : Nat → List Value
  | 0 => zero8
  | k + 1 => (fiTo c n k).set (ordN k) (.int .i64 (preA c n k))
theorem fiTo_len (c : Cfg) (n : Stg) : ∀ k, (fiTo c n k).length = 8
  | 0 => rfl
  | k + 1 => by rw [fiTo, List.length_set]; exact fiTo_len c n k
theorem sz_at (c : Cfg) (n : Stg) (q : Nat) (h : q < 8) : (szV c n).toList[q]? = some (.int .i64 (szI c n q)) := by
  obtain ⟨z, hz⟩ := sizesV_at c n.a n.b n.d n.e q h
  have e : szI c n q = z := by unfold szI szV; rw [hz]; rfl
  rw [e]
  unfold szV
  simpa using hz
/-- Sizes that can be in force. -/
def Few (n : Stg) : Prop := (0 ≤ n.a ∧ n.a ≤ 32) ∧ (0 ≤ n.b ∧ n.b ≤ 32) ∧ (0 ≤ n.d ∧ n.d ≤ 32) ∧ (0 ≤ n.e ∧ n.e ≤ 32)
theorem few_of {c : Cfg} {n : Stg} (hok : OkC c) (h : NowOk c n) : Few n := by
  cases hd : n.dn with
  | true =>
    obtain ⟨h1, h2, h3, h4, h5⟩ := h.1 hd
    have := hok.2.2.2.2.2.2.2.2.2.2.2.2.2.2.2.2.2.1
    unfold Few; omega
  | false =>
    rw [h.2 hd]
    unfold Few Stg.zero; decide
theorem szI_bd {c : Cfg} {n : Stg} (hok : OkC c) (h : Few n) (q : Nat) (hq : q < 8) : -4194304 ≤ szI c n q ∧ szI c n q ≤ 4194304 := by
  obtain ⟨z, hz⟩ := sizesV_at c n.a n.b n.d n.e q hq
  have := sizesV_bd c n.a n.b n.d n.e hok h.1 h.2.1 h.2.2.1 h.2.2.2 q hq z hz
  unfold szI szV
  rw [hz]
  exact this
theorem preA_bd {c : Cfg} {n : Stg} (hok : OkC c) (h : Few n) : ∀ k : Nat, k ≤ 8 → -(4194304 * (k : Int)) ≤ preA c n k ∧ preA c n k ≤ 4194304 * (k : Int)
  | 0, _ => by simp [preA]
  | k + 1, hk => by
    have h1 := preA_bd hok h k (by omega)
    have h2 := szI_bd hok h (ordN k) (ordN_lt k (by omega))
    rw [preA]
    omega

set_option maxRecDepth 100000 in
set_option maxHeartbeats 1000000 in
theorem order_any (w : World) : Calls Try.prog 47 #[] w fun e w' => e = .returned (.agg #[.int .i64 0, .int .i64 4, .int .i64 5, .int .i64 6, .int .i64 7, .int .i64 1, .int .i64 2, .int .i64 3]) ∧ Below w.heap.size w w' := by
  have HB : Hid (∀ A, Below w.heap.size w (w.alloc A)) := Lib.hid (fun A => (Below.refl _ _).alloc (Nat.le_refl _) A)
  go_enter Try.func47, Try.ntmps47
  go_wp2_with fail
  exact bodyPost_ret (results_cell_row (p := 0) (by kernel_rfl) _ _ w.heap.size 98 #[.int .i64 0, .int .i64 4, .int .i64 5, .int .i64 6, .int .i64 7, .int .i64 1, .int .i64 2, .int .i64 3] (0, 0) _ rfl (heap_alloc_new w _) Try.underlying98 rfl (by kernel_rfl)) rfl ⟨rfl, HB.out _⟩

/-- The table while it is reckoned. -/
def FillS (w : World) (g bx : Nat) (c : Cfg) (s n : Stg) (w' : World) : Prop := ∃ sz fi, TabW w' g c s n 0 1 sz fi ∧ w'.cell? ⟨bx, 0, none⟩ = some (.pointer (some ⟨g, 0, none⟩)) ∧ w.grownBy w' (some g)
def FillT (w : World) (g bx : Nat) (c : Cfg) (s n : Stg) (z0 z1 z2 z3 z4 z5 z6 z7 : Int) (w' : World) : Prop := TabW w' g c s n 0 1 [.int .i64 z0, .int .i64 z1, .int .i64 z2, .int .i64 z3, .int .i64 z4, .int .i64 z5, .int .i64 z6, .int .i64 z7] zero8 ∧ w'.cell? ⟨bx, 0, none⟩ = some (.pointer (some ⟨g, 0, none⟩)) ∧ w.grownBy w' (some g)
theorem FillT.s {w : World} {g bx : Nat} {c : Cfg} {s n : Stg} {z0 z1 z2 z3 z4 z5 z6 z7 : Int} {w' : World} (h : FillT w g bx c s n z0 z1 z2 z3 z4 z5 z6 z7 w') : FillS w g bx c s n w' := ⟨_, _, h⟩
theorem cell_far {w : World} {bx g i : Nat} {v x : Value} (h : w.cell? ⟨bx, 0, none⟩ = some v) (hne : bx ≠ g) : (w.setCell ⟨g, i, none⟩ x).cell? ⟨bx, 0, none⟩ = some v := by
  rw [World.cell?_setCell_other (h := by intro e; apply hne; cases e; rfl)]
  exact h
theorem fillT_put {w wm : World} {g bx : Nat} {c : Cfg} {s n : Stg} (hT : TabW wm g c s n 0 1 zero8 zero8) (hb : wm.cell? ⟨bx, 0, none⟩ = some (.pointer (some ⟨g, 0, none⟩))) (hne : bx ≠ g) (hG : w.grownBy wm (some g)) (z0 z1 z2 z3 z4 z5 z6 z7 : Int) :
    FillT w g bx c s n z0 z1 z2 z3 z4 z5 z6 z7 (((((((((wm.setCell ⟨g, 24, none⟩ (.int .i64 z0)).setCell ⟨g, 25, none⟩ (.int .i64 z1)).setCell ⟨g, 26, none⟩ (.int .i64 z2)).setCell ⟨g, 27, none⟩ (.int .i64 z3)).setCell ⟨g, 28, none⟩ (.int .i64 z4)).setCell ⟨g, 29, none⟩ (.int .i64 z5)).setCell ⟨g, 30, none⟩ (.int .i64 z6)).setCell ⟨g, 31, none⟩ (.int .i64 z7))) := by
  refine ⟨?_, ?_, ?_⟩
  · exact (((((((hT.setSz 0 (by decide) (.int .i64 z0)).setSz 1 (by decide) (.int .i64 z1)).setSz 2 (by decide) (.int .i64 z2)).setSz 3 (by decide) (.int .i64 z3)).setSz 4 (by decide) (.int .i64 z4)).setSz 5 (by decide) (.int .i64 z5)).setSz 6 (by decide) (.int .i64 z6)).setSz 7 (by decide) (.int .i64 z7)
  · exact cell_far (cell_far (cell_far (cell_far (cell_far (cell_far (cell_far (cell_far hb hne) hne) hne) hne) hne) hne) hne) hne
  · exact gb_set (gb_set (gb_set (gb_set (gb_set (gb_set (gb_set (gb_set hG 24 _) 25 _) 26 _) 27 _) 28 _) 29 _) 30 _) 31 _

set_option maxRecDepth 100000 in
set_option maxHeartbeats 2000000 in
theorem fill_any (g bx : Nat) (c : Cfg) (s n : Stg) (w : World) (h : TabW w g c s n 0 1 zero8 zero8) (hbx : w.cell? ⟨bx, 0, none⟩ = some (.pointer (some ⟨g, 0, none⟩))) (hne : bx ≠ g) (hok : OkC c) (hf : Few n) :
    Calls Try.prog 62 #[.pointer (some ⟨bx, 0, none⟩)] w fun e w' => e = .returned (.tuple #[]) ∧ TabW w' g c s n 0 1 (szV c n).toList (fiTo c n 8) ∧ w.grownBy w' (some g) := by
  have HT := Lib.hid h
  have HBx := Lib.hid hbx
  have hbxl := block_lt_of_cell hbx
  obtain ⟨c0, c1, c2, c3, c4, c5, c6, c7, c8⟩ := h.cCells
  obtain ⟨n0, n1, n2, n3, _, _⟩ := h.nCells
  clear h
  go_enter Try.func62, Try.ntmps62
  go_wp2_with fail
  obtain ⟨z0, z1, z2, z3, z4, z5, z6, z7, hz⟩ : ∃ z0 z1 z2 z3 z4 z5 z6 z7 : Int, sizesV c n.a n.b n.d n.e = #[.int .i64 z0, .int .i64 z1, .int .i64 z2, .int .i64 z3, .int .i64 z4, .int .i64 z5, .int .i64 z6, .int .i64 z7] := ⟨_, _, _, _, _, _, _, _, rfl⟩
  have HZ := Lib.hid hz
  have HSzL : Hid ((szV c n).toList = [.int .i64 z0, .int .i64 z1, .int .i64 z2, .int .i64 z3, .int .i64 z4, .int .i64 z5, .int .i64 z6, .int .i64 z7]) := Lib.hid (by unfold szV; rw [hz])
  clear hz
  have hS0 : FillS w g bx c s n w.drew := ⟨_, _, HT.out.drew, HBx.out, gb_drew (gb_refl w (some g))⟩
  have k0 : ∀ w', FillS w g bx c s n w' → w'.cell? ⟨g, 0, none⟩ = some (.int .i64 c.blocks) := fun w' ⟨_, _, h, _⟩ => h.cCells.1
  have k1 : ∀ w', FillS w g bx c s n w' → w'.cell? ⟨g, 1, none⟩ = some (.int .i64 c.pages) := fun w' ⟨_, _, h, _⟩ => h.cCells.2.1
  have k2 : ∀ w', FillS w g bx c s n w' → w'.cell? ⟨g, 2, none⟩ = some (.int .i64 c.sector) := fun w' ⟨_, _, h, _⟩ => h.cCells.2.2.1
  have k3 : ∀ w', FillS w g bx c s n w' → w'.cell? ⟨g, 3, none⟩ = some (.int .i64 c.user) := fun w' ⟨_, _, h, _⟩ => h.cCells.2.2.2.1
  have k4 : ∀ w', FillS w g bx c s n w' → w'.cell? ⟨g, 4, none⟩ = some (.int .i64 c.boot) := fun w' ⟨_, _, h, _⟩ => h.cCells.2.2.2.2.1
  have k5 : ∀ w', FillS w g bx c s n w' → w'.cell? ⟨g, 5, none⟩ = some (.int .i64 c.rpa) := fun w' ⟨_, _, h, _⟩ => h.cCells.2.2.2.2.2.1
  have k6 : ∀ w', FillS w g bx c s n w' → w'.cell? ⟨g, 6, none⟩ = some (.int .i64 c.group) := fun w' ⟨_, _, h, _⟩ => h.cCells.2.2.2.2.2.2.1
  have k7 : ∀ w', FillS w g bx c s n w' → w'.cell? ⟨g, 7, none⟩ = some (.int .i64 c.cache) := fun w' ⟨_, _, h, _⟩ => h.cCells.2.2.2.2.2.2.2.1
  have k8 : ∀ w', FillS w g bx c s n w' → w'.cell? ⟨g, 8, none⟩ = some (.int .i64 c.spare) := fun w' ⟨_, _, h, _⟩ => h.cCells.2.2.2.2.2.2.2.2
  have m0 : ∀ w', FillS w g bx c s n w' → w'.cell? ⟨g, 15, none⟩ = some (.int .i64 n.a) := fun w' ⟨_, _, h, _⟩ => h.nCells.1
  have m1 : ∀ w', FillS w g bx c s n w' → w'.cell? ⟨g, 16, none⟩ = some (.int .i64 n.b) := fun w' ⟨_, _, h, _⟩ => h.nCells.2.1
  have m2 : ∀ w', FillS w g bx c s n w' → w'.cell? ⟨g, 17, none⟩ = some (.int .i64 n.d) := fun w' ⟨_, _, h, _⟩ => h.nCells.2.2.1
  have m3 : ∀ w', FillS w g bx c s n w' → w'.cell? ⟨g, 18, none⟩ = some (.int .i64 n.e) := fun w' ⟨_, _, h, _⟩ => h.nCells.2.2.2.1
  have kb : ∀ w', FillS w g bx c s n w' → w'.cell? ⟨bx, 0, none⟩ = some (.pointer (some ⟨g, 0, none⟩)) := fun w' ⟨_, _, _, h, _⟩ => h
  clear c0 c1 c2 c3 c4 c5 c6 c7 c8 n0 n1 n2 n3 hbx
  refine wp_region_held_drew (S := (FillS w g bx c s n)) (by kernel_rfl) (hS0) (fun hHeld => ?_)
  refine held_take 0 (v := ?_) rfl (by kernel_rfl) (by kernel_rfl) (by kernel_rfl) (fun _ _ _ h => h) (by rfl) (fun w hS => ?_) (by assumption) ?_
  rotate_left
  · try dsimp only at hS
    go_simp <;> with_reducible rfl
  try simp only [Act.put, List.setIfInBounds_toArray, List.set_cons_zero, List.set_cons_succ]
  refine held_take 1 (v := ?_) rfl (by kernel_rfl) (by kernel_rfl) (by kernel_rfl) (fun _ _ _ h => h) (by rfl) (fun w hS => ?_) (by assumption) ?_
  rotate_left
  · try dsimp only at hS
    go_simp <;> with_reducible rfl
  try simp only [Act.put, List.setIfInBounds_toArray, List.set_cons_zero, List.set_cons_succ]
  refine held_take 2 (v := ?_) rfl (by kernel_rfl) (by kernel_rfl) (by kernel_rfl) (fun _ _ _ h => h) (by rfl) (fun w hS => ?_) (by assumption) ?_
  rotate_left
  · try dsimp only at hS
    go_simp <;> with_reducible rfl
  try simp only [Act.put, List.setIfInBounds_toArray, List.set_cons_zero, List.set_cons_succ]
  refine held_take 3 (v := ?_) rfl (by kernel_rfl) (by kernel_rfl) (by kernel_rfl) (fun _ _ _ h => h) (by rfl) (fun w hS => ?_) (by assumption) ?_
  rotate_left
  · try dsimp only at hS
    go_simp <;> with_reducible rfl
  try simp only [Act.put, List.setIfInBounds_toArray, List.set_cons_zero, List.set_cons_succ]
  refine held_take 4 (v := ?_) rfl (by kernel_rfl) (by kernel_rfl) (by kernel_rfl) (fun _ _ _ h => h) (by rfl) (fun w hS => ?_) (by assumption) ?_
  rotate_left
  · try dsimp only at hS
    go_simp <;> with_reducible rfl
  try simp only [Act.put, List.setIfInBounds_toArray, List.set_cons_zero, List.set_cons_succ]
  refine held_take 5 (v := ?_) rfl (by kernel_rfl) (by kernel_rfl) (by kernel_rfl) (fun _ _ _ h => h) (by rfl) (fun w hS => ?_) (by assumption) ?_
  rotate_left
  · try dsimp only at hS
    go_simp <;> with_reducible rfl
  try simp only [Act.put, List.setIfInBounds_toArray, List.set_cons_zero, List.set_cons_succ]
  refine held_take 6 (v := ?_) rfl (by kernel_rfl) (by kernel_rfl) (by kernel_rfl) (fun _ _ _ h => h) (by rfl) (fun w hS => ?_) (by assumption) ?_
  rotate_left
  · try dsimp only at hS
    go_simp <;> with_reducible rfl
  try simp only [Act.put, List.setIfInBounds_toArray, List.set_cons_zero, List.set_cons_succ]
  refine held_take 7 (v := ?_) rfl (by kernel_rfl) (by kernel_rfl) (by kernel_rfl) (fun _ _ _ h => h) (by rfl) (fun w hS => ?_) (by assumption) ?_
  rotate_left
  · try dsimp only at hS
    go_simp <;> with_reducible rfl
  try simp only [Act.put, List.setIfInBounds_toArray, List.set_cons_zero, List.set_cons_succ]
  refine held_take 8 (v := ?_) rfl (by kernel_rfl) (by kernel_rfl) (by kernel_rfl) (fun _ _ _ h => h) (by rfl) (fun w hS => ?_) (by assumption) ?_
  rotate_left
  · try dsimp only at hS
    go_simp <;> with_reducible rfl
  try simp only [Act.put, List.setIfInBounds_toArray, List.set_cons_zero, List.set_cons_succ]
  refine held_take 9 (v := ?_) rfl (by kernel_rfl) (by kernel_rfl) (by kernel_rfl) (fun _ _ _ h => h) (by rfl) (fun w hS => ?_) (by assumption) ?_
  rotate_left
  · try dsimp only at hS
    go_simp <;> with_reducible rfl
  try simp only [Act.put, List.setIfInBounds_toArray, List.set_cons_zero, List.set_cons_succ]
  refine held_one 10 rfl (by kernel_rfl) (fun K hK => ?_)
  go_simp
  refine Calls.mono (sizes_any c n.a n.b n.d n.e _ hok hf.1 hf.2.1 hf.2.2.1 hf.2.2.2) ?_
  rintro e wm ⟨rfl, hbm⟩
  rw [HZ.out]
  have hTm : TabW wm g c s n 0 1 zero8 zero8 := (HT.out.drew).below hbm
  have hbxm : wm.cell? ⟨bx, 0, none⟩ = some (.pointer (some ⟨g, 0, none⟩)) := by rw [hbm.cell (p := ⟨bx, 0, none⟩) hbxl]; exact HBx.out
  have hGm : w.grownBy wm (some g) := gb_call (gb_drew (gb_refl w (some g))) hbm
  have hSm : FillS w g bx c s n wm := ⟨_, _, hTm, hbxm, hGm⟩
  have q24 : wm.cell? ⟨g, 24, none⟩ = some (.int .i64 0) := hTm.szAt 0 (by decide)
  have q25 : wm.cell? ⟨g, 25, none⟩ = some (.int .i64 0) := hTm.szAt 1 (by decide)
  have q26 : wm.cell? ⟨g, 26, none⟩ = some (.int .i64 0) := hTm.szAt 2 (by decide)
  have q27 : wm.cell? ⟨g, 27, none⟩ = some (.int .i64 0) := hTm.szAt 3 (by decide)
  have q28 : wm.cell? ⟨g, 28, none⟩ = some (.int .i64 0) := hTm.szAt 4 (by decide)
  have q29 : wm.cell? ⟨g, 29, none⟩ = some (.int .i64 0) := hTm.szAt 5 (by decide)
  have q30 : wm.cell? ⟨g, 30, none⟩ = some (.int .i64 0) := hTm.szAt 6 (by decide)
  have q31 : wm.cell? ⟨g, 31, none⟩ = some (.int .i64 0) := hTm.szAt 7 (by decide)
  have f24 := hTm.1.free 24
  have f25 := hTm.1.free 25
  have f26 := hTm.1.free 26
  have f27 := hTm.1.free 27
  have f28 := hTm.1.free 28
  have f29 := hTm.1.free 29
  have f30 := hTm.1.free 30
  have f31 := hTm.1.free 31
  have HTm := Lib.hid hTm
  have HGm := Lib.hid hGm
  have HBxm := Lib.hid hbxm
  have hSS : FillT w g bx c s n z0 z1 z2 z3 z4 z5 z6 z7 (((((((((wm.setCell ⟨g, 24, none⟩ (.int .i64 z0)).setCell ⟨g, 25, none⟩ (.int .i64 z1)).setCell ⟨g, 26, none⟩ (.int .i64 z2)).setCell ⟨g, 27, none⟩ (.int .i64 z3)).setCell ⟨g, 28, none⟩ (.int .i64 z4)).setCell ⟨g, 29, none⟩ (.int .i64 z5)).setCell ⟨g, 30, none⟩ (.int .i64 z6)).setCell ⟨g, 31, none⟩ (.int .i64 z7))) := fillT_put hTm hbxm hne hGm z0 z1 z2 z3 z4 z5 z6 z7
  clear hTm hGm hbxm hbm
  refine hK.out _ _ (FillS w g bx c s n) (fun _ h => h) hSm (fun hHeld => ?_)
  clear hK K
  try simp only [Act.put, List.setIfInBounds_toArray, List.set_cons_zero, List.set_cons_succ]
  refine held_take 11 (v := ?_) rfl (by kernel_rfl) (by kernel_rfl) (by kernel_rfl) (fun _ _ _ h => h) (by rfl) (fun w hS => ?_) (by assumption) ?_
  rotate_left
  · try dsimp only at hS
    go_simp <;> with_reducible rfl
  try simp only [Act.put, List.setIfInBounds_toArray, List.set_cons_zero, List.set_cons_succ]
  refine held_take 12 (v := ?_) rfl (by kernel_rfl) (by kernel_rfl) (by kernel_rfl) (fun _ _ _ h => h) (by rfl) (fun w hS => ?_) (by assumption) ?_
  rotate_left
  · try dsimp only at hS
    go_simp <;> with_reducible rfl
  try simp only [Act.put, List.setIfInBounds_toArray, List.set_cons_zero, List.set_cons_succ]
  refine held_one 13 rfl (by kernel_rfl) (fun K hK => ?_)
  go_simp
  refine hK.out _ _ (FillT w g bx c s n z0 z1 z2 z3 z4 z5 z6 z7) (fun _ h => h.s) hSS (fun hHeld => ?_)
  clear hK K
  try simp only [Act.put, List.setIfInBounds_toArray, List.set_cons_zero, List.set_cons_succ]
  refine held_done (by kernel_rfl) ?_
  have HS8 := Lib.hid hSS
  obtain ⟨w8, hw8⟩ : ∃ w8, ((((((((wm.setCell ⟨g, 24, none⟩ (.int .i64 z0)).setCell ⟨g, 25, none⟩ (.int .i64 z1)).setCell ⟨g, 26, none⟩ (.int .i64 z2)).setCell ⟨g, 27, none⟩ (.int .i64 z3)).setCell ⟨g, 28, none⟩ (.int .i64 z4)).setCell ⟨g, 29, none⟩ (.int .i64 z5)).setCell ⟨g, 30, none⟩ (.int .i64 z6)).setCell ⟨g, 31, none⟩ (.int .i64 z7)) = w8 := ⟨_, rfl⟩
  rw [hw8] at HS8 ⊢
  clear hSS hSm hS0 hw8 q24 q25 q26 q27 q28 q29 q30 q31 f24 f25 f26 f27 f28 f29 f30 f31 k0 k1 k2 k3 k4 k5 k6 k7 k8 m0 m1 m2 m3 kb HT HBx HTm HGm HBxm
  go_wp2_with fail
  refine (order_any w8).mono ?_
  rintro e w9 ⟨rfl, hb9⟩
  have hbx9 : w9.cell? ⟨bx, 0, none⟩ = some (.pointer (some ⟨g, 0, none⟩)) := by rw [hb9.cell (p := ⟨bx, 0, none⟩) (block_lt_of_cell HS8.out.2.1)]; exact HS8.out.2.1
  have HR9 : Hid (TabW w9 g c s n 0 1 (szV c n).toList (fiTo c n 0) ∧ w9.cell? ⟨bx, 0, none⟩ = some (.pointer (some ⟨g, 0, none⟩)) ∧ w.grownBy w9 (some g)) := Lib.hid ⟨by rw [HSzL.out]; exact HS8.out.1.below hb9, hbx9, gb_call HS8.out.2.2 hb9⟩
  clear hb9 hbx9 HS8
  have HOrd : Hid (∀ k : Nat, k < 8 → ∀ w, (Instr.index 98 (.agg #[.int .i64 0, .int .i64 4, .int .i64 5, .int .i64 6, .int .i64 7, .int .i64 1, .int .i64 2, .int .i64 3]) (.int .i64 (k : Int))).run Try.prog w = .ok (.int .i64 (ordN k : Nat)) w) := Lib.hid (fun k hk w => index_arr 98 3 8 _ .i64 k _ Try.underlying98 Try.sizeOf3 Try.isAgg3 hk (by
    match k, hk with
    | 0, _ => rfl
    | 1, _ => rfl
    | 2, _ => rfl
    | 3, _ => rfl
    | 4, _ => rfl
    | 5, _ => rfl
    | 6, _ => rfl
    | 7, _ => rfl))
  go_wp2_with fail
  go_loopw [1, 18] (fun x i wr => ∃ k : Nat, k ≤ 8 ∧ i = .int .i64 (k : Int) ∧ x = .int .i64 (preA c n k) ∧ Hid (TabW wr g c s n 0 1 (szV c n).toList (fiTo c n k) ∧ wr.cell? ⟨bx, 0, none⟩ = some (.pointer (some ⟨g, 0, none⟩)) ∧ w.grownBy wr (some g))) (fun _ i _ => 8 - (intOf i).toNat)
  case atStart => exact ⟨0, by omega, rfl, rfl, HR9⟩
  case round =>
    clear HR9
    obtain ⟨k, hk, rfl, rfl, HRk⟩ := hrel
    obtain ⟨wo, rfl⟩ : ∃ wo : World, wo = wr := ⟨_, rfl⟩
    by_cases hlt : k < 8
    · have t1 : (k : Int) < 8 := by omega
      have hik := HOrd.out k hlt
      have hql := ordN_lt k hlt
      have hPb := preA_bd hok hf k hk
      have hSb := szI_bd hok hf (ordN k) hql
      have HPs : Hid (preA c n (k + 1) = preA c n k + szI c n (ordN k)) := Lib.hid rfl
      have HFs : Hid (fiTo c n (k + 1) = (fiTo c n k).set (ordN k) (.int .i64 (preA c n k))) := Lib.hid rfl
      have hcz : wo.cell? ⟨g, 24 + ordN k, none⟩ = some (.int .i64 (szI c n (ordN k))) := by rw [HRk.out.1.szAt _ hql]; exact sz_at c n _ hql
      obtain ⟨v0, hv0⟩ : ∃ v0, wo.cell? ⟨g, 32 + ordN k, none⟩ = some v0 := by rw [HRk.out.1.fiAt _ hql]; exact ⟨_, List.getElem?_eq_getElem (by rw [fiTo_len]; exact hql)⟩
      have hfz := HRk.out.1.1.free (32 + ordN k)
      have hbk := HRk.out.2.1
      obtain ⟨q, hq⟩ : ∃ q, q = ordN k := ⟨_, rfl⟩
      obtain ⟨P, hP⟩ : ∃ P, P = preA c n k := ⟨_, rfl⟩
      obtain ⟨Z, hZ⟩ : ∃ Z, Z = szI c n (ordN k) := ⟨_, rfl⟩
      rw [← hZ] at hcz hSb HPs
      rw [← hP] at hPb HPs HFs ⊢
      rw [← hq] at hik hql hcz hv0 hfz HFs
      have HN : Hid (TabW (wo.setCell ⟨g, 32 + q, none⟩ (.int .i64 P)) g c s n 0 1 (szV c n).toList (fiTo c n (k + 1)) ∧ (wo.setCell ⟨g, 32 + q, none⟩ (.int .i64 P)).cell? ⟨bx, 0, none⟩ = some (.pointer (some ⟨g, 0, none⟩)) ∧ w.grownBy (wo.setCell ⟨g, 32 + q, none⟩ (.int .i64 P)) (some g)) := Lib.hid ⟨by rw [HFs.out]; exact HRk.out.1.setFi q _, cell_far HRk.out.2.1 hne, gb_set HRk.out.2.2 _ _⟩
      have hcz' : (wo.setCell ⟨g, 32 + q, none⟩ (.int .i64 P)).cell? ⟨g, 24 + q, none⟩ = some (.int .i64 Z) := by
        rw [World.cell?_setCell_other (h := by intro e; simp at e)]
        exact hcz
      have hbk' := HN.out.2.1
      obtain ⟨wn, hwn⟩ : ∃ wn, wo.setCell ⟨g, 32 + q, none⟩ (.int .i64 P) = wn := ⟨_, rfl⟩
      rw [hwn] at HN hcz' hbk'
      have t2 : (0 : Int) ≤ (q : Int) ∧ (q : Int) < 8 := by omega
      clear hq hP hZ hcz
      go_wp2_with fail
      go_roundw
      case rel => exact ⟨k + 1, by omega, by go_num, by rw [HPs.out], HN⟩
      case measure => simp [intOf]; omega
    · obtain rfl : k = 8 := by omega
      go_wp2_with fail
      go_end0
      exact ⟨rfl, HRk.out.1, HRk.out.2.2⟩
end Go.Proofs.Ytdbnadhmkfhdkaa
