/- areas: Size; settings compared. -/
import Derived.Test.YtdbnadhmkfhdkaaAreasC
import Derived.Laws.StructEq
namespace Go.Proofs.Ytdbnadhmkfhdkaa
open Go Go.RowKit
set_option linter.unusedVariables false

theorem eqFourD (dd : Nat) (a b c d x y z u : Int) (w : World) : (Op.equalIn (dd + 2) 34 (.agg #[.int .i64 a, .int .i64 b, .int .i64 c, .int .i64 d]) (.agg #[.int .i64 x, .int .i64 y, .int .i64 z, .int .i64 u])).run Try.prog w = .ok (a == x && b == y && c == z && d == u) w := by
  have u3 := Try.underlying3
  have a3 := Try.isAgg3
  have z3 := Try.sizeOf3
  rw [show dd + 2 = (dd + 1) + 1 from rfl, Op.equalIn]
  simp only [Sem.run_bind, run_underlying Try.underlying34, Result.andThen_ok]
  simp only [Std.Legacy.Range.forIn_eq_forIn_range', Std.Legacy.Range.size, Nat.sub_zero, Nat.add_sub_cancel, Nat.div_one, List.range'_succ, List.range'_zero, List.forIn_cons, List.forIn_nil]
  go_simp
  by_cases h1 : a = x <;> by_cases h2 : b = y <;> by_cases h3 : c = z <;> by_cases h4 : d = u <;> simp [h1, h2, h3, h4]

set_option maxRecDepth 100000 in
theorem eqStg (x y : Stg) (w : World) : (Op.equalIn 10000 36 (.agg #[.int .i64 x.a, .int .i64 x.b, .int .i64 x.d, .int .i64 x.e, .int .u8 x.v, .bool x.dn]) (.agg #[.int .i64 y.a, .int .i64 y.b, .int .i64 y.d, .int .i64 y.e, .int .u8 y.v, .bool y.dn])).run Try.prog w = .ok ((x.a == y.a && x.b == y.b && x.d == y.d && x.e == y.e) && x.v == y.v && x.dn == y.dn) w := by
  have h4 : ∀ w, (Op.equalIn 9999 34 (.agg #[.int .i64 x.a, .int .i64 x.b, .int .i64 x.d, .int .i64 x.e]) (.agg #[.int .i64 y.a, .int .i64 y.b, .int .i64 y.d, .int .i64 y.e])).run Try.prog w = .ok (x.a == y.a && x.b == y.b && x.d == y.d && x.e == y.e) w := fun w => eqFourD 9997 _ _ _ _ _ _ _ _ w
  generalize hq : (x.a == y.a && x.b == y.b && x.d == y.d && x.e == y.e) = q at h4 ⊢
  rw [show (10000 : Nat) = 9999 + 1 from rfl, run_equalIn_struct _ _ _ _ _ (by kernel_rfl) (by kernel_rfl)]
  go_simp
  cases q <;> by_cases h5 : x.v = y.v <;> by_cases h6 : x.dn = y.dn <;> simp [h5, h6]

/-- A table, reckoned or not. -/
def Tab (w : World) (g : Nat) (c : Cfg) (s n : Stg) : Prop := TabW w g c s n 0 0 zero8 zero8 ∨ TabW w g c s n 1 0 (szV c n).toList (fiTo c n 8)

set_option maxRecDepth 100000 in
set_option maxHeartbeats 2000000 in
theorem reckon_any (g : Nat) (c : Cfg) (s n : Stg) (w : World) (h : Tab w g c s n) (hok : OkC c) (hf : Few n) :
    Calls Try.prog 46 #[.pointer (some ⟨g, 0, none⟩)] w fun e w' => e = .returned (.tuple #[]) ∧ TabW w' g c s n 1 0 (szV c n).toList (fiTo c n 8) ∧ w.grownBy w' (some g) := by
  have hmf : ∀ (fn : Fn) (first cap : Array Value) (w : World), (Instr.makeFunc fn first cap).run Try.prog w = .ok (.func fn first cap) w := fun _ _ _ _ => rfl
  have hG1 : w.grownBy (w.alloc (.cells #[.pointer (some ⟨g, 0, none⟩)] 38)) (some g) := gb_alloc (gb_refl _ _) _
  have hb1 : Below w.heap.size w (w.alloc (.cells #[.pointer (some ⟨g, 0, none⟩)] 38)) := (Below.refl _ _).alloc (Nat.le_refl _) _
  have hbx : (w.alloc (.cells #[.pointer (some ⟨g, 0, none⟩)] 38)).cell? ⟨w.heap.size, 0, none⟩ = some (.pointer (some ⟨g, 0, none⟩)) := HasB.at (HasB.new w _ _) 0
  obtain ⟨w1, hw1⟩ : ∃ w1, w.alloc (.cells #[.pointer (some ⟨g, 0, none⟩)] 38) = w1 := ⟨_, rfl⟩
  rw [hw1] at hG1 hb1 hbx
  have HG1 := Lib.hid hG1
  rcases h with h | h
  · have hT1 := h.below hb1
    have hne : w.heap.size ≠ g := by have := h.lt; omega
    obtain ⟨o1, o2⟩ := hT1.oCells
    have f1 := hT1.1.free 21
    have f2 := hT1.1.free 22
    have hfill : Calls Try.prog 62 #[.pointer (some ⟨w.heap.size, 0, none⟩)] (w1.setCell ⟨g, 21 + 1, none⟩ (.int .i32 1)) fun e w' => e = .returned (.tuple #[]) ∧ (TabW w' g c s n 0 1 (szV c n).toList (fiTo c n 8) ∧ w.grownBy w' (some g)) ∧ w'.cell? ⟨g, 21, none⟩ = some (.int .u32 0) ∧ w'.cell? ⟨g, 21 + 1, none⟩ = some (.int .i32 1) ∧ w'.frozen? ⟨g, 21, none⟩ = false ∧ w'.frozen? ⟨g, 21 + 1, none⟩ = false := by
      refine (fill_any g w.heap.size c s n _ (hT1.setOm 1) (cell_far hbx hne) hne hok hf).mono ?_
      rintro e w' ⟨he, hT, hG⟩
      exact ⟨he, ⟨hT, gb_trans (gb_set hG1 22 _) hG⟩, hT.oCells.1, hT.oCells.2, hT.1.free 21, hT.1.free 22⟩
    have HDo := Lib.hid (doF_first 62 #[.pointer (some ⟨w.heap.size, 0, none⟩)] (fun args w => Try.call62 args w) g 21 _ w1 o1 o2 f1 f2 hfill)
    clear h hT1 o1 o2 f1 f2 hfill hG1 hb1
    go_enter Try.func46, Try.ntmps46
    go_wp2_with fail
    refine HDo.out.mono ?_
    rintro e w' ⟨rfl, w2, ⟨hT, hG⟩, rfl⟩
    have HT2 := Lib.hid ((hT.drew.setOd 1).setOm 0)
    have HG2 := Lib.hid (gb_set (gb_set (gb_drew hG) 21 (.int .u32 1)) 22 (.int .i32 0))
    clear hT hG
    go_wp2_with fail
    go_end0
    exact ⟨rfl, HT2.out, HG2.out⟩
  · have hT1 := h.below hb1
    have HT1 := Lib.hid hT1
    have HDo := Lib.hid (fun fv => doF_done g 21 fv w1 hT1.oCells.1)
    clear h hT1 hG1 hb1
    go_enter Try.func46, Try.ntmps46
    go_wp2_with fail
    refine (HDo.out _).mono ?_
    rintro e w' ⟨rfl, rfl⟩
    go_wp2_with fail
    go_end0
    exact ⟨rfl, HT1.out, HG1.out⟩

theorem Tab.below {w w' : World} {g : Nat} {c : Cfg} {s n : Stg} (h : Tab w g c s n) (hb : Below w.heap.size w w') : Tab w' g c s n := h.imp (fun h => h.below hb) (fun h => h.below hb)
theorem Tab.lt {w : World} {g : Nat} {c : Cfg} {s n : Stg} (h : Tab w g c s n) : g < w.heap.size := by rcases h with h | h <;> exact h.lt
def szOf (c : Cfg) (n : Stg) (area : Int) : Int := if area < 0 ∨ 8 ≤ area then 0 else szI c n area.toNat

set_option maxRecDepth 100000 in
set_option maxHeartbeats 2000000 in
theorem asize_in (g : Nat) (c : Cfg) (s n : Stg) (k : Nat) (hk : k < 8) (w : World) (h : Tab w g c s n) (hok : OkC c) (hf : Few n) :
    Calls Try.prog 21 #[.pointer (some ⟨g, 0, none⟩), .int .i64 (k : Int)] w fun e w' => e = .returned (.int .i64 (szI c n k)) ∧ TabW w' g c s n 1 0 (szV c n).toList (fiTo c n 8) ∧ w.grownBy w' (some g) := by
  have HT := Lib.hid h
  obtain ⟨Z, hZ⟩ : ∃ Z, Z = szI c n k := ⟨_, rfl⟩
  rw [← hZ]
  have HZ := Lib.hid hZ
  have t1 : (k : Int) < 8 := by omega
  clear h hZ
  go_enter Try.func21, Try.ntmps21
  go_wp2_with fail
  refine (reckon_any g c s n _ HT.out hok hf).mono ?_
  rintro e w1 ⟨rfl, hT, hG⟩
  have hcz : w1.cell? ⟨g, 24 + k, none⟩ = some (.int .i64 Z) := by rw [hT.szAt k hk, HZ.out]; exact sz_at c n k hk
  have HT1 := Lib.hid hT
  have HG1 := Lib.hid hG
  have t2 : (0 : Int) ≤ (k : Int) ∧ (k : Int) < 8 := by omega
  clear hT hG
  go_wp2_with fail
  go_ret
  exact ⟨rfl, HT1.out, HG1.out⟩
set_option maxRecDepth 100000 in
set_option maxHeartbeats 2000000 in
theorem asize_any (g : Nat) (c : Cfg) (s n : Stg) (area : Int) (w : World) (h : Tab w g c s n) (hok : OkC c) (hf : Few n) :
    Calls Try.prog 21 #[.pointer (some ⟨g, 0, none⟩), .int .i64 area] w fun e w' => e = .returned (.int .i64 (szOf c n area)) ∧ Tab w' g c s n ∧ w.grownBy w' (some g) := by
  have HT := Lib.hid h
  by_cases h1 : area < 0
  · have hz : szOf c n area = 0 := by unfold szOf; rw [if_pos (.inl h1)]
    rw [hz]
    clear h
    go_enter Try.func21, Try.ntmps21
    go_wp2_with fail
    go_ret
    exact ⟨rfl, HT.out, gb_refl _ _⟩
  · by_cases h2 : 8 ≤ area
    · have hz : szOf c n area = 0 := by unfold szOf; rw [if_pos (.inr h2)]
      rw [hz]
      clear h
      go_enter Try.func21, Try.ntmps21
      go_wp2_with fail
      go_ret
      exact ⟨rfl, HT.out, gb_refl _ _⟩
    · obtain ⟨k, rfl⟩ : ∃ k : Nat, area = (k : Int) := ⟨area.toNat, by omega⟩
      have hk : k < 8 := by omega
      have hz : szOf c n (k : Int) = szI c n k := by unfold szOf; rw [if_neg (by omega)]; simp
      rw [hz]
      refine (asize_in g c s n k hk w h hok hf).mono ?_
      rintro e w1 ⟨rfl, hT, hG⟩
      exact ⟨rfl, .inr hT, hG⟩
def fiI (c : Cfg) (n : Stg) (q : Nat) : Int := valI (fiTo c n 8)[q]?
theorem fi_at (c : Cfg) (n : Stg) (q : Nat) (h : q < 8) : (fiTo c n 8)[q]? = some (.int .i64 (fiI c n q)) ∧ ∃ k, k ≤ 8 ∧ fiI c n q = preA c n k := by
  have e : fiTo c n 8 = [.int .i64 (preA c n 0), .int .i64 (preA c n 5), .int .i64 (preA c n 6), .int .i64 (preA c n 7), .int .i64 (preA c n 1), .int .i64 (preA c n 2), .int .i64 (preA c n 3), .int .i64 (preA c n 4)] := rfl
  unfold fiI
  rw [e]
  match q, h with
  | 0, _ => exact ⟨rfl, 0, by omega, rfl⟩
  | 1, _ => exact ⟨rfl, 5, by omega, rfl⟩
  | 2, _ => exact ⟨rfl, 6, by omega, rfl⟩
  | 3, _ => exact ⟨rfl, 7, by omega, rfl⟩
  | 4, _ => exact ⟨rfl, 1, by omega, rfl⟩
  | 5, _ => exact ⟨rfl, 2, by omega, rfl⟩
  | 6, _ => exact ⟨rfl, 3, by omega, rfl⟩
  | 7, _ => exact ⟨rfl, 4, by omega, rfl⟩
def plR (c : Cfg) (n : Stg) (area sector : Int) : Ending := if sector < 0 ∨ szOf c n area ≤ sector then .returned (.tuple #[.int .i64 0, .bool false]) else .returned (.tuple #[.int .i64 (fiI c n area.toNat + sector), .bool true])
set_option maxRecDepth 100000 in
set_option maxHeartbeats 2000000 in
theorem aplace_any (g : Nat) (c : Cfg) (s n : Stg) (area sector : Int) (w : World) (h : Tab w g c s n) (hok : OkC c) (hf : Few n) (hs : I64 sector) :
    Calls Try.prog 23 #[.pointer (some ⟨g, 0, none⟩), .int .i64 area, .int .i64 sector] w fun e w' => e = plR c n area sector ∧ Tab w' g c s n ∧ w.grownBy w' (some g) := by
  have HT := Lib.hid h
  obtain ⟨R, hR⟩ : ∃ R, R = plR c n area sector := ⟨_, rfl⟩
  rw [← hR]
  have HR := Lib.hid hR
  clear hR h
  by_cases h1 : sector < 0
  · go_enter Try.func23, Try.ntmps23
    go_wp2_with fail
    go_ret2
    exact ⟨by rw [HR.out]; unfold plR; rw [if_pos (.inl h1)]; rfl, HT.out, gb_refl _ _⟩
  · obtain ⟨Z, hZ⟩ : ∃ Z, Z = szOf c n area := ⟨_, rfl⟩
    have HZ := Lib.hid hZ
    clear hZ
    by_cases h2 : Z ≤ sector
    · go_enter Try.func23, Try.ntmps23
      go_wp2_with fail
      refine (asize_any g c s n area _ HT.out hok hf).mono ?_
      rintro e w1 ⟨rfl, hT, hG⟩
      rw [← HZ.out]
      have HT1 := Lib.hid hT
      have HG1 := Lib.hid hG
      clear hT hG
      go_wp2_with fail
      go_ret2
      exact ⟨by rw [HR.out]; unfold plR; rw [if_pos (.inr (by rw [← HZ.out]; exact h2))]; rfl, HT1.out, HG1.out⟩
    · have ha : 0 ≤ area ∧ area < 8 := by
        have := HZ.out
        unfold szOf at this
        by_cases q : area < 0 ∨ 8 ≤ area
        · rw [if_pos q] at this; omega
        · omega
      obtain ⟨k, rfl⟩ : ∃ k : Nat, area = (k : Int) := ⟨area.toNat, by omega⟩
      have hk : k < 8 := by omega
      have hZk : Z = szI c n k := by rw [HZ.out]; unfold szOf; rw [if_neg (by omega)]; simp
      have hZb := szI_bd hok hf k hk
      rw [← hZk] at hZb
      obtain ⟨hf1, kk, hkk, hfe⟩ := fi_at c n k hk
      have hPb := preA_bd hok hf kk hkk
      rw [← hfe] at hPb
      obtain ⟨F, hF⟩ : ∃ F, F = fiI c n k := ⟨_, rfl⟩
      rw [← hF] at hPb hf1
      have HZk := Lib.hid hZk
      have HF := Lib.hid hF
      have HFi := Lib.hid hf1
      have t2 : (0 : Int) ≤ (k : Int) ∧ (k : Int) < 8 := by omega
      have hPb2 : -33554432 ≤ F ∧ F ≤ 33554432 := by omega
      clear hZk hfe hPb hF hf1 ha
      go_enter Try.func23, Try.ntmps23
      go_wp2_with fail
      refine (asize_in g c s n k hk _ HT.out hok hf).mono ?_
      rintro e w1 ⟨rfl, hT, hG⟩
      rw [← HZk.out]
      have hcf : w1.cell? ⟨g, 32 + k, none⟩ = some (.int .i64 F) := by rw [hT.fiAt k hk]; exact HFi.out
      have HT1 : Hid (Tab w1 g c s n) := Lib.hid (.inr hT)
      have HG1 := Lib.hid hG
      have hsb : -9223372036854775808 ≤ F + sector ∧ F + sector ≤ 9223372036854775807 := by omega
      clear hT hG
      go_wp2_with fail
      go_ret2
      exact ⟨by rw [HR.out]; unfold plR; rw [if_neg (by rw [← HZ.out]; omega), HF.out]; simp, HT1.out, HG1.out⟩
end Go.Proofs.Ytdbnadhmkfhdkaa
