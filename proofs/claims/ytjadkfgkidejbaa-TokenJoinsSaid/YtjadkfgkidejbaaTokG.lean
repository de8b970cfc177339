/- token: rows of the law. -/
import Derived.Test.YtjadkfgkidejbaaTokF
namespace Go.Proofs.Ytjadkfgkidejbaa
open Go.RowKit
set_option linter.unusedVariables false

/-- A row of rows as it is read. -/
theorem RowsAt.reads {B : Nat} {e : TypeId} {w : World} {v : Value} {ls : List (List Nat)} (h : RowsAt B e w v ls) :
    ∃ a cap, v = .slice a ls.length cap ∧ ∀ (i : Nat) (x : List Nat), ls[i]? = some x → ∃ g b cp, a = some ⟨g, 0, none⟩ ∧ g < w.heap.size ∧ w.cell? ⟨g, i, none⟩ = some (.slice b x.length cp) ∧ Bytes w b x.length x := by
  obtain ⟨us, h1, h2, h3⟩ := h
  rcases h1.2 with ⟨rfl, h0⟩ | ⟨g, cap, cur, rfl, r⟩
  · have : ls.length = 0 := by omega
    have hn : ls = [] := List.eq_nil_of_length_eq_zero this
    subst hn
    exact ⟨none, 0, rfl, fun i x h => by simp at h⟩
  · refine ⟨_, cap, rfl, fun i x hx => ?_⟩
    have hi : i < ls.length := by
      rcases Nat.lt_or_ge i ls.length with q | q
      · exact q
      · rw [List.getElem?_eq_none q] at hx; simp at hx
    obtain ⟨u, hu, b, cp, hb, hy, _⟩ := h3 i x hx
    refine ⟨g, b, cp, rfl, (h1.lt g rfl).2, ?_, hy⟩
    rw [h1.cellAt i (by omega), hu, hb]

set_option maxRecDepth 100000 in
set_option maxHeartbeats 4000000 in
theorem rows_any {B C : Nat} (v u : Value) (ls : List (List Nat)) (w : World) (hv : RowsAt B 24 w v ls) (hu : RowsAt C 24 w u ls) (hl : ls.length ≤ 1000000) :
    Calls Try.prog 18 #[v, u] w fun e w' => e = .returned (.bool true) ∧ Below w.heap.size w w' := by
  obtain ⟨a, cap, rfl, ha⟩ := hv.reads
  obtain ⟨a2, cap2, rfl, ha2⟩ := hu.reads
  obtain ⟨n, hn⟩ : ∃ n, n = ls.length := ⟨_, rfl⟩
  rw [← hn] at hl ⊢
  have HN := Lib.hid hn
  have HA := Lib.hid ha
  have HA2 := Lib.hid ha2
  clear hn ha ha2 hv hu
  go_enter Try.func18, Try.ntmps18
  go_wp2_with fail
  go_loopw [5] (fun i wr => ∃ k : Nat, k ≤ n ∧ i = .int .i64 k ∧ Below w.heap.size w wr) (fun i _ => n - (intOf i).toNat)
  case atStart => exact ⟨0, by omega, rfl, Below.refl _ _⟩
  case round =>
    obtain ⟨k, hk, rfl, hb⟩ := hrel
    obtain ⟨wo, rfl⟩ : ∃ wo : World, wo = wr := ⟨_, rfl⟩
    by_cases hlt : k < n
    · have hkl : k < ls.length := by rw [← HN.out]; exact hlt
      obtain ⟨x, hx⟩ : ∃ x, ls[k]? = some x := ⟨_, List.getElem?_eq_getElem hkl⟩
      obtain ⟨g, b, cp, rfl, hg, hc, hy⟩ := HA.out k x hx
      obtain ⟨g2, b2, cp2, rfl, hg2, hc2, hy2⟩ := HA2.out k x hx
      have hco : wo.cell? ⟨g, k, none⟩ = some (.slice b x.length cp) := (hb.cell (p := ⟨g, k, none⟩) hg).trans hc
      have hco2 : wo.cell? ⟨g2, k, none⟩ = some (.slice b2 x.length cp2) := (hb.cell (p := ⟨g2, k, none⟩) hg2).trans hc2
      have hyo := hy.below hb (Nat.le_refl _)
      have hyo2 := hy2.below hb (Nat.le_refl _)
      have hs1 := fun nq => run_str (P := Try.prog) (hyo.drewN nq) 24 5 9 Try.underlying24 Try.underlying5 Try.underlying9 cp
      have hs2 := fun nq => run_str (P := Try.prog) (hyo2.drewN nq) 24 5 9 Try.underlying24 Try.underlying5 Try.underlying9 cp2
      have t1 : (k : Int) < (n : Int) := by omega
      have t2 : (0 : Int) ≤ (k : Int) := by omega
      have t3 : ((k : Int)).toNat = k := by omega
      clear hx hc hc2 hy hy2
      go_wp2_with fail
      go_quiet (fail)
      go_wp2
      go_round
      case rel => exact ⟨k + 1, by omega, by go_num, below_drewN' hb nq⟩
      case measure => simp [intOf]; omega
    · obtain rfl : k = n := by omega
      go_wp2
      go_ret
      exact ⟨rfl, hb⟩

end Go.Proofs.Ytjadkfgkidejbaa
