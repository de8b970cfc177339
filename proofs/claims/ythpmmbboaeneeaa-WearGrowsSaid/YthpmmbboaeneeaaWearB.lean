/- WearGrows: the walk. -/
import Derived.Test.YthpmmbboaeneeaaWearA
namespace Go.Proofs.Ythpmmbboaeneeaa
open Go.RowKit
set_option linter.unusedVariables false

theorem Try.infoInt : (Try.prog.info? 3).map (fun i => (i.zero, i.size, i.bytes)) = some (some (.int .i64 0), 1, 8) := by kernel_rfl

theorem lifeOf_pos (zs : List Int) (h : zs.length ≠ 0) : 1 ≤ lifeOf zs ∧ lifeOf zs ≤ 11 := by
  have hb := sumOf_bd zs
  unfold lifeOf
  rw [if_neg h]
  have h1 : 0 ≤ sumOf zs / (zs.length : Int) := Int.ediv_nonneg hb.1 (by omega)
  split <;> omega

theorem capOf_mono {a b : Int} (h : a ≤ b) : capOf a ≤ capOf b := by
  unfold capOf
  by_cases h1 : a < 0 <;> by_cases h2 : b < 0 <;> simp only [h1, h2, if_true, if_false] <;> (repeat' split) <;> omega

theorem foldl_set_mono : ∀ (zs : List Int) (k : Nat) (v : Int) (s t : Int), s ≤ t → zs.getD k 0 ≤ v → zs.foldl (fun s n => s + capOf n) s ≤ (zs.set k v).foldl (fun s n => s + capOf n) t
  | [], _, _, s, t, h, _ => by simpa using h
  | z :: r, 0, v, s, t, h, hv => by
    simp only [List.set_cons_zero, List.foldl_cons]
    have := capOf_mono (show z ≤ v by simpa using hv)
    exact foldl_same r _ _ (by omega)
  | z :: r, k + 1, v, s, t, h, hv => by
    simp only [List.set_cons_succ, List.foldl_cons]
    exact foldl_set_mono r k v _ _ (by omega) (by simpa using hv)
where
  foldl_same : ∀ (r : List Int) (s t : Int), s ≤ t → r.foldl (fun s n => s + capOf n) s ≤ r.foldl (fun s n => s + capOf n) t
  | [], s, t, h => by simpa using h
  | z :: r, s, t, h => by simp only [List.foldl_cons]; exact foldl_same r _ _ (by omega)

theorem lifeOf_mono (zs : List Int) (k : Nat) (v : Int) (hv : zs.getD k 0 ≤ v) : lifeOf zs ≤ lifeOf (zs.set k v) := by
  have hs : sumOf zs ≤ sumOf (zs.set k v) := foldl_set_mono zs k v 0 0 (Int.le_refl _) hv
  unfold lifeOf
  rw [List.length_set]
  by_cases h : zs.length = 0
  · rw [if_pos h, if_pos h]; exact Int.le_refl _
  · rw [if_neg h, if_neg h]
    have h1 : sumOf zs / (zs.length : Int) ≤ sumOf (zs.set k v) / (zs.length : Int) := Int.ediv_le_ediv (by omega) hs
    split <;> split <;> omega

theorem debtOf_bd (f t : Int) : 0 ≤ debtOf f t ∧ debtOf f t ≤ 16 := by unfold debtOf; split <;> (try split) <;> omega
theorem debtOf_mono (f m t : Int) (h : 0 ≤ m) : debtOf (f + m) t ≤ debtOf f t := by unfold debtOf; (repeat' split) <;> omega

/-- What a slice of the call's own, of one cell an element, reads as. -/
theorem ints_of_own {w : World} {base : Nat} {e : TypeId} {g n cap : Nat} {zs : List Int} (h : w.ownsRow base e 1 (.slice (some ⟨g, 0, none⟩) n cap) n (zs.map (Value.int .i64))) : Ints .i64 w (some ⟨g, 0, none⟩) n zs := by
  have hl : zs.length = n := by simpa using h.1
  refine ⟨hl, fun _ => ⟨g, 0, rfl, (h.lt g rfl).2, fun i hi => ?_⟩⟩
  have h2 : i < zs.length := by omega
  rw [Nat.zero_add, h.cellAt i (by omega)]
  simp [List.getD, h2]

theorem own_shape {w : World} {base : Nat} {e : TypeId} {size : Nat} {v : Value} {n : Nat} {xs : List Value} (h : w.ownsRow base e size v n xs) (hn : 0 < n) : ∃ g cap, v = .slice (some ⟨g, 0, none⟩) n cap := by
  rcases h.2 with ⟨_, h0⟩ | ⟨g, cap, cur, hv, _⟩
  · omega
  · exact ⟨g, cap, hv⟩

set_option maxHeartbeats 1000000 in
theorem grows_early (a : Option Addr) (len cap : Nat) (at_ by_ free more target : Int) (w : World) (hm : len ≤ 9223372036854775807)
    (hc : 1000 < len ∨ (len ≤ 1000 ∧ len = 0) ∨ (len ≤ 1000 ∧ len ≠ 0 ∧ by_ < 0) ∨ (len ≤ 1000 ∧ len ≠ 0 ∧ 0 ≤ by_ ∧ more < 0) ∨ (len ≤ 1000 ∧ len ≠ 0 ∧ 0 ≤ by_ ∧ 0 ≤ more ∧ 1099511627776 < free) ∨ (len ≤ 1000 ∧ len ≠ 0 ∧ 0 ≤ by_ ∧ 0 ≤ more ∧ free ≤ 1099511627776 ∧ 1099511627776 < more)) :
    Calls Try.prog 4 #[.slice a len cap, .int .i64 at_, .int .i64 by_, .int .i64 free, .int .i64 more, .int .i64 target] w fun e w' => e = .returned (.bool true) ∧ Below w.heap.size w w' := by
  rcases hc with h | ⟨h, h2⟩ | ⟨h, h2, h3⟩ | ⟨h, h2, h3, h4⟩ | ⟨h, h2, h3, h4, h5⟩ | ⟨h, h2, h3, h4, h5, h6⟩
  all_goals
    go_enter Try.func4, Try.ntmps4
    go_wp2_with (go_at_call 8; refine (known_any _).mono ?_; rintro e w1 ⟨rfl, hb⟩)
    go_ret
    exact ⟨rfl, hb⟩

set_option maxHeartbeats 4000000 in
theorem grows_walk (a : Option Addr) (len cap : Nat) (zs : List Int) (at_ by_ free more target : Int) (w : World) (hi : Ints .i64 w a len zs)
    (h1 : len ≤ 1000) (h2 : 0 < len) (h3 : 0 ≤ by_) (h4 : 0 ≤ more) (h5 : free ≤ 1099511627776) (h6 : more ≤ 1099511627776) (ha : I64 at_) (hf : I64 free) (ht : I64 target) :
    Calls Try.prog 4 #[.slice a len cap, .int .i64 at_, .int .i64 by_, .int .i64 free, .int .i64 more, .int .i64 target] w fun e w' => e = .returned (.bool true) ∧ Below w.heap.size w w' := by
  obtain ⟨i0, hi0, hz0, hz1, hz2⟩ := info_parts Try.infoInt
  have hl := hi.1
  have hi' := hi
  obtain ⟨b, off, rfl, hbl, hc⟩ := hi.2 h2
  have h20 : ((len : Int) == 0) = false := by simp; omega
  clear hi hc
  go_enter Try.func4, Try.ntmps4
  go_wp2_with fail
  refine (known_any _).mono ?_
  rintro e w1 ⟨rfl, hb⟩
  have hi1 := hi'.below hb (Nat.le_refl _)
  obtain ⟨b', off', he, hbl', hc⟩ := hi1.2 h2
  obtain ⟨rfl, rfl⟩ : b = b' ∧ off = off' := by simpa using he
  clear he
  have hsz := hb.size
  go_wp2_with (at_builtin; refine wpList_append_own _ rfl _ _ 22 rfl w.heap.size 3 i0 (.int .i64 0) 1 8 Try.underlying22 hi0 hz0 hz1 hz2 rfl (by decide) _ 0 [] rfl (World.ownsRow_lit (e := 3) (base := w.heap.size) (size := 1) w1 #[] 0 hsz (by decide) (by simp)) ⟨b, off, none⟩ len cap (zs.map (Value.int .i64)) rfl (by simpa using hl) ?c1 ?c2 ?c3 ?c4 ?c5 ?_)
  case c1 =>
    intro j u hj
    have hj2 : j < len := by have := (List.getElem?_eq_some_iff.1 hj).1; simp at this; omega
    have := hc j hj2
    simp only [List.getElem?_map, Option.map_eq_some_iff] at hj
    obtain ⟨z, hz, rfl⟩ := hj
    rw [Go.WideShapes.add_plain, World.cell?_alloc_old _ _ _ (show b ≠ w1.heap.size by omega), this]
    simp [List.getD, hz]
  case c2 => intro u hu; simp at hu; obtain ⟨z, _, rfl⟩ := hu; rfl
  case c3 => unfold maxLen; omega
  case c4 => omega
  case c5 => simp; omega
  intro v' w2 hown hgrow _
  obtain ⟨g, cap', hv⟩ := own_shape hown h2
  have hgB := (hown.lt g (by rw [hv]; rfl))
  have hb2 : Below w.heap.size w w2 := (hb.alloc hsz _).grown hgrow (by simp; omega) (fun k hk => by simp [Value.ownBlock] at hk; omega)
  rw [hv] at hown ⊢
  have hi2 := ints_of_own hown
  have hfr := fun j => hown.frozenAt j
  have hst := hown.stored
  clear hv hgrow hi1 hi' hc hown
  obtain ⟨_, hi3⟩ := hi2
  obtain ⟨g', off', he, hgl, hc2⟩ := hi3 h2
  obtain ⟨rfl, rfl⟩ : g = g' ∧ 0 = off' := by simpa using he
  have HL := Lib.hid hl
  clear he hi3 hl
  have H3 : (∃ k : Nat, k < len ∧ 0 ≤ at_ ∧ at_ % (len : Int) = (k : Int)) ∨ (∃ k : Nat, k < len ∧ at_ < 0 ∧ at_.tmod (len : Int) = (k : Int)) ∨ (∃ k : Nat, k < len ∧ at_ < 0 ∧ 0 < k ∧ at_.tmod (len : Int) = -(k : Int)) := by
    have hlt := Int.emod_lt_of_pos at_ (show 0 < (len : Int) by omega)
    have hge := Int.emod_nonneg at_ (show (len : Int) ≠ 0 by omega)
    have hlt2 := Int.emod_lt_of_pos (-at_) (show 0 < (len : Int) by omega)
    have hge2 := Int.emod_nonneg (-at_) (show (len : Int) ≠ 0 by omega)
    by_cases hat : 0 ≤ at_
    · exact .inl ⟨(at_ % (len : Int)).toNat, by omega, hat, by omega⟩
    · have e : at_.tmod (len : Int) = -((-at_) % (len : Int)) := by
        rw [← Int.tmod_eq_emod_of_nonneg (show 0 ≤ -at_ by omega), Int.neg_tmod, Int.neg_neg]
      by_cases h0 : (-at_) % (len : Int) = 0
      · exact .inr (.inl ⟨0, h2, by omega, by rw [e, h0]; rfl⟩)
      · exact .inr (.inr ⟨((-at_) % (len : Int)).toNat, by omega, by omega, by omega, by rw [e]; omega⟩)
  rcases H3 with ⟨k, hkl, hat, hk⟩ | ⟨k, hkl, hat, hk⟩ | ⟨k, hkl, hat, hk0, hk⟩
  all_goals
    have hcell := hc2 k hkl
    rw [Nat.zero_add] at hcell
    have hfrk := hfr k
    clear hfr
    obtain ⟨z, hz⟩ : ∃ z, z = zs.getD k 0 := ⟨_, rfl⟩
    rw [← hz] at hcell
    have HZ := Lib.hid hz
    clear hz
    rcases (show 1099511627776 < z ∨ (z ≤ 1099511627776 ∧ 1099511627776 < by_) ∨ (z ≤ 1099511627776 ∧ by_ ≤ 1099511627776 ∧ z < -1099511627776) ∨ (z ≤ 1099511627776 ∧ by_ ≤ 1099511627776 ∧ -1099511627776 ≤ z) by omega) with q | ⟨q, q2⟩ | ⟨q, q2, q3⟩ | ⟨q, q2, q3⟩
    · go_wp2
      go_ret
      exact ⟨rfl, hb2⟩
    · go_wp2
      go_ret
      exact ⟨rfl, hb2⟩
    · go_wp2
      go_ret
      exact ⟨rfl, hb2⟩
    · go_wp2_with fail
      refine (life_any _ _ _ zs _ ⟨HL.out, fun _ => ⟨g, 0, rfl, hgl, hc2⟩⟩ (by omega)).mono ?_
      rintro e w3 ⟨rfl, rfl⟩
      have hw := hst k (.int .i64 (z + by_))
      have hi4 : Ints .i64 (w2.setCell ⟨g, k, none⟩ (.int .i64 (z + by_))) (some ⟨g, 0, none⟩) len (zs.set k (z + by_)) := ints_of_own (by rw [List.map_set]; exact hw.1)
      have hb4 : Below w.heap.size w (w2.setCell ⟨g, k, none⟩ (.int .i64 (z + by_))) := hb2.setCell hgB.1 _
      have m1 : lifeOf zs ≤ lifeOf (zs.set k (z + by_)) := lifeOf_mono zs k _ (by rw [← HZ.out]; omega)
      have m2 := lifeOf_pos zs (by rw [HL.out]; omega)
      have m3 := lifeOf_pos (zs.set k (z + by_)) (by rw [List.length_set, HL.out]; omega)
      have m4 := debtOf_bd free target
      have m5 := debtOf_mono free more target h4
      clear hst hw hc2
      go_wp2_with fail
      refine (debt_any _ _ _ hf ht).mono ?_
      rintro e w3 ⟨rfl, rfl⟩
      go_wp2_with fail
      refine (life_any _ _ _ _ _ hi4 (by omega)).mono ?_
      rintro e w3 ⟨rfl, rfl⟩
      go_wp2_with fail
      refine (life_any _ _ _ _ _ hi4 (by omega)).mono ?_
      rintro e w3 ⟨rfl, rfl⟩
      by_cases hfl : free < -1099511627776
      · go_wp2
        go_ret
        exact ⟨rfl, hb4⟩
      · go_wp2_with fail
        refine (debt_any _ _ _ (by unfold I64 at *; omega) ht).mono ?_
        rintro e w3 ⟨rfl, rfl⟩
        go_wp2
        go_ret
        exact ⟨rfl, hb4⟩

/-- Any arguments: true. -/
theorem grows_any (a : Option Addr) (len cap : Nat) (zs : List Int) (at_ by_ free more target : Int) (w : World) (hm : len ≤ maxLen) (hi : Ints .i64 w a len zs) (ha : I64 at_) (hf : I64 free) (ht : I64 target) :
    Calls Try.prog 4 #[.slice a len cap, .int .i64 at_, .int .i64 by_, .int .i64 free, .int .i64 more, .int .i64 target] w fun e w' => e = .returned (.bool true) ∧ Below w.heap.size w w' := by
  unfold maxLen at hm
  rcases (show (1000 < len ∨ (len ≤ 1000 ∧ len = 0) ∨ (len ≤ 1000 ∧ len ≠ 0 ∧ by_ < 0) ∨ (len ≤ 1000 ∧ len ≠ 0 ∧ 0 ≤ by_ ∧ more < 0) ∨ (len ≤ 1000 ∧ len ≠ 0 ∧ 0 ≤ by_ ∧ 0 ≤ more ∧ 1099511627776 < free) ∨ (len ≤ 1000 ∧ len ≠ 0 ∧ 0 ≤ by_ ∧ 0 ≤ more ∧ free ≤ 1099511627776 ∧ 1099511627776 < more)) ∨ (len ≤ 1000 ∧ 0 < len ∧ 0 ≤ by_ ∧ 0 ≤ more ∧ free ≤ 1099511627776 ∧ more ≤ 1099511627776) by omega) with h | ⟨h1, h2, h3, h4, h5, h6⟩
  · exact grows_early a len cap at_ by_ free more target w hm h
  · exact grows_walk a len cap zs at_ by_ free more target w hi h1 h2 h3 h4 h5 h6 ha hf ht

end Go.Proofs.Ythpmmbboaeneeaa
