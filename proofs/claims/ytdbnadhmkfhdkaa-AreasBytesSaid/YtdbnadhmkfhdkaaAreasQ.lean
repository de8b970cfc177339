/- areas: AreasBytes, the walk. -/
import Derived.Test.YtdbnadhmkfhdkaaAreasP
namespace Go.Proofs.Ytdbnadhmkfhdkaa
open Go Go.RowKit
set_option linter.unusedVariables false

/-- A setting in a block of its own. -/
def StgAt (w : World) (g : Nat) (s : Stg) : Prop := HasB w g #[.int .i64 s.a, .int .i64 s.b, .int .i64 s.d, .int .i64 s.e, .int .u8 s.v, .bool s.dn] 36
def StgAt13 (w : World) (g : Nat) (s : Stg) : Prop := HasB w g #[.int .i64 s.a, .int .i64 s.b, .int .i64 s.d, .int .i64 s.e, .int .u8 s.v, .bool s.dn] 56
theorem StgAt.lt {w : World} {g : Nat} {s : Stg} (h : StgAt w g s) : g < w.heap.size := HasB.lt h
theorem StgAt13.lt {w : World} {g : Nat} {s : Stg} (h : StgAt13 w g s) : g < w.heap.size := HasB.lt h
theorem StgAt.below {w w' : World} {g B : Nat} {s : Stg} (h : StgAt w g s) (hb : Below B w w') (hB : g < B) : StgAt w' g s := HasB.below h hb hB
theorem StgAt13.below {w w' : World} {g B : Nat} {s : Stg} (h : StgAt13 w g s) (hb : Below B w w') (hB : g < B) : StgAt13 w' g s := HasB.below h hb hB
theorem StgAt.at {w : World} {g : Nat} {s : Stg} (h : StgAt w g s) (i : Nat) : w.cell? ⟨g, i, none⟩ = (#[Value.int .i64 s.a, .int .i64 s.b, .int .i64 s.d, .int .i64 s.e, .int .u8 s.v, .bool s.dn])[i]? := HasB.at h i
theorem StgAt13.at {w : World} {g : Nat} {s : Stg} (h : StgAt13 w g s) (i : Nat) : w.cell? ⟨g, i, none⟩ = (#[Value.int .i64 s.a, .int .i64 s.b, .int .i64 s.d, .int .i64 s.e, .int .u8 s.v, .bool s.dn])[i]? := HasB.at h i
theorem stg_new (w : World) (s : Stg) : StgAt (w.alloc (.cells #[.int .i64 s.a, .int .i64 s.b, .int .i64 s.d, .int .i64 s.e, .int .u8 s.v, .bool s.dn] 36)) w.heap.size s := HasB.new _ _ _
theorem stg_new13 (w : World) (s : Stg) : StgAt13 (w.alloc (.cells #[.int .i64 s.a, .int .i64 s.b, .int .i64 s.d, .int .i64 s.e, .int .u8 s.v, .bool s.dn] 56)) w.heap.size s := HasB.new _ _ _
theorem stg_eq13 (s : Stg) (w : World) : (Op.equalIn 10000 56 (.agg #[.int .i64 s.a, .int .i64 s.b, .int .i64 s.d, .int .i64 s.e, .int .u8 s.v, .bool s.dn]) (.agg #[.int .i64 s.a, .int .i64 s.b, .int .i64 s.d, .int .i64 s.e, .int .u8 s.v, .bool s.dn])).run Try.prog w = .ok true w := by rw [eqStg13]; simp
theorem stg_eq (s : Stg) (w : World) : (Op.equalIn 10000 36 (.agg #[.int .i64 s.a, .int .i64 s.b, .int .i64 s.d, .int .i64 s.e, .int .u8 s.v, .bool s.dn]) (.agg #[.int .i64 s.a, .int .i64 s.b, .int .i64 s.d, .int .i64 s.e, .int .u8 s.v, .bool s.dn])).run Try.prog w = .ok true w := by rw [eqStg]; simp

set_option maxRecDepth 100000 in
set_option maxHeartbeats 4000000 in
theorem abytes_any (s : Stg) (a : Option Addr) (len cap : Nat) (l : List Nat) (w : World) (hs : s.wf) (hi : Bytes w a len l) (hcap : len ≤ cap) (hcm : cap ≤ maxLen) :
    Calls Try.prog 7 #[.agg #[.int .i64 s.a, .int .i64 s.b, .int .i64 s.d, .int .i64 s.e, .int .u8 s.v, .bool s.dn], .slice a len cap] w fun e w' => e = .returned (.bool true) ∧ Below w.heap.size w w' := by
  obtain ⟨L, hL⟩ : ∃ L, L = encL s := ⟨_, rfl⟩
  have HL := Lib.hid hL
  have HEq : Hid ((∀ k : Nat, k < 4 → 0 ≤ s.sz k ∧ s.sz k ≤ 4294967295) → decS L = s) := Lib.hid (by rw [hL]; exact encL_same s hs)
  have HErr : Hid (decErr L = 0) := Lib.hid (by rw [hL]; exact encL_err s)
  have HSz : Hid (∀ k : Nat, k < 4 → (#[Value.int .i64 s.a, .int .i64 s.b, .int .i64 s.d, .int .i64 s.e, .int .u8 s.v, .bool s.dn])[k]? = some (.int .i64 (s.sz k))) := Lib.hid (fun k hk => stgV_sz s k hk)
  have HLS := Lib.hid hL
  clear hL HL
  obtain ⟨za, zb, zd, ze, zv, zn⟩ := s
  have HS := Lib.hid hs
  have HI := Lib.hid hi
  have HLL : Hid (L = encL ⟨za, zb, zd, ze, zv, zn⟩) := HLS
  unfold maxLen at hcm
  have N1 := Lib.hid (stg_new w ⟨za, zb, zd, ze, zv, zn⟩)
  have HB0 : Hid (Below w.heap.size w (w.alloc (.cells #[.int .i64 za, .int .i64 zb, .int .i64 zd, .int .i64 ze, .int .u8 zv, .bool zn] 36))) := Lib.hid ((Below.refl _ _).alloc (Nat.le_refl _) _)
  obtain ⟨s, hS⟩ : ∃ s : Stg, s = ⟨za, zb, zd, ze, zv, zn⟩ := ⟨_, rfl⟩
  rw [← hS] at HEq HSz
  have HSS := Lib.hid hS
  clear hs hi hS HLS
  go_enter Try.func7, Try.ntmps7
  go_wp2_with fail
  refine (aknown_any _).mono ?_
  rintro e w1 ⟨rfl, hb1⟩
  have M1 := Lib.hid (N1.out.below hb1 N1.out.lt)
  have HB1 : Hid (Below w.heap.size w w1) := Lib.hid (HB0.out.trans (hb1.mono HB0.out.size))
  clear hb1 N1 HB0
  by_cases h60 : 500 < len
  · have t1 : 500 < (len : Int) := by omega
    go_wp2_with fail
    go_ret
    exact ⟨rfl, HB1.out⟩
  have t1 : ¬ (500 < (len : Int)) := by omega
  obtain ⟨l1, x0, x1, x2, x3, x4, x5⟩ := HasB.six M1.out
  dsimp only at x0 x1 x2 x3 x4 x5
  go_wp2_with fail
  refine (aenc_any ⟨za, zb, zd, ze, zv, zn⟩ _ HS.out).mono ?_
  rintro e w2 ⟨⟨a2, cap2, rfl, hy2, hn2⟩, hb2⟩
  rw [← HLL.out] at hy2
  have M2 := Lib.hid (M1.out.below hb2 M1.out.lt)
  have HB2 : Hid (Below w.heap.size w w2) := Lib.hid (HB1.out.trans (hb2.mono HB1.out.size))
  have HI2 := Lib.hid (HI.out.below HB2.out (Nat.le_refl _))
  have HX2 := Lib.hid hy2
  clear hy2 hn2 hb2 M1 HB1 x0 x1 x2 x3 x4 x5 l1
  go_wp2_with fail
  refine (adec_any a len cap l _ HI2.out (by omega)).mono ?_
  rintro e w3 ⟨rfl, hb3⟩
  obtain ⟨D, hD⟩ : ∃ D, D = decS l := ⟨_, rfl⟩
  obtain ⟨E, hE⟩ : ∃ E, E = decErr l := ⟨_, rfl⟩
  unfold decE
  rw [← hD, ← hE]
  have HDE : Hid (decE l = .returned (.tuple #[.agg #[.int .i64 D.a, .int .i64 D.b, .int .i64 D.d, .int .i64 D.e, .int .u8 D.v, .bool D.dn], .int .i64 E])) := Lib.hid (by unfold decE; rw [← hD, ← hE])
  have hb3' : Below w2.heap.size w2 (w3.alloc (.cells #[.int .i64 D.a, .int .i64 D.b, .int .i64 D.d, .int .i64 D.e, .int .u8 D.v, .bool D.dn] 36)) := hb3.alloc hb3.size _
  have M3 := Lib.hid (M2.out.below hb3' M2.out.lt)
  have HB3 : Hid (Below w.heap.size w (w3.alloc (.cells #[.int .i64 D.a, .int .i64 D.b, .int .i64 D.d, .int .i64 D.e, .int .u8 D.v, .bool D.dn] 36))) := Lib.hid (HB2.out.trans (hb3'.mono HB2.out.size))
  have HI3 := Lib.hid (HI2.out.below hb3' (Nat.le_refl _))
  have HX3 := Lib.hid (HX2.out.below hb3' (Nat.le_refl _))
  have HD3 := Lib.hid (stg_new w3 D)
  clear hb3 hb3' hD hE M2 HB2 HI2 HX2
  go_wp2_with fail
  obtain ⟨w3a, hw3⟩ : ∃ w3a, w3.alloc (.cells #[.int .i64 D.a, .int .i64 D.b, .int .i64 D.d, .int .i64 D.e, .int .u8 D.v, .bool D.dn] 36) = w3a := ⟨_, rfl⟩
  obtain ⟨gd, hgd⟩ : ∃ gd, gd = w3.heap.size := ⟨_, rfl⟩
  rw [hw3] at M3 HB3 HI3 HX3 HD3 ⊢
  rw [← hgd] at HD3 ⊢
  clear hw3 hgd
  refine (rdec_any a len cap l _ HI3.out (by omega)).mono ?_
  rintro e w4 ⟨he, hb4⟩
  rw [HDE.out] at he
  subst he
  have hb4' : Below w3a.heap.size w3a (w4.alloc (.cells #[.int .i64 D.a, .int .i64 D.b, .int .i64 D.d, .int .i64 D.e, .int .u8 D.v, .bool D.dn] 56)) := hb4.alloc hb4.size _
  have M4 := Lib.hid (M3.out.below hb4' M3.out.lt)
  have HB4 : Hid (Below w.heap.size w (w4.alloc (.cells #[.int .i64 D.a, .int .i64 D.b, .int .i64 D.d, .int .i64 D.e, .int .u8 D.v, .bool D.dn] 56))) := Lib.hid (HB3.out.trans (hb4'.mono HB3.out.size))
  have HX4 := Lib.hid (HX3.out.below hb4' (Nat.le_refl _))
  have HD4 := Lib.hid (HD3.out.below hb4' HD3.out.lt)
  have HG4 := Lib.hid (stg_new13 w4 D)
  clear hb4 hb4' HDE M3 HB3 HI3 HX3 HD3 HI
  go_wp2_with fail
  obtain ⟨wq, hwq⟩ : ∃ wq, w4.alloc (.cells #[.int .i64 D.a, .int .i64 D.b, .int .i64 D.d, .int .i64 D.e, .int .u8 D.v, .bool D.dn] 56) = wq := ⟨_, rfl⟩
  obtain ⟨gg, hgg⟩ : ∃ gg, gg = w4.heap.size := ⟨_, rfl⟩
  rw [hwq] at M4 HB4 HX4 HD4 HG4 ⊢
  rw [← hgg] at HG4 ⊢
  clear hwq hgg
  have HD := HD4
  have HG := HG4
  have hq13 := fun w => stg_eq13 D w
  have k5 : ∀ w', Below wq.heap.size wq w' → (convert 24 9 (.slice a2 18 cap2)).run Try.prog w' = .ok (.string (strB L)) w' := fun w' h => run_str (HX4.out.below h (Nat.le_refl _)) _ 5 _ Try.underlying24 Try.underlying5 Try.underlying9 _
  have km : ∀ w', Below wq.heap.size wq w' → StgAt w' w.heap.size ⟨za, zb, zd, ze, zv, zn⟩ := fun w' h => M4.out.below h M4.out.lt
  have ka : ∀ w', Below wq.heap.size wq w' → w'.cell? ⟨w.heap.size, 0, none⟩ = some (.int .i64 za) := fun w' h => (km w' h).at 0
  have kb : ∀ w', Below wq.heap.size wq w' → w'.cell? ⟨w.heap.size, 1, none⟩ = some (.int .i64 zb) := fun w' h => (km w' h).at 1
  have kd : ∀ w', Below wq.heap.size wq w' → w'.cell? ⟨w.heap.size, 2, none⟩ = some (.int .i64 zd) := fun w' h => (km w' h).at 2
  have ke : ∀ w', Below wq.heap.size wq w' → w'.cell? ⟨w.heap.size, 3, none⟩ = some (.int .i64 ze) := fun w' h => (km w' h).at 3
  have kv : ∀ w', Below wq.heap.size wq w' → w'.cell? ⟨w.heap.size, 4, none⟩ = some (.int .u8 zv) := fun w' h => (km w' h).at 4
  have kn : ∀ w', Below wq.heap.size wq w' → w'.cell? ⟨w.heap.size, 5, none⟩ = some (.bool zn) := fun w' h => (km w' h).at 5
  clear km
  refine wp_region_held_drew (S := (fun w' => Below wq.heap.size wq w')) (by kernel_rfl) ((Below.refl _ _).drew) (fun hHeld => ?_)
  refine held_take 0 (v := ?_) rfl (by kernel_rfl) (by kernel_rfl) (by kernel_rfl) (fun _ _ _ h => h) (by rfl) (fun w hS => ?_) (by assumption) ?_
  rotate_left
  · try dsimp only at hS
    go_simp <;> with_reducible rfl
  try simp only [Act.put, List.setIfInBounds_toArray, List.set_cons_zero, List.set_cons_succ]
  refine held_take 1 (v := ?_) rfl (by kernel_rfl) (by kernel_rfl) (by kernel_rfl) (fun _ _ _ h => h) (by rfl) (fun w hS => ?_) (by assumption) ?_
  rotate_left
  · try dsimp only at hS
    go_simp <;> with_reducible rfl
  try simp only [Act.put, List.setIfInBounds_toArray, List.set_cons_zero, List.set_cons_succ]
  refine held_take 2 (v := ?_) rfl (by kernel_rfl) (by kernel_rfl) (by kernel_rfl) (fun _ _ _ h => h) (by rfl) (fun w hS => ?_) (by assumption) ?_
  rotate_left
  · try dsimp only at hS
    go_simp <;> with_reducible rfl
  try simp only [Act.put, List.setIfInBounds_toArray, List.set_cons_zero, List.set_cons_succ]
  refine held_one 3 rfl (by kernel_rfl) (fun K hK => ?_)
  go_simp
  refine Calls.mono (aof2_any ⟨za, zb, zd, ze, zv, zn⟩ _) ?_
  rintro e w5 ⟨rfl, hb5'⟩
  have hb5 : Below wq.heap.size wq w5 := (Below.refl wq.heap.size wq).drew.trans (hb5'.mono (Nat.le_refl _))
  have HB5 := Lib.hid hb5
  clear hb5'
  refine hK.out _ _ (fun w' => Below wq.heap.size wq w') (fun _ h => h) hb5 (fun hHeld => ?_)
  clear hK K
  try simp only [Act.put, List.setIfInBounds_toArray, List.set_cons_zero, List.set_cons_succ]
  refine held_one 4 rfl (by kernel_rfl) (fun K hK => ?_)
  go_simp
  refine Calls.mono (renc_any ⟨za, zb, zd, ze, zv, zn⟩ _ HS.out) ?_
  rintro e w6 ⟨⟨a6, cap6, rfl, hy6, hn6⟩, hb6⟩
  have HB6 : Hid (Below wq.heap.size wq w6) := Lib.hid (HB5.out.trans (hb6.mono HB5.out.size))
  have k6 : ∀ w', Below w6.heap.size w6 w' → (convert 24 9 (.slice a6 18 cap6)).run Try.prog w' = .ok (.string (strB L)) w' := fun w' h => run_str (by rw [HLL.out]; exact hy6.below h (Nat.le_refl _)) _ 5 _ Try.underlying24 Try.underlying5 Try.underlying9 _
  have kd6 : ∀ w', Below w6.heap.size w6 w' → StgAt w' gd D := fun w' h => HD.out.below (HB6.out.trans (h.mono HB6.out.size)) HD.out.lt
  have kg6 : ∀ w', Below w6.heap.size w6 w' → StgAt13 w' gg D := fun w' h => HG.out.below (HB6.out.trans (h.mono HB6.out.size)) HG.out.lt
  have kda : ∀ w', Below w6.heap.size w6 w' → w'.cell? ⟨gd, 0, none⟩ = some (.int .i64 D.a) := fun w' h => (kd6 w' h).at 0
  have kdb : ∀ w', Below w6.heap.size w6 w' → w'.cell? ⟨gd, 1, none⟩ = some (.int .i64 D.b) := fun w' h => (kd6 w' h).at 1
  have kdd : ∀ w', Below w6.heap.size w6 w' → w'.cell? ⟨gd, 2, none⟩ = some (.int .i64 D.d) := fun w' h => (kd6 w' h).at 2
  have kde : ∀ w', Below w6.heap.size w6 w' → w'.cell? ⟨gd, 3, none⟩ = some (.int .i64 D.e) := fun w' h => (kd6 w' h).at 3
  have kdv : ∀ w', Below w6.heap.size w6 w' → w'.cell? ⟨gd, 4, none⟩ = some (.int .u8 D.v) := fun w' h => (kd6 w' h).at 4
  have kdn : ∀ w', Below w6.heap.size w6 w' → w'.cell? ⟨gd, 5, none⟩ = some (.bool D.dn) := fun w' h => (kd6 w' h).at 5
  have kga : ∀ w', Below w6.heap.size w6 w' → w'.cell? ⟨gg, 0, none⟩ = some (.int .i64 D.a) := fun w' h => (kg6 w' h).at 0
  have kgb : ∀ w', Below w6.heap.size w6 w' → w'.cell? ⟨gg, 1, none⟩ = some (.int .i64 D.b) := fun w' h => (kg6 w' h).at 1
  have kgd : ∀ w', Below w6.heap.size w6 w' → w'.cell? ⟨gg, 2, none⟩ = some (.int .i64 D.d) := fun w' h => (kg6 w' h).at 2
  have kge : ∀ w', Below w6.heap.size w6 w' → w'.cell? ⟨gg, 3, none⟩ = some (.int .i64 D.e) := fun w' h => (kg6 w' h).at 3
  have kgv : ∀ w', Below w6.heap.size w6 w' → w'.cell? ⟨gg, 4, none⟩ = some (.int .u8 D.v) := fun w' h => (kg6 w' h).at 4
  have kgn : ∀ w', Below w6.heap.size w6 w' → w'.cell? ⟨gg, 5, none⟩ = some (.bool D.dn) := fun w' h => (kg6 w' h).at 5
  clear hb6 hy6 hn6 k5 hb5 kd6 kg6
  refine hK.out _ _ (fun w' => Below w6.heap.size w6 w') (fun _ h => HB6.out.trans (h.mono HB6.out.size)) (Below.refl _ _) (fun hHeld => ?_)
  clear hK K
  try simp only [Act.put, List.setIfInBounds_toArray, List.set_cons_zero, List.set_cons_succ]
  refine held_take 5 (v := ?_) rfl (by kernel_rfl) (by kernel_rfl) (by kernel_rfl) (fun _ _ _ h => h) (by rfl) (fun w hS => ?_) (by assumption) ?_
  rotate_left
  · try dsimp only at hS
    go_simp <;> with_reducible rfl
  try simp only [Act.put, List.setIfInBounds_toArray, List.set_cons_zero, List.set_cons_succ]
  refine held_take 6 (v := ?_) rfl (by kernel_rfl) (by kernel_rfl) (by kernel_rfl) (fun _ _ _ h => h) (by rfl) (fun w hS => ?_) (by assumption) ?_
  rotate_left
  · try dsimp only at hS
    go_simp <;> with_reducible rfl
  try simp only [Act.put, List.setIfInBounds_toArray, List.set_cons_zero, List.set_cons_succ]
  refine held_take 7 (v := ?_) rfl (by kernel_rfl) (by kernel_rfl) (by kernel_rfl) (fun _ _ _ h => h) (by rfl) (fun w hS => ?_) (by assumption) ?_
  rotate_left
  · try dsimp only at hS
    go_simp <;> with_reducible rfl
  try simp only [Act.put, List.setIfInBounds_toArray, List.set_cons_zero, List.set_cons_succ]
  refine held_take 8 (v := ?_) rfl (by kernel_rfl) (by kernel_rfl) (by kernel_rfl) (fun _ _ _ h => h) (by rfl) (fun w hS => ?_) (by assumption) ?_
  rotate_left
  · try dsimp only at hS
    go_simp <;> with_reducible rfl
  try simp only [Act.put, List.setIfInBounds_toArray, List.set_cons_zero, List.set_cons_succ]
  refine held_take 10 (v := ?_) rfl (by kernel_rfl) (by kernel_rfl) (by kernel_rfl) (fun _ _ _ h => h) (by rfl) (fun w hS => ?_) (by assumption) ?_
  rotate_left
  · try dsimp only at hS
    go_simp <;> with_reducible rfl
  try simp only [Act.put, List.setIfInBounds_toArray, List.set_cons_zero, List.set_cons_succ]
  refine held_one 9 rfl (by kernel_rfl) (fun K hK => ?_)
  go_simp
  refine Calls.mono (aof2_any D _) ?_
  rintro e w7 ⟨rfl, hb7⟩
  have HB7 : Hid (Below wq.heap.size wq w7) := Lib.hid (HB6.out.trans (hb7.mono HB6.out.size))
  refine hK.out _ _ (fun w' => Below w6.heap.size w6 w') (fun _ h => h) hb7 (fun hHeld => ?_)
  clear hK K
  try simp only [Act.put, List.setIfInBounds_toArray, List.set_cons_zero, List.set_cons_succ]
  refine held_take 11 (v := ?_) rfl (by kernel_rfl) (by kernel_rfl) (by kernel_rfl) (fun _ _ _ h => h) (by rfl) (fun w hS => ?_) (by assumption) ?_
  rotate_left
  · try dsimp only at hS
    go_simp <;> with_reducible rfl
  try simp only [Act.put, List.setIfInBounds_toArray, List.set_cons_zero, List.set_cons_succ]
  refine held_take 12 (v := ?_) rfl (by kernel_rfl) (by kernel_rfl) (by kernel_rfl) (fun _ _ _ h => h) (by rfl) (fun w hS => ?_) (by assumption) ?_
  rotate_left
  · try dsimp only at hS
    go_simp <;> with_reducible rfl
  try simp only [Act.put, List.setIfInBounds_toArray, List.set_cons_zero, List.set_cons_succ]
  refine held_take 13 (v := ?_) rfl (by kernel_rfl) (by kernel_rfl) (by kernel_rfl) (fun _ _ _ h => h) (by rfl) (fun w hS => ?_) (by assumption) ?_
  rotate_left
  · try dsimp only at hS
    go_simp <;> with_reducible rfl
  try simp only [Act.put, List.setIfInBounds_toArray, List.set_cons_zero, List.set_cons_succ]
  refine held_take 14 (v := ?_) rfl (by kernel_rfl) (by kernel_rfl) (by kernel_rfl) (fun _ _ _ h => h) (by rfl) (fun w hS => ?_) (by assumption) ?_
  rotate_left
  · try dsimp only at hS
    go_simp <;> with_reducible rfl
  try simp only [Act.put, List.setIfInBounds_toArray, List.set_cons_zero, List.set_cons_succ]
  refine held_take 15 (v := ?_) rfl (by kernel_rfl) (by kernel_rfl) (by kernel_rfl) (fun _ _ _ h => h) (by rfl) (fun w hS => ?_) (by assumption) ?_
  rotate_left
  · try dsimp only at hS
    go_simp <;> with_reducible rfl
  try simp only [Act.put, List.setIfInBounds_toArray, List.set_cons_zero, List.set_cons_succ]
  refine held_take 16 (v := ?_) rfl (by kernel_rfl) (by kernel_rfl) (by kernel_rfl) (fun _ _ _ h => h) (by rfl) (fun w hS => ?_) (by assumption) ?_
  rotate_left
  · try dsimp only at hS
    go_simp <;> with_reducible rfl
  try simp only [Act.put, List.setIfInBounds_toArray, List.set_cons_zero, List.set_cons_succ]
  refine held_take 17 (v := ?_) rfl (by kernel_rfl) (by kernel_rfl) (by kernel_rfl) (fun _ _ _ h => h) (by rfl) (fun w hS => ?_) (by assumption) ?_
  rotate_left
  · try dsimp only at hS
    go_simp <;> with_reducible rfl
  try simp only [Act.put, List.setIfInBounds_toArray, List.set_cons_zero, List.set_cons_succ]
  refine held_done (by kernel_rfl) ?_
  have M7 := Lib.hid (M4.out.below HB7.out M4.out.lt)
  have HX7 := Lib.hid (HX4.out.below HB7.out (Nat.le_refl _))
  have HB8 : Hid (Below w.heap.size w w7) := Lib.hid (HB4.out.trans (HB7.out.mono HB4.out.size))
  clear k6 kda kdb kdd kde kdv kdn kga kgb kgd kge kgv kgn ka kb kd ke kv kn hq13 hb7 HB7 HB6 HB5 HD HG HD4 HG4 HX4 HB4 M4
  go_wp2_with fail
  refine (adec_any a2 18 cap2 L _ HX7.out (by omega)).mono ?_
  rintro e w8 ⟨he, hb8⟩
  unfold decE at he
  rw [HErr.out] at he
  obtain ⟨Y, hY⟩ : ∃ Y, Y = decS L := ⟨_, rfl⟩
  rw [← hY] at he HEq
  subst he
  have hb8' : Below w7.heap.size w7 (w8.alloc (.cells #[.int .i64 Y.a, .int .i64 Y.b, .int .i64 Y.d, .int .i64 Y.e, .int .u8 Y.v, .bool Y.dn] 36)) := hb8.alloc hb8.size _
  have M8 := Lib.hid (M7.out.below hb8' M7.out.lt)
  have HB9 : Hid (Below w.heap.size w (w8.alloc (.cells #[.int .i64 Y.a, .int .i64 Y.b, .int .i64 Y.d, .int .i64 Y.e, .int .u8 Y.v, .bool Y.dn] 36))) := Lib.hid (HB8.out.trans (hb8'.mono HB8.out.size))
  have HY8 := Lib.hid (stg_new w8 Y)
  clear hb8 hb8' HB8 M7 HX7 hY
  go_wp2_with fail
  obtain ⟨wy, hwy⟩ : ∃ wy, w8.alloc (.cells #[.int .i64 Y.a, .int .i64 Y.b, .int .i64 Y.d, .int .i64 Y.e, .int .u8 Y.v, .bool Y.dn] 36) = wy := ⟨_, rfl⟩
  obtain ⟨gy, hgy⟩ : ∃ gy, gy = w8.heap.size := ⟨_, rfl⟩
  rw [hwy] at M8 HB9 HY8 ⊢
  rw [← hgy] at HY8 ⊢
  clear hwy hgy
  rw [← HSS.out] at M8
  obtain ⟨_, x0, x1, x2, x3, x4, x5⟩ := HasB.six M8.out
  obtain ⟨_, y0, y1, y2, y3, y4, y5⟩ := HasB.six HY8.out
  go_loopw [11] (fun i wr => ∃ k : Nat, k ≤ 4 ∧ i = .int .i64 (k : Int) ∧ wr = wy ∧ Hid (∀ j : Nat, j < k → 0 ≤ s.sz j ∧ s.sz j ≤ 4294967295)) (fun i _ => 4 - (intOf i).toNat)
  case atStart => exact ⟨0, by omega, rfl, rfl, Lib.hid (fun j hj => by omega)⟩
  case round =>
    obtain ⟨k, hk, rfl, rfl, HIn⟩ := hrel
    by_cases hlt : k < 4
    · have t2 : (k : Int) < 4 := by omega
      have t3 : (0 : Int) ≤ (k : Int) ∧ (k : Int) < 4 := by omega
      have hik : wr.cell? ⟨w.heap.size, k, none⟩ = some (.int .i64 (s.sz k)) := (M8.out.at k).trans (HSz.out k hlt)
      have HNx : Hid (0 ≤ s.sz k → s.sz k ≤ 4294967295 → ∀ j : Nat, j < k + 1 → 0 ≤ s.sz j ∧ s.sz j ≤ 4294967295) := Lib.hid (fun h1 h2 j hj => by
        by_cases q : j = k
        · rw [q]; exact ⟨h1, h2⟩
        · exact HIn.out j (by omega))
      generalize s.sz k = n at hik HNx
      clear x0 x1 x2 x3 x4 x5 y0 y1 y2 y3 y4 y5
      by_cases hn0 : n < 0
      · go_wp2_with fail
        go_ret
        exact ⟨rfl, HB9.out⟩
      · by_cases hn1 : n > 4294967295
        · go_wp2_with fail
          go_ret
          exact ⟨rfl, HB9.out⟩
        · go_wp2_with fail
          go_roundw
          case rel => exact ⟨k + 1, by omega, by go_num, by first | trivial | rfl, Lib.hid (HNx.out (by omega) (by omega))⟩
          case measure => simp [intOf]; omega
    · obtain rfl : k = 4 := by omega
      have hYs := HEq.out HIn.out
      clear HSS
      subst hYs
      have hq := fun w => stg_eq Y w
      go_wp2_with fail
      go_ret
      exact ⟨rfl, HB9.out⟩
end Go.Proofs.Ytdbnadhmkfhdkaa
