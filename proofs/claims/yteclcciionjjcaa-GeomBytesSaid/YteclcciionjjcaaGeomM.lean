/- geom: what was encoded is decoded (plain); GeomBytes: the walk. -/
import Derived.Test.YteclcciionjjcaaGeomL
namespace Go.Proofs.Yteclcciionjjcaa
open Go Go.RowKit
set_option linter.unusedVariables false

theorem u32_parts (U : Nat) (h : U < 4294967296) : U % 256 + 256 * (U / 256 % 256) + 65536 * (U / 65536 % 256) + 16777216 * (U / 16777216 % 256) = U := by omega
theorem encG_getD (c : Cfg) (k j : Nat) (hj : j < 4) : ∀ m, k < m → (encG c m).getD (4 * k + j) 0 = (le4 (c.num k)).getD j 0
  | 0, h => by omega
  | m + 1, h => by
    rw [encG, List.getD_eq_getElem?_getD]
    by_cases q : k < m
    · rw [List.getElem?_append_left (by rw [encG_len]; omega), ← List.getD_eq_getElem?_getD]
      exact encG_getD c k j hj m q
    · obtain rfl : k = m := by omega
      rw [List.getElem?_append_right (by rw [encG_len]; omega), encG_len, show 4 * k + j - 4 * k = j by omega, List.getD_eq_getElem?_getD]
theorem encG_at (c : Cfg) (k : Nat) (hk : k < 9) : numB (encG c 9) k = u32n (c.num k) := by
  unfold numB
  rw [show 4 * k = 4 * k + 0 from rfl, encG_getD c k 0 (by omega) 9 hk, encG_getD c k 1 (by omega) 9 hk, encG_getD c k 2 (by omega) 9 hk, encG_getD c k 3 (by omega) 9 hk]
  exact u32_parts _ (u32n_lt _)
theorem cfg_same {c : Cfg} (h : OkC c) : cfgB (encG c 9) = c := by
  obtain ⟨c1, c2, c3, c4, c5, c6, c7, c8, c9, c10, c11, c12, c13, c14, c15, c16, c17, c18, c19, c20, c21, c22⟩ := h
  have e : ∀ n : Int, 0 ≤ n ∧ n ≤ 4294967295 → ((u32n n : Nat) : Int) = n := by intro n hn; unfold u32n; omega
  unfold cfgB
  rw [encG_at c 0 (by omega), encG_at c 1 (by omega), encG_at c 2 (by omega), encG_at c 3 (by omega), encG_at c 4 (by omega), encG_at c 5 (by omega), encG_at c 6 (by omega), encG_at c 7 (by omega), encG_at c 8 (by omega)]
  simp only [Cfg.num]
  rw [e c.blocks (by omega), e c.pages (by omega), e c.sector (by omega), e c.user (by omega), e c.boot (by omega), e c.rpa (by omega), e c.group (by omega), e c.cache (by omega), e c.spare (by omega)]
theorem dec_same {c : Cfg} (h : checkOf c = 0) : decE (encG c 9) = .returned (.tuple #[.agg #[.int .i64 c.blocks, .int .i64 c.pages, .int .i64 c.sector, .int .i64 c.user, .int .i64 c.boot, .int .i64 c.rpa, .int .i64 c.group, .int .i64 c.cache, .int .i64 c.spare], .int .i64 0]) := by
  have hs := cfg_same (check_zero h).1
  rw [decE_ok (by unfold decErr; rw [if_neg]; rw [hs, encG_len, h]; simp), hs]

set_option maxRecDepth 100000 in
set_option maxHeartbeats 8000000 in
theorem gbytes_any (c : Cfg) (a : Option Addr) (len cap : Nat) (l : List Nat) (w : World) (hwf : c.wf) (hi : Bytes w a len l) (hlc : len ≤ cap) (hcm : cap ≤ maxLen) :
    Calls Try.prog 3 #[.agg #[.int .i64 c.blocks, .int .i64 c.pages, .int .i64 c.sector, .int .i64 c.user, .int .i64 c.boot, .int .i64 c.rpa, .int .i64 c.group, .int .i64 c.cache, .int .i64 c.spare], .slice a len cap] w fun e w' => e = .returned (.bool true) ∧ Below w.heap.size w w' := by
  obtain ⟨POST, hPOST⟩ : ∃ Q : Ending → World → Prop, Q = fun e w' => e = .returned (.bool true) ∧ Below w.heap.size w w' := ⟨_, rfl⟩
  rw [← hPOST]
  have HPOST := Lib.hid hPOST
  have hS := dec_same (c := c)
  have hen := fun w => genc_any c w
  have hre := fun w => rgenc_any c w
  have hck := fun w => check_any c w hwf
  obtain ⟨CC, hCC⟩ : ∃ X : Array Value, X = #[.int .i64 c.blocks, .int .i64 c.pages, .int .i64 c.sector, .int .i64 c.user, .int .i64 c.boot, .int .i64 c.rpa, .int .i64 c.group, .int .i64 c.cache, .int .i64 c.spare] := ⟨_, rfl⟩
  have HICC : Hid ((Try.prog.info? 23).map (·.size) = some CC.size) := Lib.hid (by rw [hCC]; exact info_cfg)
  have HOCC : Hid ((#[.int .i64 0, .int .i64 0, .int .i64 0, .int .i64 0, .int .i64 0, .int .i64 0, .int .i64 0, .int .i64 0, .int .i64 0] : Array Value).size = CC.size) := Lib.hid (by rw [hCC]; rfl)
  have HECC : Hid (CC.all (·.oneCell') = true) := Lib.hid (by rw [hCC]; simp [Value.oneCell'])
  have hqCC : ∀ w, (Op.equalIn 10000 23 (.agg CC) (.agg CC)).run Try.prog w = .ok true w := fun w => by rw [hCC, eqCfg]; simp
  rw [← hCC] at hen hre hck hS
  rw [← hCC]
  obtain ⟨DC, hDC⟩ : ∃ X : Array Value, X = #[.int .i64 (decS l).blocks, .int .i64 (decS l).pages, .int .i64 (decS l).sector, .int .i64 (decS l).user, .int .i64 (decS l).boot, .int .i64 (decS l).rpa, .int .i64 (decS l).group, .int .i64 (decS l).cache, .int .i64 (decS l).spare] := ⟨_, rfl⟩
  have HIDC : Hid ((Try.prog.info? 23).map (·.size) = some DC.size) := Lib.hid (by rw [hDC]; exact info_cfg)
  have HODC : Hid ((#[.int .i64 0, .int .i64 0, .int .i64 0, .int .i64 0, .int .i64 0, .int .i64 0, .int .i64 0, .int .i64 0, .int .i64 0] : Array Value).size = DC.size) := Lib.hid (by rw [hDC]; rfl)
  have HEDC : Hid (DC.all (·.oneCell') = true) := Lib.hid (by rw [hDC]; simp [Value.oneCell'])
  have hqDC : ∀ w, (Op.equalIn 10000 23 (.agg DC) (.agg DC)).run Try.prog w = .ok true w := fun w => by rw [hDC, eqCfg]; simp
  have HDE : Hid (decE l = .returned (.tuple #[.agg DC, .int .i64 (decErr l)])) := Lib.hid (by rw [hDC]; rfl)
  obtain ⟨YC, hYC⟩ : ∃ X : Array Value, X = #[.int .i64 (decS (encG c 9)).blocks, .int .i64 (decS (encG c 9)).pages, .int .i64 (decS (encG c 9)).sector, .int .i64 (decS (encG c 9)).user, .int .i64 (decS (encG c 9)).boot, .int .i64 (decS (encG c 9)).rpa, .int .i64 (decS (encG c 9)).group, .int .i64 (decS (encG c 9)).cache, .int .i64 (decS (encG c 9)).spare] := ⟨_, rfl⟩
  have HIYC : Hid ((Try.prog.info? 23).map (·.size) = some YC.size) := Lib.hid (by rw [hYC]; exact info_cfg)
  have HOYC : Hid ((#[.int .i64 0, .int .i64 0, .int .i64 0, .int .i64 0, .int .i64 0, .int .i64 0, .int .i64 0, .int .i64 0, .int .i64 0] : Array Value).size = YC.size) := Lib.hid (by rw [hYC]; rfl)
  have HEYC : Hid (YC.all (·.oneCell') = true) := Lib.hid (by rw [hYC]; simp [Value.oneCell'])
  have hqYC : ∀ w, (Op.equalIn 10000 23 (.agg YC) (.agg YC)).run Try.prog w = .ok true w := fun w => by rw [hYC, eqCfg]; simp
  have HYE : Hid (decE (encG c 9) = .returned (.tuple #[.agg YC, .int .i64 (decErr (encG c 9))])) := Lib.hid (by rw [hYC]; rfl)
  have HOY : Hid (DC.size = YC.size) := Lib.hid (by rw [hDC, hYC]; rfl)
  have HOCY : Hid (DC.size = CC.size) := Lib.hid (by rw [hDC, hCC]; rfl)
  obtain ⟨E, hE⟩ : ∃ E, E = decErr l := ⟨_, rfl⟩
  obtain ⟨EY, hEY⟩ : ∃ E, E = decErr (encG c 9) := ⟨_, rfl⟩
  rw [← hE] at HDE
  rw [← hEY] at HYE
  have HLn : Hid ((encG c 9).length = 36 ∧ ∀ x ∈ encG c 9, x < 256) := Lib.hid ⟨encG_len c 9, encG_lt c 9⟩
  obtain ⟨L, hL⟩ : ∃ L, L = encG c 9 := ⟨_, rfl⟩
  rw [← hL] at hen hre hS HYE HLn
  have HS := Lib.hid hS
  have HEn := Lib.hid hen
  have HRe := Lib.hid hre
  have HCk := Lib.hid hck
  have HI := Lib.hid hi
  have M1 : Hid ((w.alloc (.cells CC 23)).heap[w.heap.size]? = some (.cells CC 23 (0, 0))) := Lib.hid (HasB.new _ _ _)
  have HB1 : Hid (Below w.heap.size w (w.alloc (.cells CC 23))) := Lib.hid ((Below.refl _ _).alloc (Nat.le_refl _) _)
  clear hen hre hck hS hi hCC hDC hYC hL hE hEY hPOST
  go_enter Try.func3, Try.ntmps3
  go_wp2_with fail
  obtain ⟨g0, hg0⟩ : ∃ g0, g0 = w.heap.size := ⟨_, rfl⟩
  rw [← hg0] at M1 ⊢
  have HG0 := Lib.hid hg0
  clear hg0
  generalize w.alloc (.cells CC 23) = w1 at M1 HB1 ⊢
  refine (gknown_any _).mono ?_
  rintro e w2 ⟨rfl, hb2⟩
  have M2 : Hid (w2.heap[g0]? = some (.cells CC 23 (0, 0))) := Lib.hid (HasB.below M1.out hb2 (HasB.lt M1.out))
  have HB2 : Hid (Below w.heap.size w w2) := Lib.hid (HB1.out.trans (hb2.mono HB1.out.size))
  clear hb2 M1 HB1
  by_cases h1 : 1000 < len
  · have t1 : (1000 : Int) < (len : Int) := by omega
    go_wp2_with fail
    rw [HPOST.out]
    exact ⟨rfl, HB2.out⟩
  have t1 : ¬ (1000 : Int) < (len : Int) := by omega
  go_wp2_with (with_reducible refine wpList_load_row rfl 23 (.tmp 2) rfl g0 rfl 23 CC (0, 0) _ M2.out Try.underlying23 rfl HICC.out ?_)
  refine (HEn.out w2).mono ?_
  rintro e w3 ⟨⟨a3, cap3, rfl, hy3, hlc3, hcm3⟩, hb3⟩
  have M3 : Hid (w3.heap[g0]? = some (.cells CC 23 (0, 0))) := Lib.hid (HasB.below M2.out hb3 (HasB.lt M2.out))
  have HB3 : Hid (Below w.heap.size w w3) := Lib.hid (HB2.out.trans (hb3.mono HB2.out.size))
  have HX3 := Lib.hid hy3
  have HI3 : Hid (Bytes w3 a len l) := Lib.hid (HI.out.below HB3.out (Nat.le_refl _))
  clear hy3 hb3 M2 HB2
  go_wp2_with fail
  refine (gdec_any a len cap l w3 HI3.out (by omega) hlc hcm).mono ?_
  rintro e w4 ⟨he, hb4⟩
  rw [HDE.out] at he
  subst he
  go_wp2_with (with_reducible refine stop_store 6 _ _ rfl ?_)
  refine Stop.go ?_
  refine wpList_store_row rfl 23 (.tmp 6) (.tmp 20) rfl w4.heap.size DC rfl rfl 23 _ (heap_new w4 _) HIDC.out HODC.out HEDC.out ?_
  rw [World.setRow_alloc_new]
  have hb4' : Below w3.heap.size w3 (w4.alloc (.cells DC 23)) := hb4.alloc hb4.size _
  have M4 : Hid ((w4.alloc (.cells DC 23)).heap[g0]? = some (.cells CC 23 (0, 0))) := Lib.hid (HasB.below M3.out hb4' (HasB.lt M3.out))
  have HB4 : Hid (Below w.heap.size w (w4.alloc (.cells DC 23))) := Lib.hid (HB3.out.trans (hb4'.mono HB3.out.size))
  have HX4 : Hid (Bytes (w4.alloc (.cells DC 23)) a3 36 L) := Lib.hid (HX3.out.below hb4' (Nat.le_refl _))
  have HI4 : Hid (Bytes (w4.alloc (.cells DC 23)) a len l) := Lib.hid (HI.out.below HB4.out (Nat.le_refl _))
  have D4 : Hid ((w4.alloc (.cells DC 23)).heap[w4.heap.size]? = some (.cells DC 23 (0, 0))) := Lib.hid (HasB.new _ _ _)
  have L4 : Hid (w.heap.size < w4.heap.size) := Lib.hid (by have := HasB.lt M3.out; have := hb4.size; have := HG0.out; omega)
  obtain ⟨gd, hgd⟩ : ∃ gd, gd = w4.heap.size := ⟨_, rfl⟩
  rw [← hgd] at D4 L4 ⊢
  generalize w4.alloc (.cells DC 23) = w5 at M4 HB4 HX4 HI4 D4 ⊢
  clear hb4 hb4' hgd M3 HB3 HX3 HI3
  go_wp2_with fail
  refine (rgdec_any a len cap l w5 HI4.out (by omega)).mono ?_
  rintro e w6 ⟨he, hb6⟩
  rw [HDE.out] at he
  subst he
  go_wp2_with (with_reducible refine stop_store 8 _ _ rfl ?_)
  refine Stop.go ?_
  refine wpList_store_row rfl 23 (.tmp 8) (.tmp 25) rfl w6.heap.size DC rfl rfl 23 _ (heap_new w6 _) HIDC.out HODC.out HEDC.out ?_
  rw [World.setRow_alloc_new]
  have hb6' : Below w5.heap.size w5 (w6.alloc (.cells DC 23)) := hb6.alloc hb6.size _
  have M6 : Hid ((w6.alloc (.cells DC 23)).heap[g0]? = some (.cells CC 23 (0, 0))) := Lib.hid (HasB.below M4.out hb6' (HasB.lt M4.out))
  have D6 : Hid ((w6.alloc (.cells DC 23)).heap[gd]? = some (.cells DC 23 (0, 0))) := Lib.hid (HasB.below D4.out hb6' (HasB.lt D4.out))
  have HB6 : Hid (Below w.heap.size w (w6.alloc (.cells DC 23))) := Lib.hid (HB4.out.trans (hb6'.mono HB4.out.size))
  have HX6 : Hid (Bytes (w6.alloc (.cells DC 23)) a3 36 L) := Lib.hid (HX4.out.below hb6' (Nat.le_refl _))
  have G6 : Hid ((w6.alloc (.cells DC 23)).heap[w6.heap.size]? = some (.cells DC 23 (0, 0))) := Lib.hid (HasB.new _ _ _)
  obtain ⟨gg, hgg⟩ : ∃ gg, gg = w6.heap.size := ⟨_, rfl⟩
  rw [← hgg] at G6 ⊢
  generalize w6.alloc (.cells DC 23) = wq at M6 HB6 HX6 D6 G6 ⊢
  clear hb6 hb6' hgg M4 HB4 HX4 HI4 D4
  have k5 : ∀ w', Below wq.heap.size wq w' → (convert 24 9 (.slice a3 36 cap3)).run Try.prog w' = .ok (.string (strB L)) w' := fun w' h => run_str (HX6.out.below h (Nat.le_refl _)) _ 5 _ Try.underlying24 Try.underlying5 Try.underlying9 _
  have KM : Hid (∀ w', Below wq.heap.size wq w' → w'.heap[g0]? = some (.cells CC 23 (0, 0))) := Lib.hid (fun w' h => HasB.below M6.out h (HasB.lt M6.out))
  have KD : Hid (∀ w', Below wq.heap.size wq w' → w'.heap[gd]? = some (.cells DC 23 (0, 0))) := Lib.hid (fun w' h => HasB.below D6.out h (HasB.lt D6.out))
  have KG : Hid (∀ w', Below wq.heap.size wq w' → w'.heap[gg]? = some (.cells DC 23 (0, 0))) := Lib.hid (fun w' h => HasB.below G6.out h (HasB.lt G6.out))
  go_wp2_with fail
  refine wp_region_held_drew (S := (fun w' => Below wq.heap.size wq w')) (by kernel_rfl) ((Below.refl _ _).drew) (fun hHeld => ?_)
  refine held_take 0 (v := ?_) rfl (by kernel_rfl) (by kernel_rfl) (by kernel_rfl) (fun _ _ _ h => h) (by rfl) (fun w hS => ?_) (by assumption) ?_
  rotate_left
  · try dsimp only at hS
    go_simp <;> with_reducible rfl
  try simp only [Act.put, List.setIfInBounds_toArray, List.set_cons_zero, List.set_cons_succ]
  refine held_take 1 (v := ?_) rfl (by kernel_rfl) (by kernel_rfl) (by kernel_rfl) (fun _ _ _ h => h) (by rfl) (fun w hS => ?_) (by assumption) ?_
  rotate_left
  · try dsimp only at hS
    go_simp <;> with_reducible rfl
  try simp only [Act.put, List.setIfInBounds_toArray, List.set_cons_zero, List.set_cons_succ]
  refine held_take 2 (v := (.agg CC)) rfl (by kernel_rfl) (by kernel_rfl) (by kernel_rfl) (fun _ _ _ h => h) (by rfl) (fun w hS => ?_) (by assumption) ?_
  · exact yield_row _ _ 23 (.tmp 2) (by rfl) g0 (by rfl) 23 CC (0, 0) _ (KM.out w (by assumption)) Try.underlying23 (by rfl) HICC.out
  try simp only [Act.put, List.setIfInBounds_toArray, List.set_cons_zero, List.set_cons_succ]
  refine held_one 3 rfl (by kernel_rfl) (fun K hK => ?_)
  go_simp
  refine Calls.mono (HRe.out _) ?_
  rintro e w7 ⟨⟨a7, cap7, rfl, hy7, -, -⟩, hb7⟩
  have HB7 : Hid (Below wq.heap.size wq w7) := Lib.hid ((Below.refl _ _).drew.trans hb7)
  have k6 : ∀ w', Below w7.heap.size w7 w' → (convert 24 9 (.slice a7 36 cap7)).run Try.prog w' = .ok (.string (strB L)) w' := fun w' h => run_str (hy7.below h (Nat.le_refl _)) _ 5 _ Try.underlying24 Try.underlying5 Try.underlying9 _
  clear hb7 k5
  refine hK.out _ _ (fun w' => Below w7.heap.size w7 w') (fun _ h => HB7.out.trans (h.mono HB7.out.size)) (Below.refl _ _) (fun hHeld => ?_)
  clear hK K
  try simp only [Act.put, List.setIfInBounds_toArray, List.set_cons_zero, List.set_cons_succ]
  refine held_take 4 (v := ?_) rfl (by kernel_rfl) (by kernel_rfl) (by kernel_rfl) (fun _ _ _ h => h) (by rfl) (fun w hS => ?_) (by assumption) ?_
  rotate_left
  · try dsimp only at hS
    go_simp <;> with_reducible rfl
  try simp only [Act.put, List.setIfInBounds_toArray, List.set_cons_zero, List.set_cons_succ]
  refine held_take 5 (v := ?_) rfl (by kernel_rfl) (by kernel_rfl) (by kernel_rfl) (fun _ _ _ h => h) (by rfl) (fun w hS => ?_) (by assumption) ?_
  rotate_left
  · try dsimp only at hS
    go_simp <;> with_reducible rfl
  try simp only [Act.put, List.setIfInBounds_toArray, List.set_cons_zero, List.set_cons_succ]
  refine held_take 6 (v := ?_) rfl (by kernel_rfl) (by kernel_rfl) (by kernel_rfl) (fun _ _ _ h => h) (by rfl) (fun w hS => ?_) (by assumption) ?_
  rotate_left
  · try dsimp only at hS
    go_simp <;> with_reducible rfl
  try simp only [Act.put, List.setIfInBounds_toArray, List.set_cons_zero, List.set_cons_succ]
  refine held_take 7 (v := (.agg DC)) rfl (by kernel_rfl) (by kernel_rfl) (by kernel_rfl) (fun _ _ _ h => h) (by rfl) (fun w hS => ?_) (by assumption) ?_
  · exact yield_row _ _ 23 (.tmp 6) (by rfl) gd (by rfl) 23 DC (0, 0) _ (KD.out w (HB7.out.trans (hS.mono HB7.out.size))) Try.underlying23 (by rfl) HIDC.out
  try simp only [Act.put, List.setIfInBounds_toArray, List.set_cons_zero, List.set_cons_succ]
  refine held_take 8 (v := (.agg DC)) rfl (by kernel_rfl) (by kernel_rfl) (by kernel_rfl) (fun _ _ _ h => h) (by rfl) (fun w hS => ?_) (by assumption) ?_
  · exact yield_row _ _ 23 (.tmp 8) (by rfl) gg (by rfl) 23 DC (0, 0) _ (KG.out w (HB7.out.trans (hS.mono HB7.out.size))) Try.underlying23 (by rfl) HIDC.out
  try simp only [Act.put, List.setIfInBounds_toArray, List.set_cons_zero, List.set_cons_succ]
  refine held_take 9 (v := ?_) rfl (by kernel_rfl) (by kernel_rfl) (by kernel_rfl) (fun _ _ _ h => h) (by rfl) (fun w hS => ?_) (by assumption) ?_
  rotate_left
  · try dsimp only at hS
    go_simp <;> with_reducible rfl
  try simp only [Act.put, List.setIfInBounds_toArray, List.set_cons_zero, List.set_cons_succ]
  refine held_take 10 (v := ?_) rfl (by kernel_rfl) (by kernel_rfl) (by kernel_rfl) (fun _ _ _ h => h) (by rfl) (fun w hS => ?_) (by assumption) ?_
  rotate_left
  · try dsimp only at hS
    go_simp <;> with_reducible rfl
  try simp only [Act.put, List.setIfInBounds_toArray, List.set_cons_zero, List.set_cons_succ]
  refine held_take 11 (v := ?_) rfl (by kernel_rfl) (by kernel_rfl) (by kernel_rfl) (fun _ _ _ h => h) (by rfl) (fun w hS => ?_) (by assumption) ?_
  rotate_left
  · try dsimp only at hS
    go_simp <;> with_reducible rfl
  try simp only [Act.put, List.setIfInBounds_toArray, List.set_cons_zero, List.set_cons_succ]
  refine held_take 12 (v := ?_) rfl (by kernel_rfl) (by kernel_rfl) (by kernel_rfl) (fun _ _ _ h => h) (by rfl) (fun w hS => ?_) (by assumption) ?_
  rotate_left
  · try dsimp only at hS
    go_simp <;> with_reducible rfl
  try simp only [Act.put, List.setIfInBounds_toArray, List.set_cons_zero, List.set_cons_succ]
  refine held_take 13 (v := ?_) rfl (by kernel_rfl) (by kernel_rfl) (by kernel_rfl) (fun _ _ _ h => h) (by rfl) (fun w hS => ?_) (by assumption) ?_
  rotate_left
  · try dsimp only at hS
    go_simp <;> with_reducible rfl
  try simp only [Act.put, List.setIfInBounds_toArray, List.set_cons_zero, List.set_cons_succ]
  refine held_take 14 (v := ?_) rfl (by kernel_rfl) (by kernel_rfl) (by kernel_rfl) (fun _ _ _ h => h) (by rfl) (fun w hS => ?_) (by assumption) ?_
  rotate_left
  · try dsimp only at hS
    go_simp <;> with_reducible rfl
  try simp only [Act.put, List.setIfInBounds_toArray, List.set_cons_zero, List.set_cons_succ]
  refine held_take 15 (v := ?_) rfl (by kernel_rfl) (by kernel_rfl) (by kernel_rfl) (fun _ _ _ h => h) (by rfl) (fun w hS => ?_) (by assumption) ?_
  rotate_left
  · try dsimp only at hS
    go_simp <;> with_reducible rfl
  try simp only [Act.put, List.setIfInBounds_toArray, List.set_cons_zero, List.set_cons_succ]
  refine held_done (by kernel_rfl) ?_
  have M7 : Hid (w7.heap[g0]? = some (.cells CC 23 (0, 0))) := Lib.hid (KM.out _ HB7.out)
  have D7 : Hid (w7.heap[gd]? = some (.cells DC 23 (0, 0))) := Lib.hid (KD.out _ HB7.out)
  have HX7 : Hid (Bytes w7 a3 36 L) := Lib.hid (HX6.out.below HB7.out (Nat.le_refl _))
  have HB8 : Hid (Below w.heap.size w w7) := Lib.hid (HB6.out.trans (HB7.out.mono HB6.out.size))
  clear k6 hy7 KM KD KG HB7 HX6 HB6 M6 D6 G6
  go_wp2_with fail
  refine (gdec_any a3 36 cap3 L w7 HX7.out (by omega) hlc3 hcm3).mono ?_
  rintro e w8 ⟨he, hb8⟩
  have M8 : Hid (w8.heap[g0]? = some (.cells CC 23 (0, 0))) := Lib.hid (HasB.below M7.out hb8 (HasB.lt M7.out))
  have D8 : Hid (w8.heap[gd]? = some (.cells DC 23 (0, 0))) := Lib.hid (HasB.below D7.out hb8 (HasB.lt D7.out))
  have HB9 : Hid (Below w.heap.size w w8) := Lib.hid (HB8.out.trans (hb8.mono HB8.out.size))
  clear hb8 HB8 M7 D7 HX7
  rcases checkOf_two c with hc | hc
  · rw [HS.out hc] at he
    subst he
    go_wp2_with (with_reducible refine stop_store 6 _ _ rfl ?_)
    refine Stop.go ?_
    refine wpList_store_row rfl 23 (.tmp 6) (.tmp 46) rfl gd CC rfl rfl 23 _ D8.out HICC.out HOCY.out HECC.out ?_
    have hgw : g0 ≠ gd := by have := L4.out; have := HG0.out; omega
    have M9 : Hid ((w8.setRow gd CC).heap[g0]? = some (.cells CC 23 (0, 0))) := Lib.hid (by rw [setRow_other _ _ _ _ hgw]; exact M8.out)
    have D9 : Hid ((w8.setRow gd CC).heap[gd]? = some (.cells CC 23 (0, 0))) := Lib.hid (setRow_heap _ _ _ _ 23 (0, 0) D8.out)
    have HB10 : Hid (Below w.heap.size w (w8.setRow gd CC)) := Lib.hid (below_setRow HB9.out (by have := L4.out; omega) _)
    generalize w8.setRow gd CC = w9 at M9 D9 HB10 ⊢
    clear M8 D8 HB9 hgw
    go_wp2_with (with_reducible refine wpList_load_row rfl 23 (.tmp 2) rfl g0 rfl 23 CC (0, 0) _ M9.out Try.underlying23 rfl HICC.out ?_)
    refine (HCk.out w9).mono ?_
    rintro e wa ⟨rfl, hba⟩
    have Ma : Hid (wa.heap[g0]? = some (.cells CC 23 (0, 0))) := Lib.hid (HasB.below M9.out hba (HasB.lt M9.out))
    have Da : Hid (wa.heap[gd]? = some (.cells CC 23 (0, 0))) := Lib.hid (HasB.below D9.out hba (HasB.lt D9.out))
    have HBa : Hid (Below w.heap.size w wa) := Lib.hid (HB10.out.trans (hba.mono HB10.out.size))
    clear hba M9 D9 HB10
    rw [hc]
    clear hc
    go_wp2_with (first | (with_reducible refine wpList_load_row_g (by kernel_rfl) 23 (.tmp 6) rfl gd rfl 23 CC (0, 0) _ Da.out Try.underlying23 rfl HICC.out ?_) | (with_reducible refine wpList_load_row_g (by kernel_rfl) 23 (.tmp 2) rfl g0 rfl 23 CC (0, 0) _ Ma.out Try.underlying23 rfl HICC.out ?_))
    rw [HPOST.out]
    exact ⟨rfl, HBa.out⟩
  · rw [HYE.out] at he
    subst he
    go_wp2_with (with_reducible refine stop_store 6 _ _ rfl ?_)
    refine Stop.go ?_
    refine wpList_store_row rfl 23 (.tmp 6) (.tmp 46) rfl gd YC rfl rfl 23 _ D8.out HIYC.out HOY.out HEYC.out ?_
    have hgw : g0 ≠ gd := by have := L4.out; have := HG0.out; omega
    have M9 : Hid ((w8.setRow gd YC).heap[g0]? = some (.cells CC 23 (0, 0))) := Lib.hid (by rw [setRow_other _ _ _ _ hgw]; exact M8.out)
    have HB10 : Hid (Below w.heap.size w (w8.setRow gd YC)) := Lib.hid (below_setRow HB9.out (by have := L4.out; omega) _)
    generalize w8.setRow gd YC = w9 at M9 HB10 ⊢
    clear M8 D8 HB9 hgw
    go_wp2_with (with_reducible refine wpList_load_row rfl 23 (.tmp 2) rfl g0 rfl 23 CC (0, 0) _ M9.out Try.underlying23 rfl HICC.out ?_)
    refine (HCk.out w9).mono ?_
    rintro e wa ⟨rfl, hba⟩
    have HBa : Hid (Below w.heap.size w wa) := Lib.hid (HB10.out.trans (hba.mono HB10.out.size))
    clear hba M9 HB10
    rw [hc]
    clear hc
    go_wp2_with fail
    rw [HPOST.out]
    exact ⟨rfl, HBa.out⟩
end Go.Proofs.Yteclcciionjjcaa
