/- sha: ShaKeys. -/
import Derived.Test.YtogpdmpefdafnaaShaO
namespace Go.Proofs.Ytogpdmpefdafnaa
open Go Go.RowKit
set_option linter.unusedVariables false

theorem yield_load_row {P : Program} {w : World} (o : Oper) (ev : Operand → Value) (ty : TypeId) (x : Operand) (ho : o.op = .load ty x)
    (g : Nat) (hx : ev x = .pointer (some ⟨g, 0, none⟩)) (t : TypeId) (cs : Array Value) (fr : Nat × Nat) (d : TypeDesc) (hg : w.heap[g]? = some (.cells cs t fr))
    (hu : P.underlying ty = some d) (hd : (match d with | .struct _ | .array _ _ => true | _ => false) = true) (hi : (P.info? ty).map (·.size) = some cs.size) : (execOp ev o).run P w = .ok (.value (.agg cs)) w := by
  unfold execOp
  simp only [ho, hx, Instr.loadAt, Instr.sureAddr, Sem.run_bind, Sem.run_pure, Result.andThen_ok, run_loadVar_row w g t ty cs fr d hg hu hd hi]
theorem held_two {P : Program} {l : List Oper} {Q : Exit → Act → World → Prop} {md : Region.Mode} {S : World → Prop} (i j : Nat) {oi oj : Oper} {ri rj : List Oper} {fuel : Nat} {listed : Array Bool} {a : Act} {w : World} (hdi : l.drop i = oi :: ri) (hdj : l.drop j = oj :: rj)
    (hr : Region.ready md l.toArray listed = [i, j])
    (hi : ∀ K' : Act → World → Prop, Shut (∀ a w (S' : World → Prop), (∀ w, S' w → S w) → S' w → (S' w → wpAnyH P md l.toArray Q S' fuel (listed.setIfInBounds i true) a w) → K' a w) → if Region.wanted oi (yielded l.toArray a.tmps) = true then Oper.wp P oi a w K' Q else K' (a.put oi.dst undef) w)
    (hj : ∀ K' : Act → World → Prop, Shut (∀ a w (S' : World → Prop), (∀ w, S' w → S w) → S' w → (S' w → wpAnyH P md l.toArray Q S' fuel (listed.setIfInBounds j true) a w) → K' a w) → if Region.wanted oj (yielded l.toArray a.tmps) = true then Oper.wp P oj a w K' Q else K' (a.put oj.dst undef) w) : wpAnyH P md l.toArray Q S (fuel + 1) listed a w :=
  wpAnyH_ready hr (by simp) (AllReadyH.cons (drop_get hdi) (fun K' hK => hi K' fun a w S' hSS hS hW => hK.out a w (hSS _ hS) fun _ => held_mono hSS _ _ _ _ (hW hS)) (AllReadyH.cons (drop_get hdj) (fun K' hK => hj K' fun a w S' hSS hS hW => hK.out a w (hSS _ hS) fun _ => held_mono hSS _ _ _ _ (hW hS)) AllReadyH.nil))
theorem rows_at {w : World} {x : List Nat} {bx : Option Addr} {cx g T : Nat} (hx : Bytes w bx x.length x) (nx : bx = none → cx = 0) (lx : x.length ≤ cx) (mx : cx ≤ maxLen) (hg : HasB w g #[.slice bx x.length cx] T) : RowsR w (some ⟨g, 0, none⟩) [x] := by
  intro k z hz
  match k, hz with
  | 0, hz =>
    have : x = z := by simpa using hz
    subst this
    exact ⟨_, 0, bx, cx, rfl, hg.lt, hg.at 0, hx, nx, lx, mx⟩
  | k + 1, hz => simp at hz
theorem kOf_sha (key : List Nat) (h : 64 < key.length) : kOf (shaL key) = kOf key := by
  unfold kOf
  rw [if_neg (by rw [shaL_len]; omega), if_pos h]
theorem kOf_zeros (key : List Nat) (z : Nat) (h : key.length + z ≤ 64) : kOf (key ++ List.replicate z 0) = kOf key := by
  unfold kOf
  rw [if_neg (by simp; omega), if_neg (by omega)]
  unfold padK
  rw [List.append_assoc, List.replicate_append_replicate, List.length_append, List.length_replicate, show z + (64 - (key.length + z)) = 64 - key.length by omega]
theorem macS_k {k k' : List Nat} (h : kOf k = kOf k') (m : List Nat) : macS k m = macS k' m := by unfold macS; rw [h]

set_option maxRecDepth 100000 in
set_option maxHeartbeats 40000000 in
theorem shakeys_big (a : Option Addr) (len cap : Nat) (key : List Nat) (a2 : Option Addr) (len2 cap2 : Nat) (b : List Nat) (z : Int) (r : List Nat) (w : World) (hi : Bytes w a len key) (hnil : a = none → cap = 0) (hlc : len ≤ cap) (hcm : cap ≤ maxLen) (hi2 : Bytes w a2 len2 b) (hnil2 : a2 = none → cap2 = 0) (hlc2 : len2 ≤ cap2) (hcm2 : cap2 ≤ maxLen) (hz : I64 z) (hr : r.length = 32) (hr8 : ∀ c ∈ r, c < 256) (hl : len ≤ 4096) (hl2 : len2 ≤ 4096) (hbig : 64 < len) :
    Calls Try.prog 4 #[.slice a len cap, .slice a2 len2 cap2, .int .i64 z, .agg (u8s r).toArray] w fun e w' => e = .returned (.bool true) ∧ Below w.heap.size w w' := by
  have hkl := hi.1
  have hbl := hi2.1
  have HI1 := Lib.hid hi
  have HI2 := Lib.hid hi2
  obtain ⟨mL, hmL⟩ : ∃ mL, mL = macS key b := ⟨_, rfl⟩
  have hm32 : mL.length = 32 := by rw [hmL]; exact macS_len _ _
  have hm8 : ∀ c ∈ mL, c < 256 := by rw [hmL]; exact macS_lt _ _
  have HEqA : Hid (∀ w, Calls Try.prog 19 #[.agg (u8s mL).toArray, .agg (u8s mL).toArray] w fun e w' => e = .returned (.bool true) ∧ Below w.heap.size w w') := Lib.hid (fun w => by
    have := equal_any mL mL hm8 hm8 hm32 hm32 w
    rw [decide_eq_true rfl] at this
    exact this)
  have HEqB : Hid (∀ w, Calls Try.prog 19 #[.agg (u8s mL).toArray, .agg (u8s r).toArray] w fun e w' => e = .returned (.bool (decide (mL = r))) ∧ Below w.heap.size w w') := Lib.hid (fun w => equal_any mL r hm8 hr8 hm32 hr w)
  have HEqC : Hid (∀ w, (binOp .eql 28 (.agg (u8s mL).toArray) (.agg (u8s r).toArray)).run Try.prog w = .ok (.bool (decide (mL = r))) w) := Lib.hid (fun w => eql_sum hm8 hr8 hm32 hr w)
  have HNe : Hid (∀ w, (binOp .neq 28 (.agg (u8s mL).toArray) (.agg (u8s mL).toArray)).run Try.prog w = .ok (.bool false) w) := Lib.hid (fun w => by
    have := neq_sum hm8 hm8 hm32 hm32 w
    rw [decide_eq_true rfl] at this
    exact this)
  have HOneB : Hid ((∀ x ∈ [b], ∀ c ∈ x, c < 256) ∧ (∀ x ∈ [b], x.length ≤ 100000) ∧ sumLen [b] 1 ≤ 90000000) := Lib.hid ⟨fun x hx => by simp at hx; subst hx; exact hi2.2.1, fun x hx => by simp at hx; subst hx; omega, by simp [sumLen]; omega⟩
  have HOneK : Hid ((∀ x ∈ [key], ∀ c ∈ x, c < 256) ∧ (∀ x ∈ [key], x.length ≤ 100000) ∧ sumLen [key] 1 ≤ 100000000) := Lib.hid ⟨fun x hx => by simp at hx; subst hx; exact hi.2.1, fun x hx => by simp at hx; subst hx; omega, by simp [sumLen]; omega⟩
  have HMac : Hid (macS key (flatTo [b] 1) = mL) := Lib.hid (by rw [hmL]; simp [flatTo])
  have HMsha : Hid (64 < len → macS (shaL key) (flatTo [b] 1) = mL) := Lib.hid (fun h => by rw [macS_k (kOf_sha key (by omega)), hmL]; simp [flatTo])
  have HMzer : Hid (∀ zn, len + zn ≤ 64 → macS (key ++ List.replicate zn 0) (flatTo [b] 1) = mL) := Lib.hid (fun zn h => by rw [macS_k (kOf_zeros key zn (by omega)), hmL]; simp [flatTo])
  obtain ⟨M, hM⟩ : ∃ M, M = (u8s mL).toArray := ⟨_, rfl⟩
  obtain ⟨RR, hRR⟩ : ∃ M, M = (u8s r).toArray := ⟨_, rfl⟩
  have HIM : Hid ((Try.prog.info? 28).map (·.size) = some M.size) := Lib.hid (by rw [hM]; exact s32_size hm32)
  have HIR : Hid ((Try.prog.info? 28).map (·.size) = some RR.size) := Lib.hid (by rw [hRR]; exact s32_size hr)
  have HOneM : Hid (M.all (·.oneCell') = true) := Lib.hid (by rw [hM]; exact u8_oneA _)
  have HOldM : Hid ((u8s (List.replicate 32 0)).toArray.size = M.size) := Lib.hid (by rw [hM]; simp [u8s_len, hm32])
  have HMd := Lib.hid hM
  rw [← hM] at HEqA HEqB HEqC HNe
  rw [← hRR] at HEqB HEqC ⊢
  have hneq := HNe.out
  have HEq1 := HEqA
  clear hi hi2 hmL hM hRR hm32 hm8 hr hr8
  go_enter Try.func4, Try.ntmps4
  go_wp2_with fail
  obtain ⟨g7, hg7⟩ : ∃ g, g = w.heap.size := ⟨_, rfl⟩
  obtain ⟨wa, hwa⟩ : ∃ wa, wa = w.alloc (.cells RR 28) := ⟨_, rfl⟩
  have hA7 : HasB wa g7 RR 28 := by rw [hwa, hg7]; exact HasB.new _ _ _
  have HBa : Hid (Below w.heap.size w wa) := Lib.hid (by rw [hwa]; exact (Below.refl _ _).alloc (Nat.le_refl _) _)
  have HA7 := Lib.hid hA7
  rw [← hwa, ← hg7]
  have HG7 := Lib.hid hg7
  clear hwa hA7 hg7
  refine (sknown_any _).mono ?_
  rintro e w1 ⟨rfl, hb1⟩
  have HB1 := Lib.hid (HBa.out.trans (hb1.mono HBa.out.size))
  have HA7b : Hid (HasB w1 g7 RR 28) := Lib.hid (HasB.below HA7.out hb1 (HasB.lt HA7.out))
  have t1 : (len : Int) ≤ 4096 := by omega
  have t2 : (len2 : Int) ≤ 4096 := by omega
  have hRow : RowsR (w1.alloc (.cells #[.slice a2 len2 cap2] 22)) (some ⟨w1.heap.size, 0, none⟩) [b] := by
    have q := rows_one (T := 22) (x := b) (bx := a2) (cx := cap2) (w := w1) (by rw [hbl]; exact HI2.out.below HB1.out (Nat.le_refl _)) hnil2 (by omega) hcm2
    rw [hbl] at q
    exact q
  have hbr : Below w.heap.size w (w1.alloc (.cells #[.slice a2 len2 cap2] 22)) := HB1.out.alloc HB1.out.size _
  have HRow := Lib.hid hRow
  have HBr := Lib.hid hbr
  have HA7c : Hid (HasB (w1.alloc (.cells #[.slice a2 len2 cap2] 22)) g7 RR 28) := Lib.hid (HasB.alloc HA7b.out _)
  clear hb1 hRow hbr
  go_wp2_with fail
  refine (mac_any a len cap key (some ⟨w1.heap.size, 0, none⟩) 1 1 [b] _ (HI1.out.below HBr.out (Nat.le_refl _)) hnil hlc hcm (by omega) HRow.out rfl HOneB.out.1 HOneB.out.2.1 HOneB.out.2.2 (by omega)).mono ?_
  rintro e w4 ⟨rfl, hb4⟩
  rw [show (u8s (macS key (flatTo [b] 1))).toArray = M by rw [HMac.out, HMd.out]]
  obtain ⟨g9, hg9⟩ : ∃ g, g = w4.heap.size := ⟨_, rfl⟩
  obtain ⟨w5, hw5⟩ : ∃ w5, w5 = w4.alloc (.cells M 28) := ⟨_, rfl⟩
  have hA9 : HasB w5 g9 M 28 := by rw [hw5, hg9]; exact HasB.new _ _ _
  have hA7d : HasB w5 g7 RR 28 := by rw [hw5]; exact HasB.alloc (HasB.below HA7c.out hb4 (HasB.lt HA7c.out)) _
  have hB5 : Below w.heap.size w w5 := by
    rw [hw5]
    have q := HBr.out.trans (hb4.mono HBr.out.size)
    exact q.alloc q.size _
  have HA9 := Lib.hid hA9
  have HA7e := Lib.hid hA7d
  have HB5 := Lib.hid hB5
  have HW5 := Lib.hid hw5
  have HG9 := Lib.hid hg9
  clear hb4 hA9 hA7d hB5 hw5 hg9
  · have t3 : 64 < (len : Int) := by omega
    have hRK : RowsR (w5.alloc (.cells #[.slice a len cap] 22)) (some ⟨w5.heap.size, 0, none⟩) [key] := by
      have q := rows_one (T := 22) (x := key) (bx := a) (cx := cap) (w := w5) (by rw [hkl]; exact HI1.out.below HB5.out (Nat.le_refl _)) hnil (by omega) hcm
      rw [hkl] at q
      exact q
    have HRK := Lib.hid hRK
    have hbk : Below w.heap.size w (w5.alloc (.cells #[.slice a len cap] 22)) := HB5.out.alloc HB5.out.size _
    have HBk := Lib.hid hbk
    have HA9k : Hid (HasB (w5.alloc (.cells #[.slice a len cap] 22)) g9 M 28) := Lib.hid (HasB.alloc HA9.out _)
    have HA7k : Hid (HasB (w5.alloc (.cells #[.slice a len cap] 22)) g7 RR 28) := Lib.hid (HasB.alloc HA7e.out _)
    obtain ⟨K, hK⟩ : ∃ K, K = (u8s (shaL key)).toArray := ⟨_, rfl⟩
    have HIK : Hid ((Try.prog.info? 28).map (·.size) = some K.size) := Lib.hid (by rw [hK]; exact s32_size (shaL_len _))
    have HOneKa : Hid (K.all (·.oneCell') = true) := Lib.hid (by rw [hK]; exact u8_oneA _)
    have HOldK : Hid ((u8s (List.replicate 32 0)).toArray.size = K.size) := Lib.hid (by rw [hK]; simp [u8s_len, shaL_len])
    have HK := Lib.hid hK
    clear hRK hbk hK
    go_wp2_with (with_reducible refine wpList_store_row rfl 28 (.tmp 9) (.tmp 24) rfl w4.heap.size M rfl rfl 28 (u8s (List.replicate 32 0)).toArray (heap_new w4 _) HIM.out HOldM.out HOneM.out ?_; rw [World.setRow_alloc_new, ← HW5.out, ← HG9.out])
    refine (of_any (some ⟨w5.heap.size, 0, none⟩) 1 1 [key] _ HRK.out rfl HOneK.out.1 HOneK.out.2.1 HOneK.out.2.2 (by omega)).mono ?_
    rintro e w6 ⟨rfl, hb6⟩
    rw [show (u8s (shaL (flatTo [key] 1))).toArray = K by rw [HK.out]; simp [flatTo]]
    obtain ⟨g10, hg10⟩ : ∃ g, g = w6.heap.size := ⟨_, rfl⟩
    obtain ⟨wz, hwz⟩ : ∃ wz, wz = w6.alloc (.cells K 28) := ⟨_, rfl⟩
    have hBz : Below w.heap.size w wz := by
      rw [hwz]
      have q := HBk.out.trans (hb6.mono HBk.out.size)
      exact q.alloc q.size _
    have hA9z : HasB wz g9 M 28 := by rw [hwz]; exact HasB.alloc (HasB.below HA9k.out hb6 (HasB.lt HA9k.out)) _
    have hA7z : HasB wz g7 RR 28 := by rw [hwz]; exact HasB.alloc (HasB.below HA7k.out hb6 (HasB.lt HA7k.out)) _
    have hAK : HasB wz g10 K 28 := by rw [hwz, hg10]; exact HasB.new _ _ _
    have HL9 : Hid (∀ w', Below wz.heap.size wz w' → w'.heap[g9]? = some (.cells M 28 (0, 0))) := Lib.hid (fun w' h => HasB.below hA9z h (HasB.lt hA9z))
    have HL7 : Hid (∀ w', Below wz.heap.size wz w' → w'.heap[g7]? = some (.cells RR 28 (0, 0))) := Lib.hid (fun w' h => HasB.below hA7z h (HasB.lt hA7z))
    have HBz1 : Hid (Below wz.heap.size wz (wz.drew.alloc (.cells #[.slice a2 len2 cap2] 22))) := Lib.hid ((Below.refl _ _).drew.alloc (Nat.le_refl _) _)
    have HKy : Hid (Bytes (wz.drew.alloc (.cells #[.slice a2 len2 cap2] 22)) (some ⟨g10, 0, none⟩) 32 (shaL key)) := Lib.hid (by
      have q := bytes_of_row (w := wz) (g := g10) (l := shaL key) (t := 28) (fr := (0, 0)) (by rw [← HK.out]; exact hAK) (shaL_lt key)
      rw [shaL_len] at q
      exact q.below HBz1.out (Nat.le_refl _))
    have HRow2 : Hid (RowsR (wz.drew.alloc (.cells #[.slice a2 len2 cap2] 22)) (some ⟨wz.heap.size, 0, none⟩) [b]) := Lib.hid (by
      have q := rows_one (T := 22) (x := b) (bx := a2) (cx := cap2) (w := wz.drew) (by rw [hbl]; exact HI2.out.below hBz.drew (Nat.le_refl _)) hnil2 (by omega) hcm2
      rw [hbl] at q
      exact q)
    have HMeq : Hid ((u8s (macS (shaL key) (flatTo [b] 1))).toArray = M) := Lib.hid (by rw [HMsha.out hbig, HMd.out])
    have HBz := Lib.hid hBz
    have HWz := Lib.hid hwz
    have HG10 := Lib.hid hg10
    clear hb6 hBz hA9z hA7z hAK hwz hg10
    go_wp2_with (with_reducible refine wpList_store_row rfl 28 (.tmp 10) (.tmp 30) rfl w6.heap.size K rfl rfl 28 (u8s (List.replicate 32 0)).toArray (heap_new w6 _) HIK.out HOldK.out HOneKa.out ?_; rw [World.setRow_alloc_new, ← HWz.out, ← HG10.out])
    refine wp_region_held_drew (S := (fun w' => Below wz.heap.size wz w')) (by kernel_rfl) ((Below.refl _ _).drew) (fun hHeld => ?_)
    refine held_take 0 (v := .agg M) rfl (by kernel_rfl) (by kernel_rfl) (by kernel_rfl) (fun _ _ _ h => h) (by rfl) (fun w hS => ?_) (by assumption) ?_
    · exact yield_load_row _ _ _ _ (by rfl) g9 (by rfl) 28 M (0, 0) _ (HL9.out _ hS) Try.underlying28 (by rfl) HIM.out
    try simp only [Act.put, List.setIfInBounds_toArray, List.set_cons_zero, List.set_cons_succ]
    refine held_take 1 (v := ?_) rfl (by kernel_rfl) (by kernel_rfl) (by kernel_rfl) (fun _ _ _ h => h) (by rfl) (fun w hS => ?_) (by assumption) ?_
    rotate_left
    · try dsimp only at hS
      go_simp <;> with_reducible rfl
    try simp only [Act.put, List.setIfInBounds_toArray, List.set_cons_zero, List.set_cons_succ]
    refine held_take 2 (v := ?_) rfl (by kernel_rfl) (by kernel_rfl) (by kernel_rfl) (fun _ _ _ h => h) (by rfl) (fun w hS => ?_) (by assumption) ?_
    rotate_left
    · try dsimp only at hS
      go_simp <;> with_reducible rfl
    try simp only [Act.put, List.setIfInBounds_toArray, List.set_cons_zero, List.set_cons_succ]
    refine held_one 3 rfl (by kernel_rfl) (fun K hK => ?_)
    go_simp
    refine hK.out _ _ (fun w' => Below wz.heap.size wz w') (fun _ h => h) HBz1.out (fun hHeld => ?_)
    clear hK K
    try simp only [Act.put, List.setIfInBounds_toArray, List.set_cons_zero, List.set_cons_succ]
    refine held_one 4 rfl (by kernel_rfl) (fun K hK => ?_)
    go_simp
    refine Calls.mono (mac_any (some ⟨g10, 0, none⟩) 32 32 (shaL key) (some ⟨wz.heap.size, 0, none⟩) 1 1 [b] _ HKy.out (by simp) (by omega) (by unfold maxLen; omega) (by omega) HRow2.out rfl HOneB.out.1 HOneB.out.2.1 HOneB.out.2.2 (by omega)) ?_
    rintro e wm ⟨rfl, hbm⟩
    rw [show (u8s (macS (shaL key) (flatTo [b] 1))).toArray = M by rw [HMeq.out]]
    have hbm' : Below wz.heap.size wz wm := HBz1.out.trans (hbm.mono HBz1.out.size)
    have HBm := Lib.hid hbm'
    refine hK.out _ _ (fun w' => Below wz.heap.size wz w') (fun _ h => h) hbm' (fun hHeld => ?_)
    clear hK K
    try simp only [Act.put, List.setIfInBounds_toArray, List.set_cons_zero, List.set_cons_succ]
    refine held_take 5 (v := ?_) rfl (by kernel_rfl) (by kernel_rfl) (by kernel_rfl) (fun _ _ _ h => h) (by rfl) (fun w hS => ?_) (by assumption) ?_
    rotate_left
    · try dsimp only at hS
      go_simp <;> with_reducible rfl
    try simp only [Act.put, List.setIfInBounds_toArray, List.set_cons_zero, List.set_cons_succ]
    refine held_done (by kernel_rfl) ?_
    go_wp2_with fail
    have HLm : Hid (∀ w', Below wm.heap.size wm w' → w'.heap[g9]? = some (.cells M 28 (0, 0))) := Lib.hid (fun w' h => HL9.out w' (HBm.out.trans (h.mono HBm.out.size)))
    have HLr : Hid (∀ w', Below wm.heap.size wm w' → w'.heap[g7]? = some (.cells RR 28 (0, 0))) := Lib.hid (fun w' h => HL7.out w' (HBm.out.trans (h.mono HBm.out.size)))
    go_wp2_with fail
    cases hd : decide (mL = r)
    · have HEq2 : Hid (∀ w, Calls Try.prog 19 #[.agg M, .agg RR] w fun e w' => e = .returned (.bool false) ∧ Below w.heap.size w w') := Lib.hid (fun w => by rw [← hd]; exact HEqB.out w)
      have heq : ∀ w, (binOp .eql 28 (.agg M) (.agg RR)).run Try.prog w = .ok (.bool false) w := fun w => by rw [← hd]; exact HEqC.out w
      clear hd
      refine wp_region_held_drew (S := (fun w' => Below wm.heap.size wm w')) (by kernel_rfl) ((Below.refl _ _).drew) (fun hHeld => ?_)
      refine held_take 0 (v := .agg M) rfl (by kernel_rfl) (by kernel_rfl) (by kernel_rfl) (fun _ _ _ h => h) (by rfl) (fun w hS => ?_) (by assumption) ?_
      · exact yield_load_row _ _ _ _ (by rfl) g9 (by rfl) 28 M (0, 0) _ (HLm.out _ hS) Try.underlying28 (by rfl) HIM.out
      try simp only [Act.put, List.setIfInBounds_toArray, List.set_cons_zero, List.set_cons_succ]
      refine held_take 1 (v := .agg M) rfl (by kernel_rfl) (by kernel_rfl) (by kernel_rfl) (fun _ _ _ h => h) (by rfl) (fun w hS => ?_) (by assumption) ?_
      · exact yield_load_row _ _ _ _ (by rfl) g9 (by rfl) 28 M (0, 0) _ (HLm.out _ hS) Try.underlying28 (by rfl) HIM.out
      try simp only [Act.put, List.setIfInBounds_toArray, List.set_cons_zero, List.set_cons_succ]
      refine held_one 2 rfl (by kernel_rfl) (fun K hK => ?_)
      go_simp
      refine Calls.mono (HEq1.out _) ?_
      rintro e we1 ⟨rfl, hbe⟩
      have hbe1 : Below wm.heap.size wm we1 := (Below.refl _ _).drew.trans hbe
      have HBe1 := Lib.hid hbe1
      refine hK.out _ _ (fun w' => Below wm.heap.size wm w') (fun _ h => h) hbe1 (fun hHeld => ?_)
      clear hK K
      try simp only [Act.put, List.setIfInBounds_toArray, List.set_cons_zero, List.set_cons_succ]
      refine held_take 3 (v := ?_) rfl (by kernel_rfl) (by kernel_rfl) (by kernel_rfl) (fun _ _ _ h => h) (by rfl) (fun w hS => ?_) (by assumption) ?_
      rotate_left
      · try dsimp only at hS
        go_simp <;> with_reducible rfl
      try simp only [Act.put, List.setIfInBounds_toArray, List.set_cons_zero, List.set_cons_succ]
      refine held_take 4 (v := .agg M) rfl (by kernel_rfl) (by kernel_rfl) (by kernel_rfl) (fun _ _ _ h => h) (by rfl) (fun w hS => ?_) (by assumption) ?_
      · exact yield_load_row _ _ _ _ (by rfl) g9 (by rfl) 28 M (0, 0) _ (HLm.out _ hS) Try.underlying28 (by rfl) HIM.out
      try simp only [Act.put, List.setIfInBounds_toArray, List.set_cons_zero, List.set_cons_succ]
      refine held_take 5 (v := .agg RR) rfl (by kernel_rfl) (by kernel_rfl) (by kernel_rfl) (fun _ _ _ h => h) (by rfl) (fun w hS => ?_) (by assumption) ?_
      · exact yield_load_row _ _ _ _ (by rfl) g7 (by rfl) 28 RR (0, 0) _ (HLr.out _ hS) Try.underlying28 (by rfl) HIR.out
      try simp only [Act.put, List.setIfInBounds_toArray, List.set_cons_zero, List.set_cons_succ]
      refine held_take 7 (v := .agg M) rfl (by kernel_rfl) (by kernel_rfl) (by kernel_rfl) (fun _ _ _ h => h) (by rfl) (fun w hS => ?_) (by assumption) ?_
      · exact yield_load_row _ _ _ _ (by rfl) g9 (by rfl) 28 M (0, 0) _ (HLm.out _ hS) Try.underlying28 (by rfl) HIM.out
      try simp only [Act.put, List.setIfInBounds_toArray, List.set_cons_zero, List.set_cons_succ]
      refine held_take 8 (v := .agg RR) rfl (by kernel_rfl) (by kernel_rfl) (by kernel_rfl) (fun _ _ _ h => h) (by rfl) (fun w hS => ?_) (by assumption) ?_
      · exact yield_load_row _ _ _ _ (by rfl) g7 (by rfl) 28 RR (0, 0) _ (HLr.out _ hS) Try.underlying28 (by rfl) HIR.out
      try simp only [Act.put, List.setIfInBounds_toArray, List.set_cons_zero, List.set_cons_succ]
      refine held_take 9 (v := ?_) rfl (by kernel_rfl) (by kernel_rfl) (by kernel_rfl) (fun _ _ _ h => h) (by rfl) (fun w hS => ?_) (by assumption) ?_
      rotate_left
      · try dsimp only at hS
        go_simp <;> with_reducible rfl
      try simp only [Act.put, List.setIfInBounds_toArray, List.set_cons_zero, List.set_cons_succ]
      refine held_one 6 rfl (by kernel_rfl) (fun K hK => ?_)
      go_simp
      refine Calls.mono (HEq2.out _) ?_
      rintro e we2 ⟨rfl, hbe⟩
      have hbe2 : Below wm.heap.size wm we2 := HBe1.out.trans (hbe.mono HBe1.out.size)
      have HBe2 := Lib.hid hbe2
      refine hK.out _ _ (fun w' => Below wm.heap.size wm w') (fun _ h => h) hbe2 (fun hHeld => ?_)
      clear hK K
      try simp only [Act.put, List.setIfInBounds_toArray, List.set_cons_zero, List.set_cons_succ]
      refine held_take 10 (v := ?_) rfl (by kernel_rfl) (by kernel_rfl) (by kernel_rfl) (fun _ _ _ h => h) (by rfl) (fun w hS => ?_) (by assumption) ?_
      rotate_left
      · try dsimp only at hS
        go_simp <;> with_reducible rfl
      try simp only [Act.put, List.setIfInBounds_toArray, List.set_cons_zero, List.set_cons_succ]
      refine held_take 11 (v := ?_) rfl (by kernel_rfl) (by kernel_rfl) (by kernel_rfl) (fun _ _ _ h => h) (by rfl) (fun w hS => ?_) (by assumption) ?_
      rotate_left
      · try dsimp only at hS
        go_simp <;> with_reducible rfl
      try simp only [Act.put, List.setIfInBounds_toArray, List.set_cons_zero, List.set_cons_succ]
      refine held_take 12 (v := ?_) rfl (by kernel_rfl) (by kernel_rfl) (by kernel_rfl) (fun _ _ _ h => h) (by rfl) (fun w hS => ?_) (by assumption) ?_
      rotate_left
      · try dsimp only at hS
        go_simp <;> with_reducible rfl
      try simp only [Act.put, List.setIfInBounds_toArray, List.set_cons_zero, List.set_cons_succ]
      refine held_done (by kernel_rfl) ?_
      go_wp2_with fail
      go_ret
      exact ⟨rfl, HBz.out.trans ((HBm.out.trans (HBe2.out.mono HBm.out.size)).mono HBz.out.size)⟩
    · have HEq2 : Hid (∀ w, Calls Try.prog 19 #[.agg M, .agg RR] w fun e w' => e = .returned (.bool true) ∧ Below w.heap.size w w') := Lib.hid (fun w => by rw [← hd]; exact HEqB.out w)
      have heq : ∀ w, (binOp .eql 28 (.agg M) (.agg RR)).run Try.prog w = .ok (.bool true) w := fun w => by rw [← hd]; exact HEqC.out w
      clear hd
      refine wp_region_held_drew (S := (fun w' => Below wm.heap.size wm w')) (by kernel_rfl) ((Below.refl _ _).drew) (fun hHeld => ?_)
      refine held_take 0 (v := .agg M) rfl (by kernel_rfl) (by kernel_rfl) (by kernel_rfl) (fun _ _ _ h => h) (by rfl) (fun w hS => ?_) (by assumption) ?_
      · exact yield_load_row _ _ _ _ (by rfl) g9 (by rfl) 28 M (0, 0) _ (HLm.out _ hS) Try.underlying28 (by rfl) HIM.out
      try simp only [Act.put, List.setIfInBounds_toArray, List.set_cons_zero, List.set_cons_succ]
      refine held_take 1 (v := .agg M) rfl (by kernel_rfl) (by kernel_rfl) (by kernel_rfl) (fun _ _ _ h => h) (by rfl) (fun w hS => ?_) (by assumption) ?_
      · exact yield_load_row _ _ _ _ (by rfl) g9 (by rfl) 28 M (0, 0) _ (HLm.out _ hS) Try.underlying28 (by rfl) HIM.out
      try simp only [Act.put, List.setIfInBounds_toArray, List.set_cons_zero, List.set_cons_succ]
      refine held_one 2 rfl (by kernel_rfl) (fun K hK => ?_)
      go_simp
      refine Calls.mono (HEq1.out _) ?_
      rintro e we1 ⟨rfl, hbe⟩
      have hbe1 : Below wm.heap.size wm we1 := (Below.refl _ _).drew.trans hbe
      have HBe1 := Lib.hid hbe1
      refine hK.out _ _ (fun w' => Below wm.heap.size wm w') (fun _ h => h) hbe1 (fun hHeld => ?_)
      clear hK K
      try simp only [Act.put, List.setIfInBounds_toArray, List.set_cons_zero, List.set_cons_succ]
      refine held_take 3 (v := ?_) rfl (by kernel_rfl) (by kernel_rfl) (by kernel_rfl) (fun _ _ _ h => h) (by rfl) (fun w hS => ?_) (by assumption) ?_
      rotate_left
      · try dsimp only at hS
        go_simp <;> with_reducible rfl
      try simp only [Act.put, List.setIfInBounds_toArray, List.set_cons_zero, List.set_cons_succ]
      refine held_take 4 (v := .agg M) rfl (by kernel_rfl) (by kernel_rfl) (by kernel_rfl) (fun _ _ _ h => h) (by rfl) (fun w hS => ?_) (by assumption) ?_
      · exact yield_load_row _ _ _ _ (by rfl) g9 (by rfl) 28 M (0, 0) _ (HLm.out _ hS) Try.underlying28 (by rfl) HIM.out
      try simp only [Act.put, List.setIfInBounds_toArray, List.set_cons_zero, List.set_cons_succ]
      refine held_take 5 (v := .agg RR) rfl (by kernel_rfl) (by kernel_rfl) (by kernel_rfl) (fun _ _ _ h => h) (by rfl) (fun w hS => ?_) (by assumption) ?_
      · exact yield_load_row _ _ _ _ (by rfl) g7 (by rfl) 28 RR (0, 0) _ (HLr.out _ hS) Try.underlying28 (by rfl) HIR.out
      try simp only [Act.put, List.setIfInBounds_toArray, List.set_cons_zero, List.set_cons_succ]
      refine held_take 7 (v := .agg M) rfl (by kernel_rfl) (by kernel_rfl) (by kernel_rfl) (fun _ _ _ h => h) (by rfl) (fun w hS => ?_) (by assumption) ?_
      · exact yield_load_row _ _ _ _ (by rfl) g9 (by rfl) 28 M (0, 0) _ (HLm.out _ hS) Try.underlying28 (by rfl) HIM.out
      try simp only [Act.put, List.setIfInBounds_toArray, List.set_cons_zero, List.set_cons_succ]
      refine held_take 8 (v := .agg RR) rfl (by kernel_rfl) (by kernel_rfl) (by kernel_rfl) (fun _ _ _ h => h) (by rfl) (fun w hS => ?_) (by assumption) ?_
      · exact yield_load_row _ _ _ _ (by rfl) g7 (by rfl) 28 RR (0, 0) _ (HLr.out _ hS) Try.underlying28 (by rfl) HIR.out
      try simp only [Act.put, List.setIfInBounds_toArray, List.set_cons_zero, List.set_cons_succ]
      refine held_take 9 (v := ?_) rfl (by kernel_rfl) (by kernel_rfl) (by kernel_rfl) (fun _ _ _ h => h) (by rfl) (fun w hS => ?_) (by assumption) ?_
      rotate_left
      · try dsimp only at hS
        go_simp <;> with_reducible rfl
      try simp only [Act.put, List.setIfInBounds_toArray, List.set_cons_zero, List.set_cons_succ]
      refine held_one 6 rfl (by kernel_rfl) (fun K hK => ?_)
      go_simp
      refine Calls.mono (HEq2.out _) ?_
      rintro e we2 ⟨rfl, hbe⟩
      have hbe2 : Below wm.heap.size wm we2 := HBe1.out.trans (hbe.mono HBe1.out.size)
      have HBe2 := Lib.hid hbe2
      refine hK.out _ _ (fun w' => Below wm.heap.size wm w') (fun _ h => h) hbe2 (fun hHeld => ?_)
      clear hK K
      try simp only [Act.put, List.setIfInBounds_toArray, List.set_cons_zero, List.set_cons_succ]
      refine held_take 10 (v := ?_) rfl (by kernel_rfl) (by kernel_rfl) (by kernel_rfl) (fun _ _ _ h => h) (by rfl) (fun w hS => ?_) (by assumption) ?_
      rotate_left
      · try dsimp only at hS
        go_simp <;> with_reducible rfl
      try simp only [Act.put, List.setIfInBounds_toArray, List.set_cons_zero, List.set_cons_succ]
      refine held_take 11 (v := ?_) rfl (by kernel_rfl) (by kernel_rfl) (by kernel_rfl) (fun _ _ _ h => h) (by rfl) (fun w hS => ?_) (by assumption) ?_
      rotate_left
      · try dsimp only at hS
        go_simp <;> with_reducible rfl
      try simp only [Act.put, List.setIfInBounds_toArray, List.set_cons_zero, List.set_cons_succ]
      refine held_take 12 (v := ?_) rfl (by kernel_rfl) (by kernel_rfl) (by kernel_rfl) (fun _ _ _ h => h) (by rfl) (fun w hS => ?_) (by assumption) ?_
      rotate_left
      · try dsimp only at hS
        go_simp <;> with_reducible rfl
      try simp only [Act.put, List.setIfInBounds_toArray, List.set_cons_zero, List.set_cons_succ]
      refine held_done (by kernel_rfl) ?_
      go_wp2_with fail
      go_ret
      exact ⟨rfl, HBz.out.trans ((HBm.out.trans (HBe2.out.mono HBm.out.size)).mono HBz.out.size)⟩

end Go.Proofs.Ytogpdmpefdafnaa
