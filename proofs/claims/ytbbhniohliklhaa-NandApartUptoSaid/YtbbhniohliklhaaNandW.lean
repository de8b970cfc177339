/- nand: NandApart. -/
import Derived.Test.YtbbhniohliklhaaNandV
namespace Go.Proofs.Ytbbhniohliklhaa
open Go Go.RowKit
set_option linter.unusedVariables false

set_option maxRecDepth 100000 in
set_option maxHeartbeats 8000000 in
theorem napart_go (a : Option Addr) (len cap : Nat) (xs : List NAct) (o : Nat) (p : Int) (w : World) (hi : Rws 8 NAct.cells w a len xs) (hw : ∀ x ∈ xs, x.wf w) (hb : rawSum xs len + len ≤ 1048576) (ho : o ≤ 3) (hfe : fewS xs len = true) :
    Calls Try.prog 6 #[.slice a len cap, .int .i64 (o : Int), .int .i64 p] w fun e w' => e = .returned (.bool true) ∧ Below w.heap.size w w' := by
  obtain ⟨POST, hPOST⟩ : ∃ Q : Ending → World → Prop, Q = fun e w' => e = .returned (.bool true) ∧ Below w.heap.size w w' := ⟨_, rfl⟩
  rw [← hPOST]
  have HPOST := Lib.hid hPOST
  clear hPOST
  have HI := Lib.hid hi
  have HW := Lib.hid hw
  have HBk := Lib.hid hb
  have hfew := fun w' (hb' : Below w.heap.size w w') => nfew_any a len cap xs w' (hi.below hb') hb
  rw [hfe] at hfew
  have HFew := Lib.hid hfew
  have hl200 : len ≤ 200 := by unfold fewS at hfe; simp at hfe; exact hfe.1
  have HFs : Hid (rawSum xs len ≤ 16384) := Lib.hid (by unfold fewS at hfe; simp at hfe; exact hfe.2)
  have t1 : ¬ ((o : Int) < 0) := by omega
  have t2 : ¬ ((3 : Int) < (o : Int)) := by omega
  have hnew := fun w => fnew_any 4 4 2 w (by omega) (by omega) (by omega) (by omega) (by omega) (by omega) (by omega)
  have HNew := Lib.hid hnew
  obtain ⟨X, hX⟩ : ∃ X, X = (List.replicate 146 0).set 0 9 := ⟨_, rfl⟩
  have HXE := Lib.hid hX
  have HXl : Hid (X.length = 146) := Lib.hid (by rw [hX]; simp)
  have HXc : Hid (∀ c ∈ X, c < 256) := Lib.hid (by
    intro c hc
    rw [hX] at hc
    rcases List.mem_or_eq_of_mem_set hc with q | q
    · have := List.eq_of_mem_replicate q; omega
    · omega)
  have HO := Lib.hid ho
  clear hX hi hw hb hfew hfe hnew
  go_enter Try.func6, Try.ntmps6
  go_wp2_with fail
  refine (nknown_any _).mono ?_
  rintro e w1 ⟨rfl, hb⟩
  have HB := Lib.hid hb
  clear hb
  go_wp2_with fail
  refine (HFew.out _ HB.out).mono ?_
  rintro e w1' ⟨rfl, rfl⟩
  go_wp2_with fail
  refine (HNew.out _).mono ?_
  rintro e w2 ⟨⟨g, rfl, hg⟩, hb2⟩
  have HL := Lib.hid (Law.first HB.out hg hb2)
  obtain ⟨S, hS⟩ : ∃ S : Zone, S = fun k => w1.heap.size ≤ k ∧ k < w2.heap.size := ⟨_, rfl⟩
  rw [← hS] at HL
  clear hg hb2 hS
  go_wp2_with (at_make; refine Stop.mk ?_)
  refine Stop.go ?_
  refine wpList_make_u8 rfl _ _ 29 rfl w2.heap.size 5 Try.underlying29 Try.infoU8 146 rfl rfl (by omega) (Nat.le_refl _) ?_
  intro w3 hown hg3
  have hb3 : Below w2.heap.size w2 w3 := (Below.refl _ _).grown hg3 (Nat.le_refl _) (fun k hk => by simp at hk)
  have hL3 := HL.out.below hb3
  have hst := hown.stored 0 (.int .u8 ((9 : Nat) : Int))
  rw [u8s_set, ← HXE.out] at hst
  have hc5 := hown.cellAt 0 (by omega)
  have hf5 := hown.frozenAt 0
  have hb4 : Below w2.heap.size w3 (w3.setCell ⟨w2.heap.size, 0, none⟩ (.int .u8 ((9 : Nat) : Int))) := (Below.refl w2.heap.size w3).setCell (p := ⟨w2.heap.size, 0, none⟩) (Nat.le_refl _) _
  have hL4 : Law w.heap.size w S (w3.setCell ⟨w2.heap.size, 0, none⟩ (.int .u8 ((9 : Nat) : Int))) g (NF.new 4 4 2) := by
    refine ⟨HL.out.fl.below (hb3.trans hb4), HL.out.lo, HL.out.be.trans ((hb3.trans hb4).mono HL.out.size), HL.out.sz⟩
  have hX4 : BytesO S (w3.setCell ⟨w2.heap.size, 0, none⟩ (.int .u8 ((9 : Nat) : Int))) (some ⟨w2.heap.size, 0, none⟩) 146 X := bytesO_made hst.1 HXc.out HL.out.fl.1.2
  obtain ⟨gx, hgx⟩ : ∃ gx, gx = w2.heap.size := ⟨_, rfl⟩
  rw [← hgx] at hX4 hL4 hc5 hf5 ⊢
  have HL4 : Hid (Law w.heap.size w S (w3.setCell ⟨gx, 0, none⟩ (.int .u8 9)) g (NF.new 4 4 2)) := Lib.hid hL4
  have HX4 : Hid (BytesO S (w3.setCell ⟨gx, 0, none⟩ (.int .u8 9)) (some ⟨gx, 0, none⟩) 146 X) := Lib.hid hX4
  have hc5' : w3.cell? ⟨gx, 0, none⟩ = some (.int .u8 0) := hc5.trans (by simp [u8s])
  clear hgx hX4 hL4 hb4 hst hL3 hb3 hown hg3 hc5 HL HNew HFew HB
  go_wp2_with fail
  generalize w3.setCell ⟨gx, 0, none⟩ (.int .u8 9) = w4 at HL4 HX4 ⊢
  clear hc5' hf5
  refine (fprog_any (o : Int) 0 (some ⟨gx, 0, none⟩) 146 146 X w4 HL4.out.fl HX4.out.1 HX4.out.out (by omega) (by omega)).mono ?_
  rintro e w5 ⟨rfl, ho5⟩
  obtain ⟨b, hbf, hap⟩ := ap_first o (by have := HO.out; omega) X HXl.out
  have HA5 : Hid (ApI w.heap.size w g o b (some ⟨gx, 0, none⟩) X (some ⟨gx, 0, none⟩) X w5) := Lib.hid ⟨_, _, HL4.out.op ho5, hap, by rw [HXl.out]; exact ⟨(HX4.out.op ho5).1, fun _ => HX4.out.op ho5⟩, by rw [HXl.out]; exact ⟨(HX4.out.op ho5).1, fun _ => HX4.out.op ho5⟩⟩
  have HBf := Lib.hid hbf
  clear hbf hap ho5 HL4 HX4
  generalize ((NF.new 4 4 2).prog (o : Int) 0 X).1 = pr
  go_wp2_with fail
  refine (apI_read HA5.out p).mono ?_
  rintro e w6 ⟨⟨a6, cap6, rfl, -, hA6⟩, -⟩
  have HA6 := Lib.hid hA6
  clear hA6 HA5
  obtain ⟨R, hR⟩ : ∃ R, R = (b.tellR p).1 := ⟨_, rfl⟩
  obtain ⟨E, hE⟩ : ∃ E, E = (b.tellR p).2 := ⟨_, rfl⟩
  rw [← hR] at HA6
  rw [← hR, ← hE]
  have HR := Lib.hid hR
  have HE := Lib.hid hE
  clear hR hE
  go_wp2_with fail
  refine (apI_tell HA6.out).mono ?_
  rintro e w7 ⟨rfl, rfl⟩
  obtain ⟨nx, hnx⟩ : ∃ nx, nx = b.nextI := ⟨_, rfl⟩
  rw [← hnx]
  have HNx := Lib.hid hnx
  clear hnx
  go_wp2_with fail
  refine (apI_one HA6.out).mono ?_
  rintro e w7 ⟨rfl, rfl⟩
  obtain ⟨on, hon⟩ : ∃ on, on = b.one := ⟨_, rfl⟩
  rw [← hon]
  have HOn := Lib.hid hon
  clear hon
  go_wp2_with fail
  go_loopw [14] (fun i wr => ∃ k : Nat, k ≤ len ∧ i = .int .i64 (k : Int) ∧ Hid (ApI w.heap.size w g o b a6 R a6 R wr)) (fun i _ => len - (intOf i).toNat)
  case atStart => exact ⟨0, Nat.zero_le _, rfl, HA6⟩
  case round =>
    clear HA6
    obtain ⟨k, hk, rfl, HA⟩ := hrel
    obtain ⟨wo, rfl⟩ : ∃ wo : World, wo = wr := ⟨_, rfl⟩
    by_cases hlt : k < len
    · obtain ⟨bb, off, rfl, hbl, -⟩ := HI.out.2 (by omega)
      have hkl : k < xs.length := by rw [HI.out.1]; exact hlt
      have hx : xs[k]? = some xs[k] := List.getElem?_eq_getElem hkl
      obtain ⟨z, hz⟩ : ∃ z, z = xs[k] := ⟨_, rfl⟩
      rw [← hz] at hx
      have HZw : Hid (z.wf w) := Lib.hid (HW.out z (List.mem_of_getElem? hx))
      have HZl : Hid (z.raw.length ≤ 1000000) := Lib.hid (by
        have h1 := rawSum_one hlt hx
        have h2 := HFs.out
        omega)
      have HC := Lib.hid (fun w' (hb' : Below w.heap.size w w') => (NAct.eightAt HI.out hb' hlt hx).2)
      have hlt' : (k : Int) < (len : Int) := by omega
      have hb0 : (0 : Int) ≤ (k : Int) ∧ (k : Int) < (len : Int) := by omega
      obtain ⟨c0, c1, c2, c3, c4, c5, c6, c7⟩ := HC.out wo HA.out.be
      clear hz hx hbl hkl
      by_cases hbo : z.blk = (o : Int)
      · have hbo1 : (z.blk == (o : Int)) = true := by simpa using hbo
        have HBo := Lib.hid hbo
        clear hbo
        go_wp2_with fail
        go_roundw
        case rel => exact ⟨k + 1, by omega, by simp, HA⟩
        case measure => simp [intOf]; omega
      · have hbo1 : (z.blk == (o : Int)) = false := by simpa using hbo
        by_cases q1 : z.op = 1
        · have q1b : (z.op == 1) = true := by simp [q1]
          clear q1
          go_wp2_with fail
          have HAd : Hid (ApI w.heap.size w g o b a6 R a6 R wo.drew) := Lib.hid (HA.out.below (Below.refl _ _).drew)
          have k0 : ∀ w', Below w.heap.size w w' → w'.cell? ⟨bb, off + k * 8, none⟩ = some (.int .i64 z.op) := fun w' h => (HC.out w' h).1
          have k1 : ∀ w', Below w.heap.size w w' → w'.cell? ⟨bb, off + k * 8 + 1, none⟩ = some (.int .i64 z.blk) := fun w' h => (HC.out w' h).2.1
          have k2 : ∀ w', Below w.heap.size w w' → w'.cell? ⟨bb, off + k * 8 + 2, none⟩ = some (.int .i64 z.page) := fun w' h => (HC.out w' h).2.2.1
          have k3 : ∀ w', Below w.heap.size w w' → w'.cell? ⟨bb, off + k * 8 + 3, none⟩ = some (.bool z.own) := fun w' h => (HC.out w' h).2.2.2.1
          have k4 : ∀ w', Below w.heap.size w w' → w'.cell? ⟨bb, off + k * 8 + 4, none⟩ = some (.int .u8 z.fill) := fun w' h => (HC.out w' h).2.2.2.2.1
          have k5 : ∀ w', Below w.heap.size w w' → w'.cell? ⟨bb, off + k * 8 + 5, none⟩ = some (.slice z.ra z.raw.length z.rc) := fun w' h => (HC.out w' h).2.2.2.2.2.1
          have k6 : ∀ w', Below w.heap.size w w' → w'.cell? ⟨bb, off + k * 8 + 6, none⟩ = some (.bool z.one) := fun w' h => (HC.out w' h).2.2.2.2.2.2.1
          have k7 : ∀ w', Below w.heap.size w w' → w'.cell? ⟨bb, off + k * 8 + 7, none⟩ = some (.int .i64 z.n) := fun w' h => (HC.out w' h).2.2.2.2.2.2.2
          clear c0 c1 c2 c3 c4 c5 c6 c7
          refine wp_region_held_drew (S := (fun w' => Below w.heap.size w w')) (by kernel_rfl) (HA.out.be.drew) (fun hHeld => ?_)
          refine held_take 0 (v := ?_) rfl (by kernel_rfl) (by kernel_rfl) (by kernel_rfl) (fun _ _ _ h => h) (by rfl) (fun w hS => ?_) (by assumption) ?_
          rotate_left
          · try dsimp only at hS
            go_simp <;> with_reducible rfl
          try simp only [Act.put, List.setIfInBounds_toArray, List.set_cons_zero, List.set_cons_succ]
          refine held_take 1 (v := ?_) rfl (by kernel_rfl) (by kernel_rfl) (by kernel_rfl) (fun _ _ _ h => h) (by rfl) (fun w hS => ?_) (by assumption) ?_
          rotate_left
          · try dsimp only at hS
            go_simp <;> with_reducible rfl
          try simp only [Act.put, List.setIfInBounds_toArray, List.set_cons_zero, List.set_cons_succ]
          refine held_take 2 (v := ?_) rfl (by kernel_rfl) (by kernel_rfl) (by kernel_rfl) (fun _ _ _ h => h) (by rfl) (fun w hS => ?_) (by assumption) ?_
          rotate_left
          · try dsimp only at hS
            go_simp <;> with_reducible rfl
          try simp only [Act.put, List.setIfInBounds_toArray, List.set_cons_zero, List.set_cons_succ]
          refine held_take 3 (v := ?_) rfl (by kernel_rfl) (by kernel_rfl) (by kernel_rfl) (fun _ _ _ h => h) (by rfl) (fun w hS => ?_) (by assumption) ?_
          rotate_left
          · try dsimp only at hS
            go_simp <;> with_reducible rfl
          try simp only [Act.put, List.setIfInBounds_toArray, List.set_cons_zero, List.set_cons_succ]
          refine held_take 4 (v := ?_) rfl (by kernel_rfl) (by kernel_rfl) (by kernel_rfl) (fun _ _ _ h => h) (by rfl) (fun w hS => ?_) (by assumption) ?_
          rotate_left
          · try dsimp only at hS
            go_simp <;> with_reducible rfl
          try simp only [Act.put, List.setIfInBounds_toArray, List.set_cons_zero, List.set_cons_succ]
          refine held_take 5 (v := ?_) rfl (by kernel_rfl) (by kernel_rfl) (by kernel_rfl) (fun _ _ _ h => h) (by rfl) (fun w hS => ?_) (by assumption) ?_
          rotate_left
          · try dsimp only at hS
            go_simp <;> with_reducible rfl
          try simp only [Act.put, List.setIfInBounds_toArray, List.set_cons_zero, List.set_cons_succ]
          refine held_take 6 (v := ?_) rfl (by kernel_rfl) (by kernel_rfl) (by kernel_rfl) (fun _ _ _ h => h) (by rfl) (fun w hS => ?_) (by assumption) ?_
          rotate_left
          · try dsimp only at hS
            go_simp <;> with_reducible rfl
          try simp only [Act.put, List.setIfInBounds_toArray, List.set_cons_zero, List.set_cons_succ]
          refine held_take 7 (v := ?_) rfl (by kernel_rfl) (by kernel_rfl) (by kernel_rfl) (fun _ _ _ h => h) (by rfl) (fun w hS => ?_) (by assumption) ?_
          rotate_left
          · try dsimp only at hS
            go_simp <;> with_reducible rfl
          try simp only [Act.put, List.setIfInBounds_toArray, List.set_cons_zero, List.set_cons_succ]
          refine held_take 8 (v := ?_) rfl (by kernel_rfl) (by kernel_rfl) (by kernel_rfl) (fun _ _ _ h => h) (by rfl) (fun w hS => ?_) (by assumption) ?_
          rotate_left
          · try dsimp only at hS
            go_simp <;> with_reducible rfl
          try simp only [Act.put, List.setIfInBounds_toArray, List.set_cons_zero, List.set_cons_succ]
          refine held_take 9 (v := ?_) rfl (by kernel_rfl) (by kernel_rfl) (by kernel_rfl) (fun _ _ _ h => h) (by rfl) (fun w hS => ?_) (by assumption) ?_
          rotate_left
          · try dsimp only at hS
            go_simp <;> with_reducible rfl
          try simp only [Act.put, List.setIfInBounds_toArray, List.set_cons_zero, List.set_cons_succ]
          refine held_take 10 (v := ?_) rfl (by kernel_rfl) (by kernel_rfl) (by kernel_rfl) (fun _ _ _ h => h) (by rfl) (fun w hS => ?_) (by assumption) ?_
          rotate_left
          · try dsimp only at hS
            go_simp <;> with_reducible rfl
          try simp only [Act.put, List.setIfInBounds_toArray, List.set_cons_zero, List.set_cons_succ]
          refine held_take 11 (v := ?_) rfl (by kernel_rfl) (by kernel_rfl) (by kernel_rfl) (fun _ _ _ h => h) (by rfl) (fun w hS => ?_) (by assumption) ?_
          rotate_left
          · try dsimp only at hS
            go_simp <;> with_reducible rfl
          try simp only [Act.put, List.setIfInBounds_toArray, List.set_cons_zero, List.set_cons_succ]
          refine held_take 13 (v := ?_) rfl (by kernel_rfl) (by kernel_rfl) (by kernel_rfl) (fun _ _ _ h => h) (by rfl) (fun w hS => ?_) (by assumption) ?_
          rotate_left
          · try dsimp only at hS
            go_simp <;> with_reducible rfl
          try simp only [Act.put, List.setIfInBounds_toArray, List.set_cons_zero, List.set_cons_succ]
          refine held_take 14 (v := ?_) rfl (by kernel_rfl) (by kernel_rfl) (by kernel_rfl) (fun _ _ _ h => h) (by rfl) (fun w hS => ?_) (by assumption) ?_
          rotate_left
          · try dsimp only at hS
            go_simp <;> with_reducible rfl
          try simp only [Act.put, List.setIfInBounds_toArray, List.set_cons_zero, List.set_cons_succ]
          refine held_take 15 (v := ?_) rfl (by kernel_rfl) (by kernel_rfl) (by kernel_rfl) (fun _ _ _ h => h) (by rfl) (fun w hS => ?_) (by assumption) ?_
          rotate_left
          · try dsimp only at hS
            go_simp <;> with_reducible rfl
          try simp only [Act.put, List.setIfInBounds_toArray, List.set_cons_zero, List.set_cons_succ]
          refine held_take 16 (v := ?_) rfl (by kernel_rfl) (by kernel_rfl) (by kernel_rfl) (fun _ _ _ h => h) (by rfl) (fun w hS => ?_) (by assumption) ?_
          rotate_left
          · try dsimp only at hS
            go_simp <;> with_reducible rfl
          try simp only [Act.put, List.setIfInBounds_toArray, List.set_cons_zero, List.set_cons_succ]
          refine held_one 12 rfl (by kernel_rfl) (fun K hK => ?_)
          go_simp
          refine Calls.mono (apI_next HAd.out z.blk) ?_
          rintro e wn ⟨⟨nv, rfl⟩, rfl⟩
          refine hK.out _ _ (fun w' => Below w.heap.size w w') (fun _ h => h) HAd.out.be (fun hHeld => ?_)
          clear hK K
          try simp only [Act.put, List.setIfInBounds_toArray, List.set_cons_zero, List.set_cons_succ]
          refine held_one 17 rfl (by kernel_rfl) (fun K hK => ?_)
          go_simp
          refine Calls.mono (lraw_any z 2 _ (HZw.out.below HAd.out.be) (by omega) (by omega)) ?_
          rintro e wr2 hr2
          obtain ⟨ar, cr, rfl, hcr, hAr⟩ := apI_raw (w0 := w) HAd.out HZw.out rfl hr2
          have HAr := Lib.hid hAr
          clear hAr hr2
          refine hK.out _ _ (fun w' => Below w.heap.size w w') (fun _ h => h) HAr.out.be (fun hHeld => ?_)
          clear hK K
          try simp only [Act.put, List.setIfInBounds_toArray, List.set_cons_zero, List.set_cons_succ]
          refine held_one 18 rfl (by kernel_rfl) (fun K hK => ?_)
          go_simp
          refine Calls.mono (apI_prog HAr.out z.blk nv hbo cr z.bytes_pos hcr (z.bytes_le HZl.out)) ?_
          rintro e wp ⟨⟨pv, rfl⟩, hAp⟩
          have HAp := Lib.hid hAp
          clear hAp HAr HAd HA
          refine hK.out _ _ (fun w' => Below w.heap.size w w') (fun _ h => h) HAp.out.be (fun hHeld => ?_)
          clear hK K
          try simp only [Act.put, List.setIfInBounds_toArray, List.set_cons_zero, List.set_cons_succ]
          refine held_done (by kernel_rfl) ?_
          go_wp2_with fail
          go_roundw
          case rel => exact ⟨k + 1, by omega, by simp, HAp⟩
          case measure => simp [intOf]; omega
        have q1b : (z.op == 1) = false := by simp [q1]
        clear q1
        by_cases q2 : z.op = 2
        · have q2b : (z.op == 2) = true := by simp [q2]
          clear q2
          go_wp2_with fail
          refine (apI_erase HA.out z.blk hbo).mono ?_
          rintro e wp ⟨⟨pv, rfl⟩, hAp⟩
          have HAp := Lib.hid hAp
          clear hAp HA
          go_wp2_with fail
          go_roundw
          case rel => exact ⟨k + 1, by omega, by simp, HAp⟩
          case measure => simp [intOf]; omega
        have q2b : (z.op == 2) = false := by simp [q2]
        clear q2
        by_cases q3 : z.op = 3
        · have q3b : (z.op == 3) = true := by simp [q3]
          clear q3
          go_wp2_with fail
          go_still_tail 11, (by kernel_rfl)
          change wpList _ _ _ _ _ wo.drew
          have HAd : Hid (ApI w.heap.size w g o b a6 R a6 R wo.drew) := Lib.hid (HA.out.below (Below.refl _ _).drew)
          go_wp2_with fail
          refine (apI_mode HAd.out z.blk z.one hbo).mono ?_
          rintro e wp ⟨⟨pv, rfl⟩, hAp⟩
          have HAp := Lib.hid hAp
          clear hAp HA HAd
          go_wp2_with fail
          go_roundw
          case rel => exact ⟨k + 1, by omega, by simp, HAp⟩
          case measure => simp [intOf]; omega
        have q3b : (z.op == 3) = false := by simp [q3]
        clear q3
        by_cases q4 : z.op = 4
        · have q4b : (z.op == 4) = true := by simp [q4]
          clear q4
          go_wp2_with fail
          refine (apI_fail HA.out z.blk hbo).mono ?_
          rintro e wp ⟨⟨pv, rfl⟩, hAp⟩
          have HAp := Lib.hid hAp
          clear hAp HA
          go_wp2_with fail
          go_roundw
          case rel => exact ⟨k + 1, by omega, by simp, HAp⟩
          case measure => simp [intOf]; omega
        have q4b : (z.op == 4) = false := by simp [q4]
        clear q4
        by_cases q5 : z.op = 5
        · have q5b : (z.op == 5) = true := by simp [q5]
          clear q5
          go_wp2_with fail
          go_still_tail 16, (by kernel_rfl)
          change wpList _ _ _ _ _ wo.drew
          have HAd : Hid (ApI w.heap.size w g o b a6 R a6 R wo.drew) := Lib.hid (HA.out.below (Below.refl _ _).drew)
          go_wp2_with fail
          refine (apI_flip HAd.out z.blk z.page z.n hbo).mono ?_
          rintro e wp ⟨⟨pv, rfl⟩, hAp⟩
          have HAp := Lib.hid hAp
          clear hAp HA HAd
          go_wp2_with fail
          go_roundw
          case rel => exact ⟨k + 1, by omega, by simp, HAp⟩
          case measure => simp [intOf]; omega
        have q5b : (z.op == 5) = false := by simp [q5]
        clear q5
        go_wp2_with fail
        go_roundw
        case rel => exact ⟨k + 1, by omega, by simp, HA⟩
        case measure => simp [intOf]; omega
    · obtain rfl : k = len := by omega
      go_wp2_with fail
      refine (apI_read HA.out p).mono ?_
      rintro e wr2 ⟨⟨a8, cap8, rfl, hby, -⟩, hA8⟩
      rw [← HR.out] at hby
      rw [← HR.out, ← HE.out]
      have HA8 := Lib.hid hA8
      have hs1 := run_str (P := Try.prog) hby 29 5 9 Try.underlying29 Try.underlying5 Try.underlying9 cap8
      have hs2 := run_str (P := Try.prog) HA8.out.bytes 29 5 9 Try.underlying29 Try.underlying5 Try.underlying9 cap6
      clear hby hA8 HA
      go_wp2_with fail
      refine (apI_tell HA8.out).mono ?_
      rintro e w9 ⟨rfl, rfl⟩
      rw [← HNx.out]
      go_wp2_with fail
      refine (apI_one HA8.out).mono ?_
      rintro e w9 ⟨rfl, rfl⟩
      rw [← HOn.out]
      go_wp2_with fail
      refine (apI_failed HA8.out).mono ?_
      rintro e w9 ⟨rfl, rfl⟩
      rw [HBf.out]
      go_wp2_with fail
      rw [HPOST.out]
      exact ⟨rfl, HA8.out.be⟩

set_option maxRecDepth 100000 in
theorem napart_any (a : Option Addr) (len cap : Nat) (xs : List NAct) (o p : Int) (w : World) (hi : Rws 8 NAct.cells w a len xs) (hw : ∀ x ∈ xs, x.wf w) (hb : rawSum xs len + len ≤ 1048576) :
    Calls Try.prog 6 #[.slice a len cap, .int .i64 o, .int .i64 p] w fun e w' => e = .returned (.bool true) ∧ Below w.heap.size w w' := by
  by_cases hfe : fewS xs len = true
  · by_cases t1 : o < 0
    · have hfew := fun w' (hb' : Below w.heap.size w w') => nfew_any a len cap xs w' (hi.below hb') hb
      rw [hfe] at hfew
      have HFew := Lib.hid hfew
      obtain ⟨POST, hPOST⟩ : ∃ Q : Ending → World → Prop, Q = fun e w' => e = .returned (.bool true) ∧ Below w.heap.size w w' := ⟨_, rfl⟩
      rw [← hPOST]
      have HPOST := Lib.hid hPOST
      clear hPOST hi hw hb hfe hfew
      go_enter Try.func6, Try.ntmps6
      go_wp2_with fail
      refine (nknown_any _).mono ?_
      rintro e w1 ⟨rfl, hb⟩
      have HB := Lib.hid hb
      clear hb
      go_wp2_with fail
      refine (HFew.out _ HB.out).mono ?_
      rintro e w1' ⟨rfl, rfl⟩
      go_wp2_with fail
      rw [HPOST.out]
      exact ⟨rfl, HB.out⟩
    · by_cases t2 : 3 < o
      · have hfew := fun w' (hb' : Below w.heap.size w w') => nfew_any a len cap xs w' (hi.below hb') hb
        rw [hfe] at hfew
        have HFew := Lib.hid hfew
        obtain ⟨POST, hPOST⟩ : ∃ Q : Ending → World → Prop, Q = fun e w' => e = .returned (.bool true) ∧ Below w.heap.size w w' := ⟨_, rfl⟩
        rw [← hPOST]
        have HPOST := Lib.hid hPOST
        clear hPOST hi hw hb hfe hfew
        go_enter Try.func6, Try.ntmps6
        go_wp2_with fail
        refine (nknown_any _).mono ?_
        rintro e w1 ⟨rfl, hb⟩
        have HB := Lib.hid hb
        clear hb
        go_wp2_with fail
        refine (HFew.out _ HB.out).mono ?_
        rintro e w1' ⟨rfl, rfl⟩
        go_wp2_with fail
        rw [HPOST.out]
        exact ⟨rfl, HB.out⟩
      · obtain ⟨o, rfl⟩ : ∃ q : Nat, o = q := ⟨o.toNat, by omega⟩
        exact napart_go a len cap xs o p w hi hw hb (by omega) hfe
  · have hfe : fewS xs len = false := by simpa using hfe
    have hfew := fun w' (hb' : Below w.heap.size w w') => nfew_any a len cap xs w' (hi.below hb') hb
    rw [hfe] at hfew
    have HFew := Lib.hid hfew
    obtain ⟨POST, hPOST⟩ : ∃ Q : Ending → World → Prop, Q = fun e w' => e = .returned (.bool true) ∧ Below w.heap.size w w' := ⟨_, rfl⟩
    rw [← hPOST]
    have HPOST := Lib.hid hPOST
    clear hPOST hi hw hb hfe hfew
    go_enter Try.func6, Try.ntmps6
    go_wp2_with fail
    refine (nknown_any _).mono ?_
    rintro e w1 ⟨rfl, hb⟩
    have HB := Lib.hid hb
    clear hb
    go_wp2_with fail
    refine (HFew.out _ HB.out).mono ?_
    rintro e w1' ⟨rfl, rfl⟩
    go_wp2_with fail
    rw [HPOST.out]
    exact ⟨rfl, HB.out⟩
end Go.Proofs.Ytbbhniohliklhaa
