/- the reference's Decode of a setting. -/
import Derived.Test.YtdbnadhmkfhdkaaAreasN
namespace Go.Proofs.Ytdbnadhmkfhdkaa
open Go Go.RowKit
set_option linter.unusedVariables false

/-- The reference's cells behind k sizes. -/
def rdecV (b : List Nat) (k : Nat) (y : Nat) (z : Bool) : List Value := [.int .i64 (numI b k 0), .int .i64 (numI b k 1), .int .i64 (numI b k 2), .int .i64 (numI b k 3), .int .u8 (y : Int), .bool z]
theorem rdecV_set (b : List Nat) (k y : Nat) (z : Bool) (hk : k < 4) : (rdecV b k y z).toArray.setIfInBounds k (.int .i64 (numB b k : Nat)) = (rdecV b (k + 1) y z).toArray := by
  match k, hk with
  | 0, _ => simp [rdecV, numI]
  | 1, _ => simp [rdecV, numI]
  | 2, _ => simp [rdecV, numI]
  | 3, _ => simp [rdecV, numI]
theorem rdecV4 (b : List Nat) (y : Nat) (z : Bool) : rdecV b 4 y z = [.int .i64 (numB b 0 : Nat), .int .i64 (numB b 1 : Nat), .int .i64 (numB b 2 : Nat), .int .i64 (numB b 3 : Nat), .int .u8 (y : Int), .bool z] := by simp [rdecV, numI]
theorem rdecV0 (b : List Nat) (y : Nat) (z : Bool) : rdecV b 0 y z = [.int .i64 0, .int .i64 0, .int .i64 0, .int .i64 0, .int .u8 (y : Int), .bool z] := by simp [rdecV, numI]

def RDecS (w w' : World) : Prop := HasB w' w.heap.size #[.int .i64 0, .int .i64 0, .int .i64 0, .int .i64 0, .int .u8 0, .bool false] 56 ∧ Below w.heap.size w w'
theorem RDecS.cell {w w' : World} (h : RDecS w w') {bk o : Nat} {v : Value} (hb : bk < w.heap.size) (hc : w.cell? ⟨bk, o, none⟩ = some v) : w'.cell? ⟨bk, o, none⟩ = some v := (h.2.cell (p := ⟨bk, _, none⟩) hb).trans hc

set_option maxRecDepth 100000 in
set_option maxHeartbeats 4000000 in
theorem rdec_any (a : Option Addr) (len cap : Nat) (l : List Nat) (w : World) (hi : Bytes w a len l) (hl : len ≤ 1000000) :
    Calls Try.prog 32 #[.slice a len cap] w fun x w' => x = decE l ∧ Below w.heap.size w w' := by
  have hll := hi.1
  by_cases h18 : len = 18
  · subst h18
    obtain ⟨bk, o, rfl, hbk, hcell⟩ := hi.2.2 (by omega)
    have c17 := hcell 17 (by omega)
    by_cases h1 : 1 < l.getD 17 0
    · have hE := decE_bad (b := l) (by unfold decErr; rw [if_pos (.inr h1)])
      rw [hE]
      obtain ⟨z, hz⟩ : ∃ z, z = l.getD 17 0 := ⟨_, rfl⟩
      rw [← hz] at c17 h1
      have h1' : (z : Int) > 1 := by omega
      have hb1 : ((1 : Int) < z) := by omega
      clear hE hz hcell hi
      go_enter Try.func32, Try.ntmps32
      go_wp2_with fail
      refine bodyPost_ret (v := .tuple #[.agg #[.int .i64 0, .int .i64 0, .int .i64 0, .int .i64 0, .int .u8 0, .bool false], .int .i64 24]) (by simp [results, Try.results32, go_sem]) rfl ⟨rfl, ?_⟩
      exact (Below.refl _ _).alloc (Nat.le_refl _) _
    · have hE := decE_ok (b := l) (by unfold decErr; rw [if_neg (by omega)])
      have HE := Lib.hid hE
      have c16 := hcell 16 (by omega)
      have HI := Lib.hid hi
      have HCell : Hid (∀ i : Nat, i < 18 → w.cell? ⟨bk, o + i, none⟩ = some (.int .u8 (l.getD i 0 : Nat))) := Lib.hid hcell
      have H256 : Hid (∀ i : Nat, l.getD i 0 < 256) := Lib.hid (getD_lt256 l hi.2.1)
      obtain ⟨POST, hPOST⟩ : ∃ POST : Ending → World → Prop, POST = fun x w' => x = decE l ∧ Below w.heap.size w w' := ⟨_, rfl⟩
      rw [← hPOST]
      have HPost := Lib.hid hPOST
      obtain ⟨z, hz⟩ : ∃ z, z = l.getD 17 0 := ⟨_, rfl⟩
      obtain ⟨y, hy⟩ : ∃ y, y = l.getD 16 0 := ⟨_, rfl⟩
      rw [← hz] at c17 h1 HE
      rw [← hy] at c16 HE
      have h1' : ¬ ((1 : Int) < (z : Int)) := by omega
      obtain ⟨zb, hzb⟩ : ∃ zb : Bool, zb = (z == 1) := ⟨_, rfl⟩
      have e1 : ((z : Int) == 1) = zb := by
        rw [hzb]
        by_cases q : z = 1
        · subst q; rfl
        · rw [show (z == 1) = false by simpa using q]; simp; omega
      rw [← hzb] at HE
      have n1 : HasB ((w.alloc (.cells #[.int .i64 0, .int .i64 0, .int .i64 0, .int .i64 0, .int .u8 0, .bool false] 56)).alloc (.cells #[.int .i64 0, .int .i64 0, .int .i64 0, .int .i64 0, .int .u8 (y : Int), .bool zb] 56)) w.heap.size #[.int .i64 0, .int .i64 0, .int .i64 0, .int .i64 0, .int .u8 0, .bool false] 56 := (HasB.new w _ _).alloc _
      have n2 : HasB ((w.alloc (.cells #[.int .i64 0, .int .i64 0, .int .i64 0, .int .i64 0, .int .u8 0, .bool false] 56)).alloc (.cells #[.int .i64 0, .int .i64 0, .int .i64 0, .int .i64 0, .int .u8 (y : Int), .bool zb] 56)) (w.heap.size + 1) (rdecV l 0 y zb).toArray 56 := by rw [rdecV0]; exact HasB.new' (by simp) _ _
      have n3 : Below w.heap.size w ((w.alloc (.cells #[.int .i64 0, .int .i64 0, .int .i64 0, .int .i64 0, .int .u8 0, .bool false] 56)).alloc (.cells #[.int .i64 0, .int .i64 0, .int .i64 0, .int .i64 0, .int .u8 (y : Int), .bool zb] 56)) := ((Below.refl _ _).alloc (Nat.le_refl _) _).alloc (by simp) _
      have HN := Lib.hid (And.intro n1 (And.intro n2 n3))
      have m0 : ∀ w', RDecS w w' → w'.cell? ⟨bk, o + 16, none⟩ = some (.int .u8 (y : Nat)) := fun w' h => h.cell hbk c16
      have m1 : ∀ w', RDecS w w' → w'.cell? ⟨bk, o + 17, none⟩ = some (.int .u8 (z : Nat)) := fun w' h => h.cell hbk c17
      have hS0 : RDecS w (w.alloc (.cells #[.int .i64 0, .int .i64 0, .int .i64 0, .int .i64 0, .int .u8 0, .bool false] 56)).drew := ⟨(HasB.new w _ _).drew, ((Below.refl _ _).alloc (Nat.le_refl _) _).drew⟩
      have hS1 : RDecS w ((w.alloc (.cells #[.int .i64 0, .int .i64 0, .int .i64 0, .int .i64 0, .int .u8 0, .bool false] 56)).drew.alloc (.cells #[.int .i64 0, .int .i64 0, .int .i64 0, .int .i64 0, .int .u8 0, .bool false] 56)) := ⟨(HasB.new w _ _).drew.alloc _, ((Below.refl _ _).alloc (Nat.le_refl _) _).drew.alloc (by simp) _⟩
      have hS2 : RDecS w ((w.alloc (.cells #[.int .i64 0, .int .i64 0, .int .i64 0, .int .i64 0, .int .u8 0, .bool false] 56)).drew.alloc (.cells #[.int .i64 0, .int .i64 0, .int .i64 0, .int .i64 0, .int .u8 (y : Int), .bool zb] 56)) := ⟨(HasB.new w _ _).drew.alloc _, ((Below.refl _ _).alloc (Nat.le_refl _) _).drew.alloc (by simp) _⟩
      clear hE hz hy hcell hi hPOST n1 n2 n3 hl hzb
      go_enter Try.func32, Try.ntmps32
      go_wp2_with fail
      refine wp_region_held_drew (S := (RDecS w)) (by kernel_rfl) (hS0) (fun hHeld => ?_)
      refine held_take 0 (v := ?_) rfl (by kernel_rfl) (by kernel_rfl) (by kernel_rfl) (fun _ _ _ h => h) (by rfl) (fun w hS => ?_) (by assumption) ?_
      rotate_left
      · try dsimp only at hS
        go_simp <;> with_reducible rfl
      try simp only [Act.put, List.setIfInBounds_toArray, List.set_cons_zero, List.set_cons_succ]
      refine held_take 1 (v := ?_) rfl (by kernel_rfl) (by kernel_rfl) (by kernel_rfl) (fun _ _ _ h => h) (by rfl) (fun w hS => ?_) (by assumption) ?_
      rotate_left
      · try dsimp only at hS
        go_simp <;> with_reducible rfl
      try simp only [Act.put, List.setIfInBounds_toArray, List.set_cons_zero, List.set_cons_succ]
      refine held_take 2 (v := ?_) rfl (by kernel_rfl) (by kernel_rfl) (by kernel_rfl) (fun _ _ _ h => h) (by rfl) (fun w hS => ?_) (by assumption) ?_
      rotate_left
      · try dsimp only at hS
        go_simp <;> with_reducible rfl
      try simp only [Act.put, List.setIfInBounds_toArray, List.set_cons_zero, List.set_cons_succ]
      refine held_take 3 (v := ?_) rfl (by kernel_rfl) (by kernel_rfl) (by kernel_rfl) (fun _ _ _ h => h) (by rfl) (fun w hS => ?_) (by assumption) ?_
      rotate_left
      · try dsimp only at hS
        go_simp <;> with_reducible rfl
      try simp only [Act.put, List.setIfInBounds_toArray, List.set_cons_zero, List.set_cons_succ]
      refine held_take 4 (v := ?_) rfl (by kernel_rfl) (by kernel_rfl) (by kernel_rfl) (fun _ _ _ h => h) (by rfl) (fun w hS => ?_) (by assumption) ?_
      rotate_left
      · try dsimp only at hS
        go_simp <;> with_reducible rfl
      try simp only [Act.put, List.setIfInBounds_toArray, List.set_cons_zero, List.set_cons_succ]
      refine held_take 5 (v := ?_) rfl (by kernel_rfl) (by kernel_rfl) (by kernel_rfl) (fun _ _ _ h => h) (by rfl) (fun w hS => ?_) (by assumption) ?_
      rotate_left
      · try dsimp only at hS
        go_simp <;> with_reducible rfl
      try simp only [Act.put, List.setIfInBounds_toArray, List.set_cons_zero, List.set_cons_succ]
      refine held_take 6 (v := ?_) rfl (by kernel_rfl) (by kernel_rfl) (by kernel_rfl) (fun _ _ _ h => h) (by rfl) (fun w hS => ?_) (by assumption) ?_
      rotate_left
      · try dsimp only at hS
        go_simp <;> with_reducible rfl
      try simp only [Act.put, List.setIfInBounds_toArray, List.set_cons_zero, List.set_cons_succ]
      refine held_take 7 (v := ?_) rfl (by kernel_rfl) (by kernel_rfl) (by kernel_rfl) (fun _ _ _ h => h) (by rfl) (fun w hS => ?_) (by assumption) ?_
      rotate_left
      · try dsimp only at hS
        go_simp <;> with_reducible rfl
      try simp only [Act.put, List.setIfInBounds_toArray, List.set_cons_zero, List.set_cons_succ]
      refine held_one 8 rfl (by kernel_rfl) (fun K hK => ?_)
      go_simp
      refine hK.out _ _ (RDecS w) (fun _ h => h) hS1 (fun hHeld => ?_)
      clear hK K
      try simp only [Act.put, List.setIfInBounds_toArray, List.set_cons_zero, List.set_cons_succ]
      refine held_one 9 rfl (by kernel_rfl) (fun K hK => ?_)
      go_simp
      refine hK.out _ _ (RDecS w) (fun _ h => h) hS2 (fun hHeld => ?_)
      clear hK K
      try simp only [Act.put, List.setIfInBounds_toArray, List.set_cons_zero, List.set_cons_succ]
      refine held_done (by kernel_rfl) ?_
      have HN2 : Hid (HasB ((w.alloc (.cells #[.int .i64 0, .int .i64 0, .int .i64 0, .int .i64 0, .int .u8 0, .bool false] 56)).alloc (.cells #[.int .i64 0, .int .i64 0, .int .i64 0, .int .i64 0, .int .u8 (y : Int), .bool zb] 56)).drew w.heap.size #[.int .i64 0, .int .i64 0, .int .i64 0, .int .i64 0, .int .u8 0, .bool false] 56 ∧ HasB ((w.alloc (.cells #[.int .i64 0, .int .i64 0, .int .i64 0, .int .i64 0, .int .u8 0, .bool false] 56)).alloc (.cells #[.int .i64 0, .int .i64 0, .int .i64 0, .int .i64 0, .int .u8 (y : Int), .bool zb] 56)).drew (w.heap.size + 1) (rdecV l 0 y zb).toArray 56 ∧ Below w.heap.size w ((w.alloc (.cells #[.int .i64 0, .int .i64 0, .int .i64 0, .int .i64 0, .int .u8 0, .bool false] 56)).alloc (.cells #[.int .i64 0, .int .i64 0, .int .i64 0, .int .i64 0, .int .u8 (y : Int), .bool zb] 56)).drew) := Lib.hid ⟨HN.out.1.drew, HN.out.2.1.drew, HN.out.2.2.drew⟩
      change (Exit.then _ _) .normal _ ((w.alloc (.cells #[.int .i64 0, .int .i64 0, .int .i64 0, .int .i64 0, .int .u8 0, .bool false] 56)).alloc (.cells #[.int .i64 0, .int .i64 0, .int .i64 0, .int .i64 0, .int .u8 (y : Int), .bool zb] 56)).drew
      obtain ⟨w1, hw1⟩ : ∃ w1, ((w.alloc (.cells #[.int .i64 0, .int .i64 0, .int .i64 0, .int .i64 0, .int .u8 0, .bool false] 56)).alloc (.cells #[.int .i64 0, .int .i64 0, .int .i64 0, .int .i64 0, .int .u8 (y : Int), .bool zb] 56)).drew = w1 := ⟨_, rfl⟩
      rw [hw1] at HN2 ⊢
      clear hw1 HN hS0 hS1 hS2 m0 m1
      go_wp2_with fail
      go_loopw [5] (fun i wr => ∃ k : Nat, k ≤ 4 ∧ i = .int .i64 (k : Int) ∧ Hid (HasB wr w.heap.size #[.int .i64 0, .int .i64 0, .int .i64 0, .int .i64 0, .int .u8 0, .bool false] 56 ∧ HasB wr (w.heap.size + 1) (rdecV l k y zb).toArray 56 ∧ Below w.heap.size w wr)) (fun i _ => 4 - (intOf i).toNat)
      case atStart => exact ⟨0, by omega, rfl, HN2⟩
      case round =>
        clear HN2
        obtain ⟨k, hk, rfl, HR⟩ := hrel
        obtain ⟨wo, rfl⟩ : ∃ wo : World, wo = wr := ⟨_, rfl⟩
        by_cases hlt : k < 4
        · have t1 : (k : Int) < 4 := by omega
          obtain ⟨q, hq⟩ : ∃ q, q = 4 * k := ⟨_, rfl⟩
          obtain ⟨q1, hq1⟩ : ∃ q1, q1 = q + 1 := ⟨_, rfl⟩
          obtain ⟨q2, hq2⟩ : ∃ q2, q2 = q + 2 := ⟨_, rfl⟩
          obtain ⟨q3, hq3⟩ : ∃ q3, q3 = q + 3 := ⟨_, rfl⟩
          have hb := HR.out.2.2
          have d0 : wo.cell? ⟨bk, o + q, none⟩ = some (.int .u8 (l.getD q 0 : Nat)) := (hb.cell (p := ⟨bk, _, none⟩) hbk).trans (HCell.out q (by omega))
          have d1 : wo.cell? ⟨bk, o + q1, none⟩ = some (.int .u8 (l.getD q1 0 : Nat)) := (hb.cell (p := ⟨bk, _, none⟩) hbk).trans (HCell.out q1 (by omega))
          have d2 : wo.cell? ⟨bk, o + q2, none⟩ = some (.int .u8 (l.getD q2 0 : Nat)) := (hb.cell (p := ⟨bk, _, none⟩) hbk).trans (HCell.out q2 (by omega))
          have d3 : wo.cell? ⟨bk, o + q3, none⟩ = some (.int .u8 (l.getD q3 0 : Nat)) := (hb.cell (p := ⟨bk, _, none⟩) hbk).trans (HCell.out q3 (by omega))
          have l0 := H256.out q
          have l1 := H256.out q1
          have l2 := H256.out q2
          have l3 := H256.out q3
          have HNum : Hid (numB l k = l.getD q 0 + 256 * l.getD q1 0 + 65536 * l.getD q2 0 + 16777216 * l.getD q3 0) := Lib.hid (by rw [hq1, hq2, hq3, hq]; rfl)
          generalize l.getD q 0 = z0 at d0 l0 HNum
          generalize l.getD q1 0 = z1 at d1 l1 HNum
          generalize l.getD q2 0 = z2 at d2 l2 HNum
          generalize l.getD q3 0 = z3 at d3 l3 HNum
          have i0 : IntKind.i64.wrap ((4 : Int) * (k : Int)) = (q : Int) := by rw [wr64 _ (by omega) (by omega)]; omega
          have i1 : IntKind.i64.wrap ((q : Int) + 1) = (q1 : Int) := by rw [wr64 _ (by omega) (by omega)]; omega
          have i2 : IntKind.i64.wrap ((q : Int) + 2) = (q2 : Int) := by rw [wr64 _ (by omega) (by omega)]; omega
          have i3 : IntKind.i64.wrap ((q : Int) + 3) = (q3 : Int) := by rw [wr64 _ (by omega) (by omega)]; omega
          have j0 : (0 : Int) ≤ (q : Int) ∧ (q : Int) < 18 := by omega
          have j1 : (0 : Int) ≤ (q1 : Int) ∧ (q1 : Int) < 18 := by omega
          have j2 : (0 : Int) ≤ (q2 : Int) ∧ (q2 : Int) < 18 := by omega
          have j3 : (0 : Int) ≤ (q3 : Int) ∧ (q3 : Int) < 18 := by omega
          have u0 : IntKind.i64.wrap (z0 : Int) = (z0 : Int) := wr64 _ (by omega) (by omega)
          have u1 : IntKind.i64.wrap (z1 : Int) = (z1 : Int) := wr64 _ (by omega) (by omega)
          have u2 : IntKind.i64.wrap (z2 : Int) = (z2 : Int) := wr64 _ (by omega) (by omega)
          have u3 : IntKind.i64.wrap (z3 : Int) = (z3 : Int) := wr64 _ (by omega) (by omega)
          obtain ⟨s1, hs1⟩ : ∃ s1, s1 = z0 + z1 * 256 := ⟨_, rfl⟩
          obtain ⟨s2, hs2⟩ : ∃ s2, s2 = s1 + z2 * 65536 := ⟨_, rfl⟩
          obtain ⟨s3, hs3⟩ : ∃ s3, s3 = s2 + z3 * 16777216 := ⟨_, rfl⟩
          have v1 : IntKind.i64.wrap ((z1 : Int) * 256) = (z1 : Int) * 256 := wr64 _ (by omega) (by omega)
          have v2 : IntKind.i64.wrap ((z2 : Int) * 65536) = (z2 : Int) * 65536 := wr64 _ (by omega) (by omega)
          have v3 : IntKind.i64.wrap ((z3 : Int) * 16777216) = (z3 : Int) * 16777216 := wr64 _ (by omega) (by omega)
          have o1 : IntKind.i64.wrap ((z0 : Int) + (z1 : Int) * 256) = (s1 : Int) := by rw [wr64 _ (by omega) (by omega)]; omega
          have o2 : IntKind.i64.wrap ((s1 : Int) + (z2 : Int) * 65536) = (s2 : Int) := by rw [wr64 _ (by omega) (by omega)]; omega
          have o3 : IntKind.i64.wrap ((s2 : Int) + (z3 : Int) * 16777216) = (s3 : Int) := by rw [wr64 _ (by omega) (by omega)]; omega
          have hNum3 : numB l k = s3 := by rw [HNum.out]; omega
          have HQ := Lib.hid hq
          have t2 : (0 : Int) ≤ (k : Int) ∧ (k : Int) < 4 := by omega
          have hfz := HR.out.2.1.free k
          obtain ⟨v0, hv0⟩ : ∃ v0, wo.cell? ⟨w.heap.size + 1, k, none⟩ = some v0 := by rw [HR.out.2.1.at k]; exact ⟨_, Array.getElem?_eq_getElem (by simp [rdecV]; omega)⟩
          have HNx : Hid (HasB (wo.drew.setCell ⟨w.heap.size + 1, k, none⟩ (.int .i64 (s3 : Int))) w.heap.size #[.int .i64 0, .int .i64 0, .int .i64 0, .int .i64 0, .int .u8 0, .bool false] 56 ∧ HasB (wo.drew.setCell ⟨w.heap.size + 1, k, none⟩ (.int .i64 (s3 : Int))) (w.heap.size + 1) (rdecV l (k + 1) y zb).toArray 56 ∧ Below w.heap.size w (wo.drew.setCell ⟨w.heap.size + 1, k, none⟩ (.int .i64 (s3 : Int)))) := Lib.hid ⟨HR.out.1.drew.set_other (by simp) _, by rw [← rdecV_set l k y zb hlt, hNum3]; exact HR.out.2.1.drew.set k _, HR.out.2.2.drew.setCell (by simp) _⟩
          clear HNum hs1 hs2 hs3 hb hq hq1 hq2 hq3 hNum3 HR
          go_wp2_with fail
          go_still_tail 36, (by kernel_rfl)
          change wpList _ _ _ _ _ wo.drew
          go_wp2_with fail
          go_roundw
          case rel => exact ⟨k + 1, by omega, by go_num, HNx⟩
          case measure => simp [intOf]; omega
        · obtain rfl : k = 4 := by omega
          have hR2 := HR.out.2.1
          rw [rdecV4] at hR2
          obtain ⟨-, r0, r1, r2, r3, r4, r5⟩ := HR.out.1.six
          obtain ⟨-, s0, s1, s2, s3, s4, s5⟩ := hR2.six
          have fr0 := HR.out.1.free 0
          have fr1 := HR.out.1.free 1
          have fr2 := HR.out.1.free 2
          have fr3 := HR.out.1.free 3
          have fr4 := HR.out.1.free 4
          have fr5 := HR.out.1.free 5
          have HF := Lib.hid (set6_of HR.out.1 HR.out.2.2 (.int .i64 (numB l 0 : Nat)) (.int .i64 (numB l 1 : Nat)) (.int .i64 (numB l 2 : Nat)) (.int .i64 (numB l 3 : Nat)) (.int .u8 (y : Int)) (.bool zb))
          clear hR2 HR
          go_wp2_with fail
          obtain ⟨wf, hwf⟩ : ∃ wf, ((((((wo.setCell ⟨w.heap.size, 0, none⟩ (.int .i64 (numB l 0 : Nat))).setCell ⟨w.heap.size, 1, none⟩ (.int .i64 (numB l 1 : Nat))).setCell ⟨w.heap.size, 2, none⟩ (.int .i64 (numB l 2 : Nat))).setCell ⟨w.heap.size, 3, none⟩ (.int .i64 (numB l 3 : Nat))).setCell ⟨w.heap.size, 4, none⟩ (.int .u8 (y : Int))).setCell ⟨w.heap.size, 5, none⟩ (.bool zb)) = wf := ⟨_, rfl⟩
          rw [hwf] at HF ⊢
          clear hwf r0 r1 r2 r3 r4 r5 s0 s1 s2 s3 s4 s5 fr0 fr1 fr2 fr3 fr4 fr5
          obtain ⟨-, r0, r1, r2, r3, r4, r5⟩ := HF.out.1.six
          refine bodyPost_ret (v := .tuple #[.agg #[.int .i64 (numB l 0 : Nat), .int .i64 (numB l 1 : Nat), .int .i64 (numB l 2 : Nat), .int .i64 (numB l 3 : Nat), .int .u8 (y : Int), .bool zb], .int .i64 0]) (by simp [results, Try.results32, go_sem, r0, r1, r2, r3, r4, r5]) rfl ?_
          rw [HPost.out]
          exact ⟨HE.out.symm, HF.out.2⟩
  · have hE := decE_bad (b := l) (by unfold decErr; rw [if_pos (.inl (by omega))])
    rw [hE]
    have h18' : ((len : Int) == 18) = false := by simp; omega
    have h18n : ¬ ((len : Int) = 18) := by omega
    clear hE hi
    go_enter Try.func32, Try.ntmps32
    go_wp2_with fail
    refine bodyPost_ret (v := .tuple #[.agg #[.int .i64 0, .int .i64 0, .int .i64 0, .int .i64 0, .int .u8 0, .bool false], .int .i64 24]) (by simp [results, Try.results32, go_sem]) rfl ⟨rfl, ?_⟩
    exact (Below.refl _ _).alloc (Nat.le_refl _) _
end Go.Proofs.Ytdbnadhmkfhdkaa
