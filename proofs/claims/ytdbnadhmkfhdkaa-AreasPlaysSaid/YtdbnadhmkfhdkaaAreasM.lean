/- areas: Decode. -/
import Derived.Test.YtdbnadhmkfhdkaaAreasL
import Derived.Test.YtdbnadhmkfhdkaaHeld
import Derived.Lib.EndianBits
namespace Go.Proofs.Ytdbnadhmkfhdkaa
open Go Go.RowKit
set_option linter.unusedVariables false

def numB (b : List Nat) (k : Nat) : Nat := b.getD (4 * k) 0 + 256 * b.getD (4 * k + 1) 0 + 65536 * b.getD (4 * k + 2) 0 + 16777216 * b.getD (4 * k + 3) 0
def decErr (b : List Nat) : Int := if b.length ≠ 18 ∨ 1 < b.getD 17 0 then 24 else 0
def decOk (b : List Nat) : Stg := ⟨numB b 0, numB b 1, numB b 2, numB b 3, (b.getD 16 0 : Nat), b.getD 17 0 == 1⟩
def decS (b : List Nat) : Stg := if decErr b = 0 then decOk b else Stg.zero
def numI (b : List Nat) (k j : Nat) : Int := if j < k then (numB b j : Nat) else 0
def decV (b : List Nat) (k : Nat) : List Value := [.int .i64 (numI b k 0), .int .i64 (numI b k 1), .int .i64 (numI b k 2), .int .i64 (numI b k 3), .int .u8 0, .bool false]
theorem decV_set (b : List Nat) (k : Nat) (hk : k < 4) : (decV b k).toArray.setIfInBounds k (.int .i64 (numB b k : Nat)) = (decV b (k + 1)).toArray := by
  match k, hk with
  | 0, _ => simp [decV, numI]
  | 1, _ => simp [decV, numI]
  | 2, _ => simp [decV, numI]
  | 3, _ => simp [decV, numI]
theorem decV4 (b : List Nat) : decV b 4 = [.int .i64 (numB b 0 : Nat), .int .i64 (numB b 1 : Nat), .int .i64 (numB b 2 : Nat), .int .i64 (numB b 3 : Nat), .int .u8 0, .bool false] := by simp [decV, numI]
/-- What Decode hands back. -/
def decE (b : List Nat) : Ending := .returned (.tuple #[.agg #[.int .i64 (decS b).a, .int .i64 (decS b).b, .int .i64 (decS b).d, .int .i64 (decS b).e, .int .u8 (decS b).v, .bool (decS b).dn], .int .i64 (decErr b)])
theorem decE_bad {b : List Nat} (h : decErr b = 24) : decE b = .returned (.tuple #[.agg #[.int .i64 0, .int .i64 0, .int .i64 0, .int .i64 0, .int .u8 0, .bool false], .int .i64 24]) := by
  unfold decE decS
  rw [h]; rfl
theorem decE_ok {b : List Nat} (h : decErr b = 0) : decE b = .returned (.tuple #[.agg #[.int .i64 (numB b 0 : Nat), .int .i64 (numB b 1 : Nat), .int .i64 (numB b 2 : Nat), .int .i64 (numB b 3 : Nat), .int .u8 (b.getD 16 0 : Nat), .bool (b.getD 17 0 == 1)], .int .i64 0]) := by
  unfold decE decS
  rw [h]; rfl

theorem getD_lt256 (l : List Nat) (h : ∀ c ∈ l, c < 256) (i : Nat) : l.getD i 0 < 256 := by
  by_cases hi : i < l.length
  · rw [List.getD_eq_getElem?_getD, List.getElem?_eq_getElem hi]; exact h _ (List.getElem_mem hi)
  · rw [List.getD_eq_getElem?_getD, List.getElem?_eq_none (by omega)]; simp
theorem u32_zero_or (x : Nat) (h : x < 4294967296) : bits .or .u32 0 (x : Int) = (x : Int) := by
  rw [bits_join_low .u32 32 (by decide) wraps_u32 0 0 (x : Int) (by omega) (by omega) (by omega) (by omega) (by omega) (by omega)]
  omega

def DecS (w : World) (n0 n1 n2 n3 : Nat) (w' : World) : Prop := ∃ y z, HasB w' w.heap.size #[.int .i64 0, .int .i64 0, .int .i64 0, .int .i64 0, .int .u8 0, .bool false] 36 ∧ HasB w' (w.heap.size + 1) #[.int .i64 (n0 : Int), .int .i64 (n1 : Int), .int .i64 (n2 : Int), .int .i64 (n3 : Int), y, z] 36 ∧ Below w.heap.size w w'
def DecT (w : World) (n0 n1 n2 n3 y : Nat) (z : Bool) (w' : World) : Prop := HasB w' w.heap.size #[.int .i64 0, .int .i64 0, .int .i64 0, .int .i64 0, .int .u8 0, .bool false] 36 ∧ HasB w' (w.heap.size + 1) #[.int .i64 (n0 : Int), .int .i64 (n1 : Int), .int .i64 (n2 : Int), .int .i64 (n3 : Int), .int .u8 (y : Int), .bool z] 36 ∧ Below w.heap.size w w'
theorem set6_of {w w' : World} {a0 a1 a2 a3 a4 a5 : Value} {T : TypeId} (h : HasB w' w.heap.size #[a0, a1, a2, a3, a4, a5] T) (hb : Below w.heap.size w w') (b0 b1 b2 b3 b4 b5 : Value) :
    HasB ((((((w'.setCell ⟨w.heap.size, 0, none⟩ b0).setCell ⟨w.heap.size, 1, none⟩ b1).setCell ⟨w.heap.size, 2, none⟩ b2).setCell ⟨w.heap.size, 3, none⟩ b3).setCell ⟨w.heap.size, 4, none⟩ b4).setCell ⟨w.heap.size, 5, none⟩ b5) w.heap.size #[b0, b1, b2, b3, b4, b5] T ∧ Below w.heap.size w ((((((w'.setCell ⟨w.heap.size, 0, none⟩ b0).setCell ⟨w.heap.size, 1, none⟩ b1).setCell ⟨w.heap.size, 2, none⟩ b2).setCell ⟨w.heap.size, 3, none⟩ b3).setCell ⟨w.heap.size, 4, none⟩ b4).setCell ⟨w.heap.size, 5, none⟩ b5) := by
  have q := (((((h.set 0 b0).set 1 b1).set 2 b2).set 3 b3).set 4 b4).set 5 b5
  rw [show (((((#[a0, a1, a2, a3, a4, a5].setIfInBounds 0 b0).setIfInBounds 1 b1).setIfInBounds 2 b2).setIfInBounds 3 b3).setIfInBounds 4 b4).setIfInBounds 5 b5 = #[b0, b1, b2, b3, b4, b5] by simp] at q
  exact ⟨q, (((((hb.setCell (Nat.le_refl _) _).setCell (Nat.le_refl _) _).setCell (Nat.le_refl _) _).setCell (Nat.le_refl _) _).setCell (Nat.le_refl _) _).setCell (Nat.le_refl _) _⟩
theorem DecT.s {w : World} {n0 n1 n2 n3 y : Nat} {z : Bool} {w' : World} (h : DecT w n0 n1 n2 n3 y z w') : DecS w n0 n1 n2 n3 w' := ⟨_, _, h⟩
theorem DecS.set4 {w : World} {n0 n1 n2 n3 : Nat} {w' : World} (h : DecS w n0 n1 n2 n3 w') (v : Value) : DecS w n0 n1 n2 n3 (w'.setCell ⟨w.heap.size + 1, 4, none⟩ v) := by
  obtain ⟨y, z, h1, h2, h3⟩ := h
  have q := h2.set 4 v
  rw [show (#[Value.int .i64 (n0 : Int), .int .i64 (n1 : Int), .int .i64 (n2 : Int), .int .i64 (n3 : Int), y, z]).setIfInBounds 4 v = #[.int .i64 (n0 : Int), .int .i64 (n1 : Int), .int .i64 (n2 : Int), .int .i64 (n3 : Int), v, z] by simp] at q
  exact ⟨v, z, h1.set_other (by simp) _, q, h3.setCell (by simp) _⟩
theorem DecT.of {w w' : World} {n0 n1 n2 n3 y : Nat} {z : Bool} {a b : Value} (h2 : HasB w' (w.heap.size + 1) #[.int .i64 (n0 : Int), .int .i64 (n1 : Int), .int .i64 (n2 : Int), .int .i64 (n3 : Int), a, b] 36) (h1 : HasB w' w.heap.size #[.int .i64 0, .int .i64 0, .int .i64 0, .int .i64 0, .int .u8 0, .bool false] 36) (h3 : Below w.heap.size w w') :
    DecT w n0 n1 n2 n3 y z ((w'.setCell ⟨w.heap.size + 1, 4, none⟩ (.int .u8 (y : Int))).setCell ⟨w.heap.size + 1, 5, none⟩ (.bool z)) := by
  have q := (h2.set 4 (.int .u8 (y : Int))).set 5 (.bool z)
  rw [show ((#[Value.int .i64 (n0 : Int), .int .i64 (n1 : Int), .int .i64 (n2 : Int), .int .i64 (n3 : Int), a, b]).setIfInBounds 4 (.int .u8 (y : Int))).setIfInBounds 5 (.bool z) = #[.int .i64 (n0 : Int), .int .i64 (n1 : Int), .int .i64 (n2 : Int), .int .i64 (n3 : Int), .int .u8 (y : Int), .bool z] by simp] at q
  exact ⟨(h1.set_other (by simp) _).set_other (by simp) _, q, (h3.setCell (by simp) _).setCell (by simp) _⟩

set_option maxRecDepth 100000 in
set_option maxHeartbeats 4000000 in
theorem adec_any (a : Option Addr) (len cap : Nat) (l : List Nat) (w : World) (hi : Bytes w a len l) (hl : len ≤ 1000000) :
    Calls Try.prog 31 #[.slice a len cap] w fun x w' => x = decE l ∧ Below w.heap.size w w' := by
  have hll := hi.1
  by_cases h18 : len = 18
  · subst h18
    obtain ⟨bk, o, rfl, hbk, hcell⟩ := hi.2.2 (by omega)
    have c17 := hcell 17 (by omega)
    by_cases h1 : 1 < l.getD 17 0
    · have hE := decE_bad (b := l) (by unfold decErr; rw [if_pos (.inr h1)])
      rw [hE]
      obtain ⟨z, hz⟩ : ∃ z, z = l.getD 17 0 := ⟨_, rfl⟩
      rw [← hz] at c17 h1
      have h1' : (z : Int) > 1 := by omega
      have hb1 : ((1 : Int) < z) := by omega
      clear hE hz hcell hi
      go_enter Try.func31, Try.ntmps31
      go_wp2_with fail
      refine bodyPost_ret (v := .tuple #[.agg #[.int .i64 0, .int .i64 0, .int .i64 0, .int .i64 0, .int .u8 0, .bool false], .int .i64 24]) (by simp [results, Try.results31, go_sem]) rfl ⟨rfl, ?_⟩
      exact (Below.refl _ _).alloc (Nat.le_refl _) _
    · have hE := decE_ok (b := l) (by unfold decErr; rw [if_neg (by omega)])
      have HE := Lib.hid hE
      have c16 := hcell 16 (by omega)
      have HI := Lib.hid hi
      have HCell : Hid (∀ i : Nat, i < 18 → w.cell? ⟨bk, o + i, none⟩ = some (.int .u8 (l.getD i 0 : Nat))) := Lib.hid hcell
      have H256 : Hid (∀ i : Nat, l.getD i 0 < 256) := Lib.hid (getD_lt256 l hi.2.1)
      obtain ⟨POST, hPOST⟩ : ∃ POST : Ending → World → Prop, POST = fun x w' => x = decE l ∧ Below w.heap.size w w' := ⟨_, rfl⟩
      rw [← hPOST]
      have HPost := Lib.hid hPOST
      obtain ⟨z, hz⟩ : ∃ z, z = l.getD 17 0 := ⟨_, rfl⟩
      obtain ⟨y, hy⟩ : ∃ y, y = l.getD 16 0 := ⟨_, rfl⟩
      rw [← hz] at c17 h1 HE
      rw [← hy] at c16 HE
      have h1' : ¬ ((1 : Int) < (z : Int)) := by omega
      have n1 : HasB ((w.alloc (.cells #[.int .i64 0, .int .i64 0, .int .i64 0, .int .i64 0, .int .u8 0, .bool false] 36)).alloc (.cells #[.int .i64 0, .int .i64 0, .int .i64 0, .int .i64 0, .int .u8 0, .bool false] 36)) w.heap.size #[.int .i64 0, .int .i64 0, .int .i64 0, .int .i64 0, .int .u8 0, .bool false] 36 := (HasB.new w _ _).alloc _
      have n2 : HasB ((w.alloc (.cells #[.int .i64 0, .int .i64 0, .int .i64 0, .int .i64 0, .int .u8 0, .bool false] 36)).alloc (.cells #[.int .i64 0, .int .i64 0, .int .i64 0, .int .i64 0, .int .u8 0, .bool false] 36)) (w.heap.size + 1) #[.int .i64 0, .int .i64 0, .int .i64 0, .int .i64 0, .int .u8 0, .bool false] 36 := HasB.new' (by simp) _ _
      have n3 : Below w.heap.size w ((w.alloc (.cells #[.int .i64 0, .int .i64 0, .int .i64 0, .int .i64 0, .int .u8 0, .bool false] 36)).alloc (.cells #[.int .i64 0, .int .i64 0, .int .i64 0, .int .i64 0, .int .u8 0, .bool false] 36)) := ((Below.refl _ _).alloc (Nat.le_refl _) _).alloc (by simp) _
      have HN := Lib.hid (And.intro n1 (And.intro n2 n3))
      clear hE hz hy hcell hi hPOST n1 n2 n3 hl
      go_enter Try.func31, Try.ntmps31
      go_wp2_with fail
      obtain ⟨w1, hw1⟩ : ∃ w1, ((w.alloc (.cells #[.int .i64 0, .int .i64 0, .int .i64 0, .int .i64 0, .int .u8 0, .bool false] 36)).alloc (.cells #[.int .i64 0, .int .i64 0, .int .i64 0, .int .i64 0, .int .u8 0, .bool false] 36)) = w1 := ⟨_, rfl⟩
      rw [hw1] at HN ⊢
      clear hw1
      go_loopw [18] (fun i wr => ∃ k : Nat, k ≤ 4 ∧ i = .int .i64 (k : Int) ∧ Hid (HasB wr w.heap.size #[.int .i64 0, .int .i64 0, .int .i64 0, .int .i64 0, .int .u8 0, .bool false] 36 ∧ HasB wr (w.heap.size + 1) (decV l k).toArray 36 ∧ Below w.heap.size w wr)) (fun i _ => 4 - (intOf i).toNat)
      case atStart => exact ⟨0, by omega, rfl, HN⟩
      case round =>
        clear HN
        obtain ⟨k, hk, rfl, HR⟩ := hrel
        obtain ⟨wo, rfl⟩ : ∃ wo : World, wo = wr := ⟨_, rfl⟩
        by_cases hlt : k < 4
        · have t1 : (k : Int) < 4 := by omega
          obtain ⟨q, hq⟩ : ∃ q, q = 4 * k := ⟨_, rfl⟩
          have hb := HR.out.2.2
          have d0 : wo.cell? ⟨bk, o + q, none⟩ = some (.int .u8 (l.getD q 0 : Nat)) := (hb.cell (p := ⟨bk, _, none⟩) hbk).trans (HCell.out q (by omega))
          have d1 : wo.cell? ⟨bk, o + (q + 1), none⟩ = some (.int .u8 (l.getD (q + 1) 0 : Nat)) := (hb.cell (p := ⟨bk, _, none⟩) hbk).trans (HCell.out (q + 1) (by omega))
          have d2 : wo.cell? ⟨bk, o + (q + 2), none⟩ = some (.int .u8 (l.getD (q + 2) 0 : Nat)) := (hb.cell (p := ⟨bk, _, none⟩) hbk).trans (HCell.out (q + 2) (by omega))
          have d3 : wo.cell? ⟨bk, o + (q + 3), none⟩ = some (.int .u8 (l.getD (q + 3) 0 : Nat)) := (hb.cell (p := ⟨bk, _, none⟩) hbk).trans (HCell.out (q + 3) (by omega))
          have l0 := H256.out q
          have l1 := H256.out (q + 1)
          have l2 := H256.out (q + 2)
          have l3 := H256.out (q + 3)
          have HNum : Hid (numB l k = l.getD q 0 + 256 * l.getD (q + 1) 0 + 65536 * l.getD (q + 2) 0 + 16777216 * l.getD (q + 3) 0) := Lib.hid (by rw [hq]; rfl)
          generalize l.getD q 0 = z0 at d0 l0 HNum
          generalize l.getD (q + 1) 0 = z1 at d1 l1 HNum
          generalize l.getD (q + 2) 0 = z2 at d2 l2 HNum
          generalize l.getD (q + 3) 0 = z3 at d3 l3 HNum
          have i0 : (4 : Int) * (k : Int) = (q : Int) := by omega
          have q1 : (0 : Int) ≤ (q : Int) := by omega
          have q2 : (q : Int) ≤ 12 := by omega
          have o0 : bits .or .u32 0 (z0 : Int) = (z0 : Int) := u32_zero_or z0 (by omega)
          obtain ⟨s1, hs1⟩ : ∃ s1, s1 = z0 + z1 * 2 ^ 8 := ⟨_, rfl⟩
          obtain ⟨s2, hs2⟩ : ∃ s2, s2 = s1 + z2 * 2 ^ 16 := ⟨_, rfl⟩
          obtain ⟨s3, hs3⟩ : ∃ s3, s3 = s2 + z3 * 2 ^ 24 := ⟨_, rfl⟩
          have o1 : bits .or .u32 (z0 : Int) ((z1 : Int) * 256) = (s1 : Int) := by rw [u32_or8 _ _ (by omega) (by omega) (by omega) (by omega) (by omega)]; omega
          have o2 : bits .or .u32 (s1 : Int) ((z2 : Int) * 65536) = (s2 : Int) := by rw [u32_or16 _ _ (by omega) (by omega) (by omega) (by omega) (by omega)]; omega
          have o3 : bits .or .u32 (s2 : Int) ((z3 : Int) * 16777216) = (s3 : Int) := by rw [u32_or24 _ _ (by omega) (by omega) (by omega) (by omega) (by omega)]; omega
          have s3lt : s3 < 4294967296 := by omega
          have hNum3 : numB l k = s3 := by rw [HNum.out]; omega
          have HQ := Lib.hid hq
          clear HNum hs1 hs2 hs3 hb hq
          go_wp2_with fail
          refine wp_loop_rounds 5 ?_
          rw [rounds_succ]
          go_wp2_with fail
          rw [rounds_succ]
          go_wp2_with fail
          rw [rounds_succ]
          go_wp2_with fail
          rw [rounds_succ]
          go_wp2_with fail
          rw [rounds_succ]
          have t2 : (0 : Int) ≤ (k : Int) ∧ (k : Int) < 4 := by omega
          have hfz := HR.out.2.1.free k
          obtain ⟨v0, hv0⟩ : ∃ v0, wo.cell? ⟨w.heap.size + 1, k, none⟩ = some v0 := by rw [HR.out.2.1.at k]; exact ⟨_, Array.getElem?_eq_getElem (by simp [decV]; omega)⟩
          have HNx : Hid (HasB (wo.setCell ⟨w.heap.size + 1, k, none⟩ (.int .i64 (s3 : Int))) w.heap.size #[.int .i64 0, .int .i64 0, .int .i64 0, .int .i64 0, .int .u8 0, .bool false] 36 ∧ HasB (wo.setCell ⟨w.heap.size + 1, k, none⟩ (.int .i64 (s3 : Int))) (w.heap.size + 1) (decV l (k + 1)).toArray 36 ∧ Below w.heap.size w (wo.setCell ⟨w.heap.size + 1, k, none⟩ (.int .i64 (s3 : Int)))) := Lib.hid ⟨HR.out.1.set_other (by simp) _, by rw [← decV_set l k hlt, hNum3]; exact HR.out.2.1.set k _, HR.out.2.2.setCell (by simp) _⟩
          go_wp2_with fail
          go_roundw
          case rel => exact ⟨k + 1, by omega, by go_num, HNx⟩
          case measure => simp [intOf]; omega
        · obtain rfl : k = 4 := by omega
          obtain ⟨zb, hzb⟩ : ∃ zb : Bool, zb = (z == 1) := ⟨_, rfl⟩
          have e1 : ((z : Int) == 1) = zb := by
            rw [hzb]
            by_cases q : z = 1
            · subst q; rfl
            · rw [show (z == 1) = false by simpa using q]; simp; omega
          rw [← hzb] at HE
          have hR2 := HR.out.2.1
          rw [decV4] at hR2
          have hS0 : DecS w (numB l 0) (numB l 1) (numB l 2) (numB l 3) wo.drew := ⟨_, _, HR.out.1.drew, hR2.drew, HR.out.2.2.drew⟩
          have hS1 : DecS w (numB l 0) (numB l 1) (numB l 2) (numB l 3) (wo.drew.setCell ⟨w.heap.size + 1, 4, none⟩ (.int .u8 (y : Int))) := hS0.set4 _
          have hS2 : DecT w (numB l 0) (numB l 1) (numB l 2) (numB l 3) y zb ((wo.drew.setCell ⟨w.heap.size + 1, 4, none⟩ (.int .u8 (y : Int))).setCell ⟨w.heap.size + 1, 5, none⟩ (.bool zb)) := DecT.of hR2.drew HR.out.1.drew HR.out.2.2.drew
          have kd16 : ∀ w', DecS w (numB l 0) (numB l 1) (numB l 2) (numB l 3) w' → w'.cell? ⟨bk, o + 16, none⟩ = some (.int .u8 (y : Nat)) := fun w' ⟨_, _, _, _, h⟩ => (h.cell (p := ⟨bk, _, none⟩) hbk).trans c16
          have kd17 : ∀ w', DecS w (numB l 0) (numB l 1) (numB l 2) (numB l 3) w' → w'.cell? ⟨bk, o + 17, none⟩ = some (.int .u8 (z : Nat)) := fun w' ⟨_, _, _, _, h⟩ => (h.cell (p := ⟨bk, _, none⟩) hbk).trans c17
          have q4 : wo.cell? ⟨w.heap.size + 1, 4, none⟩ = some (.int .u8 0) := hR2.at 4
          have f4 := hR2.free 4
          have q5 : wo.cell? ⟨w.heap.size + 1, 5, none⟩ = some (.bool false) := hR2.at 5
          have f5 := hR2.free 5
          have HS2 := Lib.hid hS2
          clear hzb HR hR2 hS2
          go_wp2_with fail
          refine wp_region_held_drew (S := (DecS w (numB l 0) (numB l 1) (numB l 2) (numB l 3))) (by kernel_rfl) (hS0) (fun hHeld => ?_)
          refine held_take 0 (v := ?_) rfl (by kernel_rfl) (by kernel_rfl) (by kernel_rfl) (fun _ _ _ h => h) (by rfl) (fun w hS => ?_) (by assumption) ?_
          rotate_left
          · try dsimp only at hS
            go_simp <;> with_reducible rfl
          try simp only [Act.put, List.setIfInBounds_toArray, List.set_cons_zero, List.set_cons_succ]
          refine held_take 1 (v := ?_) rfl (by kernel_rfl) (by kernel_rfl) (by kernel_rfl) (fun _ _ _ h => h) (by rfl) (fun w hS => ?_) (by assumption) ?_
          rotate_left
          · try dsimp only at hS
            go_simp <;> with_reducible rfl
          try simp only [Act.put, List.setIfInBounds_toArray, List.set_cons_zero, List.set_cons_succ]
          refine held_take 2 (v := ?_) rfl (by kernel_rfl) (by kernel_rfl) (by kernel_rfl) (fun _ _ _ h => h) (by rfl) (fun w hS => ?_) (by assumption) ?_
          rotate_left
          · try dsimp only at hS
            go_simp <;> with_reducible rfl
          try simp only [Act.put, List.setIfInBounds_toArray, List.set_cons_zero, List.set_cons_succ]
          refine held_take 3 (v := ?_) rfl (by kernel_rfl) (by kernel_rfl) (by kernel_rfl) (fun _ _ _ h => h) (by rfl) (fun w hS => ?_) (by assumption) ?_
          rotate_left
          · try dsimp only at hS
            go_simp <;> with_reducible rfl
          try simp only [Act.put, List.setIfInBounds_toArray, List.set_cons_zero, List.set_cons_succ]
          refine held_take 4 (v := ?_) rfl (by kernel_rfl) (by kernel_rfl) (by kernel_rfl) (fun _ _ _ h => h) (by rfl) (fun w hS => ?_) (by assumption) ?_
          rotate_left
          · try dsimp only at hS
            go_simp <;> with_reducible rfl
          try simp only [Act.put, List.setIfInBounds_toArray, List.set_cons_zero, List.set_cons_succ]
          refine held_take 5 (v := ?_) rfl (by kernel_rfl) (by kernel_rfl) (by kernel_rfl) (fun _ _ _ h => h) (by rfl) (fun w hS => ?_) (by assumption) ?_
          rotate_left
          · try dsimp only at hS
            go_simp <;> with_reducible rfl
          try simp only [Act.put, List.setIfInBounds_toArray, List.set_cons_zero, List.set_cons_succ]
          refine held_take 6 (v := ?_) rfl (by kernel_rfl) (by kernel_rfl) (by kernel_rfl) (fun _ _ _ h => h) (by rfl) (fun w hS => ?_) (by assumption) ?_
          rotate_left
          · try dsimp only at hS
            go_simp <;> with_reducible rfl
          try simp only [Act.put, List.setIfInBounds_toArray, List.set_cons_zero, List.set_cons_succ]
          refine held_take 7 (v := ?_) rfl (by kernel_rfl) (by kernel_rfl) (by kernel_rfl) (fun _ _ _ h => h) (by rfl) (fun w hS => ?_) (by assumption) ?_
          rotate_left
          · try dsimp only at hS
            go_simp <;> with_reducible rfl
          try simp only [Act.put, List.setIfInBounds_toArray, List.set_cons_zero, List.set_cons_succ]
          refine held_one 8 rfl (by kernel_rfl) (fun K hK => ?_)
          go_simp
          refine hK.out _ _ (DecS w (numB l 0) (numB l 1) (numB l 2) (numB l 3)) (fun _ h => h) hS1 (fun hHeld => ?_)
          clear hK K
          try simp only [Act.put, List.setIfInBounds_toArray, List.set_cons_zero, List.set_cons_succ]
          refine held_take 9 (v := ?_) rfl (by kernel_rfl) (by kernel_rfl) (by kernel_rfl) (fun _ _ _ h => h) (by rfl) (fun w hS => ?_) (by assumption) ?_
          rotate_left
          · try dsimp only at hS
            go_simp <;> with_reducible rfl
          try simp only [Act.put, List.setIfInBounds_toArray, List.set_cons_zero, List.set_cons_succ]
          refine held_one 10 rfl (by kernel_rfl) (fun K hK => ?_)
          go_simp
          refine hK.out _ _ (DecS w (numB l 0) (numB l 1) (numB l 2) (numB l 3)) (fun _ h => h) HS2.out.s (fun hHeld => ?_)
          clear hK K
          try simp only [Act.put, List.setIfInBounds_toArray, List.set_cons_zero, List.set_cons_succ]
          refine held_done (by kernel_rfl) ?_
          obtain ⟨w9, hw9⟩ : ∃ w9, ((wo.drew.setCell ⟨w.heap.size + 1, 4, none⟩ (.int .u8 (y : Int))).setCell ⟨w.heap.size + 1, 5, none⟩ (.bool zb)) = w9 := ⟨_, rfl⟩
          change (Exit.then _ _) .normal _ ((wo.drew.setCell ⟨w.heap.size + 1, 4, none⟩ (.int .u8 (y : Int))).setCell ⟨w.heap.size + 1, 5, none⟩ (.bool zb))
          rw [hw9] at HS2 ⊢
          clear hw9 hS0 hS1 kd16 kd17 q4 f4 q5 f5
          obtain ⟨-, r0, r1, r2, r3, r4, r5⟩ := HS2.out.1.six
          obtain ⟨-, s0, s1, s2, s3, s4, s5⟩ := HS2.out.2.1.six
          have fr0 := HS2.out.1.free 0
          have fr1 := HS2.out.1.free 1
          have fr2 := HS2.out.1.free 2
          have fr3 := HS2.out.1.free 3
          have fr4 := HS2.out.1.free 4
          have fr5 := HS2.out.1.free 5
          have HF := Lib.hid (set6_of HS2.out.1 HS2.out.2.2 (.int .i64 (numB l 0 : Nat)) (.int .i64 (numB l 1 : Nat)) (.int .i64 (numB l 2 : Nat)) (.int .i64 (numB l 3 : Nat)) (.int .u8 (y : Int)) (.bool zb))
          go_wp2_with fail
          obtain ⟨wf, hwf⟩ : ∃ wf, ((((((w9.setCell ⟨w.heap.size, 0, none⟩ (.int .i64 (numB l 0 : Nat))).setCell ⟨w.heap.size, 1, none⟩ (.int .i64 (numB l 1 : Nat))).setCell ⟨w.heap.size, 2, none⟩ (.int .i64 (numB l 2 : Nat))).setCell ⟨w.heap.size, 3, none⟩ (.int .i64 (numB l 3 : Nat))).setCell ⟨w.heap.size, 4, none⟩ (.int .u8 (y : Int))).setCell ⟨w.heap.size, 5, none⟩ (.bool zb)) = wf := ⟨_, rfl⟩
          rw [hwf] at HF ⊢
          clear hwf r0 r1 r2 r3 r4 r5 s0 s1 s2 s3 s4 s5 fr0 fr1 fr2 fr3 fr4 fr5
          obtain ⟨-, r0, r1, r2, r3, r4, r5⟩ := HF.out.1.six
          refine bodyPost_ret (v := .tuple #[.agg #[.int .i64 (numB l 0 : Nat), .int .i64 (numB l 1 : Nat), .int .i64 (numB l 2 : Nat), .int .i64 (numB l 3 : Nat), .int .u8 (y : Int), .bool zb], .int .i64 0]) (by simp [results, Try.results31, go_sem, r0, r1, r2, r3, r4, r5]) rfl ?_
          rw [HPost.out]
          exact ⟨HE.out.symm, HF.out.2⟩
  · have hE := decE_bad (b := l) (by unfold decErr; rw [if_pos (.inl (by omega))])
    rw [hE]
    have h18' : ((len : Int) == 18) = false := by simp; omega
    have h18n : ¬ ((len : Int) = 18) := by omega
    clear hE hi
    go_enter Try.func31, Try.ntmps31
    go_wp2_with fail
    refine bodyPost_ret (v := .tuple #[.agg #[.int .i64 0, .int .i64 0, .int .i64 0, .int .i64 0, .int .u8 0, .bool false], .int .i64 24]) (by simp [results, Try.results31, go_sem]) rfl ⟨rfl, ?_⟩
    exact (Below.refl _ _).alloc (Nat.le_refl _) _
end Go.Proofs.Ytdbnadhmkfhdkaa
