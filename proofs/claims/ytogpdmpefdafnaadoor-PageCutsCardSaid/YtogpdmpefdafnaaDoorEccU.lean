/- ecc: get, put, nought. -/
import Derived.Test.YtogpdmpefdafnaaDoorEccT
import Derived.Test.YtogpdmpefdafnaaDoorMut
import Derived.Outline
import Derived.Laws.Rows
import Derived.Laws.Tables
import Derived.Laws.CopyOwn
import Derived.Stop.BytesEq
namespace Go.Proofs.YtogpdmpefdafnaaDoor
open Go Go.RowKit
set_option linter.unusedVariables false

theorem or_step (l : List Nat) (h : ∀ c ∈ l, c < 256) (k : Nat) (hk : k < 8) : bits .or .u64 ((le l k : Nat) : Int) ((l.getD k 0 * 256 ^ k : Nat) : Int) = ((le l (k + 1) : Nat) : Int) := by
  have h1 := le_lt h k
  have h2 := le_lt h (k + 1)
  have h3 : 256 ^ (k + 1) ≤ 256 ^ 8 := Nat.pow_le_pow_right (by omega) (by omega)
  have h4 : 256 ^ 8 = 18446744073709551616 := by decide
  have h5 : 256 ^ k ≤ 256 ^ 8 := Nat.pow_le_pow_right (by omega) (by omega)
  rw [u64_or_nat _ _ (by omega) (by rw [le] at h2; omega), le_or l h k]

set_option maxHeartbeats 2000000 in
theorem get_any (b off len cap : Nat) (l : List Nat) (w : World) (hi : Bytes w (some ⟨b, off, none⟩) len l) (hl : len ≤ 1000000) :
    Calls Tryd.prog 15 #[.slice (some ⟨b, off, none⟩) len cap] w fun e w' => e = .returned (.int .u64 ((le l 8 : Nat) : Int)) ∧ w = w' := by
  obtain ⟨m, hm⟩ : ∃ m, m = min len 8 := ⟨_, rfl⟩
  have hend : le l m = le l 8 := by
    by_cases h : len ≤ 8
    · have e : m = len := by omega
      have := le_past (l := l) (n := len) (by rw [hi.1]; exact Nat.le_refl _) (8 - len)
      rw [e, ← this]; congr 1; omega
    · have e : m = 8 := by omega
      rw [e]
  have HEnd := Lib.hid hend
  have hcell : ∀ i, i < len → w.cell? ⟨b, off + i, none⟩ = some (.int .u8 (l.getD i 0 : Nat)) := by
    intro i h
    obtain ⟨b', o', he, _, hc⟩ := hi.2.2 (by omega)
    simp at he
    obtain ⟨rfl, rfl⟩ := he
    exact hc i h
  have HCell := Lib.hid hcell
  have HOr := Lib.hid (or_step l hi.2.1)
  have H256 := Lib.hid hi.2.1
  have hm8 : m ≤ 8 := by omega
  have hml : m ≤ len := by omega
  have hcs : (len ≤ 8 ∧ m = len) ∨ (8 < len ∧ m = 8) := by omega
  clear hend hcell hi hm
  rcases hcs with ⟨c1, rfl⟩ | ⟨c1, rfl⟩
  · go_enter Tryd.func15, Tryd.ntmps15
    go_wp2_with fail
    go_loop [3, 8] (fun v i => ∃ k : Nat, k ≤ m ∧ i = .int .i64 k ∧ v = .int .u64 ((le l k : Nat) : Int)) (fun _ i => m - (intOf i).toNat)
    case atStart => exact ⟨0, by omega, rfl, rfl⟩
    case round =>
      obtain ⟨k, hk, rfl, rfl⟩ := hrel
      by_cases hlt : k < m
      · have hck := HCell.out k (by omega)
        obtain ⟨c, hc⟩ : ∃ c, c = l.getD k 0 := ⟨_, rfl⟩
        have hor := HOr.out k (by omega)
        have hc256 : c < 256 := by
          rw [hc]
          rcases Nat.lt_or_ge k l.length with q | q
          · have : l.getD k 0 ∈ l := by simp [List.getD, q]
            exact H256.out _ this
          · simp [List.getD, List.getElem?_eq_none q]
        rw [← hc] at hck hor
        obtain ⟨X, hX⟩ : ∃ X, X = le l k := ⟨_, rfl⟩
        obtain ⟨Y, hY⟩ : ∃ Y, Y = le l (k + 1) := ⟨_, rfl⟩
        rw [← hX, ← hY] at hor
        rw [← hX]
        have HY := Lib.hid hY
        clear hc hX hY
        have t1 : (0 : Int) ≤ (k : Int) := by omega
        have hks : k = 0 ∨ k = 1 ∨ k = 2 ∨ k = 3 ∨ k = 4 ∨ k = 5 ∨ k = 6 ∨ k = 7 := by omega
        rcases hks with rfl | rfl | rfl | rfl | rfl | rfl | rfl | rfl
        · rw [Nat.add_zero] at hck
          have hv : ((c * 256 ^ 0 : Nat) : Int) = ((c : Int)) := by omega
          rw [hv] at hor
          clear hv
          go_wp2
          go_round
          case rel => exact ⟨1, by omega, rfl, by rw [← HY.out]⟩
          case measure => first | (simp [intOf]; done) | (simp [intOf]; omega)
        · have hv : ((c * 256 ^ 1 : Nat) : Int) = ((c : Int) * 256) := by omega
          rw [hv] at hor
          clear hv
          go_wp2
          go_round
          case rel => exact ⟨2, by omega, rfl, by rw [← HY.out]⟩
          case measure => first | (simp [intOf]; done) | (simp [intOf]; omega)
        · have hv : ((c * 256 ^ 2 : Nat) : Int) = ((c : Int) * 65536) := by omega
          rw [hv] at hor
          clear hv
          go_wp2
          go_round
          case rel => exact ⟨3, by omega, rfl, by rw [← HY.out]⟩
          case measure => first | (simp [intOf]; done) | (simp [intOf]; omega)
        · have hv : ((c * 256 ^ 3 : Nat) : Int) = ((c : Int) * 16777216) := by omega
          rw [hv] at hor
          clear hv
          go_wp2
          go_round
          case rel => exact ⟨4, by omega, rfl, by rw [← HY.out]⟩
          case measure => first | (simp [intOf]; done) | (simp [intOf]; omega)
        · have hv : ((c * 256 ^ 4 : Nat) : Int) = ((c : Int) * 4294967296) := by omega
          rw [hv] at hor
          clear hv
          go_wp2
          go_round
          case rel => exact ⟨5, by omega, rfl, by rw [← HY.out]⟩
          case measure => first | (simp [intOf]; done) | (simp [intOf]; omega)
        · have hv : ((c * 256 ^ 5 : Nat) : Int) = ((c : Int) * 1099511627776) := by omega
          rw [hv] at hor
          clear hv
          go_wp2
          go_round
          case rel => exact ⟨6, by omega, rfl, by rw [← HY.out]⟩
          case measure => first | (simp [intOf]; done) | (simp [intOf]; omega)
        · have hv : ((c * 256 ^ 6 : Nat) : Int) = ((c : Int) * 281474976710656) := by omega
          rw [hv] at hor
          clear hv
          go_wp2
          go_round
          case rel => exact ⟨7, by omega, rfl, by rw [← HY.out]⟩
          case measure => first | (simp [intOf]; done) | (simp [intOf]; omega)
        · have hv : ((c * 256 ^ 7 : Nat) : Int) = ((c : Int) * 72057594037927936) := by omega
          rw [hv] at hor
          clear hv
          go_wp2
          go_round
          case rel => exact ⟨8, by omega, rfl, by rw [← HY.out]⟩
          case measure => first | (simp [intOf]; done) | (simp [intOf]; omega)
      · obtain rfl : k = m := by omega
        go_wp2
        go_ret
        exact ⟨by rw [← HEnd.out]; rfl, rfl⟩
  · go_enter Tryd.func15, Tryd.ntmps15
    go_wp2_with fail
    go_loop [3, 8] (fun v i => ∃ k : Nat, k ≤ 8 ∧ i = .int .i64 k ∧ v = .int .u64 ((le l k : Nat) : Int)) (fun _ i => 8 - (intOf i).toNat)
    case atStart => exact ⟨0, by omega, rfl, rfl⟩
    case round =>
      obtain ⟨k, hk, rfl, rfl⟩ := hrel
      by_cases hlt : k < 8
      · have hck := HCell.out k (by omega)
        obtain ⟨c, hc⟩ : ∃ c, c = l.getD k 0 := ⟨_, rfl⟩
        have hor := HOr.out k (by omega)
        have hc256 : c < 256 := by
          rw [hc]
          rcases Nat.lt_or_ge k l.length with q | q
          · have : l.getD k 0 ∈ l := by simp [List.getD, q]
            exact H256.out _ this
          · simp [List.getD, List.getElem?_eq_none q]
        rw [← hc] at hck hor
        obtain ⟨X, hX⟩ : ∃ X, X = le l k := ⟨_, rfl⟩
        obtain ⟨Y, hY⟩ : ∃ Y, Y = le l (k + 1) := ⟨_, rfl⟩
        rw [← hX, ← hY] at hor
        rw [← hX]
        have HY := Lib.hid hY
        clear hc hX hY
        have t1 : (0 : Int) ≤ (k : Int) := by omega
        have hks : k = 0 ∨ k = 1 ∨ k = 2 ∨ k = 3 ∨ k = 4 ∨ k = 5 ∨ k = 6 ∨ k = 7 := by omega
        rcases hks with rfl | rfl | rfl | rfl | rfl | rfl | rfl | rfl
        · rw [Nat.add_zero] at hck
          have hv : ((c * 256 ^ 0 : Nat) : Int) = ((c : Int)) := by omega
          rw [hv] at hor
          clear hv
          go_wp2
          go_round
          case rel => exact ⟨1, by omega, rfl, by rw [← HY.out]⟩
          case measure => first | (simp [intOf]; done) | (simp [intOf]; omega)
        · have hv : ((c * 256 ^ 1 : Nat) : Int) = ((c : Int) * 256) := by omega
          rw [hv] at hor
          clear hv
          go_wp2
          go_round
          case rel => exact ⟨2, by omega, rfl, by rw [← HY.out]⟩
          case measure => first | (simp [intOf]; done) | (simp [intOf]; omega)
        · have hv : ((c * 256 ^ 2 : Nat) : Int) = ((c : Int) * 65536) := by omega
          rw [hv] at hor
          clear hv
          go_wp2
          go_round
          case rel => exact ⟨3, by omega, rfl, by rw [← HY.out]⟩
          case measure => first | (simp [intOf]; done) | (simp [intOf]; omega)
        · have hv : ((c * 256 ^ 3 : Nat) : Int) = ((c : Int) * 16777216) := by omega
          rw [hv] at hor
          clear hv
          go_wp2
          go_round
          case rel => exact ⟨4, by omega, rfl, by rw [← HY.out]⟩
          case measure => first | (simp [intOf]; done) | (simp [intOf]; omega)
        · have hv : ((c * 256 ^ 4 : Nat) : Int) = ((c : Int) * 4294967296) := by omega
          rw [hv] at hor
          clear hv
          go_wp2
          go_round
          case rel => exact ⟨5, by omega, rfl, by rw [← HY.out]⟩
          case measure => first | (simp [intOf]; done) | (simp [intOf]; omega)
        · have hv : ((c * 256 ^ 5 : Nat) : Int) = ((c : Int) * 1099511627776) := by omega
          rw [hv] at hor
          clear hv
          go_wp2
          go_round
          case rel => exact ⟨6, by omega, rfl, by rw [← HY.out]⟩
          case measure => first | (simp [intOf]; done) | (simp [intOf]; omega)
        · have hv : ((c * 256 ^ 6 : Nat) : Int) = ((c : Int) * 281474976710656) := by omega
          rw [hv] at hor
          clear hv
          go_wp2
          go_round
          case rel => exact ⟨7, by omega, rfl, by rw [← HY.out]⟩
          case measure => first | (simp [intOf]; done) | (simp [intOf]; omega)
        · have hv : ((c * 256 ^ 7 : Nat) : Int) = ((c : Int) * 72057594037927936) := by omega
          rw [hv] at hor
          clear hv
          go_wp2
          go_round
          case rel => exact ⟨8, by omega, rfl, by rw [← HY.out]⟩
          case measure => first | (simp [intOf]; done) | (simp [intOf]; omega)
      · obtain rfl : k = 8 := by omega
        go_wp2
        go_ret
        exact ⟨rfl, rfl⟩

/-- A number's bytes, the least first, as cells. -/
def arr8 (x : Nat) : Array Value := #[.int .u8 ((byteN x 0 : Nat) : Int), .int .u8 ((byteN x 1 : Nat) : Int), .int .u8 ((byteN x 2 : Nat) : Int), .int .u8 ((byteN x 3 : Nat) : Int), .int .u8 ((byteN x 4 : Nat) : Int), .int .u8 ((byteN x 5 : Nat) : Int), .int .u8 ((byteN x 6 : Nat) : Int), .int .u8 ((byteN x 7 : Nat) : Int)]
theorem byteN_int (x k : Nat) : ((byteN x k : Nat) : Int) = (x : Int) / ((256 ^ k : Nat) : Int) % 256 := by unfold byteN; simp

theorem arr8_eq (x : Nat) (hx : x < 18446744073709551616) : #[Value.int .u8 ((x : Int) % 256), .int .u8 ((x : Int) / 256 % 256), .int .u8 ((x : Int) / 65536 % 256), .int .u8 ((x : Int) / 16777216 % 256), .int .u8 ((x : Int) / 4294967296 % 256), .int .u8 ((x : Int) / 1099511627776 % 256), .int .u8 ((x : Int) / 281474976710656 % 256), .int .u8 ((x : Int) / 72057594037927936)] = arr8 x := by
  have h7 : (x : Int) / 72057594037927936 = (x : Int) / 72057594037927936 % 256 := by omega
  unfold arr8
  rw [h7]
  simp [byteN_int]
theorem info_arr8 : (Tryd.prog.info? 45).map (·.size) = some 8 := by kernel_rfl

set_option maxRecDepth 100000 in
set_option maxHeartbeats 2000000 in
theorem put_any (x : Nat) (hx : x < 18446744073709551616) (w : World) :
    Calls Tryd.prog 17 #[.int .u64 (x : Int)] w fun e w' => e = .returned (.agg (arr8 x)) ∧ Below w.heap.size w w' := by
  have hb := fun k => byteN_int x k
  have HB := Lib.hid hb
  clear hb
  go_enter Tryd.func17, Tryd.ntmps17
  go_wp2_with fail
  refine wp_loop_rounds 9 ?_
  rw [rounds_succ]
  go_wp2_with fail
  rw [rounds_succ]
  go_wp2_with fail
  rw [rounds_succ]
  go_wp2_with fail
  rw [rounds_succ]
  go_wp2_with fail
  rw [rounds_succ]
  go_wp2_with fail
  rw [rounds_succ]
  go_wp2_with fail
  rw [rounds_succ]
  go_wp2_with fail
  rw [rounds_succ]
  go_wp2_with fail
  rw [rounds_succ]
  go_wp2
  refine bodyPost_ret (v := .agg (arr8 x)) ?_ rfl ⟨rfl, ((Below.refl _ _).alloc (Nat.le_refl _) _).alloc (by simp) _⟩
  rw [← arr8_eq x hx]
  exact results_cell_row (p := 2) (by kernel_rfl) _ _ w.heap.size 45 _ (0, 0) _ rfl (heap_alloc2_old w _ _) Tryd.underlying45 rfl info_arr8

theorem arr8_list (x : Nat) : (arr8 x).toList = u8s (bytesN x 8) := rfl

end Go.Proofs.YtogpdmpefdafnaaDoor
