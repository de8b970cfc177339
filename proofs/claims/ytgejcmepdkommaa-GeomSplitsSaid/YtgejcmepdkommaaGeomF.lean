/- GeomSplits: the walk. -/
import Derived.Test.YtgejcmepdkommaaGeomE
import Derived.Test.YtgejcmepdkommaaGeomG
namespace Go.Proofs.Ytgejcmepdkommaa
open Go.RowKit
set_option linter.unusedVariables false

theorem below_go {a w w' : World} (h : Below a.heap.size a w) (hc : Below w.heap.size w w') : Below a.heap.size a w' := h.trans (hc.mono h.size)
theorem below_go_drew {a w w' : World} (h : Below a.heap.size a w) (hc : Below w.drew.heap.size w.drew w') : Below a.heap.size a w' := h.drew.trans (hc.mono h.size)
theorem below_go_drew2 {a w w' : World} (h : Below a.heap.size a w) (hc : Below w.drew.drew.heap.size w.drew.drew w') : Below a.heap.size a w' := h.drew.drew.trans (hc.mono h.size)

theorem need_bd (c : Cfg) (m : Int) (hok : OkC c) : 0 ≤ needOf c m ∧ needOf c m ≤ 200000 := by
  obtain ⟨c1, c2, c3, c4, c5, c6, c7, c8, c9, c10, c11, c12, c13, c14, c15, c16, c17, c18, c19, c20, c21, c22⟩ := hok
  have hcl : 0 ≤ clampOf m c.user ∧ clampOf m c.user ≤ c.user := by unfold clampOf; split <;> (try split) <;> omega
  have b1 := blocksOf_bd (c.user - clampOf m c.user) c.pages (by omega) (by omega)
  have b2 := blocksOf_bd (2 * c.boot + c.rpa + clampOf m c.user) (c.pages / 2) (by omega) (by omega)
  unfold needOf
  omega

theorem sizes_sum (c : Cfg) (a b d e : Int) (hok : OkC c) (h : SizesOk c a b d e) : 0 ≤ a * c.group ∧ 0 ≤ b * c.group ∧ 0 ≤ d * c.group ∧ 0 ≤ e * c.group ∧ c.group ≤ c.user - a * c.group - b * c.group - d * c.group - e * c.group := by
  obtain ⟨c1, c2, c3, c4, c5, c6, c7, c8, c9, c10, c11, c12, c13, c14, c15, c16, c17, c18, c19, c20, c21, c22⟩ := hok
  obtain ⟨s1, s2, s3, s4, s5⟩ := h
  refine ⟨Int.mul_nonneg s1 (by omega), Int.mul_nonneg s2 (by omega), Int.mul_nonneg s3 (by omega), Int.mul_nonneg s4 (by omega), ?_⟩
  have hu : c.group * (c.user / c.group) = c.user := Int.mul_ediv_cancel' (Int.dvd_of_emod_eq_zero c17)
  have h1 : (a + b + d + e + 1) * c.group ≤ c.user / c.group * c.group := Int.mul_le_mul_of_nonneg_right (by omega) (by omega)
  rw [Int.mul_comm (c.user / c.group), hu, Int.add_mul, Int.add_mul, Int.add_mul, Int.add_mul] at h1
  omega

set_option maxRecDepth 100000 in
set_option maxHeartbeats 4000000 in
theorem splits_bad (c : Cfg) (a b d e : Int) (v n m : Int) (w : World) (hwf : c.wf) (hv : 0 ≤ v ∧ v < 256) (ha : I64 a) (hb : I64 b) (hd : I64 d) (he : I64 e) (hn : I64 n) (hm : I64 m) (hck : checkOf c = 1) :
    Calls Try.prog 5 #[.agg #[.int .i64 c.blocks, .int .i64 c.pages, .int .i64 c.sector, .int .i64 c.user, .int .i64 c.boot, .int .i64 c.rpa, .int .i64 c.group, .int .i64 c.cache, .int .i64 c.spare], .agg #[.int .i64 a, .int .i64 b, .int .i64 d, .int .i64 e], .int .u8 v, .int .i64 n, .int .i64 m] w fun x w' => x = .returned (.bool true) ∧ Below w.heap.size w w' := by
  go_enter Try.func5, Try.ntmps5
  go_wp2_with fail
  refine (gknown_any _).mono ?_
  rintro x w1 ⟨rfl, hb1⟩
  have hB1 : Below w.heap.size w w1 := ((((Below.refl w.heap.size w).alloc (Nat.le_refl _) _).alloc (by simp) _)).trans (hb1.mono (by simp; omega))
  have n1 : HasB w1 w.heap.size #[.int .i64 c.blocks, .int .i64 c.pages, .int .i64 c.sector, .int .i64 c.user, .int .i64 c.boot, .int .i64 c.rpa, .int .i64 c.group, .int .i64 c.cache, .int .i64 c.spare] 33 := ((HasB.new w _ _).alloc _).below hb1 (by simp; omega)
  have o1 : HasB w1 (w.heap.size + 1) #[.int .i64 a, .int .i64 b, .int .i64 d, .int .i64 e] 34 := (HasB.new' (by simp) _ _).below hb1 (by simp)
  obtain ⟨l1, x0, x1, x2, x3, x4, x5, x6, x7, x8⟩ := HasB.nine n1
  obtain ⟨k1, y0, y1, y2, y3⟩ := HasB.four o1
  clear hb1
  go_wp2_with fail
  refine (check_any c _ hwf).mono ?_
  rintro x w2 ⟨rfl, hb2⟩
  rw [hck]
  have hB2 := below_call hB1 hb2 hB1.size
  have n2 := n1.below hb2 l1
  have o2 := o1.below hb2 k1
  clear x0 x1 x2 x3 x4 x5 x6 x7 x8 y0 y1 y2 y3 hb2
  obtain ⟨l2, x0, x1, x2, x3, x4, x5, x6, x7, x8⟩ := HasB.nine n2
  obtain ⟨k2, y0, y1, y2, y3⟩ := HasB.four o2
  go_wp2_with fail
  refine (fits_bad c a b d e v _ hwf hck).mono ?_
  rintro x w3 ⟨rfl, hb3⟩
  have hB3 := below_call hB2 hb3 hB2.size
  go_wp2_with fail
  go_ret
  exact ⟨rfl, hB3⟩

set_option maxRecDepth 100000 in
set_option maxHeartbeats 16000000 in
theorem splits_good (c : Cfg) (a b d e : Int) (v n m : Int) (w : World) (hwf : c.wf) (hv : 0 ≤ v ∧ v < 256) (ha : I64 a) (hb : I64 b) (hd : I64 d) (he : I64 e) (hn : I64 n) (hm : I64 m) (hck : checkOf c = 0) :
    Calls Try.prog 5 #[.agg #[.int .i64 c.blocks, .int .i64 c.pages, .int .i64 c.sector, .int .i64 c.user, .int .i64 c.boot, .int .i64 c.rpa, .int .i64 c.group, .int .i64 c.cache, .int .i64 c.spare], .agg #[.int .i64 a, .int .i64 b, .int .i64 d, .int .i64 e], .int .u8 v, .int .i64 n, .int .i64 m] w fun x w' => x = .returned (.bool true) ∧ Below w.heap.size w w' := by
  obtain ⟨hok, hneed⟩ := check_zero hck
  have hok' := hok
  obtain ⟨c1, c2, c3, c4, c5, c6, c7, c8, c9, c10, c11, c12, c13, c14, c15, c16, c17, c18, c19, c20, c21, c22⟩ := hok'
  clear c17 c18
  go_enter Try.func5, Try.ntmps5
  go_wp2_with fail
  refine (gknown_any _).mono ?_
  rintro x w1 ⟨rfl, hb1⟩
  have hB1 : Below w.heap.size w w1 := ((((Below.refl w.heap.size w).alloc (Nat.le_refl _) _).alloc (by simp) _)).trans (hb1.mono (by simp; omega))
  have n1 : HasB w1 w.heap.size #[.int .i64 c.blocks, .int .i64 c.pages, .int .i64 c.sector, .int .i64 c.user, .int .i64 c.boot, .int .i64 c.rpa, .int .i64 c.group, .int .i64 c.cache, .int .i64 c.spare] 33 := ((HasB.new w _ _).alloc _).below hb1 (by simp; omega)
  have o1 : HasB w1 (w.heap.size + 1) #[.int .i64 a, .int .i64 b, .int .i64 d, .int .i64 e] 34 := (HasB.new' (by simp) _ _).below hb1 (by simp)
  obtain ⟨l1, x0, x1, x2, x3, x4, x5, x6, x7, x8⟩ := HasB.nine n1
  obtain ⟨k1, y0, y1, y2, y3⟩ := HasB.four o1
  clear hb1
  go_wp2_with fail
  refine (check_any c _ hwf).mono ?_
  rintro x w2 ⟨rfl, hb2⟩
  rw [hck]
  have hB2 := below_call hB1 hb2 hB1.size
  have n2 := n1.below hb2 l1
  have o2 := o1.below hb2 k1
  clear x0 x1 x2 x3 x4 x5 x6 x7 x8 y0 y1 y2 y3 hb2
  obtain ⟨l2, x0, x1, x2, x3, x4, x5, x6, x7, x8⟩ := HasB.nine n2
  obtain ⟨k2, y0, y1, y2, y3⟩ := HasB.four o2
  go_wp2_with fail
  refine (fits_any c a b d e v _ hwf hv ha hb hd he).mono ?_
  rintro x w3 ⟨⟨r, rfl, hr⟩, hb3⟩
  have hB3 := below_call hB2 hb3 hB2.size
  have n3 := n2.below hb3 l2
  have o3 := o2.below hb3 k2
  clear x0 x1 x2 x3 x4 x5 x6 x7 x8 y0 y1 y2 y3 hb3
  obtain ⟨l3, x0, x1, x2, x3, x4, x5, x6, x7, x8⟩ := HasB.nine n3
  obtain ⟨k3, y0, y1, y2, y3⟩ := HasB.four o3
  have HR := Lib.hid hr
  clear hr
  cases hrr : r
  · have hBT := hB3
    by_cases p0 : n < 0
    · go_wp2_with fail
      go_ret
      exact ⟨rfl, hBT⟩
    · by_cases p1 : m < n
      · go_wp2_with fail
        go_ret
        exact ⟨rfl, hBT⟩
      · by_cases p2 : c.user < m
        · go_wp2_with fail
          go_ret
          exact ⟨rfl, hBT⟩
        · have hmono := need_mono c n m hok (by omega) (by omega) (by omega)
          have hnb := need_bd c m hok
          have hwr := wr64 (needOf c m + 3) (by omega) (by omega)
          go_wp2_with fail
          go_region_with (first
            | (go_at_call 23; refine (need_any c _ _ hok ?_).mono ?_; (first | exact hn | exact hm); rintro x w5 ⟨rfl, hb5⟩; have q0 := hb5.cell (p := ⟨w.heap.size, 0, none⟩) l3; have q1 := hb5.cell (p := ⟨w.heap.size, 1, none⟩) l3; have q2 := hb5.cell (p := ⟨w.heap.size, 2, none⟩) l3; have q3 := hb5.cell (p := ⟨w.heap.size, 3, none⟩) l3; have q4 := hb5.cell (p := ⟨w.heap.size, 4, none⟩) l3; have q5 := hb5.cell (p := ⟨w.heap.size, 5, none⟩) l3; have q6 := hb5.cell (p := ⟨w.heap.size, 6, none⟩) l3; have q7 := hb5.cell (p := ⟨w.heap.size, 7, none⟩) l3; have q8 := hb5.cell (p := ⟨w.heap.size, 8, none⟩) l3; have hBN : Below w.heap.size w w5 := by first | exact below_go (by assumption) hb5 | exact below_go_drew (by assumption) hb5 | exact below_go_drew2 (by assumption) hb5)
            | (go_at_call 23; refine (need_any c _ _ hok ?_).mono ?_; (first | exact hn | exact hm); rintro x w5 ⟨rfl, hb5⟩; have hBN : Below w.heap.size w w5 := by first | exact below_go (by assumption) hb5 | exact below_go_drew (by assumption) hb5 | exact below_go_drew2 (by assumption) hb5))
          all_goals
            go_wp2
            go_ret
            exact ⟨by first | rfl | (show Ending.returned (.bool (decide (needOf c n ≤ needOf c m + 3))) = _; rw [decide_eq_true hmono]), by assumption⟩
  · have hSz := (HR.out hrr).2
    obtain ⟨s1, s2, s3, s4, s5⟩ := sizes_sum c a b d e hok hSz
    have hSz' := hSz
    obtain ⟨t1, t2, t3, t4, t5⟩ := hSz'
    have hG := (show c.user / c.group ≤ 32 from by have h := hok; unfold OkC at h; omega)
    go_wp2_with fail
    refine (sizes_any c a b d e _ hok ⟨by omega, by omega⟩ ⟨by omega, by omega⟩ ⟨by omega, by omega⟩ ⟨by omega, by omega⟩).mono ?_
    rintro x w4 ⟨rfl, hb4⟩
    have hB4 := below_call hB3 hb4 hB3.size
    have n4 := n3.below hb4 l3
    clear x0 x1 x2 x3 x4 x5 x6 x7 x8 y0 y1 y2 y3 hb4
    obtain ⟨l4, x0, x1, x2, x3, x4, x5, x6, x7, x8⟩ := HasB.nine n4
    unfold sizesV
    obtain ⟨A, hA⟩ : ∃ A, A = a * c.group := ⟨_, rfl⟩
    obtain ⟨B, hB⟩ : ∃ B, B = b * c.group := ⟨_, rfl⟩
    obtain ⟨D, hD⟩ : ∃ D, D = d * c.group := ⟨_, rfl⟩
    obtain ⟨E, hE⟩ : ∃ E, E = e * c.group := ⟨_, rfl⟩
    rw [← hA, ← hB, ← hD, ← hE] at s5
    rw [← hA] at s1
    rw [← hB] at s2
    rw [← hD] at s3
    rw [← hE] at s4
    rw [← hA, ← hB, ← hD, ← hE]
    clear hA hB hD hE hG t5 hSz
    go_wp2_with fail
    refine wp_loop_rounds 9 ?_
    rw [rounds_succ]
    go_wp2_with fail
    rw [rounds_succ]
    go_wp2_with fail
    rw [rounds_succ]
    go_wp2_with fail
    rw [rounds_succ]
    go_wp2_with fail
    rw [rounds_succ]
    go_wp2_with fail
    rw [rounds_succ]
    go_wp2_with fail
    rw [rounds_succ]
    go_wp2_with fail
    rw [rounds_succ]
    go_wp2_with fail
    rw [rounds_succ]
    have lT : w.heap.size < (w4.alloc (.cells #[.int .i64 (c.user - A - B - D - E), .int .i64 c.boot, .int .i64 c.boot, .int .i64 c.rpa, .int .i64 A, .int .i64 B, .int .i64 D, .int .i64 E] 38)).heap.size := by simp; omega
    have hBT := below_new hB4 hB4.size (.cells #[.int .i64 (c.user - A - B - D - E), .int .i64 c.boot, .int .i64 c.boot, .int .i64 c.rpa, .int .i64 A, .int .i64 B, .int .i64 D, .int .i64 E] 38)
    by_cases p0 : n < 0
    · go_wp2_with fail
      go_ret
      exact ⟨rfl, hBT⟩
    · by_cases p1 : m < n
      · go_wp2_with fail
        go_ret
        exact ⟨rfl, hBT⟩
      · by_cases p2 : c.user < m
        · go_wp2_with fail
          go_ret
          exact ⟨rfl, hBT⟩
        · have hmono := need_mono c n m hok (by omega) (by omega) (by omega)
          have hnb := need_bd c m hok
          have hwr := wr64 (needOf c m + 3) (by omega) (by omega)
          go_wp2_with fail
          go_region_with (first
            | (go_at_call 23; refine (need_any c _ _ hok ?_).mono ?_; (first | exact hn | exact hm); rintro x w5 ⟨rfl, hb5⟩; have q0 := hb5.cell (p := ⟨w.heap.size, 0, none⟩) lT; have q1 := hb5.cell (p := ⟨w.heap.size, 1, none⟩) lT; have q2 := hb5.cell (p := ⟨w.heap.size, 2, none⟩) lT; have q3 := hb5.cell (p := ⟨w.heap.size, 3, none⟩) lT; have q4 := hb5.cell (p := ⟨w.heap.size, 4, none⟩) lT; have q5 := hb5.cell (p := ⟨w.heap.size, 5, none⟩) lT; have q6 := hb5.cell (p := ⟨w.heap.size, 6, none⟩) lT; have q7 := hb5.cell (p := ⟨w.heap.size, 7, none⟩) lT; have q8 := hb5.cell (p := ⟨w.heap.size, 8, none⟩) lT; have hBN : Below w.heap.size w w5 := by first | exact below_go (by assumption) hb5 | exact below_go_drew (by assumption) hb5 | exact below_go_drew2 (by assumption) hb5)
            | (go_at_call 23; refine (need_any c _ _ hok ?_).mono ?_; (first | exact hn | exact hm); rintro x w5 ⟨rfl, hb5⟩; have hBN : Below w.heap.size w w5 := by first | exact below_go (by assumption) hb5 | exact below_go_drew (by assumption) hb5 | exact below_go_drew2 (by assumption) hb5))
          all_goals
            go_wp2
            go_ret
            exact ⟨by first | rfl | (show Ending.returned (.bool (decide (needOf c n ≤ needOf c m + 3))) = _; rw [decide_eq_true hmono]), by assumption⟩

theorem splits_any (c : Cfg) (a b d e : Int) (v n m : Int) (w : World) (hwf : c.wf) (hv : 0 ≤ v ∧ v < 256) (ha : I64 a) (hb : I64 b) (hd : I64 d) (he : I64 e) (hn : I64 n) (hm : I64 m) :
    Calls Try.prog 5 #[.agg #[.int .i64 c.blocks, .int .i64 c.pages, .int .i64 c.sector, .int .i64 c.user, .int .i64 c.boot, .int .i64 c.rpa, .int .i64 c.group, .int .i64 c.cache, .int .i64 c.spare], .agg #[.int .i64 a, .int .i64 b, .int .i64 d, .int .i64 e], .int .u8 v, .int .i64 n, .int .i64 m] w fun x w' => x = .returned (.bool true) ∧ Below w.heap.size w w' := by
  rcases checkOf_two c with h | h
  · exact splits_good c a b d e v n m w hwf hv ha hb hd he hn hm h
  · exact splits_bad c a b d e v n m w hwf hv ha hb hd he hn hm h

end Go.Proofs.Ytgejcmepdkommaa
