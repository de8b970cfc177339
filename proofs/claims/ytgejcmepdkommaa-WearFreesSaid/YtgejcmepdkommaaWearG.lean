/- WearVictims: the walk. -/
import Derived.Test.YtgejcmepdkommaaWearF
import Derived.Test.YtgejcmepdkommaaWearH
namespace Go.Proofs.Ytgejcmepdkommaa
open Go.RowKit
set_option linter.unusedVariables false

theorem allTake_snoc (p : Blk → Bool) (l : List Blk) (k : Nat) (z : Blk) (h : l[k]? = some z) : (l.take (k + 1)).all p = ((l.take k).all p && p z) := by
  have hk : k < l.length := (List.getElem?_eq_some_iff.1 h).1
  rw [List.take_succ_eq_append_getElem hk, (List.getElem?_eq_some_iff.1 h).2]
  simp
theorem anyTake_snoc (p : Blk → Bool) (l : List Blk) (k : Nat) (z : Blk) (h : l[k]? = some z) : (l.take (k + 1)).any p = ((l.take k).any p || p z) := by
  have hk : k < l.length := (List.getElem?_eq_some_iff.1 h).1
  rw [List.take_succ_eq_append_getElem hk, (List.getElem?_eq_some_iff.1 h).2]
  simp

set_option maxRecDepth 100000 in
set_option maxHeartbeats 8000000 in
theorem victims_walk (a : Option Addr) (len cap : Nat) (l : List Blk) (W : World) (hm : len ≤ 200) (hl : Rws 7 Blk.cells W a len l) :
    Calls Try.prog 4 #[.slice a len cap] W fun e w' => e = .returned (.bool true) ∧ Below W.heap.size W w' := by
  have hll := hl.1
  have HP := Lib.hid (victims_plain l)
  have hmf : decide (200 < (len : Int)) = false := by simp; omega
  go_enter Try.func4, Try.ntmps4
  go_wp2_with fail
  refine (known_any _).mono ?_
  rintro e w1 ⟨rfl, hb1⟩
  go_wp2_with fail
  refine (victim_any a len cap l _ (by omega) (hl.below hb1)).mono ?_
  rintro e w2 ⟨rfl, hb2⟩
  have hB2 := below_call hb1 hb2 hb1.size
  obtain ⟨n, HN⟩ : ∃ n, Hid (n = numOf (victimOf l)) := ⟨_, Lib.hid rfl⟩
  obtain ⟨is, HI⟩ : ∃ is, Hid (is = (victimOf l).isSome) := ⟨_, Lib.hid rfl⟩
  rw [← HN.out, ← HI.out]
  go_wp2_with fail
  obtain ⟨ni, HNI⟩ : ∃ ni, Hid (ni = !is) := ⟨_, Lib.hid rfl⟩
  rw [← HNI.out]
  clear hb1 hb2
  go_loopw [5, 6, 7] (fun fo fu i wr => ∃ k : Nat, k ≤ len ∧ i = .int .i64 k ∧ fo = .bool (foundOf l is n (l.take k)) ∧ fu = .bool (fullOf (l.take k)) ∧ Below W.heap.size W wr) (fun _ _ i _ => len - (intOf i).toNat)
  case atStart => exact ⟨0, Nat.zero_le _, rfl, by rw [HNI.out]; simp [foundOf], by simp [fullOf], hB2⟩
  case round =>
    obtain ⟨k, hk, rfl, rfl, rfl, hb⟩ := hrel
    obtain ⟨wo, rfl⟩ : ∃ wo : World, wo = wr := ⟨_, rfl⟩
    by_cases hlt : k < len
    · obtain ⟨bb, off, rfl, hlt2, hc⟩ := hl.2 (by omega)
      have hx : l[k]? = some l[k] := List.getElem?_eq_getElem (by omega)
      obtain ⟨z, HZ⟩ : ∃ z, Hid (z = l[k]) := ⟨_, Lib.hid rfl⟩
      rw [← HZ.out] at hx
      obtain ⟨hlt3, hc0, hc1, hc2, hc3, hc4, hc5, hc6⟩ := Blk.sevenAt hl hb hlt hx
      clear hc
      have hbz := hb.size
      have hout : decide ((k : Int) < (len : Int)) = true := by simp; omega
      have HF := Lib.hid (allTake_snoc (fun b => !okB b || decide (b.live = b.pages)) l k z hx)
      have HA := Lib.hid (anyTake_snoc (hitB l n) l k z hx)
      obtain ⟨fu, HFU⟩ : ∃ fu, Hid (fu = fullOf (l.take k)) := ⟨_, Lib.hid rfl⟩
      obtain ⟨fo, HFO⟩ : ∃ fo, Hid (fo = foundOf l is n (l.take k)) := ⟨_, Lib.hid rfl⟩
      have HF' : Hid (fullOf (l.take (k + 1)) = (fu && (!okB z || decide (z.live = z.pages)))) := Lib.hid (by rw [HFU.out]; exact HF.out)
      have HA' : Hid (foundOf l is n (l.take (k + 1)) = (fo || hitB l n z)) := Lib.hid (by rw [HFO.out]; unfold foundOf; rw [HA.out, Bool.or_assoc])
      rw [← HFU.out, ← HFO.out]
      clear HF HA
      have HE : Hid (∀ w', okB z = false → Below W.heap.size W w' → ∃ k' : Nat, k' ≤ len ∧ Value.int .i64 ((k : Int) + 1) = .int .i64 k' ∧ Value.bool fo = .bool (foundOf l is n (l.take k')) ∧ Value.bool fu = .bool (fullOf (l.take k')) ∧ Below W.heap.size W w') :=
        Lib.hid fun w' h hB => ⟨k + 1, hlt, by go_num, by rw [HA'.out]; simp [hitB, h], by rw [HF'.out]; simp [h], hB⟩
      cases hr : rightB z
      · have HQ : Hid (∀ x y v, rightB ⟨z.n, z.live, z.pages, z.worn, x, y, v⟩ = false) := Lib.hid fun _ _ _ => hr
        go_wp2_with (go_at_call 17; refine (right7_any _ _ _ _ _ _ _ _).mono ?_; rintro e w3 ⟨rfl, hb3⟩; rw [HQ.out])
        go_roundw
        case rel => exact HE.out _ (by simp [okB, hr]) (below_call (below_new hb hb.size _) (by assumption) (by simp; omega))
        case measure => simp [intOf]; omega
      · obtain ⟨z1, z2, z3, z4, z5, z6, z7⟩ := rightB_bd hr
        have HQ : Hid (∀ x y v, rightB ⟨z.n, z.live, z.pages, z.worn, x, y, v⟩ = true) := Lib.hid fun _ _ _ => hr
        cases hop : z.op
        · cases hbd : z.bad
          · have hok : okB z = true := by simp [okB, closedB, hr, hop, hbd]
            cases his : is
            · go_wp2_with (go_at_call 17; refine (right7_any _ _ _ _ _ _ _ _).mono ?_; rintro e w3 ⟨rfl, hb3⟩; rw [HQ.out]; have hB3 := below_call (below_new hb hb.size _) hb3 (by simp; omega); have n3 := (HasB.new wo _ _).below hb3 (by simp); obtain ⟨x3, d0, d1, d2, d3, d4, d5, d6⟩ := HasB.seven n3)
              all_goals
                go_roundw
                case rel => exact ⟨k + 1, hlt, by go_num, by rw [HFO.out, his]; simp [foundOf], by rw [HF'.out]; simp [*]; try rfl, hB3⟩
                case measure => simp [intOf]; omega
            · by_cases hn : z.n = n
              · subst hn
                go_wp2_with (go_at_call 17; refine (right7_any _ _ _ _ _ _ _ _).mono ?_; rintro e w3 ⟨rfl, hb3⟩; rw [HQ.out]; have hB3 := below_call (below_new hb hb.size _) hb3 (by simp; omega); have n3 := (HasB.new wo _ _).below hb3 (by simp); obtain ⟨x3, d0, d1, d2, d3, d4, d5, d6⟩ := HasB.seven n3)
                all_goals
                  go_loopw [9, 10] (fun le j wr => ∃ q : Nat, q ≤ len ∧ j = .int .i64 q ∧ le = .bool (decide (z.live < z.pages) && (l.take q).all (cmpB z)) ∧ Below W.heap.size W wr ∧ HasB wr wo.heap.size #[.int .i64 z.n, .int .i64 z.live, .int .i64 z.pages, .int .i64 z.worn, .bool false, .bool z.one, .bool false] 27) (fun _ j _ => len - (intOf j).toNat)
                  case atStart => exact ⟨0, Nat.zero_le _, rfl, by simp, hB3, n3⟩
                  case round =>
                    obtain ⟨q, hq, rfl, rfl, hbi, nz⟩ := hrel
                    obtain ⟨wi, rfl⟩ : ∃ wi : World, wi = wr := ⟨_, rfl⟩
                    clear d0 d1 d2 d3 d4 d5 d6 hb3 hB3 n3 hc0 hc1 hc2 hc3 hc4 hc5 hc6
                    by_cases hql : q < len
                    · have hbiz := hbi.size
                      have hxo : l[q]? = some l[q] := List.getElem?_eq_getElem (by omega)
                      obtain ⟨o, HOo⟩ : ∃ o, Hid (o = l[q]) := ⟨_, Lib.hid rfl⟩
                      rw [← HOo.out] at hxo
                      obtain ⟨hlt4, hc0, hc1, hc2, hc3, hc4, hc5, hc6⟩ := Blk.sevenAt hl hbi hql hxo
                      have hal := allTake_snoc (cmpB z) l q o hxo
                      obtain ⟨ls, HLS⟩ : ∃ ls, Hid (ls = (decide (z.live < z.pages) && (l.take q).all (cmpB z))) := ⟨_, Lib.hid rfl⟩
                      have HC : Hid ((decide (z.live < z.pages) && (l.take (q + 1)).all (cmpB z)) = (ls && cmpB z o)) := Lib.hid (by rw [HLS.out, hal, Bool.and_assoc])
                      rw [← HLS.out]
                      clear hal
                      obtain ⟨xz, g0, g1, g2, g3, g4, g5, g6⟩ := HasB.seven nz
                      cases hls : ls
                      · go_wp2_with fail
                        all_goals
                          go_roundw
                          case rel => exact ⟨q + 1, hql, by go_num, by rw [HC.out]; simp [hls], below_new hbi hbi.size _, nz.alloc _⟩
                          case measure => simp [intOf]; omega
                      · cases hro : rightB o
                        · have HQo : Hid (∀ x y v, rightB ⟨o.n, o.live, o.pages, o.worn, x, y, v⟩ = false) := Lib.hid fun _ _ _ => hro
                          go_wp2_with (go_at_call 17; refine (right7_any _ _ _ _ _ _ _ _).mono ?_; rintro e w4 ⟨rfl, hb4⟩; rw [HQo.out]; have hB4 := below_call (below_new hbi hbi.size _) hb4 (by simp; omega); have hK4 := below_call (below_new (Below.refl wi.heap.size wi) (Nat.le_refl _) _) hb4 (by simp); have m4 := nz.below hK4 nz.lt; have n4 := (HasB.new wi _ _).below hb4 (by simp); obtain ⟨x4, e0, e1, e2, e3, e4, e5, e6⟩ := HasB.seven n4; obtain ⟨x5, f0, f1, f2, f3, f4, f5, f6⟩ := HasB.seven m4)
                          all_goals
                            go_roundw
                            case rel => exact ⟨q + 1, hql, by go_num, by rw [HC.out]; simp [hls, cmpB, okB, hro], hB4, m4⟩
                            case measure => simp [intOf]; omega
                        · have HQo : Hid (∀ x y v, rightB ⟨o.n, o.live, o.pages, o.worn, x, y, v⟩ = true) := Lib.hid fun _ _ _ => hro
                          obtain ⟨o1, o2, o3, o4, o5, o6, o7⟩ := rightB_bd hro
                          have t1 : 0 ≤ o.live * z.pages := Int.mul_nonneg o4 (by omega)
                          have t2 : o.live * z.pages ≤ 256 * 256 := Int.mul_le_mul (by omega) z3 (by omega) (by omega)
                          have t3 : 0 ≤ z.live * o.pages := Int.mul_nonneg z4 (by omega)
                          have t4 : z.live * o.pages ≤ 256 * 256 := Int.mul_le_mul (by omega) o3 (by omega) (by omega)
                          go_wp2_with (go_at_call 17; refine (right7_any _ _ _ _ _ _ _ _).mono ?_; rintro e w4 ⟨rfl, hb4⟩; rw [HQo.out]; have hB4 := below_call (below_new hbi hbi.size _) hb4 (by simp; omega); have hK4 := below_call (below_new (Below.refl wi.heap.size wi) (Nat.le_refl _) _) hb4 (by simp); have m4 := nz.below hK4 nz.lt; have n4 := (HasB.new wi _ _).below hb4 (by simp); obtain ⟨x4, e0, e1, e2, e3, e4, e5, e6⟩ := HasB.seven n4; obtain ⟨x5, f0, f1, f2, f3, f4, f5, f6⟩ := HasB.seven m4)
                          all_goals
                            go_roundw
                            case rel => exact ⟨q + 1, hql, by go_num, by rw [HC.out]; simp [hls, cmpB, okB, closedB, hro, *]; try rfl, hB4, m4⟩
                            case measure => simp [intOf]; omega
                    · obtain rfl : q = len := by omega
                      rw [List.take_of_length_le (show l.length ≤ q by omega)]
                      have hHit : Hid (hitB l z.n z = (decide (z.live < z.pages) && l.all (cmpB z))) := Lib.hid (by simp [hitB, hok])
                      obtain ⟨ls, HLS⟩ : ∃ ls, Hid (ls = (decide (z.live < z.pages) && l.all (cmpB z))) := ⟨_, Lib.hid rfl⟩
                      rw [← HLS.out]
                      go_wp2_with fail
                      all_goals
                        go_roundw
                        case rel => exact ⟨k + 1, hlt, by go_num, by rw [← his, HA'.out, hHit.out, ← HLS.out]; simp [*], by rw [HF'.out]; simp [*]; try rfl, hbi⟩
                        case measure => simp [intOf]; omega
              · go_wp2_with (go_at_call 17; refine (right7_any _ _ _ _ _ _ _ _).mono ?_; rintro e w3 ⟨rfl, hb3⟩; rw [HQ.out]; have hB3 := below_call (below_new hb hb.size _) hb3 (by simp; omega); have n3 := (HasB.new wo _ _).below hb3 (by simp); obtain ⟨x3, d0, d1, d2, d3, d4, d5, d6⟩ := HasB.seven n3)
                all_goals
                  go_roundw
                  case rel => exact ⟨k + 1, hlt, by go_num, by rw [← his, HA'.out]; simp [hitB, hn], by rw [HF'.out]; simp [*]; try rfl, hB3⟩
                  case measure => simp [intOf]; omega
          · go_wp2_with (go_at_call 17; refine (right7_any _ _ _ _ _ _ _ _).mono ?_; rintro e w3 ⟨rfl, hb3⟩; rw [HQ.out]; have hB3 := below_call (below_new hb hb.size _) hb3 (by simp; omega); have n3 := (HasB.new wo _ _).below hb3 (by simp); obtain ⟨x3, d0, d1, d2, d3, d4, d5, d6⟩ := HasB.seven n3)
            go_roundw
            case rel => exact HE.out _ (by simp [okB, closedB, hbd]) hB3
            case measure => simp [intOf]; omega
        · go_wp2_with (go_at_call 17; refine (right7_any _ _ _ _ _ _ _ _).mono ?_; rintro e w3 ⟨rfl, hb3⟩; rw [HQ.out]; have hB3 := below_call (below_new hb hb.size _) hb3 (by simp; omega); have n3 := (HasB.new wo _ _).below hb3 (by simp); obtain ⟨x3, d0, d1, d2, d3, d4, d5, d6⟩ := HasB.seven n3)
          go_roundw
          case rel => exact HE.out _ (by simp [okB, closedB, hop]) hB3
          case measure => simp [intOf]; omega
    · obtain rfl : k = len := by omega
      rw [List.take_of_length_le (show l.length ≤ k by omega)]
      have HP' := HP.out
      rw [← HN.out, ← HI.out] at HP'
      obtain ⟨p1, p2, p3⟩ := HP'
      rw [p1]
      obtain ⟨fu, HFU⟩ : ∃ fu, Hid (fu = fullOf l) := ⟨_, Lib.hid rfl⟩
      rw [← HFU.out] at p2 ⊢
      have P2 := Lib.hid p2
      clear p1 p2
      cases hfu : fu
      · have his : is = true := by rw [P2.out, hfu]; rfl
        go_wp2_with fail
        go_ret
        exact ⟨by simp [*], hb⟩
      · have his : is = false := by rw [P2.out, hfu]; rfl
        have hn0 : n = 0 := by rcases p3 with h | h; rw [his] at h; cases h; exact h
        go_wp2_with fail
        go_ret
        exact ⟨by simp [*], hb⟩

theorem victims_any (a : Option Addr) (len cap : Nat) (l : List Blk) (W : World) (hm : len ≤ 9223372036854775807) (hl : Rws 7 Blk.cells W a len l) :
    Calls Try.prog 4 #[.slice a len cap] W fun e w' => e = .returned (.bool true) ∧ Below W.heap.size W w' := by
  by_cases h : len ≤ 200
  · exact victims_walk a len cap l W h hl
  · go_enter Try.func4, Try.ntmps4
    go_wp2_with fail
    refine (known_any _).mono ?_
    rintro e w1 ⟨rfl, hb1⟩
    go_wp2_with fail
    go_ret
    exact ⟨rfl, hb1⟩

end Go.Proofs.Ytgejcmepdkommaa
