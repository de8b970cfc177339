/- WearFrees: the walk. -/
import Derived.Test.YtgejcmepdkommaaWearG
namespace Go.Proofs.Ytgejcmepdkommaa
open Go.RowKit
set_option linter.unusedVariables false

set_option maxRecDepth 100000 in
set_option maxHeartbeats 8000000 in
theorem frees_walk (a : Option Addr) (len cap : Nat) (l : List Blk) (one : Bool) (W : World) (hm : len ≤ 200) (hl : Rws 7 Blk.cells W a len l) :
    Calls Try.prog 3 #[.slice a len cap, .bool one] W fun e w' => e = .returned (.bool true) ∧ Below W.heap.size W w' := by
  have hll := hl.1
  have HP := Lib.hid (frees_plain one l)
  have hmf : decide (200 < (len : Int)) = false := by simp; omega
  go_enter Try.func3, Try.ntmps3
  go_wp2_with fail
  refine (known_any _).mono ?_
  rintro e w1 ⟨rfl, hb1⟩
  go_wp2_with fail
  refine (fresh_any one a len cap l _ (by omega) (hl.below hb1)).mono ?_
  rintro e w2 ⟨rfl, hb2⟩
  have hB2 := below_call hb1 hb2 hb1.size
  obtain ⟨n, HN⟩ : ∃ n, Hid (n = numOf (freshOf one l)) := ⟨_, Lib.hid rfl⟩
  obtain ⟨is, HI⟩ : ∃ is, Hid (is = (freshOf one l).isSome) := ⟨_, Lib.hid rfl⟩
  rw [← HN.out, ← HI.out]
  go_wp2_with fail
  clear hb1 hb2
  go_loopw [7, 8, 9] (fun fo an i wr => ∃ k : Nat, k ≤ len ∧ i = .int .i64 k ∧ fo = .bool (foundF l n (l.take k)) ∧ an = .bool (anyOf (l.take k)) ∧ Below W.heap.size W wr) (fun _ _ i _ => len - (intOf i).toNat)
  case atStart => exact ⟨0, Nat.zero_le _, rfl, by simp [foundF], by simp [anyOf], hB2⟩
  case round =>
    obtain ⟨k, hk, rfl, rfl, rfl, hb⟩ := hrel
    obtain ⟨wo, rfl⟩ : ∃ wo : World, wo = wr := ⟨_, rfl⟩
    by_cases hlt : k < len
    · obtain ⟨bb, off, rfl, hlt2, hc⟩ := hl.2 (by omega)
      have hx : l[k]? = some l[k] := List.getElem?_eq_getElem (by omega)
      obtain ⟨z, HZ⟩ : ∃ z, Hid (z = l[k]) := ⟨_, Lib.hid rfl⟩
      rw [← HZ.out] at hx
      obtain ⟨hlt3, hc0, hc1, hc2, hc3, hc4, hc5, hc6⟩ := Blk.sevenAt hl hb hlt hx
      clear hc
      have hbz := hb.size
      have hout : decide ((k : Int) < (len : Int)) = true := by simp; omega
      have HF := Lib.hid (anyTake_snoc emptyOk l k z hx)
      have HA := Lib.hid (anyTake_snoc (hitF l n) l k z hx)
      obtain ⟨an, HAN⟩ : ∃ an, Hid (an = anyOf (l.take k)) := ⟨_, Lib.hid rfl⟩
      obtain ⟨fo, HFO⟩ : ∃ fo, Hid (fo = foundF l n (l.take k)) := ⟨_, Lib.hid rfl⟩
      have HF' : Hid (anyOf (l.take (k + 1)) = (an || emptyOk z)) := Lib.hid (by rw [HAN.out]; exact HF.out)
      have HA' : Hid (foundF l n (l.take (k + 1)) = (fo || hitF l n z)) := Lib.hid (by rw [HFO.out]; exact HA.out)
      rw [← HAN.out, ← HFO.out]
      clear HF HA
      have HE : Hid (∀ w', emptyOk z = false → Below W.heap.size W w' → ∃ k' : Nat, k' ≤ len ∧ Value.int .i64 ((k : Int) + 1) = .int .i64 k' ∧ Value.bool fo = .bool (foundF l n (l.take k')) ∧ Value.bool an = .bool (anyOf (l.take k')) ∧ Below W.heap.size W w') :=
        Lib.hid fun w' h hB => ⟨k + 1, hlt, by go_num, by rw [HA'.out]; simp [hitF, h], by rw [HF'.out]; simp [h], hB⟩
      cases hr : rightB z
      · have HQ : Hid (∀ x y v, rightB ⟨z.n, z.live, z.pages, z.worn, x, y, v⟩ = false) := Lib.hid fun _ _ _ => hr
        go_wp2_with (go_at_call 17; refine (right7_any _ _ _ _ _ _ _ _).mono ?_; rintro e w3 ⟨rfl, hb3⟩; rw [HQ.out])
        go_roundw
        case rel => exact HE.out _ (by simp [emptyOk, hr]) (below_call (below_new hb hb.size _) (by assumption) (by simp; omega))
        case measure => simp [intOf]; omega
      · obtain ⟨z1, z2, z3, z4, z5, z6, z7⟩ := rightB_bd hr
        have HQ : Hid (∀ x y v, rightB ⟨z.n, z.live, z.pages, z.worn, x, y, v⟩ = true) := Lib.hid fun _ _ _ => hr
        cases hop : z.op
        · cases hbd : z.bad
          · by_cases hlv : 0 < z.live
            · go_wp2_with (go_at_call 17; refine (right7_any _ _ _ _ _ _ _ _).mono ?_; rintro e w3 ⟨rfl, hb3⟩; rw [HQ.out]; have hB3 := below_call (below_new hb hb.size _) hb3 (by simp; omega); have n3 := (HasB.new wo _ _).below hb3 (by simp); obtain ⟨x3, d0, d1, d2, d3, d4, d5, d6⟩ := HasB.seven n3)
              all_goals
                go_roundw
                case rel => exact HE.out _ (by simp [emptyOk, emptyB]; omega) hB3
                case measure => simp [intOf]; omega
            · have hok : emptyOk z = true := by simp [emptyOk, emptyB, closedB, hr, hop, hbd]; omega
              go_wp2_with (go_at_call 17; refine (right7_any _ _ _ _ _ _ _ _).mono ?_; rintro e w3 ⟨rfl, hb3⟩; rw [HQ.out]; have hB3 := below_call (below_new hb hb.size _) hb3 (by simp; omega); have n3 := (HasB.new wo _ _).below hb3 (by simp); obtain ⟨x3, d0, d1, d2, d3, d4, d5, d6⟩ := HasB.seven n3)
              all_goals
                go_loopw [11, 12] (fun le j wr => ∃ q : Nat, q ≤ len ∧ j = .int .i64 q ∧ le = .bool ((z.n == n) && (l.take q).all (cmpF z)) ∧ Below W.heap.size W wr ∧ HasB wr wo.heap.size #[.int .i64 z.n, .int .i64 z.live, .int .i64 z.pages, .int .i64 z.worn, .bool false, .bool z.one, .bool false] 27) (fun _ j _ => len - (intOf j).toNat)
                case atStart => exact ⟨0, Nat.zero_le _, rfl, by simp, hB3, n3⟩
                case round =>
                  obtain ⟨q, hq, rfl, rfl, hbi, nz⟩ := hrel
                  obtain ⟨wi, rfl⟩ : ∃ wi : World, wi = wr := ⟨_, rfl⟩
                  clear d0 d1 d2 d3 d4 d5 d6 hb3 hB3 n3 hc0 hc1 hc2 hc3 hc4 hc5 hc6
                  by_cases hql : q < len
                  · have hbiz := hbi.size
                    have hxo : l[q]? = some l[q] := List.getElem?_eq_getElem (by omega)
                    obtain ⟨o, HOo⟩ : ∃ o, Hid (o = l[q]) := ⟨_, Lib.hid rfl⟩
                    rw [← HOo.out] at hxo
                    obtain ⟨hlt4, hc0, hc1, hc2, hc3, hc4, hc5, hc6⟩ := Blk.sevenAt hl hbi hql hxo
                    have hal := allTake_snoc (cmpF z) l q o hxo
                    obtain ⟨ls, HLS⟩ : ∃ ls, Hid (ls = ((z.n == n) && (l.take q).all (cmpF z))) := ⟨_, Lib.hid rfl⟩
                    have HC : Hid (((z.n == n) && (l.take (q + 1)).all (cmpF z)) = (ls && cmpF z o)) := Lib.hid (by rw [HLS.out, hal, Bool.and_assoc])
                    rw [← HLS.out]
                    clear hal
                    obtain ⟨xz, g0, g1, g2, g3, g4, g5, g6⟩ := HasB.seven nz
                    cases hls : ls
                    · go_wp2_with fail
                      all_goals
                        go_roundw
                        case rel => exact ⟨q + 1, hql, by go_num, by rw [HC.out]; simp [hls], below_new hbi hbi.size _, nz.alloc _⟩
                        case measure => simp [intOf]; omega
                    · cases hro : rightB o
                      · have HQo : Hid (∀ x y v, rightB ⟨o.n, o.live, o.pages, o.worn, x, y, v⟩ = false) := Lib.hid fun _ _ _ => hro
                        go_wp2_with (go_at_call 17; refine (right7_any _ _ _ _ _ _ _ _).mono ?_; rintro e w4 ⟨rfl, hb4⟩; rw [HQo.out]; have hB4 := below_call (below_new hbi hbi.size _) hb4 (by simp; omega); have hK4 := below_call (below_new (Below.refl wi.heap.size wi) (Nat.le_refl _) _) hb4 (by simp); have m4 := nz.below hK4 nz.lt; have n4 := (HasB.new wi _ _).below hb4 (by simp); obtain ⟨x4, e0, e1, e2, e3, e4, e5, e6⟩ := HasB.seven n4; obtain ⟨x5, f0, f1, f2, f3, f4, f5, f6⟩ := HasB.seven m4)
                        all_goals
                          go_roundw
                          case rel => exact ⟨q + 1, hql, by go_num, by rw [HC.out]; simp [hls, cmpF, emptyOk, hro], hB4, m4⟩
                          case measure => simp [intOf]; omega
                      · have HQo : Hid (∀ x y v, rightB ⟨o.n, o.live, o.pages, o.worn, x, y, v⟩ = true) := Lib.hid fun _ _ _ => hro
                        obtain ⟨o1, o2, o3, o4, o5, o6, o7⟩ := rightB_bd hro
                        have holv : decide (o.live = 0) = !decide (0 < o.live) := by by_cases h : 0 < o.live <;> simp [h] <;> omega
                        have HOL := Lib.hid holv
                        clear holv
                        go_wp2_with (go_at_call 17; refine (right7_any _ _ _ _ _ _ _ _).mono ?_; rintro e w4 ⟨rfl, hb4⟩; rw [HQo.out]; have hB4 := below_call (below_new hbi hbi.size _) hb4 (by simp; omega); have hK4 := below_call (below_new (Below.refl wi.heap.size wi) (Nat.le_refl _) _) hb4 (by simp); have m4 := nz.below hK4 nz.lt; have n4 := (HasB.new wi _ _).below hb4 (by simp); obtain ⟨x4, e0, e1, e2, e3, e4, e5, e6⟩ := HasB.seven n4; obtain ⟨x5, f0, f1, f2, f3, f4, f5, f6⟩ := HasB.seven m4)
                        all_goals
                          go_roundw
                          case rel => exact ⟨q + 1, hql, by go_num, by rw [HC.out]; simp [hls, cmpF, emptyOk, emptyB, closedB, hro, HOL.out, *]; try (first | rfl | omega), hB4, m4⟩
                          case measure => simp [intOf]; omega
                  · obtain rfl : q = len := by omega
                    rw [List.take_of_length_le (show l.length ≤ q by omega)]
                    have hHit : Hid (hitF l n z = ((z.n == n) && l.all (cmpF z))) := Lib.hid (by unfold hitF; rw [hok, Bool.true_and]; rfl)
                    obtain ⟨ls, HLS⟩ : ∃ ls, Hid (ls = ((z.n == n) && l.all (cmpF z))) := ⟨_, Lib.hid rfl⟩
                    rw [← HLS.out]
                    go_wp2_with fail
                    all_goals
                      go_roundw
                      case rel => exact ⟨k + 1, hlt, by go_num, by rw [HA'.out, hHit.out, ← HLS.out]; simp [*], by rw [HF'.out]; simp [*], hbi⟩
                      case measure => simp [intOf]; omega
          · go_wp2_with (go_at_call 17; refine (right7_any _ _ _ _ _ _ _ _).mono ?_; rintro e w3 ⟨rfl, hb3⟩; rw [HQ.out]; have hB3 := below_call (below_new hb hb.size _) hb3 (by simp; omega); have n3 := (HasB.new wo _ _).below hb3 (by simp); obtain ⟨x3, d0, d1, d2, d3, d4, d5, d6⟩ := HasB.seven n3)
            go_roundw
            case rel => exact HE.out _ (by simp [emptyOk, emptyB, closedB, hbd]) hB3
            case measure => simp [intOf]; omega
        · go_wp2_with (go_at_call 17; refine (right7_any _ _ _ _ _ _ _ _).mono ?_; rintro e w3 ⟨rfl, hb3⟩; rw [HQ.out]; have hB3 := below_call (below_new hb hb.size _) hb3 (by simp; omega); have n3 := (HasB.new wo _ _).below hb3 (by simp); obtain ⟨x3, d0, d1, d2, d3, d4, d5, d6⟩ := HasB.seven n3)
          go_roundw
          case rel => exact HE.out _ (by simp [emptyOk, emptyB, closedB, hop]) hB3
          case measure => simp [intOf]; omega
    · obtain rfl : k = len := by omega
      rw [List.take_of_length_le (show l.length ≤ k by omega)]
      have HP' := HP.out
      rw [← HN.out, ← HI.out] at HP'
      obtain ⟨p1, p2⟩ := HP'
      rw [← p1]
      obtain ⟨fo, HFO⟩ : ∃ fo, Hid (fo = foundF l n l) := ⟨_, Lib.hid rfl⟩
      rw [← HFO.out] at p2 ⊢
      clear p1
      rcases p2 with p2 | ⟨p2, p3⟩
      · subst p2
        cases is
        all_goals
          go_wp2_with fail
          go_ret
          exact ⟨by simp [*], hb⟩
      · subst p2 p3
        cases fo
        all_goals
          go_wp2_with fail
          go_ret
          exact ⟨by simp [*], hb⟩

theorem frees_any (a : Option Addr) (len cap : Nat) (l : List Blk) (one : Bool) (W : World) (hm : len ≤ 9223372036854775807) (hl : Rws 7 Blk.cells W a len l) :
    Calls Try.prog 3 #[.slice a len cap, .bool one] W fun e w' => e = .returned (.bool true) ∧ Below W.heap.size W w' := by
  by_cases h : len ≤ 200
  · exact frees_walk a len cap l one W h hl
  · go_enter Try.func3, Try.ntmps3
    go_wp2_with fail
    refine (known_any _).mono ?_
    rintro e w1 ⟨rfl, hb1⟩
    go_wp2_with fail
    go_ret
    exact ⟨rfl, hb1⟩

end Go.Proofs.Ytgejcmepdkommaa
