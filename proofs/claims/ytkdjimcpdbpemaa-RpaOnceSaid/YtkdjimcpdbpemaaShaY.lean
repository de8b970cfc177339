/- sha: the reference's below. -/
import Derived.Test.YtkdjimcpdbpemaaShaX
namespace Go.Proofs.Ytkdjimcpdbpemaa
open Go Go.RowKit
set_option linter.unusedVariables false

def lenOfV : Value → Nat
  | .slice _ n _ => n
  | _ => 0
theorem own_monoS {w : World} {base base' : Nat} {e : TypeId} {size : Nat} {v : Value} {n : Nat} {xs : List Value} (h : w.ownsRow base e size v n xs) (hb : base' ≤ base) : w.ownsRow base' e size v n xs :=
  ⟨h.1, h.2.imp id fun ⟨g, cap, cur, h1, h2, r⟩ => ⟨g, cap, cur, h1, Nat.le_trans hb h2, r⟩⟩
theorem powL_len (x : Nat) : ∀ k, (powL x k).length = 1 + 2 * k
  | 0 => rfl
  | k + 1 => by
    rw [powL]
    unfold timesL
    rw [(timesTo_all _ _ _).2, powL_len x k]; omega
theorem powL_all (x : Nat) : ∀ k, All32 (powL x k)
  | 0 => by intro y hy; simp [powL] at hy; omega
  | k + 1 => by rw [powL]; exact (timesTo_all _ _ _).1
def bRow (k v j : Nat) : List Nat := List.replicate k 0 ++ [v] ++ List.replicate j 0
theorem bRow_len (k v j : Nat) : (bRow k v j).length = k + 1 + j := by simp [bRow]; omega
theorem bRow_step (k v j : Nat) : bRow k v j ++ [0] = bRow k v (j + 1) := by
  unfold bRow
  rw [List.append_assoc, ← List.replicate_succ' (n := j)]
theorem belowL_eq (x k v : Nat) : belowL x k v = leL (powL x k) (bRow k v k) (1 + 2 * k) := by
  have h1 : fillL (powL x k) (List.replicate k 0 ++ [v]).length = powL x k := by
    unfold fillL
    rw [powL_len, List.length_append, List.length_replicate, show [v].length = 1 by rfl, show k + 1 - (1 + 2 * k) = 0 by omega]
    simp
  unfold belowL
  simp only [h1, powL_len]
  unfold fillL bRow
  rw [List.length_append, List.length_replicate, show [v].length = 1 by rfl, show 1 + 2 * k - (k + 1) = k by omega]

theorem bRow_all (k v j : Nat) (h : v < 4294967296) : All32 (bRow k v j) := by
  intro x hx
  simp only [bRow, List.mem_append, List.mem_singleton] at hx
  rcases hx with (q | q) | q
  · have := List.eq_of_mem_replicate q; omega
  · omega
  · have := List.eq_of_mem_replicate q; omega
theorem Lims.drewN {w : World} {a : Option Addr} {n : Nat} {l : List Nat} (h : Lims w a n l) (m : Nat) : Lims (w.drewN m) a n l := h.below (below_drewN' (Below.refl _ _) m)
set_option maxRecDepth 100000 in
set_option maxHeartbeats 4000000 in
theorem rbelow_any (x k v : Nat) (w : World) (hx : x < 1099511627776) (hk : k ≤ 3) (hv : v < 4294967296) :
    Calls Try.prog 44 #[.int .u64 (x : Int), .int .i64 (k : Int), .int .u64 (v : Int)] w fun e w' => e = .returned (.bool (belowL x k v)) ∧ Below w.heap.size w w' := by
  rw [belowL_eq]
  have HO0 : Hid ((w.alloc (.cells #[.int .u64 1] 103)).ownsRow w.heap.size 103 1 (.slice (some ⟨w.heap.size, 0, none⟩) 1 1) (1 + 2 * 0) (u64s (powL x 0))) := Lib.hid (World.ownsRow_lit (e := 103) (base := w.heap.size) (size := 1) w #[.int .u64 1] 1 (Nat.le_refl _) (by decide) (by simp))
  have HB0 : Hid (Below w.heap.size w (w.alloc (.cells #[.int .u64 1] 103))) := Lib.hid ((Below.refl _ _).alloc (Nat.le_refl _) _)
  have tk : (k : Int) ≤ 3 := by omega
  go_enter Try.func44, Try.ntmps44
  go_wp2_with fail
  go_loopw [7, 8] (fun a i wr => ∃ (j g c : Nat), j ≤ k ∧ i = .int .i64 (j : Int) ∧ a = .slice (some ⟨g, 0, none⟩) (1 + 2 * j) c ∧ Hid (wr.ownsRow w.heap.size 103 1 (.slice (some ⟨g, 0, none⟩) (1 + 2 * j) c) (1 + 2 * j) (u64s (powL x j))) ∧ Hid (Below w.heap.size w wr)) (fun _ i _ => k - (intOf i).toNat)
  case atStart => exact ⟨0, _, 1, by omega, rfl, rfl, HO0, HB0⟩
  case round =>
    clear HO0 HB0
    obtain ⟨j, g, c, hj, rfl, rfl, HO, HB⟩ := hrel
    obtain ⟨wo, rfl⟩ : ∃ wo : World, wo = wr := ⟨_, rfl⟩
    by_cases hlt : j < k
    · have t1 : (j : Int) < (k : Int) := by omega
      have HLm := Lib.hid (lims_of_own HO.out (powL_all x j))
      have hszo := HB.out.size
      go_wp2_with fail
      refine (rtimes_any _ (1 + 2 * j) c (powL x j) x _ HLm.out (by omega) hx).mono ?_
      rintro e w2 ⟨⟨g2, c2, rfl, hO2⟩, hB2⟩
      have HO2 : Hid (w2.ownsRow w.heap.size 103 1 (.slice (some ⟨g2, 0, none⟩) (1 + 2 * (j + 1)) c2) (1 + 2 * (j + 1)) (u64s (powL x (j + 1)))) := Lib.hid (own_monoS hO2 hszo)
      have HB2 := Lib.hid (HB.out.trans (hB2.mono hszo))
      clear hO2 hB2
      go_wp2_with fail
      go_roundw
      case rel => exact ⟨j + 1, g2, c2, by omega, by go_num, by rw [show 1 + 2 * j + 2 = 1 + 2 * (j + 1) by omega], HO2, HB2⟩
      case measure => simp [intOf]; omega
    · have hj2 : j = k := by omega
      obtain ⟨n, hn⟩ : ∃ n, n = 1 + 2 * k := ⟨_, rfl⟩
      have HLm : Hid (Lims wo (some ⟨g, 0, none⟩) n (powL x k)) := Lib.hid (by
        have := lims_of_own HO.out (powL_all x j)
        rw [hj2, ← hn] at this
        exact this)
      have hnj : 1 + 2 * j = n := by omega
      rw [hnj]
      have HN := Lib.hid hn
      have hszo := HB.out.size
      have t1 : ¬ ((j : Int) < (k : Int)) := by omega
      have hn7 : n ≤ 7 := by omega
      clear HO hlt hj2 hnj hj hn
      go_wp2_with (at_make; refine Stop.mk ?_)
      refine Stop.go ?_
      refine wpList_make_u64 rfl _ _ 98 rfl wo.heap.size 103 Try.underlying98 (by kernel_rfl) k rfl rfl (by omega) (Nat.le_refl _) ?_
      intro w3 hown3 hgrow3
      have hb3 : Below wo.heap.size wo w3 := (Below.refl _ _).grown hgrow3 (Nat.le_refl _) (fun k hk => by cases hk)
      have HO3 := Lib.hid hown3
      have HB3 := Lib.hid hb3
      have HC1 : Hid ((w3.alloc (.cells #[.int .u64 (v : Int)] 103)).cell? ⟨w3.heap.size, 0, none⟩ = some (.int .u64 (v : Int))) := Lib.hid (HasB.at (HasB.new w3 _ _) 0)
      clear hown3 hgrow3 hb3
      go_wp2_with (at_builtin; refine Stop.mk ?_)
      refine Stop.go ?_
      refine wpList_app_one64 rfl (.tmp 22) (.tmp 24) 98 rfl wo.heap.size 103 Try.underlying98 (by kernel_rfl) (.slice (some ⟨wo.heap.size, 0, none⟩) k k) k (List.replicate k 0) rfl (own_below HO3.out ((Below.refl _ _).alloc (Nat.le_refl _) _) (Nat.le_refl _)) w3.heap.size rfl v HC1.out (by omega) (le_alloc HB3.out.size) ?_
      intro v4 w4 hown4 hgrow4
      have HO4 : Hid (w4.ownsRow wo.heap.size 103 1 v4 (k + 1 + 0) (u64s (bRow k v 0))) := Lib.hid (by
        have : bRow k v 0 = List.replicate k 0 ++ [v] := by simp [bRow]
        rw [this]; exact hown4)
      have HB4 : Hid (Below wo.heap.size wo w4) := Lib.hid ((HB3.out.alloc HB3.out.size _).grown hgrow4 (le_alloc HB3.out.size) (fun q hq => (HO3.out.lt q hq).1))
      obtain ⟨a4, c4, rfl⟩ := own_form hown4
      clear hown4 hgrow4 HO3 HB3 HC1
      have t2 : ¬ ((n : Int) < ((k + 1 : Nat) : Int)) := by have := HN.out; omega
      have t2' : ¬ ((n : Int) < (k : Int) + 1) := by have := HN.out; omega
      go_wp2_with fail
      go_loop [7] (fun a => a = .slice (some ⟨g, 0, none⟩) n c) (fun _ => 0)
      case atStart => rfl
      case round =>
        subst hrel
        go_wp2_with fail
        go_loopw [9] (fun b wr => ∃ (m : Nat) (am : Option Addr) (cm : Nat), m ≤ k ∧ b = .slice am (k + 1 + m) cm ∧ Hid (wr.ownsRow wo.heap.size 103 1 (.slice am (k + 1 + m) cm) (k + 1 + m) (u64s (bRow k v m))) ∧ Hid (Below wo.heap.size wo wr)) (fun b _ => n - lenOfV b)
        case atStart => exact ⟨0, a4, c4, by omega, rfl, HO4, HB4⟩
        case round =>
          clear HO4 HB4
          obtain ⟨m, am, cm, hm, rfl, HOm, HBm⟩ := hrel
          obtain ⟨wp, rfl⟩ : ∃ wp : World, wp = wr := ⟨_, rfl⟩
          by_cases hmk : m < k
          · have t3 : ((k : Int) + 1 + (m : Int)) < (n : Int) := by have := HN.out; omega
            have t3' : (((k + 1 + m : Nat) : Int)) < (n : Int) := by have := HN.out; omega
            have HC1 : Hid ((wp.alloc (.cells #[.int .u64 0] 103)).cell? ⟨wp.heap.size, 0, none⟩ = some (.int .u64 ((0 : Nat) : Int))) := Lib.hid (HasB.at (HasB.new wp _ _) 0)
            have hszp := HBm.out.size
            go_wp2_with (at_builtin; refine Stop.mk ?_)
            refine Stop.go ?_
            refine wpList_app_one64 rfl (.tmp 39) (.tmp 40) 98 rfl wo.heap.size 103 Try.underlying98 (by kernel_rfl) (.slice am (k + 1 + m) cm) (k + 1 + m) (bRow k v m) rfl (own_below HOm.out ((Below.refl _ _).alloc (Nat.le_refl _) _) (Nat.le_refl _)) wp.heap.size rfl 0 HC1.out (by omega) (le_alloc hszp) ?_
            intro v5 w5 hown5 hgrow5
            rw [bRow_step] at hown5
            obtain ⟨a5, c5, rfl⟩ := own_form hown5
            have HO5 : Hid (w5.ownsRow wo.heap.size 103 1 (.slice a5 (k + 1 + (m + 1)) c5) (k + 1 + (m + 1)) (u64s (bRow k v (m + 1)))) := Lib.hid hown5
            have HB5 : Hid (Below wo.heap.size wo w5) := Lib.hid ((HBm.out.alloc hszp _).grown hgrow5 (le_alloc hszp) (fun q hq => (HOm.out.lt q hq).1))
            clear hown5 hgrow5
            go_wp2_with fail
            go_roundw
            case rel => exact ⟨m + 1, a5, c5, by omega, rfl, HO5, HB5⟩
            case measure => simp [lenOfV]; have := HN.out; omega
          · have hkn : k + 1 + m = n := by have := HN.out; omega
            have hOn := HOm.out
            rw [show m = k by omega, show k + 1 + k = n by have := HN.out; omega] at hOn
            obtain ⟨gb, cb, hgb⟩ := own_shape hOn (by have := HN.out; omega)
            simp at hgb
            rw [hkn]
            obtain ⟨rfl, rfl⟩ := hgb
            have HLB := Lib.hid (lims_of_own hOn (bRow_all k v k hv))
            have HLA := Lib.hid (HLm.out.below HBm.out)
            have HBw : Hid (Below w.heap.size w wp) := Lib.hid (HB.out.trans (HBm.out.mono hszo))
            have HRes : Hid (leL (powL x k) (bRow k v k) (1 + 2 * k) = leL (powL x k) (bRow k v k) n) := Lib.hid (by rw [HN.out])
            have hn1 : 1 ≤ n := by have := HN.out; omega
            obtain ⟨A, hA⟩ : ∃ A, A = powL x k := ⟨_, rfl⟩
            obtain ⟨Bk, hB⟩ : ∃ Bk, Bk = bRow k v k := ⟨_, rfl⟩
            rw [← hA] at HLA HRes
            rw [← hB] at HLB HRes
            have HAe := Lib.hid hA
            have HBe := Lib.hid hB
            have t3 : ¬ ((n : Int) < (n : Int)) := by omega
            clear hOn hmk hkn hm hA hB HLm HOm HBm
            go_wp2_with fail
            go_loopw [10] (fun i wr => ∃ j : Nat, j ≤ n ∧ i = .int .i64 ((j : Int) - 1) ∧ Hid (leL A Bk j = leL A Bk n) ∧ Hid (Lims wr (some ⟨g, 0, none⟩) n A) ∧ Hid (Lims wr (some ⟨gb, 0, none⟩) n Bk) ∧ Hid (Below w.heap.size w wr)) (fun i _ => (intOf i + 1).toNat)
            case atStart => exact ⟨n, by omega, by go_num, Lib.hid rfl, HLA, HLB, HBw⟩
            case round =>
              clear HLA HLB HBw
              obtain ⟨q, hq, rfl, HLe, HLA, HLB, HBw⟩ := hrel
              obtain ⟨wq, rfl⟩ : ∃ wq : World, wq = wr := ⟨_, rfl⟩
              rcases q with _ | q
              · have hr : true = leL A Bk n := by rw [← HLe.out]; rfl
                have HRt : Hid (leL (powL x k) (bRow k v k) (1 + 2 * k) = true) := Lib.hid (by rw [← HAe.out, ← HBe.out, HRes.out, ← hr])
                clear hr
                go_wp2_with fail
                go_ret
                exact ⟨by rw [HRt.out]; rfl, HBw.out⟩
              · rw [show ((q + 1 : Nat) : Int) - 1 = (q : Int) by omega]
                obtain ⟨b1, o1, he1, _, hc1⟩ := HLA.out.2.2 (by omega)
                obtain ⟨b2, o2, he2, _, hc2⟩ := HLB.out.2.2 (by omega)
                simp at he1 he2
                obtain ⟨rfl, rfl⟩ := he1
                obtain ⟨rfl, rfl⟩ := he2
                have d1 := hc1 q (by omega)
                have d2 := hc2 q (by omega)
                rw [Nat.zero_add] at d1 d2
                obtain ⟨y1, hy1⟩ : ∃ y, y = A.getD q 0 := ⟨_, rfl⟩
                obtain ⟨y2, hy2⟩ : ∃ y, y = Bk.getD q 0 := ⟨_, rfl⟩
                rw [← hy1] at d1
                rw [← hy2] at d2
                have hs : (if y1 ≠ y2 then decide (y1 < y2) else leL A Bk q) = leL A Bk n := by rw [← HLe.out, leL, ← hy1, ← hy2]
                have t5 : (0 : Int) ≤ (q : Int) ∧ (q : Int) < (n : Int) := by omega
                have t6 : (0 : Int) ≤ (q : Int) := by omega
                have t7 : (q : Int) < (n : Int) := by omega
                have HLA2 : Hid (∀ m, Lims (wq.drewN m) (some ⟨g, 0, none⟩) n A) := Lib.hid (fun m => HLA.out.drewN m)
                have HLB2 : Hid (∀ m, Lims (wq.drewN m) (some ⟨gb, 0, none⟩) n Bk) := Lib.hid (fun m => HLB.out.drewN m)
                have HBw2 : Hid (∀ m, Below w.heap.size w (wq.drewN m)) := Lib.hid (fun m => below_drewN' HBw.out m)
                have HY1 := Lib.hid hy1
                have HY2 := Lib.hid hy2
                clear hc1 hc2
                by_cases hne : y1 = y2
                · have hs2 : leL A Bk q = leL A Bk n := by rw [← hs, if_neg (by simp [hne])]
                  have HLe2 := Lib.hid hs2
                  have t8 : ((y1 : Int) != (y2 : Int)) = false := by simp [hne]
                  clear hs hs2 hy1 hy2 hne
                  go_wp2_with fail
                  go_quiet (fail)
                  have HLA3 := Lib.hid (HLA2.out nq)
                  have HLB3 := Lib.hid (HLB2.out nq)
                  have HBw3 := Lib.hid (HBw2.out nq)
                  generalize wq.drewN nq = wq1 at HLA3 HLB3 HBw3 ⊢
                  go_wp2_with fail
                  go_roundw
                  case rel => exact ⟨q, by omega, rfl, HLe2, HLA3, HLB3, HBw3⟩
                  case measure => simp [intOf]
                · have hs2 : decide (y1 < y2) = leL A Bk n := by rw [← hs, if_pos hne]
                  have HRt : Hid (leL (powL x k) (bRow k v k) (1 + 2 * k) = decide (y1 < y2)) := Lib.hid (by
                    rw [← HAe.out, ← HBe.out, HRes.out, ← hs2])
                  have t8 : ((y1 : Int) != (y2 : Int)) = true := by simp; omega
                  clear hs hs2 hy1 hy2 hne
                  go_wp2_with fail
                  go_quiet (fail)
                  have HLA3 := Lib.hid (HLA2.out nq)
                  have HLB3 := Lib.hid (HLB2.out nq)
                  have HBw3 := Lib.hid (HBw2.out nq)
                  clear d1 d2
                  generalize wq.drewN nq = wq1 at HLA3 HLB3 HBw3 ⊢
                  obtain ⟨b1, o1, he1, _, hc1⟩ := HLA3.out.2.2 (by omega)
                  obtain ⟨b2, o2, he2, _, hc2⟩ := HLB3.out.2.2 (by omega)
                  simp at he1 he2
                  obtain ⟨rfl, rfl⟩ := he1
                  obtain ⟨rfl, rfl⟩ := he2
                  have d1 := hc1 q (by omega)
                  have d2 := hc2 q (by omega)
                  rw [Nat.zero_add, ← HY1.out] at d1
                  rw [Nat.zero_add, ← HY2.out] at d2
                  have HBw4 : Hid (∀ m, Below w.heap.size w (wq1.drewN m)) := Lib.hid (fun m => below_drewN' HBw3.out m)
                  clear hc1 hc2
                  go_wp2_with fail
                  go_quiet (fail)
                  have HBw5 := Lib.hid (HBw4.out nq)
                  clear d1 d2
                  generalize wq1.drewN nq = wq2 at HBw5 ⊢
                  go_wp2_with fail
                  go_ret
                  exact ⟨by rw [HRt.out]; rfl, HBw5.out⟩

end Go.Proofs.Ytkdjimcpdbpemaa
