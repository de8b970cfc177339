/- regs: Lasting, PowerUp. -/
import Derived.Test.YtjjeopanffcbiaaRegsE
namespace Go.Proofs.Ytjjeopanffcbiaa
open Go Go.RowKit
set_option linter.unusedVariables false

def lastN : List Nat := [6, 8, 9, 10, 11, 12, 13]
def lastV : Array Value := #[.int .i64 6, .int .i64 8, .int .i64 9, .int .i64 10, .int .i64 11, .int .i64 12, .int .i64 13]
theorem lasting_any (w : World) :
    Calls Try.prog 124 #[] w fun e w' => e = .returned (.slice (some ⟨w.heap.size, 0, none⟩) 7 7) ∧ w' = w.alloc (.cells lastV 3) := by
  go_enter Try.func124, Try.ntmps124
  go_wp2
  go_ret
  exact ⟨rfl, rfl⟩
theorem lastV_at (k : Nat) (h : k < 7) : lastV[k]? = some (.int .i64 ((lastN.getD k 0 : Nat) : Int)) := by
  match k, h with
  | 0, _ => rfl
  | 1, _ => rfl
  | 2, _ => rfl
  | 3, _ => rfl
  | 4, _ => rfl
  | 5, _ => rfl
  | 6, _ => rfl
theorem lastN_lt (k : Nat) (h : k < 7) : lastN.getD k 0 < 64 := by
  match k, h with
  | 0, _ => decide
  | 1, _ => decide
  | 2, _ => decide
  | 3, _ => decide
  | 4, _ => decide
  | 5, _ => decide
  | 6, _ => decide

/-- What lasts, as bytes. -/
def lastL (vs : List Int) : List Nat := lastN.map fun i => (vs.getD i 0).toNat
theorem lastL_len (vs : List Int) : (lastL vs).length = 7 := by simp [lastL, lastN]
theorem lastL_get (vs : List Int) (k : Nat) (h : k < 7) : (lastL vs).getD k 0 = (vs.getD (lastN.getD k 0) 0).toNat := by
  have : k < lastN.length := h
  simp [lastL, List.getD, this]
def Byt (vs : List Int) : Prop := ∀ i, 0 ≤ vs.getD i 0 ∧ vs.getD i 0 < 256
theorem lastL_lt {vs : List Int} (h : Byt vs) : ∀ c ∈ lastL vs, c < 256 := by
  intro c hc
  simp only [lastL, List.mem_map] at hc
  obtain ⟨i, _, rfl⟩ := hc
  have := h i; omega

set_option maxRecDepth 100000 in
set_option maxHeartbeats 2000000 in
theorem lastingB_any (g : Nat) (vs : List Int) (w : World) (hf : RFile w g vs) (hb : Byt vs) :
    Calls Try.prog 69 #[.pointer (some ⟨g, 0, none⟩)] w fun e w' => (∃ q cap, e = .returned (.slice (some ⟨q, 0, none⟩) 7 cap) ∧ w.heap.size ≤ q ∧ 7 ≤ cap ∧ Bytes w' (some ⟨q, 0, none⟩) 7 (lastL vs)) ∧ Below w.heap.size w w' := by
  have HF := Lib.hid hf
  have HBy := Lib.hid hb
  have hglt := hf.lt
  clear hf hb
  go_enter Try.func69, Try.ntmps69
  go_wp2_with fail
  refine (lasting_any _).mono ?_
  rintro e w1 ⟨rfl, rfl⟩
  have HI := Lib.hid (HasB.new w lastV 3)
  have HB := Lib.hid ((Below.refl w.heap.size w).alloc (Nat.le_refl _) (.cells lastV 3))
  go_wp2_with fail
  go_loopw [3, 8] (fun v i wr => ∃ (k : Nat), k ≤ 7 ∧ i = .int .i64 k ∧ Hid (wr.ownsRow (w.heap.size + 1) 5 1 v k (u8s ((lastL vs).take k))) ∧ Hid (HasB wr w.heap.size lastV 3) ∧ Hid (Below w.heap.size w wr)) (fun _ i _ => 7 - (intOf i).toNat)
  case atStart => exact ⟨0, by omega, rfl, Lib.hid ⟨rfl, .inl ⟨rfl, rfl⟩⟩, HI, HB⟩
  case round =>
    obtain ⟨k, hk, rfl, HO, HI, HB⟩ := hrel
    obtain ⟨wo, rfl⟩ : ∃ wo : World, wo = wr := ⟨_, rfl⟩
    by_cases hlt : k < 7
    · have hci : wo.cell? ⟨w.heap.size, k, none⟩ = some (.int .i64 ((lastN.getD k 0 : Nat) : Int)) := (HI.out.at k).trans (lastV_at k hlt)
      obtain ⟨n, hn⟩ : ∃ n, n = lastN.getD k 0 := ⟨_, rfl⟩
      have hn64 := lastN_lt k hlt
      rw [← hn] at hci hn64
      have hcf := (HF.out.below HB.out).cell n hn64
      have hval := HBy.out n
      obtain ⟨c, hc⟩ : ∃ c : Nat, vs.getD n 0 = c := ⟨(vs.getD n 0).toNat, by omega⟩
      rw [hc] at hcf hval
      have hlast : (lastL vs).getD k 0 = c := by rw [lastL_get vs k hlt, ← hn, hc]; rfl
      have HLast := Lib.hid hlast
      have hc256 : c < 256 := by omega
      have t1 : (0 : Int) ≤ (n : Int) := by omega
      have t2 : (n : Int) < 64 := by omega
      have t3 : (0 : Int) ≤ (k : Int) := by omega
      have hwo := HB.out.size
      have hlt2 := HI.out.lt
      clear hn hc hval hlast
      go_wp2_with (first | (at_builtin; refine Stop.mk ?_) | (at_make; refine Stop.mk ?_))
      refine Stop.go ?_
      have HOa := Lib.hid (HO.out.alloc (.cells #[.int .u8 (c : Int)] 5))
      have hBy1 := bytes_lit1 (w := wo) (e := 5) hc256
      refine wpList_app_u8 rfl _ _ 22 rfl (w.heap.size + 1) 5 Try.underlying22 (by kernel_rfl) u3 k ((lastL vs).take k) rfl HOa.out _ 1 1 [c] rfl hBy1 (by simp) (by omega) (by simp; omega) ?_
      intro v' w2 hown hgrow
      have htk : (lastL vs).take k ++ [c] = (lastL vs).take (k + 1) := by
        rw [take_snoc _ _ (by rw [lastL_len]; exact hlt), HLast.out]
      rw [htk] at hown
      have HO2 := Lib.hid hown
      have hrow : ∀ j, u3.ownBlock = some j → w.heap.size + 1 ≤ j := fun j hj => (HO.out.lt j hj).1
      have HI2 := Lib.hid ((HI.out.alloc (.cells #[.int .u8 (c : Int)] 5)).kept hgrow (fun e => by have := hrow _ e.symm; omega))
      have HB2 := Lib.hid ((HB.out.alloc hwo (.cells #[.int .u8 (c : Int)] 5)).grown hgrow (by simp; omega) (fun j hj => by have := hrow j hj; omega))
      clear hown hgrow htk hBy1 HOa hrow hci hcf
      go_wp2
      go_roundw
      case rel => exact ⟨k + 1, by omega, by go_num, HO2, HI2, HB2⟩
      case measure => simp [intOf]; omega
    · obtain rfl : k = 7 := by omega
      obtain ⟨q, cap, rfl⟩ := own_shape HO.out (by omega)
      have hq := (HO.out.lt q rfl).1
      have hcap := HO.out.2
      have hbb := bytes_of_own HO.out (fun c hc => lastL_lt HBy.out c (List.mem_of_mem_take hc))
      rw [List.take_of_length_le (by rw [lastL_len]; exact Nat.le_refl _)] at hbb
      have HBB := Lib.hid hbb
      have hcp : 7 ≤ cap := by
        rcases hcap with ⟨h, _⟩ | ⟨g', cap', cur, hv, _, _, hr⟩
        · cases h
        · simp at hv
          obtain ⟨_, rfl⟩ := hv
          exact hr.1
      clear hbb hcap
      go_wp2
      go_ret
      exact ⟨⟨q, cap, rfl, by omega, hcp, HBB.out⟩, HB.out⟩

/-! ### PowerUp -/
def powTo (vs : List Int) (k : Nat) : List Int := (List.range k).foldl (fun (l : List Int) (i : Nat) => if kindS (i : Int) = 1 then l.set i 0 else l) vs
theorem powTo_succ (vs : List Int) (k : Nat) : powTo vs (k + 1) = if kindS (k : Int) = 1 then (powTo vs k).set k 0 else powTo vs k := by
  unfold powTo
  rw [List.range_succ, List.foldl_append]
  rfl
theorem powTo_all (vs : List Int) : powTo vs 64 = ((vs.set 0 0).set 1 0).set 5 0 := rfl

set_option maxHeartbeats 1000000 in
theorem powerUp_any (g : Nat) (vs : List Int) (w : World) (hf : RFile w g vs) :
    Calls Try.prog 71 #[.pointer (some ⟨g, 0, none⟩)] w fun e w' => (e = .returned (.tuple #[]) ∧ RFile w' g (((vs.set 0 0).set 1 0).set 5 0)) ∧ w.grownBy w' (some g) := by
  have HF := Lib.hid hf
  clear hf
  go_enter Try.func71, Try.ntmps71
  go_wp2_with fail
  go_loopw [3] (fun i wr => ∃ (k : Nat), k ≤ 64 ∧ i = .int .i64 k ∧ Hid (RFile wr g (powTo vs k)) ∧ Hid (w.grownBy wr (some g))) (fun i _ => 64 - (intOf i).toNat)
  case atStart => exact ⟨0, by omega, rfl, HF, Lib.hid (gb_refl _ _)⟩
  case round =>
    obtain ⟨k, hk, rfl, HR, HG⟩ := hrel
    obtain ⟨wo, rfl⟩ : ∃ wo : World, wo = wr := ⟨_, rfl⟩
    by_cases hlt : k < 64
    · have hs := powTo_succ vs k
      have hcf := HR.out.cell k hlt
      have hfr := HR.out.free k
      have t1 : (0 : Int) ≤ (k : Int) := by omega
      by_cases h1 : kindS (k : Int) = 1
      · rw [if_pos h1] at hs
        have HS := Lib.hid hs
        have HK := Lib.hid h1
        clear hs h1
        go_wp2_with (go_at_call 33; refine (kind_any _ _).mono ?_; rintro e w' ⟨rfl, rfl⟩; rw [HK.out])
        go_roundw
        case rel => exact ⟨k + 1, by omega, by go_num, Lib.hid (by rw [HS.out]; exact HR.out.set k 0), Lib.hid (gb_set HG.out _ _)⟩
        case measure => simp [intOf]; omega
      · rw [if_neg h1] at hs
        have HS := Lib.hid hs
        have hb : (kindS (k : Int) == 1) = false := by simpa using h1
        clear hs h1
        go_wp2_with (go_at_call 33; refine (kind_any _ _).mono ?_; rintro e w' ⟨rfl, rfl⟩)
        go_roundw
        case rel => exact ⟨k + 1, by omega, by go_num, Lib.hid (by rw [HS.out]; exact HR.out), HG⟩
        case measure => simp [intOf]; omega
    · obtain rfl : k = 64 := by omega
      go_wp2
      go_end0
      exact ⟨⟨rfl, by have := HR.out; rwa [powTo_all] at this⟩, HG.out⟩

end Go.Proofs.Ytjjeopanffcbiaa
