/- regs: Load, both. -/
import Derived.Test.YtjjeopanffcbiaaRegsL
namespace Go.Proofs.Ytjjeopanffcbiaa
open Go Go.RowKit
set_option linter.unusedVariables false

def loadTo (l : List Nat) (k : Nat) : List Int := (List.range k).foldl (fun (vs : List Int) (i : Nat) => vs.set (lastN.getD i 0) ((l.getD i 0 : Nat) : Int)) zeros64
theorem loadTo_succ (l : List Nat) (k : Nat) : loadTo l (k + 1) = (loadTo l k).set (lastN.getD k 0) ((l.getD k 0 : Nat) : Int) := by
  unfold loadTo
  rw [List.range_succ, List.foldl_append]
  rfl
def mayAt (l : List Nat) (i : Nat) : Bool := mayS ((lastN.getD i 0 : Nat) : Int) ((l.getD i 0 : Nat) : Int)
def loadOk (l : List Nat) : Bool := decide (l.length = 7) && (List.range 7).all (mayAt l)
theorem loadOk_no {l : List Nat} {k : Nat} (hk : k < 7) (h : mayAt l k = false) : loadOk l = false := by
  unfold loadOk
  rw [Bool.and_eq_false_iff]
  right
  rw [List.all_eq_false]
  exact ⟨k, by simpa using hk, by simp [h]⟩
theorem loadOk_yes {l : List Nat} (h7 : l.length = 7) (h : ∀ i, i < 7 → mayAt l i = true) : loadOk l = true := by
  unfold loadOk
  rw [Bool.and_eq_true]
  exact ⟨by simpa using h7, List.all_eq_true.2 fun i hi => h i (by simpa using hi)⟩
theorem lastN_kind (k : Nat) (h : k < 7) : kindS ((lastN.getD k 0 : Nat) : Int) ≠ 0 ∧ (lastN.getD k 0 = 13 → k = 6) := by
  match k, h with
  | 0, _ => decide
  | 1, _ => decide
  | 2, _ => decide
  | 3, _ => decide
  | 4, _ => decide
  | 5, _ => decide
  | 6, _ => decide
theorem loadTo_ok {l : List Nat} (h256 : ∀ c ∈ l, c < 256) : ∀ k, k ≤ 7 → (∀ i, i < k → mayAt l i = true) → OkF (loadTo l k)
  | 0, _, _ => OkF.zeros
  | k + 1, hk, h => by
    rw [loadTo_succ]
    have ih := loadTo_ok h256 k (by omega) (fun i hi => h i (by omega))
    have hc : l.getD k 0 < 256 := by
      rcases Nat.lt_or_ge k l.length with q | q
      · have : l.getD k 0 ∈ l := by simp [List.getD, q]
        exact h256 _ this
      · simp [List.getD, List.getElem?_eq_none q]
    obtain ⟨hk1, hk2⟩ := lastN_kind k (by omega)
    refine ih.setk _ (by omega) (by omega) hk1 (fun e => ?_)
    have hm := h k (by omega)
    unfold mayAt at hm
    rw [e] at hm
    exact may13 hm
theorem loadTo_last {l : List Nat} (h7 : l.length = 7) : lastL (loadTo l 7) = l := by
  match l, h7 with
  | [a, b, c, d, e, f, g], _ =>
    have hz : zeros64.length = 64 := by simp [zeros64]
    show [_, _, _, _, _, _, _] = _
    have key : loadTo [a, b, c, d, e, f, g] 7 = ((((((zeros64.set 6 a).set 8 b).set 9 c).set 10 d).set 11 e).set 12 f).set 13 g := rfl
    rw [key]
    simp [set_getD, hz]
theorem loadTo_zero {l : List Nat} (h7 : l.length = 7) (h : loadTo l 7 = zeros64) : ∀ i, i < 7 → l.getD i 0 = 0 := by
  intro i hi
  have h1 := lastL_get (loadTo l 7) i hi
  rw [loadTo_last h7, h, zeros_get] at h1
  simpa using h1

/-- What Load tells. -/
def LoadAt (T : TypeId) (l : List Nat) (B : Nat) (e : Ending) (w' : World) : Prop :=
  if loadOk l = true then ∃ g, e = .returned (.tuple #[.pointer (some ⟨g, 0, none⟩), .int .i64 0]) ∧ B ≤ g ∧ FileAt T w' g (loadTo l 7)
  else e = .returned (.tuple #[.pointer none, .int .i64 24])
theorem LoadAt.no {T : TypeId} {l : List Nat} {B : Nat} {w' : World} (h : loadOk l = false) : LoadAt T l B (.returned (.tuple #[.pointer none, .int .i64 24])) w' := by
  unfold LoadAt; rw [if_neg (by simp [h])]
theorem LoadAt.yes {T : TypeId} {l : List Nat} {B : Nat} {w' : World} (h : loadOk l = true) {g : Nat} (hg : B ≤ g) (hf : FileAt T w' g (loadTo l 7)) : LoadAt T l B (.returned (.tuple #[.pointer (some ⟨g, 0, none⟩), .int .i64 0])) w' := by
  unfold LoadAt; rw [if_pos h]; exact ⟨g, rfl, hg, hf⟩

theorem max_zero (a : Option Addr) (cap : Nat) (l : List Nat) (w : World) (hi : Bytes w a 7 l) (hz : ∀ i, i < 7 → l.getD i 0 = 0) :
    Calls Try.prog 126 #[.slice a 7 cap] w fun e w' => e = .returned (.int .u8 0) ∧ w = w' := by
  obtain ⟨b, off, rfl, hb, hc⟩ := hi.2.2 (by omega)
  have hc' : ∀ i, i < 7 → w.cell? ⟨b, off + i, none⟩ = some (.int .u8 0) := fun i h => by rw [hc i h, hz i h]; rfl
  have c0 := hc' 0 (by omega)
  rw [Nat.add_zero] at c0
  have HC := Lib.hid hc'
  clear hc hc' hi
  go_enter Try.func126, Try.ntmps126
  go_wp2_with fail
  go_loop [3, 4] (fun m i => m = .int .u8 0 ∧ ∃ k : Nat, k ≤ 7 ∧ i = .int .i64 k) (fun _ i => 7 - (intOf i).toNat)
  case atStart => exact ⟨rfl, 1, by omega, rfl⟩
  case round =>
    obtain ⟨rfl, k, hk, rfl⟩ := hrel
    by_cases hlt : k < 7
    · have ck := HC.out k hlt
      go_wp2
      go_round
      case rel => exact ⟨rfl, k + 1, by omega, by go_num⟩
      case measure => simp [intOf]; omega
    · obtain rfl : k = 7 := by omega
      go_wp2
      go_ret
      exact ⟨rfl, rfl⟩

set_option maxRecDepth 100000 in
set_option maxHeartbeats 4000000 in
theorem load_any (a : Option Addr) (len cap : Nat) (l : List Nat) (w : World) (hi : Bytes w a len l) (hl : len ≤ 1000) :
    Calls Try.prog 72 #[.slice a len cap] w fun e w' => LoadAt 134 l w.heap.size e w' ∧ Below w.heap.size w w' := by
  have HIn := Lib.hid hi
  have hll := hi.1
  clear hi
  obtain ⟨g, hg⟩ : ∃ g, g = w.heap.size := ⟨_, rfl⟩
  have hgW : w.heap.size ≤ g := by omega
  have HG := Lib.hid hg
  clear hg
  by_cases h7 : len = 7
  · subst h7
    go_enter Try.func72, Try.ntmps72
    go_wp2_with fail
    refine (rnew_any _).mono ?_
    rintro e w1 ⟨⟨rfl, hF1⟩, hb1⟩
    rw [← HG.out] at hF1 ⊢
    have hs1 := hb1.size
    have hgl := hF1.lt
    have HF1 := Lib.hid hF1
    have HB1 : Hid (Below w.heap.size w w1) := Lib.hid hb1
    clear hF1 hb1
    go_wp2_with fail
    refine (lasting_any _).mono ?_
    rintro e w2 ⟨rfl, rfl⟩
    obtain ⟨gi, hgi⟩ : ∃ gi, gi = w1.heap.size := ⟨_, rfl⟩
    have HI := Lib.hid (HasB.new w1 lastV 3)
    have HF2 := Lib.hid (HF1.out.below ((Below.refl _ _).alloc (Nat.le_refl _) (.cells lastV 3)))
    have HB2 := Lib.hid (HB1.out.alloc hs1 (.cells lastV 3))
    rw [← hgi] at HI ⊢
    have hne : gi ≠ g := by omega
    clear HF1 HB1 hgi hs1 hgl
    go_wp2_with fail
    go_loopw [17] (fun i wr => ∃ (k : Nat), k ≤ 7 ∧ i = .int .i64 k ∧ Hid (RFile wr g (loadTo l k)) ∧ Hid (HasB wr gi lastV 3) ∧ Hid (Below w.heap.size w wr) ∧ Hid (∀ i, i < k → mayAt l i = true)) (fun i _ => 7 - (intOf i).toNat)
    case atStart => exact ⟨0, by omega, rfl, HF2, HI, HB2, Lib.hid (fun i h => by omega)⟩
    case round =>
      obtain ⟨k, hk, rfl, HF, HI, HB, HM⟩ := hrel
      obtain ⟨wo, rfl⟩ : ∃ wo : World, wo = wr := ⟨_, rfl⟩
      by_cases hlt : k < 7
      · obtain ⟨n, hn⟩ : ∃ n, n = lastN.getD k 0 := ⟨_, rfl⟩
        have hn64 := lastN_lt k hlt
        rw [← hn] at hn64
        have hci : wo.cell? ⟨gi, k, none⟩ = some (.int .i64 (n : Int)) := by
          rw [hn]; exact (HI.out.at k).trans (lastV_at k hlt)
        obtain ⟨b, off, rfl, hbl, hcb⟩ := HIn.out.2.2 (by omega)
        obtain ⟨c, hc⟩ : ∃ c : Nat, c = l.getD k 0 := ⟨_, rfl⟩
        have hc256 : c < 256 := by
          rw [hc]
          have : l.getD k 0 ∈ l := by
            have : k < l.length := by omega
            simp [List.getD, this]
          exact HIn.out.2.1 _ this
        have hcbk : ∀ w', Below w.heap.size w w' → w'.cell? ⟨b, off + k, none⟩ = some (.int .u8 (c : Int)) := fun w' h => by
          rw [hc]; exact (h.cell (p := ⟨b, off + k, none⟩) hbl).trans (hcb k hlt)
        have hcb0 := hcbk _ HB.out
        have hcf := HF.out.cell n hn64
        have hfr := HF.out.free n
        have t1 : (0 : Int) ≤ (n : Int) := by omega
        have t2 : (n : Int) < 64 := by omega
        have t3 : (0 : Int) ≤ (k : Int) := by omega
        have t4 : (k : Int) < 7 := by omega
        cases hmk : mayAt l k
        · have hno := loadOk_no hlt hmk
          have HMayK : Hid (mayS (n : Int) (c : Int) = false) := Lib.hid (by rw [hn, hc]; exact hmk)
          have HNo := Lib.hid hno
          clear hn hc hmk hno hcb
          go_wp2_with (go_at_call 89; refine (may_any _ _ _).mono ?_; rintro e w' ⟨rfl, rfl⟩; rw [HMayK.out])
          go_ret2
          exact ⟨LoadAt.no HNo.out, HB.out⟩
        · have HMayK : Hid (mayS (n : Int) (c : Int) = true) := Lib.hid (by rw [hn, hc]; exact hmk)
          have hsucc := loadTo_succ l k
          rw [← hn, ← hc] at hsucc
          have HSucc := Lib.hid hsucc
          have HM2 : Hid (∀ i, i < k + 1 → mayAt l i = true) := Lib.hid fun i h => by
            rcases Nat.lt_or_ge i k with q | q
            · exact HM.out i q
            · obtain rfl : i = k := by omega
              exact hmk
          obtain ⟨old, hold⟩ : ∃ old, old = (loadTo l k).getD n 0 := ⟨_, rfl⟩
          rw [← hold] at hcf
          have hgi' : gi ≠ (⟨g, n, none⟩ : Addr).block := hne
          clear hn hc hmk hsucc hold hcb
          go_wp2_with (first | (go_at_call 89; refine (may_any _ _ _).mono ?_; rintro e w' ⟨rfl, rfl⟩; rw [HMayK.out]) | fail)
          refine wp_region_held_drew (S := (fun w' => Below w.heap.size w w')) (by kernel_rfl) (HB.out.drew) (fun hHeld => ?_)
          refine held_take 0 (v := ?_) rfl (by kernel_rfl) (by kernel_rfl) (by kernel_rfl) (fun _ _ _ h => h) (by rfl) (fun w hS => ?_) (by assumption) ?_
          rotate_left
          · try dsimp only at hS
            go_simp <;> with_reducible rfl
          try simp only [Act.put, List.setIfInBounds_toArray, List.set_cons_zero, List.set_cons_succ]
          refine held_take 1 (v := ?_) rfl (by kernel_rfl) (by kernel_rfl) (by kernel_rfl) (fun _ _ _ h => h) (by rfl) (fun w hS => ?_) (by assumption) ?_
          rotate_left
          · try dsimp only at hS
            go_simp <;> with_reducible rfl
          try simp only [Act.put, List.setIfInBounds_toArray, List.set_cons_zero, List.set_cons_succ]
          refine held_take 2 (v := ?_) rfl (by kernel_rfl) (by kernel_rfl) (by kernel_rfl) (fun _ _ _ h => h) (by rfl) (fun w hS => ?_) (by assumption) ?_
          rotate_left
          · try dsimp only at hS
            go_simp <;> with_reducible rfl
          try simp only [Act.put, List.setIfInBounds_toArray, List.set_cons_zero, List.set_cons_succ]
          refine held_take 3 (v := ?_) rfl (by kernel_rfl) (by kernel_rfl) (by kernel_rfl) (fun _ _ _ h => h) (by rfl) (fun w hS => ?_) (by assumption) ?_
          rotate_left
          · try dsimp only at hS
            go_simp <;> with_reducible rfl
          try simp only [Act.put, List.setIfInBounds_toArray, List.set_cons_zero, List.set_cons_succ]
          refine held_take 4 (v := ?_) rfl (by kernel_rfl) (by kernel_rfl) (by kernel_rfl) (fun _ _ _ h => h) (by rfl) (fun w hS => ?_) (by assumption) ?_
          rotate_left
          · try dsimp only at hS
            go_simp <;> with_reducible rfl
          try simp only [Act.put, List.setIfInBounds_toArray, List.set_cons_zero, List.set_cons_succ]
          refine held_take 5 (v := ?_) rfl (by kernel_rfl) (by kernel_rfl) (by kernel_rfl) (fun _ _ _ h => h) (by rfl) (fun w hS => ?_) (by assumption) ?_
          rotate_left
          · try dsimp only at hS
            go_simp <;> with_reducible rfl
          try simp only [Act.put, List.setIfInBounds_toArray, List.set_cons_zero, List.set_cons_succ]
          refine held_take 6 (v := ?_) rfl (by kernel_rfl) (by kernel_rfl) (by kernel_rfl) (fun _ _ _ h => h) (by rfl) (fun w hS => ?_) (by assumption) ?_
          rotate_left
          · try dsimp only at hS
            go_simp <;> with_reducible rfl
          try simp only [Act.put, List.setIfInBounds_toArray, List.set_cons_zero, List.set_cons_succ]
          refine held_take 7 (v := ?_) rfl (by kernel_rfl) (by kernel_rfl) (by kernel_rfl) (fun _ _ _ h => h) (by rfl) (fun w hS => ?_) (by assumption) ?_
          rotate_left
          · try dsimp only at hS
            go_simp <;> with_reducible rfl
          try simp only [Act.put, List.setIfInBounds_toArray, List.set_cons_zero, List.set_cons_succ]
          refine held_take 8 (v := ?_) rfl (by kernel_rfl) (by kernel_rfl) (by kernel_rfl) (fun _ _ _ h => h) (by rfl) (fun w hS => ?_) (by assumption) ?_
          rotate_left
          · try dsimp only at hS
            go_simp <;> with_reducible rfl
          try simp only [Act.put, List.setIfInBounds_toArray, List.set_cons_zero, List.set_cons_succ]
          refine held_one 9 rfl (by kernel_rfl) (fun K hK => ?_)
          go_simp
          refine hK.out _ _ (fun w' => Below w.heap.size w w') (fun _ h => h) (HB.out.drew.setCell (p := ⟨g, n, none⟩) hgW _) (fun hHeld => ?_)
          clear hK K
          try simp only [Act.put, List.setIfInBounds_toArray, List.set_cons_zero, List.set_cons_succ]
          refine held_done (by kernel_rfl) ?_
          have HF3 := Lib.hid (HF.out.drew.set n (c : Int))
          have HI3 := Lib.hid (HI.out.drew.set_other (p := ⟨g, n, none⟩) hgi' (.int .u8 (c : Int)))
          have HB3 : Hid (Below w.heap.size w (wo.drew.setCell ⟨g, n, none⟩ (.int .u8 (c : Int)))) := Lib.hid (HB.out.drew.setCell hgW _)
          clear hcbk hcb0 hcf hfr hci hHeld
          go_wp2
          go_roundw
          case rel => exact ⟨k + 1, by omega, by go_num, Lib.hid (by rw [HSucc.out]; exact HF3.out), HI3, HB3, HM2⟩
          case measure => simp [intOf]; omega
      · obtain rfl : k = 7 := by omega
        have hyes := loadOk_yes hll HM.out
        have hokF := loadTo_ok HIn.out.2.1 7 (by omega) HM.out
        have HYes := Lib.hid hyes
        obtain ⟨C, hC⟩ : ∃ C, C = (u8i (loadTo l 7)).toArray := ⟨_, rfl⟩
        have hcmp : ∀ w', (binOp .eql 132 (.agg C) (.agg (u8i zeros64).toArray)).run Try.prog w' = .ok (.bool (decide (loadTo l 7 = zeros64))) w' := fun w' => by
          have := eql_u8i 132 Try.underlying132 (loadTo l 7) zeros64 hokF.1.all Byt.zeros.all HF.out.2 (by simp [zeros64]) w'
          rw [hC]; exact this
        have HC := Lib.hid hC
        have HHB := HB.out.size
        clear hyes hokF hC
        by_cases hz : loadTo l 7 = zeros64
        · have hz0 := loadTo_zero hll hz
          have HZ0 := Lib.hid hz0
          have hd : decide (loadTo l 7 = zeros64) = true := by simpa using hz
          simp only [hd] at hcmp
          unfold u8i zeros64 at hcmp
          simp only [List.map_replicate] at hcmp
          simp only [List.replicate_succ, List.replicate_zero] at hcmp
          clear hz hz0 hd
          go_wp2_with (first | (go_at_call 125; refine (bytes_file g _ _ HF.out).mono ?_; rintro e w7 ⟨rfl, hb7⟩; rw [← HC.out]; have HB7 := Lib.hid hb7; clear hb7) | (go_at_call 126; refine (max_zero a cap l _ (HIn.out.below (HB.out.trans (HB7.out.mono HHB)) (Nat.le_refl _)) HZ0.out).mono ?_; rintro e w8 ⟨rfl, rfl⟩))
          go_ret2
          exact ⟨LoadAt.yes HYes.out hgW (HF.out.below HB7.out), HB.out.trans (HB7.out.mono HHB)⟩
        · have hd : decide (loadTo l 7 = zeros64) = false := by simpa using hz
          simp only [hd] at hcmp
          unfold u8i zeros64 at hcmp
          simp only [List.map_replicate] at hcmp
          simp only [List.replicate_succ, List.replicate_zero] at hcmp
          clear hz hd
          go_wp2_with (go_at_call 125; refine (bytes_file g _ _ HF.out).mono ?_; rintro e w7 ⟨rfl, hb7⟩; rw [← HC.out]; have HB7 := Lib.hid hb7; clear hb7)
          go_ret2
          exact ⟨LoadAt.yes HYes.out hgW (HF.out.below HB7.out), HB.out.trans (HB7.out.mono HHB)⟩
  · have h7b : ((len : Int) != 7) = true := by simp; omega
    have hno : loadOk l = false := by unfold loadOk; rw [Bool.and_eq_false_iff]; left; simp; omega
    have HNo := Lib.hid hno
    clear hno h7
    go_enter Try.func72, Try.ntmps72
    go_wp2_with fail
    refine (rnew_any _).mono ?_
    rintro e w1 ⟨⟨rfl, hF1⟩, hb1⟩
    have hs1 := hb1.size
    have HB1 : Hid (Below w.heap.size w w1) := Lib.hid hb1
    clear hF1 hb1
    go_wp2_with fail
    refine (lasting_any _).mono ?_
    rintro e w2 ⟨rfl, rfl⟩
    go_wp2
    go_ret2
    exact ⟨LoadAt.no HNo.out, HB1.out.alloc hs1 _⟩

set_option maxRecDepth 100000 in
set_option maxHeartbeats 4000000 in
theorem qload_any (a : Option Addr) (len cap : Nat) (l : List Nat) (w : World) (hi : Bytes w a len l) (hl : len ≤ 1000) :
    Calls Try.prog 73 #[.slice a len cap] w fun e w' => LoadAt 117 l w.heap.size e w' ∧ Below w.heap.size w w' := by
  have HIn := Lib.hid hi
  have hll := hi.1
  clear hi
  by_cases h7 : len = 7
  · subst h7
    have HI0 := Lib.hid (HasB.new w lastV 3)
    have HB0 := Lib.hid ((Below.refl w.heap.size w).alloc (Nat.le_refl _) (.cells lastV 3))
    go_enter Try.func73, Try.ntmps73
    go_wp2_with fail
    refine (qlasting_any _).mono ?_
    rintro e w2 ⟨rfl, rfl⟩
    go_wp2_with fail
    go_loopw [6] (fun i wr => ∃ (k : Nat), k ≤ 7 ∧ i = .int .i64 k ∧ Hid (QFile wr (w.heap.size + 1) (loadTo l k)) ∧ Hid (HasB wr w.heap.size lastV 3) ∧ Hid (Below w.heap.size w wr) ∧ Hid (∀ i, i < k → mayAt l i = true)) (fun i _ => 7 - (intOf i).toNat)
    case atStart => exact ⟨0, by omega, rfl, Lib.hid ⟨HasB.new' (by simp) _ _, by simp [loadTo, zeros64]⟩, Lib.hid (HI0.out.alloc _), Lib.hid (HB0.out.alloc (by simp) _), Lib.hid (fun i h => by omega)⟩
    case round =>
      obtain ⟨k, hk, rfl, HF, HI, HB, HM⟩ := hrel
      obtain ⟨wo, rfl⟩ : ∃ wo : World, wo = wr := ⟨_, rfl⟩
      by_cases hlt : k < 7
      · obtain ⟨n, hn⟩ : ∃ n, n = lastN.getD k 0 := ⟨_, rfl⟩
        have hn64 := lastN_lt k hlt
        rw [← hn] at hn64
        have hciS : ∀ w', (Below w.heap.size w w' ∧ HasB w' w.heap.size lastV 3) → w'.cell? ⟨w.heap.size, k, none⟩ = some (.int .i64 (n : Int)) := fun w' h => by
          rw [hn]; exact (h.2.at k).trans (lastV_at k hlt)
        have hci := hciS wo ⟨HB.out, HI.out⟩
        obtain ⟨b, off, rfl, hbl, hcb⟩ := HIn.out.2.2 (by omega)
        obtain ⟨c, hc⟩ : ∃ c : Nat, c = l.getD k 0 := ⟨_, rfl⟩
        have hc256 : c < 256 := by
          rw [hc]
          have : l.getD k 0 ∈ l := by
            have : k < l.length := by omega
            simp [List.getD, this]
          exact HIn.out.2.1 _ this
        have hcbS : ∀ w', (Below w.heap.size w w' ∧ HasB w' w.heap.size lastV 3) → w'.cell? ⟨b, off + k, none⟩ = some (.int .u8 (c : Int)) := fun w' h => by
          rw [hc]; exact (h.1.cell (p := ⟨b, off + k, none⟩) hbl).trans (hcb k hlt)
        have hcb0 := hcbS wo ⟨HB.out, HI.out⟩
        have HCI := Lib.hid hciS
        have HCB := Lib.hid hcbS
        have hcf := HF.out.cell n hn64
        have hfr := HF.out.free n
        have t1 : (0 : Int) ≤ (n : Int) := by omega
        have t2 : (n : Int) < 64 := by omega
        have t3 : (0 : Int) ≤ (k : Int) := by omega
        have t4 : (k : Int) < 7 := by omega
        clear hciS hcbS
        cases hmk : mayAt l k
        · have hno := loadOk_no hlt hmk
          have HMayK : Hid (mayS (n : Int) (c : Int) = false) := Lib.hid (by rw [hn, hc]; exact hmk)
          have HNo := Lib.hid hno
          clear hn hc hmk hno hcb
          go_wp2_with fail
          refine wp_region_held_drew (S := (fun w' => w' = wo.drew)) (by kernel_rfl) (rfl) (fun hHeld => ?_)
          refine held_take 0 (v := ?_) rfl (by kernel_rfl) (by kernel_rfl) (by kernel_rfl) (fun _ _ _ h => h) (by rfl) (fun w hS => ?_) (by assumption) ?_
          rotate_left
          · try dsimp only at hS
            go_simp <;> with_reducible rfl
          try simp only [Act.put, List.setIfInBounds_toArray, List.set_cons_zero, List.set_cons_succ]
          refine held_take 1 (v := ?_) rfl (by kernel_rfl) (by kernel_rfl) (by kernel_rfl) (fun _ _ _ h => h) (by rfl) (fun w hS => ?_) (by assumption) ?_
          rotate_left
          · try dsimp only at hS
            go_simp <;> with_reducible rfl
          try simp only [Act.put, List.setIfInBounds_toArray, List.set_cons_zero, List.set_cons_succ]
          refine held_take 2 (v := ?_) rfl (by kernel_rfl) (by kernel_rfl) (by kernel_rfl) (fun _ _ _ h => h) (by rfl) (fun w hS => ?_) (by assumption) ?_
          rotate_left
          · try dsimp only at hS
            go_simp <;> with_reducible rfl
          try simp only [Act.put, List.setIfInBounds_toArray, List.set_cons_zero, List.set_cons_succ]
          refine held_take 3 (v := ?_) rfl (by kernel_rfl) (by kernel_rfl) (by kernel_rfl) (fun _ _ _ h => h) (by rfl) (fun w hS => ?_) (by assumption) ?_
          rotate_left
          · try dsimp only at hS
            go_simp <;> with_reducible rfl
          try simp only [Act.put, List.setIfInBounds_toArray, List.set_cons_zero, List.set_cons_succ]
          refine held_take 4 (v := ?_) rfl (by kernel_rfl) (by kernel_rfl) (by kernel_rfl) (fun _ _ _ h => h) (by rfl) (fun w hS => ?_) (by assumption) ?_
          rotate_left
          · try dsimp only at hS
            go_simp <;> with_reducible rfl
          try simp only [Act.put, List.setIfInBounds_toArray, List.set_cons_zero, List.set_cons_succ]
          refine held_take 5 (v := ?_) rfl (by kernel_rfl) (by kernel_rfl) (by kernel_rfl) (fun _ _ _ h => h) (by rfl) (fun w hS => ?_) (by assumption) ?_
          rotate_left
          · try dsimp only at hS
            go_simp <;> with_reducible rfl
          try simp only [Act.put, List.setIfInBounds_toArray, List.set_cons_zero, List.set_cons_succ]
          refine held_take 6 (v := ?_) rfl (by kernel_rfl) (by kernel_rfl) (by kernel_rfl) (fun _ _ _ h => h) (by rfl) (fun w hS => ?_) (by assumption) ?_
          rotate_left
          · try dsimp only at hS
            go_simp <;> with_reducible rfl
          try simp only [Act.put, List.setIfInBounds_toArray, List.set_cons_zero, List.set_cons_succ]
          refine held_take 7 (v := ?_) rfl (by kernel_rfl) (by kernel_rfl) (by kernel_rfl) (fun _ _ _ h => h) (by rfl) (fun w hS => ?_) (by assumption) ?_
          rotate_left
          · try dsimp only at hS
            go_simp <;> with_reducible rfl
          try simp only [Act.put, List.setIfInBounds_toArray, List.set_cons_zero, List.set_cons_succ]
          refine held_one 8 rfl (by kernel_rfl) (fun K hK => ?_)
          go_simp
          refine (qmay_any (n : Int) (c : Int) (by omega) (by omega) _).mono ?_
          rintro e w' ⟨rfl, rfl⟩
          rw [HMayK.out]
          refine hK.out _ _ (fun w' => w' = wo.drew) (fun _ h => h) rfl (fun hHeld => ?_)
          clear hK K
          try simp only [Act.put, List.setIfInBounds_toArray, List.set_cons_zero, List.set_cons_succ]
          refine held_take 9 (v := ?_) rfl (by kernel_rfl) (by kernel_rfl) (by kernel_rfl) (fun _ _ _ h => h) (by rfl) (fun w hS => ?_) (by assumption) ?_
          rotate_left
          · try dsimp only at hS
            go_simp <;> with_reducible rfl
          try simp only [Act.put, List.setIfInBounds_toArray, List.set_cons_zero, List.set_cons_succ]
          refine held_done (by kernel_rfl) ?_
          go_wp2
          go_ret2
          exact ⟨LoadAt.no HNo.out, HB.out.drew⟩
        · have HMayK : Hid (mayS (n : Int) (c : Int) = true) := Lib.hid (by rw [hn, hc]; exact hmk)
          have hsucc := loadTo_succ l k
          rw [← hn, ← hc] at hsucc
          have HSucc := Lib.hid hsucc
          have HM2 : Hid (∀ i, i < k + 1 → mayAt l i = true) := Lib.hid fun i h => by
            rcases Nat.lt_or_ge i k with q | q
            · exact HM.out i q
            · obtain rfl : i = k := by omega
              exact hmk
          obtain ⟨old, hold⟩ : ∃ old, old = (loadTo l k).getD n 0 := ⟨_, rfl⟩
          rw [← hold] at hcf
          clear hn hc hmk hsucc hold hcb
          go_wp2_with fail
          refine wp_region_held_drew (S := (fun w' => w' = wo.drew)) (by kernel_rfl) (rfl) (fun hHeld => ?_)
          refine held_take 0 (v := ?_) rfl (by kernel_rfl) (by kernel_rfl) (by kernel_rfl) (fun _ _ _ h => h) (by rfl) (fun w hS => ?_) (by assumption) ?_
          rotate_left
          · try dsimp only at hS
            go_simp <;> with_reducible rfl
          try simp only [Act.put, List.setIfInBounds_toArray, List.set_cons_zero, List.set_cons_succ]
          refine held_take 1 (v := ?_) rfl (by kernel_rfl) (by kernel_rfl) (by kernel_rfl) (fun _ _ _ h => h) (by rfl) (fun w hS => ?_) (by assumption) ?_
          rotate_left
          · try dsimp only at hS
            go_simp <;> with_reducible rfl
          try simp only [Act.put, List.setIfInBounds_toArray, List.set_cons_zero, List.set_cons_succ]
          refine held_take 2 (v := ?_) rfl (by kernel_rfl) (by kernel_rfl) (by kernel_rfl) (fun _ _ _ h => h) (by rfl) (fun w hS => ?_) (by assumption) ?_
          rotate_left
          · try dsimp only at hS
            go_simp <;> with_reducible rfl
          try simp only [Act.put, List.setIfInBounds_toArray, List.set_cons_zero, List.set_cons_succ]
          refine held_take 3 (v := ?_) rfl (by kernel_rfl) (by kernel_rfl) (by kernel_rfl) (fun _ _ _ h => h) (by rfl) (fun w hS => ?_) (by assumption) ?_
          rotate_left
          · try dsimp only at hS
            go_simp <;> with_reducible rfl
          try simp only [Act.put, List.setIfInBounds_toArray, List.set_cons_zero, List.set_cons_succ]
          refine held_take 4 (v := ?_) rfl (by kernel_rfl) (by kernel_rfl) (by kernel_rfl) (fun _ _ _ h => h) (by rfl) (fun w hS => ?_) (by assumption) ?_
          rotate_left
          · try dsimp only at hS
            go_simp <;> with_reducible rfl
          try simp only [Act.put, List.setIfInBounds_toArray, List.set_cons_zero, List.set_cons_succ]
          refine held_take 5 (v := ?_) rfl (by kernel_rfl) (by kernel_rfl) (by kernel_rfl) (fun _ _ _ h => h) (by rfl) (fun w hS => ?_) (by assumption) ?_
          rotate_left
          · try dsimp only at hS
            go_simp <;> with_reducible rfl
          try simp only [Act.put, List.setIfInBounds_toArray, List.set_cons_zero, List.set_cons_succ]
          refine held_take 6 (v := ?_) rfl (by kernel_rfl) (by kernel_rfl) (by kernel_rfl) (fun _ _ _ h => h) (by rfl) (fun w hS => ?_) (by assumption) ?_
          rotate_left
          · try dsimp only at hS
            go_simp <;> with_reducible rfl
          try simp only [Act.put, List.setIfInBounds_toArray, List.set_cons_zero, List.set_cons_succ]
          refine held_take 7 (v := ?_) rfl (by kernel_rfl) (by kernel_rfl) (by kernel_rfl) (fun _ _ _ h => h) (by rfl) (fun w hS => ?_) (by assumption) ?_
          rotate_left
          · try dsimp only at hS
            go_simp <;> with_reducible rfl
          try simp only [Act.put, List.setIfInBounds_toArray, List.set_cons_zero, List.set_cons_succ]
          refine held_one 8 rfl (by kernel_rfl) (fun K hK => ?_)
          go_simp
          refine (qmay_any (n : Int) (c : Int) (by omega) (by omega) _).mono ?_
          rintro e w' ⟨rfl, rfl⟩
          rw [HMayK.out]
          refine hK.out _ _ (fun w' => w' = wo.drew) (fun _ h => h) rfl (fun hHeld => ?_)
          clear hK K
          try simp only [Act.put, List.setIfInBounds_toArray, List.set_cons_zero, List.set_cons_succ]
          refine held_take 9 (v := ?_) rfl (by kernel_rfl) (by kernel_rfl) (by kernel_rfl) (fun _ _ _ h => h) (by rfl) (fun w hS => ?_) (by assumption) ?_
          rotate_left
          · try dsimp only at hS
            go_simp <;> with_reducible rfl
          try simp only [Act.put, List.setIfInBounds_toArray, List.set_cons_zero, List.set_cons_succ]
          refine held_done (by kernel_rfl) ?_
          clear hHeld hcb0 hci
          have hci := HCI.out
          have hcb := HCB.out
          go_wp2_with fail
          refine wp_region_held_drew (S := (fun w' => Below w.heap.size w w' ∧ HasB w' w.heap.size lastV 3)) (by kernel_rfl) (⟨HB.out.drew.drew, HI.out.drew.drew⟩) (fun hHeld => ?_)
          refine held_take 0 (v := ?_) rfl (by kernel_rfl) (by kernel_rfl) (by kernel_rfl) (fun _ _ _ h => h) (by rfl) (fun w hS => ?_) (by assumption) ?_
          rotate_left
          · try dsimp only at hS
            go_simp <;> with_reducible rfl
          try simp only [Act.put, List.setIfInBounds_toArray, List.set_cons_zero, List.set_cons_succ]
          refine held_take 1 (v := ?_) rfl (by kernel_rfl) (by kernel_rfl) (by kernel_rfl) (fun _ _ _ h => h) (by rfl) (fun w hS => ?_) (by assumption) ?_
          rotate_left
          · try dsimp only at hS
            go_simp <;> with_reducible rfl
          try simp only [Act.put, List.setIfInBounds_toArray, List.set_cons_zero, List.set_cons_succ]
          refine held_take 2 (v := ?_) rfl (by kernel_rfl) (by kernel_rfl) (by kernel_rfl) (fun _ _ _ h => h) (by rfl) (fun w hS => ?_) (by assumption) ?_
          rotate_left
          · try dsimp only at hS
            go_simp <;> with_reducible rfl
          try simp only [Act.put, List.setIfInBounds_toArray, List.set_cons_zero, List.set_cons_succ]
          refine held_take 3 (v := ?_) rfl (by kernel_rfl) (by kernel_rfl) (by kernel_rfl) (fun _ _ _ h => h) (by rfl) (fun w hS => ?_) (by assumption) ?_
          rotate_left
          · try dsimp only at hS
            go_simp <;> with_reducible rfl
          try simp only [Act.put, List.setIfInBounds_toArray, List.set_cons_zero, List.set_cons_succ]
          refine held_take 4 (v := ?_) rfl (by kernel_rfl) (by kernel_rfl) (by kernel_rfl) (fun _ _ _ h => h) (by rfl) (fun w hS => ?_) (by assumption) ?_
          rotate_left
          · try dsimp only at hS
            go_simp <;> with_reducible rfl
          try simp only [Act.put, List.setIfInBounds_toArray, List.set_cons_zero, List.set_cons_succ]
          refine held_take 5 (v := ?_) rfl (by kernel_rfl) (by kernel_rfl) (by kernel_rfl) (fun _ _ _ h => h) (by rfl) (fun w hS => ?_) (by assumption) ?_
          rotate_left
          · try dsimp only at hS
            go_simp <;> with_reducible rfl
          try simp only [Act.put, List.setIfInBounds_toArray, List.set_cons_zero, List.set_cons_succ]
          refine held_take 6 (v := ?_) rfl (by kernel_rfl) (by kernel_rfl) (by kernel_rfl) (fun _ _ _ h => h) (by rfl) (fun w hS => ?_) (by assumption) ?_
          rotate_left
          · try dsimp only at hS
            go_simp <;> with_reducible rfl
          try simp only [Act.put, List.setIfInBounds_toArray, List.set_cons_zero, List.set_cons_succ]
          refine held_take 7 (v := ?_) rfl (by kernel_rfl) (by kernel_rfl) (by kernel_rfl) (fun _ _ _ h => h) (by rfl) (fun w hS => ?_) (by assumption) ?_
          rotate_left
          · try dsimp only at hS
            go_simp <;> with_reducible rfl
          try simp only [Act.put, List.setIfInBounds_toArray, List.set_cons_zero, List.set_cons_succ]
          refine held_take 8 (v := ?_) rfl (by kernel_rfl) (by kernel_rfl) (by kernel_rfl) (fun _ _ _ h => h) (by rfl) (fun w hS => ?_) (by assumption) ?_
          rotate_left
          · try dsimp only at hS
            go_simp <;> with_reducible rfl
          try simp only [Act.put, List.setIfInBounds_toArray, List.set_cons_zero, List.set_cons_succ]
          refine held_take 9 (v := ?_) rfl (by kernel_rfl) (by kernel_rfl) (by kernel_rfl) (fun _ _ _ h => h) (by rfl) (fun w hS => ?_) (by assumption) ?_
          rotate_left
          · try dsimp only at hS
            go_simp <;> with_reducible rfl
          try simp only [Act.put, List.setIfInBounds_toArray, List.set_cons_zero, List.set_cons_succ]
          refine held_take 10 (v := ?_) rfl (by kernel_rfl) (by kernel_rfl) (by kernel_rfl) (fun _ _ _ h => h) (by rfl) (fun w hS => ?_) (by assumption) ?_
          rotate_left
          · try dsimp only at hS
            go_simp <;> with_reducible rfl
          try simp only [Act.put, List.setIfInBounds_toArray, List.set_cons_zero, List.set_cons_succ]
          refine held_take 11 (v := ?_) rfl (by kernel_rfl) (by kernel_rfl) (by kernel_rfl) (fun _ _ _ h => h) (by rfl) (fun w hS => ?_) (by assumption) ?_
          rotate_left
          · try dsimp only at hS
            go_simp <;> with_reducible rfl
          try simp only [Act.put, List.setIfInBounds_toArray, List.set_cons_zero, List.set_cons_succ]
          refine held_one 12 rfl (by kernel_rfl) (fun K hK => ?_)
          go_simp
          refine hK.out _ _ (fun w' => Below w.heap.size w w' ∧ HasB w' w.heap.size lastV 3) (fun _ h => h) ⟨HB.out.drew.drew.setCell (p := ⟨w.heap.size + 1, n, none⟩) (by simp) _, HI.out.drew.drew.set_other (p := ⟨w.heap.size + 1, n, none⟩) (by simp) _⟩ (fun hHeld => ?_)
          clear hK K
          try simp only [Act.put, List.setIfInBounds_toArray, List.set_cons_zero, List.set_cons_succ]
          refine held_done (by kernel_rfl) ?_
          have HF3 := Lib.hid (HF.out.drew.drew.set n (c : Int))
          have HI3 := Lib.hid (HI.out.drew.drew.set_other (p := ⟨w.heap.size + 1, n, none⟩) (by simp) (.int .u8 (c : Int)))
          have HB3 : Hid (Below w.heap.size w (wo.drew.drew.setCell ⟨w.heap.size + 1, n, none⟩ (.int .u8 (c : Int)))) := Lib.hid (HB.out.drew.drew.setCell (p := ⟨w.heap.size + 1, n, none⟩) (by simp) _)
          clear hcb hcf hfr hci hHeld
          go_wp2
          go_roundw
          case rel => exact ⟨k + 1, by omega, by go_num, Lib.hid (by rw [HSucc.out]; exact HF3.out), HI3, HB3, HM2⟩
          case measure => simp [intOf]; omega
      · obtain rfl : k = 7 := by omega
        have hyes := loadOk_yes hll HM.out
        have HYes := Lib.hid hyes
        clear hyes
        go_wp2
        go_ret2
        exact ⟨LoadAt.yes HYes.out (by omega) HF.out, HB.out⟩
  · have h7b : ((len : Int) != 7) = true := by simp; omega
    have hno : loadOk l = false := by unfold loadOk; rw [Bool.and_eq_false_iff]; left; simp; omega
    have HNo := Lib.hid hno
    clear hno h7
    go_enter Try.func73, Try.ntmps73
    go_wp2_with fail
    refine (qlasting_any _).mono ?_
    rintro e w2 ⟨rfl, rfl⟩
    go_wp2
    go_ret2
    exact ⟨LoadAt.no HNo.out, (Below.refl _ _).alloc (Nat.le_refl _) _⟩

end Go.Proofs.Ytjjeopanffcbiaa
