/- crc: known, and CrcEnds. -/
import Derived.Test.YtogpdmpefdafnaaCrcA
namespace Go.Proofs.Ytogpdmpefdafnaa
open Go.RowKit
set_option linter.unusedVariables false

theorem Try.infoU8 : (Try.prog.info? 5).map (fun i => (i.zero, i.size, i.bytes)) = some (some (.int .u8 0), 1, 1) := by kernel_rfl

def ffs (k : Nat) : List Nat := List.replicate k 255 ++ List.replicate (512 - k) 0
theorem ffs_zero : ffs 0 = List.replicate 512 0 := by unfold ffs; rw [List.replicate_zero, List.nil_append]
theorem ffs_len (k : Nat) (h : k ≤ 512) : (ffs k).length = 512 := by simp [ffs]; omega
theorem ffs_lt (k : Nat) : ∀ c ∈ ffs k, c < 256 := by
  intro c hc
  unfold ffs at hc
  rcases List.mem_append.1 hc with h | h
  · have := (List.mem_replicate.1 h).2; omega
  · have := (List.mem_replicate.1 h).2; omega
theorem ffs_set (k : Nat) (h : k < 512) : (ffs k).set k 255 = ffs (k + 1) := by
  unfold ffs
  rw [List.set_append, if_neg (by simp), List.length_replicate, Nat.sub_self, show 512 - k = (512 - (k + 1)) + 1 by omega, List.replicate_succ, List.set_cons_zero, List.replicate_succ' (n := k), List.append_assoc]
  rfl
set_option maxRecDepth 100000 in
theorem ffs_sum : Crc.sum16 (ffs 512) = 32673 := by decide +kernel
theorem s7a : Crc.sum7 [64, 0, 0, 0, 0] = 74 := by decide +kernel
theorem s7b : Crc.sum7 [81, 0, 0, 0, 0] = 42 := by decide +kernel

theorem u8_lt2 {a b : Nat} (ha : a < 256) (hb : b < 256) : ∀ c ∈ [a, b], c < 256 := by intro c hc; simp at hc; omega

set_option maxRecDepth 100000 in
set_option maxHeartbeats 2000000 in
theorem known_any (w : World) : Calls Try.prog 25 #[] w fun e w' => e = .returned (.bool true) ∧ Below w.heap.size w w' := by
  go_enter Try.func25, Try.ntmps25
  go_wp2_with (at_make; refine wpList_make_u8 rfl _ _ 22 rfl w.heap.size 5 Try.underlying22 Try.infoU8 512 rfl rfl (by omega) (Nat.le_refl _) ?_; rw [← ffs_zero]; intro w1 hown hgrow; have HO := Lib.hid hown; clear hown; have HG := Lib.hid hgrow; clear hgrow)
  have hown := HO.out
  have hgrow := HG.out
  clear HO HG
  have hb1 : Below w.heap.size w w1 := (Below.refl _ _).grown hgrow (Nat.le_refl _) (fun k hk => by simp at hk)
  obtain ⟨g, hg⟩ : ∃ g, g = w.heap.size := ⟨_, rfl⟩
  rw [← hg] at hown ⊢
  have hgw : w.heap.size ≤ g := by omega
  clear hg hgrow
  go_wp2
  go_loopw [2] (fun i wr => ∃ k : Nat, k ≤ 512 ∧ i = .int .i64 k ∧ wr.ownsRow g 5 1 (.slice (some ⟨g, 0, none⟩) 512 512) 512 (u8s (ffs k)) ∧ Below w.heap.size w wr) (fun i _ => 512 - (intOf i).toNat)
  case atStart => exact ⟨0, by omega, rfl, hown, hb1⟩
  case round =>
    clear hown hb1
    obtain ⟨k, hk, rfl, hown, hb⟩ := hrel
    by_cases hlt : k < 512
    · have hcell : wr.cell? ⟨g, k, none⟩ = some (.int .u8 ((ffs k).getD k 0 : Nat)) := by
        rw [hown.cellAt k (by omega)]
        have hl := ffs_len k hk
        simp [u8s, List.getD, hl, hlt]
      obtain ⟨z, hz⟩ : ∃ z, z = (ffs k).getD k 0 := ⟨_, rfl⟩
      rw [← hz] at hcell
      clear hz
      have hfr := hown.frozenAt k
      have hst := hown.stored k (.int .u8 ((255 : Nat) : Int))
      rw [u8s_set, ffs_set k hlt] at hst
      have HST := Lib.hid hst.1
      have HBS := Lib.hid (hb.setCell (p := ⟨g, k, none⟩) hgw (.int .u8 255))
      clear hst hown hb
      go_wp2
      go_roundw
      case rel => exact ⟨k + 1, by omega, by go_num, HST.out, HBS.out⟩
      case measure => simp [intOf]; omega
    · obtain rfl : k = 512 := by omega
      have hby := bytes_of_own hown (ffs_lt 512)
      have e1 := ffs_sum
      have e2 := s7a
      have e3 := s7b
      have E1 : Hid (((Crc.sum16 (ffs 512) : Nat) : Int) = 32673) := by unfold Hid; rw [e1]; rfl
      have E2 : Hid (((Crc.sum7 [64, 0, 0, 0, 0] : Nat) : Int) = 74) := by unfold Hid; rw [e2]; rfl
      have E3 : Hid (((Crc.sum7 [81, 0, 0, 0, 0] : Nat) : Int) = 42) := by unfold Hid; rw [e3]; rfl
      clear e1 e2 e3 hown
      go_wp2_with fail
      refine (seven_any _ _ _ [64, 0, 0, 0, 0] _ ⟨rfl, by decide, fun _ => ⟨wr.heap.size, 0, rfl, by simp, ?_⟩⟩ (by decide)).mono ?_
      · intro i hi
        match i, hi with
        | 0, _ => simp
        | 1, _ => simp
        | 2, _ => simp
        | 3, _ => simp
        | 4, _ => simp
      rintro e w2 ⟨rfl, rfl⟩
      rw [E2.out]
      go_wp2_with fail
      refine (seven_any _ _ _ [81, 0, 0, 0, 0] _ ⟨rfl, by decide, fun _ => ⟨wr.heap.size + 1, 0, by simp, by simp, ?_⟩⟩ (by decide)).mono ?_
      · intro i hi
        match i, hi with
        | 0, _ => simp
        | 1, _ => simp
        | 2, _ => simp
        | 3, _ => simp
        | 4, _ => simp
      rintro e w2 ⟨rfl, rfl⟩
      rw [E3.out]
      go_wp2_with fail
      refine (sixteen_any _ _ _ (ffs 512) _ ((hby.below ((Below.refl wr.heap.size wr).alloc (Nat.le_refl _) _) (Nat.le_refl _)).below ((Below.refl _ _).alloc (Nat.le_refl _) _) (Nat.le_refl _)) (by omega)).mono ?_
      rintro e w2 ⟨rfl, rfl⟩
      rw [E1.out]
      have hsz := hb.size
      go_wp2
      go_ret
      exact ⟨rfl, (hb.alloc hsz _).alloc (by simp; omega) _⟩

end Go.Proofs.Ytogpdmpefdafnaa
