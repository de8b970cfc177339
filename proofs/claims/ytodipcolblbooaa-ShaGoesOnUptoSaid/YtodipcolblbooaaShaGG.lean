/- sha: ShaSums: the digest of any parts, plain and with any key, is the reference's. -/
import Derived.Test.YtodipcolblbooaaShaFF
import Derived.Test.YtodipcolblbooaaShaEE
namespace Go.Proofs.Ytodipcolblbooaa
open Go Go.RowKit
set_option linter.unusedVariables false

theorem eql_o32 {l : List Nat} (hl : ∀ c ∈ l, c < 256) (ll : l.length = 32) (w : World) :
    (binOp .eql 27 (.agg (u8s l).toArray) (.agg (u8s l).toArray)).run Try.prog w = .ok (.bool true) w := by
  have h := run_eql_bytes (P := Try.prog) w 27 5 32 Try.underlying27 Try.underlying5 (fun w => by kernel_rfl) (b8 l) (b8 l) (by simp [b8, ll]) (by simp [b8, ll])
  rw [b8_cell hl, b8_beq hl hl] at h
  simpa using h

set_option maxRecDepth 100000 in
set_option maxHeartbeats 4000000 in
theorem shasums_any (a : Option Addr) (len cap : Nat) (key : List Nat) (a2 : Option Addr) (n cap2 : Nat) (ls : List (List Nat)) (w : World) (hi : Bytes w a len key) (hnil : a = none → cap = 0) (hlc : len ≤ cap) (hcm : cap ≤ maxLen) (hR : RowsR w a2 ls) (hl : ls.length = n) (hb : ∀ x ∈ ls, ∀ c ∈ x, c < 256) (hT : sumLen ls n + n ≤ 1048576) :
    Calls Try.prog 3 #[.slice a len cap, .slice a2 n cap2] w fun e w' => e = .returned (.bool true) ∧ Below w.heap.size w w' := by
  have HI := Lib.hid hi
  have HR := Lib.hid hR
  have HBt := Lib.hid hb
  have HLn := Lib.hid hl
  have HNil := Lib.hid hnil
  have HCm := Lib.hid hcm
  unfold maxLen at hcm
  clear hi hR hb hl hnil
  go_enter Try.func3, Try.ntmps3
  go_wp2_with fail
  refine (sknown_any _).mono ?_
  rintro e w1 ⟨rfl, hb1⟩
  have HB1 := Lib.hid hb1
  clear hb1
  go_wp2_with fail
  refine (joined_any a2 n cap2 ls w1 (HR.out.below HB1.out) HLn.out HBt.out hT).mono ?_
  rintro e w2 ⟨⟨v, ok, rfl, hok⟩, hb2⟩
  have HB2 : Hid (Below w.heap.size w w2) := Lib.hid (HB1.out.trans (hb2.mono HB1.out.size))
  clear hb2
  cases ok with
  | false =>
    clear hok
    go_wp2_with fail
    go_ret
    exact ⟨rfl, HB2.out⟩
  | true =>
    obtain ⟨⟨va, vc, rfl, hy, hvn⟩, hS, hn5, hx4⟩ := hok rfl
    clear hok
    have HY := Lib.hid hy
    have HVn := Lib.hid hvn
    have HX4 := Lib.hid hx4
    have HF8 := Lib.hid (flatTo_lt HBt.out n)
    obtain ⟨S, hSe⟩ : ∃ S, S = sumLen ls n := ⟨_, rfl⟩
    have HSe := Lib.hid hSe
    rw [← hSe] at HY hS hT ⊢
    clear hy hvn hx4 hSe
    by_cases h4 : len ≤ 4096
    · have t1 : ¬ (4096 < (len : Int)) := by omega
      have q1 : ∀ w, (binOp .eql 27 (.agg (u8s (shaL (flatTo ls n))).toArray) (.agg (u8s (shaL (flatTo ls n))).toArray)).run Try.prog w = .ok (.bool true) w := fun w => eql_o32 (shaL_lt _) (shaL_len _) w
      have q2 : ∀ w, (binOp .eql 27 (.agg (u8s (macS key (flatTo ls n))).toArray) (.agg (u8s (macS key (flatTo ls n))).toArray)).run Try.prog w = .ok (.bool true) w := fun w => eql_o32 (macS_lt _ _) (macS_len _ _) w
      obtain ⟨C1, hC1⟩ : ∃ C1, C1 = (u8s (shaL (flatTo ls n))).toArray := ⟨_, rfl⟩
      obtain ⟨C2, hC2⟩ : ∃ C2, C2 = (u8s (macS key (flatTo ls n))).toArray := ⟨_, rfl⟩
      rw [← hC1] at q1
      rw [← hC2] at q2
      have HC1 := Lib.hid hC1
      have HC2 := Lib.hid hC2
      clear hC1 hC2
      go_wp2_with fail
      refine (of_any a2 n cap2 ls w2 (HR.out.below HB2.out) HLn.out HBt.out (fun x hx => by have := HX4.out x hx; omega) (by rw [← HSe.out]; omega) (by omega)).mono ?_
      rintro e w3 ⟨rfl, hb3⟩
      rw [← HC1.out]
      have HB3 : Hid (Below w.heap.size w w3) := Lib.hid (HB2.out.trans (hb3.mono HB2.out.size))
      have HY3 := Lib.hid (HY.out.below hb3 (Nat.le_refl _))
      clear hb3
      go_wp2_with fail
      refine (rsum_any va S vc (flatTo ls n) w3 HY3.out HF8.out HVn.out (by omega)).mono ?_
      rintro e w4 ⟨rfl, hb4⟩
      rw [← HC1.out]
      have HB4 : Hid (Below w.heap.size w w4) := Lib.hid (HB3.out.trans (hb4.mono HB3.out.size))
      have HY4 := Lib.hid (HY3.out.below hb4 (Nat.le_refl _))
      clear hb4
      go_wp2_with fail
      refine (mac_any a len cap key a2 n cap2 ls w4 (HI.out.below HB4.out (Nat.le_refl _)) HNil.out hlc HCm.out (by omega) (HR.out.below HB4.out) HLn.out HBt.out (fun x hx => by have := HX4.out x hx; omega) (by rw [← HSe.out]; omega) (by omega)).mono ?_
      rintro e w5 ⟨rfl, hb5⟩
      rw [← HC2.out]
      have HB5 : Hid (Below w.heap.size w w5) := Lib.hid (HB4.out.trans (hb5.mono HB4.out.size))
      have HY5 := Lib.hid (HY4.out.below hb5 (Nat.le_refl _))
      clear hb5
      go_wp2_with fail
      refine (rmac_any a len cap key va S vc (flatTo ls n) w5 (HI.out.below HB5.out (Nat.le_refl _)) HNil.out HY5.out HVn.out (by omega) (by omega)).mono ?_
      rintro e w6 ⟨rfl, hb6⟩
      rw [← HC2.out]
      have HB6 : Hid (Below w.heap.size w w6) := Lib.hid (HB5.out.trans (hb6.mono HB5.out.size))
      clear hb6
      go_wp2_with fail
      go_ret
      exact ⟨rfl, HB6.out⟩
    · have t1 : 4096 < (len : Int) := by omega
      go_wp2_with fail
      go_ret
      exact ⟨rfl, HB2.out⟩
end Go.Proofs.Ytodipcolblbooaa
