/- sha: Keyed with a long key; Mac, Equal, known. -/
import Derived.Test.YtkdjimcpdbpemaaShaM
namespace Go.Proofs.Ytkdjimcpdbpemaa
open Go Go.RowKit
set_option linter.unusedVariables false

set_option maxRecDepth 100000 in
set_option maxHeartbeats 4000000 in
theorem keyed_big (a : Option Addr) (len cap : Nat) (key : List Nat) (w : World) (hi : Bytes w a len key) (hnil : a = none → cap = 0) (hlc : len ≤ cap) (hcm : cap ≤ maxLen) (hl : 64 < len) (hl2 : len ≤ 100000) :
    Calls Try.prog 36 #[.slice a len cap] w fun e w' => e = .returned (.pointer (some ⟨w.heap.size, 0, none⟩)) ∧ DigL w' w.heap.size w.heap.size true (padK (shaL key)) (preS true (padK (shaL key))) ∧ Below w.heap.size w w' := by
  have hkl := hi.1
  have HS8k := Lib.hid hi.2.1
  have HLe : Hid ((shaL key).length ≤ 64) := Lib.hid (by rw [shaL_len]; omega)
  have HS8 := Lib.hid (shaL_lt key)
  have HG : Hid ((w.alloc (.cells (zD.setIfInBounds 10 (Value.bool true)) 109)).heap[w.heap.size]? = some (.cells (preK ++ u8s zeros64).toArray 109 (0, 0))) := Lib.hid (keyed_heap w)
  have hb1 : Below w.heap.size w (w.alloc (.cells (zD.setIfInBounds 10 (Value.bool true)) 109)) := (Below.refl _ _).alloc (Nat.le_refl _) _
  have hRow : RowsR ((w.alloc (.cells (zD.setIfInBounds 10 (Value.bool true)) 109)).alloc (.cells #[.slice a len cap] 50)) (some ⟨(w.alloc (.cells (zD.setIfInBounds 10 (Value.bool true)) 109)).heap.size, 0, none⟩) [key] := by
    have q := rows_one (T := 50) (x := key) (bx := a) (cx := cap) (w := (w.alloc (.cells (zD.setIfInBounds 10 (Value.bool true)) 109))) (by rw [hkl]; exact hi.alloc _) hnil (by omega) hcm
    rw [hkl] at q
    exact q
  have hes : (w.alloc (.cells (zD.setIfInBounds 10 (Value.bool true)) 109)).heap.size = w.heap.size + 1 := by simp
  rw [hes] at hRow
  have HRow := Lib.hid hRow
  have hb2 : Below w.heap.size w ((w.alloc (.cells (zD.setIfInBounds 10 (Value.bool true)) 109)).alloc (.cells #[.slice a len cap] 50)) := hb1.alloc (by simp) _
  have hG2 : HasB ((w.alloc (.cells (zD.setIfInBounds 10 (Value.bool true)) 109)).alloc (.cells #[.slice a len cap] 50)) w.heap.size (preK ++ u8s zeros64).toArray 109 := HasB.alloc (show HasB _ _ _ _ from HG.out) _
  have HB2 := Lib.hid hb2
  have HG2 := Lib.hid hG2
  have HOne1 : Hid ((∀ x ∈ [key], ∀ c ∈ x, c < 256) ∧ (∀ x ∈ [key], x.length ≤ 100000) ∧ sumLen [key] 1 ≤ 100000000) := Lib.hid ⟨fun x hx => by simp at hx; subst hx; exact hi.2.1, fun x hx => by simp at hx; subst hx; omega, by simp [sumLen]; omega⟩
  obtain ⟨C, hC⟩ : ∃ C, C = (u8s (shaL key)).toArray := ⟨_, rfl⟩
  have hCs : C.size = 32 := by rw [hC]; simp [u8s_len, shaL_len]
  have HI : Hid ((Try.prog.info? 33).map (·.size) = some C.size) := Lib.hid (by rw [hCs]; exact info_s32)
  have HOne : Hid (C.all (·.oneCell') = true) := Lib.hid (by
    rw [hC]
    simp only [List.all_toArray, List.all_eq_true]
    exact u8s_one _)
  have HOld : Hid ((u8s (List.replicate 32 0)).toArray.size = C.size) := Lib.hid (by rw [hCs]; rfl)
  have HC := Lib.hid hC
  have t1 : 64 < (len : Int) := by omega
  clear hi hb1 hb2 hRow hG2 hC hCs HG hes
  go_enter Try.func36, Try.ntmps36
  go_wp2_with fail
  refine (of_any _ 1 1 [key] _ HRow.out rfl HOne1.out.1 HOne1.out.2.1 HOne1.out.2.2 (by omega)).mono ?_
  rintro e w3 ⟨rfl, hb3⟩
  rw [show (u8s (shaL (flatTo [key] 1))).toArray = C by rw [HC.out]; simp [flatTo]]
  have hG3 : HasB w3 w.heap.size (preK ++ u8s zeros64).toArray 109 := HasB.below HG2.out hb3 (HasB.lt HG2.out)
  have hb3' : Below w.heap.size w w3 := HB2.out.trans (hb3.mono HB2.out.size)
  have HG4 : Hid ((w3.alloc (.cells C 33)).heap[w.heap.size]? = some (.cells (preK ++ u8s zeros64).toArray 109 (0, 0))) := Lib.hid (HasB.alloc hG3 _)
  have HBt : Hid (Below w.heap.size w (w3.alloc (.cells C 33))) := Lib.hid (hb3'.alloc hb3'.size _)
  have hby : Bytes (w3.alloc (.cells C 33)) (some ⟨w3.heap.size, 0, none⟩) 32 (shaL key) := by
    have q := bytes_of_row (w := w3.alloc (.cells C 33)) (g := w3.heap.size) (l := shaL key) (t := 33) (fr := (0, 0)) (by rw [HC.out]; exact heap_new _ _) (shaL_lt key)
    rw [shaL_len] at q
    exact q
  have hcf := copy_facts hby (by omega) w.heap.size
  have HCn := Lib.hid hcf.1
  have HPos := Lib.hid (fun h => (hcf.2.1 h).2)
  have HFit := Lib.hid hcf.2.2
  clear hG3 hb3' hby hcf hb3
  go_wp2_with (first | (with_reducible refine wpList_store_row rfl 33 (.tmp 4) (.tmp 12) rfl w3.heap.size C rfl rfl 33 (u8s (List.replicate 32 0)).toArray (heap_new w3 _) HI.out HOld.out HOne.out ?_; rw [World.setRow_alloc_new]) | (with_reducible refine wpList_copy_splice rfl (.tmp 17) (.tmp 18) 50 50 rfl 5 Try.underlying50 (by kernel_rfl) (some ⟨w.heap.size, 11, none⟩) (some ⟨w3.heap.size, 0, none⟩) 64 64 32 32 rfl rfl w.heap.size 11 (preK ++ u8s zeros64) 109 HG4.out (u8s (shaL key)) HCn.out (fun h => ⟨rfl, HPos.out h⟩) HFit.out (u8s_one _) w.heap.size w HBt.out (Nat.le_refl _) ?_; intro w5 hg5 hb5))
  have HZ5 : Hid (DigZ w5 w.heap.size true (padK (shaL key))) := Lib.hid ⟨List.replicate 8 0, .slice none 0 0, .int .u64 0, rfl, by
    have q : w5.heap[w.heap.size]? = _ := hg5.out
    rw [splice_key (shaL key) HLe.out] at q
    exact q⟩
  have HB5 := Lib.hid hb5
  clear hg5 hb5
  go_wp2_with fail
  refine (reset_any w.heap.size w.heap.size true (padK (shaL key)) w5 HZ5.out (padK_ok HLe.out HS8.out) (Nat.le_refl _) HB5.out.size).mono ?_
  rintro e w6 ⟨rfl, hD6, hb6⟩
  have HD6 := Lib.hid hD6
  have HB6 := Lib.hid (HB5.out.trans hb6)
  clear hD6 hb6
  go_wp2_with fail
  go_ret
  exact ⟨rfl, HD6.out, HB6.out⟩

theorem keyed_any (a : Option Addr) (len cap : Nat) (key : List Nat) (w : World) (hi : Bytes w a len key) (hnil : a = none → cap = 0) (hlc : len ≤ cap) (hcm : cap ≤ maxLen) (hl2 : len ≤ 100000) :
    Calls Try.prog 36 #[.slice a len cap] w fun e w' => e = .returned (.pointer (some ⟨w.heap.size, 0, none⟩)) ∧ DigL w' w.heap.size w.heap.size true (kOf key) (preS true (kOf key)) ∧ Below w.heap.size w w' := by
  by_cases h : 64 < len
  · have e : kOf key = padK (shaL key) := by unfold kOf; rw [if_pos (by rw [hi.1]; exact h)]
    rw [e]
    exact keyed_big a len cap key w hi hnil hlc hcm h hl2
  · have e : kOf key = padK key := by unfold kOf; rw [if_neg (by rw [hi.1]; exact h)]
    rw [e]
    exact keyed_small a len cap key w hi (by omega)
theorem kOf_ok {key : List Nat} (h8 : ∀ c ∈ key, c < 256) : KeyOk (kOf key) := by
  unfold kOf
  split
  · exact padK_ok (by rw [shaL_len]; omega) (shaL_lt key)
  · exact padK_ok (by omega) h8

/-- A digest with a key. -/
def macS (key m : List Nat) : List Nat := digS true (kOf key) (preS true (kOf key) ++ m)
theorem macS_len (key m : List Nat) : (macS key m).length = 32 := digS_len _ _ _
theorem macS_lt (key m : List Nat) : ∀ c ∈ macS key m, c < 256 := digS_lt _ _ _

set_option maxRecDepth 100000 in
set_option maxHeartbeats 4000000 in
theorem mac_any (a : Option Addr) (len cap : Nat) (key : List Nat) (a2 : Option Addr) (n cap2 : Nat) (ls : List (List Nat)) (w : World) (hi : Bytes w a len key) (hnil : a = none → cap = 0) (hlc : len ≤ cap) (hcm : cap ≤ maxLen) (hl2 : len ≤ 100000) (hR : RowsR w a2 ls) (hl : ls.length = n) (hb : ∀ x ∈ ls, ∀ c ∈ x, c < 256) (hx : ∀ x ∈ ls, x.length ≤ 100000) (hnn : sumLen ls n ≤ 90000000) (hn : n ≤ 1000000) :
    Calls Try.prog 33 #[.slice a len cap, .slice a2 n cap2] w fun e w' => e = .returned (.agg (u8s (macS key (flatTo ls n))).toArray) ∧ Below w.heap.size w w' := by
  have HI0 := Lib.hid hi
  have HNil := Lib.hid hnil
  have HR := Lib.hid hR
  have HBt := Lib.hid hb
  have HXl := Lib.hid hx
  have HK := Lib.hid (kOf_ok hi.2.1)
  obtain ⟨C, hC⟩ : ∃ C, C = (u8s (macS key (flatTo ls n))).toArray := ⟨_, rfl⟩
  have hCs : C.size = 32 := by rw [hC]; simp [u8s_len, macS_len]
  have HI : Hid ((Try.prog.info? 33).map (·.size) = some C.size) := Lib.hid (by rw [hCs]; exact info_s32)
  have HOne : Hid (C.all (·.oneCell') = true) := Lib.hid (by
    rw [hC]
    simp only [List.all_toArray, List.all_eq_true]
    exact u8s_one _)
  have HOld : Hid ((u8s (List.replicate 32 0)).toArray.size = C.size) := Lib.hid (by rw [hCs]; rfl)
  have HC := Lib.hid hC
  rw [← hC]
  clear hR hb hx hC hCs hi hnil
  go_enter Try.func33, Try.ntmps33
  go_wp2_with fail
  obtain ⟨wa, hwa⟩ : ∃ wa, wa = w.alloc (.cells (u8s (List.replicate 32 0)).toArray 33) := ⟨_, rfl⟩
  have e0 : w.alloc (.cells #[.int .u8 0, .int .u8 0, .int .u8 0, .int .u8 0, .int .u8 0, .int .u8 0, .int .u8 0, .int .u8 0, .int .u8 0, .int .u8 0, .int .u8 0, .int .u8 0, .int .u8 0, .int .u8 0, .int .u8 0, .int .u8 0, .int .u8 0, .int .u8 0, .int .u8 0, .int .u8 0, .int .u8 0, .int .u8 0, .int .u8 0, .int .u8 0, .int .u8 0, .int .u8 0, .int .u8 0, .int .u8 0, .int .u8 0, .int .u8 0, .int .u8 0, .int .u8 0] 33) = wa := by rw [hwa]; rfl
  rw [e0]
  have HQ : Hid (HasB wa w.heap.size (u8s (List.replicate 32 0)).toArray 33) := Lib.hid (by rw [hwa]; exact HasB.new _ _ _)
  have HBa : Hid (Below w.heap.size w wa) := Lib.hid (by rw [hwa]; exact (Below.refl _ _).alloc (Nat.le_refl _) _)
  have hsz : wa.heap.size = w.heap.size + 1 := by rw [hwa]; simp
  have HSz := Lib.hid hsz
  clear e0 hwa hsz
  go_wp2_with fail
  refine (keyed_any a len cap key wa (HI0.out.below HBa.out (Nat.le_refl _)) HNil.out hlc hcm hl2).mono ?_
  rintro e w1 ⟨rfl, hD1, hb1⟩
  have HD1 := Lib.hid hD1
  have HB1 := Lib.hid (HBa.out.trans (hb1.mono (by have := HSz.out; omega)))
  have HQ1 : Hid (HasB w1 w.heap.size (u8s (List.replicate 32 0)).toArray 33) := Lib.hid (HasB.below HQ.out hb1 (by have := HSz.out; omega))
  clear hD1 hb1
  go_wp2_with fail
  have hpl := preS_len true (kOf key)
  rw [HK.out.1] at hpl
  refine (all_any true (kOf key) HK.out wa.heap.size wa.heap.size (preS true (kOf key)) a2 n cap2 ls w w1 HD1.out (Nat.le_refl _) HR.out HB1.out (by have := HSz.out; omega) hl HBt.out HXl.out (preS_lt HK.out.2) (by omega) hn).mono ?_
  rintro e w2 ⟨rfl, hb2⟩
  rw [show (u8s (digS true (kOf key) (preS true (kOf key) ++ flatTo ls n))).toArray = C by rw [HC.out]; rfl]
  have HQ2 : Hid (w2.heap[w.heap.size]? = some (.cells (u8s (List.replicate 32 0)).toArray 33 (0, 0))) := Lib.hid ((hb2.block w.heap.size (by have := HSz.out; omega)).trans HQ1.out)
  have HSet : Hid ((w2.setRow w.heap.size C).heap[w.heap.size]? = some (.cells C 33 (0, 0)) ∧ Below w.heap.size w (w2.setRow w.heap.size C)) := Lib.hid ⟨setRow_heap _ w.heap.size _ C 33 (0, 0) HQ2.out, below_setRow (HB1.out.trans (hb2.mono (by have := HSz.out; omega))) (Nat.le_refl _) C⟩
  clear hb2
  go_wp2_with (with_reducible refine wpList_store_row rfl 33 (.tmp 4) (.tmp 8) rfl w.heap.size C rfl rfl 33 _ HQ2.out HI.out HOld.out HOne.out ?_)
  exact bodyPost_ret (results_cell_row (p := 4) (by kernel_rfl) _ _ w.heap.size 33 C (0, 0) _ rfl HSet.out.1 Try.underlying33 rfl HI.out) rfl ⟨rfl, HSet.out.2⟩

end Go.Proofs.Ytkdjimcpdbpemaa
