/- sha: pad, Reset, New, Write. -/
import Derived.Test.YtkdjimcpdbpemaaShaG
import Derived.Deep.MidRow
namespace Go.Proofs.Ytkdjimcpdbpemaa
open Go Go.RowKit
set_option linter.unusedVariables false

/-! ### Plain -/
def shaL (l : List Nat) : List Nat := endS (runB H0 l) (restB l) l.length
def xorK (key : List Nat) (c : Nat) : List Nat := key.map (· ^^^ c)
def preS (kd : Bool) (key : List Nat) : List Nat := if kd then xorK key 54 else []
def digS (kd : Bool) (key l : List Nat) : List Nat := if kd then shaL (xorK key 92 ++ shaL l) else shaL l
theorem xorK_lt {key : List Nat} (h : ∀ x ∈ key, x < 256) {c : Nat} (hc : c < 256) : ∀ x ∈ xorK key c, x < 256 := by
  intro x hx
  simp only [xorK, List.mem_map] at hx
  obtain ⟨y, hy, rfl⟩ := hx
  exact Nat.xor_lt_two_pow (n := 8) (h y hy) hc
theorem xorK_len (key : List Nat) (c : Nat) : (xorK key c).length = key.length := by simp [xorK]
theorem preS_lt {kd : Bool} {key : List Nat} (h : ∀ x ∈ key, x < 256) : ∀ x ∈ preS kd key, x < 256 := by
  unfold preS
  split
  · exact xorK_lt h (by omega)
  · simp
theorem preS_len (kd : Bool) (key : List Nat) : (preS kd key).length ≤ key.length := by
  unfold preS
  split
  · rw [xorK_len]; exact Nat.le_refl _
  · simp
def xorTo (key : List Nat) (c k : Nat) : List Nat := (xorK key c).take k ++ List.replicate (key.length - k) 0
theorem xorTo_len (key : List Nat) (c k : Nat) (h : k ≤ key.length) : (xorTo key c k).length = key.length := by simp [xorTo, xorK_len]; omega
theorem xorTo_set (key : List Nat) (c k : Nat) (h : k < key.length) : (xorTo key c k).set k (key.getD k 0 ^^^ c) = xorTo key c (k + 1) := by
  have hl : ((xorK key c).take k).length = k := by rw [List.length_take, xorK_len]; omega
  unfold xorTo
  rw [List.set_append_right _ _ (by omega), hl, Nat.sub_self, show key.length - k = (key.length - (k + 1)) + 1 by omega, List.replicate_succ, List.set_cons_zero]
  rw [take_snoc (xorK key c) k (by rw [xorK_len]; exact h), List.append_assoc]
  congr 2
  simp [xorK, List.getD, h]

theorem own_at {w : World} {B : Nat} {e : TypeId} {g n cap : Nat} {l : List Nat} (h : w.ownsRow B e 1 (.slice (some ⟨g, 0, none⟩) n cap) n (u8s l)) (p : Nat) (hp : p < n) : w.cell? ⟨g, p, none⟩ = some (.int .u8 ((l.getD p 0 : Nat) : Int)) := by
  have hn : l.length = n := by simpa [u8s] using h.1
  have hpl : p < l.length := by omega
  rw [h.cellAt p (by omega)]
  simp [u8s, List.getD, hpl]

/-- One byte of a row of the call's own is written. -/
theorem own_store {B : Nat} {w0 w : World} {g n cap : Nat} {l : List Nat} (h : w.ownsRow B 5 1 (.slice (some ⟨g, 0, none⟩) n cap) n (u8s l)) (hb : Below B w0 w) (Q Y : Nat) : (w.setCell ⟨g, Q, none⟩ (.int .u8 (Y : Int))).ownsRow B 5 1 (.slice (some ⟨g, 0, none⟩) n cap) n (u8s (l.set Q Y)) ∧ Below B w0 (w.setCell ⟨g, Q, none⟩ (.int .u8 (Y : Int))) := by
  have hst := h.stored Q (.int .u8 (Y : Int))
  rw [u8s_set] at hst
  exact ⟨hst.1, hb.setCell (by have := h.lt g rfl; exact this.1) _⟩

theorem own_drew {B : Nat} {w : World} {e : TypeId} {sz : Nat} {v : Value} {n : Nat} {xs : List Value} (h : w.ownsRow B e sz v n xs) : w.drew.ownsRow B e sz v n xs := h
/-- A digest in memory, to which l was written (the key's block too, if it is keyed). -/
def DigL (w : World) (B g : Nat) (kd : Bool) (key l : List Nat) : Prop := MidW w B g 109 (runB H0 l) (restB l) l.length (.bool kd :: u8s key)
def KeyOk (key : List Nat) : Prop := key.length = 64 ∧ ∀ x ∈ key, x < 256
theorem info_k64 : (Try.prog.info? 34).map (·.size) = some 64 := by kernel_rfl
theorem head_range {w : World} {g T : Nat} {l : List Int} {v n : Value} {kd : Bool} {key : List Nat} (hl : l.length = 8) (h : HeadU w g T l (v :: n :: .bool kd :: u8s key)) : w.rangeAt g 11 (u8s key) := by
  intro j z hj
  have := h.tail (3 + j)
  rw [hl, show 8 + (3 + j) = 11 + j by omega] at this
  rw [this, show 3 + j = j + 1 + 1 + 1 by omega]
  simpa using hj

set_option maxRecDepth 100000 in
set_option maxHeartbeats 40000000 in
theorem pad_any (g : Nat) (key : List Nat) (c : Nat) (w : World) (hk : key.length = 64) (h8 : ∀ x ∈ key, x < 256) (hc : c < 256) (hr : w.rangeAt g 11 (u8s key)) (hg : g < w.heap.size) :
    Calls Try.prog 48 #[.pointer (some ⟨g, 0, none⟩), .int .u8 (c : Int)] w fun e w' => (∃ v, e = .returned v ∧ w'.ownsRow w.heap.size 5 1 v 64 (u8s (xorK key c))) ∧ Below w.heap.size w w' := by
  have HR : Hid (∀ w', Below w.heap.size w w' → w'.rangeAt g 11 (u8s key)) := Lib.hid (fun w' hb j v hj => (hb.cell (p := ⟨g, 11 + j, none⟩) hg).trans (hr j v hj))
  have HK := Lib.hid hk
  have HI : Hid ((Try.prog.info? 34).map (·.size) = some (u8s key).length) := Lib.hid (by rw [u8s_len, hk]; exact info_k64)
  clear hr
  go_enter Try.func48, Try.ntmps48
  go_wp2_with (at_make; refine Stop.mk ?_)
  refine Stop.go ?_
  refine wpList_make_u8 rfl _ _ 50 rfl w.heap.size 5 Try.underlying50 (by kernel_rfl) 64 rfl rfl (by omega) (Nat.le_refl _) ?_
  intro w1 hown1 hgrow1
  have hb1 : Below w.heap.size w w1 := (Below.refl _ _).grown hgrow1 (Nat.le_refl _) (fun k hk => by cases hk)
  have HO1 : Hid (w1.ownsRow w.heap.size 5 1 (.slice (some ⟨w.heap.size, 0, none⟩) 64 64) 64 (u8s (xorTo key c 0))) := Lib.hid (by
    have : xorTo key c 0 = List.replicate 64 0 := by simp [xorTo, hk]
    rw [this]; exact hown1)
  have HB1 := Lib.hid hb1
  have hrg := HR.out w1 hb1
  have HRg := Lib.hid hrg
  clear hown1 hgrow1 hb1 hrg hk
  go_wp2_with (with_reducible refine wpList_load_mid rfl 34 (.tmp 11) rfl g 11 rfl (u8s key) _ HRg.out Try.underlying34 rfl HI.out ?_)
  obtain ⟨kc, hkc⟩ : ∃ kc, kc = (u8s key).toArray := ⟨_, rfl⟩
  rw [← hkc]
  have hidx : Hid (∀ k : Nat, k < 64 → ∀ w, (Instr.index 34 (.agg kc) (.int .i64 (k : Int))).run Try.prog w = .ok (.int .u8 ((key.getD k 0 : Nat) : Int)) w) := Lib.hid (fun k hk w => index_arr 34 5 64 _ .i64 k _ Try.underlying34 (fun _ => by kernel_rfl) (fun _ => by kernel_rfl) hk (by
    rw [hkc]
    have := HK.out
    simp [u8s, List.getD, show k < key.length by omega]))
  clear hkc
  go_wp2_with fail
  go_loopw [13] (fun i wr => ∃ k : Nat, k ≤ 64 ∧ i = .int .i64 (k : Int) ∧ Hid (wr.ownsRow w.heap.size 5 1 (.slice (some ⟨w.heap.size, 0, none⟩) 64 64) 64 (u8s (xorTo key c k))) ∧ Hid (Below w.heap.size w wr)) (fun i _ => 64 - (intOf i).toNat)
  case atStart => exact ⟨0, by omega, rfl, HO1, HB1⟩
  case round =>
    clear HO1 HB1
    obtain ⟨k, hk, rfl, HO, HB⟩ := hrel
    obtain ⟨wo, rfl⟩ : ∃ wo : World, wo = wr := ⟨_, rfl⟩
    by_cases hlt : k < 64
    · have hix := hidx.out k hlt
      have hcl := own_at HO.out k hlt
      have hfr := HO.out.frozenAt k
      have hz8 := byte_at h8 k
      have hX : bits .xor .u8 ((key.getD k 0 : Nat) : Int) (c : Int) = ((key.getD k 0 ^^^ c : Nat) : Int) := u8_xor_nat _ _ hz8 hc
      have HSt := Lib.hid (own_store HO.out HB.out k (key.getD k 0 ^^^ c))
      have HSet : Hid ((xorTo key c k).set k (key.getD k 0 ^^^ c) = xorTo key c (k + 1)) := Lib.hid (xorTo_set key c k (by have := HK.out; omega))
      obtain ⟨z, hz⟩ : ∃ z, z = key.getD k 0 := ⟨_, rfl⟩
      obtain ⟨y, hy⟩ : ∃ y, y = z ^^^ c := ⟨_, rfl⟩
      rw [← hz] at hix hz8 hX HSt HSet
      rw [← hy] at hX HSt HSet
      have hy8 : y < 256 := by rw [hy]; exact Nat.xor_lt_two_pow (n := 8) hz8 hc
      have t1 : (k : Int) < 64 := by omega
      clear hz hy
      go_wp2_with fail
      go_roundw
      case rel => exact ⟨k + 1, by omega, by go_num, by rw [← HSet.out]; exact Lib.hid HSt.out.1, Lib.hid HSt.out.2⟩
      case measure => simp [intOf]; omega
    · have HF : Hid (wo.ownsRow w.heap.size 5 1 (.slice (some ⟨w.heap.size, 0, none⟩) 64 64) 64 (u8s (xorK key c))) := Lib.hid (by
        have := HO.out
        rw [show k = 64 by omega] at this
        have e : xorTo key c 64 = xorK key c := by simp [xorTo, HK.out, List.take_of_length_le, xorK_len]
        rw [e] at this
        exact this)
      have t1 : ¬ ((k : Int) < 64) := by omega
      clear HO hlt
      go_wp2_with fail
      go_ret
      exact ⟨⟨_, rfl, HF.out⟩, HB.out⟩

end Go.Proofs.Ytkdjimcpdbpemaa
