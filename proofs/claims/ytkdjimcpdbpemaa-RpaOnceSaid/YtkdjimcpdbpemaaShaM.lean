/- sha: Keyed, Mac, Equal, known. -/
import Derived.Test.YtkdjimcpdbpemaaShaL
import Derived.Laws.CopyOwn
namespace Go.Proofs.Ytkdjimcpdbpemaa
open Go Go.RowKit
set_option linter.unusedVariables false

theorem sum_any (kd : Bool) (B g : Nat) (key l : List Nat) (w : World) (hK : KeyOk key) (h : DigL w B g kd key l) (hl8 : ∀ c ∈ l, c < 256) (hn : l.length ≤ 100000000) :
    Calls Try.prog 41 #[.pointer (some ⟨g, 0, none⟩)] w fun e w' => e = .returned (.agg (u8s (digS kd key l)).toArray) ∧ Below w.heap.size w w' := by
  cases kd with
  | false => exact sum0_any B g key l w h hl8 hn
  | true => exact sum1_any B g key l w hK h hl8 hn
theorem all_any (kd : Bool) (key : List Nat) (hK : KeyOk key) (B g : Nat) (l : List Nat) (a : Option Addr) (n cap : Nat) (ls : List (List Nat)) (w0 w : World) (h : DigL w B g kd key l) (hB : B ≤ g) (hR : RowsR w0 a ls) (hW : Below w0.heap.size w0 w) (h0 : w0.heap.size ≤ B) (hl : ls.length = n) (hb : ∀ x ∈ ls, ∀ c ∈ x, c < 256) (hx : ∀ x ∈ ls, x.length ≤ 100000) (hl8 : ∀ c ∈ l, c < 256) (hnn : l.length + sumLen ls n ≤ 100000000) (hn : n ≤ 1000000) :
    Calls Try.prog 35 #[.pointer (some ⟨g, 0, none⟩), .slice a n cap] w fun e w' => e = .returned (.agg (u8s (digS kd key (l ++ flatTo ls n))).toArray) ∧ Below B w w' :=
  all_gen kd key (fun B g l w h h8 hl => sum_any kd B g key l w hK h h8 hl) B g l a n cap ls w0 w h hB hR hW h0 hl hb hx hl8 hnn hn

def padK (k : List Nat) : List Nat := k ++ List.replicate (64 - k.length) 0
def kOf (key : List Nat) : List Nat := padK (if 64 < key.length then shaL key else key)
theorem padK_ok {k : List Nat} (h : k.length ≤ 64) (h8 : ∀ c ∈ k, c < 256) : KeyOk (padK k) := by
  refine ⟨by simp [padK]; omega, fun x hx => ?_⟩
  rcases List.mem_append.1 hx with q | q
  · exact h8 x q
  · have := List.eq_of_mem_replicate q; omega
def preK : List Value := cellsU (List.replicate 8 0) ++ [.slice none 0 0, .int .u64 0, .bool true]
theorem splice_key (k : List Nat) (h : k.length ≤ 64) : splice (preK ++ u8s zeros64) 11 (u8s k) = cellsU (List.replicate 8 0) ++ (Value.slice none 0 0 :: Value.int .u64 0 :: Value.bool true :: u8s (padK k)) := by
  have hp : preK.length = 11 := rfl
  unfold splice
  rw [List.take_left' hp, u8s_len, ← List.drop_drop, List.drop_left' hp]
  unfold preK padK
  rw [List.append_assoc, u8s_append]
  have e : (u8s zeros64).drop k.length = u8s (List.replicate (64 - k.length) 0) := by
    unfold u8s zeros64
    rw [← List.map_drop, List.drop_replicate]
  rw [e]
  rfl

theorem keyed_z : (zD.setIfInBounds 10 (Value.bool true)) = (preK ++ u8s zeros64).toArray := by kernel_rfl
theorem keyed_heap (w : World) : (w.alloc (.cells (zD.setIfInBounds 10 (Value.bool true)) 109)).heap[w.heap.size]? = some (.cells (preK ++ u8s zeros64).toArray 109 (0, 0)) := by
  rw [keyed_z]
  exact heap_new _ _
theorem copy_facts {w : World} {a : Option Addr} {len : Nat} {k : List Nat} (hi : Bytes w a len k) (hl : len ≤ 64) (g : Nat) : (u8s k).length = Nat.min len 64 ∧ (0 < (u8s k).length → (some ⟨g, 11, none⟩ : Option Addr) = some ⟨g, 11, none⟩ ∧ ∃ ad, a = some ad ∧ ∀ j v, (u8s k)[j]? = some v → w.cell? (ad.add j) = some v) ∧ 11 + (u8s k).length ≤ (preK ++ u8s zeros64).length := by
  have h1 := hi.1
  refine ⟨by rw [u8s_len, h1]; exact (Nat.min_eq_left hl).symm, fun h0 => ⟨rfl, ?_⟩, ?_⟩
  · rw [u8s_len] at h0
    obtain ⟨b, off, rfl, _, hc⟩ := hi.2.2 (by omega)
    exact ⟨_, rfl, fun j v hj => u8s_cells h1 hc j v hj⟩
  · rw [List.length_append, u8s_len, u8s_len, show preK.length = 11 by rfl, show zeros64.length = 64 by rfl]; omega

set_option maxRecDepth 100000 in
set_option maxHeartbeats 4000000 in
theorem keyed_small (a : Option Addr) (len cap : Nat) (key : List Nat) (w : World) (hi : Bytes w a len key) (hl : len ≤ 64) :
    Calls Try.prog 36 #[.slice a len cap] w fun e w' => e = .returned (.pointer (some ⟨w.heap.size, 0, none⟩)) ∧ DigL w' w.heap.size w.heap.size true (padK key) (preS true (padK key)) ∧ Below w.heap.size w w' := by
  have HLe : Hid (key.length ≤ 64) := Lib.hid (by rw [hi.1]; exact hl)
  have HS8 := Lib.hid hi.2.1
  have hcf := copy_facts (hi.alloc (.cells (zD.setIfInBounds 10 (Value.bool true)) 109)) hl w.heap.size
  have HCn := Lib.hid hcf.1
  have HPos := Lib.hid (fun h => (hcf.2.1 h).2)
  have HFit := Lib.hid hcf.2.2
  have HG : Hid ((w.alloc (.cells (zD.setIfInBounds 10 (Value.bool true)) 109)).heap[w.heap.size]? = some (.cells (preK ++ u8s zeros64).toArray 109 (0, 0))) := Lib.hid (keyed_heap w)
  have HBt : Hid (Below w.heap.size w (w.alloc (.cells (zD.setIfInBounds 10 (Value.bool true)) 109))) := Lib.hid ((Below.refl _ _).alloc (Nat.le_refl _) _)
  clear hi hcf
  have t1 : ¬ (64 < (len : Int)) := by omega
  go_enter Try.func36, Try.ntmps36
  go_wp2_with (with_reducible refine wpList_copy_splice rfl (.tmp 17) (.tmp 18) 50 50 rfl 5 Try.underlying50 (by kernel_rfl) (some ⟨w.heap.size, 11, none⟩) a 64 64 len cap rfl rfl w.heap.size 11 (preK ++ u8s zeros64) 109 HG.out (u8s key) HCn.out (fun h => ⟨rfl, HPos.out h⟩) HFit.out (u8s_one _) w.heap.size w HBt.out (Nat.le_refl _) ?_; intro w5 hg5 hb5)
  have HZ5 : Hid (DigZ w5 w.heap.size true (padK key)) := Lib.hid ⟨List.replicate 8 0, .slice none 0 0, .int .u64 0, rfl, by
    have q : w5.heap[w.heap.size]? = _ := hg5.out
    rw [splice_key key HLe.out] at q
    exact q⟩
  have HB5 := Lib.hid hb5
  clear hg5 hb5
  go_wp2_with fail
  refine (reset_any w.heap.size w.heap.size true (padK key) w5 HZ5.out (padK_ok HLe.out HS8.out) (Nat.le_refl _) HB5.out.size).mono ?_
  rintro e w6 ⟨rfl, hD6, hb6⟩
  have HD6 := Lib.hid hD6
  have HB6 := Lib.hid (HB5.out.trans hb6)
  clear hD6 hb6
  go_wp2_with fail
  go_ret
  exact ⟨rfl, HD6.out, HB6.out⟩

end Go.Proofs.Ytkdjimcpdbpemaa
