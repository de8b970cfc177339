/- sha: end. -/
import Derived.Test.YtkdjimcpdbpemaaShaF
import Derived.Laws.Rows
import Derived.Laws.Tables
namespace Go.Proofs.Ytkdjimcpdbpemaa
open Go Go.RowKit
set_option linter.unusedVariables false

/-! ### Plain: what stands behind, and what is told -/
def byteAt (n k : Nat) : Nat := 8 * n / 2 ^ (56 - 8 * k) % 256
def be8 (n : Nat) : Nat → List Nat
  | 0 => []
  | k + 1 => be8 n k ++ [byteAt n k]
def padS (r n : Nat) : List Nat := 128 :: List.replicate ((119 - r) % 64) 0 ++ be8 n 8
theorem be8_len (n : Nat) : ∀ k, (be8 n k).length = k
  | 0 => rfl
  | k + 1 => by rw [be8, List.length_append, be8_len n k]; rfl
theorem be8_lt (n : Nat) : ∀ k, ∀ c ∈ be8 n k, c < 256
  | 0, c, h => by simp [be8] at h
  | k + 1, c, h => by
    rcases List.mem_append.1 h with q | q
    · exact be8_lt n k c q
    · simp at q; rw [q]; exact Nat.mod_lt _ (by omega)
def outB (s : St) (m : Nat) : Nat := (s.list.getD (m / 4) 0 / 2 ^ (24 - 8 * (m % 4)) % 256).toNat
def outS (s : St) : List Nat := (List.range 32).map (outB s)
theorem outS_len (s : St) : (outS s).length = 32 := by simp [outS]
theorem outS_lt (s : St) : ∀ c ∈ outS s, c < 256 := by
  intro c hc
  simp only [outS, List.mem_map] at hc
  obtain ⟨m, _, rfl⟩ := hc
  unfold outB
  omega
/-- What a digest tells of a state, of the bytes behind the last whole block, of how many there were. -/
def endS (s : St) (rest : List Nat) (n : Nat) : List Nat := outS (runB s (rest ++ padS rest.length n))
def outTo (s : St) (m : Nat) : List Nat := (outS s).take m ++ List.replicate (32 - m) 0
theorem outTo_len (s : St) (m : Nat) (h : m ≤ 32) : (outTo s m).length = 32 := by simp [outTo, outS_len]; omega
theorem outTo_set (s : St) (m : Nat) (h : m < 32) : (outTo s m).set m (outB s m) = outTo s (m + 1) := by
  have hl : ((outS s).take m).length = m := by rw [List.length_take, outS_len]; omega
  unfold outTo
  rw [List.set_append_right _ _ (by omega), hl, Nat.sub_self, show 32 - m = (32 - (m + 1)) + 1 by omega, List.replicate_succ, List.set_cons_zero]
  rw [take_snoc (outS s) m (by rw [outS_len]; exact h), List.append_assoc]
  congr 2
  simp [outS, List.getD, h]
theorem outTo_all (s : St) : outTo s 32 = outS s := by simp [outTo, outS_len, List.take_of_length_le]

/-- An array of bytes in a block of its own. -/
def ArrB (w : World) (g T : Nat) (l : List Nat) : Prop := HasB w g (u8s l).toArray T
theorem ArrB.put {w : World} {g T : Nat} {l : List Nat} (h : ArrB w g T l) (i z : Nat) : ArrB (w.setCell ⟨g, i, none⟩ (.int .u8 (z : Int))) g T (l.set i z) := by
  have h' := HasB.set h i (.int .u8 (z : Int))
  rw [List.setIfInBounds_toArray, u8s_set] at h'
  exact h'
theorem ArrB.at {w : World} {g T : Nat} {l : List Nat} (h : ArrB w g T l) (i : Nat) (hi : i < l.length) : w.cell? ⟨g, i, none⟩ = some (.int .u8 ((l.getD i 0 : Nat) : Int)) := by
  have := HasB.at h i
  rw [this]
  simp [u8s, List.getD, hi]
/-- The result's variable, and what is written so far of the digest. -/
def OutW (w wr : World) (gb : Nat) (u : St) (m : Nat) : Prop := ArrB wr w.heap.size 33 (List.replicate 32 0) ∧ ArrB wr gb 33 (outTo u m) ∧ Below w.heap.size w wr ∧ w.heap.size < gb
theorem OutW.put {w wr : World} {gb : Nat} {u : St} {m : Nat} (h : OutW w wr gb u m) (hm : m < 32) : OutW w (wr.setCell ⟨gb, m, none⟩ (.int .u8 ((outB u m : Nat) : Int))) gb u (m + 1) := by
  obtain ⟨h1, h2, h3, h4⟩ := h
  refine ⟨HasB.set_other h1 (by simp; omega) _, ?_, h3.setCell (by show w.heap.size ≤ gb; omega) _, h4⟩
  rw [← outTo_set u m hm]
  exact h2.put m _
theorem cells_get (u : St) (i : Nat) (hi : i < 8) : (#[.int .u32 u.a, .int .u32 u.b, .int .u32 u.c, .int .u32 u.d, .int .u32 u.e, .int .u32 u.f, .int .u32 u.g, .int .u32 u.h] : Array Value)[i]? = some (.int .u32 (u.list.getD i 0)) := by
  match i, hi with
  | 0, _ => rfl
  | 1, _ => rfl
  | 2, _ => rfl
  | 3, _ => rfl
  | 4, _ => rfl
  | 5, _ => rfl
  | 6, _ => rfl
  | 7, _ => rfl
theorem info_s32 : (Try.prog.info? 33).map (·.size) = some 32 := by kernel_rfl

set_option maxRecDepth 100000 in
set_option maxHeartbeats 40000000 in
theorem end_any (Bs g T : Nat) (hT : T ≠ 5) (s : St) (rest : List Nat) (n : Nat) (tail : List Value) (w : World) (hs : s.ok) (h : MidW w Bs g T s rest n tail) (hr8 : ∀ c ∈ rest, c < 256) (hrl : rest.length < 64) (hn : n ≤ 100000000) :
    Calls Try.prog 47 #[.pointer (some ⟨g, 0, none⟩)] w fun e w' => e = .returned (.agg (u8s (endS s rest n)).toArray) ∧ Below w.heap.size w w' := by
  obtain ⟨v, hH, hown⟩ := h
  obtain ⟨R, hR⟩ : ∃ R, R = rest.length := ⟨_, rfl⟩
  rw [← hR] at hown hrl
  obtain ⟨va, vc, rfl⟩ := own_form hown
  have hnil : va = none → vc = 0 := by
    intro q
    rcases hown.2 with ⟨h, _⟩ | ⟨g', cap', cur, h, _⟩
    · simp at h; exact h.2.2
    · simp at h; rw [h.1] at q; cases q
  obtain ⟨va', vc', hve, hby⟩ := bytes_of_own' hown hr8
  simp at hve
  obtain ⟨rfl, rfl⟩ := hve
  have HBy := Lib.hid hby
  have HS := Lib.hid hs
  have HRl := Lib.hid hR
  have HNil := Lib.hid hnil
  obtain ⟨A, B, C, D, E, F, G, H⟩ := s
  have HFacts : Hid (∀ w', Below w.heap.size w w' → w'.cell? ⟨g, 0, none⟩ = some (.int .u32 A) ∧ w'.cell? ⟨g, 1, none⟩ = some (.int .u32 B) ∧ w'.cell? ⟨g, 2, none⟩ = some (.int .u32 C) ∧ w'.cell? ⟨g, 3, none⟩ = some (.int .u32 D) ∧ w'.cell? ⟨g, 4, none⟩ = some (.int .u32 E) ∧ w'.cell? ⟨g, 5, none⟩ = some (.int .u32 F) ∧ w'.cell? ⟨g, 6, none⟩ = some (.int .u32 G) ∧ w'.cell? ⟨g, 7, none⟩ = some (.int .u32 H) ∧ w'.cell? ⟨g, 8, none⟩ = some (.slice va R vc) ∧ w'.cell? ⟨g, 9, none⟩ = some (.int .u64 (n : Int))) := Lib.hid (fun w' hb => by
    have h' : HasB w' g _ T := HasB.below hH hb (HasB.lt hH)
    exact ⟨h'.at 0, h'.at 1, h'.at 2, h'.at 3, h'.at 4, h'.at 5, h'.at 6, h'.at 7, h'.at 8, h'.at 9⟩)
  have HGl : Hid (g < w.heap.size) := Lib.hid (HasB.lt hH)
  clear hH hown hby hs hR hnil
  go_enter Try.func47, Try.ntmps47
  go_wp2_with fail
  obtain ⟨wa, hwa⟩ : ∃ wa, wa = w.alloc (.cells (u8s (List.replicate 32 0)).toArray 33) := ⟨_, rfl⟩
  have HAr : Hid (ArrB wa w.heap.size 33 (List.replicate 32 0)) := Lib.hid (by rw [hwa]; exact HasB.new _ _ _)
  have hba : Below w.heap.size w wa := by rw [hwa]; exact (Below.refl _ _).alloc (Nat.le_refl _) _
  have hsz : wa.heap.size = w.heap.size + 1 := by rw [hwa]; simp
  have e0 : w.alloc (.cells #[.int .u8 0, .int .u8 0, .int .u8 0, .int .u8 0, .int .u8 0, .int .u8 0, .int .u8 0, .int .u8 0, .int .u8 0, .int .u8 0, .int .u8 0, .int .u8 0, .int .u8 0, .int .u8 0, .int .u8 0, .int .u8 0, .int .u8 0, .int .u8 0, .int .u8 0, .int .u8 0, .int .u8 0, .int .u8 0, .int .u8 0, .int .u8 0, .int .u8 0, .int .u8 0, .int .u8 0, .int .u8 0, .int .u8 0, .int .u8 0, .int .u8 0, .int .u8 0] 33) = wa := by rw [hwa]; rfl
  rw [e0]
  have HBa0 := Lib.hid hba
  have HSz := Lib.hid hsz
  clear e0 hwa hba hsz
  have HF2 : Hid (∀ w', Below wa.heap.size wa w' → Below w.heap.size w w') := Lib.hid (fun w' h => HBa0.out.trans (h.mono HBa0.out.size))
  have k0 : ∀ w', Below wa.heap.size wa w' → w'.cell? ⟨g, 0, none⟩ = some (.int .u32 A) := fun w' h => (HFacts.out w' (HF2.out w' h)).1
  have k1 : ∀ w', Below wa.heap.size wa w' → w'.cell? ⟨g, 1, none⟩ = some (.int .u32 B) := fun w' h => (HFacts.out w' (HF2.out w' h)).2.1
  have k2 : ∀ w', Below wa.heap.size wa w' → w'.cell? ⟨g, 2, none⟩ = some (.int .u32 C) := fun w' h => (HFacts.out w' (HF2.out w' h)).2.2.1
  have k3 : ∀ w', Below wa.heap.size wa w' → w'.cell? ⟨g, 3, none⟩ = some (.int .u32 D) := fun w' h => (HFacts.out w' (HF2.out w' h)).2.2.2.1
  have k4 : ∀ w', Below wa.heap.size wa w' → w'.cell? ⟨g, 4, none⟩ = some (.int .u32 E) := fun w' h => (HFacts.out w' (HF2.out w' h)).2.2.2.2.1
  have k5 : ∀ w', Below wa.heap.size wa w' → w'.cell? ⟨g, 5, none⟩ = some (.int .u32 F) := fun w' h => (HFacts.out w' (HF2.out w' h)).2.2.2.2.2.1
  have k6 : ∀ w', Below wa.heap.size wa w' → w'.cell? ⟨g, 6, none⟩ = some (.int .u32 G) := fun w' h => (HFacts.out w' (HF2.out w' h)).2.2.2.2.2.2.1
  have k7 : ∀ w', Below wa.heap.size wa w' → w'.cell? ⟨g, 7, none⟩ = some (.int .u32 H) := fun w' h => (HFacts.out w' (HF2.out w' h)).2.2.2.2.2.2.2.1
  have k8 : ∀ w', Below wa.heap.size wa w' → w'.cell? ⟨g, 8, none⟩ = some (.slice va R vc) := fun w' h => (HFacts.out w' (HF2.out w' h)).2.2.2.2.2.2.2.2.1
  have k9 : ∀ w', Below wa.heap.size wa w' → w'.cell? ⟨g, 9, none⟩ = some (.int .u64 (n : Int)) := fun w' h => (HFacts.out w' (HF2.out w' h)).2.2.2.2.2.2.2.2.2
  have HBx : Hid (Below wa.heap.size wa (wa.drew.alloc (.cells #[] 5))) := Lib.hid ((Below.refl _ _).drew.alloc (Nat.le_refl _) _)
  have HE0 : Hid ((wa.drew.alloc (.cells #[] 5)).ownsRow wa.heap.size 5 1 (.slice (some ⟨wa.heap.size, 0, none⟩) 0 0) 0 (u8s [])) := Lib.hid (own_empty (w := wa.drew) (Nat.le_refl _))
  have HRy : Hid (Bytes (wa.drew.alloc (.cells #[] 5)) va R rest) := Lib.hid (HBy.out.below (HF2.out _ HBx.out) (Nat.le_refl _))
  have HBa : Hid (wa.heap.size ≤ (wa.drew.alloc (.cells #[] 5)).heap.size) := Lib.hid HBx.out.size
  refine wp_region_held_drew (S := (fun w' => Below wa.heap.size wa w')) (by kernel_rfl) ((Below.refl _ _).drew) (fun hHeld => ?_)
  refine held_take 0 (v := ?_) rfl (by kernel_rfl) (by kernel_rfl) (by kernel_rfl) (fun _ _ _ h => h) (by rfl) (fun w hS => ?_) (by assumption) ?_
  rotate_left
  · try dsimp only at hS
    go_simp <;> with_reducible rfl
  try simp only [Act.put, List.setIfInBounds_toArray, List.set_cons_zero, List.set_cons_succ]
  refine held_take 1 (v := ?_) rfl (by kernel_rfl) (by kernel_rfl) (by kernel_rfl) (fun _ _ _ h => h) (by rfl) (fun w hS => ?_) (by assumption) ?_
  rotate_left
  · try dsimp only at hS
    go_simp <;> with_reducible rfl
  try simp only [Act.put, List.setIfInBounds_toArray, List.set_cons_zero, List.set_cons_succ]
  refine held_take 2 (v := ?_) rfl (by kernel_rfl) (by kernel_rfl) (by kernel_rfl) (fun _ _ _ h => h) (by rfl) (fun w hS => ?_) (by assumption) ?_
  rotate_left
  · try dsimp only at hS
    go_simp <;> with_reducible rfl
  try simp only [Act.put, List.setIfInBounds_toArray, List.set_cons_zero, List.set_cons_succ]
  refine held_take 3 (v := ?_) rfl (by kernel_rfl) (by kernel_rfl) (by kernel_rfl) (fun _ _ _ h => h) (by rfl) (fun w hS => ?_) (by assumption) ?_
  rotate_left
  · try dsimp only at hS
    go_simp <;> with_reducible rfl
  try simp only [Act.put, List.setIfInBounds_toArray, List.set_cons_zero, List.set_cons_succ]
  refine held_take 5 (v := ?_) rfl (by kernel_rfl) (by kernel_rfl) (by kernel_rfl) (fun _ _ _ h => h) (by rfl) (fun w hS => ?_) (by assumption) ?_
  rotate_left
  · try dsimp only at hS
    go_simp <;> with_reducible rfl
  try simp only [Act.put, List.setIfInBounds_toArray, List.set_cons_zero, List.set_cons_succ]
  refine held_take 6 (v := ?_) rfl (by kernel_rfl) (by kernel_rfl) (by kernel_rfl) (fun _ _ _ h => h) (by rfl) (fun w hS => ?_) (by assumption) ?_
  rotate_left
  · try dsimp only at hS
    go_simp <;> with_reducible rfl
  try simp only [Act.put, List.setIfInBounds_toArray, List.set_cons_zero, List.set_cons_succ]
  refine held_take 7 (v := ?_) rfl (by kernel_rfl) (by kernel_rfl) (by kernel_rfl) (fun _ _ _ h => h) (by rfl) (fun w hS => ?_) (by assumption) ?_
  rotate_left
  · try dsimp only at hS
    go_simp <;> with_reducible rfl
  try simp only [Act.put, List.setIfInBounds_toArray, List.set_cons_zero, List.set_cons_succ]
  refine held_take 8 (v := ?_) rfl (by kernel_rfl) (by kernel_rfl) (by kernel_rfl) (fun _ _ _ h => h) (by rfl) (fun w hS => ?_) (by assumption) ?_
  rotate_left
  · try dsimp only at hS
    go_simp <;> with_reducible rfl
  try simp only [Act.put, List.setIfInBounds_toArray, List.set_cons_zero, List.set_cons_succ]
  refine held_take 10 (v := ?_) rfl (by kernel_rfl) (by kernel_rfl) (by kernel_rfl) (fun _ _ _ h => h) (by rfl) (fun w hS => ?_) (by assumption) ?_
  rotate_left
  · try dsimp only at hS
    go_simp <;> with_reducible rfl
  try simp only [Act.put, List.setIfInBounds_toArray, List.set_cons_zero, List.set_cons_succ]
  refine held_take 11 (v := ?_) rfl (by kernel_rfl) (by kernel_rfl) (by kernel_rfl) (fun _ _ _ h => h) (by rfl) (fun w hS => ?_) (by assumption) ?_
  rotate_left
  · try dsimp only at hS
    go_simp <;> with_reducible rfl
  try simp only [Act.put, List.setIfInBounds_toArray, List.set_cons_zero, List.set_cons_succ]
  refine held_take 12 (v := ?_) rfl (by kernel_rfl) (by kernel_rfl) (by kernel_rfl) (fun _ _ _ h => h) (by rfl) (fun w hS => ?_) (by assumption) ?_
  rotate_left
  · try dsimp only at hS
    go_simp <;> with_reducible rfl
  try simp only [Act.put, List.setIfInBounds_toArray, List.set_cons_zero, List.set_cons_succ]
  refine held_take 13 (v := ?_) rfl (by kernel_rfl) (by kernel_rfl) (by kernel_rfl) (fun _ _ _ h => h) (by rfl) (fun w hS => ?_) (by assumption) ?_
  rotate_left
  · try dsimp only at hS
    go_simp <;> with_reducible rfl
  try simp only [Act.put, List.setIfInBounds_toArray, List.set_cons_zero, List.set_cons_succ]
  refine held_one 4 rfl (by kernel_rfl) (fun K hK => ?_)
  go_simp
  refine hK.out _ _ (fun w' => Below wa.heap.size wa w') (fun _ h => h) HBx.out (fun hHeld => ?_)
  clear hK K
  try simp only [Act.put, List.setIfInBounds_toArray, List.set_cons_zero, List.set_cons_succ]
  refine held_one 9 rfl (by kernel_rfl) (fun K hK => ?_)
  refine step_app_u8 rfl (.tmp 14) (.tmp 18) 50 rfl wa.heap.size 5 Try.underlying50 (by kernel_rfl) (.slice (some ⟨wa.heap.size, 0, none⟩) 0 0) 0 [] rfl HE0.out va R vc rest rfl HRy.out HNil.out (by omega) HBa.out ?_
  intro v2 w2 hown2 hgrow2
  rw [Nat.zero_add, List.nil_append] at hown2
  obtain ⟨a2, cp2, rfl⟩ := own_form hown2
  have hS2 : Below wa.heap.size wa w2 := HBx.out.grown hgrow2 (by simp) (fun k hk => by simp [Value.ownBlock] at hk; omega)
  have HOwn2 := Lib.hid hown2
  have HS2 := Lib.hid hS2
  refine hK.out _ _ (fun w' => Below wa.heap.size wa w') (fun _ h => h) hS2 (fun hHeld => ?_)
  clear hK K
  try simp only [Act.put, List.setIfInBounds_toArray, List.set_cons_zero, List.set_cons_succ]
  refine held_take 14 (v := ?_) rfl (by kernel_rfl) (by kernel_rfl) (by kernel_rfl) (fun _ _ _ h => h) (by rfl) (fun w hS => ?_) (by assumption) ?_
  rotate_left
  · try dsimp only at hS
    go_simp <;> with_reducible rfl
  try simp only [Act.put, List.setIfInBounds_toArray, List.set_cons_zero, List.set_cons_succ]
  refine held_one 15 rfl (by kernel_rfl) (fun K hK => ?_)
  go_simp
  refine hK.out _ _ (fun w' => Below wa.heap.size wa w') (fun _ h => h) (HS2.out.alloc HS2.out.size _) (fun hHeld => ?_)
  clear hK K
  try simp only [Act.put, List.setIfInBounds_toArray, List.set_cons_zero, List.set_cons_succ]
  refine held_take 16 (v := ?_) rfl (by kernel_rfl) (by kernel_rfl) (by kernel_rfl) (fun _ _ _ h => h) (by rfl) (fun w hS => ?_) (by assumption) ?_
  rotate_left
  · try dsimp only at hS
    go_simp <;> with_reducible rfl
  try simp only [Act.put, List.setIfInBounds_toArray, List.set_cons_zero, List.set_cons_succ]
  refine held_done (by kernel_rfl) ?_
  clear k0 k1 k2 k3 k4 k5 k6 k7 k8 k9 HBx HE0 HRy HBa
  have hb2 := HF2.out _ HS2.out
  obtain ⟨gy, hgy⟩ : ∃ gy, gy = w2.heap.size := ⟨_, rfl⟩
  obtain ⟨w3, hw3⟩ : ∃ w3, w3 = w2.alloc (.cells #[.int .u32 A, .int .u32 B, .int .u32 C, .int .u32 D, .int .u32 E, .int .u32 F, .int .u32 G, .int .u32 H, .slice a2 R cp2, .int .u64 (n : Int)] 107) := ⟨_, rfl⟩
  have hHy : HeadU w3 gy 107 (St.list ⟨A, B, C, D, E, F, G, H⟩) [.slice a2 R cp2, .int .u64 (n : Int)] := by rw [hw3, hgy]; exact HasB.new _ _ _
  have hb3 : Below w.heap.size w w3 := by rw [hw3]; exact hb2.alloc hb2.size _
  have ho3 : w3.ownsRow wa.heap.size 5 1 (.slice a2 R cp2) R (u8s rest) := by rw [hw3]; exact own_below HOwn2.out ((Below.refl _ _).alloc (Nat.le_refl _) _) (Nat.le_refl _)
  have ha3 : ArrB w3 w.heap.size 33 (List.replicate 32 0) := by
    rw [hw3]
    exact HasB.alloc (HasB.below HAr.out HS2.out (by have := HSz.out; omega)) _
  have hgl : w.heap.size < gy := by have := HS2.out.size; have := HSz.out; omega
  have hgl3 : gy < w3.heap.size := by rw [hw3, hgy]; simp
  rw [← hgy, ← hw3]
  have HHy := Lib.hid hHy
  have HB3 := Lib.hid hb3
  have HO3 := Lib.hid ho3
  have HA3 := Lib.hid ha3
  have c8 : w3.cell? ⟨gy, 8, none⟩ = some (.slice a2 R cp2) := hHy.tail 0
  have c8a : ∀ C' : Array Value, (w3.alloc (.cells C' 5)).cell? ⟨gy, 8, none⟩ = some (.slice a2 R cp2) := fun C' => HeadU.tail (HasB.alloc hHy _) 0
  obtain ⟨m, hm⟩ : ∃ m, m = (119 - R) % 64 := ⟨_, rfl⟩
  have t1 : ((119 : Int) - (R : Int)) % 64 = (m : Int) := by omega
  have t1' : ((119 : Int) - (R : Int)).tmod 64 = (m : Int) := by rw [Int.tmod_eq_emod_of_nonneg (by omega)]; omega
  have t2 : (R : Int) < 64 := by omega
  have hm64 : m < 64 := by omega
  have HM := Lib.hid hm
  clear hHy hb3 ho3 ha3 hw3 hgy hm HS2 HOwn2 HAr hb2
  go_wp2_with (at_builtin; refine Stop.mk ?_)
  refine Stop.go ?_
  refine wpList_app_zeros rfl (.tmp 26) (.tmp 33) 50 3 rfl w3.heap.size 5 .i64 Try.underlying50 Try.underlying3 (by kernel_rfl) (.slice (some ⟨w3.heap.size, 0, none⟩) 1 1) 1 [128] rfl (World.ownsRow_lit (e := 5) (base := w3.heap.size) (size := 1) w3 #[.int .u8 128] 1 (Nat.le_refl _) (by decide) (by simp)) m rfl (by omega) (by simp) ?_
  intro v5 w5 hown5 hgrow5
  have hb5 : Below w3.heap.size w3 w5 := ((Below.refl _ _).alloc (Nat.le_refl _) _).grown hgrow5 (by simp) (fun k hk => by simp [Value.ownBlock] at hk; omega)
  have HP5 : Hid (w5.ownsRow w3.heap.size 5 1 v5 (1 + m + 0) (u8s (128 :: List.replicate m 0 ++ be8 n 0))) := Lib.hid (by
    have : (128 :: List.replicate m 0 ++ be8 n 0) = [128] ++ List.replicate m 0 := by simp [be8]
    rw [this]; exact hown5)
  have HB5 := Lib.hid hb5
  have HZ : Hid (∀ x ∈ (128 :: List.replicate m 0 ++ be8 n 8), x < 256) := Lib.hid (fun x hx => by
    rcases List.mem_append.1 hx with q | q
    · rcases List.mem_cons.1 q with q | q
      · omega
      · have := List.eq_of_mem_replicate q; omega
    · exact be8_lt n 8 x q)
  obtain ⟨a5, cp5, rfl⟩ := own_form hown5
  have tn : (n : Int) ≤ 100000000 := by omega
  clear hown5 hgrow5 hb5 c8 c8a
  go_wp2_with fail
  go_loopw [4, 35] (fun x i wr => ∃ (k : Nat) (v : Value), k ≤ 8 ∧ i = .int .i64 (k : Int) ∧ x = v ∧ Hid (wr.ownsRow w3.heap.size 5 1 v (1 + m + k) (u8s (128 :: List.replicate m 0 ++ be8 n k))) ∧ Hid (Below w3.heap.size w3 wr)) (fun _ i _ => 8 - (intOf i).toNat)
  case atStart => exact ⟨0, _, by omega, rfl, rfl, HP5, HB5⟩
  case round =>
    clear HP5 HB5
    obtain ⟨k, v, hk, rfl, rfl, HP, HBk⟩ := hrel
    obtain ⟨wo, rfl⟩ : ∃ wo : World, wo = wr := ⟨_, rfl⟩
    have HBw : Hid (Below w.heap.size w wo) := Lib.hid (HB3.out.trans (HBk.out.mono HB3.out.size))
    by_cases hlt : k < 8
    · have c9 := (HFacts.out _ HBw.out).2.2.2.2.2.2.2.2.2
      obtain ⟨a6, cp6, rfl⟩ := own_form HP.out
      obtain ⟨sh, hsh⟩ : ∃ sh, sh = 56 - 8 * k := ⟨_, rfl⟩
      have t3 : (k : Int) < 8 := by omega
      have t4 : (56 : Int) - 8 * (k : Int) = (sh : Int) := by omega
      have t5 : sh ≤ 56 := by omega
      have hv : ((n : Int) * 8) / 2 ^ sh % 256 = ((byteAt n k : Nat) : Int) := by
        unfold byteAt
        rw [← hsh, show (n : Int) * 8 = ((8 * n : Nat) : Int) by omega]
        simp
      have hbl : byteAt n k < 256 := Nat.mod_lt _ (by omega)
      obtain ⟨z, hz⟩ : ∃ z, z = byteAt n k := ⟨_, rfl⟩
      have HN : Hid (∀ (v : Value) (w' : World), w'.ownsRow w3.heap.size 5 1 v (1 + m + k + 1) (u8s ((128 :: List.replicate m 0 ++ be8 n k) ++ [z])) → w'.ownsRow w3.heap.size 5 1 v (1 + m + (k + 1)) (u8s (128 :: List.replicate m 0 ++ be8 n (k + 1)))) := Lib.hid (fun v w' h => by
        rw [be8, ← hz, ← List.append_assoc]
        exact h)
      rw [← hz] at hv hbl
      have HPk := Lib.hid HP.out
      have hszo : w3.heap.size ≤ wo.heap.size := HBk.out.size
      clear hsh hz
      go_wp2_with (at_builtin; refine Stop.mk ?_)
      refine Stop.go ?_
      refine wpList_app_u8 rfl (.tmp 38) (.tmp 49) 50 rfl w3.heap.size 5 Try.underlying50 (by kernel_rfl) (.slice a6 (1 + m + k) cp6) (1 + m + k) _ rfl (own_below HPk.out ((Below.refl _ _).alloc (Nat.le_refl _) _) (Nat.le_refl _)) (some ⟨wo.heap.size, 0, none⟩) 1 1 [z] rfl (bytes_lit1 hbl) (by simp) (by omega) (by simp; omega) ?_
      intro v7 w7 hown7 hgrow7
      have HN7 := Lib.hid (HN.out v7 w7 hown7)
      have HB7 : Hid (Below w3.heap.size w3 w7) := Lib.hid ((HBk.out.alloc hszo _).grown hgrow7 (by simp; omega) (fun q hq => (HPk.out.lt q hq).1))
      clear hown7 hgrow7
      go_wp2_with fail
      go_roundw
      case rel => exact ⟨k + 1, v7, by omega, by go_num, rfl, HN7, HB7⟩
      case measure => simp [intOf]; omega
    · have hP8 := HP.out
      rw [show k = 8 by omega] at hP8
      have HP8 := Lib.hid hP8
      have hHy' : HeadU wo gy 107 (St.list ⟨A, B, C, D, E, F, G, H⟩) [.slice a2 R cp2, .int .u64 (n : Int)] := HasB.below HHy.out HBk.out hgl3
      have hO' := own_below HO3.out HBk.out (Nat.le_refl _)
      have hA' : ArrB wo w.heap.size 33 (List.replicate 32 0) := HasB.below HA3.out HBk.out (by omega)
      obtain ⟨a8, cp8, hve8, hy8⟩ := bytes_of_own' HP8.out HZ.out
      subst hve8
      have hnil8 : a8 = none → cp8 = 0 := by
        intro q
        obtain ⟨g9, c9, h9⟩ := own_shape HP8.out (by omega)
        simp at h9
        rw [h9.1] at q; cases q
      have hne8 : ∀ ad, a8 = some ad → ad.block ≠ gy := by
        intro ad had q
        have := own_ne HP8.out hHy' (by decide)
        rw [had] at this
        simp [Value.ownBlock, q] at this
      have hMid : MidW wo wa.heap.size gy 107 ⟨A, B, C, D, E, F, G, H⟩ rest n [] := ⟨_, hHy', by rw [← HRl.out]; exact hO'⟩
      have HMid := Lib.hid hMid
      have HA8 := Lib.hid hA'
      have HY8 := Lib.hid hy8
      have HNil8 := Lib.hid hnil8
      have HNe8 := Lib.hid hne8
      have HPad : Hid (128 :: List.replicate m 0 ++ be8 n 8 = padS rest.length n) := Lib.hid (by unfold padS; rw [HM.out, HRl.out])
      have hlr : R = rest.length := HRl.out
      have t3 : ¬ ((k : Int) < 8) := by omega
      clear hHy' hO' hA' hy8 hnil8 hne8 hMid hlt hk hP8
      go_wp2_with fail
      have hsz1 : wa.heap.size = w.heap.size + 1 := HSz.out
      have hszo : w3.heap.size ≤ wo.heap.size := HBk.out.size
      refine (add_any wa.heap.size gy 107 (by decide) ⟨A, B, C, D, E, F, G, H⟩ rest n [] a8 (1 + m + 8) cp8 _ _ HS.out HMid.out (by omega) (by omega) hr8 HY8.out HNil8.out (fun _ => HNe8.out) (by omega) (by omega) hn).mono ?_
      rintro e w9 ⟨rfl, ⟨v9, hH9, hO9⟩, hB9, _⟩
      rw [HPad.out] at hH9
      obtain ⟨u, hu⟩ : ∃ u, u = runB ⟨A, B, C, D, E, F, G, H⟩ (rest ++ padS rest.length n) := ⟨_, rfl⟩
      have hEnd : endS ⟨A, B, C, D, E, F, G, H⟩ rest n = outS u := by unfold endS; rw [hu]
      have huU := St.list_in (s := u) (by rw [hu]; exact runB_ok HS.out _)
      rw [← hu] at hH9
      have hA9 : ArrB w9 w.heap.size 33 (List.replicate 32 0) := HasB.below HA8.out hB9 (by omega)
      have hB9' : Below w.heap.size w w9 := HBw.out.trans (hB9.mono (by omega))
      have g0 : w9.cell? ⟨gy, 0, none⟩ = some (.int .u32 u.a) := hH9.at 0 (show (0 : Nat) < 8 by decide)
      have g1 : w9.cell? ⟨gy, 1, none⟩ = some (.int .u32 u.b) := hH9.at 1 (show (1 : Nat) < 8 by decide)
      have g2 : w9.cell? ⟨gy, 2, none⟩ = some (.int .u32 u.c) := hH9.at 2 (show (2 : Nat) < 8 by decide)
      have g3 : w9.cell? ⟨gy, 3, none⟩ = some (.int .u32 u.d) := hH9.at 3 (show (3 : Nat) < 8 by decide)
      have g4 : w9.cell? ⟨gy, 4, none⟩ = some (.int .u32 u.e) := hH9.at 4 (show (4 : Nat) < 8 by decide)
      have g5 : w9.cell? ⟨gy, 5, none⟩ = some (.int .u32 u.f) := hH9.at 5 (show (5 : Nat) < 8 by decide)
      have g6 : w9.cell? ⟨gy, 6, none⟩ = some (.int .u32 u.g) := hH9.at 6 (show (6 : Nat) < 8 by decide)
      have g7 : w9.cell? ⟨gy, 7, none⟩ = some (.int .u32 u.h) := hH9.at 7 (show (7 : Nat) < 8 by decide)
      have hgy9 : gy < w9.heap.size := HasB.lt hH9
      have k0 : ∀ Z, (w9.alloc (.cells Z 33)).cell? ⟨gy, 0, none⟩ = some (.int .u32 u.a) := fun Z => HeadU.at (HasB.alloc hH9 _) 0 (show (0 : Nat) < 8 by decide)
      have k1 : ∀ Z, (w9.alloc (.cells Z 33)).cell? ⟨gy, 1, none⟩ = some (.int .u32 u.b) := fun Z => HeadU.at (HasB.alloc hH9 _) 1 (show (1 : Nat) < 8 by decide)
      have k2 : ∀ Z, (w9.alloc (.cells Z 33)).cell? ⟨gy, 2, none⟩ = some (.int .u32 u.c) := fun Z => HeadU.at (HasB.alloc hH9 _) 2 (show (2 : Nat) < 8 by decide)
      have k3 : ∀ Z, (w9.alloc (.cells Z 33)).cell? ⟨gy, 3, none⟩ = some (.int .u32 u.d) := fun Z => HeadU.at (HasB.alloc hH9 _) 3 (show (3 : Nat) < 8 by decide)
      have k4 : ∀ Z, (w9.alloc (.cells Z 33)).cell? ⟨gy, 4, none⟩ = some (.int .u32 u.e) := fun Z => HeadU.at (HasB.alloc hH9 _) 4 (show (4 : Nat) < 8 by decide)
      have k5 : ∀ Z, (w9.alloc (.cells Z 33)).cell? ⟨gy, 5, none⟩ = some (.int .u32 u.f) := fun Z => HeadU.at (HasB.alloc hH9 _) 5 (show (5 : Nat) < 8 by decide)
      have k6 : ∀ Z, (w9.alloc (.cells Z 33)).cell? ⟨gy, 6, none⟩ = some (.int .u32 u.g) := fun Z => HeadU.at (HasB.alloc hH9 _) 6 (show (6 : Nat) < 8 by decide)
      have k7 : ∀ Z, (w9.alloc (.cells Z 33)).cell? ⟨gy, 7, none⟩ = some (.int .u32 u.h) := fun Z => HeadU.at (HasB.alloc hH9 _) 7 (show (7 : Nat) < 8 by decide)
      have HEnd := Lib.hid hEnd
      have HUU := Lib.hid huU
      have HA9 := Lib.hid hA9
      have HB9 := Lib.hid hB9'
      clear hH9 hO9 hB9 hu hEnd huU hA9 hB9' g0 g1 g2 g3 g4 g5 g6 g7
      go_wp2_with fail
      obtain ⟨gb, hgb⟩ : ∃ gb, gb = w9.heap.size := ⟨_, rfl⟩
      have HOut0 : Hid (OutW w (w9.alloc (.cells #[.int .u8 0, .int .u8 0, .int .u8 0, .int .u8 0, .int .u8 0, .int .u8 0, .int .u8 0, .int .u8 0, .int .u8 0, .int .u8 0, .int .u8 0, .int .u8 0, .int .u8 0, .int .u8 0, .int .u8 0, .int .u8 0, .int .u8 0, .int .u8 0, .int .u8 0, .int .u8 0, .int .u8 0, .int .u8 0, .int .u8 0, .int .u8 0, .int .u8 0, .int .u8 0, .int .u8 0, .int .u8 0, .int .u8 0, .int .u8 0, .int .u8 0, .int .u8 0] 33)) gb u 0) := Lib.hid (by
        have e0 : (#[.int .u8 0, .int .u8 0, .int .u8 0, .int .u8 0, .int .u8 0, .int .u8 0, .int .u8 0, .int .u8 0, .int .u8 0, .int .u8 0, .int .u8 0, .int .u8 0, .int .u8 0, .int .u8 0, .int .u8 0, .int .u8 0, .int .u8 0, .int .u8 0, .int .u8 0, .int .u8 0, .int .u8 0, .int .u8 0, .int .u8 0, .int .u8 0, .int .u8 0, .int .u8 0, .int .u8 0, .int .u8 0, .int .u8 0, .int .u8 0, .int .u8 0, .int .u8 0] : Array Value) = (u8s (List.replicate 32 0)).toArray := rfl
        rw [e0, hgb]
        exact ⟨HasB.alloc HA9.out _, HasB.new _ _ _, HB9.out.alloc HB9.out.size _, HasB.lt HA9.out⟩)
      rw [← hgb]
      clear hgb k0 k1 k2 k3 k4 k5 k6 k7
      go_wp2_with fail
      go_loopw [59] (fun i wr => ∃ i4 : Nat, i4 ≤ 8 ∧ i = .int .i64 (i4 : Int) ∧ Hid (OutW w wr gb u (4 * i4))) (fun i _ => 8 - (intOf i).toNat)
      case atStart => exact ⟨0, by omega, rfl, HOut0⟩
      case round =>
        clear HOut0
        obtain ⟨i4, hi4, rfl, HOu⟩ := hrel
        obtain ⟨wx, rfl⟩ : ∃ wx : World, wx = wr := ⟨_, rfl⟩
        by_cases hlt4 : i4 < 8
        · have t6 : decide ((i4 : Int) < 8) = true := by simp; omega
          have t6' : (i4 : Int) < 8 := by omega
          obtain ⟨zi, hzi⟩ : ∃ z, z = u.list.getD i4 0 := ⟨_, rfl⟩
          have hziU := HUU.out.at i4
          rw [← hzi] at hziU
          have hidx : ∀ w, (Instr.index 100 (.agg #[.int .u32 u.a, .int .u32 u.b, .int .u32 u.c, .int .u32 u.d, .int .u32 u.e, .int .u32 u.f, .int .u32 u.g, .int .u32 u.h]) (.int .i64 (i4 : Int))).run Try.prog w = .ok (.int .u32 zi) w := fun w => index_arr 100 23 8 _ .i64 i4 _ Try.underlying100 (fun _ => by kernel_rfl) (fun _ => by kernel_rfl) hlt4 (by
            have := cells_get u i4 hlt4
            rw [hzi]; exact this)
          have HZi := Lib.hid hzi
          clear hzi
          go_wp2_with fail
          go_loopw [63] (fun i wr => ∃ k4 : Nat, k4 ≤ 4 ∧ i = .int .i64 (k4 : Int) ∧ Hid (OutW w wr gb u (4 * i4 + k4))) (fun i _ => 4 - (intOf i).toNat)
          case atStart => exact ⟨0, by omega, rfl, HOu⟩
          case round =>
            clear HOu
            obtain ⟨k4, hk4, rfl, HOk⟩ := hrel
            obtain ⟨wy, rfl⟩ : ∃ wy : World, wy = wr := ⟨_, rfl⟩
            by_cases hltk : k4 < 4
            · obtain ⟨M, hM⟩ : ∃ M, M = 4 * i4 + k4 := ⟨_, rfl⟩
              obtain ⟨sh, hsh⟩ : ∃ sh, sh = 24 - 8 * k4 := ⟨_, rfl⟩
              have t7 : (k4 : Int) < 4 := by omega
              have t8 : (4 : Int) * (i4 : Int) + (k4 : Int) = (M : Int) := by omega
              have t9 : (24 : Int) - 8 * (k4 : Int) = (sh : Int) := by omega
              have t10 : sh ≤ 24 := by omega
              have t11 : (M : Int) < 32 := by omega
              have t12 : (0 : Int) ≤ (M : Int) := by omega
              obtain ⟨z, hz⟩ : ∃ z, z = outB u M := ⟨_, rfl⟩
              have hzv : zi / 2 ^ sh % 256 = (z : Int) := by
                rw [hz, outB, show M / 4 = i4 by omega, show M % 4 = k4 by omega, ← HZi.out, ← hsh]
                have : 0 ≤ zi / 2 ^ sh % 256 := by omega
                omega
              have hzl : z < 256 := by omega
              rw [← hM] at HOk
              have hcl := HOk.out.2.1.at M (by rw [outTo_len _ _ (by omega)]; omega)
              have hfr := HasB.free HOk.out.2.1 M
              have HN := Lib.hid (HOk.out.put (by omega))
              rw [← hz, show M + 1 = 4 * i4 + (k4 + 1) by omega] at HN
              clear hM hsh hz
              go_wp2_with fail
              go_roundw
              case rel => exact ⟨k4 + 1, by omega, by go_num, HN⟩
              case measure => simp [intOf]; omega
            · have HN : Hid (OutW w wy gb u (4 * (i4 + 1))) := Lib.hid (by
                have := HOk.out
                rw [show k4 = 4 by omega] at this
                exact this)
              have t7 : ¬ ((k4 : Int) < 4) := by omega
              clear HOk hltk hk4
              go_wp2_with fail
              go_roundw
              case rel => exact ⟨i4 + 1, by omega, by go_num, HN⟩
              case measure => simp [intOf]; omega
        · have HOu8 : Hid (OutW w wx gb u 32) := Lib.hid (by
            have := HOu.out
            rw [show i4 = 8 by omega] at this
            exact this)
          have t6 : ¬ ((i4 : Int) < 8) := by omega
          clear HOu hlt4 hi4
          obtain ⟨q1, q2, q3, q4⟩ := HOu8.out
          rw [outTo_all] at q2
          obtain ⟨Cw, hC⟩ : ∃ Cw, Cw = (u8s (outS u)).toArray := ⟨_, rfl⟩
          have hCs : Cw.size = 32 := by rw [hC]; simp [u8s_len, outS_len]
          have hi : (Try.prog.info? 33).map (·.size) = some Cw.size := by rw [hCs]; exact info_s32
          have hone : Cw.all (·.oneCell') = true := by
            rw [hC]
            simp only [List.all_toArray, List.all_eq_true]
            exact u8s_one _
          unfold ArrB at q1 q2
          rw [← hC] at q2
          have HCw := Lib.hid hC
          have HQ1 : Hid (wx.heap[w.heap.size]? = some (.cells (u8s (List.replicate 32 0)).toArray 33 (0, 0))) := Lib.hid q1
          have HQ2 : Hid (wx.heap[gb]? = some (.cells Cw 33 (0, 0))) := Lib.hid q2
          have HI := Lib.hid hi
          have HOne := Lib.hid hone
          have HOld : Hid ((u8s (List.replicate 32 0)).toArray.size = Cw.size) := Lib.hid (by rw [hCs]; rfl)
          have HSet : Hid ((wx.setRow w.heap.size Cw).heap[w.heap.size]? = some (.cells Cw 33 (0, 0)) ∧ Below w.heap.size w (wx.setRow w.heap.size Cw)) := Lib.hid ⟨setRow_heap wx w.heap.size _ Cw 33 (0, 0) q1, below_setRow q3 (Nat.le_refl _) Cw⟩
          clear q1 q2 q3 hC hCs hi hone
          go_wp2_with (first | (with_reducible refine wpList_load_row rfl 33 (.tmp 6) rfl gb rfl 33 Cw (0, 0) _ HQ2.out Try.underlying33 rfl HI.out ?_) | (with_reducible refine wpList_store_row rfl 33 (.tmp 2) (.tmp 79) rfl w.heap.size Cw rfl rfl 33 _ HQ1.out HI.out HOld.out HOne.out ?_))
          rw [HEnd.out, ← HCw.out]
          exact bodyPost_ret (results_cell_row (p := 2) (by kernel_rfl) _ _ w.heap.size 33 Cw (0, 0) _ rfl HSet.out.1 Try.underlying33 rfl HI.out) rfl ⟨rfl, HSet.out.2⟩

end Go.Proofs.Ytkdjimcpdbpemaa
