/- rpa: the area in memory; State, there: the walks. -/
import Derived.Test.YtkdjimcpdbpemaaRpaE
import Derived.Test.YtkdjimcpdbpemaaMut
namespace Go.Proofs.Ytkdjimcpdbpemaa
open Go Go.RowKit
set_option linter.unusedVariables false

/-- The area in memory. -/
def AreaAt (w : World) (g : Nat) (A : RA) : Prop := HasB w g A.cells.toArray 69
theorem AreaAt.lt {w : World} {g : Nat} {A : RA} (h : AreaAt w g A) : g < w.heap.size := HasB.lt h
theorem AreaAt.below {w w' : World} {g : Nat} {A : RA} (h : AreaAt w g A) (hb : Below w.heap.size w w') : AreaAt w' g A := HasB.below h hb h.lt
theorem RA.split (A : RA) : A.cells = [.int .i64 A.places] ++ (u8s A.s.key ++ ([.bool A.s.has] ++ ([.int .u32 (A.s.ctr : Int)] ++ ([A.now.val] ++ ([A.last.val] ++ A.step.cells))))) := by simp [RA.cells, RS.cells]
theorem AreaAt.places {w : World} {g : Nat} {A : RA} (h : AreaAt w g A) : w.cell? ⟨g, 0, none⟩ = some (.int .i64 A.places) := by
  have h' : HasB w g ([] ++ ([Value.int .i64 A.places] ++ (A.s.cells ++ ([A.now.val, A.last.val] ++ A.step.cells)))).toArray 69 := h
  exact h'.cell1 rfl
theorem AreaAt.key {w : World} {g : Nat} {A : RA} (h : AreaAt w g A) : w.rangeAt g 1 (u8s A.s.key) := by
  unfold AreaAt at h; rw [A.split] at h
  exact h.range3 rfl
theorem AreaAt.has {w : World} {g : Nat} {A : RA} (h : AreaAt w g A) (hA : A.Ok) : w.cell? ⟨g, 33, none⟩ = some (.bool A.s.has) := by
  unfold AreaAt at h; rw [A.split, ← List.append_assoc] at h
  exact h.cell1 (by simp [u8s_len, hA.s.kl])
theorem AreaAt.ctr {w : World} {g : Nat} {A : RA} (h : AreaAt w g A) (hA : A.Ok) : w.cell? ⟨g, 34, none⟩ = some (.int .u32 (A.s.ctr : Int)) := by
  unfold AreaAt at h; rw [A.split, ← List.append_assoc, ← List.append_assoc] at h
  exact h.cell1 (by simp [u8s_len, hA.s.kl])
theorem AreaAt.now {w : World} {g : Nat} {A : RA} (h : AreaAt w g A) (hA : A.Ok) : w.cell? ⟨g, 35, none⟩ = some A.now.val := by
  unfold AreaAt at h; rw [A.split, ← List.append_assoc, ← List.append_assoc, ← List.append_assoc] at h
  exact h.cell1 (by simp [u8s_len, hA.s.kl])
theorem AreaAt.last {w : World} {g : Nat} {A : RA} (h : AreaAt w g A) (hA : A.Ok) : w.cell? ⟨g, 36, none⟩ = some A.last.val := by
  unfold AreaAt at h; rw [A.split, ← List.append_assoc, ← List.append_assoc, ← List.append_assoc, ← List.append_assoc] at h
  exact h.cell1 (by simp [u8s_len, hA.s.kl])
theorem AreaAt.state {w : World} {g : Nat} {A : RA} (h : AreaAt w g A) : w.rangeAt g 1 A.s.cells := by
  unfold AreaAt RA.cells at h
  exact h.range3 rfl
theorem RA.split5 (A : RA) : A.cells = ([.int .i64 A.places] ++ (A.s.cells ++ [A.now.val, A.last.val])) ++ (A.step.cells ++ []) := by simp [RA.cells]
theorem AreaAt.step {w : World} {g : Nat} {A : RA} (h : AreaAt w g A) (hA : A.Ok) : w.rangeAt g 37 A.step.cells := by
  unfold AreaAt at h; rw [A.split5] at h
  exact h.range3 (by simp [RS.len hA.s])
theorem AreaAt.there {w : World} {g : Nat} {A : RA} (h : AreaAt w g A) (hA : A.Ok) {o n : Nat} (hl : o + n ≤ 104) : w.there g o n := HasB.there h (by rw [RA.len hA]; exact hl)
theorem AreaAt.free {w : World} {g : Nat} {A : RA} (h : AreaAt w g A) (i : Nat) : w.frozen? ⟨g, i, none⟩ = false := HasB.free h i
theorem AreaAt.putStep {w : World} {g : Nat} {A : RA} (h : AreaAt w g A) (hA : A.Ok) {p : RP} (hp : p.Ok) : AreaAt (w.setCells g 37 p.cells) g { A with step := p } := by
  unfold AreaAt at h ⊢; rw [A.split5] at h; rw [RA.split5]
  exact h.put3 (by simp [RS.len hA.s]) _ (by rw [RP.len hp, RP.len hA.step])
theorem AreaAt.putNow {w : World} {g : Nat} {A : RA} (h : AreaAt w g A) (hA : A.Ok) (n : RN) : AreaAt (w.setCell ⟨g, 35, none⟩ n.val) g { A with now := n } := by
  have e : ∀ B : RA, B.cells = ([.int .i64 B.places] ++ B.s.cells) ++ ([B.now.val] ++ ([B.last.val] ++ B.step.cells)) := fun B => by simp [RA.cells]
  unfold AreaAt at h ⊢; rw [e] at h; rw [e]
  exact h.put1 (by simp [RS.len hA.s]) _
theorem AreaAt.putLast {w : World} {g : Nat} {A : RA} (h : AreaAt w g A) (hA : A.Ok) (n : RN) : AreaAt (w.setCell ⟨g, 36, none⟩ n.val) g { A with last := n } := by
  have e : ∀ B : RA, B.cells = ([.int .i64 B.places] ++ (B.s.cells ++ [B.now.val])) ++ ([B.last.val] ++ B.step.cells) := fun B => by simp [RA.cells]
  unfold AreaAt at h ⊢; rw [e] at h; rw [e]
  exact h.put1 (by simp [RS.len hA.s]) _
theorem AreaAt.putHas {w : World} {g : Nat} {A : RA} (h : AreaAt w g A) (hA : A.Ok) (b : Bool) : AreaAt (w.setCell ⟨g, 33, none⟩ (.bool b)) g { A with s := { A.s with has := b } } := by
  unfold AreaAt at h ⊢; rw [A.split, ← List.append_assoc] at h; rw [RA.split, ← List.append_assoc]
  exact h.put1 (by simp [u8s_len, hA.s.kl]) _
theorem AreaAt.putCtr {w : World} {g : Nat} {A : RA} (h : AreaAt w g A) (hA : A.Ok) (c : Nat) : AreaAt (w.setCell ⟨g, 34, none⟩ (.int .u32 (c : Int))) g { A with s := { A.s with ctr := c } } := by
  unfold AreaAt at h ⊢; rw [A.split, ← List.append_assoc, ← List.append_assoc] at h; rw [RA.split, ← List.append_assoc, ← List.append_assoc]
  exact h.put1 (by simp [u8s_len, hA.s.kl]) _
theorem AreaAt.putKey {w : World} {g : Nat} {A : RA} (h : AreaAt w g A) (hA : A.Ok) (k : List Nat) (hk : k.length = 32) : AreaAt (w.setCells g 1 (u8s k)) g { A with s := { A.s with key := k } } := by
  unfold AreaAt at h ⊢; rw [A.split] at h; rw [RA.split]
  exact h.put3 rfl _ (by rw [u8s_len, u8s_len, hk, hA.s.kl])

theorem info_st : (Try.prog.info? 31).map (·.size) = some 34 := by kernel_rfl
theorem info_sp : (Try.prog.info? 43).map (·.size) = some 67 := by kernel_rfl
theorem RS.one (s : RS) : s.cells.toArray.all (·.oneCell') = true := by
  apply all_oneCell_toArray
  intro v hv
  simp only [RS.cells, List.mem_append] at hv
  rcases hv with q | q
  · exact u8s_one _ v q
  · simp at q
    rcases q with rfl | rfl <;> rfl
theorem RP.one (p : RP) : p.cells.toArray.all (·.oneCell') = true := by
  apply all_oneCell_toArray
  intro v hv
  simp only [RP.cells, List.mem_append] at hv
  rcases hv with q | q
  · simp at q
    rcases q with rfl | rfl | rfl <;> rfl
  · exact u8s_one _ v q

set_option maxRecDepth 100000 in
set_option maxHeartbeats 4000000 in
theorem state_any (A : RA) (g : Nat) (w : World) (h : AreaAt w g A) (hA : A.Ok) :
    Calls Try.prog 10 #[.pointer (some ⟨g, 0, none⟩)] w fun e w' => e = .returned A.s.val ∧ Below w.heap.size w w' := by
  obtain ⟨POST, hPOST⟩ : ∃ Q : Ending → World → Prop, Q = fun e w' => e = .returned A.s.val ∧ Below w.heap.size w w' := ⟨_, rfl⟩
  rw [← hPOST]
  unfold RS.val at hPOST
  obtain ⟨C, hC⟩ : ∃ C, C = A.s.cells := ⟨_, rfl⟩
  have hl : C.length = 34 := by rw [hC]; exact RS.len hA.s
  have HR : Hid (∀ o, (w.alloc o).rangeAt g 1 C) := Lib.hid (fun o => by rw [hC]; exact World.rangeAt_alloc h.state o)
  have HI : Hid ((Try.prog.info? 31).map (·.size) = some C.length) := Lib.hid (by rw [hl]; exact info_st)
  have HI2 : Hid ((Try.prog.info? 31).map (·.size) = some C.toArray.size) := Lib.hid (by rw [List.size_toArray, hl]; exact info_st)
  have HO : Hid (C.toArray.all (·.oneCell') = true) := Lib.hid (by rw [hC]; exact RS.one _)
  have HL : Hid ((#[Value.int IntKind.u8 0, Value.int IntKind.u8 0, Value.int IntKind.u8 0, Value.int IntKind.u8 0, Value.int IntKind.u8 0, Value.int IntKind.u8 0, Value.int IntKind.u8 0, Value.int IntKind.u8 0, Value.int IntKind.u8 0, Value.int IntKind.u8 0, Value.int IntKind.u8 0, Value.int IntKind.u8 0, Value.int IntKind.u8 0, Value.int IntKind.u8 0, Value.int IntKind.u8 0, Value.int IntKind.u8 0, Value.int IntKind.u8 0, Value.int IntKind.u8 0, Value.int IntKind.u8 0, Value.int IntKind.u8 0, Value.int IntKind.u8 0, Value.int IntKind.u8 0, Value.int IntKind.u8 0, Value.int IntKind.u8 0, Value.int IntKind.u8 0, Value.int IntKind.u8 0, Value.int IntKind.u8 0, Value.int IntKind.u8 0, Value.int IntKind.u8 0, Value.int IntKind.u8 0, Value.int IntKind.u8 0, Value.int IntKind.u8 0, Value.bool false, Value.int IntKind.u32 0] : Array Value).size = C.toArray.size) := Lib.hid (by rw [show C.toArray.size = 34 by rw [List.size_toArray, hl]]; rfl)
  rw [← hC] at hPOST
  have HPOST := Lib.hid hPOST
  clear hC hl h hPOST
  go_enter Try.func10, Try.ntmps10
  go_wp2_with (first | (with_reducible refine wpList_load_mid rfl 31 (.tmp 5) rfl g 1 rfl C _ (HR.out _) Try.underlying31 rfl HI.out ?_) | (with_reducible refine wpList_store_row rfl 31 (.tmp 2) (.tmp 6) rfl w.heap.size C.toArray rfl rfl 31 _ (heap_new w _) HI2.out HL.out HO.out ?_; rw [World.setRow_alloc_new]))
  rw [HPOST.out]
  exact bodyPost_ret (results_cell_row (p := 2) (by kernel_rfl) _ _ w.heap.size 31 C.toArray (0, 0) _ rfl (heap_new w _) Try.underlying31 rfl HI2.out) rfl ⟨rfl, (Below.refl _ _).alloc (Nat.le_refl _) _⟩

theorem there_any (A : RA) (g : Nat) (a : Int) (w : World) (h : AreaAt w g A) :
    Calls Try.prog 32 #[.pointer (some ⟨g, 0, none⟩), .int .i64 a] w fun e w' => e = .returned (.bool (decide (0 ≤ a ∧ a < A.places))) ∧ w = w' := by
  have HR := h.places
  have hl := h.lt
  by_cases h0 : 0 ≤ a
  · by_cases h1 : a < A.places
    · rw [decide_eq_true ⟨h0, h1⟩]
      clear h
      go_enter Try.func32, Try.ntmps32
      go_wp2
      go_ret
      simp
    · rw [decide_eq_false (fun q => h1 q.2)]
      clear h
      go_enter Try.func32, Try.ntmps32
      go_wp2
      go_ret
      simp
  · rw [decide_eq_false (fun q => h0 q.1)]
    clear h
    go_enter Try.func32, Try.ntmps32
    go_wp2
    go_ret
    simp
end Go.Proofs.Ytkdjimcpdbpemaa
