/- sha: the constants; a block of memory that holds a state and more. -/
import Derived.Test.YtkdjimcpdbpemaaShaB
namespace Go.Proofs.Ytkdjimcpdbpemaa
open Go Go.RowKit
set_option linter.unusedVariables false

def KL : List Int := [1116352408, 1899447441, 3049323471, 3921009573, 961987163, 1508970993, 2453635748, 2870763221, 3624381080, 310598401, 607225278, 1426881987, 1925078388, 2162078206, 2614888103, 3248222580, 3835390401, 4022224774, 264347078, 604807628, 770255983, 1249150122, 1555081692, 1996064986, 2554220882, 2821834349, 2952996808, 3210313671, 3336571891, 3584528711, 113926993, 338241895, 666307205, 773529912, 1294757372, 1396182291, 1695183700, 1986661051, 2177026350, 2456956037, 2730485921, 2820302411, 3259730800, 3345764771, 3516065817, 3600352804, 4094571909, 275423344, 430227734, 506948616, 659060556, 883997877, 958139571, 1322822218, 1537002063, 1747873779, 1955562222, 2024104815, 2227730452, 2361852424, 2428436474, 2756734187, 3204031479, 3329325298]
def H0 : St := ⟨1779033703, 3144134277, 1013904242, 2773480762, 1359893119, 2600822924, 528734635, 1541459225⟩
theorem KL_in : AllU KL := by
  intro z hz
  have h : KL.all (fun z => decide (0 ≤ z) && decide (z < 4294967296)) = true := by decide +kernel
  have := List.all_eq_true.1 h z hz
  simp at this
  exact this
theorem H0_ok : H0.ok := by unfold St.ok H0; decide
def cellsU (l : List Int) : List Value := l.map (Value.int .u32)
theorem cells_list (s : St) : s.cells = cellsU s.list := rfl
theorem cellsU_len (l : List Int) : (cellsU l).length = l.length := by simp [cellsU]

/-- A block of memory that begins with numbers. -/
def HeadU (w : World) (g T : Nat) (l : List Int) (tail : List Value) : Prop := HasB w g (cellsU l ++ tail).toArray T
theorem HeadU.at {w : World} {g T : Nat} {l : List Int} {tail : List Value} (h : HeadU w g T l tail) (i : Nat) (hi : i < l.length) : w.cell? ⟨g, i, none⟩ = some (.int .u32 (l.getD i 0)) := by
  have := HasB.at h i
  rw [this]
  simp only [cellsU, List.getElem?_toArray]
  rw [List.getElem?_append_left (by simpa using hi)]
  simp [List.getD, hi]
theorem HeadU.tail {w : World} {g T : Nat} {l : List Int} {tail : List Value} (h : HeadU w g T l tail) (i : Nat) : w.cell? ⟨g, l.length + i, none⟩ = tail[i]? := by
  have := HasB.at h (l.length + i)
  rw [this]
  simp only [cellsU, List.getElem?_toArray]
  rw [List.getElem?_append_right (by simp)]
  simp
theorem HeadU.put {w : World} {g T : Nat} {l : List Int} {tail : List Value} (h : HeadU w g T l tail) (i : Nat) (hi : i < l.length) (z : Int) : HeadU (w.setCell ⟨g, i, none⟩ (.int .u32 z)) g T (l.set i z) tail := by
  have h' := HasB.set h i (.int .u32 z)
  have e : (cellsU l ++ tail).toArray.setIfInBounds i (.int .u32 z) = (cellsU (l.set i z) ++ tail).toArray := by
    simp [cellsU, List.set_append_left _ _ (show i < (l.map (Value.int .u32)).length by simpa using hi), List.map_set]
  rw [e] at h'
  exact h'

/-- The program's mix at work: its constants, its words. -/
def MixAt (w wr : World) (g T : Nat) (s : St) (tail : List Value) (xs : List Int) (N : Nat) : Prop :=
  HeadU wr g T s.list tail ∧ ArrU wr w.heap.size 101 64 KL ∧ ArrU wr (w.heap.size + 1) 101 64 xs ∧ wr.heap.size = w.heap.size + N ∧ Below w.heap.size w wr ∧ g < w.heap.size
theorem MixAt.word {w wr : World} {g T : Nat} {s : St} {tail : List Value} {xs : List Int} {N : Nat} (h : MixAt w wr g T s tail xs N) (i : Nat) (hi : i = xs.length) (hn : i < 64) (z : Int) : MixAt w (wr.setCell ⟨w.heap.size + 1, i, none⟩ (.int .u32 z)).drew g T s tail (xs ++ [z]) N := by
  obtain ⟨h1, ⟨D, e1, e2, e3⟩, h4, h5, h6, h7⟩ := h
  exact ⟨HasB.set_other h1 (by simp; omega) _, ⟨D, e1.set_other (by simp) _, e2, e3⟩, h4.put i hi hn z, by simpa using h5, (h6.setCell (by simp) _).drew, h7⟩
theorem MixAt.drewN {w wr : World} {g T : Nat} {s : St} {tail : List Value} {xs : List Int} {N : Nat} (h : MixAt w wr g T s tail xs N) (n : Nat) : MixAt w (wr.drewN n) g T s tail xs N := by
  obtain ⟨h1, h2, h4, h5, h6, h7⟩ := h
  exact ⟨h1, h2, h4, h5, below_drewN' h6 n, h7⟩
theorem MixAt.drew {w wr : World} {g T : Nat} {s : St} {tail : List Value} {xs : List Int} {N : Nat} (h : MixAt w wr g T s tail xs N) : MixAt w wr.drew g T s tail xs N := by
  obtain ⟨h1, h2, h4, h5, h6, h7⟩ := h
  exact ⟨h1, h2, h4, h5, h6.drew, h7⟩
theorem MixAt.kept {w wr wr' : World} {g T : Nat} {s : St} {tail : List Value} {xs : List Int} {N N' : Nat} (h : MixAt w wr g T s tail xs N) {row : Nat} (hg : wr.grownBy wr' (some row)) (hr : w.heap.size + 2 ≤ row) (hs : wr'.heap.size = w.heap.size + N') : MixAt w wr' g T s tail xs N' := by
  obtain ⟨h1, h2, h4, h5, h6, h7⟩ := h
  exact ⟨HasB.kept h1 hg (by simp; omega), h2.kept hg (by simp; omega), h4.kept hg (by simp; omega), hs, below_gb h6 hg h6.size (by omega), h7⟩
theorem mix_start (w : World) (g T : Nat) (s : St) (tail : List Value) (h : HeadU w g T s.list tail) (Z Z64 : Array Value) (hZ : Z = (cellsU KL).toArray) (h64 : Z64.size = 64) : MixAt w ((w.alloc (.cells Z 101)).alloc (.cells Z64 101)) g T s tail [] 2 := by
  have b1 : Below w.heap.size w (w.alloc (.cells Z 101)) := (Below.refl _ _).alloc (Nat.le_refl _) _
  subst hZ
  refine ⟨(HasB.alloc h _).alloc _, ?_, ⟨_, HasB.new' (by simp) _ _, h64, fun i hi => by simp at hi⟩, by simp, b1.alloc (by simp) _, HasB.lt h⟩
  exact ⟨_, (HasB.new w _ _).alloc _, by rw [List.size_toArray, cellsU_len]; rfl, fun i hi => by simp [cellsU, List.getD, hi]⟩

/-- .. and its working state. -/
def MixV (w wr : World) (g T : Nat) (s : St) (tail : List Value) (xs : List Int) (gv : Nat) (st : St) : Prop := MixAt w wr g T s tail xs 3 ∧ HasB wr gv st.cells.toArray 100 ∧ gv = w.heap.size + 2
theorem MixAt.open_v {w wp : World} {g T : Nat} {s : St} {tail : List Value} {xs : List Int} (h : MixAt w wp g T s tail xs 2) : MixV w (wp.alloc (.cells #[.int .u32 s.a, .int .u32 s.b, .int .u32 s.c, .int .u32 s.d, .int .u32 s.e, .int .u32 s.f, .int .u32 s.g, .int .u32 s.h] 100)) g T s tail xs wp.heap.size s := by
  have hsz := h.2.2.2.1
  exact ⟨h.kept (gb_alloc (gb_refl _ (some wp.heap.size)) _) (by omega) (by simp; omega), HasB.new wp _ _, hsz⟩
theorem MixV.drewN {w wr : World} {g T : Nat} {s : St} {tail : List Value} {xs : List Int} {gv : Nat} {st : St} (h : MixV w wr g T s tail xs gv st) (n : Nat) : MixV w (wr.drewN n) g T s tail xs gv st := ⟨h.1.drewN n, h.2.1, h.2.2⟩
theorem MixV.put {w wr : World} {g T : Nat} {s : St} {tail : List Value} {xs : List Int} {gv : Nat} {st : St} (h : MixV w wr g T s tail xs gv st) (t : St) : MixV w (set8 wr gv (.int .u32 t.a) (.int .u32 t.b) (.int .u32 t.c) (.int .u32 t.d) (.int .u32 t.e) (.int .u32 t.f) (.int .u32 t.g) (.int .u32 t.h)) g T s tail xs gv t := by
  obtain ⟨h1, h2, h3⟩ := h
  have hg : wr.grownBy (set8 wr gv (.int .u32 t.a) (.int .u32 t.b) (.int .u32 t.c) (.int .u32 t.d) (.int .u32 t.e) (.int .u32 t.f) (.int .u32 t.g) (.int .u32 t.h)) (some gv) := gb_set8 (gb_refl _ _) _ _ _ _ _ _ _ _
  exact ⟨h1.kept hg (by omega) (by rw [set8_size]; exact h1.2.2.2.1), h2.set8 rfl _ _ _ _ _ _ _ _, h3⟩
theorem MixV.cells {w wr : World} {g T : Nat} {s : St} {tail : List Value} {xs : List Int} {gv : Nat} {st : St} (h : MixV w wr g T s tail xs gv st) : wr.cell? ⟨gv, 0, none⟩ = some (.int .u32 st.a) ∧ wr.cell? ⟨gv, 1, none⟩ = some (.int .u32 st.b) ∧ wr.cell? ⟨gv, 2, none⟩ = some (.int .u32 st.c) ∧ wr.cell? ⟨gv, 3, none⟩ = some (.int .u32 st.d) ∧ wr.cell? ⟨gv, 4, none⟩ = some (.int .u32 st.e) ∧ wr.cell? ⟨gv, 5, none⟩ = some (.int .u32 st.f) ∧ wr.cell? ⟨gv, 6, none⟩ = some (.int .u32 st.g) ∧ wr.cell? ⟨gv, 7, none⟩ = some (.int .u32 st.h) := by
  have h2 := h.2.1
  exact ⟨h2.at 0, h2.at 1, h2.at 2, h2.at 3, h2.at 4, h2.at 5, h2.at 6, h2.at 7⟩
/-- .. and its end: so many of the state's numbers are added. -/
def MixH (w wr : World) (g T : Nat) (s t : St) (tail : List Value) (gv k : Nat) : Prop := HeadU wr g T (mixTo s t k) tail ∧ ArrU wr gv 100 8 t.list ∧ g < gv ∧ w.grownBy wr (some g)
theorem MixV.toH {w wr : World} {g T : Nat} {s : St} {tail : List Value} {xs : List Int} {gv : Nat} {t : St} (h : MixV w wr g T s tail xs gv t) : MixH w wr g T s t tail gv 0 :=
  ⟨by rw [show mixTo s t 0 = s.list by rfl]; exact h.1.1, st_arr h.2.1, by have := h.2.2; have := h.1.2.2.2.2.2; omega, gb_below h.1.2.2.2.2.1⟩
theorem MixH.put {w wr : World} {g T : Nat} {s t : St} {tail : List Value} {gv k : Nat} (h : MixH w wr g T s t tail gv k) (hk : k < 8) : MixH w (wr.setCell ⟨g, k, none⟩ (.int .u32 ((s.list.getD k 0 + t.list.getD k 0) % 4294967296))).drew g T s t tail gv (k + 1) := by
  obtain ⟨h1, ⟨D, e1, e2, e3⟩, h3, h4⟩ := h
  refine ⟨?_, ⟨D, e1.set_other (by simp; omega) _, e2, e3⟩, h3, gb_drew (gb_set h4 k _)⟩
  rw [← mixTo_set s t k hk]
  exact h1.put k (by rw [mixTo_len _ _ _ (by omega)]; exact hk) _
theorem rotkS (x k : Int) (hx : 0 ≤ x ∧ x < 4294967296) (h1 : -31 ≤ k ∧ k ≤ -1) (w : World) :
    Calls Try.prog 52 #[.int .u32 x, .int .i64 k] w fun e w' => e = .returned (.int .u32 (rotk x k)) ∧ w' = w := (rotk_any x k hx h1 w).mono (fun _ _ ⟨a, b⟩ => ⟨a, b.symm⟩)

end Go.Proofs.Ytkdjimcpdbpemaa
