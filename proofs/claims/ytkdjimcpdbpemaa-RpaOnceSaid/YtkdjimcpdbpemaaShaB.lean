/- sha: the reference's block. -/
import Derived.Test.YtkdjimcpdbpemaaShaA
namespace Go.Proofs.Ytkdjimcpdbpemaa
open Go Go.RowKit
set_option linter.unusedVariables false

theorem wrapS (n : Int) (h1 : -9223372036854775808 ≤ n) (h2 : n ≤ 9223372036854775807) : IntKind.i64.wrap n = n := by rw [IntKind.wrap_i64]; omega
theorem wrapW (n : Int) (h1 : 0 ≤ n) (h2 : n < 4294967296) : IntKind.u32.wrap n = n := by rw [IntKind.wrap_u32]; omega

theorem info_h8 : (Try.prog.info? 100).map (·.size) = some 8 := by kernel_rfl
/-- The reference's block at work: its copies of the state and the constants, its result, its words. -/
def RefAt (w wr : World) (s : St) (K xs : List Int) (N : Nat) : Prop :=
  HasB wr w.heap.size s.cells.toArray 100 ∧ ArrU wr (w.heap.size + 1) 101 64 K ∧ (∃ C, HasB wr (w.heap.size + 2) C 100 ∧ C.size = 8) ∧ ArrU wr (w.heap.size + 3) 101 64 xs ∧ wr.heap.size = w.heap.size + N ∧ Below w.heap.size w wr

theorem RefAt.word {w wr : World} {s : St} {K xs : List Int} {N : Nat} (h : RefAt w wr s K xs N) (i : Nat) (hi : i = xs.length) (hn : i < 64) (z : Int) : RefAt w (wr.setCell ⟨w.heap.size + 3, i, none⟩ (.int .u32 z)).drew s K (xs ++ [z]) N := by
  obtain ⟨h1, h2, ⟨C, h3, h3'⟩, h4, h5, h6⟩ := h
  refine ⟨h1.set_other (by simp) _, ?_, ⟨C, h3.set_other (by simp) _, h3'⟩, h4.put i hi hn z, by simpa using h5, (h6.setCell (by simp) _).drew⟩
  obtain ⟨D, a, b, c⟩ := h2
  exact ⟨D, a.set_other (by simp) _, b, c⟩

theorem RefAt.drewN {w wr : World} {s : St} {K xs : List Int} {N : Nat} (h : RefAt w wr s K xs N) (n : Nat) : RefAt w (wr.drewN n) s K xs N := by
  obtain ⟨h1, h2, h3, h4, h5, h6⟩ := h
  exact ⟨h1, h2, h3, h4, h5, below_drewN' h6 n⟩
theorem list8 {α : Type} {l : List α} (h : l.length = 8) : ∃ c0 c1 c2 c3 c4 c5 c6 c7, l = [c0, c1, c2, c3, c4, c5, c6, c7] := by
  obtain _ | ⟨c0, l⟩ := l
  · simp at h
  obtain _ | ⟨c1, l⟩ := l
  · simp at h
  obtain _ | ⟨c2, l⟩ := l
  · simp at h
  obtain _ | ⟨c3, l⟩ := l
  · simp at h
  obtain _ | ⟨c4, l⟩ := l
  · simp at h
  obtain _ | ⟨c5, l⟩ := l
  · simp at h
  obtain _ | ⟨c6, l⟩ := l
  · simp at h
  obtain _ | ⟨c7, l⟩ := l
  · simp at h
  have : l = [] := List.eq_nil_of_length_eq_zero (by simpa using h)
  exact ⟨c0, c1, c2, c3, c4, c5, c6, c7, by rw [this]⟩
/-- An array of eight stored whole. -/
def set8 (w : World) (g : Nat) (a0 a1 a2 a3 a4 a5 a6 a7 : Value) : World :=
  (((((((w.setCell ⟨g, 0, none⟩ a0).setCell ⟨g, 1, none⟩ a1).setCell ⟨g, 2, none⟩ a2).setCell ⟨g, 3, none⟩ a3).setCell ⟨g, 4, none⟩ a4).setCell ⟨g, 5, none⟩ a5).setCell ⟨g, 6, none⟩ a6).setCell ⟨g, 7, none⟩ a7
theorem HasB.set8 {w : World} {g : Nat} {C : Array Value} {T : TypeId} (h : HasB w g C T) (hC : C.size = 8) (a0 a1 a2 a3 a4 a5 a6 a7 : Value) : HasB (set8 w g a0 a1 a2 a3 a4 a5 a6 a7) g #[a0, a1, a2, a3, a4, a5, a6, a7] T := by
  have h' := (((((((h.set 0 a0).set 1 a1).set 2 a2).set 3 a3).set 4 a4).set 5 a5).set 6 a6).set 7 a7
  have e : (((((((C.setIfInBounds 0 a0).setIfInBounds 1 a1).setIfInBounds 2 a2).setIfInBounds 3 a3).setIfInBounds 4 a4).setIfInBounds 5 a5).setIfInBounds 6 a6).setIfInBounds 7 a7 = #[a0, a1, a2, a3, a4, a5, a6, a7] := by
    obtain ⟨l⟩ := C
    have hl : l.length = 8 := by simpa using hC
    obtain ⟨c0, c1, c2, c3, c4, c5, c6, c7, rfl⟩ := list8 hl
    simp
  rw [e] at h'
  exact h'
theorem gb_set8 {a b : World} {g : Nat} (h : a.grownBy b (some g)) (a0 a1 a2 a3 a4 a5 a6 a7 : Value) : a.grownBy (set8 b g a0 a1 a2 a3 a4 a5 a6 a7) (some g) :=
  gb_set (gb_set (gb_set (gb_set (gb_set (gb_set (gb_set (gb_set h 0 a0) 1 a1) 2 a2) 3 a3) 4 a4) 5 a5) 6 a6) 7 a7
theorem RefAt.kept {w wr wr' : World} {s : St} {K xs : List Int} {N N' : Nat} (h : RefAt w wr s K xs N) {row : Nat} (hg : wr.grownBy wr' (some row)) (hr : w.heap.size + 4 ≤ row) (hs : wr'.heap.size = w.heap.size + N') : RefAt w wr' s K xs N' := by
  obtain ⟨h1, h2, ⟨C, h3, h3'⟩, h4, h5, h6⟩ := h
  exact ⟨h1.kept hg (by simp; omega), h2.kept hg (by simp; omega), ⟨C, h3.kept hg (by simp; omega), h3'⟩, h4.kept hg (by simp; omega), hs, below_gb h6 hg h6.size (by omega)⟩
/-- .. and its working state. -/
def RefV (w wr : World) (s : St) (K xs : List Int) (gv : Nat) (st : St) : Prop := RefAt w wr s K xs 5 ∧ HasB wr gv st.cells.toArray 100 ∧ gv = w.heap.size + 4
theorem below_set8 {B : Nat} {W w : World} (h : Below B W w) {g : Nat} (hg : B ≤ g) (a0 a1 a2 a3 a4 a5 a6 a7 : Value) : Below B W (set8 w g a0 a1 a2 a3 a4 a5 a6 a7) :=
  (((((((h.setCell hg a0).setCell hg a1).setCell hg a2).setCell hg a3).setCell hg a4).setCell hg a5).setCell hg a6).setCell hg a7
theorem set8_size (w : World) (g : Nat) (a0 a1 a2 a3 a4 a5 a6 a7 : Value) : (set8 w g a0 a1 a2 a3 a4 a5 a6 a7).heap.size = w.heap.size := by simp [set8]
theorem RefAt.open_v {w wp : World} {s : St} {K xs : List Int} (h : RefAt w wp s K xs 4) : RefV w (wp.alloc (.cells #[.int .u32 s.a, .int .u32 s.b, .int .u32 s.c, .int .u32 s.d, .int .u32 s.e, .int .u32 s.f, .int .u32 s.g, .int .u32 s.h] 100)) s K xs wp.heap.size s := by
  have hsz := h.2.2.2.2.1
  exact ⟨h.kept (gb_alloc (gb_refl _ (some wp.heap.size)) _) (by omega) (by simp; omega), HasB.new wp _ _, hsz⟩
theorem RefV.drewN {w wr : World} {s : St} {K xs : List Int} {gv : Nat} {st : St} (h : RefV w wr s K xs gv st) (n : Nat) : RefV w (wr.drewN n) s K xs gv st := ⟨h.1.drewN n, h.2.1, h.2.2⟩
theorem RefV.put {w wr : World} {s : St} {K xs : List Int} {gv : Nat} {st : St} (h : RefV w wr s K xs gv st) (t : St) : RefV w (set8 wr gv (.int .u32 t.a) (.int .u32 t.b) (.int .u32 t.c) (.int .u32 t.d) (.int .u32 t.e) (.int .u32 t.f) (.int .u32 t.g) (.int .u32 t.h)) s K xs gv t := by
  obtain ⟨h1, h2, h3⟩ := h
  have hg : wr.grownBy (set8 wr gv (.int .u32 t.a) (.int .u32 t.b) (.int .u32 t.c) (.int .u32 t.d) (.int .u32 t.e) (.int .u32 t.f) (.int .u32 t.g) (.int .u32 t.h)) (some gv) := gb_set8 (gb_refl _ _) _ _ _ _ _ _ _ _
  exact ⟨h1.kept hg (by omega) (by rw [set8_size]; exact h1.2.2.2.2.1), h2.set8 rfl _ _ _ _ _ _ _ _, h3⟩
theorem RefV.cells {w wr : World} {s : St} {K xs : List Int} {gv : Nat} {st : St} (h : RefV w wr s K xs gv st) : wr.cell? ⟨gv, 0, none⟩ = some (.int .u32 st.a) ∧ wr.cell? ⟨gv, 1, none⟩ = some (.int .u32 st.b) ∧ wr.cell? ⟨gv, 2, none⟩ = some (.int .u32 st.c) ∧ wr.cell? ⟨gv, 3, none⟩ = some (.int .u32 st.d) ∧ wr.cell? ⟨gv, 4, none⟩ = some (.int .u32 st.e) ∧ wr.cell? ⟨gv, 5, none⟩ = some (.int .u32 st.f) ∧ wr.cell? ⟨gv, 6, none⟩ = some (.int .u32 st.g) ∧ wr.cell? ⟨gv, 7, none⟩ = some (.int .u32 st.h) := by
  have h2 := h.2.1
  exact ⟨h2.at 0, h2.at 1, h2.at 2, h2.at 3, h2.at 4, h2.at 5, h2.at 6, h2.at 7⟩
def St.list (s : St) : List Int := [s.a, s.b, s.c, s.d, s.e, s.f, s.g, s.h]
theorem St.list_in {s : St} (h : s.ok) : AllU s.list := by
  obtain ⟨a, b, c, d, e, f, g, h⟩ := h
  intro z hz
  simp only [St.list, List.mem_cons, List.mem_nil_iff, or_false] at hz
  rcases hz with rfl | rfl | rfl | rfl | rfl | rfl | rfl | rfl <;> assumption
/-- The sums of the first so many; the others as they were. -/
def mixTo (s t : St) (k : Nat) : List Int := (s.plus t).list.take k ++ s.list.drop k
theorem mixTo_len (s t : St) (k : Nat) (hk : k ≤ 8) : (mixTo s t k).length = 8 := by simp [mixTo, St.list]; omega
theorem mixTo_at (s t : St) (k : Nat) (hk : k < 8) : (mixTo s t k).getD k 0 = s.list.getD k 0 := by
  match k, hk with
  | 0, _ => rfl
  | 1, _ => rfl
  | 2, _ => rfl
  | 3, _ => rfl
  | 4, _ => rfl
  | 5, _ => rfl
  | 6, _ => rfl
  | 7, _ => rfl
theorem mixTo_set (s t : St) (k : Nat) (hk : k < 8) : (mixTo s t k).set k ((s.list.getD k 0 + t.list.getD k 0) % 4294967296) = mixTo s t (k + 1) := by
  match k, hk with
  | 0, _ => rfl
  | 1, _ => rfl
  | 2, _ => rfl
  | 3, _ => rfl
  | 4, _ => rfl
  | 5, _ => rfl
  | 6, _ => rfl
  | 7, _ => rfl
theorem ArrU.setAt {w : World} {g T n : Nat} {l : List Int} (h : ArrU w g T n l) (i : Nat) (hn : i < n) (z : Int) : ArrU (w.setCell ⟨g, i, none⟩ (.int .u32 z)) g T n (l.set i z) := by
  obtain ⟨C, hb, h0, hc⟩ := h
  refine ⟨_, hb.set _ _, by simpa using h0, fun j hj => ?_⟩
  simp at hj
  rw [Array.getElem?_setIfInBounds]
  by_cases he : i = j
  · subst he; rw [if_pos rfl, if_pos (by omega)]; simp [List.getD, hj]
  · rw [if_neg he, hc j hj]
    simp [List.getD, List.getElem?_set_ne he]
theorem st_arr {w : World} {g T : Nat} {s : St} (h : HasB w g s.cells.toArray T) : ArrU w g T 8 s.list := ⟨_, h, rfl, fun i hi => by
  have hi : i < 8 := hi
  match i, hi with
  | 0, _ => rfl
  | 1, _ => rfl
  | 2, _ => rfl
  | 3, _ => rfl
  | 4, _ => rfl
  | 5, _ => rfl
  | 6, _ => rfl
  | 7, _ => rfl⟩
/-- The reference's block at its end. -/
def RefH (w wr : World) (s t : St) (gv k : Nat) : Prop :=
  ArrU wr w.heap.size 100 8 (mixTo s t k) ∧ ArrU wr gv 100 8 t.list ∧ (∃ C, HasB wr (w.heap.size + 2) C 100 ∧ C.size = 8) ∧ gv = w.heap.size + 4 ∧ Below w.heap.size w wr
theorem RefV.toH {w wr : World} {s : St} {K xs : List Int} {gv : Nat} {t : St} (h : RefV w wr s K xs gv t) : RefH w wr s t gv 0 := ⟨by rw [show mixTo s t 0 = s.list by rfl]; exact st_arr h.1.1, st_arr h.2.1, h.1.2.2.1, h.2.2, h.1.2.2.2.2.2⟩
theorem RefH.put {w wr : World} {s t : St} {gv k : Nat} (h : RefH w wr s t gv k) (hk : k < 8) : RefH w (wr.setCell ⟨w.heap.size, k, none⟩ (.int .u32 ((s.list.getD k 0 + t.list.getD k 0) % 4294967296))).drew s t gv (k + 1) := by
  obtain ⟨h1, ⟨D, e1, e2, e3⟩, ⟨C, h3, h3'⟩, h4, h5⟩ := h
  refine ⟨?_, ⟨D, e1.set_other (by simp; omega) _, e2, e3⟩, ⟨C, h3.set_other (by simp) _, h3'⟩, h4, (h5.setCell (Nat.le_refl _) _).drew⟩
  rw [← mixTo_set s t k hk]
  exact h1.setAt k hk _
theorem byte_at {l : List Nat} (h : ∀ c ∈ l, c < 256) (p : Nat) : l.getD p 0 < 256 := by
  rcases Nat.lt_or_ge p l.length with q | q
  · have : l.getD p 0 ∈ l := by simp [List.getD, q]
    exact h _ this
  · simp [List.getD, List.getElem?_eq_none q]

theorem ks_new (w : World) (K : List Int) (hK : K.length = 64) (T : TypeId) : ArrU (w.alloc (.cells (K.map (Value.int .u32)).toArray T)) w.heap.size T 64 K :=
  ⟨_, HasB.new _ _ _, by simpa using hK, fun i hi => by simp [List.getD, hi]⟩

theorem refAt_start (w : World) (s : St) (K : List Int) (hK : K.length = 64) (Z8 Z64 : Array Value) (h8 : Z8.size = 8) (h64 : Z64.size = 64) : RefAt w ((((w.alloc (.cells s.cells.toArray 100)).alloc (.cells (K.map (Value.int .u32)).toArray 101)).alloc (.cells Z8 100)).alloc (.cells Z64 101)) s K [] 4 := by
  have b1 : Below w.heap.size w (w.alloc (.cells s.cells.toArray 100)) := (Below.refl _ _).alloc (Nat.le_refl _) _
  refine ⟨(((HasB.new w _ _).alloc _).alloc _).alloc _, ?_, ⟨_, (HasB.new' (by simp) _ _).alloc _, h8⟩, ⟨_, HasB.new' (by simp) _ _, h64, fun i hi => by simp at hi⟩, by simp, ?_⟩
  · obtain ⟨C, q1, q2, q3⟩ := ks_new (w.alloc (.cells s.cells.toArray 100)) K hK 101
    have e : (w.alloc (.cells s.cells.toArray 100)).heap.size = w.heap.size + 1 := by simp
    rw [e] at q1
    exact ⟨C, (q1.alloc _).alloc _, q2, q3⟩
  · exact (((b1.alloc (by simp) _).alloc (by simp; omega) _).alloc (by simp; omega) _)

end Go.Proofs.Ytkdjimcpdbpemaa
