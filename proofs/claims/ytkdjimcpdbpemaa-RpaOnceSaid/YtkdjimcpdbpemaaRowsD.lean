/- Slices of slices of bytes that came in, with what their data weigh. -/
import Derived.Test.YtkdjimcpdbpemaaRowsC
namespace Go.Proofs.Ytkdjimcpdbpemaa
open Go.ChangeShapes Go.WideShapes Go.ChangeAt Go.RowKit
set_option linter.unusedVariables false

section
variable {H : Type} {enc : TypeId × Value → H} {P : Program}

/-- As open_rows; each element is tied to its datum by R. -/
theorem open_rowsR {α : Type} {sz : Nat} {cf : α → List Value} {wf : α → Prop} {R : α → DataW H → Prop} {w : World} {r : Reach} {b0 : Nat} {t e : TypeId} {v : Value} {d : DataW H} {ps : List MemPlace} (ht : P.underlying t = some (.slice e)) (hsz : P.cellsOf e = sz) (h0 : 0 < sz)
    (hcf : ∀ x, (cf x).length = sz)
    (hE : ∀ n cs y, DataW.trod enc P w 0 (fun _ => true) true n e cs = some y → ∃ x, cs = cf x ∧ wf x ∧ R x y.1)
    (hval : Value.okWide P w r b0 t v) (hd : DataW.Trod enc P w 0 (fun _ => true) true t v d ps) :
    ∃ (a : Option Addr) (len cap : Nat) (xs : List α), v = .slice a len cap ∧ len ≤ cap ∧ cap ≤ maxLen ∧ (a = none → cap = 0) ∧ Rws sz cf w a len xs ∧ (∀ x ∈ xs, wf x) ∧ (d = .nil ∧ len = 0 ∨ ∃ elems spare, d = .slice elems spare ∧ elems.length = len ∧ ∀ (i : Nat) (x : α), xs[i]? = some x → ∃ y, elems[i]? = some y ∧ R x y) := by
  obtain ⟨a, len, cap, rfl⟩ := okWide_slice ht hval
  obtain ⟨fuel, hf⟩ := hd
  rcases DataW.trod_slice ht hf with ⟨hcs, hx⟩ | ⟨a', len', cap', elems, rest, n, _, hcs, hx, hb, hl, hm, hlen, hel, hsp, _⟩
  · simp [Value.cells] at hcs hx
    obtain ⟨rfl, rfl, rfl⟩ := hcs
    exact ⟨none, 0, 0, [], rfl, Nat.le_refl _, Nat.zero_le _, fun _ => rfl, Rws.nil, by simp, Or.inl ⟨hx.1, rfl⟩⟩
  · simp [Value.cells] at hcs
    obtain ⟨rfl, rfl, rfl⟩ := hcs
    have hdd : d = .slice (elems.map (·.1)) (rest.map (·.1)) := (Prod.mk.inj hx).1
    have each : ∀ i, i < len → ∃ x, w.cells? 0 (a'.add (i * sz)) sz = some (cf x) ∧ wf x ∧ ∃ y, (elems.map (·.1))[i]? = some y ∧ R x y := by
      intro i hi
      have h1 := hel i hi
      rw [hsz, List.getElem?_eq_getElem (by omega), Option.bind_eq_some_iff] at h1
      obtain ⟨cs, hc, hy⟩ := h1
      obtain ⟨x, rfl, hw, hR⟩ := hE _ _ _ hy
      exact ⟨x, hc, hw, _, by rw [List.getElem?_map, List.getElem?_eq_getElem (by omega)]; rfl, hR⟩
    by_cases hz : len = 0
    · subst hz
      exact ⟨some a', 0, cap, [], rfl, hl, hm, fun h => by simp at h, Rws.nil, by simp, Or.inr ⟨_, _, hdd, by simp [hlen], fun i x hx => by simp at hx⟩⟩
    · obtain ⟨x0, hx0, _⟩ := each 0 (by omega)
      have hs0 := (World.cells?_some hx0).2.2 0 h0
      have hl0 : ∃ v0, (cf x0)[0]? = some v0 := ⟨_, List.getElem?_eq_getElem (by rw [hcf]; exact h0)⟩
      obtain ⟨v0, hv0⟩ := hl0
      rw [hv0] at hs0
      have hblk : a'.block < w.heap.size := by
        have := World.cells?_block hx0 h0
        simpa [Addr.add] using this
      obtain ⟨b, off, spot⟩ := a'
      have hspot : spot = none := by simpa [Addr.add] using World.cell?_spot hs0
      subst hspot
      have : Inhabited α := ⟨x0⟩
      obtain ⟨g, hg⟩ := Go.Deep.choose_lt each
      refine ⟨some ⟨b, off, none⟩, len, cap, (List.range len).map g, rfl, hl, hm, fun h => by simp at h, ⟨by simp, fun _ => ⟨b, off, rfl, hblk, ?_⟩⟩, ?_, Or.inr ⟨_, _, hdd, by simp [hlen], ?_⟩⟩
      · intro i x hx j hj
        have hi : i < len := by
          have := (List.getElem?_eq_some_iff.1 hx).1
          simpa using this
        simp [hi] at hx
        subst hx
        have h2 := (World.cells?_some (hg i hi).1).2.2 j hj
        rw [Go.Deep.add_add, add_plain] at h2
        exact h2
      · intro x hx
        simp at hx
        obtain ⟨i, hi, rfl⟩ := hx
        exact (hg i hi).2.1
      · intro i x hx
        have hi : i < len := by
          have := (List.getElem?_eq_some_iff.1 hx).1
          simpa using this
        simp [hi] at hx
        subst hx
        exact (hg i hi).2.2

/-- What a datum of a slice says of its length. -/
def LenD (n : Nat) (d : DataW H) : Prop := (d = .nil ∧ n = 0) ∨ ∃ elems spare, d = .slice elems spare ∧ elems.length = n

theorem trod_bytesD {w : World} {T e : TypeId} (ht : P.underlying T = some (.slice e)) (he : P.underlying e = some (.int .u8)) (hsz : P.cellsOf e = 1) {n : Nat} {cs : List Value} {y : DataW H × List MemPlace}
    (h : DataW.trod enc P w 0 (fun _ => true) true n T cs = some y) : ∃ x : Elem, cs = x.cells ∧ (Bytes w x.a x.l.length x.l ∧ (x.a = none → x.cap = 0) ∧ x.l.length ≤ x.cap ∧ x.cap ≤ maxLen) ∧ LenD x.l.length y.1 := by
  obtain ⟨x, hx1, hx2⟩ := trod_bytes ht he hsz h
  refine ⟨x, hx1, hx2, ?_⟩
  rcases DataW.trod_slice ht h with ⟨hcs, hx⟩ | ⟨a', len', cap', elems, rest, n, _, hcs, hx, hb, hl, hm, hlen, hel, hsp, _⟩
  · rw [hx1] at hcs
    simp [Elem.cells] at hcs
    exact .inl ⟨by rw [hx], by simp [hcs.2.1]⟩
  · rw [hx1] at hcs
    simp [Elem.cells] at hcs
    exact .inr ⟨_, _, by rw [hx], by simp [hlen, hcs.2.1]⟩

theorem open_rowsT {w : World} {r : Reach} {b0 : Nat} {t T e : TypeId} {v : Value} {d : DataW H} {ps : List MemPlace} (ht : P.underlying t = some (.slice T)) (hT : P.underlying T = some (.slice e)) (he : P.underlying e = some (.int .u8)) (hsT : P.cellsOf T = 1) (hsz : P.cellsOf e = 1)
    (hval : Value.okWide P w r b0 t v) (hd : DataW.Trod enc P w 0 (fun _ => true) true t v d ps) :
    ∃ (a : Option Addr) (len cap : Nat) (ls : List (List Nat)), v = .slice a len cap ∧ len ≤ cap ∧ cap ≤ maxLen ∧ (a = none → cap = 0) ∧ ls.length = len ∧ RowsR w a ls ∧ (∀ x ∈ ls, ∀ c ∈ x, c < 256) ∧ (∀ x ∈ ls, x.length ≤ maxLen) ∧ (d = .nil ∧ len = 0 ∨ ∃ elems spare, d = .slice elems spare ∧ elems.length = len ∧ ∀ (i : Nat) (x : List Nat), ls[i]? = some x → ∃ y, elems[i]? = some y ∧ LenD x.length y) := by
  obtain ⟨a, len, cap, xs, h1, h2, h3, h4, h5, h6, h7⟩ := open_rowsR (α := Elem) (sz := 1) (cf := Elem.cells) (R := fun x y => LenD x.l.length y) (wf := fun x => Bytes w x.a x.l.length x.l ∧ (x.a = none → x.cap = 0) ∧ x.l.length ≤ x.cap ∧ x.cap ≤ maxLen) ht hsT (by omega) (fun _ => rfl) (fun n cs y h => trod_bytesD hT he hsz h) hval hd
  refine ⟨a, len, cap, xs.map (·.l), h1, h2, h3, h4, by simpa using h5.1, ?_, ?_, ?_, ?_⟩
  · intro k x hx
    rw [List.getElem?_map, Option.map_eq_some_iff] at hx
    obtain ⟨y, hy, rfl⟩ := hx
    have hk : k < xs.length := (List.getElem?_eq_some_iff.1 hy).1
    obtain ⟨b, off, rfl, hlt, hc⟩ := h5.2 (by rw [← h5.1]; omega)
    have hm : y ∈ xs := by rw [← (List.getElem?_eq_some_iff.1 hy).2]; exact List.getElem_mem _
    obtain ⟨q1, q2, q3, q4⟩ := h6 y hm
    refine ⟨b, off, y.a, y.cap, rfl, hlt, ?_, q1, q2, q3, q4⟩
    have := hc k y hy 0 (by omega)
    simpa [Elem.cells] using this
  · intro x hx
    simp only [List.mem_map] at hx
    obtain ⟨y, hy, rfl⟩ := hx
    exact (h6 y hy).1.2.1
  · intro x hx
    simp only [List.mem_map] at hx
    obtain ⟨y, hy, rfl⟩ := hx
    have := h6 y hy
    exact Nat.le_trans this.2.2.1 this.2.2.2
  · rcases h7 with h7 | ⟨elems, spare, e1, e2, e3⟩
    · exact .inl h7
    · refine .inr ⟨elems, spare, e1, e2, fun i x hx => ?_⟩
      rw [List.getElem?_map, Option.map_eq_some_iff] at hx
      obtain ⟨y, hy, rfl⟩ := hx
      exact e3 i y hy
end

/-- The lengths of the first so many rows together. -/
def sumLen : List (List Nat) → Nat → Nat
  | _, 0 => 0
  | ls, k + 1 => sumLen ls k + (ls.getD k []).length
theorem sumLen_mono (ls : List (List Nat)) (k : Nat) : ∀ d, sumLen ls k ≤ sumLen ls (k + d)
  | 0 => Nat.le_refl _
  | d + 1 => by
    have := sumLen_mono ls k d
    rw [← Nat.add_assoc, sumLen]; omega
theorem sumLen_one {ls : List (List Nat)} {k n : Nat} (hk : k < n) : (ls.getD k []).length ≤ sumLen ls n := by
  have := sumLen_mono ls (k + 1) (n - (k + 1))
  rw [show k + 1 + (n - (k + 1)) = n by omega, sumLen] at this
  omega

theorem bulk_len {H : Type} (l : List (DataW H)) : l.length ≤ Rows.uptoBulkAll l := by
  induction l with
  | nil => simp
  | cons d r ih =>
    have h1 : 1 ≤ Rows.uptoBulk d := by
      cases d with
      | lit v => cases v <;> simp [Rows.uptoBulk]
      | _ => simp [Rows.uptoBulk]
    simp only [Rows.uptoBulkAll, List.length_cons]
    omega
theorem bulk_part {H : Type} {n : Nat} {d : DataW H} (h : LenD n d) : n + 1 ≤ Rows.uptoBulk d := by
  rcases h with ⟨rfl, rfl⟩ | ⟨elems, spare, rfl, rfl⟩
  · simp [Rows.uptoBulk]
  · have := bulk_len elems
    simp only [Rows.uptoBulk]; omega
theorem bulk_take {H : Type} : ∀ (l : List (DataW H)) (k : Nat) (d : DataW H), l[k]? = some d → Rows.uptoBulkAll (l.take (k + 1)) = Rows.uptoBulkAll (l.take k) + Rows.uptoBulk d
  | [], k, d, h => by simp at h
  | e :: r, 0, d, h => by
    have : e = d := by simpa using h
    subst this
    simp [Rows.uptoBulkAll]
  | e :: r, k + 1, d, h => by
    have := bulk_take r k d (by simpa using h)
    simp only [List.take_succ_cons, Rows.uptoBulkAll] at this ⊢
    omega
theorem bulk_rows {H : Type} {ls : List (List Nat)} {elems : List (DataW H)} (h : ∀ (i : Nat) (x : List Nat), ls[i]? = some x → ∃ y, elems[i]? = some y ∧ LenD x.length y) : ∀ k, k ≤ ls.length → sumLen ls k + k ≤ Rows.uptoBulkAll (elems.take k)
  | 0, _ => by simp [sumLen]
  | k + 1, hk => by
    have h1 := bulk_rows h k (by omega)
    obtain ⟨y, hy, hl⟩ := h k ls[k] (List.getElem?_eq_getElem (by omega))
    have h2 := bulk_take elems k y hy
    have h3 := bulk_part hl
    rw [h2, sumLen]
    have e : (ls.getD k []).length = ls[k].length := by simp [List.getD, List.getElem?_eq_getElem (show k < ls.length by omega)]
    omega
/-- From the bound on all data to the rows' total. -/
theorem bulk_total {H : Type} {ls : List (List Nat)} {d : DataW H} {len : Nat} (hl : ls.length = len) (h : d = .nil ∧ len = 0 ∨ ∃ elems spare, d = .slice elems spare ∧ elems.length = len ∧ ∀ (i : Nat) (x : List Nat), ls[i]? = some x → ∃ y, elems[i]? = some y ∧ LenD x.length y) : sumLen ls len + len ≤ Rows.uptoBulk d := by
  rcases h with ⟨rfl, rfl⟩ | ⟨elems, spare, rfl, he, h⟩
  · simp [sumLen]
  · have := bulk_rows h len (by omega)
    rw [List.take_of_length_le (by omega)] at this
    simp only [Rows.uptoBulk]
    omega

end Go.Proofs.Ytkdjimcpdbpemaa
