/- rows: an element is appended; bytes are copied into a block of the call's own; what came in as rows of bytes. -/
import Derived.Test.YtkdjimcpdbpemaaRowsB
import Derived.Laws.CopyOwn
import Derived.Laws.Tables
import Derived.OneCell
namespace Go.Proofs.Ytkdjimcpdbpemaa
open Go.RowKit
set_option linter.unusedVariables false

theorem RowsAt.lt {B : Nat} {e : TypeId} {w : World} {v : Value} {ls : List (List Nat)} (h : RowsAt B e w v ls) : ∀ k, v.ownBlock = some k → B ≤ k ∧ k < w.heap.size := by
  obtain ⟨us, h1, _⟩ := h
  exact h1.lt
theorem RowsAt.form {B : Nat} {e : TypeId} {w : World} {v : Value} {ls : List (List Nat)} (h : RowsAt B e w v ls) : ∃ a cap, v = .slice a ls.length cap := by
  obtain ⟨us, h1, _⟩ := h
  exact own_form h1

section
variable {P : Program} {ops : Array Oper} {rest : List Oper} {o : Oper} {a : Act} {w : World} {Q : Exit → Act → World → Prop}
theorem wpList_app_row (hgd : o.guard = none) (s x : Operand) (t T : TypeId)
    (ho : o.op = .call { callee := .builtin .append, args := #[s, x], argTypes := #[t, t] })
    (ht : P.underlying t = some (.slice T)) (hinfo : (P.info? T).map (fun i => (i.zero, i.size, i.bytes)) = some (some (.slice none 0 0), 1, 24))
    (B : Nat) (v : Value) (ls : List (List Nat)) (hs : a.eval s = v) (hR : RowsAt B T w v ls) (g : Nat) (hx : a.eval x = .slice (some ⟨g, 0, none⟩) 1 1)
    (y : List Nat) (u : Value) (hg : w.cell? ⟨g, 0, none⟩ = some u) (hu : ElemAt B w v.ownBlock y u) (hl : ls.length ≤ 1000000) (hB : B ≤ w.heap.size)
    (h : ∀ v' w', RowsAt B T w' v' (ls ++ [y]) → w.grownBy w' v.ownBlock → wpList P ops Q rest (a.put o.dst v') w') :
    wpList P ops Q (o :: rest) a w := by
  obtain ⟨i, hi, hz, hsz, hby⟩ := info_parts hinfo
  obtain ⟨us, hown, hul, huel⟩ := hR
  have hone : u.oneCell' = true := by obtain ⟨_, _, rfl, _⟩ := hu; rfl
  refine wpList_append_own_at _ hgd s x t ho B T i (.slice none 0 0) 1 24 ht hi hz hsz hby rfl (by omega) v ls.length us hs hown ⟨g, 0, none⟩ 1 1 [u] hx rfl ?_ ?_ (by unfold maxLen; omega) (by omega) hB ?_
  · intro j c hj
    match j, hj with
    | 0, hj =>
      simp at hj; subst hj
      rw [Go.WideShapes.add_plain]; exact hg
  · intro c hc
    simp at hc; subst hc; exact hone
  · intro v' w' h1 h2 _ h4
    exact h v' w' (RowsAt.grown hul huel hu h1 h2 h4) h2

theorem own_full {w : World} {base : Nat} {e : TypeId} {g n : Nat} {xs : List Value} (h : w.ownsRow base e 1 (.slice (some ⟨g, 0, none⟩) n n) n xs) : w.heap[g]? = some (.cells xs.toArray e (0, 0)) := by
  rcases h.2 with ⟨h', _⟩ | ⟨g', cap', cur, h', _, hg, _, _, hcs, htake⟩
  · simp at h'
  · simp only [Value.slice.injEq, Option.some.injEq, Addr.mk.injEq, and_true, true_and] at h'
    obtain ⟨rfl, rfl⟩ := h'
    rw [List.take_of_length_le (by rw [Array.length_toList, hcs]; exact Nat.le_refl _)] at htake
    rw [hg, ← htake]
theorem bytes_of_row {w : World} {g : Nat} {l : List Nat} {t : TypeId} {fr : Nat × Nat} (h : w.heap[g]? = some (.cells (u8s l).toArray t fr)) (hl : ∀ c ∈ l, c < 256) : Bytes w (some ⟨g, 0, none⟩) l.length l :=
  ⟨rfl, hl, fun _ => ⟨g, 0, rfl, lt_of_block h, fun i hi => by
    rw [Nat.zero_add, cell_of_row w g i _ t fr h]
    simp [u8s, List.getD, hi]⟩⟩

/-- The front of bytes that a copy writes. -/
def overlay (d s : List Nat) : List Nat := s.take d.length ++ d.drop (min s.length d.length)
theorem overlay_len (d s : List Nat) : (overlay d s).length = d.length := by simp [overlay]; omega
theorem overlay_lt {d s : List Nat} (hd : ∀ c ∈ d, c < 256) (hs : ∀ c ∈ s, c < 256) : ∀ c ∈ overlay d s, c < 256 := by
  intro c hc
  rcases List.mem_append.1 hc with q | q
  · exact hs c (List.mem_of_mem_take q)
  · exact hd c (List.mem_of_mem_drop q)

/-- 'copy(dst, src)' of bytes, dst a whole block of the call's own. -/
theorem wpList_copy_u8 (hgd : o.guard = none) (d s : Operand) (dT sT : TypeId)
    (ho : o.op = .call { callee := .builtin .copy, args := #[d, s], argTypes := #[dT, sT] }) (elem : TypeId) (hu : P.underlying dT = some (.slice elem)) (hsz : (P.info? elem).map (·.size) = some 1)
    (sp : Option Addr) (dLen dCap sLen sCap g : Nat) (hd : a.eval d = .slice (some ⟨g, 0, none⟩) dLen dCap) (hs : a.eval s = .slice sp sLen sCap)
    (cur : List Nat) (t : TypeId) (hg : w.heap[g]? = some (.cells (u8s cur).toArray t (0, 0))) (hdl : dLen = cur.length) (src : List Nat) (hsrc : Bytes w sp sLen src)
    (B : Nat) (w0 : World) (hb : Below B w0 w) (hBg : B ≤ g)
    (h : ∀ w', Hid (w'.heap[g]? = some (.cells (u8s (overlay cur src)).toArray t (0, 0))) → Below B w0 w' → wpList P ops Q rest (a.put o.dst (.int .i64 ((min sLen dLen : Nat) : Int))) w') :
    wpList P ops Q (o :: rest) a w := by
  subst hdl
  have hl := hsrc.1
  have hcl : (u8s (src.take cur.length)).length = Nat.min sLen cur.length := by
    rw [u8s_len, List.length_take, hl, Nat.min_comm]
  have hcl2 : (u8s (src.take cur.length)).length = min sLen cur.length := hcl
  refine wpList_copy_splice hgd d s dT sT ho elem hu hsz (some ⟨g, 0, none⟩) sp cur.length dCap sLen sCap hd hs g 0 (u8s cur) t hg (u8s (src.take cur.length)) hcl ?_ (by rw [u8s_len, u8s_len, List.length_take]; omega) (u8s_one _) B w0 hb hBg ?_
  · intro h0
    rw [hcl2] at h0
    obtain ⟨b, off, rfl, _, hc⟩ := hsrc.2.2 (by omega)
    refine ⟨rfl, _, rfl, fun j v hj => ?_⟩
    refine u8s_cells hl hc j v ?_
    have hj2 := (List.getElem?_eq_some_iff.1 hj).1
    rw [u8s_len, List.length_take] at hj2
    unfold u8s at hj ⊢
    rw [List.getElem?_map, List.getElem?_take_of_lt (by omega)] at hj
    rw [List.getElem?_map]; exact hj
  · intro w' h1 h2
    have e1 : splice (u8s cur) 0 (u8s (src.take cur.length)) = u8s (overlay cur src) := by
      unfold splice overlay
      rw [hcl2, List.take_zero, List.nil_append, Nat.zero_add, u8s_append, ← hl]
      congr 1
      unfold u8s
      rw [List.map_drop]
    have h3 := h w' (by rw [← e1]; exact h1) h2
    have e2 : goInt ((u8s (src.take cur.length)).length : Nat) = .int .i64 ((min sLen cur.length : Nat) : Int) := by rw [hcl2]; rfl
    rw [e2]
    exact h3
end

/-- A row of rows that may be read: its elements, each with room. -/
def RowsR (w : World) (a : Option Addr) (ls : List (List Nat)) : Prop :=
  ∀ (k : Nat) (x : List Nat), ls[k]? = some x → ∃ g off b cp, a = some ⟨g, off, none⟩ ∧ g < w.heap.size ∧ w.cell? ⟨g, off + k, none⟩ = some (.slice b x.length cp) ∧ Bytes w b x.length x ∧ (b = none → cp = 0) ∧ x.length ≤ cp ∧ cp ≤ maxLen
theorem RowsR.below {w w' : World} {a : Option Addr} {ls : List (List Nat)} (h : RowsR w a ls) (hb : Below w.heap.size w w') : RowsR w' a ls := by
  intro k x hx
  obtain ⟨g, off, b, cp, h1, h2, h3, h4, h5⟩ := h k x hx
  exact ⟨g, off, b, cp, h1, Nat.lt_of_lt_of_le h2 hb.size, (hb.cell (p := ⟨g, off + k, none⟩) h2).trans h3, h4.below hb (Nat.le_refl _), h5⟩

/-- Rows of the call's own whose elements have room that a machine has. -/
def capOf : Value → Nat
  | .slice _ _ c => c
  | _ => 0
def RowsZ (B : Nat) (e : TypeId) (w : World) (v : Value) (ls : List (List Nat)) : Prop :=
  ∃ us, w.ownsRow B e 1 v ls.length us ∧ us.length = ls.length ∧ (∀ (i : Nat) (x : List Nat), ls[i]? = some x → ∃ u : Value, (us[i]? : Option Value) = some u ∧ ElemAt B w v.ownBlock x u) ∧ ∀ u ∈ us, capOf u ≤ maxLen
theorem RowsZ.at {B : Nat} {e : TypeId} {w : World} {v : Value} {ls : List (List Nat)} (h : RowsZ B e w v ls) : RowsAt B e w v ls := by
  obtain ⟨us, h1, h2, h3, _⟩ := h
  exact ⟨us, h1, h2, h3⟩
theorem RowsZ.nil (B : Nat) (e : TypeId) (w : World) : RowsZ B e w (.slice none 0 0) [] := ⟨[], ⟨rfl, .inl ⟨rfl, rfl⟩⟩, rfl, fun i x h => by simp at h, by simp⟩
theorem RowsZ.below {B : Nat} {e : TypeId} {w w' : World} {v : Value} {ls : List (List Nat)} (h : RowsZ B e w v ls) (hb : Below w.heap.size w w') : RowsZ B e w' v ls := by
  obtain ⟨us, h1, h2, h3, h4⟩ := h
  exact ⟨us, own_below h1 hb (Nat.le_refl _), h2, fun i x hx => by
    obtain ⟨u, hu, he⟩ := h3 i x hx
    exact ⟨u, hu, he.below hb⟩, h4⟩
theorem Bytes.setOther {w : World} {a : Option Addr} {n : Nat} {l : List Nat} (h : Bytes w a n l) {p : Addr} (hp : 0 < n → ∀ ad, a = some ad → ad.block ≠ p.block) (u : Value) : Bytes (w.setCell p u) a n l :=
  ⟨h.1, h.2.1, fun h0 => by
    obtain ⟨b, off, he, hlt, hc⟩ := h.2.2 h0
    refine ⟨b, off, he, by simpa using hlt, fun i hi => ?_⟩
    have hne : p ≠ ⟨b, off + i, none⟩ := by
      intro h2
      exact hp h0 _ he (by rw [h2])
    rw [World.cell?_setCell_other (h := hne)]
    exact hc i hi⟩
theorem RowsZ.setLow {B : Nat} {e : TypeId} {w : World} {v : Value} {ls : List (List Nat)} (h : RowsZ B e w v ls) {p : Addr} (hp : p.block < B) (u : Value) : RowsZ B e (w.setCell p u) v ls := by
  obtain ⟨us, h1, h2, h3, h4⟩ := h
  refine ⟨us, ownsRow_setCell_below h1 hp u, h2, fun i x hx => ?_, h4⟩
  obtain ⟨z, hz, a, cap, k1, k2, k3, k4, k5⟩ := h3 i x hx
  refine ⟨z, hz, a, cap, k1, k2.setOther (fun q ad e => ?_) u, k3, k4, fun q ad e => ?_⟩
  · have := (k5 q ad e).1; omega
  · have := k5 q ad e
    exact ⟨this.1, by simpa using this.2.1, this.2.2⟩
theorem RowsZ.reads {B : Nat} {e : TypeId} {w : World} {v : Value} {ls : List (List Nat)} (h : RowsZ B e w v ls) : ∃ a cap, v = .slice a ls.length cap ∧ RowsR w a ls := by
  obtain ⟨us, h1, h2, h3, h4⟩ := h
  rcases h1.2 with ⟨rfl, h0⟩ | ⟨g, cap, cur, rfl, r⟩
  · have hn : ls = [] := List.eq_nil_of_length_eq_zero h0
    subst hn
    exact ⟨none, 0, rfl, fun i x h => by simp at h⟩
  · refine ⟨_, cap, rfl, fun i x hx => ?_⟩
    have hi : i < ls.length := (List.getElem?_eq_some_iff.1 hx).1
    obtain ⟨u, hu, b, cp, hb, hy, hnil, hle, _⟩ := h3 i x hx
    have hm : u ∈ us := by rw [← (List.getElem?_eq_some_iff.1 hu).2]; exact List.getElem_mem _
    have hcp := h4 u hm
    rw [hb] at hcp
    refine ⟨g, 0, b, cp, rfl, (h1.lt g rfl).2, ?_, hy, hnil, hle, hcp⟩
    rw [Nat.zero_add, h1.cellAt i (by omega), hu, hb]
section
variable {P : Program} {ops : Array Oper} {rest : List Oper} {o : Oper} {a : Act} {w : World} {Q : Exit → Act → World → Prop}
theorem wpList_app_rowZ (hgd : o.guard = none) (s x : Operand) (t T : TypeId)
    (ho : o.op = .call { callee := .builtin .append, args := #[s, x], argTypes := #[t, t] })
    (ht : P.underlying t = some (.slice T)) (hinfo : (P.info? T).map (fun i => (i.zero, i.size, i.bytes)) = some (some (.slice none 0 0), 1, 24))
    (B : Nat) (v : Value) (ls : List (List Nat)) (hs : a.eval s = v) (hR : RowsZ B T w v ls) (g : Nat) (hx : a.eval x = .slice (some ⟨g, 0, none⟩) 1 1)
    (y : List Nat) (u : Value) (hg : w.cell? ⟨g, 0, none⟩ = some u) (hu : ElemAt B w v.ownBlock y u) (hcap : capOf u ≤ maxLen) (hl : ls.length ≤ 1000000) (hB : B ≤ w.heap.size)
    (h : ∀ v' w', RowsZ B T w' v' (ls ++ [y]) → w.grownBy w' v.ownBlock → wpList P ops Q rest (a.put o.dst v') w') :
    wpList P ops Q (o :: rest) a w := by
  obtain ⟨i, hi, hz, hsz, hby⟩ := info_parts hinfo
  obtain ⟨us, hown, hul, huel, hcs⟩ := hR
  have hone : u.oneCell' = true := by obtain ⟨_, _, rfl, _⟩ := hu; rfl
  refine wpList_append_own_at _ hgd s x t ho B T i (.slice none 0 0) 1 24 ht hi hz hsz hby rfl (by omega) v ls.length us hs hown ⟨g, 0, none⟩ 1 1 [u] hx rfl ?_ ?_ (by unfold maxLen; omega) (by omega) hB ?_
  · intro j c hj
    match j, hj with
    | 0, hj =>
      simp at hj; subst hj
      rw [Go.WideShapes.add_plain]; exact hg
  · intro c hc
    simp at hc; subst hc; exact hone
  · intro v' w' h1 h2 _ h4
    refine h v' w' ⟨us ++ [u], by simpa using h1, by simp [hul], rows_grown (e := T) hul huel hu h2 h4, ?_⟩ h2
    intro c hc
    rcases List.mem_append.1 hc with q | q
    · exact hcs c q
    · simp at q; subst q; exact hcap
end

/-- A slice of slices of bytes that came in. -/
structure Elem where
  a : Option Addr
  cap : Nat
  l : List Nat
def Elem.cells (x : Elem) : List Value := [.slice x.a x.l.length x.cap]
section
variable {H : Type} {enc : TypeId × Value → H} {P : Program}
theorem trod_bytes {w : World} {T e : TypeId} (ht : P.underlying T = some (.slice e)) (he : P.underlying e = some (.int .u8)) (hsz : P.cellsOf e = 1) {n : Nat} {cs : List Value} {y : DataW H × List MemPlace}
    (h : DataW.trod enc P w 0 (fun _ => true) true n T cs = some y) : ∃ x : Elem, cs = x.cells ∧ Bytes w x.a x.l.length x.l ∧ (x.a = none → x.cap = 0) ∧ x.l.length ≤ x.cap ∧ x.cap ≤ maxLen := by
  rcases DataW.trod_slice ht h with ⟨hcs, hx⟩ | ⟨a', len', cap', elems, rest, n, _, hcs, hx, hb, hl, hm, hlen, hel, hsp, _⟩
  · exact ⟨⟨none, 0, []⟩, hcs, ⟨rfl, by simp, fun h => by simp at h⟩, fun _ => rfl, Nat.le_refl _, Nat.zero_le _⟩
  · have each : ∀ i, i < len' → ∃ x : Int, w.cells? 0 (a'.add (i * 1)) 1 = some [.int .u8 x] ∧ (Lit.int .u8 x).wf = true := by
      intro i hi
      have h1 := hel i hi
      rw [hsz, List.getElem?_eq_getElem (by omega), Option.bind_eq_some_iff] at h1
      obtain ⟨cs, hc, hy⟩ := h1
      obtain ⟨m, h1, _, h3⟩ := DataW.trod_int he hy
      subst h1
      exact ⟨m, hc, h3⟩
    by_cases hz : len' = 0
    · subst hz
      exact ⟨⟨some a', cap', []⟩, hcs, ⟨rfl, by simp, fun h => by simp at h⟩, fun h => by simp at h, hl, hm⟩
    · obtain ⟨x0, hx0, _⟩ := each 0 (by omega)
      have hs0 := (World.cells?_some hx0).2.2 0 (by omega)
      have hblk : a'.block < w.heap.size := by
        have := World.cells?_block hx0 (by omega)
        simpa [Addr.add] using this
      obtain ⟨b, off, spot⟩ := a'
      have hspot : spot = none := by simpa [Addr.add] using World.cell?_spot hs0
      subst hspot
      obtain ⟨g, hg⟩ := Go.Deep.choose_lt each
      refine ⟨⟨some ⟨b, off, none⟩, cap', (List.range len').map fun i => (g i).toNat⟩, by rw [hcs]; simp [Elem.cells], ⟨rfl, ?_, ?_⟩, fun h => by simp at h, by simpa using hl, hm⟩
      · intro c hc
        simp only [List.mem_map, List.mem_range] at hc
        obtain ⟨i, hi, rfl⟩ := hc
        have := bounds_u8 (hg i hi).2
        omega
      · intro _
        refine ⟨b, off, rfl, hblk, fun i hi => ?_⟩
        have hi2 : i < len' := by simpa using hi
        have h2 := (World.cells?_some (hg i hi2).1).2.2 0 (by omega)
        rw [Go.Deep.add_add, Go.WideShapes.add_plain] at h2
        have h3 : w.cell? ⟨b, off + i, none⟩ = some (.int .u8 (g i)) := by simpa using h2
        rw [h3]
        have := bounds_u8 (hg i hi2).2
        simp [List.getD, hi2]
        omega

theorem open_rowsB {w : World} {r : Reach} {b0 : Nat} {t T e : TypeId} {v : Value} {d : DataW H} {ps : List MemPlace} (ht : P.underlying t = some (.slice T)) (hT : P.underlying T = some (.slice e)) (he : P.underlying e = some (.int .u8)) (hsT : P.cellsOf T = 1) (hsz : P.cellsOf e = 1)
    (hval : Value.okWide P w r b0 t v) (hd : DataW.Trod enc P w 0 (fun _ => true) true t v d ps) :
    ∃ a len cap ls, v = .slice a len cap ∧ len ≤ cap ∧ cap ≤ maxLen ∧ (a = none → cap = 0) ∧ ls.length = len ∧ RowsR w a ls ∧ (∀ x ∈ ls, ∀ c ∈ x, c < 256) ∧ (∀ x ∈ ls, x.length ≤ maxLen) := by
  obtain ⟨a, len, cap, xs, h1, h2, h3, h4, h5, h6, _⟩ := open_rows (α := Elem) (sz := 1) (cf := Elem.cells) (wf := fun x => Bytes w x.a x.l.length x.l ∧ (x.a = none → x.cap = 0) ∧ x.l.length ≤ x.cap ∧ x.cap ≤ maxLen) ht hsT (by omega) (fun _ => rfl) (fun n cs y h => trod_bytes hT he hsz h) hval hd
  refine ⟨a, len, cap, xs.map (·.l), h1, h2, h3, h4, by simpa using h5.1, ?_, ?_, ?_⟩
  · intro k x hx
    rw [List.getElem?_map, Option.map_eq_some_iff] at hx
    obtain ⟨y, hy, rfl⟩ := hx
    have hk : k < xs.length := (List.getElem?_eq_some_iff.1 hy).1
    obtain ⟨b, off, rfl, hlt, hc⟩ := h5.2 (by rw [← h5.1]; omega)
    have hm : y ∈ xs := by rw [← (List.getElem?_eq_some_iff.1 hy).2]; exact List.getElem_mem _
    obtain ⟨q1, q2, q3, q4⟩ := h6 y hm
    refine ⟨b, off, y.a, y.cap, rfl, hlt, ?_, q1, q2, q3, q4⟩
    have := hc k y hy 0 (by omega)
    simpa [Elem.cells] using this
  · intro x hx
    simp only [List.mem_map] at hx
    obtain ⟨y, hy, rfl⟩ := hx
    exact (h6 y hy).1.2.1
  · intro x hx
    simp only [List.mem_map] at hx
    obtain ⟨y, hy, rfl⟩ := hx
    have := h6 y hy
    exact Nat.le_trans this.2.2.1 this.2.2.2
end

end Go.Proofs.Ytkdjimcpdbpemaa
