/- nand: a flash in memory. -/
import Derived.Test.YtbbhniohliklhaaStructs
import Derived.Test.YtbbhniohliklhaaMut
import Derived.Test.YtbbhniohliklhaaZone
import Derived.Test.YtbbhniohliklhaaRowsC
namespace Go.Proofs.Ytbbhniohliklhaa
open Go Go.RowKit
set_option linter.unusedVariables false

theorem Try.infoU8 : (Try.prog.info? 5).map (fun i => (i.zero, i.size, i.bytes)) = some (some (.int .u8 0), 1, 1) := by kernel_rfl

/-- A block: its pages' bytes (none at all: nil), and what else it has. -/
structure NB where
  pages : List (List Nat)
  next : Int
  half : Bool
  one : Bool
  failed : Bool
def NB.cell (x : NB) : Nat → Value
  | 1 => .int .i64 x.next
  | 2 => .bool x.half
  | 3 => .bool x.one
  | _ => .bool x.failed
/-- A flash. -/
structure NF where
  off : Bool
  armed : Int
  st : Int
  bl : List NB
  np : Nat
  ch : Nat
  pr : Int
  rd : Int
  er : Int
def NF.cells (F : NF) (gl : Nat) : Array Value := #[.bool F.off, .int .i64 F.armed, .int .i64 F.st, .slice (some ⟨gl, 0, none⟩) F.bl.length F.bl.length, .int .i64 (F.np : Int), .int .i64 (F.ch : Int), .int .i64 F.pr, .int .i64 F.rd, .int .i64 F.er]

/-- A page's value: nil, or a row of its own in the zone. -/
def PgV (S : Zone) (w : World) (v : Value) (l : List Nat) : Prop := (l = [] ∧ v = .slice none 0 0) ∨ (0 < l.length ∧ w.ownsRow 0 5 1 v l.length (u8s l) ∧ ∀ k, v.ownBlock = some k → S k)
theorem PgV.same {S : Zone} {w w' : World} {v : Value} {l : List Nat} (h : PgV S w v l) (hs : SameOn S w w') : PgV S w' v l := by
  rcases h with h | ⟨h0, h1, h2⟩
  · exact .inl h
  · exact .inr ⟨h0, own_same h1 hs h2, h2⟩
theorem PgV.mono {S S' : Zone} {w : World} {v : Value} {l : List Nat} (h : PgV S w v l) (hS : S.le S') : PgV S' w v l := by
  rcases h with h | ⟨h0, h1, h2⟩
  · exact .inl h
  · exact .inr ⟨h0, h1, fun k hk => hS k (h2 k hk)⟩
/-- A row of bytes is not one of another type's. -/
theorem PgV.set {S : Zone} {w : World} {v : Value} {l : List Nat} (h : PgV S w v l) {p : Addr} {C : Array Value} {T : TypeId} (hp : HasB w p.block C T) (hT : T ≠ 5) (u : Value) : PgV S (w.setCell p u) v l := by
  rcases h with h | ⟨h0, h1, h2⟩
  · exact .inl h
  · refine .inr ⟨h0, ⟨h1.1, ?_⟩, h2⟩
    rcases h1.2 with q | ⟨g, cap, cur, hv, hg, hh, r⟩
    · exact .inl q
    · refine .inr ⟨g, cap, cur, hv, hg, ?_, r⟩
      have hne : g ≠ p.block := by
        intro e
        rw [e] at hh
        have : HasB w p.block C T := hp
        unfold HasB at this
        rw [this] at hh
        cases hh
        exact hT rfl
      exact (Below.heap_setCell _ _ _ _ hne).trans hh

structure NMem where
  gl : Nat
  pg : Nat → Nat
  vs : Nat → Nat → Value

/-- A flash in memory; its blocks lie in the zone S; of a page that ex names nothing is said but where its value lies. -/
structure FlashX (M : NMem) (S : Zone) (w : World) (g : Nat) (F : NF) (ex : Nat → Nat → Bool) : Prop where
  own : HasB w g (F.cells M.gl) 43
  blk : ∃ C, HasB w M.gl C 67 ∧ C.size = 5 * F.bl.length ∧ ∀ i x, F.bl[i]? = some x → C[5 * i]? = some (.slice (some ⟨M.pg i, 0, none⟩) F.np F.np) ∧ ∀ k, 1 ≤ k → k < 5 → C[5 * i + k]? = some (x.cell k)
  pgs : ∀ i x, F.bl[i]? = some x → x.pages.length = F.np ∧ ∃ D, HasB w (M.pg i) D 29 ∧ D.size = F.np ∧ ∀ j l, x.pages[j]? = some l → D[j]? = some (M.vs i j) ∧ (ex i j = false → PgV S w (M.vs i j) l)
  inj : ∀ i j, i < F.bl.length → j < F.bl.length → M.pg i = M.pg j → i = j
  zone : S g ∧ S M.gl ∧ ∀ i, i < F.bl.length → S (M.pg i)
def noEx (i j : Nat) : Bool := false
def exAt (n p : Nat) (i j : Nat) : Bool := i == n && j == p
/-- A flash in a zone, all of which lies there. -/
def FlashAt (S : Zone) (w : World) (g : Nat) (F : NF) : Prop := (∃ M, FlashX M S w g F noEx) ∧ S.lives w

theorem FlashX.same {M : NMem} {S : Zone} {w w' : World} {g : Nat} {F : NF} {ex : Nat → Nat → Bool} (h : FlashX M S w g F ex) (hs : SameOn S w w') : FlashX M S w' g F ex := by
  refine ⟨h.own.same hs h.zone.1, ?_, fun i x hx => ?_, h.inj, h.zone⟩
  · obtain ⟨C, h1, h2, h3⟩ := h.blk
    exact ⟨C, h1.same hs h.zone.2.1, h2, h3⟩
  · obtain ⟨h1, D, h2, h3, h4⟩ := h.pgs i x hx
    have hi : i < F.bl.length := (List.getElem?_eq_some_iff.1 hx).1
    exact ⟨h1, D, h2.same hs (h.zone.2.2 i hi), h3, fun j l hl => ⟨(h4 j l hl).1, fun he => ((h4 j l hl).2 he).same hs⟩⟩
theorem FlashX.below {M : NMem} {S : Zone} {w w' : World} {g : Nat} {F : NF} {ex : Nat → Nat → Bool} (h : FlashX M S w g F ex) (hb : Below w.heap.size w w') : FlashX M S w' g F ex := h.same (SameOn.below hb)
theorem FlashX.mono {M : NMem} {S S' : Zone} {w : World} {g : Nat} {F : NF} {ex : Nat → Nat → Bool} (h : FlashX M S w g F ex) (hS : S.le S') : FlashX M S' w g F ex := by
  refine ⟨h.own, h.blk, fun i x hx => ?_, h.inj, ⟨hS _ h.zone.1, hS _ h.zone.2.1, fun i hi => hS _ (h.zone.2.2 i hi)⟩⟩
  obtain ⟨h1, D, h2, h3, h4⟩ := h.pgs i x hx
  exact ⟨h1, D, h2, h3, fun j l hl => ⟨(h4 j l hl).1, fun he => ((h4 j l hl).2 he).mono hS⟩⟩
theorem FlashAt.same {S : Zone} {w w' : World} {g : Nat} {F : NF} (h : FlashAt S w g F) (hs : SameOn S w w') : FlashAt S w' g F := by
  obtain ⟨⟨M, h⟩, hl⟩ := h
  exact ⟨⟨M, h.same hs⟩, fun k hk => Nat.lt_of_lt_of_le (hl k hk) hs.1⟩
theorem FlashAt.below {S : Zone} {w w' : World} {g : Nat} {F : NF} (h : FlashAt S w g F) (hb : Below w.heap.size w w') : FlashAt S w' g F := h.same (SameOn.below hb)

theorem hasB_ne {w : World} {a b : Nat} {C D : Array Value} {S T : TypeId} (h : HasB w a C S) (k : HasB w b D T) (hST : S ≠ T) : a ≠ b := by
  intro e
  subst e
  unfold HasB at h k
  rw [h] at k
  cases k
  exact hST rfl

/-- A field of the flash's own is set. -/
theorem FlashX.setOwn {M : NMem} {S : Zone} {w : World} {g : Nat} {F F' : NF} {ex : Nat → Nat → Bool} (h : FlashX M S w g F ex) (k : Nat) (v : Value) (hc : (F.cells M.gl).setIfInBounds k v = F'.cells M.gl) (hbl : F'.bl = F.bl) (hnp : F'.np = F.np) : FlashX M S (w.setCell ⟨g, k, none⟩ v) g F' ex := by
  refine ⟨by rw [← hc]; exact h.own.set k v, ?_, fun i x hx => ?_, by rw [hbl]; exact h.inj, by rw [hbl]; exact h.zone⟩
  · obtain ⟨C, h1, h2, h3⟩ := h.blk
    refine ⟨C, h1.set_other (hasB_ne h1 h.own (by decide)) _, by rw [hbl]; exact h2, ?_⟩
    rw [hbl, hnp]; exact h3
  · rw [hbl] at hx
    obtain ⟨h1, D, h2, h3, h4⟩ := h.pgs i x hx
    rw [hnp]
    exact ⟨h1, D, h2.set_other (hasB_ne h2 h.own (by decide)) _, h3, fun j l hl => ⟨(h4 j l hl).1, fun he => ((h4 j l hl).2 he).set (p := ⟨g, k, none⟩) h.own (by decide) v⟩⟩

/-- A field of a block is set. -/
theorem FlashX.setBlk {M : NMem} {S : Zone} {w : World} {g : Nat} {F : NF} {ex : Nat → Nat → Bool} (h : FlashX M S w g F ex) (n : Nat) (x x' : NB) (hx : F.bl[n]? = some x) (k : Nat) (hk1 : 1 ≤ k) (hk5 : k < 5) (v : Value) (hp : x'.pages = x.pages) (hv : ∀ j, 1 ≤ j → j < 5 → x'.cell j = if j = k then v else x.cell j) :
    FlashX M S (w.setCell ⟨M.gl, 5 * n + k, none⟩ v) g { F with bl := F.bl.set n x' } ex := by
  have hn : n < F.bl.length := (List.getElem?_eq_some_iff.1 hx).1
  have hget : ∀ i y, (F.bl.set n x')[i]? = some y → (i = n ∧ y = x') ∨ (i ≠ n ∧ F.bl[i]? = some y) := by
    intro i y hy
    by_cases q : i = n
    · subst q
      rw [List.getElem?_set_self hn] at hy
      exact .inl ⟨rfl, (Option.some.inj hy).symm⟩
    · rw [List.getElem?_set_ne (by omega)] at hy
      exact .inr ⟨q, hy⟩
  obtain ⟨C, h1, h2, h3⟩ := h.blk
  refine ⟨?_, ?_, fun i y hy => ?_, ?_, ?_⟩
  · have := h.own.set_other (p := ⟨M.gl, 5 * n + k, none⟩) (hasB_ne h.own h1 (by decide)) v
    simpa [NF.cells] using this
  · refine ⟨C.setIfInBounds (5 * n + k) v, h1.set _ v, by simp [h2], fun i y hy => ?_⟩
    rcases hget i y hy with ⟨rfl, rfl⟩ | ⟨hne, hy'⟩
    · obtain ⟨e1, e2⟩ := h3 i x hx
      refine ⟨by rw [Array.getElem?_setIfInBounds, if_neg (by omega)]; exact e1, fun j hj1 hj5 => ?_⟩
      rw [Array.getElem?_setIfInBounds, hv j hj1 hj5]
      by_cases q : j = k
      · rw [if_pos (by omega), if_pos (by omega), if_pos q]
      · rw [if_neg (by omega), if_neg q]; exact e2 j hj1 hj5
    · obtain ⟨e1, e2⟩ := h3 i y hy'
      refine ⟨by rw [Array.getElem?_setIfInBounds, if_neg (by omega)]; exact e1, fun j hj1 hj5 => ?_⟩
      rw [Array.getElem?_setIfInBounds, if_neg (by omega)]
      exact e2 j hj1 hj5
  · have hmain : ∀ z, F.bl[i]? = some z → y.pages = z.pages → (y.pages.length = F.np ∧ ∃ D, HasB (w.setCell ⟨M.gl, 5 * n + k, none⟩ v) (M.pg i) D 29 ∧ D.size = F.np ∧ ∀ j l, y.pages[j]? = some l → D[j]? = some (M.vs i j) ∧ (ex i j = false → PgV S (w.setCell ⟨M.gl, 5 * n + k, none⟩ v) (M.vs i j) l)) := by
      intro z hz hyz
      obtain ⟨e1, D, e2, e3, e4⟩ := h.pgs i z hz
      exact ⟨by rw [hyz]; exact e1, D, e2.set_other (hasB_ne e2 h1 (by decide)) _, e3, fun j l hl => by
        rw [hyz] at hl
        exact ⟨(e4 j l hl).1, fun he => ((e4 j l hl).2 he).set (p := ⟨M.gl, 5 * n + k, none⟩) h1 (by decide) v⟩⟩
    rcases hget i y hy with ⟨rfl, rfl⟩ | ⟨hne, hy'⟩
    · exact hmain x hx hp
    · exact hmain y hy' rfl
  · simp only [List.length_set]; exact h.inj
  · simp only [List.length_set]; exact h.zone

/-- A page's value is set. -/
theorem FlashX.setPg {M : NMem} {S : Zone} {w : World} {g : Nat} {F : NF} {ex : Nat → Nat → Bool} (h : FlashX M S w g F ex) (n p : Nat) (x : NB) (hx : F.bl[n]? = some x) (hp : p < F.np) (v : Value) (l : List Nat) :
    FlashX { M with vs := fun i j => if i = n ∧ j = p then v else M.vs i j } S (w.setCell ⟨M.pg n, p, none⟩ v) g { F with bl := F.bl.set n { x with pages := x.pages.set p l } } (fun i j => ex i j || (i == n && j == p)) := by
  have hn : n < F.bl.length := (List.getElem?_eq_some_iff.1 hx).1
  have hget : ∀ i y, (F.bl.set n { x with pages := x.pages.set p l })[i]? = some y → (i = n ∧ y = { x with pages := x.pages.set p l }) ∨ (i ≠ n ∧ F.bl[i]? = some y) := by
    intro i y hy
    by_cases q : i = n
    · subst q
      rw [List.getElem?_set_self hn] at hy
      exact .inl ⟨rfl, (Option.some.inj hy).symm⟩
    · rw [List.getElem?_set_ne (by omega)] at hy
      exact .inr ⟨q, hy⟩
  obtain ⟨C, h1, h2, h3⟩ := h.blk
  obtain ⟨e1, D, e2, e3, e4⟩ := h.pgs n x hx
  refine ⟨?_, ?_, fun i y hy => ?_, ?_, ?_⟩
  · have := h.own.set_other (p := ⟨M.pg n, p, none⟩) (hasB_ne h.own e2 (by decide)) v
    simpa [NF.cells] using this
  · refine ⟨C, h1.set_other (p := ⟨M.pg n, p, none⟩) (hasB_ne h1 e2 (by decide)) v, by simp [h2], fun i y hy => ?_⟩
    rcases hget i y hy with ⟨rfl, rfl⟩ | ⟨hne, hy'⟩
    · obtain ⟨q1, q2⟩ := h3 i x hx
      exact ⟨q1, fun k k1 k5 => by
        rw [q2 k k1 k5]
        match k, k1, k5 with
        | 1, _, _ => rfl
        | 2, _, _ => rfl
        | 3, _, _ => rfl
        | 4, _, _ => rfl⟩
    · exact h3 i y hy'
  · rcases hget i y hy with ⟨rfl, rfl⟩ | ⟨hne, hy'⟩
    · refine ⟨by simp [e1], D.setIfInBounds p v, e2.set p v, by simp [e3], fun j l' hl => ?_⟩
      by_cases q : j = p
      · subst q
        refine ⟨by rw [Array.getElem?_setIfInBounds, if_pos rfl, if_pos (by omega)]; simp, fun he => by simp at he⟩
      · dsimp only at hl
        rw [List.getElem?_set_ne (by omega)] at hl
        obtain ⟨q1, q2⟩ := e4 j l' hl
        refine ⟨by rw [Array.getElem?_setIfInBounds, if_neg (by omega), q1]; simp [q], fun he => ?_⟩
        have := (q2 (by simpa [q] using he)).set (p := ⟨M.pg i, p, none⟩) e2 (by decide) v
        simpa [q] using this
    · obtain ⟨q1, D', q2, q3, q4⟩ := h.pgs i y hy'
      have hi : i < F.bl.length := (List.getElem?_eq_some_iff.1 hy').1
      have hne2 : M.pg i ≠ M.pg n := fun e => hne (h.inj i n hi hn e)
      refine ⟨q1, D', q2.set_other (p := ⟨M.pg n, p, none⟩) hne2 v, q3, fun j l' hl => ⟨by rw [(q4 j l' hl).1]; simp [hne], fun he => ?_⟩⟩
      have := ((q4 j l' hl).2 (by simpa [hne] using he)).set (p := ⟨M.pg n, p, none⟩) e2 (by decide) v
      simpa [hne] using this
  · simp only [List.length_set]; exact h.inj
  · simp only [List.length_set]; exact h.zone

end Go.Proofs.Ytbbhniohliklhaa
