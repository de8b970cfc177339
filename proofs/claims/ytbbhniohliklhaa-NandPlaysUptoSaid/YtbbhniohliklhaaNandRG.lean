/- nand: the reference: Program: what is kept. -/
import Derived.Test.YtbbhniohliklhaaNandRF
namespace Go.Proofs.Ytbbhniohliklhaa
open Go Go.RowKit
set_option linter.unusedVariables false

section
variable {P : Program} {ops : Array Oper} {rest : List Oper} {o : Oper} {a : Act} {w : World} {Q : Exit → Act → World → Prop}
/-- 'append' of one slice onto a row of slices. -/
theorem wp_appS {K : Act → World → Prop} (s x : Operand) (t : TypeId)
    (ho : o.op = .call { callee := .builtin .append, args := #[s, x], argTypes := #[t, t] })
    (e : TypeId) (ht : P.underlying t = some (.slice e)) (hinfo : (P.info? e).map (fun i => (i.zero, i.size, i.bytes)) = some (some (.slice none 0 0), 1, 24))
    (v : Value) (n : Nat) (xs : List Value) (hs : a.eval s = v) (hown : w.ownsRow 0 e 1 v n xs)
    (xa : Addr) (c : Nat) (u : Value) (hx : a.eval x = .slice (some xa) 1 c) (hu : w.cell? (xa.add 0) = some u) (h1 : u.oneCell' = true)
    (hb : n ≤ 1000000)
    (h : ∀ v' w', w'.ownsRow 0 e 1 v' (n + 1) (xs ++ [u]) → w.grownBy w' v.ownBlock → (v'.ownBlock = v.ownBlock ∨ v'.ownBlock = some w.heap.size) → K (a.put o.dst v') w') : o.wp P a w K Q := by
  obtain ⟨i, hi, hz, hsz, hby⟩ := info_parts hinfo
  obtain ⟨v', w', hrun, g1, g2, _, g4⟩ := run_append_own_at (P := P) (w := w) 0 t o.type e i (.slice none 0 0) 1 24 ht hi hz hsz hby rfl (by decide) v n xs hown xa 1 c [u] rfl (by
    intro j y hj
    match j, hj with
    | 0, hj => simp at hj; subst hj; exact hu
    | j + 1, hj => simp at hj) (by intro y hy; simp at hy; subst hy; exact h1) (by unfold maxLen; omega) (by omega) (Nat.zero_le _)
  unfold Oper.wp
  simp [execOp, ho, resolve, invoke, builtin, hs, hx, hrun, Result.andThen]
  exact h v' w' g1 g2 g4
theorem step_appS {K : Act → World → Prop} {E : Prop} (hw : Region.wanted o (yielded ops a.tmps) = true) (s x : Operand) (t : TypeId)
    (ho : o.op = .call { callee := .builtin .append, args := #[s, x], argTypes := #[t, t] })
    (e : TypeId) (ht : P.underlying t = some (.slice e)) (hinfo : (P.info? e).map (fun i => (i.zero, i.size, i.bytes)) = some (some (.slice none 0 0), 1, 24))
    (v : Value) (n : Nat) (xs : List Value) (hs : a.eval s = v) (hown : w.ownsRow 0 e 1 v n xs)
    (xa : Addr) (c : Nat) (u : Value) (hx : a.eval x = .slice (some xa) 1 c) (hu : w.cell? (xa.add 0) = some u) (h1 : u.oneCell' = true)
    (hb : n ≤ 1000000)
    (h : ∀ v' w', w'.ownsRow 0 e 1 v' (n + 1) (xs ++ [u]) → w.grownBy w' v.ownBlock → (v'.ownBlock = v.ownBlock ∨ v'.ownBlock = some w.heap.size) → K (a.put o.dst v') w') : if Region.wanted o (yielded ops a.tmps) = true then Oper.wp P o a w K Q else E := by
  rw [if_pos hw]
  exact wp_appS s x t ho e ht hinfo v n xs hs hown xa c u hx hu h1 hb h
end
theorem PgV.keptR {S : Zone} {w w' : World} {v : Value} {l : List Nat} {row : Option Nat} (h : PgV S w v l) (hg : w.grownBy w' row) (hr : ∀ g, row = some g → ∃ C, HasB w g C 29) : PgV S w' v l := by
  cases row with
  | none =>
    rcases h with h | ⟨h0, h1, h2⟩
    · exact .inl h
    · exact .inr ⟨h0, h1.kept hg (by cases v.ownBlock <;> simp), h2⟩
  | some g =>
    obtain ⟨C, hC⟩ := hr g rfl
    exact h.kept hC (by decide) hg
section
variable {M : RMem} {S : Zone} {w w1 : World} {g : Nat} {F : NF} {ex : Nat → Nat → Bool}
theorem RefX.has (h : RefX M S w g F ex) {n : Nat} {x : NB} (hx : F.bl[n]? = some x) : ∀ k, (M.vl n).ownBlock = some k → ∃ C, HasB w k C 29 := by
  intro k hk
  obtain ⟨r1, _, _⟩ := h.rows n x hx
  rcases r1.2 with ⟨q, _⟩ | ⟨g', cap, cur, q, _, hh, _⟩
  · rw [q] at hk; simp [Value.ownBlock] at hk
  · rw [q] at hk
    simp [Value.ownBlock] at hk
    subst hk
    exact ⟨cur, hh⟩
/-- A page is put behind a block's others. -/
theorem RefX.app (h : RefX M S w g F noEx) (n p : Nat) (x x' : NB) (hx : F.bl[n]? = some x) (hn : x.next = (p : Int)) (v : Value) (hn' : x'.next = ((p + 1 : Nat) : Int)) (e1 : x'.one = x.one) (e2 : x'.half = x.half) (e3 : x'.failed = x.failed) (e4 : ∀ j l, j < p → x'.pages[j]? = some l → x.pages[j]? = some l)
    (vl' : Value) (h1 : w1.ownsRow 0 29 1 vl' (p + 1) (M.row n p ++ [v])) (hg : w.grownBy w1 (M.vl n).ownBlock) (hat : vl'.ownBlock = (M.vl n).ownBlock ∨ ∃ b, vl'.ownBlock = some b ∧ ¬ S b) :
    RefX ⟨M.gb, fun i => if i = n then vl' else M.vl i, fun i j => if i = n ∧ j = p then v else M.vs i j⟩ (fun k => S k ∨ vl'.ownBlock = some k) (w1.setCell ⟨M.gb, 4 * n, none⟩ vl') g (F.setB n x') (exK n p 1) := by
  have hln : n < F.bl.length := lt_of_get hx
  have hget : ∀ i y, (F.setB n x').bl[i]? = some y → (i = n ∧ y = x') ∨ (i ≠ n ∧ F.bl[i]? = some y) := by
    intro i y hy
    simp only [NF.setB] at hy
    by_cases q : i = n
    · subst q
      rw [List.getElem?_set_self hln] at hy
      exact .inl ⟨rfl, (Option.some.inj hy).symm⟩
    · rw [List.getElem?_set_ne (by omega)] at hy
      exact .inr ⟨q, hy⟩
  have hty := h.has hx
  obtain ⟨C, k1, k2, k3⟩ := h.blk
  have hne : ∀ b Cb Tb, HasB w b Cb Tb → Tb ≠ 29 → some b ≠ (M.vl n).ownBlock := by
    intro b Cb Tb hb hT e
    obtain ⟨D, hD⟩ := hty b e.symm
    exact hasB_ne hb hD hT rfl
  have q1 := h.own.kept hg (hne _ _ _ h.own (by decide))
  have q2 := k1.kept hg (hne _ _ _ k1 (by decide))
  refine ⟨?_, ?_, fun i y hy => ?_, ?_, ⟨.inl h.zone.1, .inl h.zone.2⟩⟩
  · have := q1.set_other (p := ⟨M.gb, 4 * n, none⟩) (hasB_ne q1 q2 (by decide)) vl'
    simpa [NF.rcells, NF.setB] using this
  · refine ⟨C.setIfInBounds (4 * n) vl', q2.set _ _, by simp [NF.setB, k2], fun i y hy => ?_⟩
    rcases hget i y hy with ⟨rfl, rfl⟩ | ⟨hni, hy'⟩
    · obtain ⟨d1, d2⟩ := k3 i x hx
      refine ⟨by rw [Array.getElem?_setIfInBounds, if_pos rfl, if_pos (by omega)]; simp, fun j hj1 hj5 => ?_⟩
      rw [Array.getElem?_setIfInBounds, if_neg (by omega), d2 j hj1 hj5]
      match j, hj1, hj5 with
      | 1, _, _ => simp [NB.rcell, e1]
      | 2, _, _ => simp [NB.rcell, e2]
      | 3, _, _ => simp [NB.rcell, e3]
    · obtain ⟨d1, d2⟩ := k3 i y hy'
      refine ⟨by rw [Array.getElem?_setIfInBounds, if_neg (by omega), d1]; simp [hni], fun j hj1 hj5 => ?_⟩
      rw [Array.getElem?_setIfInBounds, if_neg (by omega)]
      exact d2 j hj1 hj5
  · rcases hget i y hy with ⟨rfl, rfl⟩ | ⟨hni, hy'⟩
    · rw [hn', show (((p + 1 : Nat) : Int)).toNat = p + 1 by omega]
      have hrow : (RMem.mk M.gb (fun j => if j = i then vl' else M.vl j) (fun a b => if a = i ∧ b = p then v else M.vs a b)).row i (p + 1) = M.row i p ++ [v] := by
        unfold RMem.row
        rw [List.range_succ, List.map_append]
        congr 1
        · apply List.map_congr_left
          intro j hj
          have : j < p := by simpa using hj
          simp; omega
        · simp
      rw [hrow]
      simp only [if_true]
      refine ⟨own_setT h1 q2 (by decide) _ _, fun k hk => .inr hk, fun j l hj hl he => ?_⟩
      have hjp : j ≠ p := by
        intro e
        subst e
        simp [exK] at he
      obtain ⟨_, _, r3⟩ := h.rows i x hx
      have hl' := e4 j l (by omega) hl
      have := ((r3 j l (by omega) hl' rfl).keptR hg hty).set (p := ⟨M.gb, 4 * i, none⟩) q2 (by decide) vl'
      have := this.mono (S' := fun k => S k ∨ vl'.ownBlock = some k) (fun k q => .inl q)
      simpa [hjp] using this
    · obtain ⟨r1, r2, r3⟩ := h.rows i y hy'
      have hi : i < F.bl.length := lt_of_get hy'
      have hrow : (RMem.mk M.gb (fun j => if j = n then vl' else M.vl j) (fun a b => if a = n ∧ b = p then v else M.vs a b)).row i y.next.toNat = M.row i y.next.toNat := by
        unfold RMem.row
        simp [hni]
      rw [hrow]
      simp only [hni, if_false]
      refine ⟨own_setT (r1.kept hg ?_) q2 (by decide) _ _, fun k hk => .inl (r2 k hk), fun j l hj hl he => ?_⟩
      · cases hb : (M.vl i).ownBlock with
        | none => exact .inl rfl
        | some b => exact .inr fun e => hni (h.apart i n b hi hln hb e.symm)
      · have := ((r3 j l hj hl rfl).keptR hg hty).set (p := ⟨M.gb, 4 * n, none⟩) q2 (by decide) vl'
        have := this.mono (S' := fun k => S k ∨ vl'.ownBlock = some k) (fun k q => .inl q)
        simpa using this
  · intro i j k hi hj
    simp only [NF.setB, List.length_set] at hi hj
    dsimp only
    by_cases a1 : i = n
    · by_cases a2 : j = n
      · intro _ _; omega
      · rw [if_pos a1, if_neg a2]
        intro ha hb
        rcases hat with q | ⟨b, q, hb2⟩
        · rw [q] at ha
          exact absurd (h.apart n j k hln hj ha hb) (fun e => a2 e.symm)
        · rw [q] at ha
          have : b = k := Option.some.inj ha
          subst this
          have hjx : F.bl[j]? = some F.bl[j] := List.getElem?_eq_getElem hj
          exact absurd ((h.rows j _ hjx).2.1 b hb) hb2
    · by_cases a2 : j = n
      · rw [if_neg a1, if_pos a2]
        intro ha hb
        rcases hat with q | ⟨b, q, hb2⟩
        · rw [q] at hb
          exact absurd (h.apart i n k hi hln ha hb) a1
        · rw [q] at hb
          have : b = k := Option.some.inj hb
          subst this
          have hix : F.bl[i]? = some F.bl[i] := List.getElem?_eq_getElem hi
          exact absurd ((h.rows i _ hix).2.1 b ha) hb2
      · rw [if_neg a1, if_neg a2]
        exact h.apart i j k hi hj
/-- Of a page that is marked the bytes may be said otherwise. -/
theorem RefX.chg {n p k : Nat} (h : RefX M S w g F (exK n p (k + 1))) (x x' : NB) (hx : F.bl[n]? = some x) (hn : x'.next = x.next) (e1 : x'.one = x.one) (e2 : x'.half = x.half) (e3 : x'.failed = x.failed) (e4 : ∀ j l, j ≠ p → x'.pages[j]? = some l → x.pages[j]? = some l) : RefX M S w g (F.setB n x') (exK n p (k + 1)) := by
  have hln : n < F.bl.length := lt_of_get hx
  have hget : ∀ i y, (F.setB n x').bl[i]? = some y → (i = n ∧ y = x') ∨ (i ≠ n ∧ F.bl[i]? = some y) := by
    intro i y hy
    simp only [NF.setB] at hy
    by_cases q : i = n
    · subst q
      rw [List.getElem?_set_self hln] at hy
      exact .inl ⟨rfl, (Option.some.inj hy).symm⟩
    · rw [List.getElem?_set_ne (by omega)] at hy
      exact .inr ⟨q, hy⟩
  refine ⟨by have := h.own; simpa [NF.rcells, NF.setB] using this, ?_, fun i y hy => ?_, ?_, h.zone⟩
  · obtain ⟨C, k1, k2, k3⟩ := h.blk
    refine ⟨C, k1, by simp [NF.setB, k2], fun i y hy => ?_⟩
    rcases hget i y hy with ⟨rfl, rfl⟩ | ⟨hne, hy'⟩
    · obtain ⟨d1, d2⟩ := k3 i x hx
      exact ⟨d1, fun j j1 j4 => by
        rw [d2 j j1 j4]
        match j, j1, j4 with
        | 1, _, _ => simp [NB.rcell, e1]
        | 2, _, _ => simp [NB.rcell, e2]
        | 3, _, _ => simp [NB.rcell, e3]⟩
    · exact k3 i y hy'
  · rcases hget i y hy with ⟨rfl, rfl⟩ | ⟨hne, hy'⟩
    · obtain ⟨r1, r2, r3⟩ := h.rows i x hx
      rw [hn]
      refine ⟨r1, r2, fun j l hj hl he => ?_⟩
      have hjp : j ≠ p := by
        intro e
        subst e
        simp [exK] at he
      exact r3 j l hj (e4 j l hjp hl) he
    · exact h.rows i y hy'
  · simp only [NF.setB, List.length_set]; exact h.apart
end
/-- Bytes of a page of which the first so many were written. -/
def partTo (raw old : List Nat) (i : Nat) : List Nat := raw.take i ++ old.drop i
theorem partTo_len {raw old : List Nat} {N i : Nat} (h1 : raw.length = N) (h2 : old.length = N) (hi : i ≤ N) : (partTo raw old i).length = N := by simp [partTo, h1, h2]; omega
theorem partTo_set {raw old : List Nat} {N i : Nat} (h1 : raw.length = N) (h2 : old.length = N) (hi : i < N) : (partTo raw old i).set i (raw.getD i 0) = partTo raw old (i + 1) := by
  unfold partTo
  have l1 : (raw.take i).length = i := by rw [List.length_take, h1]; omega
  rw [List.set_append_right _ _ (by omega), l1, Nat.sub_self]
  have hd : old.drop i = old[i] :: old.drop (i + 1) := by rw [List.drop_eq_getElem_cons]
  rw [hd, List.set_cons_zero, List.take_succ_eq_append_getElem (by omega), List.append_assoc]
  congr 1
  simp [List.getD, show i < raw.length by omega]
theorem partTo_chunk (raw old : List Nat) (k : Nat) : partTo raw old (k * 73) = chunkTo raw old k := rfl
end Go.Proofs.Ytbbhniohliklhaa
