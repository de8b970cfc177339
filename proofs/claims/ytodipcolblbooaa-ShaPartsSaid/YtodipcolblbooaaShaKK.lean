/- sha: two digests and a row of parts, side by side. -/
import Derived.Test.YtodipcolblbooaaShaHH
import Derived.Test.YtodipcolblbooaaShaO
namespace Go.Proofs.Ytodipcolblbooaa
open Go Go.RowKit
set_option linter.unusedVariables false

/-- Two rows of unlike types do not lie in one block. -/
theorem own_own {w : World} {B1 B2 n1 n2 : Nat} {e1 e2 : TypeId} {v1 v2 : Value} {xs1 xs2 : List Value} (h1 : w.ownsRow B1 e1 1 v1 n1 xs1) (h2 : w.ownsRow B2 e2 1 v2 n2 xs2) (hT : e1 ≠ e2) : v1.ownBlock = none ∨ v1.ownBlock ≠ v2.ownBlock := by
  rcases h1.2 with ⟨rfl, _⟩ | ⟨g1, c1, cur1, rfl, _, k1, _⟩
  · exact .inl rfl
  · refine .inr ?_
    rcases h2.2 with ⟨rfl, _⟩ | ⟨g2, c2, cur2, rfl, _, k2, _⟩
    · simp [Value.ownBlock]
    · intro e
      simp [Value.ownBlock] at e
      subst e
      rw [k1] at k2
      simp at k2
      exact hT k2.2
/-- A row of unlike type is as it was behind a digest's writes. -/
theorem own_keeps {w w' : World} {B g n : Nat} {e : TypeId} {C : Array Value} {v : Value} {xs : List Value} (h : w.ownsRow B e 1 v n xs) (hk : Keeps w w' g) (he : e ≠ 5) (hb : HasB w g C 60) (he2 : e ≠ 60) : w'.ownsRow B e 1 v n xs := by
  have hne := own_ne h hb (fun q => he2 q.symm)
  refine ⟨h.1, ?_⟩
  rcases h.2 with q | ⟨g1, c1, cur1, rfl, q1, q2, q3⟩
  · exact .inl q
  · refine .inr ⟨g1, c1, cur1, rfl, q1, hk g1 cur1 e q2 he (fun e => hne (by rw [← e]; rfl)), q3⟩
/-- The rows of two digests do not lie in one block. -/
def Cross (w : World) (g1 g2 : Nat) : Prop := ∀ v1 v2, w.cell? ⟨g1, 8, none⟩ = some v1 → w.cell? ⟨g2, 8, none⟩ = some v2 → Apart v1 v2
theorem Cross.symm {w : World} {g1 g2 : Nat} (h : Cross w g1 g2) : Cross w g2 g1 := fun v2 v1 h2 h1 => (h v1 v2 h1 h2).symm
theorem Cross.below {w w' : World} {g1 g2 : Nat} (h : Cross w g1 g2) (h1 : g1 < w.heap.size) (h2 : g2 < w.heap.size) (hb : Below w.heap.size w w') : Cross w' g1 g2 := fun v1 v2 q1 q2 => h v1 v2 (by rw [← hb.cell (p := ⟨g1, 8, none⟩) h1]; exact q1) (by rw [← hb.cell (p := ⟨g2, 8, none⟩) h2]; exact q2)
theorem DigL.rest {w : World} {B g : Nat} {kd : Bool} {key l : List Nat} (h : DigL w B g kd key l) : ∃ v, w.cell? ⟨g, 8, none⟩ = some v ∧ w.ownsRow B 5 1 v (restB l).length (u8s (restB l)) ∧ ∃ C, HasB w g C 60 := by
  obtain ⟨v, h1, h2⟩ := h
  exact ⟨v, h1.tail 0, h2, _, h1⟩
/-- The one digest is as it was where the other one is written. -/
theorem dig_other {w w' : World} {B2 g1 g2 : Nat} {kd2 : Bool} {key2 l2 : List Nat} (h2 : DigL w B2 g2 kd2 key2 l2) (hne : g2 ≠ g1) (hX : Cross w g1 g2) (hk : Keeps w w' g1) (hr : KeepR w w' g1) : DigL w' B2 g2 kd2 key2 l2 ∧ Cross w' g1 g2 := by
  obtain ⟨v, h1, ho⟩ := h2
  have h1' : HeadU w' g2 60 _ _ := hk g2 _ _ h1 (by decide) hne
  have hc : w.cell? ⟨g2, 8, none⟩ = some v := h1.tail 0
  obtain ⟨k1, k2⟩ := hr B2 v _ _ ho (fun v1 hv1 => hX v1 v hv1 hc)
  refine ⟨⟨v, h1', k1⟩, fun v1 v2 q1 q2 => ?_⟩
  have hc' : w'.cell? ⟨g2, 8, none⟩ = some v := h1'.tail 0
  rw [hc'] at q2
  cases q2
  exact k2 v1 q1
/-- A digest is as it was where a row of unlike type is written. -/
theorem dig_grown {w w' : World} {B B' g n : Nat} {e : TypeId} {kd : Bool} {key l : List Nat} {u : Value} {xs : List Value} (h : DigL w B g kd key l) (hu : w.ownsRow B' e 1 u n xs) (he : e ≠ 5) (he2 : e ≠ 60) (hg : w.grownBy w' u.ownBlock) : DigL w' B g kd key l ∧ w'.cell? ⟨g, 8, none⟩ = w.cell? ⟨g, 8, none⟩ := by
  obtain ⟨v, h1, ho⟩ := h
  have h1' : HeadU w' g 60 _ _ := HasB.kept h1 hg (fun q => own_ne hu h1 (fun q => he2 q.symm) q.symm)
  have hc : w.cell? ⟨g, 8, none⟩ = some v := h1.tail 0
  have hc' : w'.cell? ⟨g, 8, none⟩ = some v := h1'.tail 0
  exact ⟨⟨v, h1', ho.kept hg (own_own ho hu (fun q => he q.symm))⟩, by rw [hc, hc']⟩

/-- A row of the call's own whose elements are slices of what came in. -/
def PartsW (T : TypeId) (W w : World) (v : Value) (ls : List (List Nat)) : Prop :=
  ∃ us, w.ownsRow W.heap.size T 1 v ls.length us ∧ us.length = ls.length ∧ ∀ (i : Nat) (x : List Nat), ls[i]? = some x → ∃ b cp, (us[i]? : Option Value) = some (.slice b x.length cp) ∧ Bytes W b x.length x ∧ (b = none → cp = 0) ∧ x.length ≤ cp ∧ cp ≤ maxLen
theorem PartsW.nil (T : TypeId) (W w : World) : PartsW T W w (.slice none 0 0) [] := ⟨[], World.ownsRow_nil w _ _ _, rfl, fun i x h => by simp at h⟩
theorem PartsW.below {T : TypeId} {W w w' : World} {v : Value} {ls : List (List Nat)} (h : PartsW T W w v ls) (hb : Below w.heap.size w w') : PartsW T W w' v ls := by
  obtain ⟨us, h1, h2⟩ := h
  exact ⟨us, own_below h1 hb (Nat.le_refl _), h2⟩
theorem PartsW.keeps {T : TypeId} {W w w' : World} {v : Value} {ls : List (List Nat)} {g : Nat} {C : Array Value} (h : PartsW T W w v ls) (hk : Keeps w w' g) (he : T ≠ 5) (hb : HasB w g C 60) (he2 : T ≠ 60) : PartsW T W w' v ls := by
  obtain ⟨us, h1, h2⟩ := h
  exact ⟨us, own_keeps h1 hk he hb he2, h2⟩
theorem PartsW.form {T : TypeId} {W w : World} {v : Value} {ls : List (List Nat)} (h : PartsW T W w v ls) : ∃ a cap, v = .slice a ls.length cap := by
  obtain ⟨us, h1, _⟩ := h
  exact own_form h1
theorem PartsW.reads {T : TypeId} {W w : World} {a : Option Addr} {n cap : Nat} {ls : List (List Nat)} (h : PartsW T W w (.slice a n cap) ls) (hW : Below W.heap.size W w) : RowsR w a ls := by
  obtain ⟨us, h1, h2, h3⟩ := h
  intro i x hx
  have hi : i < ls.length := (List.getElem?_eq_some_iff.1 hx).1
  obtain ⟨b, cp, hu, hy, hnil, hle, hcm⟩ := h3 i x hx
  rcases h1.2 with ⟨h0, h0'⟩ | ⟨g, cap', cur, hv, r⟩
  · omega
  · cases hv
    refine ⟨g, 0, b, cp, rfl, (h1.lt g rfl).2, ?_, hy.below hW (Nat.le_refl _), hnil, hle, hcm⟩
    rw [Nat.zero_add, h1.cellAt i (by omega), hu]
section
variable {P : Program} {ops : Array Oper} {rest : List Oper} {o : Oper} {a : Act} {w : World} {Q : Exit → Act → World → Prop}
theorem wpList_app_parts (hgd : o.guard = none) (s x : Operand) (t T : TypeId)
    (ho : o.op = .call { callee := .builtin .append, args := #[s, x], argTypes := #[t, t] })
    (ht : P.underlying t = some (.slice T)) (hinfo : (P.info? T).map (fun i => (i.zero, i.size, i.bytes)) = some (some (.slice none 0 0), 1, 24))
    (W : World) (v : Value) (ls : List (List Nat)) (hs : a.eval s = v) (hR : PartsW T W w v ls) (g : Nat) (hx : a.eval x = .slice (some ⟨g, 0, none⟩) 1 1)
    (y : List Nat) (b : Option Addr) (cp : Nat) (hg : w.cell? ⟨g, 0, none⟩ = some (.slice b y.length cp)) (hy : Bytes W b y.length y) (hbn : b = none → cp = 0) (hle : y.length ≤ cp) (hcm : cp ≤ maxLen) (hl : ls.length ≤ 1000000) (hB : W.heap.size ≤ w.heap.size)
    (h : ∀ v' w', PartsW T W w' v' (ls ++ [y]) → w.grownBy w' v.ownBlock → wpList P ops Q rest (a.put o.dst v') w') :
    wpList P ops Q (o :: rest) a w := by
  obtain ⟨i, hi, hz, hsz, hby⟩ := info_parts hinfo
  obtain ⟨us, hown, hul, huel⟩ := hR
  refine wpList_append_own_at _ hgd s x t ho W.heap.size T i (.slice none 0 0) 1 24 ht hi hz hsz hby rfl (by omega) v ls.length us hs hown ⟨g, 0, none⟩ 1 1 [.slice b y.length cp] hx rfl ?_ ?_ (by unfold maxLen; omega) (by omega) hB ?_
  · intro j c hj
    match j, hj with
    | 0, hj =>
      simp at hj; subst hj
      rw [Go.WideShapes.add_plain]; exact hg
  · intro c hc
    simp at hc; subst hc; rfl
  · intro v' w' h1 h2 _ h4
    refine h v' w' ⟨us ++ [.slice b y.length cp], by simpa using h1, by simp [hul], fun i x hx => ?_⟩ h2
    by_cases hi : i < ls.length
    · rw [List.getElem?_append_left hi] at hx
      obtain ⟨b', cp', hu, r⟩ := huel i x hx
      exact ⟨b', cp', by rw [List.getElem?_append_left (by omega)]; exact hu, r⟩
    · rw [List.getElem?_append_right (by omega)] at hx
      have h0 : i - ls.length = 0 := by
        rcases Nat.eq_zero_or_pos (i - ls.length) with q | q
        · exact q
        · rw [List.getElem?_eq_none (by simp; omega)] at hx; simp at hx
      rw [h0] at hx
      simp at hx
      subst hx
      exact ⟨b, cp, by rw [List.getElem?_append_right (by omega), hul, h0]; rfl, hy, hbn, hle, hcm⟩
end

/-- Two digests, one of them with a key, and the parts. -/
def PartsS (W w : World) (g1 g2 : Nat) (key L1 L2 : List Nat) (v : Value) (ls : List (List Nat)) : Prop :=
  DigL w g1 g1 false zeros64 L1 ∧ DigL w g2 g2 true (kOf key) (preS true (kOf key) ++ L2) ∧ Cross w g1 g2 ∧ g1 < g2 ∧ W.heap.size ≤ g1 ∧ PartsW 22 W w v ls ∧ Below W.heap.size W w
theorem PartsS.later {W w w' : World} {g1 g2 : Nat} {key L1 L2 : List Nat} {v : Value} {ls : List (List Nat)} (h : PartsS W w g1 g2 key L1 L2 v ls) (hb : Below w.heap.size w w') : PartsS W w' g1 g2 key L1 L2 v ls := by
  obtain ⟨h1, h2, h3, h4, h5, h6, h7⟩ := h
  exact ⟨h1.below hb, h2.below hb, h3.below h1.lt h2.lt hb, h4, h5, h6.below hb, h7.trans (hb.mono h7.size)⟩
theorem PartsS.app {W w w' : World} {g1 g2 : Nat} {key L1 L2 : List Nat} {v v' : Value} {ls ls' : List (List Nat)} (h : PartsS W w g1 g2 key L1 L2 v ls) (hp : PartsW 22 W w' v' ls') (hg : w.grownBy w' v.ownBlock) : PartsS W w' g1 g2 key L1 L2 v' ls' := by
  obtain ⟨h1, h2, h3, h4, h5, ⟨us, h6, _⟩, h7⟩ := h
  obtain ⟨k1, c1⟩ := dig_grown h1 h6 (by decide) (by decide) hg
  obtain ⟨k2, c2⟩ := dig_grown h2 h6 (by decide) (by decide) hg
  exact ⟨k1, k2, fun v1 v2 q1 q2 => h3 v1 v2 (by rw [← c1]; exact q1) (by rw [← c2]; exact q2), h4, h5, hp, h7.grown hg h7.size (fun k hk => (h6.lt k hk).1)⟩
theorem PartsS.one {W w w' : World} {g1 g2 : Nat} {key L1 L1' L2 : List Nat} {v : Value} {ls : List (List Nat)} (h : PartsS W w g1 g2 key L1 L2 v ls) (hd : DigL w' g1 g1 false zeros64 L1') (hb : Below g1 w w') (hk : Keeps w w' g1) (hr : KeepR w w' g1) : PartsS W w' g1 g2 key L1' L2 v ls := by
  obtain ⟨h1, h2, h3, h4, h5, h6, h7⟩ := h
  obtain ⟨k1, k2⟩ := dig_other h2 (by omega) h3 hk hr
  obtain ⟨_, _, _, C, hC⟩ := h1.rest
  exact ⟨hd, k1, k2, h4, h5, h6.keeps hk (by decide) hC (by decide), h7.trans (hb.mono h5)⟩
theorem PartsS.two {W w w' : World} {g1 g2 : Nat} {key L1 L2 L2' : List Nat} {v : Value} {ls : List (List Nat)} (h : PartsS W w g1 g2 key L1 L2 v ls) (hd : DigL w' g2 g2 true (kOf key) (preS true (kOf key) ++ L2')) (hb : Below g2 w w') (hk : Keeps w w' g2) (hr : KeepR w w' g2) : PartsS W w' g1 g2 key L1 L2' v ls := by
  obtain ⟨h1, h2, h3, h4, h5, h6, h7⟩ := h
  obtain ⟨k1, k2⟩ := dig_other h1 (by omega) h3.symm hk hr
  obtain ⟨_, _, _, C, hC⟩ := h2.rest
  exact ⟨k1, hd, k2.symm, h4, h5, h6.keeps hk (by decide) hC (by decide), h7.trans (hb.mono (by omega))⟩
/-- At the start: two digests, one made behind the other. -/
theorem parts_start {W w1 w2 : World} {key : List Nat} {g1 g2 : Nat} (hd1 : DigL w1 g1 g1 false zeros64 []) (hg1 : W.heap.size ≤ g1) (hB : Below W.heap.size W w1) (h12 : w1.heap.size ≤ g2) (hd2 : DigL w2 g2 g2 true (kOf key) (preS true (kOf key))) (hb : Below w1.heap.size w1 w2) : PartsS W w2 g1 g2 key [] [] (.slice none 0 0) [] := by
  have h1 := hd1.below hb
  have hlt := hd1.lt
  refine ⟨h1, by rw [List.append_nil]; exact hd2, ?_, by omega, hg1, PartsW.nil _ _ _, hB.trans (hb.mono hB.size)⟩
  intro v1 v2 q1 q2
  obtain ⟨u1, c1, o1, _⟩ := hd1.rest
  obtain ⟨u2, c2, o2, _⟩ := hd2.rest
  rw [hb.cell (p := ⟨g1, 8, none⟩) hlt, c1] at q1
  rw [c2] at q2
  cases q1
  cases q2
  intro b hb1 hb2
  have := (o1.lt b hb1).2
  have := (o2.lt b hb2).1
  omega
end Go.Proofs.Ytodipcolblbooaa
