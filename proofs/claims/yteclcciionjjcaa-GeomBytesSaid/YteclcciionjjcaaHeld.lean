/- A region that draws its order, walked move by move by a script (wip/bin/held.py prints it): the operations are met written out, and what is held may be made more behind each call. -/
import Derived.Test.YteclcciionjjcaaKit
namespace Go.Proofs.Yteclcciionjjcaa
open Go
set_option linter.unusedVariables false
section
variable {P : Program} {l : List Oper} {Q : Exit → Act → World → Prop} {md : Region.Mode} {S S' : World → Prop}

/-- Short names, for scripts. -/
theorem lA {α : Type} {l : List α} {i : Nat} {a : α} : l.toArray.setIfInBounds i a = (l.set i a).toArray := List.setIfInBounds_toArray ..
theorem lB {α : Type} {x : α} {xs : List α} {a : α} : (x :: xs).set 0 a = a :: xs := rfl
theorem lC {α : Type} {x : α} {xs : List α} {n : Nat} {a : α} : (x :: xs).set (n + 1) a = x :: xs.set n a := rfl

/-- What is held may be made more. -/
theorem held_mono (h : ∀ w, S' w → S w) : ∀ (fuel : Nat) (listed : Array Bool) (a : Act) (w : World), wpAnyH P md l.toArray Q S' fuel listed a w → wpAnyH P md l.toArray Q S fuel listed a w
  | 0, _, _, _, k => k
  | fuel + 1, _, _, _, k => ⟨k.1, fun i hi => wpOp_mono (fun a' w' h3 => ⟨h _ h3.1, held_mono h fuel _ a' w' h3.2⟩) (k.2 i hi)⟩

theorem drop_get {l : List Oper} {i : Nat} {o : Oper} {rest : List Oper} (hd : l.drop i = o :: rest) : l.toArray[i]? = some o := by
  have : (l.drop i)[0]? = some o := by rw [hd]; rfl
  simpa using this

/-- Take number i first. -/
theorem held_take (i : Nat) {oi : Oper} {rest : List Oper} {v : Value} {fuel : Nat} {listed : Array Bool} {a : Act} {w : World} (hd : l.drop i = oi :: rest)
    (hs : Region.noSelect l.toArray = true) (hf : Region.free md l.toArray listed i = true) (hr : (Region.ready md l.toArray listed).contains i = true)
    (hQ : ∀ c a w, Q (.panic c) (a.put oi.dst v) w → Q (.panic c) a w) (hw : Region.wanted oi (yielded l.toArray a.tmps) = true) (hy : ∀ w, S w → (execOp a.eval oi).run P w = .ok (.value v) w) (hS : S w)
    (h : wpAnyH P md l.toArray Q S fuel (listed.setIfInBounds i true) (a.put oi.dst v) w) : wpAnyH P md l.toArray Q S (fuel + 1) listed a w :=
  wpAnyH_take (drop_get hd) hs hf hr hQ (Or.inl ⟨hw, hy⟩) hS h

/-- Number i is not wanted: pass on. -/
theorem held_skip (i : Nat) {oi : Oper} {rest : List Oper} {fuel : Nat} {listed : Array Bool} {a : Act} {w : World} (hd : l.drop i = oi :: rest)
    (hs : Region.noSelect l.toArray = true) (hf : Region.free md l.toArray listed i = true) (hr : (Region.ready md l.toArray listed).contains i = true)
    (hQ : ∀ c a w, Q (.panic c) (a.put oi.dst undef) w → Q (.panic c) a w) (hw : Region.wanted oi (yielded l.toArray a.tmps) = false) (hS : S w)
    (h : wpAnyH P md l.toArray Q S fuel (listed.setIfInBounds i true) (a.put oi.dst undef) w) : wpAnyH P md l.toArray Q S (fuel + 1) listed a w :=
  wpAnyH_take (drop_get hd) hs hf hr hQ (Or.inr ⟨hw, rfl⟩) hS h

/-- Number i alone may come up: it is carried out; behind it what is held may be made more. -/
theorem held_one (i : Nat) {o : Oper} {rest : List Oper} {fuel : Nat} {listed : Array Bool} {a : Act} {w : World} (hd : l.drop i = o :: rest)
    (hr : Region.ready md l.toArray listed = [i])
    (h : ∀ K' : Act → World → Prop, Shut (∀ a w (S' : World → Prop), (∀ w, S' w → S w) → S' w → (S' w → wpAnyH P md l.toArray Q S' fuel (listed.setIfInBounds i true) a w) → K' a w) → if Region.wanted o (yielded l.toArray a.tmps) = true then Oper.wp P o a w K' Q else K' (a.put o.dst undef) w) : wpAnyH P md l.toArray Q S (fuel + 1) listed a w :=
  wpAnyH_ready hr (by simp) (AllReadyH.cons (drop_get hd) (fun K' hK => h K' fun a w S' hSS hS hW => hK.out a w (hSS _ hS) fun _ => held_mono hSS _ _ _ _ (hW hS)) AllReadyH.nil)

theorem held_done {listed : Array Bool} {a : Act} {w : World} {fuel : Nat} (hr : Region.ready md l.toArray listed = []) (h : Q .normal a w) : wpAnyH P md l.toArray Q S fuel listed a w := wpAnyH_done hr h fuel
end

/-! ### Operations that may come up in whatever order, each keeping an invariant -/
def anyOk (md : Region.Mode) (ops : Array Oper) (D : List Nat) (L0 : Array Bool) : Bool :=
  L0.size == ops.size &&
  D.all (fun i => decide (i < ops.size) && !(L0.getD i true) && (match ops[i]? with | some o => o.after.toList.all (fun e => !(Region.binds md e) || (!(D.contains e.on) && L0.getD e.on false)) | none => false)) &&
  (List.range ops.size).all (fun j => D.contains j || L0.getD j true || (match ops[j]? with | some o => D.all (fun i => o.after.toList.any fun e => Region.binds md e && e.on == i) | none => true))

def setAll (D : List Nat) (L0 : Array Bool) : Array Bool := D.foldl (fun L i => L.setIfInBounds i true) L0
theorem setAll_size : ∀ (D : List Nat) (L0 : Array Bool), (setAll D L0).size = L0.size
  | [], _ => rfl
  | i :: D, L0 => by unfold setAll; rw [List.foldl_cons]; exact (setAll_size D _).trans (by simp)
theorem setAll_getD : ∀ (D : List Nat) (L0 : Array Bool) (j : Nat), (∀ i ∈ D, i < L0.size) → (setAll D L0).getD j true = if j ∈ D then true else L0.getD j true
  | [], _, _, _ => by simp [setAll]
  | i :: D, L0, j, h => by
    unfold setAll
    rw [List.foldl_cons]
    have := setAll_getD D (L0.setIfInBounds i true) j (fun k hk => by simp; exact h k (by simp [hk]))
    unfold setAll at this
    rw [this]
    by_cases hj : j ∈ D
    · simp [hj]
    · have hi := h i (by simp)
      by_cases e : i = j
      · subst e; simp [hj, Array.getD, hi]
      · rw [if_neg hj, if_neg (by simp [hj]; exact fun h => e h.symm)]
        exact getD_set_ne true e

theorem listed_ext {A B : Array Bool} (hs : A.size = B.size) (h : ∀ j, A.getD j true = B.getD j true) : A = B := by
  refine Array.ext hs fun i h1 h2 => ?_
  have := h i
  simpa [Array.getD, h1, h2] using this

section
variable {P : Program} {l : List Oper} {Q : Exit → Act → World → Prop} {md : Region.Mode} {S : World → Prop}
theorem held_any_aux (D : List Nat) (hnd : D.Nodup) (L0 : Array Bool) (hok : anyOk md l.toArray D L0 = true) (a : Act) (fuel0 : Nat) (Inv : (Nat → Bool) → World → Prop)
    (hInv : ∀ d d' w, (∀ i ∈ D, d i = d' i) → Inv d w → Inv d' w)
    (step : ∀ d w i, i ∈ D → d i = false → Inv d w → S w → ∀ K : Act → World → Prop, (∀ w', Inv (fun j => d j || j == i) w' → S w' → K a w') → wpOp P l.toArray Q i K a w)
    (fin : ∀ w', Inv (fun _ => true) w' → S w' → wpAnyH P md l.toArray Q S fuel0 (setAll D L0) a w') :
    ∀ (n : Nat) (d : Nat → Bool) (listed : Array Bool) (w : World), (D.filter (fun i => !d i)).length = n → listed.size = L0.size → (∀ j, listed.getD j true = if j ∈ D then d j else L0.getD j true) → Inv d w → S w → wpAnyH P md l.toArray Q S (n + fuel0) listed a w := by
  simp only [anyOk, Bool.and_eq_true, List.all_eq_true, beq_iff_eq, decide_eq_true_eq] at hok
  obtain ⟨⟨ho1, ho2⟩, ho3⟩ := hok
  have hlt : ∀ i ∈ D, i < L0.size := fun i hi => by rw [ho1]; exact (ho2 i hi).1.1
  intro n
  induction n with
  | zero =>
    intro d listed w hn hsz hl hI hS
    have hall : ∀ i ∈ D, d i = true := by
      intro i hi
      have h0 := List.eq_nil_of_length_eq_zero hn
      rw [List.filter_eq_nil_iff] at h0
      simpa using h0 i hi
    have he : listed = setAll D L0 := listed_ext (by rw [hsz, setAll_size]) (fun j => by
      rw [hl, setAll_getD D L0 j hlt]
      by_cases hj : j ∈ D
      · rw [if_pos hj, if_pos hj, hall j hj]
      · rw [if_neg hj, if_neg hj])
    rw [he, Nat.zero_add]
    exact fin w (hInv _ _ w (fun i hi => hall i hi) hI) hS
  | succ n ih =>
    intro d listed w hn hsz hl hI hS
    rw [show n + 1 + fuel0 = (n + fuel0) + 1 by omega]
    have hnone : ∃ i ∈ D, d i = false := by
      cases hc : D.filter (fun i => !d i) with
      | nil => rw [hc] at hn; simp at hn
      | cons i r =>
        have : i ∈ D.filter (fun i => !d i) := by rw [hc]; simp
        rw [List.mem_filter] at this
        exact ⟨i, this.1, by simpa using this.2⟩
    have hrdy : ∀ i ∈ D, d i = false → i ∈ Region.ready md l.toArray listed := by
      intro i hi hd
      refine mem_ready.2 ⟨by rw [hl, if_pos hi, hd], ?_⟩
      obtain ⟨⟨h1, h2⟩, h3⟩ := ho2 i hi
      revert h3
      cases hoi : l.toArray[i]? with
      | none => intro h; simp at h
      | some o =>
        intro h3
        refine ⟨o, rfl, fun e he hb => ?_⟩
        have h4 := h3
        simp only [List.all_eq_true, Bool.or_eq_true, Bool.not_eq_true', Bool.and_eq_true] at h4
        rcases h4 e (by simpa using he) with h5 | ⟨h5, h6⟩
        · rw [hb] at h5; cases h5
        · have h7 := hl e.on
          have hnD : e.on ∉ D := by
            intro hh
            have : D.contains e.on = true := by simpa using hh
            rw [this] at h5; cases h5
          rw [if_neg hnD] at h7
          have hlt : e.on < L0.size := by
            rcases Nat.lt_or_ge e.on L0.size with q | q
            · exact q
            · simp [Array.getD, Nat.not_lt.2 q] at h6
          have hlt2 : e.on < listed.size := by rw [hsz]; exact hlt
          simp [Array.getD, hlt] at h6
          simp [Array.getD, hlt, hlt2] at h7
          simp [Array.getD, hlt2, h7, h6]
    refine ⟨fun h0 => ?_, fun i hi => ?_⟩
    · obtain ⟨i, hi, hd⟩ := hnone
      have := hrdy i hi hd
      rw [h0] at this
      cases this
    · obtain ⟨hun, o, hoi, hall⟩ := mem_ready.1 hi
      have hiD : i ∈ D := by
        rcases Classical.em (i ∈ D) with q | q
        · exact q
        · exfalso
          rw [hl, if_neg q] at hun
          have hi0 : i < l.toArray.size := (Array.getElem?_eq_some_iff.1 hoi).1
          have h3 := ho3 i (by simpa using hi0)
          rw [hoi] at h3
          simp only [Bool.or_eq_true, List.all_eq_true, List.any_eq_true, Bool.and_eq_true, beq_iff_eq] at h3
          rcases h3 with (h4 | h4) | h4
          · exact q (by simpa using h4)
          · rw [hun] at h4; cases h4
          · obtain ⟨k, hk, hkd⟩ := hnone
            obtain ⟨e, he, hb, hon⟩ := h4 k hk
            have h5 := hall e (by simpa using he) hb
            have hlk := hl k
            rw [if_pos hk, hkd] at hlk
            rw [hon] at h5
            have hk2 : k < listed.size := by rw [hsz]; exact hlt k hk
            simp [Array.getD, hk2] at h5 hlk
            rw [hlk] at h5; cases h5
      have hdi : d i = false := by
        rw [hl, if_pos hiD] at hun; exact hun
      refine step d w i hiD hdi hI hS _ fun w' hI' hS' => ⟨hS', ih _ _ _ ?_ (by simpa using hsz) ?_ hI' hS'⟩
      · have hc : List.Perm (D.filter (fun j => !d j)) (i :: D.filter (fun j => !(d j || j == i))) := by
          have hm : i ∈ D.filter (fun j => !d j) := by rw [List.mem_filter]; exact ⟨hiD, by simp [hdi]⟩
          refine (List.perm_cons_erase hm).trans (List.Perm.cons _ ?_)
          rw [List.Nodup.erase_eq_filter (List.Pairwise.filter _ hnd), List.filter_filter]
          rw [show (fun j => !(d j || j == i)) = (fun a => (a != i) && !d a) by funext j; cases d j <;> cases hji : (j == i) <;> simp [bne, hji]]
        have := hc.length_eq
        simp at this
        simp at hn ⊢
        omega
      · intro j
        by_cases hj : i = j
        · subst hj
          have : i < listed.size := by rw [hsz]; exact hlt i hiD
          simp [hiD, Array.getD, this]
        · have h7 := hl j
          have hne : (j == i) = false := by simpa using fun h => hj h.symm
          rw [hne, Bool.or_false, ← h7]
          exact getD_set_ne true hj

/-- Numbers D may come up in whatever order. -/
theorem held_any (D : List Nat) (fuel0 : Nat) (Inv : (Nat → Bool) → World → Prop) {fuel : Nat} {L0 : Array Bool} {a : Act} {w : World} (hnd : D.Nodup) (hok : anyOk md l.toArray D L0 = true) (hfuel : fuel = D.length + fuel0)
    (hInv : ∀ d d' w, (∀ i ∈ D, d i = d' i) → Inv d w → Inv d' w)
    (step : ∀ d w i, i ∈ D → d i = false → Inv d w → S w → ∀ K : Act → World → Prop, (∀ w', Inv (fun j => d j || j == i) w' → S w' → K a w') → wpOp P l.toArray Q i K a w)
    (hI : Inv (fun _ => false) w) (hS : S w)
    (fin : ∀ w', Inv (fun _ => true) w' → S w' → wpAnyH P md l.toArray Q S fuel0 (setAll D L0) a w') : wpAnyH P md l.toArray Q S fuel L0 a w := by
  rw [hfuel]
  refine held_any_aux D hnd L0 hok a fuel0 Inv hInv step fin _ (fun _ => false) L0 w ?_ rfl ?_ hI hS
  · simp
  · intro j
    split
    · rename_i hj
      simp only [anyOk, Bool.and_eq_true, List.all_eq_true, beq_iff_eq, decide_eq_true_eq] at hok
      have := (hok.1.2 j hj).1.2
      simpa using this
    · rfl
end
end Go.Proofs.Yteclcciionjjcaa
