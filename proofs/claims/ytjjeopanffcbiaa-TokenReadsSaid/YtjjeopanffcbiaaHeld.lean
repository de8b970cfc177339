/- A region that draws its order, walked move by move by a script (wip/bin/held.py prints it): the operations are met written out, and what is held may be made more behind each call. -/
import Derived.Test.YtjjeopanffcbiaaKit
namespace Go.Proofs.Ytjjeopanffcbiaa
open Go
set_option linter.unusedVariables false
section
variable {P : Program} {l : List Oper} {Q : Exit → Act → World → Prop} {md : Region.Mode} {S S' : World → Prop}

/-- What is held may be made more. -/
theorem held_mono (h : ∀ w, S' w → S w) : ∀ (fuel : Nat) (listed : Array Bool) (a : Act) (w : World), wpAnyH P md l.toArray Q S' fuel listed a w → wpAnyH P md l.toArray Q S fuel listed a w
  | 0, _, _, _, k => k
  | fuel + 1, _, _, _, k => ⟨k.1, fun i hi => wpOp_mono (fun a' w' h3 => ⟨h _ h3.1, held_mono h fuel _ a' w' h3.2⟩) (k.2 i hi)⟩

theorem drop_get {l : List Oper} {i : Nat} {o : Oper} {rest : List Oper} (hd : l.drop i = o :: rest) : l.toArray[i]? = some o := by
  have : (l.drop i)[0]? = some o := by rw [hd]; rfl
  simpa using this

/-- Take number i first. -/
theorem held_take (i : Nat) {oi : Oper} {rest : List Oper} {v : Value} {fuel : Nat} {listed : Array Bool} {a : Act} {w : World} (hd : l.drop i = oi :: rest)
    (hs : Region.noSelect l.toArray = true) (hf : Region.free md l.toArray listed i = true) (hr : (Region.ready md l.toArray listed).contains i = true)
    (hQ : ∀ c a w, Q (.panic c) (a.put oi.dst v) w → Q (.panic c) a w) (hw : Region.wanted oi (yielded l.toArray a.tmps) = true) (hy : ∀ w, S w → (execOp a.eval oi).run P w = .ok (.value v) w) (hS : S w)
    (h : wpAnyH P md l.toArray Q S fuel (listed.setIfInBounds i true) (a.put oi.dst v) w) : wpAnyH P md l.toArray Q S (fuel + 1) listed a w :=
  wpAnyH_take (drop_get hd) hs hf hr hQ (Or.inl ⟨hw, hy⟩) hS h

/-- Number i is not wanted: pass on. -/
theorem held_skip (i : Nat) {oi : Oper} {rest : List Oper} {fuel : Nat} {listed : Array Bool} {a : Act} {w : World} (hd : l.drop i = oi :: rest)
    (hs : Region.noSelect l.toArray = true) (hf : Region.free md l.toArray listed i = true) (hr : (Region.ready md l.toArray listed).contains i = true)
    (hQ : ∀ c a w, Q (.panic c) (a.put oi.dst undef) w → Q (.panic c) a w) (hw : Region.wanted oi (yielded l.toArray a.tmps) = false) (hS : S w)
    (h : wpAnyH P md l.toArray Q S fuel (listed.setIfInBounds i true) (a.put oi.dst undef) w) : wpAnyH P md l.toArray Q S (fuel + 1) listed a w :=
  wpAnyH_take (drop_get hd) hs hf hr hQ (Or.inr ⟨hw, rfl⟩) hS h

/-- Number i alone may come up: it is carried out; behind it what is held may be made more. -/
theorem held_one (i : Nat) {o : Oper} {rest : List Oper} {fuel : Nat} {listed : Array Bool} {a : Act} {w : World} (hd : l.drop i = o :: rest)
    (hr : Region.ready md l.toArray listed = [i])
    (h : ∀ K' : Act → World → Prop, Shut (∀ a w (S' : World → Prop), (∀ w, S' w → S w) → S' w → (S' w → wpAnyH P md l.toArray Q S' fuel (listed.setIfInBounds i true) a w) → K' a w) → if Region.wanted o (yielded l.toArray a.tmps) = true then Oper.wp P o a w K' Q else K' (a.put o.dst undef) w) : wpAnyH P md l.toArray Q S (fuel + 1) listed a w :=
  wpAnyH_ready hr (by simp) (AllReadyH.cons (drop_get hd) (fun K' hK => h K' fun a w S' hSS hS hW => hK.out a w (hSS _ hS) fun _ => held_mono hSS _ _ _ _ (hW hS)) AllReadyH.nil)

theorem held_done {listed : Array Bool} {a : Act} {w : World} {fuel : Nat} (hr : Region.ready md l.toArray listed = []) (h : Q .normal a w) : wpAnyH P md l.toArray Q S fuel listed a w := wpAnyH_done hr h fuel
end
end Go.Proofs.Ytjjeopanffcbiaa
