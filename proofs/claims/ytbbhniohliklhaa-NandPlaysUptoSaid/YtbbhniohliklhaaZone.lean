/- Zones: sets of blocks that a thing in memory owns; what is kept outside of one, what is as it was in one. -/
import Derived.Test.YtbbhniohliklhaaStructs
import Derived.Test.YtbbhniohliklhaaMut
namespace Go.Proofs.Ytbbhniohliklhaa
open Go Go.RowKit
set_option linter.unusedVariables false

abbrev Zone := Nat → Prop
/-- In the zone nothing has changed. -/
def SameOn (S : Zone) (w w' : World) : Prop := w.heap.size ≤ w'.heap.size ∧ ∀ k, S k → k < w.heap.size → w'.heap[k]? = w.heap[k]?
/-- Outside of the zone nothing has changed. -/
structure Fr (S : Zone) (w w' : World) : Prop where
  os : w'.os = w.os
  tape : w'.tape = w.tape
  output : w'.output = w.output
  size : w.heap.size ≤ w'.heap.size
  block : ∀ k, k < w.heap.size → ¬ S k → w'.heap[k]? = w.heap[k]?
/-- The zone, and what has come since. -/
def Zone.grow (S : Zone) (w w' : World) : Zone := fun k => S k ∨ (w.heap.size ≤ k ∧ k < w'.heap.size)
def Zone.le (S S' : Zone) : Prop := ∀ k, S k → S' k
/-- All of the zone lies there. -/
def Zone.lives (S : Zone) (w : World) : Prop := ∀ k, S k → k < w.heap.size
theorem Zone.lives.grow {S : Zone} {w w' : World} (h : S.lives w) (hs : w.heap.size ≤ w'.heap.size) : (S.grow w w').lives w' := fun k hk => by
  rcases hk with q | q
  · have := h k q; omega
  · exact q.2
theorem Zone.le_grow (S : Zone) (w w' : World) : S.le (S.grow w w') := fun k h => .inl h
theorem Fr.refl (S : Zone) (w : World) : Fr S w w := ⟨rfl, rfl, rfl, Nat.le_refl _, fun _ _ _ => rfl⟩
theorem Fr.trans {S S' : Zone} {a b c : World} (h : Fr S a b) (k : Fr S' b c) (hS : ∀ i, i < a.heap.size → S' i → S i) : Fr S a c :=
  ⟨k.os.trans h.os, k.tape.trans h.tape, k.output.trans h.output, Nat.le_trans h.size k.size, fun i hi hn => (k.block i (Nat.lt_of_lt_of_le hi h.size) (fun q => hn (hS i hi q))).trans (h.block i hi hn)⟩
theorem Fr.trans' {S : Zone} {a b c : World} (h : Fr S a b) (k : Fr S b c) : Fr S a c := h.trans k fun _ _ q => q
theorem Fr.growTrans {S : Zone} {a b c : World} (h : Fr S a b) (k : Fr (S.grow a b) b c) : Fr S a c := h.trans k fun i hi q => by
  rcases q with q | q
  · exact q
  · omega
theorem Fr.below {S : Zone} {a b : World} (h : Below a.heap.size a b) : Fr S a b := ⟨h.os, h.tape, h.output, h.size, fun i hi _ => h.block i hi⟩
theorem Fr.grown {S : Zone} {a b : World} {g : Nat} (h : a.grownBy b (some g)) (hg : S g) : Fr S a b :=
  ⟨h.os, h.tape, h.output, h.size, fun i hi hn => h.block i hi fun e => by cases e; exact hn hg⟩
theorem Fr.mono {S S' : Zone} {a b : World} (h : Fr S a b) (hS : ∀ i, i < a.heap.size → S i → S' i) : Fr S' a b := ⟨h.os, h.tape, h.output, h.size, fun i hi hn => h.block i hi fun q => hn (hS i hi q)⟩
theorem Fr.toBelow {S : Zone} {a b : World} (h : Fr S a b) {B : Nat} (hB : ∀ k, S k → B ≤ k) (hb : B ≤ a.heap.size) : Below B a b :=
  ⟨h.os, h.tape, h.output, h.size, fun i hi => h.block i (by omega) fun q => by have := hB i q; omega⟩
theorem Fr.sameOn {S S' : Zone} {a b : World} (h : Fr S a b) (hd : ∀ k, S' k → ¬ S k) : SameOn S' a b := ⟨h.size, fun k hk hl => h.block k hl (hd k hk)⟩
theorem Fr.drew {S : Zone} {a b : World} (h : Fr S a b) : Fr S a b.drew := ⟨h.os, h.tape, h.output, h.size, h.block⟩
theorem SameOn.refl (S : Zone) (w : World) : SameOn S w w := ⟨Nat.le_refl _, fun _ _ _ => rfl⟩
theorem SameOn.below {S : Zone} {a b : World} (h : Below a.heap.size a b) : SameOn S a b := ⟨h.size, fun k _ hk => h.block k hk⟩
theorem SameOn.grown {S : Zone} {a b : World} {row : Option Nat} (h : a.grownBy b row) (hn : ∀ k, S k → some k ≠ row) : SameOn S a b := ⟨h.size, fun k hk hl => h.block k hl (hn k hk)⟩
theorem SameOn.mono {S S' : Zone} {a b : World} (h : SameOn S a b) (hS : S'.le S) : SameOn S' a b := ⟨h.1, fun k hk hl => h.2 k (hS k hk) hl⟩
theorem HasB.same {w w' : World} {g : Nat} {vs : Array Value} {T : TypeId} {S : Zone} (h : HasB w g vs T) (hs : SameOn S w w') (hg : S g) : HasB w' g vs T := (hs.2 g hg h.lt).trans h
theorem HasB.fr {w w' : World} {g : Nat} {vs : Array Value} {T : TypeId} {S : Zone} (h : HasB w g vs T) (hs : Fr S w w') (hg : ¬ S g) : HasB w' g vs T := (hs.block g h.lt hg).trans h
theorem own_same {w w' : World} {base : Nat} {e : TypeId} {size : Nat} {v : Value} {n : Nat} {xs : List Value} {S : Zone} (h : w.ownsRow base e size v n xs) (hs : SameOn S w w') (hv : ∀ k, v.ownBlock = some k → S k) : w'.ownsRow base e size v n xs := by
  refine ⟨h.1, ?_⟩
  rcases h.2 with q | ⟨g, cap, cur, e1, e2, hh, r⟩
  · exact .inl q
  · exact .inr ⟨g, cap, cur, e1, e2, (hs.2 g (hv g (by rw [e1]; rfl)) (Array.getElem?_eq_some_iff.1 hh).1).trans hh, r⟩
theorem own_fr {w w' : World} {base : Nat} {e : TypeId} {size : Nat} {v : Value} {n : Nat} {xs : List Value} {S : Zone} (h : w.ownsRow base e size v n xs) (hs : Fr S w w') (hv : ∀ k, v.ownBlock = some k → ¬ S k) : w'.ownsRow base e size v n xs :=
  own_same h (S := fun k => ¬ S k) (hs.sameOn fun _ q => q) hv
/-- The bytes lie outside. -/
def OutA (S : Zone) (a : Option Addr) : Prop := ∀ ad, a = some ad → ¬ S ad.block
theorem Bytes.fr {w w' : World} {a : Option Addr} {len : Nat} {l : List Nat} {S : Zone} (h : Bytes w a len l) (hs : Fr S w w') (ho : OutA S a) : Bytes w' a len l :=
  ⟨h.1, h.2.1, fun h0 => by
    obtain ⟨b, off, he, hlt, hc⟩ := h.2.2 h0
    exact ⟨b, off, he, Nat.lt_of_lt_of_le hlt hs.size, fun i hi => (World.cell?_of_block (a := ⟨b, off + i, none⟩) (hs.block b hlt (ho _ he))).trans (hc i hi)⟩⟩
/-- What lay there and outside is outside of the zone that has grown. -/
theorem out_grow {S : Zone} {w w' : World} {k : Nat} (h : ¬ S k) (hk : k < w.heap.size) : ¬ S.grow w w' k := fun q => by
  rcases q with q | q
  · exact h q
  · omega
theorem sameOn_set {S : Zone} {w : World} {p : Addr} {v : Value} (h : ¬ S p.block) : SameOn S w (w.setCell p v) := ⟨by simp, fun k hk _ => Below.heap_setCell _ _ _ _ (fun e => h (e ▸ hk))⟩
end Go.Proofs.Ytbbhniohliklhaa
