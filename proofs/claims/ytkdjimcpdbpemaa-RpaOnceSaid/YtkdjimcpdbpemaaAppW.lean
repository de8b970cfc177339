/- kit: append of bytes, told where the row lies behind it: where it lay, or in a new block. -/
import Derived.Test.YtkdjimcpdbpemaaKit
import Derived.Maps.AppendAt
namespace Go.Proofs.Ytkdjimcpdbpemaa
open Go Go.RowKit
set_option linter.unusedVariables false

section
variable {P : Program} {ops : Array Oper} {rest : List Oper} {o : Oper} {a : Act} {w : World} {Q : Exit → Act → World → Prop}

theorem wp_appW {K : Act → World → Prop} (s x : Operand) (t : TypeId)
    (ho : o.op = .call { callee := .builtin .append, args := #[s, x], argTypes := #[t, t] })
    (base : Nat) (e : TypeId) (ht : P.underlying t = some (.slice e)) (hinfo : (P.info? e).map (fun i => (i.zero, i.size, i.bytes)) = some (some (.int .u8 0), 1, 1))
    (v : Value) (n : Nat) (l : List Nat) (hs : a.eval s = v) (hown : w.ownsRow base e 1 v n (u8s l))
    (xa : Option Addr) (m c : Nat) (news : List Nat) (hx : a.eval x = .slice xa m c) (hnews : Bytes w xa m news) (hnil : xa = none → c = 0)
    (hb : n + m ≤ 140737488355328) (hbase : base ≤ w.heap.size)
    (h : ∀ v' w', w'.ownsRow base e 1 v' (n + m) (u8s (l ++ news)) → w.grownBy w' v.ownBlock → (v'.ownBlock = v.ownBlock ∨ v'.ownBlock = some w.heap.size) → K (a.put o.dst v') w') : o.wp P a w K Q := by
  obtain ⟨i, hi, hz, hsz, hby⟩ := info_parts hinfo
  obtain ⟨h1, h2, h3⟩ := hnews
  cases xa with
  | none =>
    have hm : m = 0 := by
      by_cases hm : 0 < m
      · obtain ⟨b, off, he, _⟩ := h3 hm; simp at he
      · omega
    subst hm
    have hn : news = [] := List.eq_nil_of_length_eq_zero h1
    have hc := hnil rfl
    subst hc; subst hn
    have hrun := run_append_owned_none (P := P) (w := w) base t o.type e i 1 ht hi v n (u8s l) hown
    unfold Oper.wp
    simp [execOp, ho, resolve, invoke, builtin, hs, hx, hrun, Result.andThen]
    exact h v w (by simpa using hown) (World.grownBy.refl _ _) (.inl rfl)
  | some ad =>
    have hc : ∀ j u, (u8s news)[j]? = some u → w.cell? (ad.add j) = some u := by
      by_cases hm : 0 < m
      · obtain ⟨b, off, he, _, hc⟩ := h3 hm
        obtain rfl : ad = ⟨b, off, none⟩ := by simpa using he
        exact u8s_cells h1 hc
      · have hn : news = [] := List.eq_nil_of_length_eq_zero (by omega)
        subst hn
        intro j u hj; simp [u8s] at hj
    obtain ⟨v', w', hrun, g1, g2, _, g4⟩ := run_append_own_at (P := P) (w := w) base t o.type e i (.int .u8 0) 1 1 ht hi hz hsz hby rfl (by decide) v n (u8s l) hown ad m c (u8s news) (by rw [u8s_len, h1, Nat.mul_one]) hc (u8s_one _) (by unfold maxLen; omega) (by omega) hbase
    rw [← u8s_append] at g1
    unfold Oper.wp
    simp [execOp, ho, resolve, invoke, builtin, hs, hx, hrun, Result.andThen]
    exact h v' w' g1 g2 g4

theorem wpList_appW (hw : Region.wanted o (yielded ops a.tmps) = true) (s x : Operand) (t : TypeId)
    (ho : o.op = .call { callee := .builtin .append, args := #[s, x], argTypes := #[t, t] })
    (base : Nat) (e : TypeId) (ht : P.underlying t = some (.slice e)) (hinfo : (P.info? e).map (fun i => (i.zero, i.size, i.bytes)) = some (some (.int .u8 0), 1, 1))
    (v : Value) (n : Nat) (l : List Nat) (hs : a.eval s = v) (hown : w.ownsRow base e 1 v n (u8s l))
    (xa : Option Addr) (m c : Nat) (news : List Nat) (hx : a.eval x = .slice xa m c) (hnews : Bytes w xa m news) (hnil : xa = none → c = 0)
    (hb : n + m ≤ 140737488355328) (hbase : base ≤ w.heap.size)
    (h : ∀ v' w', w'.ownsRow base e 1 v' (n + m) (u8s (l ++ news)) → w.grownBy w' v.ownBlock → (v'.ownBlock = v.ownBlock ∨ v'.ownBlock = some w.heap.size) → wpList P ops Q rest (a.put o.dst v') w') : wpList P ops Q (o :: rest) a w :=
  wpList_wanted hw fun _ hK => wp_appW s x t ho base e ht hinfo v n l hs hown xa m c news hx hnews hnil hb hbase fun v' w' g1 g2 g3 => hK _ _ (h v' w' g1 g2 g3)
end

/-- Two rows do not lie in one block. -/
def Apart (u v : Value) : Prop := ∀ b, u.ownBlock = some b → v.ownBlock ≠ some b
theorem Apart.symm {u v : Value} (h : Apart u v) : Apart v u := fun b h1 h2 => h b h2 h1
/-- Behind an append to the one of two rows the other one is as it was, and they are apart. -/
theorem apart_app {w w' : World} {B n : Nat} {e : TypeId} {xs : List Value} {u u' v : Value} (hv : w.ownsRow B e 1 v n xs) (ha : Apart u v) (hg : w.grownBy w' u.ownBlock) (hp : u'.ownBlock = u.ownBlock ∨ u'.ownBlock = some w.heap.size) : w'.ownsRow B e 1 v n xs ∧ Apart u' v := by
  refine ⟨hv.kept hg ?_, ?_⟩
  · cases hb : v.ownBlock with
    | none => exact .inl rfl
    | some b => exact .inr (fun e => ha b e.symm hb)
  · intro b h1 h2
    rcases hp with q | q
    · exact ha b (by rw [← q]; exact h1) h2
    · rw [q] at h1
      have := (hv.lt b h2).2
      simp at h1
      omega
theorem apart_none {cap n : Nat} (v : Value) : Apart (.slice none n cap) v := fun b h => by simp [Value.ownBlock] at h
end Go.Proofs.Ytkdjimcpdbpemaa
