/- append(s, make([]byte, n)...) onto a row of the call's own. -/
import Derived.Test.YtkdjimcpdbpemaaKit
import Derived.Lib.AppendZeros
import Derived.Lib.AppendZerosOnto
import Derived.Laws.Tables
namespace Go.Proofs.Ytkdjimcpdbpemaa
open Go Go.RowKit
set_option linter.unusedVariables false

theorem zeroCells_u8 (n : Nat) : (Builtin.zeroCells (Value.int .u8 0).cells n).toList = u8s (List.replicate n 0) := by
  apply List.ext_getElem?
  intro j
  by_cases hj : j < n
  · simp [Builtin.zeroCells, Value.cells, u8s, hj, Nat.mod_one]
  · simp [Builtin.zeroCells, Value.cells, u8s, hj]

section
variable {P : Program} {ops : Array Oper} {rest : List Oper} {o : Oper} {a : Act} {w : World} {Q : Exit → Act → World → Prop}

theorem run_append_zeros_u8 (base : Nat) (t tn ty e : TypeId) (kn : IntKind) (ht : P.underlying t = some (.slice e)) (htn : P.underlying tn = some (.int kn)) (hinfo : (P.info? e).map (fun i => (i.zero, i.size, i.bytes)) = some (some (.int .u8 0), 1, 1))
    (v : Value) (n : Nat) (l : List Nat) (hown : w.ownsRow base e 1 v n (u8s l)) (m : Nat) (hb : n + m ≤ 140737488355328) (hbase : base ≤ w.heap.size) :
    ∃ v' w', (Builtin.append_ #[t, tn] ty #[v, .int .i64 (m : Int)]).run P w = .ok v' w' ∧ w'.ownsRow base e 1 v' (n + m) (u8s (l ++ List.replicate m 0)) ∧ w.grownBy w' v.ownBlock := by
  obtain ⟨i, hi, hz, hsz, hby⟩ := info_parts hinfo
  have hn : l.length = n := by simpa [u8s] using hown.1
  have hw : IntKind.i64.wrap (m : Int) = m := by rw [IntKind.wrap_i64]; omega
  have hneg : ¬ ((m : Int) < 0) := by omega
  have h48i : ¬ (281474976710656 < (m : Int)) := by omega
  have hw0 : IntKind.i64.wrap (0 : Int) = 0 := rfl
  by_cases hm : m = 0
  · subst hm
    rcases hown.2 with ⟨rfl, rfl⟩ | ⟨g, cap, cur, rfl, hbg, hg, hnc, hcm, hcs, htake⟩
    · refine ⟨.slice none 0 0, w, ?_, by simpa using hown, World.grownBy.refl _ _⟩
      simp [Builtin.append_, run_underlying ht, run_underlying htn, sizeOf, typeInfo, hi, hsz, hby, asInt, asIntOf, hw0]
    · refine ⟨.slice (some ⟨g, 0, none⟩) n cap, w, ?_, by simpa using hown, World.grownBy.refl _ _⟩
      simp [Builtin.append_, run_underlying ht, run_underlying htn, sizeOf, typeInfo, hi, hsz, hby, asInt, asIntOf, hnc, hw0, storeCells]
  · have fresh : ∀ (old : Nat), old < n + m → ∀ row : Option Nat,
        (w.drew.alloc (.cells ((u8s l).toArray ++ Builtin.zeroCells (Value.int .u8 0).cells m ++ Builtin.zeroCells (Value.int .u8 0).cells (grownCap w (n + m) old e - (n + m))) e)).ownsRow base e 1 (.slice (some ⟨w.heap.size, 0, none⟩) (n + m) (grownCap w (n + m) old e)) (n + m) (u8s (l ++ List.replicate m 0)) ∧
        w.grownBy (w.drew.alloc (.cells ((u8s l).toArray ++ Builtin.zeroCells (Value.int .u8 0).cells m ++ Builtin.zeroCells (Value.int .u8 0).cells (grownCap w (n + m) old e - (n + m))) e)) row := by
      intro old ho row
      have hge := grownCap_ge w (n + m) old e
      have hcm : grownCap w (n + m) old e ≤ maxLen := grownCap_le_maxLen w (n + m) old e (by unfold maxLen; omega)
      refine ⟨⟨by simp [u8s, hn], .inr ⟨w.heap.size, _, _, rfl, hbase, heap_alloc_new w.drew _, hge, hcm, ?_, ?_⟩⟩, ⟨rfl, rfl, rfl, by simp, fun k hk _ => heap_alloc_old w.drew _ hk⟩⟩
      · simp only [Array.size_append, List.size_toArray, size_zeroCells, u8s_len, hn]
        simp [Value.cells]
        omega
      · simp only [Array.toList_append, List.append_assoc, zeroCells_u8]
        rw [← List.append_assoc, ← u8s_append]
        exact List.take_left' (by simp [u8s, hn])
    rcases hown.2 with ⟨rfl, rfl⟩ | ⟨g, cap, cur, rfl, hbg, hg, hnc, hcm, hcs, htake⟩
    · have hl : l = [] := List.eq_nil_of_length_eq_zero hn
      subst hl
      have hr := Lib.run_append_nil_zeros (P := P) w t tn ty e i (.int .u8 0) .i64 kn ht htn hi hz m (by omega) (by omega) (by omega) (by rw [hby]; omega)
      have hf := fresh 0 (by omega) (Value.ownBlock (.slice none 0 0))
      simp only [Nat.zero_add, show (u8s []).toArray = #[] by rfl, Array.empty_append] at hf ⊢
      exact ⟨_, _, hr, hf.1, hf.2⟩
    · by_cases hroom : n + m ≤ cap
      · have hst := run_storeCells_at P g n e (u8s (List.replicate m 0)) 0 cur w hg (by rw [u8s_len, List.length_replicate, hcs]; omega) (u8s_one _)
        simp only [Nat.add_zero] at hst
        refine ⟨.slice (some ⟨g, 0, none⟩) (n + m) cap, w.setRow g (cur.toList.take n ++ u8s (List.replicate m 0) ++ cur.toList.drop (n + (u8s (List.replicate m 0)).length)).toArray, ?_, ⟨by simp [u8s, hn], .inr ⟨g, cap, _, rfl, hbg, setRow_heap w g cur _ e _ hg, hroom, hcm, ?_, ?_⟩⟩, ⟨rfl, rfl, rfl, by simp, fun k _ hk => setRow_other w g k _ (fun e => hk (by simp [Value.ownBlock, e]))⟩⟩
        · simp [Builtin.append_, run_underlying ht, run_underlying htn, sizeOf, typeInfo, zeroValue, hi, hsz, hz, hby, asInt, asIntOf, hw, hneg, h48i, hm, hroom, Addr.add_lit, zeroCells_u8, hst]
        · simp only [List.size_toArray, List.length_append, List.length_take, List.length_drop, Array.length_toList, u8s_len, List.length_replicate]
          omega
        · rw [show cur.toList.take n = u8s l by rw [← htake]; simp, ← u8s_append]
          exact List.take_left' (by simp [u8s, hn])
      · have holds : ∀ j u, (u8s l)[j]? = some u → w.cell? ((⟨g, 0, none⟩ : Addr).add j) = some u := hown.cells (g := g) rfl
        have hfc := run_firstCells_some (P := P) w.drew i.size n ⟨g, 0, none⟩ n cap (u8s l) (by rw [hsz]; exact hown.1) holds
        have hr := Lib.run_append_grow_zeros (P := P) w t tn ty e i (.int .u8 0) .i64 kn ht htn hi hz (some ⟨g, 0, none⟩) n cap (u8s l) hfc m (by omega) (by omega) (by omega) (by omega) (by rw [hby]; omega) (by have := growslice_fits (need := n + m) (old := cap) (bytes := i.bytes) (by omega) (by rw [hby]; omega); exact this)
        have hf := fresh cap (by omega) (Value.ownBlock (.slice (some ⟨g, 0, none⟩) n cap))
        exact ⟨_, _, hr, hf.1, hf.2⟩

theorem wpList_app_zeros (hgd : o.guard = none) (s x : Operand) (t tn : TypeId)
    (ho : o.op = .call { callee := .builtin .append, args := #[s, x], argTypes := #[t, tn] }) (base : Nat) (e : TypeId) (kn : IntKind) (ht : P.underlying t = some (.slice e)) (htn : P.underlying tn = some (.int kn)) (hinfo : (P.info? e).map (fun i => (i.zero, i.size, i.bytes)) = some (some (.int .u8 0), 1, 1))
    (v : Value) (n : Nat) (l : List Nat) (hs : a.eval s = v) (hown : w.ownsRow base e 1 v n (u8s l)) (m : Nat) (hx : a.eval x = .int .i64 (m : Int)) (hb : n + m ≤ 140737488355328) (hbase : base ≤ w.heap.size)
    (h : ∀ v' w', w'.ownsRow base e 1 v' (n + m) (u8s (l ++ List.replicate m 0)) → w.grownBy w' v.ownBlock → wpList P ops Q rest (a.put o.dst v') w') : wpList P ops Q (o :: rest) a w := by
  obtain ⟨v', w', hr, h1, h2⟩ := run_append_zeros_u8 (P := P) base t tn o.type e kn ht htn hinfo v n l hown m hb hbase
  exact Lib.wpList_append_run w hgd s x t tn ho v (.int .i64 (m : Int)) hs hx v' w' hr (h v' w' h1 h2)
end
end Go.Proofs.Ytkdjimcpdbpemaa
