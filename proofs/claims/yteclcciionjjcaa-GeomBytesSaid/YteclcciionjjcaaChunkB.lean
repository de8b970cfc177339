/- slices.AppendSeq and slices.Collect of rows of bytes: what has come lies in a row of the call's own. -/
import Derived.Test.YteclcciionjjcaaChunk
namespace Go.Proofs.Yteclcciionjjcaa
open Go Go.RowKit Go.Shelf
set_option linter.unusedVariables false
attribute [local go_sem] Oper.semAt_some

theorem Try.infoSl8 : (Try.prog.info? 24).map (fun i => (i.zero, i.size, i.bytes)) = some (some (.slice none 0 0), 1, 24) := by kernel_rfl

set_option maxRecDepth 100000 in
set_option maxHeartbeats 2000000 in
theorem appseq_in (F : Fence) (n : Nat) (h22 : F.fn 22) (hro : F.round = none) (hn : 2 ≤ n) (gf : Nat) (lb : Array Value) (hFg : F.fn gf) (eg : ∀ args w, (callFunc gf args).run Try.prog w = .ok (.enter gf args) w) (A : Nat → Addr) (L K : Nat → Nat) (m : Nat) (hm : m ≤ 1000000) (w : World) (Sp : List Nat → Prop)
    (hseq : SeqStopsK F (n - 1) Try.prog gf lb (fun x : Nat => #[Value.slice (some (A x)) (L x) (K x)]) (Below w.heap.size) (fun ys => ys = List.range m) Sp m w) :
    CallsIn F n Try.prog 22 #[.slice none 0 0, .func (.func gf) #[] lb] w fun e W' => ∃ v, e = .returned v ∧ W'.ownsRow w.heap.size 24 1 v m ((List.range m).map (fun x => Value.slice (some (A x)) (L x) (K x))) ∧ Below w.heap.size w W' := by
  have h1 : 1 ≤ n := by omega
  have hmx : maxLen = 9223372036854775807 := rfl
  obtain ⟨i0, hi, hz0, hz1, hz2⟩ := info_parts Try.infoSl8
  refine callsIn_of_wp_marks Try.func22 rfl h22 ?_ hro
  simp only [Try.ntmps22, List.size_toArray, List.length_cons, List.length_nil, Nat.reduceAdd, Nat.reduceSub, Array.replicate_succ, Array.replicate_zero, List.push_toArray, List.append_toArray, List.nil_append, List.cons_append]
  gi_wp2
  have bO := Boxed.new w 42 (.slice none 0 0)
  have hB0 : Below w.heap.size w (w.alloc (.cells #[.slice none 0 0] 42)) := (Below.refl _ w).alloc (Nat.le_refl _) _
  refine wpIn_rangeFunc_ownG hro h1 (gf := gf) (lb := lb) rfl hFg eg hseq belowK_t (belowK_b (by simp)) hB0 (fun _ => rfl)
    (fun (pre : List Nat) W => (∃ v, Boxed W w.heap.size 42 v ∧ W.ownsRow w.heap.size 24 1 v pre.length (pre.map (fun x => Value.slice (some (A x)) (L x) (K x))) ∧ True) ∧ Below w.heap.size w W)
    (fun _ _ _ => False)
    (OwnFrom.and (Own.from (holdsRow_own w.heap.size w.heap.size 42 24 1 (fun pre : List Nat => pre.length) (fun pre => pre.map (fun x => Value.slice (some (A x)) (L x) (K x))) (fun _ _ => True)) _) (ownFrom_below (Nat.le_refl _) (by simp)))
    (fun _ _ _ _ _ hs _ _ => hs)
    ⟨⟨_, bO, World.ownsRow_nil _ _ _ _, trivial⟩, hB0⟩
    (fun x => { tmps := #[.slice none 0 0, .func (.func gf) #[] lb, .pointer (some ⟨w.heap.size, 0, none⟩), undef, .slice none 0 0, (Value.slice (some (A x)) (L x) (K x)), .func (.func gf) #[] lb, (Value.slice (some (A x)) (L x) (K x)), undef, undef, undef, undef, undef], defers := [] }) ?assign ?body ?done ?stop
  case assign =>
    intro l x W K hK
    gi_wp2
    exact hK
  case body =>
    rintro l pre x W ⟨⟨v, hv, hrow, -⟩, hB⟩ hlt
    have hc := hv.cell
    gi_wp2_with (gi_at_builtin; refine wpListIn_append_own _ rfl _ _ 42 rfl w.heap.size 24 i0 (.slice none 0 0) 1 24 Try.underlying42 hi hz0 hz1 hz2 rfl (by decide) _ _ _ rfl (hrow.alloc _) ⟨W.heap.size, 0, none⟩ 1 1 [Value.slice (some (A x)) (L x) (K x)] rfl rfl (cell_one_new _ _ _) (by simp [Value.oneCell']) (by omega) (by omega) (by have := hB.size; simp; omega) ?_; intro v' w1 hown' hgrow _; obtain ⟨g', cap', rfl⟩ := ownsRow_succ hown'; obtain ⟨hv1, hv2, hr2, hk2, hb2⟩ := hv.appended (by decide) hrow hB.size (Nat.le_refl _) hown' hgrow; have hc1 := hv1.cell; have hf1 := hv1.frozen)
    exact ⟨hk2.from _, hb2, ⟨_, hv2, by simpa using hr2, trivial⟩, hB.trans hb2⟩
  case done =>
    rintro D ys W hD rfl ⟨⟨v, hv, hrow, -⟩, hB⟩ hK
    have hc := hv.cell
    gi_wp2
    refine ⟨by simp, .inl ⟨_, _, rfl, run_takeDeferred hK, ?_⟩⟩
    rw [List.length_range] at hrow
    exact ⟨_, results_tmp rfl _ _ _, v, rfl, ownsRow_putObj hrow _ hK rfl, hB.trans (belowK_b (w := w) (Nat.le_refl _) W D _ _ (by simp at hD; omega) hK rfl rfl)⟩
  case stop =>
    rintro D c pre W _ _ h _
    exact h.elim

set_option maxRecDepth 100000 in
set_option maxHeartbeats 2000000 in
theorem collect_in (F : Fence) (n : Nat) (h15 : F.fn 15) (h22 : F.fn 22) (hro : F.round = none) (hn : 3 ≤ n) (gf : Nat) (lb : Array Value) (hFg : F.fn gf) (eg : ∀ args w, (callFunc gf args).run Try.prog w = .ok (.enter gf args) w) (A : Nat → Addr) (L K : Nat → Nat) (m : Nat) (hm : m ≤ 1000000) (w : World) (Sp : List Nat → Prop)
    (hseq : SeqStopsK F (n - 1 - 1) Try.prog gf lb (fun x : Nat => #[Value.slice (some (A x)) (L x) (K x)]) (Below w.heap.size) (fun ys => ys = List.range m) Sp m w) :
    CallsIn F n Try.prog 15 #[.func (.func gf) #[] lb] w fun e W' => ∃ v, e = .returned v ∧ W'.ownsRow w.heap.size 24 1 v m ((List.range m).map (fun x => Value.slice (some (A x)) (L x) (K x))) ∧ Below w.heap.size w W' := by
  have h1 : 1 ≤ n := by omega
  refine callsIn_of_wp Try.func15 rfl h15 ?_ hro
  simp only [Try.ntmps15, List.size_toArray, List.length_cons, List.length_nil, Nat.reduceAdd, Nat.reduceSub, Array.replicate_succ, Array.replicate_zero, List.push_toArray, List.append_toArray, List.nil_append, List.cons_append]
  gi_wp2_with (gi_at_call 22; refine (appseq_in F (n - 1) h22 hro (by omega) gf lb hFg eg A L K m hm w Sp hseq).mono ?_; rintro e w' ⟨v, rfl, hr, hb⟩)
  go_ret
  exact ⟨v, rfl, hr, hb⟩

/-- slices.Collect(slices.Chunk(b, sz)): the parts, in a row of the call's own. -/
theorem collect_chunk (b off len cap sz m : Nat) (hsz : 1 ≤ sz) (hm : len ≤ sz * m) (hm2 : ∀ k, k < m → sz * k < len) (hlen : len ≤ 1000000) (hsl : sz ≤ 1000000) (hlc : len ≤ cap) (hcm : cap ≤ maxLen) (hm0 : m ≤ 1000000) (w : World) :
    Calls Try.prog 16 #[.slice (some ⟨b, off, none⟩) len cap, .int .i64 (sz : Int)] w fun e w1 => Below w.heap.size w w1 ∧ ∃ fv, e = .returned fv ∧
      Calls Try.prog 15 #[fv] w1 fun e W' => ∃ v, e = .returned v ∧ W'.ownsRow w1.heap.size 24 1 v m ((List.range m).map (chunkV b off len sz)) ∧ Below w1.heap.size w1 W' := by
  refine (callsIn_wide (n := 3)).1 ((chunk_in Fence.wide 3 trivial rfl (some ⟨b, off, none⟩) len cap sz hsz w).mono ?_)
  rintro e w1 ⟨rfl, rfl⟩
  refine ⟨((Below.refl _ _).alloc (Nat.le_refl _) _).alloc (by simp) _, _, rfl, ?_⟩
  refine (callsIn_wide (n := 5)).1 (collect_in Fence.wide 5 trivial trivial rfl (by omega) _ _ trivial (enters_of Try.func23 (by kernel_rfl) rfl) (fun k => ⟨b, off + sz * k, none⟩) (fun k => min sz (len - sz * k)) (fun k => min sz (len - sz * k)) m hm0 _ (fun pre => ∃ k, k ≤ m ∧ pre = List.range k) ?_)
  intro l J Jx W hW hJ hJx hY h0
  have e1 := (Boxed.new w 24 (.slice (some ⟨b, off, none⟩) len cap)).alloc (.cells #[.int .i64 (sz : Int)] 3)
  have e2 := Boxed.new (w.alloc (.cells #[.slice (some ⟨b, off, none⟩) len cap] 24)) 3 (.int .i64 (sz : Int))
  rw [World.size_alloc] at e2
  exact chunk1_in 3 (by omega) l w.heap.size (w.heap.size + 1) _ b off len cap sz m hsz hm hm2 hlen hsl hlc hcm J Jx (by simp; omega) (by simp) W hJ hY ((hW.cell (p := ⟨_, 0, none⟩) (by simp; omega)).trans e1.cell) ((hW.cell (p := ⟨_, 0, none⟩) (by simp)).trans e2.cell) h0
end Go.Proofs.Yteclcciionjjcaa
