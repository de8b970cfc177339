/- nand: New. -/
import Derived.Test.YtbbhniohliklhaaNandF
namespace Go.Proofs.Ytbbhniohliklhaa
open Go Go.RowKit
set_option linter.unusedVariables false

section
variable {P : Program} {ops : Array Oper} {rest : List Oper} {o : Oper} {a : Act} {w : World} {Q : Exit → Act → World → Prop}
/-- 'make' of a row of whatever. -/
theorem wp_make_row {K : Act → World → Prop} (lo co : Operand) (t : TypeId) (hop : o.op = Op.makeSlice t lo co)
    (e : TypeId) (ht : P.underlying t = some (.slice e)) (z : Value) (sz bt : Nat) (hinfo : (P.info? e).map (fun i => (i.zero, i.size, i.bytes)) = some (some z, sz, bt))
    (n : Nat) (hl : a.eval lo = .int .i64 (n : Int)) (hc : a.eval co = .int .i64 (n : Int)) (hn : n ≤ 1000000) (hb : bt ≤ 1000)
    (hk : ∀ w', HasB w' w.heap.size (madeCells z.cells (n * sz)) e → w.grownBy w' none → K (a.put o.dst (.slice (some ⟨w.heap.size, 0, none⟩) n n)) w') :
    o.wp P a w K Q := by
  obtain ⟨i, hi, hz, hsz, hby⟩ := info_parts hinfo
  have hbb : i.bytes * n ≤ 281474976710656 := by
    rw [hby]
    have := Nat.mul_le_mul hb hn
    omega
  obtain ⟨w', hrun, r1, r2⟩ := run_make_full (P := P) w w.heap.size t e i z sz ht hi hz hsz .i64 .i64 n hbb (by unfold maxLen; omega) (Nat.le_refl _)
  unfold Oper.wp
  simp [execOp, hop, hl, hc, hrun, Result.andThen]
  refine hk w' ?_ r2
  rcases r1.2 with ⟨q, _⟩ | ⟨g, cap, cur, e1, _, e2, e3, _, e4, e5⟩
  · cases q
  · simp only [Value.slice.injEq, Option.some.injEq, Addr.mk.injEq, and_true, true_and] at e1
    obtain ⟨rfl, rfl⟩ := e1
    unfold HasB
    rw [e2]
    have : cur = madeCells z.cells (n * sz) := by
      apply Array.toList_inj.1
      rw [← e5, List.take_of_length_le (by simpa using Nat.le_of_eq e4)]
    rw [this]
theorem wpList_make_row (hw : Region.wanted o (yielded ops a.tmps) = true) (lo co : Operand) (t : TypeId) (hop : o.op = Op.makeSlice t lo co)
    (e : TypeId) (ht : P.underlying t = some (.slice e)) (z : Value) (sz bt : Nat) (hinfo : (P.info? e).map (fun i => (i.zero, i.size, i.bytes)) = some (some z, sz, bt))
    (n : Nat) (hl : a.eval lo = .int .i64 (n : Int)) (hc : a.eval co = .int .i64 (n : Int)) (hn : n ≤ 1000000) (hb : bt ≤ 1000)
    (hk : ∀ w', HasB w' w.heap.size (madeCells z.cells (n * sz)) e → w.grownBy w' none → wpList P ops Q rest (a.put o.dst (.slice (some ⟨w.heap.size, 0, none⟩) n n)) w') :
    wpList P ops Q (o :: rest) a w :=
  wpList_wanted hw fun _ hK => wp_make_row lo co t hop e ht z sz bt hinfo n hl hc hn hb fun w' h1 h2 => hK _ _ (hk w' h1 h2)
end
theorem madeCells_at (z : Array Value) (n i : Nat) (hi : i < n) (hz : 0 < z.size) : (madeCells z n)[i]? = z[i % z.size]? := by
  have : i % z.size < z.size := Nat.mod_lt _ hz
  simp [madeCells, hi, this]

theorem Try.infoPg : (Try.prog.info? 29).map (fun i => (i.zero, i.size, i.bytes)) = some (some (.slice none 0 0), 1, 24) := by kernel_rfl
theorem Try.infoBlk : (Try.prog.info? 67).map (fun i => (i.zero, i.size, i.bytes)) = some (some (.agg #[.slice none 0 0, .int .i64 0, .bool false, .bool false, .bool false]), 5, 40) := by kernel_rfl

def NB.new (np : Nat) : NB := ⟨List.replicate np [], 0, false, false, false⟩
def NF.new (nb np ch : Nat) : NF := ⟨false, 0, 0, List.replicate nb (NB.new np), np, ch, 0, 0, 0⟩
theorem NF.new_at {nb np ch i : Nat} {x : NB} (h : (NF.new nb np ch).bl[i]? = some x) : i < nb ∧ x = NB.new np := by
  simp only [NF.new, List.getElem?_replicate] at h
  split at h
  · exact ⟨by assumption, (Option.some.inj h).symm⟩
  · cases h
theorem NB.new_at {np j : Nat} {l : List Nat} (h : (NB.new np).pages[j]? = some l) : j < np ∧ l = [] := by
  simp only [NB.new, List.getElem?_replicate] at h
  split at h
  · exact ⟨by assumption, (Option.some.inj h).symm⟩
  · cases h
theorem NF.new_ok {nb np ch : Nat} (h1 : nb ≤ 1024) (h2 : np ≤ 256) (h3 : 1 ≤ ch) (h4 : ch ≤ 8) : (NF.new nb np ch).Ok := by
  refine ⟨by simp [NF.new, h1], h2, h3, h4, by simp [NF.new], by simp [NF.new], fun x hx l hl => ?_, fun x hx => ?_⟩
  · rw [List.eq_of_mem_replicate hx] at hl
    rw [List.eq_of_mem_replicate hl]
    exact ⟨.inl rfl, by simp⟩
  · rw [List.eq_of_mem_replicate hx]
    simp [NB.new]

/-- What a flash has while it is made: the first i blocks have pages. -/
structure NewS (B : Nat) (w : World) (g gl nb np ch : Nat) (pg : Nat → Nat) (i : Nat) : Prop where
  own : HasB w g ((NF.new nb np ch).cells gl) 43
  blk : ∃ C, HasB w gl C 67 ∧ C.size = 5 * nb ∧ ∀ j, j < nb → (j < i → C[5 * j]? = some (.slice (some ⟨pg j, 0, none⟩) np np)) ∧ ∀ k, 1 ≤ k → k < 5 → C[5 * j + k]? = some ((NB.new np).cell k)
  pgs : ∀ j, j < i → HasB w (pg j) (madeCells (Value.slice none 0 0).cells (np * 1)) 29 ∧ B ≤ pg j
  inj : ∀ j k, j < i → k < i → pg j = pg k → j = k
  lo : B ≤ g ∧ B ≤ gl
theorem NewS.step {B : Nat} {w w1 : World} {g gl nb np ch i : Nat} {pg : Nat → Nat} (h : NewS B w g gl nb np ch pg i) (hi : i < nb) (hB : B ≤ w.heap.size) (hn : HasB w1 w.heap.size (madeCells (Value.slice none 0 0).cells (np * 1)) 29) (hg : w.grownBy w1 none) :
    NewS B (w1.setCell ⟨gl, 5 * i, none⟩ (.slice (some ⟨w.heap.size, 0, none⟩) np np)) g gl nb np ch (fun j => if j = i then w.heap.size else pg j) (i + 1) := by
  obtain ⟨C, h1, h2, h3⟩ := h.blk
  have hne : g ≠ gl := hasB_ne h.own h1 (by decide)
  refine ⟨(h.own.kept hg (by simp)).set_other (p := ⟨gl, 5 * i, none⟩) hne _, ?_, ?_, ?_, h.lo⟩
  · refine ⟨C.setIfInBounds (5 * i) (.slice (some ⟨w.heap.size, 0, none⟩) np np), (h1.kept hg (by simp)).set _ _, by simp [h2], fun j hj => ⟨fun hji => ?_, fun k k1 k5 => ?_⟩⟩
    · rw [Array.getElem?_setIfInBounds]
      by_cases e : j = i
      · subst e; simp; omega
      · rw [if_neg (by omega), if_neg e]
        exact (h3 j hj).1 (by omega)
    · rw [Array.getElem?_setIfInBounds, if_neg (by omega)]
      exact (h3 j hj).2 k k1 k5
  · intro j hj
    by_cases e : j = i
    · subst e
      simp only [if_true]
      exact ⟨hn.set_other (p := ⟨gl, 5 * j, none⟩) (by have := h1.lt; simp; omega) _, hB⟩
    · simp only [e, if_false]
      obtain ⟨q1, q2⟩ := h.pgs j (by omega)
      have := hasB_ne q1 h1 (by decide)
      exact ⟨(q1.kept hg (by simp)).set_other (p := ⟨gl, 5 * i, none⟩) this _, q2⟩
  · intro j k hj hk
    by_cases e : j = i
    · by_cases e2 : k = i
      · intro _; omega
      · have := (h.pgs k (by omega)).1.lt
        rw [if_pos e, if_neg e2]; intro q; omega
    · by_cases e2 : k = i
      · have := (h.pgs j (by omega)).1.lt
        rw [if_neg e, if_pos e2]; intro q; omega
      · rw [if_neg e, if_neg e2]
        exact h.inj j k (by omega) (by omega)
theorem NewS.flash {B : Nat} {w : World} {g gl nb np ch : Nat} {pg : Nat → Nat} (h : NewS B w g gl nb np ch pg nb) : FlashAt (fun k => B ≤ k ∧ k < w.heap.size) w g (NF.new nb np ch) := by
  obtain ⟨C, h1, h2, h3⟩ := h.blk
  have hl : (NF.new nb np ch).bl.length = nb := by simp [NF.new]
  refine ⟨⟨⟨gl, pg, fun _ _ => .slice none 0 0⟩, h.own, ⟨C, h1, by rw [hl]; exact h2, fun i x hx => ?_⟩, fun i x hx => ?_, ?_, ⟨⟨h.lo.1, h.own.lt⟩, ⟨h.lo.2, h1.lt⟩, fun i hi => ?_⟩⟩, fun k hk => hk.2⟩
  · obtain ⟨q1, rfl⟩ := NF.new_at hx
    exact ⟨(h3 i q1).1 q1, (h3 i q1).2⟩
  · obtain ⟨q1, rfl⟩ := NF.new_at hx
    obtain ⟨e1, e2⟩ := h.pgs i q1
    refine ⟨by simp [NB.new, NF.new], _, e1, by simp [size_madeCells, NF.new], fun j l hj => ?_⟩
    obtain ⟨j1, rfl⟩ := NB.new_at hj
    refine ⟨?_, fun _ => .inl ⟨rfl, rfl⟩⟩
    rw [madeCells_at _ _ _ (by omega) (by decide)]
    rw [show (Value.slice none 0 0).cells = #[Value.slice none 0 0] by rfl]
    simp [Nat.mod_one]
  · rw [hl]
    exact fun i j hi hj => h.inj i j hi hj
  · rw [hl] at hi
    exact ⟨(h.pgs i hi).2, (h.pgs i hi).1.lt⟩

/-- What New gives of a right shape. -/
def NewR (nb np ch : Nat) (w : World) (e : Ending) (w' : World) : Prop :=
  (∃ g, e = .returned (.tuple #[.pointer (some ⟨g, 0, none⟩), .int .i64 0]) ∧ FlashAt (fun k => w.heap.size ≤ k ∧ k < w'.heap.size) w' g (NF.new nb np ch)) ∧ Below w.heap.size w w'
theorem NewS.first {B : Nat} {w : World} {nb np ch : Nat} (h1 : HasB w B (madeCells (Value.agg #[.slice none 0 0, .int .i64 0, .bool false, .bool false, .bool false]).cells (nb * 5)) 67) (g : Nat) (h2 : HasB w g ((NF.new nb np ch).cells B) 43) (hg : B ≤ g) : NewS B w g B nb np ch (fun _ => 0) 0 := by
  refine ⟨h2, ⟨_, h1, by rw [size_madeCells]; omega, fun j hj => ⟨fun q => by omega, fun k k1 k5 => ?_⟩⟩, fun j hj => by omega, fun j k hj => by omega, ⟨hg, Nat.le_refl _⟩⟩
  rw [madeCells_at _ _ _ (by omega) (by decide)]
  rw [show (Value.agg #[.slice none 0 0, .int .i64 0, .bool false, .bool false, .bool false]).cells = #[.slice none 0 0, .int .i64 0, .bool false, .bool false, .bool false] by rfl]
  rw [show (#[Value.slice none 0 0, .int .i64 0, .bool false, .bool false, .bool false]).size = 5 by rfl, show (5 * j + k) % 5 = k by omega]
  match k, k1, k5 with
  | 1, _, _ => rfl
  | 2, _, _ => rfl
  | 3, _, _ => rfl
  | 4, _, _ => rfl
theorem nnew_bad (b p c : Int) (w : World) (h : b < 1 ∨ 1024 < b ∨ p < 2 ∨ 256 < p ∨ ¬ p.tmod 2 = 0 ∨ c < 1 ∨ 8 < c) :
    Calls Try.prog 9 #[.int .i64 b, .int .i64 p, .int .i64 c] w fun e w' => e = .returned (.tuple #[.pointer none, .int .i64 1]) ∧ w = w' := by
  by_cases t1 : b < 1
  · clear h
    go_enter Try.func9, Try.ntmps9
    go_wp2_with fail
    go_ret2
    exact ⟨rfl, rfl⟩
  by_cases t2 : 1024 < b
  · clear h
    go_enter Try.func9, Try.ntmps9
    go_wp2_with fail
    go_ret2
    exact ⟨rfl, rfl⟩
  by_cases t3 : p < 2
  · clear h
    go_enter Try.func9, Try.ntmps9
    go_wp2_with fail
    go_ret2
    exact ⟨rfl, rfl⟩
  by_cases t4 : 256 < p
  · clear h
    go_enter Try.func9, Try.ntmps9
    go_wp2_with fail
    go_ret2
    exact ⟨rfl, rfl⟩
  rw [Int.tmod_eq_emod_of_nonneg (by omega)] at h
  by_cases t5 : p % 2 = 0
  · have t6 : c < 1 ∨ 8 < c := by omega
    clear h
    by_cases t7 : c < 1
    · clear t6
      go_enter Try.func9, Try.ntmps9
      go_wp2_with fail
      go_ret2
      exact ⟨rfl, rfl⟩
    · have t8 : 8 < c := by omega
      clear t6
      go_enter Try.func9, Try.ntmps9
      go_wp2_with fail
      go_ret2
      exact ⟨rfl, rfl⟩
  · have t5' : (p % 2 == 0) = false := by simpa using t5
    clear h
    go_enter Try.func9, Try.ntmps9
    go_wp2_with fail
    go_ret2
    exact ⟨rfl, rfl⟩

set_option maxRecDepth 100000 in
set_option maxHeartbeats 4000000 in
theorem nnew_ok (nb np ch : Nat) (w : World) (h1 : 1 ≤ nb) (h2 : nb ≤ 1024) (h3 : 2 ≤ np) (h4 : np ≤ 256) (h5 : np % 2 = 0) (h6 : 1 ≤ ch) (h7 : ch ≤ 8) :
    Calls Try.prog 9 #[.int .i64 (nb : Int), .int .i64 (np : Int), .int .i64 (ch : Int)] w (NewR nb np ch w) := by
  obtain ⟨POST, hPOST⟩ : ∃ POST, POST = NewR nb np ch w := ⟨_, rfl⟩
  rw [← hPOST]
  have HPOST := Lib.hid hPOST
  clear hPOST
  have t1 : ¬ ((nb : Int) < 1) := by omega
  have t2 : ¬ ((1024 : Int) < nb) := by omega
  have t3 : ¬ ((np : Int) < 2) := by omega
  have t4 : ¬ ((256 : Int) < np) := by omega
  have t5 : (np : Int) % 2 = 0 := by omega
  have t6 : ¬ ((ch : Int) < 1) := by omega
  have t7 : ¬ ((8 : Int) < ch) := by omega
  clear h5
  go_enter Try.func9, Try.ntmps9
  go_wp2_with (at_make; refine Stop.mk ?_)
  refine Stop.go ?_
  refine wpList_make_row rfl (.tmp 37) (.tmp 37) 41 rfl 67 Try.underlying41 _ _ _ Try.infoBlk nb rfl rfl (by omega) (by decide) ?_
  intro w1 hb1 hg1
  have HB1 := Lib.hid hb1
  have HW1 : Hid (Below w.heap.size w w1) := Lib.hid ((Below.refl _ _).grown hg1 (Nat.le_refl _) (fun k hk => by simp at hk))
  clear hb1 hg1
  go_wp2_with fail
  have HB2 : Hid (∃ pg, NewS w.heap.size (w1.alloc (.cells ((NF.new nb np ch).cells w.heap.size) 43)) w1.heap.size w.heap.size nb np ch pg 0) := Lib.hid ⟨_, NewS.first (HB1.out.alloc _) _ (HasB.new _ _ _) HW1.out.size⟩
  have HB3 : Hid (∃ pg, NewS w.heap.size (w1.alloc (.cells #[.bool false, .int .i64 0, .int .i64 0, .slice (some ⟨w.heap.size, 0, none⟩) nb nb, .int .i64 (np : Int), .int .i64 (ch : Int), .int .i64 0, .int .i64 0, .int .i64 0] 43)) w1.heap.size w.heap.size nb np ch pg 0) := by
    have := HB2.out
    simp only [NF.cells, NF.new, List.length_replicate] at this
    exact this
  have HW2 : Hid (Below w.heap.size w (w1.alloc (.cells #[.bool false, .int .i64 0, .int .i64 0, .slice (some ⟨w.heap.size, 0, none⟩) nb nb, .int .i64 (np : Int), .int .i64 (ch : Int), .int .i64 0, .int .i64 0, .int .i64 0] 43))) := Lib.hid (HW1.out.alloc HW1.out.size _)
  generalize w1.alloc (.cells #[.bool false, .int .i64 0, .int .i64 0, .slice (some ⟨w.heap.size, 0, none⟩) nb nb, .int .i64 (np : Int), .int .i64 (ch : Int), .int .i64 0, .int .i64 0, .int .i64 0] 43) = w2 at HB3 HW2 ⊢
  clear HB2 HB1 HW1
  generalize w1.heap.size = g at HB3 ⊢
  clear w1
  obtain ⟨gl, hgl⟩ : ∃ gl, gl = w.heap.size := ⟨_, rfl⟩
  rw [← hgl] at HB3 HW2 ⊢
  have HGl := Lib.hid hgl
  clear hgl
  go_loopw [48] (fun i wr => ∃ k : Nat, k ≤ nb ∧ i = .int .i64 (k : Int) ∧ Hid (∃ pg, NewS gl wr g gl nb np ch pg k) ∧ Hid (Below gl w wr)) (fun i _ => nb - (intOf i).toNat)
  case atStart => exact ⟨0, Nat.zero_le _, rfl, HB3, HW2⟩
  case round =>
    clear HB3 HW2
    obtain ⟨k, hk, rfl, HB, HW⟩ := hrel
    obtain ⟨wo, rfl⟩ : ∃ wo : World, wo = wr := ⟨_, rfl⟩
    obtain ⟨pg, hpg⟩ := HB.out
    have HN := Lib.hid hpg
    clear hpg HB
    by_cases hlt : k < nb
    · have hlt' : (k : Int) < (nb : Int) := by omega
      have hb0 : (0 : Int) ≤ (k : Int) ∧ (k : Int) < (nb : Int) := by omega
      have c3 : wo.cell? ⟨g, 3, none⟩ = some (.slice (some ⟨gl, 0, none⟩) nb nb) := by
        rw [HN.out.own.at 3]
        simp [NF.cells, NF.new]
      have HST : Hid (∀ w1, HasB w1 wo.heap.size (madeCells (Value.slice none 0 0).cells (np * 1)) 29 → wo.grownBy w1 none → (∃ pg, NewS gl (w1.setCell ⟨gl, 5 * k, none⟩ (.slice (some ⟨wo.heap.size, 0, none⟩) np np)) g gl nb np ch pg (k + 1)) ∧ Below gl w (w1.setCell ⟨gl, 5 * k, none⟩ (.slice (some ⟨wo.heap.size, 0, none⟩) np np)) ∧ w1.frozen? ⟨gl, 5 * k, none⟩ = false ∧ ∃ v, w1.cell? ⟨gl, 5 * k, none⟩ = some v) := Lib.hid (fun w1 q1 q2 => by
        obtain ⟨C, e1, e2, _⟩ := HN.out.blk
        have hsz : gl ≤ wo.heap.size := by rw [HGl.out]; exact HW.out.size
        refine ⟨⟨_, HN.out.step hlt hsz q1 q2⟩, ?_, (e1.kept q2 (by simp)).free _, C[5 * k]'(by omega), by rw [(e1.kept q2 (by simp)).at]; exact Array.getElem?_eq_getElem (by omega)⟩
        exact ((HW.out).grown q2 hsz (fun k hk => by simp at hk)).setCell (Nat.le_refl _) _)
      have HNe : Hid (g ≠ gl) := Lib.hid (by
        obtain ⟨C, e1, _⟩ := HN.out.blk
        exact hasB_ne HN.out.own e1 (by decide))
      go_wp2_with fail
      refine wp_region_held_drew (S := (fun w' => w'.cell? ⟨g, 3, none⟩ = some (.slice (some ⟨gl, 0, none⟩) nb nb))) (by kernel_rfl) (c3) (fun hHeld => ?_)
      refine held_take 0 (v := ?_) rfl (by kernel_rfl) (by kernel_rfl) (by kernel_rfl) (fun _ _ _ h => h) (by rfl) (fun w hS => ?_) (by assumption) ?_
      rotate_left
      · try dsimp only at hS
        go_simp <;> with_reducible rfl
      try simp only [Act.put, List.setIfInBounds_toArray, List.set_cons_zero, List.set_cons_succ]
      refine held_take 1 (v := ?_) rfl (by kernel_rfl) (by kernel_rfl) (by kernel_rfl) (fun _ _ _ h => h) (by rfl) (fun w hS => ?_) (by assumption) ?_
      rotate_left
      · try dsimp only at hS
        go_simp <;> with_reducible rfl
      try simp only [Act.put, List.setIfInBounds_toArray, List.set_cons_zero, List.set_cons_succ]
      refine held_take 2 (v := ?_) rfl (by kernel_rfl) (by kernel_rfl) (by kernel_rfl) (fun _ _ _ h => h) (by rfl) (fun w hS => ?_) (by assumption) ?_
      rotate_left
      · try dsimp only at hS
        go_simp <;> with_reducible rfl
      try simp only [Act.put, List.setIfInBounds_toArray, List.set_cons_zero, List.set_cons_succ]
      refine held_take 3 (v := ?_) rfl (by kernel_rfl) (by kernel_rfl) (by kernel_rfl) (fun _ _ _ h => h) (by rfl) (fun w hS => ?_) (by assumption) ?_
      rotate_left
      · try dsimp only at hS
        go_simp <;> with_reducible rfl
      try simp only [Act.put, List.setIfInBounds_toArray, List.set_cons_zero, List.set_cons_succ]
      refine held_take 4 (v := ?_) rfl (by kernel_rfl) (by kernel_rfl) (by kernel_rfl) (fun _ _ _ h => h) (by rfl) (fun w hS => ?_) (by assumption) ?_
      rotate_left
      · try dsimp only at hS
        go_simp <;> with_reducible rfl
      try simp only [Act.put, List.setIfInBounds_toArray, List.set_cons_zero, List.set_cons_succ]
      refine held_take 5 (v := ?_) rfl (by kernel_rfl) (by kernel_rfl) (by kernel_rfl) (fun _ _ _ h => h) (by rfl) (fun w hS => ?_) (by assumption) ?_
      rotate_left
      · try dsimp only at hS
        go_simp <;> with_reducible rfl
      try simp only [Act.put, List.setIfInBounds_toArray, List.set_cons_zero, List.set_cons_succ]
      refine held_one 6 rfl (by kernel_rfl) (fun K hK => ?_)
      refine (if_pos (by kernel_rfl)).mpr ?_
      refine wp_make_row (.tmp 56) (.tmp 56) 65 rfl 29 Try.underlying65 _ _ _ Try.infoPg np rfl rfl (by omega) (by decide) ?_
      intro wm hm hgm
      obtain ⟨st1, st2, st3, vold, st4⟩ := HST.out wm hm ⟨hgm.os, hgm.tape, hgm.output, hgm.size, hgm.block⟩
      have hcm : wm.cell? ⟨g, 3, none⟩ = some (.slice (some ⟨gl, 0, none⟩) nb nb) := hgm.cell c3 (by simp)
      rw [Nat.mul_comm 5 k] at st1 st2 st3 st4
      have HCs : Hid ((wm.setCell ⟨gl, k * 5, none⟩ (.slice (some ⟨wo.heap.size, 0, none⟩) np np)).cell? ⟨g, 3, none⟩ = some (.slice (some ⟨gl, 0, none⟩) nb nb)) := Lib.hid (by rw [World.cell?_setCell_other (h := by intro e; simp at e)]; exact hcm)
      have HX := Lib.hid st1
      have HY := Lib.hid st2
      clear st1 st2 hm hgm
      refine hK.out _ _ (fun w' => w'.cell? ⟨g, 3, none⟩ = some (.slice (some ⟨gl, 0, none⟩) nb nb)) (fun _ h => h) hcm (fun hHeld => ?_)
      clear hK K
      try simp only [Act.put, List.setIfInBounds_toArray, List.set_cons_zero, List.set_cons_succ]
      refine held_take 7 (v := ?_) rfl (by kernel_rfl) (by kernel_rfl) (by kernel_rfl) (fun _ _ _ h => h) (by rfl) (fun w hS => ?_) (by assumption) ?_
      rotate_left
      · try dsimp only at hS
        go_simp <;> with_reducible rfl
      try simp only [Act.put, List.setIfInBounds_toArray, List.set_cons_zero, List.set_cons_succ]
      refine held_take 8 (v := ?_) rfl (by kernel_rfl) (by kernel_rfl) (by kernel_rfl) (fun _ _ _ h => h) (by rfl) (fun w hS => ?_) (by assumption) ?_
      rotate_left
      · try dsimp only at hS
        go_simp <;> with_reducible rfl
      try simp only [Act.put, List.setIfInBounds_toArray, List.set_cons_zero, List.set_cons_succ]
      refine held_one 9 rfl (by kernel_rfl) (fun K hK => ?_)
      go_simp
      refine hK.out _ _ (fun w' => w'.cell? ⟨g, 3, none⟩ = some (.slice (some ⟨gl, 0, none⟩) nb nb)) (fun _ h => h) HCs.out (fun hHeld => ?_)
      clear hK K
      try simp only [Act.put, List.setIfInBounds_toArray, List.set_cons_zero, List.set_cons_succ]
      refine held_done (by kernel_rfl) ?_
      go_wp2_with fail
      go_roundw
      case rel => exact ⟨k + 1, by omega, by simp, HX, HY⟩
      case measure => simp [intOf]; omega
    · obtain rfl : k = nb := by omega
      have HF := Lib.hid HN.out.flash
      go_wp2_with fail
      rw [HPOST.out]
      refine ⟨⟨g, rfl, ?_⟩, by rw [← HGl.out]; exact HW.out⟩
      rw [← HGl.out]
      exact HF.out
end Go.Proofs.Ytbbhniohliklhaa
