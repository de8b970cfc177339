/- nand: the reference: New, step, Mode, Fail, Arm, Cut. -/
import Derived.Test.YtbbhniohliklhaaNandRA
namespace Go.Proofs.Ytbbhniohliklhaa
open Go Go.RowKit
set_option linter.unusedVariables false

theorem Try.infoRB : (Try.prog.info? 86).map (fun i => (i.zero, i.size, i.bytes)) = some (some (.agg #[.slice none 0 0, .bool false, .bool false, .bool false]), 4, 32) := by kernel_rfl

/-- What New gives. -/
def RNewR (nb np ch : Nat) (w : World) (e : Ending) (w' : World) : Prop :=
  (∃ g, e = .returned (.tuple #[.pointer (some ⟨g, 0, none⟩), .int .i64 0]) ∧ RefG (fun k => w.heap.size ≤ k ∧ k < w'.heap.size) w' g (NF.new nb np ch)) ∧ Below w.heap.size w w'
theorem rnew_first {w : World} {B nb np ch g : Nat} (h1 : HasB w B (madeCells (Value.agg #[.slice none 0 0, .bool false, .bool false, .bool false]).cells (nb * 4)) 86) (h2 : HasB w g ((NF.new nb np ch).rcells B) 77) (hg : B ≤ g) (hnb : nb ≤ 1024) (h3 : 2 ≤ np) (h4 : np ≤ 256) (h6 : 1 ≤ ch) (h7 : ch ≤ 8) : RefG (fun k => B ≤ k ∧ k < w.heap.size) w g (NF.new nb np ch) := by
  refine ⟨⟨⟨B, fun _ => .slice none 0 0, fun _ _ => .slice none 0 0⟩, h2, ⟨_, h1, by rw [size_madeCells]; simp [NF.new]; omega, fun i x hx => ?_⟩, fun i x hx => ?_, ?_, ⟨⟨hg, h2.lt⟩, ⟨Nat.le_refl _, h1.lt⟩⟩⟩, fun k hk => hk.2, NF.new_good hnb h3 h4 h6 h7⟩
  · obtain ⟨q1, rfl⟩ := NF.new_at hx
    have hz : (Value.agg #[.slice none 0 0, .bool false, .bool false, .bool false]).cells = #[.slice none 0 0, .bool false, .bool false, .bool false] := by rfl
    refine ⟨?_, fun k k1 k4 => ?_⟩
    · rw [madeCells_at _ _ _ (by omega) (by decide), hz]
      rw [show (#[Value.slice none 0 0, .bool false, .bool false, .bool false]).size = 4 by rfl, show (4 * i) % 4 = 0 by omega]
      rfl
    · rw [madeCells_at _ _ _ (by omega) (by decide), hz]
      rw [show (#[Value.slice none 0 0, .bool false, .bool false, .bool false]).size = 4 by rfl, show (4 * i + k) % 4 = k by omega]
      match k, k1, k4 with
      | 1, _, _ => rfl
      | 2, _, _ => rfl
      | 3, _, _ => rfl
  · obtain ⟨q1, rfl⟩ := NF.new_at hx
    refine ⟨World.ownsRow_nil _ _ _ _, fun k hk => by simp [Value.ownBlock] at hk, fun j l hj => ?_⟩
    simp [NB.new] at hj
  · intro i j k hi hj hk
    simp [Value.ownBlock] at hk

set_option maxRecDepth 100000 in
theorem rnew_ok (nb np ch : Nat) (w : World) (h1 : 1 ≤ nb) (h2 : nb ≤ 1024) (h3 : 2 ≤ np) (h4 : np ≤ 256) (h5 : np % 2 = 0) (h6 : 1 ≤ ch) (h7 : ch ≤ 8) :
    Calls Try.prog 24 #[.int .i64 (nb : Int), .int .i64 (np : Int), .int .i64 (ch : Int)] w (RNewR nb np ch w) := by
  obtain ⟨POST, hPOST⟩ : ∃ POST, POST = RNewR nb np ch w := ⟨_, rfl⟩
  rw [← hPOST]
  have HPOST := Lib.hid hPOST
  clear hPOST
  have t1 : ¬ ((nb : Int) < 1) := by omega
  have t2 : ¬ ((1024 : Int) < nb) := by omega
  have t3 : ¬ ((np : Int) < 2) := by omega
  have t4 : ¬ ((256 : Int) < np) := by omega
  have t5 : (np : Int) % 2 = 0 := by omega
  have t6 : ¬ ((ch : Int) < 1) := by omega
  have t7 : ¬ ((8 : Int) < ch) := by omega
  clear h5
  go_enter Try.func24, Try.ntmps24
  go_wp2_with (at_make; refine Stop.mk ?_)
  refine Stop.go ?_
  refine wpList_make_row rfl (.tmp 35) (.tmp 35) 75 rfl 86 Try.underlying75 _ _ _ Try.infoRB nb rfl rfl (by omega) (by decide) ?_
  intro w1 hb1 hg1
  have HB1 := Lib.hid hb1
  have HW1 : Hid (Below w.heap.size w w1) := Lib.hid ((Below.refl _ _).grown hg1 (Nat.le_refl _) (fun k hk => by simp at hk))
  clear hb1 hg1
  go_wp2_with fail
  rw [HPOST.out]
  refine ⟨⟨_, rfl, ?_⟩, HW1.out.alloc HW1.out.size _⟩
  have hz : HasB (w1.alloc (.cells ((NF.new nb np ch).rcells w.heap.size) 77)) w1.heap.size ((NF.new nb np ch).rcells w.heap.size) 77 := HasB.new _ _ _
  have hk := rnew_first (HB1.out.alloc (.cells ((NF.new nb np ch).rcells w.heap.size) 77)) hz HW1.out.size h2 h3 h4 h6 h7
  simp only [NF.rcells, NF.new, List.length_replicate] at hk ⊢
  exact hk
theorem rnew_bad (b p c : Int) (w : World) (h : b < 1 ∨ 1024 < b ∨ p < 2 ∨ 256 < p ∨ ¬ p.tmod 2 = 0 ∨ c < 1 ∨ 8 < c) :
    Calls Try.prog 24 #[.int .i64 b, .int .i64 p, .int .i64 c] w fun e w' => e = .returned (.tuple #[.pointer none, .int .i64 1]) ∧ w = w' := by
  by_cases t1 : b < 1
  · clear h
    go_enter Try.func24, Try.ntmps24
    go_wp2_with fail
    go_ret2
    exact ⟨rfl, rfl⟩
  by_cases t2 : 1024 < b
  · clear h
    go_enter Try.func24, Try.ntmps24
    go_wp2_with fail
    go_ret2
    exact ⟨rfl, rfl⟩
  by_cases t3 : p < 2
  · clear h
    go_enter Try.func24, Try.ntmps24
    go_wp2_with fail
    go_ret2
    exact ⟨rfl, rfl⟩
  by_cases t4 : 256 < p
  · clear h
    go_enter Try.func24, Try.ntmps24
    go_wp2_with fail
    go_ret2
    exact ⟨rfl, rfl⟩
  rw [Int.tmod_eq_emod_of_nonneg (by omega)] at h
  by_cases t5 : p % 2 = 0
  · have t6 : c < 1 ∨ 8 < c := by omega
    clear h
    by_cases t7 : c < 1
    · clear t6
      go_enter Try.func24, Try.ntmps24
      go_wp2_with fail
      go_ret2
      exact ⟨rfl, rfl⟩
    · have t8 : 8 < c := by omega
      clear t6
      go_enter Try.func24, Try.ntmps24
      go_wp2_with fail
      go_ret2
      exact ⟨rfl, rfl⟩
  · have t5' : (p % 2 == 0) = false := by simpa using t5
    clear h
    go_enter Try.func24, Try.ntmps24
    go_wp2_with fail
    go_ret2
    exact ⟨rfl, rfl⟩

section
variable {M : RMem} {S : Zone} {g : Nat} {F : NF} {ex : Nat → Nat → Bool}
theorem RefX.cut {w : World} (h : RefX M S w g F ex) : RefX M S ((w.setCell ⟨g, 4, none⟩ (.int .i64 0)).setCell ⟨g, 3, none⟩ (.bool true)) g F.cut ex := by
  have h1 := h.setOwn (F' := { F with armed := 0 }) 4 (.int .i64 0) (by simp [NF.rcells]) rfl
  exact h1.setOwn 3 (.bool true) (by simp [NF.rcells, NF.cut]) rfl
theorem rstep_cut (w : World) (h : RefX M S w g F ex) (ha : F.armed = 1) :
    Calls Try.prog 52 #[.pointer (some ⟨g, 0, none⟩)] w fun e w' => e = .returned (.bool false) ∧ RefX M S w' g F.cut ex ∧ w.grownBy w' (some g) := by
  obtain ⟨-, -, -, c3, c4, c5, -⟩ := h.gcells
  have f3 := h.gfree 3
  have f4 := h.gfree 4
  rw [ha] at c4
  have HN := Lib.hid h.cut
  have HG : Hid (w.grownBy ((w.setCell ⟨g, 4, none⟩ (.int .i64 0)).setCell ⟨g, 3, none⟩ (.bool true)) (some g)) := Lib.hid (gb_set (gb_set (gb_refl _ _) 4 _) 3 _)
  clear h ha
  go_enter Try.func52, Try.ntmps52
  go_wp2_with fail
  go_ret
  exact ⟨rfl, HN.out, HG.out⟩
theorem rstep_yes (w : World) (h : RefX M S w g F ex) (h0 : 0 ≤ F.armed) (h1 : F.armed ≤ 9223372036854775807) (ha : ¬ F.armed = 1) :
    Calls Try.prog 52 #[.pointer (some ⟨g, 0, none⟩)] w fun e w' => e = .returned (.bool true) ∧ RefX M S w' g F.tick ex ∧ w.grownBy w' (some g) := by
  obtain ⟨-, -, -, c3, c4, c5, -⟩ := h.gcells
  have f4 := h.gfree 4
  have f5 := h.gfree 5
  have e1 : (F.armed == 1) = false := by simpa using ha
  by_cases hp : 0 < F.armed
  · have hN : RefX M S ((w.setCell ⟨g, 4, none⟩ (.int .i64 (F.armed - 1))).setCell ⟨g, 5, none⟩ (.int .i64 (IntKind.i64.wrap (F.st + 1)))) g F.tick ex := by
      have h1 := h.setOwn (F' := { F with armed := F.armed - 1 }) 4 (.int .i64 (F.armed - 1)) (by simp [NF.rcells]) rfl
      exact h1.setOwn 5 (.int .i64 (IntKind.i64.wrap (F.st + 1))) (by simp [NF.rcells, NF.tick]; omega) rfl
    have HN := Lib.hid hN
    have HG : Hid (w.grownBy ((w.setCell ⟨g, 4, none⟩ (.int .i64 (F.armed - 1))).setCell ⟨g, 5, none⟩ (.int .i64 (IntKind.i64.wrap (F.st + 1)))) (some g)) := Lib.hid (gb_set (gb_set (gb_refl _ _) 4 _) 5 _)
    generalize F.armed = ar at *
    generalize F.st = st at *
    obtain ⟨s2, hs2⟩ : ∃ s2, s2 = IntKind.i64.wrap (st + 1) := ⟨_, rfl⟩
    have hs3 : wrap64 (st + 1) = s2 := by rw [hs2, IntKind.wrap_i64]; unfold wrap64; omega
    rw [← hs2] at HN HG
    clear h hN ha hs2
    go_enter Try.func52, Try.ntmps52
    go_wp2_with fail
    go_ret
    exact ⟨rfl, HN.out, HG.out⟩
  · have ha0 : F.armed = 0 := by omega
    have hN : RefX M S (w.setCell ⟨g, 5, none⟩ (.int .i64 (IntKind.i64.wrap (F.st + 1)))) g F.tick ex := h.setOwn 5 (.int .i64 (IntKind.i64.wrap (F.st + 1))) (by simp [NF.rcells, NF.tick, ha0]; omega) rfl
    have HN := Lib.hid hN
    have HG : Hid (w.grownBy (w.setCell ⟨g, 5, none⟩ (.int .i64 (IntKind.i64.wrap (F.st + 1)))) (some g)) := Lib.hid (gb_set (gb_refl _ _) 5 _)
    rw [ha0] at c4
    generalize F.st = st at *
    obtain ⟨s2, hs2⟩ : ∃ s2, s2 = IntKind.i64.wrap (st + 1) := ⟨_, rfl⟩
    have hs3 : wrap64 (st + 1) = s2 := by rw [hs2, IntKind.wrap_i64]; unfold wrap64; omega
    rw [← hs2] at HN HG
    clear h hN ha hs2 ha0 hp e1 h0 h1
    go_enter Try.func52, Try.ntmps52
    go_wp2_with fail
    go_ret
    exact ⟨rfl, HN.out, HG.out⟩
theorem rcut_any (w : World) (h : RefX M S w g F ex) :
    Calls Try.prog 42 #[.pointer (some ⟨g, 0, none⟩)] w fun e w' => e = .returned (.tuple #[]) ∧ RefX M S w' g F.cut ex ∧ w.grownBy w' (some g) := by
  obtain ⟨-, -, -, c3, c4, -⟩ := h.gcells
  have f3 := h.gfree 3
  have f4 := h.gfree 4
  have hN : RefX M S ((w.setCell ⟨g, 3, none⟩ (.bool true)).setCell ⟨g, 4, none⟩ (.int .i64 0)) g F.cut ex := by
    have h1 := h.setOwn (F' := { F with off := true }) 3 (.bool true) (by simp [NF.rcells]) rfl
    exact h1.setOwn 4 (.int .i64 0) (by simp [NF.rcells, NF.cut]) rfl
  have HN := Lib.hid hN
  have HG : Hid (w.grownBy ((w.setCell ⟨g, 3, none⟩ (.bool true)).setCell ⟨g, 4, none⟩ (.int .i64 0)) (some g)) := Lib.hid (gb_set (gb_set (gb_refl _ _) 3 _) 4 _)
  clear h hN
  go_enter Try.func42, Try.ntmps42
  go_wp2_with fail
  go_end0
  exact ⟨rfl, HN.out, HG.out⟩
theorem rarm_any (n : Int) (w : World) (h : RefX M S w g F ex) :
    Calls Try.prog 40 #[.pointer (some ⟨g, 0, none⟩), .int .i64 n] w fun e w' => e = .returned (.tuple #[]) ∧ RefX M S w' g (F.arm n) ex ∧ w.grownBy w' (some g) := by
  obtain ⟨-, -, -, c3, c4, -⟩ := h.gcells
  have f4 := h.gfree 4
  have HN : Hid (RefX M S (w.setCell ⟨g, 4, none⟩ (.int .i64 (max n 1))) g (F.arm n) ex) := Lib.hid (h.setOwn 4 (.int .i64 (max n 1)) (by simp [NF.rcells, NF.arm]) rfl)
  have HG : Hid (w.grownBy (w.setCell ⟨g, 4, none⟩ (.int .i64 (max n 1))) (some g)) := Lib.hid (gb_set (gb_refl _ _) 4 _)
  clear h
  by_cases hn : n < 1
  · rw [show max n 1 = 1 by omega] at HN HG
    go_enter Try.func40, Try.ntmps40
    go_wp2_with fail
    go_end0
    exact ⟨rfl, HN.out, HG.out⟩
  · rw [show max n 1 = n by omega] at HN HG
    go_enter Try.func40, Try.ntmps40
    go_wp2_with fail
    go_end0
    exact ⟨rfl, HN.out, HG.out⟩
theorem rfail_out (n : Int) (w : World) (h : RefX M S w g F ex) (hn : n < 0 ∨ (F.bl.length : Int) ≤ n) :
    Calls Try.prog 38 #[.pointer (some ⟨g, 0, none⟩), .int .i64 n] w fun e w' => e = .returned (.bool false) ∧ w = w' := by
  have HI := Lib.hid (fun w (h : RefX M S w g F ex) => ris_out n w h hn)
  have HH := Lib.hid h
  clear h hn
  go_enter Try.func38, Try.ntmps38
  go_wp2_with fail
  refine (HI.out _ HH.out).mono ?_
  rintro e w1 ⟨rfl, rfl⟩
  go_wp2_with fail
  go_ret
  exact ⟨rfl, rfl⟩
theorem rfail_any (n : Nat) (x : NB) (w : World) (h : RefX M S w g F ex) (hx : F.bl[n]? = some x) :
    Calls Try.prog 38 #[.pointer (some ⟨g, 0, none⟩), .int .i64 (n : Int)] w fun e w' => e = .returned (.bool true) ∧ RefX M S w' g (F.setB n { x with failed := true }) ex ∧ Fr S w w' := by
  obtain ⟨c0, -⟩ := h.gcells
  obtain ⟨-, -, -, b3⟩ := h.bcells hx
  have f3 := h.bfree (4 * n + 3)
  have hn := lt_of_get hx
  have HI := Lib.hid (fun w (h : RefX M S w g F ex) => ris_in n w h hn)
  have HH := Lib.hid h
  have HN : Hid (RefX M S (w.setCell ⟨M.gb, 4 * n + 3, none⟩ (.bool true)) g (F.setB n { x with failed := true }) ex) := Lib.hid (h.setBlk n x { x with failed := true } hx 3 (by omega) (by omega) (.bool true) rfl rfl (fun j h1 h5 => by
    match j, h1, h5 with
    | 1, _, _ => rfl
    | 2, _, _ => rfl
    | 3, _, _ => rfl))
  have HF : Hid (Fr S w (w.setCell ⟨M.gb, 4 * n + 3, none⟩ (.bool true))) := Lib.hid (h.frBlk (gb_set (gb_refl _ _) _ _))
  rw [Nat.mul_comm 4 n] at b3 f3 HN HF
  have hb0 : (0 : Int) ≤ (n : Int) ∧ (n : Int) < (F.bl.length : Int) := by omega
  generalize F.bl.length = L at *
  clear h hx hn
  go_enter Try.func38, Try.ntmps38
  go_wp2_with fail
  refine (HI.out _ HH.out).mono ?_
  rintro e w1 ⟨rfl, rfl⟩
  go_wp2_with fail
  go_ret
  exact ⟨rfl, HN.out, HF.out⟩
end
end Go.Proofs.Ytbbhniohliklhaa
