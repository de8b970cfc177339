/- wear.best: the first block of which none is ahead. -/
import Derived.Test.YtjadkfgkidejbaaWearC
namespace Go.Proofs.Ytjadkfgkidejbaa
open Go.RowKit
set_option linter.unusedVariables false

def bestStep (may : Blk → Bool) (ahead : Blk → Blk → Bool) (o : Option Blk) (b : Blk) : Option Blk :=
  if rightB b && may b && (match o with | none => true | some c => ahead b c) then some b else o
def bestOf (may : Blk → Bool) (ahead : Blk → Blk → Bool) (l : List Blk) : Option Blk := l.foldl (bestStep may ahead) none

theorem bestOf_snoc (may : Blk → Bool) (ahead : Blk → Blk → Bool) (l : List Blk) (k : Nat) (z : Blk) (h : l[k]? = some z) : bestOf may ahead (l.take (k + 1)) = bestStep may ahead (bestOf may ahead (l.take k)) z := by
  have hk : k < l.length := (List.getElem?_eq_some_iff.1 h).1
  rw [List.take_succ_eq_append_getElem hk, (List.getElem?_eq_some_iff.1 h).2]
  simp [bestOf, List.foldl_append]

theorem bestStep_right {may : Blk → Bool} {ahead : Blk → Blk → Bool} {o : Option Blk} {b c : Blk} (h : bestStep may ahead o b = some c) : (rightB c = true ∧ may c = true ∧ c = b) ∨ o = some c := by
  unfold bestStep at h
  generalize (match o with | none => true | some c => ahead b c) = t at h
  cases hr : rightB b <;> cases hm : may b <;> cases t <;> simp [hr, hm] at h
  all_goals first
    | exact .inr h
    | (subst h; exact .inl ⟨hr, hm, rfl⟩)

theorem fold_right {may : Blk → Bool} {ahead : Blk → Blk → Bool} : ∀ (l : List Blk) (o : Option Blk) (c : Blk), l.foldl (bestStep may ahead) o = some c → (rightB c = true ∧ may c = true ∧ c ∈ l) ∨ o = some c
  | [], o, c, h => .inr h
  | b :: r, o, c, h => by
    rcases fold_right r _ c h with ⟨h1, h2, h3⟩ | h1
    · exact .inl ⟨h1, h2, List.mem_cons_of_mem _ h3⟩
    · rcases bestStep_right h1 with ⟨h2, h3, h4⟩ | h2
      · exact .inl ⟨h2, h3, by simp [h4]⟩
      · exact .inr h2

theorem bestOf_right {may : Blk → Bool} {ahead : Blk → Blk → Bool} {l : List Blk} {c : Blk} (h : bestOf may ahead l = some c) : rightB c = true ∧ may c = true ∧ c ∈ l := by
  rcases fold_right l none c h with h | h
  · exact h
  · simp at h

theorem right7_any (n l p o : Int) (x y z : Bool) (w : World) : Calls Try.prog 37 #[.agg #[.int .i64 n, .int .i64 l, .int .i64 p, .int .i64 o, .bool x, .bool y, .bool z]] w fun e w' => e = .returned (.bool (rightB ⟨n, l, p, o, x, y, z⟩)) ∧ Below w.heap.size w w' := right_any ⟨n, l, p, o, x, y, z⟩ w

/-- The cells of one element. -/
theorem Blk.sevenAt {w wr : World} {b off len k : Nat} {l : List Blk} {z : Blk} (hl : Rws 7 Blk.cells w (some ⟨b, off, none⟩) len l) (hb : Below w.heap.size w wr) (h0 : k < len) (hx : l[k]? = some z) :
    b < w.heap.size ∧ wr.cell? ⟨b, off + k * 7, none⟩ = some (.int .i64 z.n) ∧ wr.cell? ⟨b, off + k * 7 + 1, none⟩ = some (.int .i64 z.live) ∧ wr.cell? ⟨b, off + k * 7 + 2, none⟩ = some (.int .i64 z.pages) ∧ wr.cell? ⟨b, off + k * 7 + 3, none⟩ = some (.int .i64 z.worn) ∧
    wr.cell? ⟨b, off + k * 7 + 4, none⟩ = some (.bool z.op) ∧ wr.cell? ⟨b, off + k * 7 + 5, none⟩ = some (.bool z.one) ∧ wr.cell? ⟨b, off + k * 7 + 6, none⟩ = some (.bool z.bad) := by
  obtain ⟨b', off', he, hlt, hc⟩ := hl.2 (by omega)
  simp only [Option.some.injEq, Addr.mk.injEq, and_true] at he
  obtain ⟨rfl, rfl⟩ := he
  have h := fun j (hj : j < 7) => (hb.cell (p := ⟨b, off + (k * 7 + j), none⟩) hlt).trans (hc k z hx j hj)
  exact ⟨hlt, h 0 (by omega), h 1 (by omega), h 2 (by omega), h 3 (by omega), h 4 (by omega), h 5 (by omega), h 6 (by omega)⟩

/-- A variable of that type: a block of seven cells. -/
def BlkAt (w : World) (g : Nat) (b : Blk) : Prop := HasB w g #[.int .i64 b.n, .int .i64 b.live, .int .i64 b.pages, .int .i64 b.worn, .bool b.op, .bool b.one, .bool b.bad] 57

def Blk.val (b : Blk) : Value := .agg #[.int .i64 b.n, .int .i64 b.live, .int .i64 b.pages, .int .i64 b.worn, .bool b.op, .bool b.one, .bool b.bad]

set_option maxRecDepth 100000 in
set_option maxHeartbeats 8000000 in
theorem best_any (may : Blk → Bool) (ahead : Blk → Blk → Bool) (fm fa : Nat) (ca : Array Value) (a : Option Addr) (len cap : Nat) (l : List Blk) (W : World) (hm : len ≤ 9223372036854775807)
    (hl : Rws 7 Blk.cells W a len l)
    (hfm : ∀ args w', Sem.run Try.prog (callFunc fm args) w' = .ok (.enter fm args) w') (hfa : ∀ args w', Sem.run Try.prog (callFunc fa args) w' = .ok (.enter fa args) w')
    (hmay : ∀ (b : Blk) (w' : World), Below W.heap.size W w' → Calls Try.prog fm #[.agg #[.int .i64 b.n, .int .i64 b.live, .int .i64 b.pages, .int .i64 b.worn, .bool b.op, .bool b.one, .bool b.bad]] w' fun e w'' => e = .returned (.bool (may b)) ∧ Below w'.heap.size w' w'')
    (hahead : ∀ (b c : Blk) (w' : World), Below W.heap.size W w' → rightB b = true → rightB c = true → Calls Try.prog fa (#[.agg #[.int .i64 b.n, .int .i64 b.live, .int .i64 b.pages, .int .i64 b.worn, .bool b.op, .bool b.one, .bool b.bad], .agg #[.int .i64 c.n, .int .i64 c.live, .int .i64 c.pages, .int .i64 c.worn, .bool c.op, .bool c.one, .bool c.bad]] ++ ca) w' fun e w'' => e = .returned (.bool (ahead b c)) ∧ Below w'.heap.size w' w'') :
    Calls Try.prog 95 #[.slice a len cap, .func (.func fm) #[] #[], .func (.func fa) #[] ca] W fun e w' => e = .returned (.tuple #[((bestOf may ahead l).getD Blk.zero).val, .bool (bestOf may ahead l).isSome]) ∧ Below W.heap.size W w' := by
  have hll := hl.1
  go_enter Try.func95, Try.ntmps95
  go_wp2_with fail
  go_loopw [9, 14] (fun so i wr => ∃ k : Nat, k ≤ len ∧ i = .int .i64 k ∧ so = .bool (bestOf may ahead (l.take k)).isSome ∧ Below W.heap.size W wr ∧ BlkAt wr W.heap.size Blk.zero ∧ BlkAt wr (W.heap.size + 1) ((bestOf may ahead (l.take k)).getD Blk.zero)) (fun _ i _ => len - (intOf i).toNat)
  case atStart => exact ⟨0, Nat.zero_le _, rfl, rfl, below_new (below_new (Below.refl _ _) (Nat.le_refl _) _) (by simp) _, (HasB.new W _ _).alloc _, HasB.new' (by simp) _ _⟩
  case round =>
    obtain ⟨k, hk, rfl, rfl, hb, h0, h1⟩ := hrel
    by_cases hlt : k < len
    · obtain ⟨bb, off, rfl, hlt2, hc⟩ := hl.2 (by omega)
      have hx : l[k]? = some l[k] := List.getElem?_eq_getElem (by omega)
      obtain ⟨z, HZ⟩ : ∃ z, Hid (z = l[k]) := ⟨_, Lib.hid rfl⟩
      rw [← HZ.out] at hx
      obtain ⟨hlt3, hc0, hc1, hc2, hc3, hc4, hc5, hc6⟩ := Blk.sevenAt hl hb hlt hx
      clear hc
      have Hm := Lib.hid hmay
      have Ha := Lib.hid hahead
      clear hmay hahead
      obtain ⟨o, HO⟩ : ∃ o, Hid (o = bestOf may ahead (l.take k)) := ⟨_, Lib.hid rfl⟩
      rw [← HO.out] at h1
      rw [← HO.out]
      have hsz := h1.lt
      obtain ⟨_, f0, f1, f2, f3, f4, f5, f6⟩ := HasB.seven h1
      have HS : Hid (bestOf may ahead (l.take (k + 1)) = bestStep may ahead o z) := Lib.hid (by rw [bestOf_snoc may ahead l k z hx, HO.out])
      have ext1 : ∀ w' : World, Below W.heap.size W w' → Below wr.heap.size wr w' → rightB z = false → (∃ k' : Nat, k' ≤ len ∧ Value.int .i64 (↑k + 1) = .int .i64 k' ∧ Value.bool o.isSome = .bool (bestOf may ahead (l.take k')).isSome ∧ Below W.heap.size W w' ∧ BlkAt w' W.heap.size Blk.zero ∧ BlkAt w' (W.heap.size + 1) ((bestOf may ahead (l.take k')).getD Blk.zero)) := fun w' hB hK hr => ⟨k + 1, hlt, by go_num, by rw [HS.out]; simp [bestStep, hr], hB, h0.below hK h0.lt, by rw [HS.out, show bestStep may ahead o z = o from by simp [bestStep, hr]]; exact h1.below hK h1.lt⟩
      have HE1 := Lib.hid ext1
      clear ext1
      cases hr : rightB z
      · have hq : ∀ b : Blk, b = z → rightB b = false := fun b h => h ▸ hr
        have HQ := Lib.hid hq
        clear hq
        go_wp2_with fail
        all_goals (try (go_at_call 37
                        refine (right7_any _ _ _ _ _ _ _ _).mono ?_
                        rintro e w1 ⟨rfl, hb1⟩
                        rw [HQ.out]
                        rotate_left
                        · cases z
                          simp_all
                          done))
        all_goals (try (go_wp2_with fail))
        all_goals
          go_roundw
          case rel => first
            | exact HE1.out _ (below_call (below_new hb hb.size _) (by assumption) (by simp; omega)) (below_call (below_new (Below.refl wr.heap.size wr) (Nat.le_refl _) _) (by assumption) (by simp)) hr
            | exact HE1.out _ (below_new hb hb.size _) (below_new (Below.refl _ _) (Nat.le_refl _) _) hr
          case measure => simp [intOf]; omega
      · obtain ⟨z1, z2, z3, z4, z5, z6, z7⟩ := rightB_bd hr
        rcases o with _ | c
        · cases hma : may z
          · go_wp2_with (first
              | (go_at_call 37; refine (right_any z _).mono ?_; rintro e w1 ⟨rfl, hb1⟩; rw [hr]; have hB1 := below_call (below_new hb hb.size _) hb1 (by simp; omega); have hK1 := below_call (below_new (Below.refl wr.heap.size wr) (Nat.le_refl _) _) hb1 (by simp); have n1 := (HasB.new wr _ _).below hb1 (by simp); obtain ⟨_, d0, d1, d2, d3, d4, d5, d6⟩ := HasB.seven n1)
              | (refine (Hm.out z _ (by assumption)).mono ?_; rintro e w2 ⟨rfl, hb2⟩; rw [hma]; have hB2 := below_call hB1 hb2 hB1.size; have hK2 := below_call hK1 hb2 hK1.size; obtain ⟨_, e0, e1, e2, e3, e4, e5, e6⟩ := HasB.seven (n1.below hb2 n1.lt); obtain ⟨_, g0, g1, g2, g3, g4, g5, g6⟩ := HasB.seven (h1.below hK2 h1.lt); obtain ⟨p0, p1, p2, p3, p4, p5, p6⟩ := HasB.free7 (h1.below hK2 h1.lt)))
            all_goals
              go_roundw
              case rel => exact ⟨k + 1, hlt, by go_num, by rw [HS.out]; simp [bestStep, hr, hma], hB2, h0.below hK2 h0.lt, by rw [HS.out, show bestStep may ahead none z = none from by simp [bestStep, hma]]; exact h1.below hK2 h1.lt⟩
              case measure => simp [intOf]; omega
          · go_wp2_with (first
              | (go_at_call 37; refine (right_any z _).mono ?_; rintro e w1 ⟨rfl, hb1⟩; rw [hr]; have hB1 := below_call (below_new hb hb.size _) hb1 (by simp; omega); have hK1 := below_call (below_new (Below.refl wr.heap.size wr) (Nat.le_refl _) _) hb1 (by simp); have n1 := (HasB.new wr _ _).below hb1 (by simp); obtain ⟨_, d0, d1, d2, d3, d4, d5, d6⟩ := HasB.seven n1)
              | (refine (Hm.out z _ (by assumption)).mono ?_; rintro e w2 ⟨rfl, hb2⟩; rw [hma]; have hB2 := below_call hB1 hb2 hB1.size; have hK2 := below_call hK1 hb2 hK1.size; obtain ⟨_, e0, e1, e2, e3, e4, e5, e6⟩ := HasB.seven (n1.below hb2 n1.lt); obtain ⟨_, g0, g1, g2, g3, g4, g5, g6⟩ := HasB.seven (h1.below hK2 h1.lt); obtain ⟨p0, p1, p2, p3, p4, p5, p6⟩ := HasB.free7 (h1.below hK2 h1.lt)))
            all_goals
              go_roundw
              case rel => exact ⟨k + 1, hlt, by go_num, by rw [HS.out]; simp [bestStep, hr, hma], below_set7 hB2 (by omega) .., HasB.set7_other (h0.below hK2 h0.lt) (by omega) .., by rw [HS.out, show bestStep may ahead none z = some z from by simp [bestStep, hr, hma]]; exact HasB.set7 (h1.below hK2 h1.lt) ..⟩
              case measure => simp [intOf]; omega
        · have HC := bestOf_right HO.out.symm
          cases hma : may z
          · go_wp2_with (first
              | (go_at_call 37; refine (right_any z _).mono ?_; rintro e w1 ⟨rfl, hb1⟩; rw [hr]; have hB1 := below_call (below_new hb hb.size _) hb1 (by simp; omega); have hK1 := below_call (below_new (Below.refl wr.heap.size wr) (Nat.le_refl _) _) hb1 (by simp); have n1 := (HasB.new wr _ _).below hb1 (by simp); obtain ⟨_, d0, d1, d2, d3, d4, d5, d6⟩ := HasB.seven n1)
              | (refine (Hm.out z _ (by assumption)).mono ?_; rintro e w2 ⟨rfl, hb2⟩; rw [hma]; have hB2 := below_call hB1 hb2 hB1.size; have hK2 := below_call hK1 hb2 hK1.size; obtain ⟨_, e0, e1, e2, e3, e4, e5, e6⟩ := HasB.seven (n1.below hb2 n1.lt); obtain ⟨_, g0, g1, g2, g3, g4, g5, g6⟩ := HasB.seven (h1.below hK2 h1.lt); obtain ⟨p0, p1, p2, p3, p4, p5, p6⟩ := HasB.free7 (h1.below hK2 h1.lt)))
            all_goals
              go_roundw
              case rel => exact ⟨k + 1, hlt, by go_num, by rw [HS.out]; simp [bestStep, hma], hB2, h0.below hK2 h0.lt, by rw [HS.out, show bestStep may ahead (some c) z = some c from by simp [bestStep, hma]]; exact h1.below hK2 h1.lt⟩
              case measure => simp [intOf]; omega
          · cases hah : ahead z c
            · go_wp2_with (first
              | (go_at_call 37; refine (right_any z _).mono ?_; rintro e w1 ⟨rfl, hb1⟩; rw [hr]; have hB1 := below_call (below_new hb hb.size _) hb1 (by simp; omega); have hK1 := below_call (below_new (Below.refl wr.heap.size wr) (Nat.le_refl _) _) hb1 (by simp); have n1 := (HasB.new wr _ _).below hb1 (by simp); obtain ⟨_, d0, d1, d2, d3, d4, d5, d6⟩ := HasB.seven n1)
              | (refine (Hm.out z _ (by assumption)).mono ?_; rintro e w2 ⟨rfl, hb2⟩; rw [hma]; have hB2 := below_call hB1 hb2 hB1.size; have hK2 := below_call hK1 hb2 hK1.size; obtain ⟨_, e0, e1, e2, e3, e4, e5, e6⟩ := HasB.seven (n1.below hb2 n1.lt); obtain ⟨_, g0, g1, g2, g3, g4, g5, g6⟩ := HasB.seven (h1.below hK2 h1.lt); obtain ⟨p0, p1, p2, p3, p4, p5, p6⟩ := HasB.free7 (h1.below hK2 h1.lt))
              | (refine (Ha.out z c _ (by assumption) hr HC.1).mono ?_; rintro e w3 ⟨rfl, hb3⟩; rw [hah]; have hB3 := below_call hB2 hb3 hB2.size; have hK3 := below_call hK2 hb3 hK2.size; have n3 := (n1.below hb2 n1.lt).below hb3 (n1.below hb2 n1.lt).lt; obtain ⟨_, i0, i1, i2, i3, i4, i5, i6⟩ := HasB.seven n3; obtain ⟨_, j0, j1, j2, j3, j4, j5, j6⟩ := HasB.seven (h1.below hK3 h1.lt); obtain ⟨q0, q1, q2, q3, q4, q5, q6⟩ := HasB.free7 (h1.below hK3 h1.lt)))
              all_goals
                go_roundw
                case rel => exact ⟨k + 1, hlt, by go_num, by rw [HS.out]; simp [bestStep, hah], hB3, h0.below hK3 h0.lt, by rw [HS.out, show bestStep may ahead (some c) z = some c from by simp [bestStep, hah]]; exact h1.below hK3 h1.lt⟩
                case measure => simp [intOf]; omega
            · go_wp2_with (first
              | (go_at_call 37; refine (right_any z _).mono ?_; rintro e w1 ⟨rfl, hb1⟩; rw [hr]; have hB1 := below_call (below_new hb hb.size _) hb1 (by simp; omega); have hK1 := below_call (below_new (Below.refl wr.heap.size wr) (Nat.le_refl _) _) hb1 (by simp); have n1 := (HasB.new wr _ _).below hb1 (by simp); obtain ⟨_, d0, d1, d2, d3, d4, d5, d6⟩ := HasB.seven n1)
              | (refine (Hm.out z _ (by assumption)).mono ?_; rintro e w2 ⟨rfl, hb2⟩; rw [hma]; have hB2 := below_call hB1 hb2 hB1.size; have hK2 := below_call hK1 hb2 hK1.size; obtain ⟨_, e0, e1, e2, e3, e4, e5, e6⟩ := HasB.seven (n1.below hb2 n1.lt); obtain ⟨_, g0, g1, g2, g3, g4, g5, g6⟩ := HasB.seven (h1.below hK2 h1.lt); obtain ⟨p0, p1, p2, p3, p4, p5, p6⟩ := HasB.free7 (h1.below hK2 h1.lt))
              | (refine (Ha.out z c _ (by assumption) hr HC.1).mono ?_; rintro e w3 ⟨rfl, hb3⟩; rw [hah]; have hB3 := below_call hB2 hb3 hB2.size; have hK3 := below_call hK2 hb3 hK2.size; have n3 := (n1.below hb2 n1.lt).below hb3 (n1.below hb2 n1.lt).lt; obtain ⟨_, i0, i1, i2, i3, i4, i5, i6⟩ := HasB.seven n3; obtain ⟨_, j0, j1, j2, j3, j4, j5, j6⟩ := HasB.seven (h1.below hK3 h1.lt); obtain ⟨q0, q1, q2, q3, q4, q5, q6⟩ := HasB.free7 (h1.below hK3 h1.lt)))
              all_goals
                go_roundw
                case rel => exact ⟨k + 1, hlt, by go_num, by rw [HS.out]; simp [bestStep, hr, hma, hah], below_set7 hB3 (by omega) .., HasB.set7_other (h0.below hK3 h0.lt) (by omega) .., by rw [HS.out, show bestStep may ahead (some c) z = some z from by simp [bestStep, hr, hma, hah]]; exact HasB.set7 (h1.below hK3 h1.lt) ..⟩
                case measure => simp [intOf]; omega
    · have hke : k = len := by omega
      subst hke
      rw [List.take_of_length_le (by omega)] at h1
      have hto : (l.take k) = l := List.take_of_length_le (by omega)
      rw [hto]
      clear hto hmay hahead
      obtain ⟨o, HO⟩ : ∃ o, Hid (o = bestOf may ahead l) := ⟨_, Lib.hid rfl⟩
      rw [← HO.out] at h1 ⊢
      obtain ⟨x0, f0, f1, f2, f3, f4, f5, f6⟩ := HasB.seven h1
      obtain ⟨x1, g0, g1, g2, g3, g4, g5, g6⟩ := HasB.seven h0
      obtain ⟨p0, p1, p2, p3, p4, p5, p6⟩ := HasB.free7 h0
      go_wp2_with fail
      have hw := HasB.seven (HasB.set7 h0 (.int .i64 (o.getD Blk.zero).n) (.int .i64 (o.getD Blk.zero).live) (.int .i64 (o.getD Blk.zero).pages) (.int .i64 (o.getD Blk.zero).worn) (.bool (o.getD Blk.zero).op) (.bool (o.getD Blk.zero).one) (.bool (o.getD Blk.zero).bad))
      unfold set7 at hw
      obtain ⟨_, y0, y1, y2, y3, y4, y5, y6⟩ := hw
      refine bodyPost_ret (v := .tuple #[(o.getD Blk.zero).val, .bool o.isSome]) (by simp [results, Try.results95, go_sem, y0, y1, y2, y3, y4, y5, y6, Blk.val]) rfl ⟨by rw [← HO.out], ?_⟩
      exact below_set7 hb (Nat.le_refl _) ..

end Go.Proofs.Ytjadkfgkidejbaa
