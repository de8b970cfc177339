/- locketlaw8.of: the same blocks as the reference's. -/
import Derived.Test.YtjadkfgkidejbaaWearJ
import Derived.Maps.AppendAt
namespace Go.Proofs.Ytjadkfgkidejbaa
open Go.RowKit
set_option linter.unusedVariables false

/-- Blocks as values, seven a block. -/
def blkVs (l : List Blk) : List Value := l.flatMap Blk.cells
theorem blkVs_len (l : List Blk) : (blkVs l).length = l.length * 7 := by
  induction l with
  | nil => rfl
  | cons b r ih => rw [blkVs, List.flatMap_cons, List.length_append, List.length_cons]; have : (r.flatMap Blk.cells).length = r.length * 7 := ih; rw [this]; simp [Blk.cells]; omega
theorem blkVs_at : ∀ (l : List Blk) (i : Nat) (x : Blk), l[i]? = some x → ∀ j, j < 7 → (blkVs l)[i * 7 + j]? = x.cells[j]?
  | [], i, x, h, _, _ => by simp at h
  | b :: r, 0, x, h, j, hj => by
    simp at h
    subst h
    rw [blkVs, List.flatMap_cons, List.getElem?_append_left (by simp [Blk.cells]; omega)]
    simp
  | b :: r, i + 1, x, h, j, hj => by
    simp at h
    rw [blkVs, List.flatMap_cons, List.getElem?_append_right (by simp [Blk.cells]; omega)]
    have := blkVs_at r i x h j hj
    rw [← this]
    congr 1
    simp [Blk.cells]
    omega
theorem blkVs_snoc (l : List Blk) (k : Nat) (z : Blk) (h : l[k]? = some z) : blkVs (l.take (k + 1)) = blkVs (l.take k) ++ z.cells := by
  have hk : k < l.length := (List.getElem?_eq_some_iff.1 h).1
  rw [List.take_succ_eq_append_getElem hk, (List.getElem?_eq_some_iff.1 h).2]
  simp [blkVs]

theorem rws_of_own {w : World} {base : Nat} {e : TypeId} {v : Value} {n : Nat} {l : List Blk} (h : w.ownsRow base e 7 v n (blkVs l)) : ∃ a cap, v = .slice a n cap ∧ Rws 7 Blk.cells w a n l := by
  have hn : l.length = n := by
    have := h.1
    rw [blkVs_len] at this
    omega
  rcases h.2 with ⟨rfl, rfl⟩ | ⟨g, cap, cur, rfl, hrest⟩
  · exact ⟨none, 0, rfl, hn, fun h0 => by omega⟩
  · refine ⟨some ⟨g, 0, none⟩, cap, rfl, hn, fun h0 => ⟨g, 0, rfl, (h.lt g rfl).2, fun i x hx j hj => ?_⟩⟩
    have hi : i < l.length := (List.getElem?_eq_some_iff.1 hx).1
    have hlen : i * 7 + j < (blkVs l).length := by rw [blkVs_len]; omega
    rw [Nat.zero_add, h.cellAt (i * 7 + j) (by omega)]
    exact blkVs_at l i x hx j hj

def OfAt (w : World) (len : Nat) (l : List Blk) (e : Ending) : Prop := ∃ a cap, e = .returned (.slice a len cap) ∧ Rws 7 Blk.cells w a len l

set_option maxRecDepth 100000 in
set_option maxHeartbeats 4000000 in
theorem of_any (a : Option Addr) (len cap : Nat) (l : List Blk) (W : World) (hm : len ≤ 200) (hl : Rws 7 Blk.cells W a len l) :
    Calls Try.prog 28 #[.slice a len cap] W fun e w' => OfAt w' len l e ∧ Below W.heap.size W w' := by
  have hll := hl.1
  obtain ⟨i0, hi0, hz0, hs0, hb0⟩ : ∃ i, Try.prog.info? 59 = some i ∧ i.zero = some (.agg #[.int .i64 0, .int .i64 0, .int .i64 0, .int .i64 0, .bool false, .bool false, .bool false]) ∧ i.size = 7 ∧ i.bytes = 40 := ⟨_, rfl, rfl, rfl, rfl⟩
  have HI := Lib.hid hi0
  have HZ := Lib.hid hz0
  have HS := Lib.hid hs0
  have HB := Lib.hid hb0
  clear hi0 hz0 hs0 hb0
  go_enter Try.func28, Try.ntmps28
  go_wp2_with fail
  go_loopw [3, 4] (fun v i wr => ∃ k : Nat, k ≤ len ∧ i = .int .i64 k ∧ wr.ownsRow W.heap.size 59 7 v k (blkVs (l.take k)) ∧ Below W.heap.size W wr) (fun _ i _ => len - (intOf i).toNat)
  case atStart => exact ⟨0, Nat.zero_le _, rfl, ⟨by simp [blkVs], Or.inl ⟨rfl, rfl⟩⟩, Below.refl _ _⟩
  case round =>
    obtain ⟨k, hk, rfl, hown, hb⟩ := hrel
    obtain ⟨wo, rfl⟩ : ∃ wo : World, wo = wr := ⟨_, rfl⟩
    by_cases hlt : k < len
    · obtain ⟨bb, off, rfl, hlt2, hc⟩ := hl.2 (by omega)
      have hx : l[k]? = some l[k] := List.getElem?_eq_getElem (by omega)
      obtain ⟨z, HZz⟩ : ∃ z, Hid (z = l[k]) := ⟨_, Lib.hid rfl⟩
      rw [← HZz.out] at hx
      obtain ⟨hlt3, hc0, hc1, hc2, hc3, hc4, hc5, hc6⟩ := Blk.sevenAt hl hb hlt hx
      have hbz := hb.size
      have HSN := Lib.hid (blkVs_snoc l k z hx)
      have HO := Lib.hid hown
      clear hc hown
      go_wp2_with (first | (at_builtin; refine Stop.mk ?_) | (at_make; refine Stop.mk ?_))
      refine Stop.go ?_
      refine wpList_append_own_at _ rfl _ _ 43 rfl W.heap.size 59 i0 _ 7 40 Try.underlying43 HI.out HZ.out HS.out HB.out rfl (by omega) u3 k (blkVs (l.take k)) rfl ((HO.out.alloc _).alloc _) ⟨wo.heap.size + 1, 0, none⟩ 1 1 z.cells rfl rfl ?_ ?_ (by unfold maxLen; omega) (by omega) (by simp; omega) ?_
      · intro j u hj
        have hn : HasB ((wo.alloc (.cells #[.int .i64 z.n, .int .i64 z.live, .int .i64 z.pages, .int .i64 z.worn, .bool z.op, .bool z.one, .bool z.bad] 57)).alloc (.cells #[.int .i64 z.n, .int .i64 z.live, .int .i64 z.pages, .int .i64 z.worn, .bool z.op, .bool z.one, .bool z.bad] 59)) (wo.heap.size + 1) #[.int .i64 z.n, .int .i64 z.live, .int .i64 z.pages, .int .i64 z.worn, .bool z.op, .bool z.one, .bool z.bad] 59 := HasB.new' (by simp) _ _
        have := hn.at j
        rw [Go.WideShapes.add_plain, Nat.zero_add]
        refine this.trans ?_
        rw [← hj]
        simp [Blk.cells]
      · simp [Blk.cells, Value.oneCell']
      intro v' w3 hown3 hgrow3 _ hat3
      have hb3 : Below W.heap.size W w3 := ((hb.alloc hbz _).alloc (by simp; omega) _).grown hgrow3 (by simp; omega) (fun q hq => (HO.out.lt q hq).1)
      rw [← HSN.out] at hown3
      have HO3 := Lib.hid hown3
      clear hown3 hgrow3 hat3
      go_wp2
      go_roundw
      case rel => exact ⟨k + 1, hlt, by go_num, HO3.out, hb3⟩
      case measure => simp [intOf]; omega
    · obtain rfl : k = len := by omega
      rw [List.take_of_length_le (show l.length ≤ k by omega)] at hown
      obtain ⟨a', cap', rfl, hr⟩ := rws_of_own hown
      clear hown
      go_wp2
      go_ret
      exact ⟨⟨a', cap', rfl, hr⟩, hb⟩

end Go.Proofs.Ytjadkfgkidejbaa
